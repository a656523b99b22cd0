/- along where its arguments are right: the program's text. -/
import Derived.Test.YtmipjhnjlpmidaaAlongI
namespace Go.Proofs.Ytmipjhnjlpmidaa
open Go.RowKit Go.ChangeShapes Go.WideShapes
set_option linter.unusedVariables false
set_option linter.unusedSimpArgs false

theorem auto_B (a : Al) (k : Nat) (w W0 wr : World) (bu be : Nat) (A : Option Addr) (ce : Nat) (h : AlSt w W0 bu be A ce a.ex (autosTo a.L k) wr) (p : AlPl w W0 bu be A) (hn : a.ex.length ≤ 1048576) (hu : k ≤ 12) :
    Calls Try.prog 106 #[.bool ((rec_ a.L k).b 7), .pointer (some ⟨bu, 0, none⟩), .pointer (some ⟨be, 0, none⟩)] wr fun r w' => r = .returned (.int .i64 (a.addB k)) ∧ AlSt w W0 bu be A ce a.ex (a.mid k) w' ∧ wr.grownBy w' (some bu) := by
  have := autosTo_bd a.L k
  exact auto_c _ w W0 wr bu be A ce a.ex _ h p hn (by omega)
theorem auto_E (a : Al) (k : Nat) (w W0 wr : World) (bu be : Nat) (A : Option Addr) (ce : Nat) (h : AlSt w W0 bu be A ce a.ex (a.mid k) wr) (p : AlPl w W0 bu be A) (hn : a.ex.length ≤ 1048576) (hu : k ≤ 12) :
    Calls Try.prog 106 #[.bool ((rec_ a.L k).b 8), .pointer (some ⟨bu, 0, none⟩), .pointer (some ⟨be, 0, none⟩)] wr fun r w' => r = .returned (.int .i64 (a.addE k)) ∧ AlSt w W0 bu be A ce a.ex (autosTo a.L (k + 1)) w' ∧ wr.grownBy w' (some bu) := by
  have := autosTo_bd a.L k
  have hm : 0 ≤ a.mid k ∧ a.mid k ≤ 1048576 := by unfold Al.mid; split <;> omega
  have e : a.mid k + (if (rec_ a.L k).b 8 = true then 1 else 0) = autosTo a.L (k + 1) := rfl
  refine (auto_c _ w W0 wr bu be A ce a.ex _ h p hn hm).mono ?_
  rintro r w' ⟨rfl, h1, h2⟩
  exact ⟨rfl, by rw [← e]; exact h1, h2⟩
theorem own_far {w w' : World} {base n size : Nat} {e : TypeId} {v : Value} {xs : List Value} {b : Nat} (ho : w.ownsRow base e size v n xs) (hg : w.grownBy w' (some b)) (hb : b < base) : w'.ownsRow base e size v n xs :=
  ho.kept hg (by
    cases hv : v.ownBlock with
    | none => exact .inl rfl
    | some q =>
      right
      intro e
      injection e with e
      have := (ho.lt q hv).1
      omega)

set_option maxRecDepth 100000 in
set_option maxHeartbeats 8000000 in
theorem along_go (a : Al) (justify : Int) (A0 : Option Addr) (c : Nat) (B0 : Option Addr) (d : Nat) (inner : Int) (w : World) (h : Recs w A0 k_item a.L) (hz : Ints w B0 a.zs) (HOK : Hid (alongOk a.L a.zs a.gap inner = true)) (HA : Hid (alOf a.L a.zs a.gap inner justify = a)) :
    Calls Try.prog 78 #[.slice A0 a.L.length c, .slice B0 a.zs.length d, .int .i64 a.gap, .int .i64 inner, .int .i64 justify] w (AlongRet w a.L a.zs a.gap inner justify) := by
  obtain ⟨p1, p2, p3, p4, p5, p6, p7⟩ := along_parts HOK.out
  have q3 : inB a.gap 0 1048576 = true := inB_iff.2 p3
  have q4 : inB inner 0 1048576 = true := inB_iff.2 p4
  have hne : ((a.zs.length : Int) != (a.L.length : Int)) = false := by simp [p2]
  have HZL := Lib.hid p2
  have HP5 := Lib.hid p5
  have HP6 := Lib.hid p6
  have hzl : a.zs.length ≤ 12 := by omega
  have HAT : Hid (∀ k : Nat, k ≤ a.L.length → -2097152 - 33554432 * (k : Int) ≤ a.at_ k ∧ a.at_ k ≤ 2097152 + 33554432 * (k : Int)) := hid' (by have := Al.at_bd (justify := justify) HOK.out; rw [HA.out] at this; exact this)
  have HADD : Hid (∀ k : Nat, (-2097152 ≤ a.addB k ∧ a.addB k ≤ 2097152) ∧ (-2097152 ≤ a.addE k ∧ a.addE k ≤ 2097152)) := hid' (fun k => by have := Al.add_bd (L := a.L) (zs := a.zs) (gap := a.gap) (inner := inner) (justify := justify) k; rw [HA.out] at this; exact this)
  have HRET : Hid (∀ (v : Value) (w' : World), w'.ownsRow w.heap.size 3 1 v a.L.length (VI (a.starts a.L.length)) → Bel w w' → AlongRet w a.L a.zs a.gap inner justify (.returned (.tuple #[v, .int .i64 (a.at_ a.L.length), .bool true])) w') := hid' (fun v w' h1 h2 => by
    obtain ⟨e1, e2⟩ := along_yes justify HOK.out
    rw [HA.out] at e1 e2
    refine ⟨v, by rw [e2, HOK.out], ?_, h2⟩
    rw [e1, Al.starts_length]
    exact h1)
  clear p2 p5 p6
  go_enter Try.func78, Try.ntmps78
  go_wp2_with (first | (go_at_call 93; refine (iItemsOk_c _ _ _ _ h (by omega)).mono ?_; rintro e w1 ⟨rfl, hb1⟩) | (go_at_call 68; refine (in_c _ _ _ _).mono ?_; rintro e w' ⟨rfl, rfl⟩))
  clear p7 q3 q4 hne
  go_loopw [46] (fun i wr => ∃ (k : Nat), k ≤ a.zs.length ∧ i = .int .i64 k ∧ Bel w wr) (fun i _ => a.zs.length - (intOf i).toNat)
  case atStart => exact ⟨0, Nat.zero_le _, by go_num, hb1⟩
  case round =>
    obtain ⟨k0, hk0, rfl, hb0⟩ := hrel
    by_cases hlt0 : k0 < a.zs.length
    · obtain ⟨b, o, rfl, hbl, hc⟩ := hz k0 hlt0
      have hcA : wr.cell? ⟨b, o + k0, none⟩ = some (.int .i64 (at_ a.zs k0)) := (hb0.cell _ _ hbl).trans (hc k0 hlt0)
      clear hc
      have he : inB (at_ a.zs k0) 0 1048576 = true := inB_iff.2 (HP5.out k0 hlt0)
      go_wp2_with ((go_at_call 68; refine (in_c _ _ _ _).mono ?_; rintro e w' ⟨rfl, rfl⟩))
      go_roundw
      case rel => exact ⟨k0 + 1, by omega, by go_num, hb0⟩
      case measure => simp [intOf]; omega
    · obtain rfl : k0 = a.zs.length := by omega
      go_wp2_with fail
      refine (iOuterOf_c _ _ _ _ _ _ _ _ (h.keep hb0) (hz.keep hb0) (by omega) (by omega)).mono ?_; rintro e w2 ⟨rfl, hb2⟩
      have hbd := signed_bd (wrap64 (inner - outerOf a.L a.zs a.gap))
      have hfree : alFree a.L a.zs a.gap inner = signed (wrap64 (inner - outerOf a.L a.zs a.gap)) := rfl
      obtain ⟨free, hf⟩ : ∃ f, signed (wrap64 (inner - outerOf a.L a.zs a.gap)) = f := ⟨_, rfl⟩
      rw [hf] at hfree hbd
      have HF := Lib.hid hf
      go_wp2_with fail
      refine (isigned_c _ _).mono ?_; rintro e w' ⟨rfl, rfl⟩
      rw [hf]
      clear hf
      have hb02 := hb0.trans hb2
      go_wp2_with fail
      refine (iAutosIn_c _ _ _ _ (h.keep hb02) (by omega)).mono ?_; rintro e w3 ⟨rfl, hb3⟩
      have hau := autosTo_bd a.L a.L.length
      obtain ⟨au, hae⟩ : ∃ au, autosTo a.L a.L.length = au := ⟨_, rfl⟩
      rw [hae] at hau ⊢
      have HEX0 : Hid (a.ex = alEx free au) := hid' ((congrArg Al.ex HA.out).symm.trans (by show alEx _ _ = _; rw [hfree, hae]))
      have HLEAD : Hid (a.lead = if au = 0 then leadOf free a.L.length justify else 0) := hid' ((congrArg Al.lead HA.out).symm.trans (by show (if _ then _ else _) = _; rw [hfree, hae]))
      have HSP : Hid (∀ k : Nat, a.sp k = if au = 0 then between free a.L.length justify k else 0) := hid' (fun k => (congrFun (congrArg Al.sp HA.out) k).symm.trans (by show (if _ then _ else _) = _; rw [hfree, hae]))
      clear hfree hae
      have hbw3 : Bel w w3 := hb02.trans hb3
      have hws := hbw3.sz
      obtain ⟨wo, rfl⟩ : ∃ wo : World, wo = wr := ⟨_, rfl⟩
      by_cases h0 : au ≤ 0
      · have h00 : 0 ≤ au := hau.1
        have HEX1 : Hid (a.ex = []) := hid' (by rw [HEX0.out, alEx, if_neg (by omega)])
        have HEX : Hid (a.ex.length ≤ 1048576) := hid' (by rw [HEX1.out]; simp)
        have HLE : Hid (a.lead = leadOf free a.L.length justify) := hid' (by rw [HLEAD.out, if_pos (by omega)])
        go_wp2_with fail
        refine (iLeadOf_c _ _ _ _ (by omega)).mono ?_; rintro e w5 ⟨rfl, hb5⟩
        have hz5 := hb5.sz
        simp at hz5
        have P : AlPl w w5 (w3.heap.size + 1) w3.heap.size none := ⟨by omega, by omega, by omega, by omega, fun _ _ h => by cases h⟩
        have hst0 : AlSt w w5 (w3.heap.size + 1) w3.heap.size none 0 a.ex (autosTo a.L 0) w5 := ⟨((hbw3.alloc _).alloc _).trans hb5, Nat.le_refl _, (hb5.cell _ _ (by simp)).trans (by simp [autosTo]), (hb5.frozen _ _ (by simp)).trans (by simp), (hb5.cell _ _ (by simp; omega)).trans (by rw [HEX1.out]; simp), by rw [HEX1.out]; exact Ints.nil _ _⟩
        go_wp2_with fail
        go_loopw [20, 21, 82] (fun q v i wr => ∃ (k : Nat), k ≤ a.L.length ∧ i = .int .i64 k ∧ q = .int .i64 (a.at_ k) ∧ wr.ownsRow (w5).heap.size 3 1 v k (VI (a.starts k)) ∧ AlSt w (w5) (w3.heap.size + 1) w3.heap.size none 0 a.ex (autosTo a.L k) wr) (fun _ _ i _ => a.L.length - (intOf i).toNat)
        case atStart => exact ⟨0, Nat.zero_le _, by go_num, by (show _ = Value.int .i64 a.lead; rw [HLE.out]), ⟨rfl, .inl ⟨rfl, rfl⟩⟩, hst0⟩
        case round =>
          obtain ⟨k, hk, rfl, rfl, ho, hst⟩ := hrel
          by_cases hlt : k < a.L.length
          · have hb := hst.1
            have hsz := hst.2.1
            obtain ⟨b, o, rfl, hbl, hc⟩ := h k hlt
            obtain ⟨x0, x1, x2, x3, x4, x5, x6, x7, x8⟩ := item_cells hc hlt
            have d0 := (hb.cell _ _ hbl).trans x0
            have d1 := (hb.cell _ _ hbl).trans x1
            have d2 := (hb.cell _ _ hbl).trans x2
            have d3 := (hb.cell _ _ hbl).trans x3
            have d4 := (hb.cell _ _ hbl).trans x4
            have d5 := (hb.cell _ _ hbl).trans x5
            have d6 := (hb.cell _ _ hbl).trans x6
            have d7 := (hb.cell _ _ hbl).trans x7
            have d8 := (hb.cell _ _ hbl).trans x8
            clear hc x0 x1 x2 x3 x4 x5 x6 x7 x8
            have hltz : k < a.zs.length := by have := HZL.out; omega
            obtain ⟨bz, oz, rfl, hblz, hcz⟩ := hz k hltz
            have hcZ := hcz k hltz
            clear hcz
            have hlti : (k : Int) < (a.zs.length : Int) := by omega
            have b1 := HAT.out k hk
            have b2 := HADD.out k
            have b3 := HP5.out k hltz
            have b4 := HP6.out k hlt
            have HS : Hid (a.at_ (k + 1) = a.at_ k + ((rec_ a.L k).s 5 + a.addB k) + (at_ a.zs k + (rec_ a.L k).s 6 + a.addE k) + (if k + 1 < a.L.length then a.gap + a.sp k else 0)) := hid' rfl
            have hnb : wr.heap.size ≠ (w3.heap.size + 1) := by have := P.u1; omega
            have hst1 := (hst.bel P ((Bel.refl wr).alloc (.cells #[.int .i64 ((rec_ a.L k).s 0), .int .i64 ((rec_ a.L k).s 1), .int .i64 ((rec_ a.L k).s 2), .int .i64 ((rec_ a.L k).s 3), .int .i64 ((rec_ a.L k).s 4), .int .i64 ((rec_ a.L k).s 5), .int .i64 ((rec_ a.L k).s 6), .bool ((rec_ a.L k).b 7), .bool ((rec_ a.L k).b 8)] 48))).bel P ((Bel.refl _).drew)
            have ho1 := own_keep (ho.alloc (.cells #[.int .i64 ((rec_ a.L k).s 0), .int .i64 ((rec_ a.L k).s 1), .int .i64 ((rec_ a.L k).s 2), .int .i64 ((rec_ a.L k).s 3), .int .i64 ((rec_ a.L k).s 4), .int .i64 ((rec_ a.L k).s 5), .int .i64 ((rec_ a.L k).s 6), .bool ((rec_ a.L k).b 7), .bool ((rec_ a.L k).b 8)] 48)) ((Bel.refl _).drew)
            have HST := Lib.hid hst1
            have HO1 := Lib.hid ho1
            have HOV := Lib.hid ho
            clear hst hst1 ho1 ho
            go_wp2_with fail
            have v1 : IntKind.i64.wrap ((rec_ a.L k).s 5 + a.addB k) = (rec_ a.L k).s 5 + a.addB k := IntWalk.i64_in _ (by omega)
            have v2 : IntKind.i64.wrap (a.at_ k + ((rec_ a.L k).s 5 + a.addB k)) = a.at_ k + ((rec_ a.L k).s 5 + a.addB k) := IntWalk.i64_in _ (by omega)
            go_region_held3 (fun u => u.cell? ⟨wr.heap.size, 5, none⟩ = some (.int .i64 ((rec_ a.L k).s 5)) ∧ u.cell? ⟨wr.heap.size, 7, none⟩ = some (.bool ((rec_ a.L k).b 7)))
              ((first | exact ⟨y5, y7⟩ | exact ⟨by simp, by simp⟩))
              (first | (go_at_call 106; refine (auto_B a k w w5 _ (w3.heap.size + 1) w3.heap.size none 0 HST.out P HEX.out (by omega)).mono ?_; rintro e w1 ⟨rfl, hst2, hg2⟩; have y5 : w1.cell? ⟨wr.heap.size, 5, none⟩ = some (.int .i64 ((rec_ a.L k).s 5)) := hg2.cell (a := ⟨wr.heap.size, 5, none⟩) (by simp) (by simpa using hnb); have y7 : w1.cell? ⟨wr.heap.size, 7, none⟩ = some (.bool ((rec_ a.L k).b 7)) := hg2.cell (a := ⟨wr.heap.size, 7, none⟩) (by simp) (by simpa using hnb)))
            have y6 : w1.cell? ⟨wr.heap.size, 6, none⟩ = some (.int .i64 ((rec_ a.L k).s 6)) := hg2.cell (a := ⟨wr.heap.size, 6, none⟩) (by simp) (by simpa using hnb)
            have y8 : w1.cell? ⟨wr.heap.size, 8, none⟩ = some (.bool ((rec_ a.L k).b 8)) := hg2.cell (a := ⟨wr.heap.size, 8, none⟩) (by simp) (by simpa using hnb)
            have hxl : wr.heap.size < w1.heap.size := by have := hg2.size; simp at this; omega
            have ho2 := own_far HO1.out hg2 P.u1
            have hs1 := hst2.2.1
            clear v1 v2 y5 y7
            have HST2 := Lib.hid hst2
            clear hst2
            go_wp2_with (at_builtin; refine app1w rfl (.tmp 96) (.tmp 98) rfl (w5).heap.size _ k _ rfl (ho2.alloc _) w1.heap.size _ rfl (World.cell?_alloc_new _ _ _ _) (by omega) (by have := hs1; (try simp at this); simp; omega) ?_; intro v' w2 ho3 hg3 hloc)
            have hst3 := (HST2.out.bel P ((Bel.refl w1).alloc _)).app P (ho2.alloc _) hg3
            have hnv : some wr.heap.size ≠ _ := fun e => by have := (HOV.out.lt wr.heap.size e.symm).2; omega
            have z6 : w2.cell? ⟨wr.heap.size, 6, none⟩ = some (.int .i64 ((rec_ a.L k).s 6)) := hg3.cell (a := ⟨wr.heap.size, 6, none⟩) ((((Bel.refl w1).alloc _).cell _ _ hxl).trans y6) hnv
            have z8 : w2.cell? ⟨wr.heap.size, 8, none⟩ = some (.bool ((rec_ a.L k).b 8)) := hg3.cell (a := ⟨wr.heap.size, 8, none⟩) ((((Bel.refl w1).alloc _).cell _ _ hxl).trans y8) hnv
            have hzc : w2.cell? ⟨bz, oz + k, none⟩ = some (.int .i64 (at_ a.zs k)) := (hst3.1.cell _ _ hblz).trans hcZ
            have hst4 := hst3.bel P ((Bel.refl w2).drew)
            have ho4 := own_keep ho3 ((Bel.refl w2).drew)
            have hblz2 : bz < w.heap.size := hblz
            have hs2 := hst3.2.1
            have hxl2 : wr.heap.size < w2.heap.size := by have := hg3.size; simp at this; omega
            have hbz := hst3.1.sz
            have HST4 := Lib.hid hst4
            have HO4 := Lib.hid ho4
            clear y6 y8 hst3 hst4 ho4 ho3 ho2 hg3
            go_wp2_with fail
            have v1 : IntKind.i64.wrap (at_ a.zs k + (rec_ a.L k).s 6) = at_ a.zs k + (rec_ a.L k).s 6 := IntWalk.i64_in _ (by omega)
            have v2 : IntKind.i64.wrap (at_ a.zs k + (rec_ a.L k).s 6 + a.addE k) = at_ a.zs k + (rec_ a.L k).s 6 + a.addE k := IntWalk.i64_in _ (by omega)
            have v3 : IntKind.i64.wrap (a.at_ k + ((rec_ a.L k).s 5 + a.addB k) + (at_ a.zs k + (rec_ a.L k).s 6 + a.addE k)) = a.at_ k + ((rec_ a.L k).s 5 + a.addB k) + (at_ a.zs k + (rec_ a.L k).s 6 + a.addE k) := IntWalk.i64_in _ (by omega)
            go_region_held3 (fun u => u.cell? ⟨wr.heap.size, 6, none⟩ = some (.int .i64 ((rec_ a.L k).s 6)) ∧ u.cell? ⟨wr.heap.size, 8, none⟩ = some (.bool ((rec_ a.L k).b 8)) ∧ u.cell? ⟨bz, oz + k, none⟩ = some (.int .i64 (at_ a.zs k)))
              ((first | exact ⟨y6, y8, yz⟩ | exact ⟨z6, z8, hzc⟩))
              (first | (go_at_call 106; refine (auto_E a k w w5 _ (w3.heap.size + 1) w3.heap.size none 0 HST4.out P HEX.out (by omega)).mono ?_; rintro e w3 ⟨rfl, hst5, hg5⟩; have y6 : w3.cell? ⟨wr.heap.size, 6, none⟩ = some (.int .i64 ((rec_ a.L k).s 6)) := hg5.cell (a := ⟨wr.heap.size, 6, none⟩) z6 (by simpa using hnb); have y8 : w3.cell? ⟨wr.heap.size, 8, none⟩ = some (.bool ((rec_ a.L k).b 8)) := hg5.cell (a := ⟨wr.heap.size, 8, none⟩) z8 (by simpa using hnb); have yz : w3.cell? ⟨bz, oz + k, none⟩ = some (.int .i64 (at_ a.zs k)) := hg5.cell (a := ⟨bz, oz + k, none⟩) hzc (by have := P.u0; simp; omega)))
            have ho5 := own_far HO4.out hg5 P.u1
            clear v1 v2 v3 y6 y8 yz
            have HST5 := Lib.hid hst5
            have HO5 := Lib.hid ho5
            clear hst5 ho5 hg5 hg2
            by_cases hlast : k + 1 < a.L.length
            · have HV : Hid (a.at_ (k + 1) = a.at_ k + ((rec_ a.L k).s 5 + a.addB k) + (at_ a.zs k + (rec_ a.L k).s 6 + a.addE k) + (a.gap + a.sp k)) := hid' (by rw [HS.out, if_pos hlast])
              have HSPk : Hid (a.sp k = between free a.L.length justify k) := hid' (by rw [HSP.out k, if_pos (by omega)])
              have b5 := between_bd free a.L.length justify k
              go_wp2_with fail
              refine (betweenOf_c _ _ _ _ _ ⟨by omega, by omega⟩ hlt).mono ?_; rintro e w4 ⟨rfl, hb4⟩
              go_wp2_with fail
              go_roundw
              case rel => exact ⟨k + 1, by omega, by go_num, by (rw [HV.out, HSPk.out]; refine congrArg (Value.int .i64) ?_; omega), by rw [a.starts_succ, ← VI_snoc]; exact own_keep HO5.out hb4, HST5.out.bel P hb4⟩
              case measure => simp [intOf]; omega
            · have HV : Hid (a.at_ (k + 1) = a.at_ k + ((rec_ a.L k).s 5 + a.addB k) + (at_ a.zs k + (rec_ a.L k).s 6 + a.addE k)) := hid' (by rw [HS.out, if_neg hlast]; omega)
              go_wp2_with fail
              go_roundw
              case rel => exact ⟨k + 1, by omega, by go_num, by rw [HV.out], by rw [a.starts_succ, ← VI_snoc]; exact HO5.out, HST5.out⟩
              case measure => simp [intOf]; omega
          · obtain rfl : k = a.L.length := by omega
            have hb := hst.1
            have hsz := hst.2.1
            have ho' := own_base ho (Nat.le_trans P.u0 (Nat.le_of_lt P.u1))
            go_wp2_with fail
            go_ret3
            exact HRET.out _ _ ho' hb
      · by_cases hfp : 0 < free
        · have HEX1 : Hid (a.ex = evenly free au) := hid' (by rw [HEX0.out, alEx, if_pos ⟨by omega, hfp⟩])
          have HLE : Hid (a.lead = 0) := hid' (by rw [HLEAD.out, if_neg (by omega)])
          have HEX : Hid (a.ex.length ≤ 1048576) := hid' (by rw [HEX1.out, evenly_length (inB_iff.2 ⟨by omega, by omega⟩)]; omega)
          have hapos : 0 < au := by omega
          have hauz : (au == (0 : Int)) = false := by simp; omega
          clear h0
          go_wp2_with fail
          refine (iEvenly_c _ _ _).mono ?_; rintro e w4 ⟨v, rfl, hev, hb4⟩
          have hv2 := hev
          rw [← HEX1.out] at hev
          obtain ⟨Ae, ce, rfl, -, -, -, hIe⟩ := own_open hev
          have hcE : w4.cell? ⟨w3.heap.size, 0, none⟩ = some (.slice none 0 0) := (hb4.cell _ _ (by simp)).trans (by simp)
          have hfE : w4.frozen? ⟨w3.heap.size, 0, none⟩ = false := (hb4.frozen _ _ (by simp)).trans (by simp)
          have hz4 : w3.heap.size + 1 ≤ w4.heap.size := by have := hb4.sz; simpa using this
          have hbase : w3.heap.size < (w3.alloc (.cells #[.slice none 0 0] 29)).heap.size := by simp
          have HEV := Lib.hid ((ownsRow_setCell_below (a := ⟨w3.heap.size, 0, none⟩) hev (by simp) (.slice Ae a.ex.length ce)).alloc (.cells #[.int .i64 0] 3))
          have P : AlPl w ((w4.setCell ⟨w3.heap.size, 0, none⟩ (.slice Ae a.ex.length ce)).alloc (.cells #[.int .i64 0] 3)) w4.heap.size w3.heap.size Ae := ⟨by omega, by simp, by simp; omega, by omega, fun b o h => by
            subst h
            have := hev.lt b rfl
            simp at this
            exact ⟨by simp; omega, by omega⟩⟩
          have hwe : w4.heap.size = (w4.setCell ⟨w3.heap.size, 0, none⟩ (.slice Ae a.ex.length ce)).heap.size := by simp
          have hst0 : AlSt w ((w4.setCell ⟨w3.heap.size, 0, none⟩ (.slice Ae a.ex.length ce)).alloc (.cells #[.int .i64 0] 3)) w4.heap.size w3.heap.size Ae ce a.ex (autosTo a.L 0) ((w4.setCell ⟨w3.heap.size, 0, none⟩ (.slice Ae a.ex.length ce)).alloc (.cells #[.int .i64 0] 3)) :=
            ⟨((((hbw3.alloc _).trans hb4).setCell (by simpa using hws) _)).alloc _, Nat.le_refl _, by rw [hwe, World.cell?_alloc_new]; simp [autosTo], by rw [hwe, World.frozen?_alloc_new], by
              rw [Bel.cell ((Bel.refl (w4.setCell ⟨w3.heap.size, 0, none⟩ (.slice Ae a.ex.length ce))).alloc _) _ _ (by simp; omega)]
              apply World.cell?_setCell_same
              exact hcE, own_ints HEV.out⟩
          have HST0 := Lib.hid hst0
          have hex : (evenly free au).length = a.ex.length := by rw [HEX1.out]
          have HHX := Lib.hid hex
          clear hst0 hex hv2 hIe hev hwe
          go_wp2_with fail
          go_loopw [20, 21, 82] (fun q v i wr => ∃ (k : Nat), k ≤ a.L.length ∧ i = .int .i64 k ∧ q = .int .i64 (a.at_ k) ∧ wr.ownsRow ((w4.setCell ⟨w3.heap.size, 0, none⟩ (.slice Ae a.ex.length ce)).alloc (.cells #[.int .i64 0] 3)).heap.size 3 1 v k (VI (a.starts k)) ∧ AlSt w ((w4.setCell ⟨w3.heap.size, 0, none⟩ (.slice Ae a.ex.length ce)).alloc (.cells #[.int .i64 0] 3)) w4.heap.size w3.heap.size Ae ce a.ex (autosTo a.L k) wr) (fun _ _ i _ => a.L.length - (intOf i).toNat)
          case atStart => exact ⟨0, Nat.zero_le _, by go_num, by (show _ = Value.int .i64 a.lead; rw [HLE.out]), ⟨rfl, .inl ⟨rfl, rfl⟩⟩, HST0.out⟩
          case round =>
            obtain ⟨k, hk, rfl, rfl, ho, hst⟩ := hrel
            by_cases hlt : k < a.L.length
            · have hb := hst.1
              have hsz := hst.2.1
              obtain ⟨b, o, rfl, hbl, hc⟩ := h k hlt
              obtain ⟨x0, x1, x2, x3, x4, x5, x6, x7, x8⟩ := item_cells hc hlt
              have d0 := (hb.cell _ _ hbl).trans x0
              have d1 := (hb.cell _ _ hbl).trans x1
              have d2 := (hb.cell _ _ hbl).trans x2
              have d3 := (hb.cell _ _ hbl).trans x3
              have d4 := (hb.cell _ _ hbl).trans x4
              have d5 := (hb.cell _ _ hbl).trans x5
              have d6 := (hb.cell _ _ hbl).trans x6
              have d7 := (hb.cell _ _ hbl).trans x7
              have d8 := (hb.cell _ _ hbl).trans x8
              clear hc x0 x1 x2 x3 x4 x5 x6 x7 x8
              have hltz : k < a.zs.length := by have := HZL.out; omega
              obtain ⟨bz, oz, rfl, hblz, hcz⟩ := hz k hltz
              have hcZ := hcz k hltz
              clear hcz
              have hlti : (k : Int) < (a.zs.length : Int) := by omega
              have b1 := HAT.out k hk
              have b2 := HADD.out k
              have b3 := HP5.out k hltz
              have b4 := HP6.out k hlt
              have HS : Hid (a.at_ (k + 1) = a.at_ k + ((rec_ a.L k).s 5 + a.addB k) + (at_ a.zs k + (rec_ a.L k).s 6 + a.addE k) + (if k + 1 < a.L.length then a.gap + a.sp k else 0)) := hid' rfl
              have hnb : wr.heap.size ≠ w4.heap.size := by have := P.u1; omega
              have hst1 := (hst.bel P ((Bel.refl wr).alloc (.cells #[.int .i64 ((rec_ a.L k).s 0), .int .i64 ((rec_ a.L k).s 1), .int .i64 ((rec_ a.L k).s 2), .int .i64 ((rec_ a.L k).s 3), .int .i64 ((rec_ a.L k).s 4), .int .i64 ((rec_ a.L k).s 5), .int .i64 ((rec_ a.L k).s 6), .bool ((rec_ a.L k).b 7), .bool ((rec_ a.L k).b 8)] 48))).bel P ((Bel.refl _).drew)
              have ho1 := own_keep (ho.alloc (.cells #[.int .i64 ((rec_ a.L k).s 0), .int .i64 ((rec_ a.L k).s 1), .int .i64 ((rec_ a.L k).s 2), .int .i64 ((rec_ a.L k).s 3), .int .i64 ((rec_ a.L k).s 4), .int .i64 ((rec_ a.L k).s 5), .int .i64 ((rec_ a.L k).s 6), .bool ((rec_ a.L k).b 7), .bool ((rec_ a.L k).b 8)] 48)) ((Bel.refl _).drew)
              have HST := Lib.hid hst1
              have HO1 := Lib.hid ho1
              have HOV := Lib.hid ho
              clear hst hst1 ho1 ho
              go_wp2_with fail
              have v1 : IntKind.i64.wrap ((rec_ a.L k).s 5 + a.addB k) = (rec_ a.L k).s 5 + a.addB k := IntWalk.i64_in _ (by omega)
              have v2 : IntKind.i64.wrap (a.at_ k + ((rec_ a.L k).s 5 + a.addB k)) = a.at_ k + ((rec_ a.L k).s 5 + a.addB k) := IntWalk.i64_in _ (by omega)
              go_region_held3 (fun u => u.cell? ⟨wr.heap.size, 5, none⟩ = some (.int .i64 ((rec_ a.L k).s 5)) ∧ u.cell? ⟨wr.heap.size, 7, none⟩ = some (.bool ((rec_ a.L k).b 7)))
                ((first | exact ⟨y5, y7⟩ | exact ⟨by simp, by simp⟩))
                (first | (go_at_call 106; refine (auto_B a k w ((w4.setCell ⟨w3.heap.size, 0, none⟩ (.slice Ae a.ex.length ce)).alloc (.cells #[.int .i64 0] 3)) _ w4.heap.size w3.heap.size Ae ce HST.out P HEX.out (by omega)).mono ?_; rintro e w1 ⟨rfl, hst2, hg2⟩; have y5 : w1.cell? ⟨wr.heap.size, 5, none⟩ = some (.int .i64 ((rec_ a.L k).s 5)) := hg2.cell (a := ⟨wr.heap.size, 5, none⟩) (by simp) (by simpa using hnb); have y7 : w1.cell? ⟨wr.heap.size, 7, none⟩ = some (.bool ((rec_ a.L k).b 7)) := hg2.cell (a := ⟨wr.heap.size, 7, none⟩) (by simp) (by simpa using hnb)))
              have y6 : w1.cell? ⟨wr.heap.size, 6, none⟩ = some (.int .i64 ((rec_ a.L k).s 6)) := hg2.cell (a := ⟨wr.heap.size, 6, none⟩) (by simp) (by simpa using hnb)
              have y8 : w1.cell? ⟨wr.heap.size, 8, none⟩ = some (.bool ((rec_ a.L k).b 8)) := hg2.cell (a := ⟨wr.heap.size, 8, none⟩) (by simp) (by simpa using hnb)
              have hxl : wr.heap.size < w1.heap.size := by have := hg2.size; simp at this; omega
              have ho2 := own_far HO1.out hg2 P.u1
              have hs1 := hst2.2.1
              clear v1 v2 y5 y7
              have HST2 := Lib.hid hst2
              clear hst2
              go_wp2_with (at_builtin; refine app1w rfl (.tmp 96) (.tmp 98) rfl (((w4.setCell ⟨w3.heap.size, 0, none⟩ (.slice Ae a.ex.length ce)).alloc (.cells #[.int .i64 0] 3))).heap.size _ k _ rfl (ho2.alloc _) w1.heap.size _ rfl (World.cell?_alloc_new _ _ _ _) (by omega) (by have := hs1; (try simp at this); simp; omega) ?_; intro v' w2 ho3 hg3 hloc)
              have hst3 := (HST2.out.bel P ((Bel.refl w1).alloc _)).app P (ho2.alloc _) hg3
              have hnv : some wr.heap.size ≠ _ := fun e => by have := (HOV.out.lt wr.heap.size e.symm).2; omega
              have z6 : w2.cell? ⟨wr.heap.size, 6, none⟩ = some (.int .i64 ((rec_ a.L k).s 6)) := hg3.cell (a := ⟨wr.heap.size, 6, none⟩) ((((Bel.refl w1).alloc _).cell _ _ hxl).trans y6) hnv
              have z8 : w2.cell? ⟨wr.heap.size, 8, none⟩ = some (.bool ((rec_ a.L k).b 8)) := hg3.cell (a := ⟨wr.heap.size, 8, none⟩) ((((Bel.refl w1).alloc _).cell _ _ hxl).trans y8) hnv
              have hzc : w2.cell? ⟨bz, oz + k, none⟩ = some (.int .i64 (at_ a.zs k)) := (hst3.1.cell _ _ hblz).trans hcZ
              have hst4 := hst3.bel P ((Bel.refl w2).drew)
              have ho4 := own_keep ho3 ((Bel.refl w2).drew)
              have hblz2 : bz < w.heap.size := hblz
              have hs2 := hst3.2.1
              have hxl2 : wr.heap.size < w2.heap.size := by have := hg3.size; simp at this; omega
              have hbz := hst3.1.sz
              have HST4 := Lib.hid hst4
              have HO4 := Lib.hid ho4
              clear y6 y8 hst3 hst4 ho4 ho3 ho2 hg3
              go_wp2_with fail
              have v1 : IntKind.i64.wrap (at_ a.zs k + (rec_ a.L k).s 6) = at_ a.zs k + (rec_ a.L k).s 6 := IntWalk.i64_in _ (by omega)
              have v2 : IntKind.i64.wrap (at_ a.zs k + (rec_ a.L k).s 6 + a.addE k) = at_ a.zs k + (rec_ a.L k).s 6 + a.addE k := IntWalk.i64_in _ (by omega)
              have v3 : IntKind.i64.wrap (a.at_ k + ((rec_ a.L k).s 5 + a.addB k) + (at_ a.zs k + (rec_ a.L k).s 6 + a.addE k)) = a.at_ k + ((rec_ a.L k).s 5 + a.addB k) + (at_ a.zs k + (rec_ a.L k).s 6 + a.addE k) := IntWalk.i64_in _ (by omega)
              go_region_held3 (fun u => u.cell? ⟨wr.heap.size, 6, none⟩ = some (.int .i64 ((rec_ a.L k).s 6)) ∧ u.cell? ⟨wr.heap.size, 8, none⟩ = some (.bool ((rec_ a.L k).b 8)) ∧ u.cell? ⟨bz, oz + k, none⟩ = some (.int .i64 (at_ a.zs k)))
                ((first | exact ⟨y6, y8, yz⟩ | exact ⟨z6, z8, hzc⟩))
                (first | (go_at_call 106; refine (auto_E a k w ((w4.setCell ⟨w3.heap.size, 0, none⟩ (.slice Ae a.ex.length ce)).alloc (.cells #[.int .i64 0] 3)) _ w4.heap.size w3.heap.size Ae ce HST4.out P HEX.out (by omega)).mono ?_; rintro e w3 ⟨rfl, hst5, hg5⟩; have y6 : w3.cell? ⟨wr.heap.size, 6, none⟩ = some (.int .i64 ((rec_ a.L k).s 6)) := hg5.cell (a := ⟨wr.heap.size, 6, none⟩) z6 (by simpa using hnb); have y8 : w3.cell? ⟨wr.heap.size, 8, none⟩ = some (.bool ((rec_ a.L k).b 8)) := hg5.cell (a := ⟨wr.heap.size, 8, none⟩) z8 (by simpa using hnb); have yz : w3.cell? ⟨bz, oz + k, none⟩ = some (.int .i64 (at_ a.zs k)) := hg5.cell (a := ⟨bz, oz + k, none⟩) hzc (by have := P.u0; simp; omega)))
              have ho5 := own_far HO4.out hg5 P.u1
              clear v1 v2 v3 y6 y8 yz
              have HST5 := Lib.hid hst5
              have HO5 := Lib.hid ho5
              clear hst5 ho5 hg5 hg2
              by_cases hlast : k + 1 < a.L.length
              · have HV : Hid (a.at_ (k + 1) = a.at_ k + ((rec_ a.L k).s 5 + a.addB k) + (at_ a.zs k + (rec_ a.L k).s 6 + a.addE k) + (a.gap + a.sp k)) := hid' (by rw [HS.out, if_pos hlast])
                have HSPk : Hid (a.sp k = 0) := hid' (by rw [HSP.out k, if_neg (by omega)])
                go_wp2_with fail
                go_roundw
                case rel => exact ⟨k + 1, by omega, by go_num, by (rw [HV.out, HSPk.out]; refine congrArg (Value.int .i64) ?_; omega), by rw [a.starts_succ, ← VI_snoc]; exact HO5.out, HST5.out⟩
                case measure => simp [intOf]; omega
              · have HV : Hid (a.at_ (k + 1) = a.at_ k + ((rec_ a.L k).s 5 + a.addB k) + (at_ a.zs k + (rec_ a.L k).s 6 + a.addE k)) := hid' (by rw [HS.out, if_neg hlast]; omega)
                go_wp2_with fail
                go_roundw
                case rel => exact ⟨k + 1, by omega, by go_num, by rw [HV.out], by rw [a.starts_succ, ← VI_snoc]; exact HO5.out, HST5.out⟩
                case measure => simp [intOf]; omega
            · obtain rfl : k = a.L.length := by omega
              have hb := hst.1
              have hsz := hst.2.1
              have ho' := own_base ho (Nat.le_trans P.u0 (Nat.le_of_lt P.u1))
              go_wp2_with fail
              go_ret3
              exact HRET.out _ _ ho' hb
        · have HEX1 : Hid (a.ex = []) := hid' (by rw [HEX0.out, alEx, if_neg (by omega)])
          have HEX : Hid (a.ex.length ≤ 1048576) := hid' (by rw [HEX1.out]; simp)
          have HLE : Hid (a.lead = 0) := hid' (by rw [HLEAD.out, if_neg (by omega)])
          have P : AlPl w ((w3.alloc (.cells #[.slice none 0 0] 29)).alloc (.cells #[.int .i64 0] 3)) (w3.heap.size + 1) w3.heap.size none := ⟨by omega, by simp, by simp; omega, by omega, fun _ _ h => by cases h⟩
          have hst0 : AlSt w ((w3.alloc (.cells #[.slice none 0 0] 29)).alloc (.cells #[.int .i64 0] 3)) (w3.heap.size + 1) w3.heap.size none 0 a.ex (autosTo a.L 0) ((w3.alloc (.cells #[.slice none 0 0] 29)).alloc (.cells #[.int .i64 0] 3)) :=
            ⟨(hbw3.alloc _).alloc _, Nat.le_refl _, by simp [autosTo], by simp, by rw [HEX1.out]; simp, by rw [HEX1.out]; exact Ints.nil _ _⟩
          have HST0 := Lib.hid hst0
          have hapos : 0 < au := by omega
          have hauz : (au == (0 : Int)) = false := by simp; omega
          have hfn : free ≤ 0 := by omega
          clear h0 hfp hst0
          go_wp2_with fail
          go_loopw [20, 21, 82] (fun q v i wr => ∃ (k : Nat), k ≤ a.L.length ∧ i = .int .i64 k ∧ q = .int .i64 (a.at_ k) ∧ wr.ownsRow ((w3.alloc (.cells #[.slice none 0 0] 29)).alloc (.cells #[.int .i64 0] 3)).heap.size 3 1 v k (VI (a.starts k)) ∧ AlSt w ((w3.alloc (.cells #[.slice none 0 0] 29)).alloc (.cells #[.int .i64 0] 3)) (w3.heap.size + 1) w3.heap.size none 0 a.ex (autosTo a.L k) wr) (fun _ _ i _ => a.L.length - (intOf i).toNat)
          case atStart => exact ⟨0, Nat.zero_le _, by go_num, by (show _ = Value.int .i64 a.lead; rw [HLE.out]), ⟨rfl, .inl ⟨rfl, rfl⟩⟩, HST0.out⟩
          case round =>
            obtain ⟨k, hk, rfl, rfl, ho, hst⟩ := hrel
            by_cases hlt : k < a.L.length
            · have hb := hst.1
              have hsz := hst.2.1
              obtain ⟨b, o, rfl, hbl, hc⟩ := h k hlt
              obtain ⟨x0, x1, x2, x3, x4, x5, x6, x7, x8⟩ := item_cells hc hlt
              have d0 := (hb.cell _ _ hbl).trans x0
              have d1 := (hb.cell _ _ hbl).trans x1
              have d2 := (hb.cell _ _ hbl).trans x2
              have d3 := (hb.cell _ _ hbl).trans x3
              have d4 := (hb.cell _ _ hbl).trans x4
              have d5 := (hb.cell _ _ hbl).trans x5
              have d6 := (hb.cell _ _ hbl).trans x6
              have d7 := (hb.cell _ _ hbl).trans x7
              have d8 := (hb.cell _ _ hbl).trans x8
              clear hc x0 x1 x2 x3 x4 x5 x6 x7 x8
              have hltz : k < a.zs.length := by have := HZL.out; omega
              obtain ⟨bz, oz, rfl, hblz, hcz⟩ := hz k hltz
              have hcZ := hcz k hltz
              clear hcz
              have hlti : (k : Int) < (a.zs.length : Int) := by omega
              have b1 := HAT.out k hk
              have b2 := HADD.out k
              have b3 := HP5.out k hltz
              have b4 := HP6.out k hlt
              have HS : Hid (a.at_ (k + 1) = a.at_ k + ((rec_ a.L k).s 5 + a.addB k) + (at_ a.zs k + (rec_ a.L k).s 6 + a.addE k) + (if k + 1 < a.L.length then a.gap + a.sp k else 0)) := hid' rfl
              have hnb : wr.heap.size ≠ (w3.heap.size + 1) := by have := P.u1; omega
              have hst1 := (hst.bel P ((Bel.refl wr).alloc (.cells #[.int .i64 ((rec_ a.L k).s 0), .int .i64 ((rec_ a.L k).s 1), .int .i64 ((rec_ a.L k).s 2), .int .i64 ((rec_ a.L k).s 3), .int .i64 ((rec_ a.L k).s 4), .int .i64 ((rec_ a.L k).s 5), .int .i64 ((rec_ a.L k).s 6), .bool ((rec_ a.L k).b 7), .bool ((rec_ a.L k).b 8)] 48))).bel P ((Bel.refl _).drew)
              have ho1 := own_keep (ho.alloc (.cells #[.int .i64 ((rec_ a.L k).s 0), .int .i64 ((rec_ a.L k).s 1), .int .i64 ((rec_ a.L k).s 2), .int .i64 ((rec_ a.L k).s 3), .int .i64 ((rec_ a.L k).s 4), .int .i64 ((rec_ a.L k).s 5), .int .i64 ((rec_ a.L k).s 6), .bool ((rec_ a.L k).b 7), .bool ((rec_ a.L k).b 8)] 48)) ((Bel.refl _).drew)
              have HST := Lib.hid hst1
              have HO1 := Lib.hid ho1
              have HOV := Lib.hid ho
              clear hst hst1 ho1 ho
              go_wp2_with fail
              have v1 : IntKind.i64.wrap ((rec_ a.L k).s 5 + a.addB k) = (rec_ a.L k).s 5 + a.addB k := IntWalk.i64_in _ (by omega)
              have v2 : IntKind.i64.wrap (a.at_ k + ((rec_ a.L k).s 5 + a.addB k)) = a.at_ k + ((rec_ a.L k).s 5 + a.addB k) := IntWalk.i64_in _ (by omega)
              go_region_held3 (fun u => u.cell? ⟨wr.heap.size, 5, none⟩ = some (.int .i64 ((rec_ a.L k).s 5)) ∧ u.cell? ⟨wr.heap.size, 7, none⟩ = some (.bool ((rec_ a.L k).b 7)))
                ((first | exact ⟨y5, y7⟩ | exact ⟨by simp, by simp⟩))
                (first | (go_at_call 106; refine (auto_B a k w ((w3.alloc (.cells #[.slice none 0 0] 29)).alloc (.cells #[.int .i64 0] 3)) _ (w3.heap.size + 1) w3.heap.size none 0 HST.out P HEX.out (by omega)).mono ?_; rintro e w1 ⟨rfl, hst2, hg2⟩; have y5 : w1.cell? ⟨wr.heap.size, 5, none⟩ = some (.int .i64 ((rec_ a.L k).s 5)) := hg2.cell (a := ⟨wr.heap.size, 5, none⟩) (by simp) (by simpa using hnb); have y7 : w1.cell? ⟨wr.heap.size, 7, none⟩ = some (.bool ((rec_ a.L k).b 7)) := hg2.cell (a := ⟨wr.heap.size, 7, none⟩) (by simp) (by simpa using hnb)))
              have y6 : w1.cell? ⟨wr.heap.size, 6, none⟩ = some (.int .i64 ((rec_ a.L k).s 6)) := hg2.cell (a := ⟨wr.heap.size, 6, none⟩) (by simp) (by simpa using hnb)
              have y8 : w1.cell? ⟨wr.heap.size, 8, none⟩ = some (.bool ((rec_ a.L k).b 8)) := hg2.cell (a := ⟨wr.heap.size, 8, none⟩) (by simp) (by simpa using hnb)
              have hxl : wr.heap.size < w1.heap.size := by have := hg2.size; simp at this; omega
              have ho2 := own_far HO1.out hg2 P.u1
              have hs1 := hst2.2.1
              clear v1 v2 y5 y7
              have HST2 := Lib.hid hst2
              clear hst2
              go_wp2_with (at_builtin; refine app1w rfl (.tmp 96) (.tmp 98) rfl (((w3.alloc (.cells #[.slice none 0 0] 29)).alloc (.cells #[.int .i64 0] 3))).heap.size _ k _ rfl (ho2.alloc _) w1.heap.size _ rfl (World.cell?_alloc_new _ _ _ _) (by omega) (by have := hs1; (try simp at this); simp; omega) ?_; intro v' w2 ho3 hg3 hloc)
              have hst3 := (HST2.out.bel P ((Bel.refl w1).alloc _)).app P (ho2.alloc _) hg3
              have hnv : some wr.heap.size ≠ _ := fun e => by have := (HOV.out.lt wr.heap.size e.symm).2; omega
              have z6 : w2.cell? ⟨wr.heap.size, 6, none⟩ = some (.int .i64 ((rec_ a.L k).s 6)) := hg3.cell (a := ⟨wr.heap.size, 6, none⟩) ((((Bel.refl w1).alloc _).cell _ _ hxl).trans y6) hnv
              have z8 : w2.cell? ⟨wr.heap.size, 8, none⟩ = some (.bool ((rec_ a.L k).b 8)) := hg3.cell (a := ⟨wr.heap.size, 8, none⟩) ((((Bel.refl w1).alloc _).cell _ _ hxl).trans y8) hnv
              have hzc : w2.cell? ⟨bz, oz + k, none⟩ = some (.int .i64 (at_ a.zs k)) := (hst3.1.cell _ _ hblz).trans hcZ
              have hst4 := hst3.bel P ((Bel.refl w2).drew)
              have ho4 := own_keep ho3 ((Bel.refl w2).drew)
              have hblz2 : bz < w.heap.size := hblz
              have hs2 := hst3.2.1
              have hxl2 : wr.heap.size < w2.heap.size := by have := hg3.size; simp at this; omega
              have hbz := hst3.1.sz
              have HST4 := Lib.hid hst4
              have HO4 := Lib.hid ho4
              clear y6 y8 hst3 hst4 ho4 ho3 ho2 hg3
              go_wp2_with fail
              have v1 : IntKind.i64.wrap (at_ a.zs k + (rec_ a.L k).s 6) = at_ a.zs k + (rec_ a.L k).s 6 := IntWalk.i64_in _ (by omega)
              have v2 : IntKind.i64.wrap (at_ a.zs k + (rec_ a.L k).s 6 + a.addE k) = at_ a.zs k + (rec_ a.L k).s 6 + a.addE k := IntWalk.i64_in _ (by omega)
              have v3 : IntKind.i64.wrap (a.at_ k + ((rec_ a.L k).s 5 + a.addB k) + (at_ a.zs k + (rec_ a.L k).s 6 + a.addE k)) = a.at_ k + ((rec_ a.L k).s 5 + a.addB k) + (at_ a.zs k + (rec_ a.L k).s 6 + a.addE k) := IntWalk.i64_in _ (by omega)
              go_region_held3 (fun u => u.cell? ⟨wr.heap.size, 6, none⟩ = some (.int .i64 ((rec_ a.L k).s 6)) ∧ u.cell? ⟨wr.heap.size, 8, none⟩ = some (.bool ((rec_ a.L k).b 8)) ∧ u.cell? ⟨bz, oz + k, none⟩ = some (.int .i64 (at_ a.zs k)))
                ((first | exact ⟨y6, y8, yz⟩ | exact ⟨z6, z8, hzc⟩))
                (first | (go_at_call 106; refine (auto_E a k w ((w3.alloc (.cells #[.slice none 0 0] 29)).alloc (.cells #[.int .i64 0] 3)) _ (w3.heap.size + 1) w3.heap.size none 0 HST4.out P HEX.out (by omega)).mono ?_; rintro e w3 ⟨rfl, hst5, hg5⟩; have y6 : w3.cell? ⟨wr.heap.size, 6, none⟩ = some (.int .i64 ((rec_ a.L k).s 6)) := hg5.cell (a := ⟨wr.heap.size, 6, none⟩) z6 (by simpa using hnb); have y8 : w3.cell? ⟨wr.heap.size, 8, none⟩ = some (.bool ((rec_ a.L k).b 8)) := hg5.cell (a := ⟨wr.heap.size, 8, none⟩) z8 (by simpa using hnb); have yz : w3.cell? ⟨bz, oz + k, none⟩ = some (.int .i64 (at_ a.zs k)) := hg5.cell (a := ⟨bz, oz + k, none⟩) hzc (by have := P.u0; simp; omega)))
              have ho5 := own_far HO4.out hg5 P.u1
              clear v1 v2 v3 y6 y8 yz
              have HST5 := Lib.hid hst5
              have HO5 := Lib.hid ho5
              clear hst5 ho5 hg5 hg2
              by_cases hlast : k + 1 < a.L.length
              · have HV : Hid (a.at_ (k + 1) = a.at_ k + ((rec_ a.L k).s 5 + a.addB k) + (at_ a.zs k + (rec_ a.L k).s 6 + a.addE k) + (a.gap + a.sp k)) := hid' (by rw [HS.out, if_pos hlast])
                have HSPk : Hid (a.sp k = 0) := hid' (by rw [HSP.out k, if_neg (by omega)])
                go_wp2_with fail
                go_roundw
                case rel => exact ⟨k + 1, by omega, by go_num, by (rw [HV.out, HSPk.out]; refine congrArg (Value.int .i64) ?_; omega), by rw [a.starts_succ, ← VI_snoc]; exact HO5.out, HST5.out⟩
                case measure => simp [intOf]; omega
              · have HV : Hid (a.at_ (k + 1) = a.at_ k + ((rec_ a.L k).s 5 + a.addB k) + (at_ a.zs k + (rec_ a.L k).s 6 + a.addE k)) := hid' (by rw [HS.out, if_neg hlast]; omega)
                go_wp2_with fail
                go_roundw
                case rel => exact ⟨k + 1, by omega, by go_num, by rw [HV.out], by rw [a.starts_succ, ← VI_snoc]; exact HO5.out, HST5.out⟩
                case measure => simp [intOf]; omega
            · obtain rfl : k = a.L.length := by omega
              have hb := hst.1
              have hsz := hst.2.1
              have ho' := own_base ho (Nat.le_trans P.u0 (Nat.le_of_lt P.u1))
              go_wp2_with fail
              go_ret3
              exact HRET.out _ _ ho' hb
end Go.Proofs.Ytmipjhnjlpmidaa
