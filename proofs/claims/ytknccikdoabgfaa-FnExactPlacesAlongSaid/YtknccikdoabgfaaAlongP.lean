/- Places along where the arguments are right: the reference's text. -/
import Derived.Test.YtknccikdoabgfaaAlongS
namespace Go.Proofs.Ytknccikdoabgfaa
open Go.RowKit Go.ChangeShapes Go.WideShapes
set_option linter.unusedVariables false
set_option linter.unusedSimpArgs false

def PlacesRet (w : World) (L : List Rec) (zs : List Int) (gap inner justify : Int) (r : Ending) (w' : World) : Prop :=
  ∃ v, r = .returned (.tuple #[v, .int .i64 (alongE L zs gap inner justify)]) ∧ w'.ownsRow w.heap.size 3 1 v (alongL L zs gap inner justify).length (VI (alongL L zs gap inner justify)) ∧ Bel w w'

theorem VI_zeros (n : Nat) : List.replicate n (Value.int .i64 0) = VI (List.replicate n 0) := by simp [VI]
theorem zeros_at (n i : Nat) : at_ (List.replicate n 0) i = 0 := by
  by_cases h : i < n <;> simp [at_, List.getD, h]
theorem Beside.new {w : World} {g base n cs : Nat} {e : TypeId} {S : Option Addr} {zs : List Int} (ho : w.ownsRow base e 1 (.slice S n cs) n (VI zs)) (h : g < base) : Beside w (.slice (some ⟨g, 0, none⟩) 0 0) S zs :=
  ⟨own_ints ho, fun _ g' b o h1 h2 => by
    subst h2
    have := (ho.lt b rfl).1
    simp [Value.ownBlock] at h1
    omega⟩
theorem Beside.none_ {w : World} {out : Value} {S : Option Addr} : Beside w out S [] := ⟨Ints.nil _ _, fun h => by simp at h⟩

set_option maxRecDepth 100000 in
set_option maxHeartbeats 8000000 in
theorem sPlaces_go (a : Al) (justify : Int) (A0 : Option Addr) (c : Nat) (B0 : Option Addr) (d : Nat) (inner : Int) (w : World) (h : Recs w A0 k_item a.L) (hz : Ints w B0 a.zs) (HOK : Hid (alongOk a.L a.zs a.gap inner = true)) (HA : Hid (alOf a.L a.zs a.gap inner justify = a)) :
    Calls Try.prog 63 #[.slice A0 a.L.length c, .slice B0 a.zs.length d, .int .i64 a.gap, .int .i64 inner, .int .i64 justify] w (PlacesRet w a.L a.zs a.gap inner justify) := by
  obtain ⟨i0, hi, hz0, hz1, hz2⟩ := info_parts Try.info_int
  obtain ⟨p1, p2, p3, p4, p5, p6, p7⟩ := along_parts HOK.out
  have HZL := Lib.hid p2
  have HP5 := Lib.hid p5
  have HP6 := Lib.hid p6
  have hzl : a.zs.length ≤ 12 := by omega
  have HAT : Hid (∀ k : Nat, k ≤ a.L.length → -2097152 - 33554432 * (k : Int) ≤ a.at_ k ∧ a.at_ k ≤ 2097152 + 33554432 * (k : Int)) := hid' (by have := Al.at_bd (justify := justify) HOK.out; rw [HA.out] at this; exact this)
  have HADD : Hid (∀ k : Nat, (-2097152 ≤ a.addB k ∧ a.addB k ≤ 2097152) ∧ (-2097152 ≤ a.addE k ∧ a.addE k ≤ 2097152)) := hid' (fun k => by have := Al.add_bd (L := a.L) (zs := a.zs) (gap := a.gap) (inner := inner) (justify := justify) k; rw [HA.out] at this; exact this)
  have HRET : Hid (∀ (v : Value) (w' : World), w'.ownsRow w.heap.size 3 1 v a.L.length (VI (a.starts a.L.length)) → Bel w w' → PlacesRet w a.L a.zs a.gap inner justify (.returned (.tuple #[v, .int .i64 (a.at_ a.L.length)])) w') := hid' (fun v w' h1 h2 => by
    obtain ⟨e1, e2⟩ := along_yes justify HOK.out
    rw [HA.out] at e1 e2
    refine ⟨v, by rw [e2], ?_, h2⟩
    rw [e1, Al.starts_length]
    exact h1)
  have ho0 : (w.alloc (.cells #[] 3)).ownsRow w.heap.size 3 1 (.slice (some ⟨w.heap.size, 0, none⟩) 0 0) 0 (VI []) := World.ownsRow_lit w #[] 0 (Nat.le_refl _) (by unfold maxLen; omega) rfl
  have hb0 : Bel w (w.alloc (.cells #[] 3)) := (Bel.refl w).alloc _
  have HO0 := Lib.hid ho0
  have hok := HOK.out
  clear ho0 p2 p5 p6 p7
  go_enter Try.func63, Try.ntmps63
  go_wp2_with fail
  refine (l15Ok_c _ _ _ _ _ _ _ _ _ (h.keep hb0) (hz.keep hb0) (by omega) (by omega)).mono ?_; rintro e w1 ⟨rfl, hb1⟩
  rw [hok]
  clear hok
  have hb01 := hb0.trans hb1
  go_wp2_with fail
  refine (sFreeOf_c _ _ _ _ _ _ _ _ _ (h.keep hb01) (hz.keep hb01) (by omega) (by omega)).mono ?_; rintro e w2 ⟨rfl, hb2⟩
  have hbd := signed_bd (freeOf a.L a.zs a.gap inner)
  have hfree : alFree a.L a.zs a.gap inner = signed (freeOf a.L a.zs a.gap inner) := rfl
  obtain ⟨free, hf⟩ : ∃ f, signed (freeOf a.L a.zs a.gap inner) = f := ⟨_, rfl⟩
  rw [hf] at hfree hbd
  go_wp2_with fail
  refine (l02Len_c _ _).mono ?_; rintro e w' ⟨rfl, rfl⟩
  rw [hf]
  clear hf
  have hb02 := hb01.trans hb2
  go_wp2_with fail
  refine (sAutosIn_c _ _ _ _ (h.keep hb02) (by omega)).mono ?_; rintro e w3 ⟨rfl, hb3⟩
  have hau := autosTo_bd a.L a.L.length
  obtain ⟨au, hae⟩ := Int.eq_ofNat_of_zero_le hau.1
  rw [hae] at hau ⊢
  have HAU := Lib.hid hae
  have HEX0 : Hid (a.ex = alEx free au) := hid' ((congrArg Al.ex HA.out).symm.trans (by show alEx _ _ = _; rw [hfree, hae]))
  have HLEAD : Hid (a.lead = if (au : Int) = 0 then leadOf free a.L.length justify else 0) := hid' ((congrArg Al.lead HA.out).symm.trans (by show (if _ then _ else _) = _; rw [hfree, hae]))
  have HSP : Hid (∀ k : Nat, a.sp k = if (au : Int) = 0 then between free a.L.length justify k else 0) := hid' (fun k => (congrFun (congrArg Al.sp HA.out) k).symm.trans (by show (if _ then _ else _) = _; rw [hfree, hae]))
  clear hfree hae
  have hb03 := hb02.trans hb3
  have HO3 := Lib.hid (own_keep (own_keep (own_keep HO0.out hb1) hb2) hb3)
  have hau24 : au ≤ 24 := by omega
  by_cases h0 : au = 0
  · have HI : Hid ((au : Int) = 0) := hid' (by omega)
    have HN : Hid (au = 0) := hid' h0
    have HLE : Hid (a.lead = leadOf free a.L.length justify) := hid' (by rw [HLEAD.out, if_pos HI.out])
    have hnp : ¬ (0 : Int) < (au : Int) := by omega
    have hauz : ((au : Int) == (0 : Int)) = true := by simp; omega
    clear h0
    go_wp2_with (first | (at_make; refine wpList_make_full _ rfl (.tmp 36) (.tmp 36) 35 rfl w3.heap.size 3 i0 (.int .i64 0) 1 Try.underlying35 hi hz0 hz1 .i64 .i64 au au au rfl rfl rfl rfl (by rw [hz2]; omega) (by unfold maxLen; omega) (Nat.le_refl _) ?_; intro w4 hown4 hg4) | (at_make; refine wpList_make_full _ rfl (.tmp 39) (.tmp 39) 35 rfl w4.heap.size 3 i0 (.int .i64 0) 1 Try.underlying35 hi hz0 hz1 .i64 .i64 a.L.length a.L.length a.L.length rfl rfl rfl rfl (by rw [hz2]; omega) (by unfold maxLen; omega) (Nat.le_refl _) ?_; intro w5 hown5 hg5))
    have hb34 : Bel w3 w4 := (Bel.refl w3).grown hg4 (by simp)
    have hb4 := hb03.trans hb34
    have hm : (Value.int .i64 0).cells = #[.int .i64 0] := rfl
    have HO4 := Lib.hid (own_keep HO3.out hb34)
    have hb45 : Bel w4 w5 := (Bel.refl w4).grown hg5 (by simp)
    have hb5 := hb4.trans hb45
    have s0 : w.heap.size < w3.heap.size := by have := ((hb1.trans hb2).trans hb3).sz; simp at this; omega
    have s1 : w3.heap.size ≤ w4.heap.size := hb34.sz
    have HO5 := Lib.hid (own_keep HO4.out hb45)
    rw [hm, toList_madeCells_one, Nat.mul_one, VI_zeros] at hown5
    rw [hm, toList_madeCells_one, Nat.mul_one, VI_zeros] at hown4
    have HG4 := Lib.hid (own_keep hown4 hb45)
    have HS5 := Lib.hid hown5
    clear hown4 hown5 hg4 hg5 hm
    refine (sLeadOf_c _ _ _ _ (by omega)).mono ?_; rintro e w6 ⟨rfl, hb6⟩
    go_wp2_with fail
    refine (l15Spaces_c _ _ _ _ (by omega)).mono ?_; rintro e w7 ⟨v7, rfl, hs7, hb7⟩
    obtain ⟨S, cs, rfl, -, -, -, -⟩ := own_openN hs7
    obtain ⟨gv, hgv⟩ : ∃ gv : List Int, gv = [] := ⟨_, rfl⟩
    obtain ⟨sp, hsp⟩ : ∃ sp, sp = spacesL free a.L.length justify := ⟨_, rfl⟩
    have HGL : Hid (gv.length = au) := hid' (by rw [hgv, HN.out]; rfl)
    have HSPL : Hid (sp.length = a.L.length) := hid' (by rw [hsp, spacesL_length])
    have HSV : Hid (∀ k, k + 1 < a.L.length → at_ sp k = a.sp k) := hid' (fun k hk => by rw [hsp, spacesL_at _ _ (by omega), spaceAt, if_pos hk, HSP.out k, if_pos HI.out])
    have HSB : Hid (∀ k, k + 1 < a.L.length → -4194304 ≤ a.sp k ∧ a.sp k ≤ 4194304) := hid' (fun k hk => by rw [HSP.out k, if_pos HI.out]; exact between_bd _ _ _ _)
    have HG0 : Hid (Beside w7 (.slice (some ⟨w.heap.size, 0, none⟩) 0 0) (some ⟨w3.heap.size, 0, none⟩) gv) := hid' (by rw [hgv]; exact Beside.none_)
    have HS0 : Hid (Beside w7 (.slice (some ⟨w.heap.size, 0, none⟩) 0 0) S sp) := hid' (by rw [hsp]; exact Beside.new hs7 (by have := hb6.sz; have := hb45.sz; omega))
    have HO7 := Lib.hid (own_keep (own_keep HO5.out hb6) hb7)
    have hb07 := (hb5.trans hb6).trans hb7
    have HS7 := Lib.hid hs7
    have HGE := Lib.hid hgv
    have HSE := Lib.hid hsp
    clear hs7 hgv hsp
    go_wp2_with fail
    go_loopw [12, 16, 18, 19] (fun out q m i wr => ∃ (k u : Nat), k ≤ a.L.length ∧ autosTo a.L k = (u : Int) ∧ i = .int .i64 k ∧ q = .int .i64 (a.at_ k) ∧ m = .int .i64 (u : Nat) ∧ wr.ownsRow w.heap.size 3 1 out k (VI (a.starts k)) ∧ Bel w wr ∧ Beside wr out (some ⟨w3.heap.size, 0, none⟩) gv ∧ Beside wr out S sp) (fun _ _ _ i _ => a.L.length - (intOf i).toNat)
    case atStart => exact ⟨0, 0, Nat.zero_le _, rfl, by go_num, by (show _ = Value.int .i64 a.lead; rw [HLE.out]), rfl, HO7.out, hb07, HG0.out, HS0.out⟩
    case round =>
      obtain ⟨k, u, hk, hu, rfl, rfl, rfl, ho, hb, hG, hS⟩ := hrel
      by_cases hlt : k < a.L.length
      · obtain ⟨b, o, rfl, hbl, hc⟩ := h k hlt
        obtain ⟨x0, x1, x2, x3, x4, x5, x6, x7, x8⟩ := item_cells hc hlt
        have d5 := (hb.cell _ _ hbl).trans x5
        have d6 := (hb.cell _ _ hbl).trans x6
        have d7 := (hb.cell _ _ hbl).trans x7
        have d8 := (hb.cell _ _ hbl).trans x8
        clear hc x0 x1 x2 x3 x4 x5 x7
        have hltz : k < a.zs.length := by have := HZL.out; omega
        obtain ⟨bz, oz, rfl, hblz, hcz⟩ := hz k hltz
        have xZ := hcz k hltz
        have dZ := (hb.cell _ _ hblz).trans xZ
        clear hcz
        have hlti : (k : Int) < (a.L.length : Int) := by omega
        have hltzi : (k : Int) < (a.zs.length : Int) := by omega
        have b1 := HAT.out k hk
        have b2 := HADD.out k
        have b3 := HP5.out k hltz
        have b4 := HP6.out k hlt
        have HS : Hid (a.at_ (k + 1) = a.at_ k + ((rec_ a.L k).s 5 + a.addB k) + (at_ a.zs k + (rec_ a.L k).s 6 + a.addE k) + (if k + 1 < a.L.length then a.gap + a.sp k else 0)) := hid' rfl
        have HB : Hid (a.start k = a.at_ k + ((rec_ a.L k).s 5 + a.addB k)) := hid' rfl
        have HU7 : Hid ((rec_ a.L k).b 7 = true → u < au) := hid' (fun h7 => by have := autosTo_lt7 hlt h7; rw [hu, HAU.out] at this; omega)
        have HU8 : Hid ((rec_ a.L k).b 8 = true → u + (if (rec_ a.L k).b 7 = true then 1 else 0) < au) := hid' (fun h8 => by have := autosTo_lt8 hlt h8; rw [hu, HAU.out] at this; split at this <;> rename_i h <;> simp only [h, if_true, if_false] <;> simp <;> omega)
        have HAD : Hid (a.addB k = (if (rec_ a.L k).b 7 = true then elementOf a.ex (u : Int) else 0)) := hid' (by rw [Al.addB, hu])
        have HAE : Hid (a.addE k = (if (rec_ a.L k).b 8 = true then elementOf a.ex ((u : Int) + (if (rec_ a.L k).b 7 = true then 1 else 0)) else 0)) := hid' (by rw [Al.addE, Al.mid, hu])
        cases h7 : (rec_ a.L k).b 7 <;> cases h8 : (rec_ a.L k).b 8 <;> rw [h7] at d7 HU7 HU8 HAD HAE <;> rw [h8] at d8 x8 HU8 HAE
        · have HNU : Hid (autosTo a.L (k + 1) = ((u : Nat) : Int)) := hid' (by simp only [autosTo, h7, h8, hu]; simp; try omega)
          have HAB : Hid (a.start k = a.at_ k + (rec_ a.L k).s 5) := hid' (by rw [HB.out]; simp only [Al.addB, h7]; simp; try omega)
          have HSN : Hid (k + 1 < a.L.length → a.at_ (k + 1) = a.at_ k + (rec_ a.L k).s 5 + at_ a.zs k + (rec_ a.L k).s 6 + a.gap + a.sp k) := hid' (fun hl => by have e := HS.out; rw [if_pos hl] at e; simp only [Al.addB, Al.addE, h7, h8] at e ⊢; simp at e ⊢; omega)
          have HSL2 : Hid (¬ k + 1 < a.L.length → a.at_ (k + 1) = a.at_ k + (rec_ a.L k).s 5 + at_ a.zs k + (rec_ a.L k).s 6) := hid' (fun hl => by have e := HS.out; rw [if_neg hl] at e; simp only [Al.addB, Al.addE, h7, h8] at e ⊢; simp at e ⊢; omega)
          skip
          have HGG := Lib.hid hG
          have HSS := Lib.hid hS
          clear hG hS h7 h8
          go_wp2_with (at_builtin; refine app1w rfl (.tmp 88) (.tmp 90) rfl w.heap.size _ k _ rfl (ho.alloc _) wr.heap.size _ rfl (World.cell?_alloc_new _ _ _ _) (by omega) (hb.alloc _).sz ?_; intro v' w5 ho5 hg5 hat5)
          have hb5 := (hb.alloc (.cells #[.int .i64 (a.at_ k + (rec_ a.L k).s 5)] 3)).own (Nat.le_refl _) (ho.alloc _) hg5
          have hG5 := (HGG.out.keep ((Bel.refl wr).alloc (.cells #[.int .i64 (a.at_ k + (rec_ a.L k).s 5)] 3))).step hg5 hat5
          have hS5 := (HSS.out.keep ((Bel.refl wr).alloc (.cells #[.int .i64 (a.at_ k + (rec_ a.L k).s 5)] 3))).step hg5 hat5
          have e6 := (hb5.cell _ _ hbl).trans x6
          have e8 := (hb5.cell _ _ hbl).trans x8
          have eZ := (hb5.cell _ _ hblz).trans xZ
          have HG5 := Lib.hid hG5
          have HS5 := Lib.hid hS5
          have HO5 := Lib.hid ho5
          clear hG5 hS5 ho5 hat5 hg5 d5 d6 d7 d8 dZ x6 x8 xZ
          go_wp2_with fail
          have q1 : IntKind.i64.wrap (a.at_ k + (rec_ a.L k).s 5 + at_ a.zs k) = a.at_ k + (rec_ a.L k).s 5 + at_ a.zs k := IntWalk.i64_in _ (by omega)
          have q2 : IntKind.i64.wrap (a.at_ k + (rec_ a.L k).s 5 + at_ a.zs k + (rec_ a.L k).s 6) = a.at_ k + (rec_ a.L k).s 5 + at_ a.zs k + (rec_ a.L k).s 6 := IntWalk.i64_in _ (by omega)
          go_quiet (fail)
          clear q1 q2
          skip
          by_cases hlast : k + 1 < a.L.length
          · have hli2 : (k : Int) + 1 < (a.L.length : Int) := by omega
            obtain ⟨bs, os, hse, hbls, hcs⟩ := HS5.out.1 k (by rw [HSPL.out]; exact hlt)
            cases hse
            have b5 := HSB.out k hlast
            have eS := hcs k (by rw [HSPL.out]; exact hlt)
            rw [HSV.out k hlast] at eS
            try rw [Nat.zero_add] at eS
            clear hcs
            go_wp2_with fail
            go_roundw
            case rel => exact ⟨k + 1, u, by omega, HNU.out, by go_num, by rw [HSN.out hlast], by go_num, by rw [a.starts_succ, ← VI_snoc, HAB.out]; exact own_drewN HO5.out _, hb5.drewN _, HG5.out.keep ((Bel.refl _).drewN _), HS5.out.keep ((Bel.refl _).drewN _)⟩
            case measure => simp [intOf]; omega
          · have hli2 : (a.L.length : Int) ≤ (k : Int) + 1 := by omega
            go_wp2_with fail
            go_roundw
            case rel => exact ⟨k + 1, u, by omega, HNU.out, by go_num, by rw [HSL2.out hlast], by go_num, by rw [a.starts_succ, ← VI_snoc, HAB.out]; exact own_drewN HO5.out _, hb5.drewN _, HG5.out.keep ((Bel.refl _).drewN _), HS5.out.keep ((Bel.refl _).drewN _)⟩
            case measure => simp [intOf]; omega
        · have := HU8.out (by simp)
          omega
        · have := HU7.out (by simp)
          omega
        · have := HU7.out (by simp)
          omega
      · obtain rfl : k = a.L.length := by omega
        go_wp2_with fail
        go_ret2
        exact HRET.out _ _ ho hb
  · have HLE : Hid (a.lead = 0) := hid' (by rw [HLEAD.out, if_neg (by omega)])
    have hap : 0 < au := by omega
    have hapi : (0 : Int) < (au : Int) := by omega
    have hauz : ((au : Int) == (0 : Int)) = false := by simp; omega
    obtain ⟨sp, hsp⟩ : ∃ sp : List Int, sp = List.replicate a.L.length 0 := ⟨_, rfl⟩
    have HSPL : Hid (sp.length = a.L.length) := hid' (by rw [hsp]; simp)
    have HS0 : Hid (∀ k, a.sp k = 0) := hid' (fun k => by rw [HSP.out k, if_neg (by omega)])
    have HSV : Hid (∀ k, k + 1 < a.L.length → at_ sp k = a.sp k) := hid' (fun k hk => by rw [hsp, zeros_at, HS0.out])
    have HSB : Hid (∀ k, k + 1 < a.L.length → -4194304 ≤ a.sp k ∧ a.sp k ≤ 4194304) := hid' (fun k hk => by rw [HS0.out]; omega)
    have HSE := Lib.hid hsp
    clear hsp h0
    by_cases hfp : 0 < free
    · have HEX1 : Hid (a.ex = evenly free au) := hid' (by rw [HEX0.out, alEx, if_pos ⟨hapi, hfp⟩])
      go_wp2_with (first | (at_make; refine wpList_make_full _ rfl (.tmp 36) (.tmp 36) 35 rfl w3.heap.size 3 i0 (.int .i64 0) 1 Try.underlying35 hi hz0 hz1 .i64 .i64 au au au rfl rfl rfl rfl (by rw [hz2]; omega) (by unfold maxLen; omega) (Nat.le_refl _) ?_; intro w4 hown4 hg4) | (at_make; refine wpList_make_full _ rfl (.tmp 39) (.tmp 39) 35 rfl w4.heap.size 3 i0 (.int .i64 0) 1 Try.underlying35 hi hz0 hz1 .i64 .i64 a.L.length a.L.length a.L.length rfl rfl rfl rfl (by rw [hz2]; omega) (by unfold maxLen; omega) (Nat.le_refl _) ?_; intro w5 hown5 hg5))
      have hb34 : Bel w3 w4 := (Bel.refl w3).grown hg4 (by simp)
      have hb4 := hb03.trans hb34
      have hm : (Value.int .i64 0).cells = #[.int .i64 0] := rfl
      have HO4 := Lib.hid (own_keep HO3.out hb34)
      have hb45 : Bel w4 w5 := (Bel.refl w4).grown hg5 (by simp)
      have hb5 := hb4.trans hb45
      have s0 : w.heap.size < w3.heap.size := by have := ((hb1.trans hb2).trans hb3).sz; simp at this; omega
      have s1 : w3.heap.size ≤ w4.heap.size := hb34.sz
      have HO5 := Lib.hid (own_keep HO4.out hb45)
      rw [hm, toList_madeCells_one, Nat.mul_one, VI_zeros] at hown5
      rw [hm, toList_madeCells_one, Nat.mul_one, VI_zeros] at hown4
      have HG4 := Lib.hid (own_keep hown4 hb45)
      have HS5 := Lib.hid hown5
      clear hown4 hown5 hg4 hg5 hm
      have HSX : Hid (Beside w5 (.slice (some ⟨w.heap.size, 0, none⟩) 0 0) (some ⟨w4.heap.size, 0, none⟩) sp) := hid' (by rw [HSE.out]; exact Beside.new HS5.out (by omega))
      refine (sEvenly_c _ _ _).mono ?_; rintro e w6 ⟨v, rfl, hev, hb6⟩
      obtain ⟨gv, hgv⟩ : ∃ gv : List Int, gv = evenly free au := ⟨_, rfl⟩
      have hgl : (evenly free (au : Int)).length = au := by rw [evenly_length (inB_iff.2 ⟨by omega, by omega⟩)]; omega
      rw [hgl] at hev
      obtain ⟨G, cg, rfl, -, -, -, -⟩ := own_openN hev
      have HGL : Hid (gv.length = au) := hid' (by rw [hgv, hgl])
      have HGV : Hid (∀ i, i < gv.length → at_ gv i = elementOf a.ex (i : Int)) := hid' (fun i hi => by rw [HEX1.out, element_in (by rw [hgl]; rw [HGL.out] at hi; exact hi), hgv])
      have HG0 : Hid (Beside w6 (.slice (some ⟨w.heap.size, 0, none⟩) 0 0) G gv) := hid' (by rw [hgv]; exact Beside.new hev (by have := hb45.sz; omega))
      have HSX6 := Lib.hid (HSX.out.keep hb6)
      have HO6 := Lib.hid (own_keep HO5.out hb6)
      have hb06 := hb5.trans hb6
      have HEV := Lib.hid hev
      have HGE := Lib.hid hgv
      clear hev hgv hgl
      go_wp2_with fail
      go_loopw [12, 16, 18, 19] (fun out q m i wr => ∃ (k u : Nat), k ≤ a.L.length ∧ autosTo a.L k = (u : Int) ∧ i = .int .i64 k ∧ q = .int .i64 (a.at_ k) ∧ m = .int .i64 (u : Nat) ∧ wr.ownsRow w.heap.size 3 1 out k (VI (a.starts k)) ∧ Bel w wr ∧ Beside wr out G gv ∧ Beside wr out (some ⟨w4.heap.size, 0, none⟩) sp) (fun _ _ _ i _ => a.L.length - (intOf i).toNat)
      case atStart => exact ⟨0, 0, Nat.zero_le _, rfl, by go_num, by (show _ = Value.int .i64 a.lead; rw [HLE.out]), rfl, HO6.out, hb06, HG0.out, HSX6.out⟩
      case round =>
        obtain ⟨k, u, hk, hu, rfl, rfl, rfl, ho, hb, hG, hS⟩ := hrel
        by_cases hlt : k < a.L.length
        · obtain ⟨b, o, rfl, hbl, hc⟩ := h k hlt
          obtain ⟨x0, x1, x2, x3, x4, x5, x6, x7, x8⟩ := item_cells hc hlt
          have d5 := (hb.cell _ _ hbl).trans x5
          have d6 := (hb.cell _ _ hbl).trans x6
          have d7 := (hb.cell _ _ hbl).trans x7
          have d8 := (hb.cell _ _ hbl).trans x8
          clear hc x0 x1 x2 x3 x4 x5 x7
          have hltz : k < a.zs.length := by have := HZL.out; omega
          obtain ⟨bz, oz, rfl, hblz, hcz⟩ := hz k hltz
          have xZ := hcz k hltz
          have dZ := (hb.cell _ _ hblz).trans xZ
          clear hcz
          have hlti : (k : Int) < (a.L.length : Int) := by omega
          have hltzi : (k : Int) < (a.zs.length : Int) := by omega
          have b1 := HAT.out k hk
          have b2 := HADD.out k
          have b3 := HP5.out k hltz
          have b4 := HP6.out k hlt
          have HS : Hid (a.at_ (k + 1) = a.at_ k + ((rec_ a.L k).s 5 + a.addB k) + (at_ a.zs k + (rec_ a.L k).s 6 + a.addE k) + (if k + 1 < a.L.length then a.gap + a.sp k else 0)) := hid' rfl
          have HB : Hid (a.start k = a.at_ k + ((rec_ a.L k).s 5 + a.addB k)) := hid' rfl
          have HU7 : Hid ((rec_ a.L k).b 7 = true → u < au) := hid' (fun h7 => by have := autosTo_lt7 hlt h7; rw [hu, HAU.out] at this; omega)
          have HU8 : Hid ((rec_ a.L k).b 8 = true → u + (if (rec_ a.L k).b 7 = true then 1 else 0) < au) := hid' (fun h8 => by have := autosTo_lt8 hlt h8; rw [hu, HAU.out] at this; split at this <;> rename_i h <;> simp only [h, if_true, if_false] <;> simp <;> omega)
          have HAD : Hid (a.addB k = (if (rec_ a.L k).b 7 = true then elementOf a.ex (u : Int) else 0)) := hid' (by rw [Al.addB, hu])
          have HAE : Hid (a.addE k = (if (rec_ a.L k).b 8 = true then elementOf a.ex ((u : Int) + (if (rec_ a.L k).b 7 = true then 1 else 0)) else 0)) := hid' (by rw [Al.addE, Al.mid, hu])
          cases h7 : (rec_ a.L k).b 7 <;> cases h8 : (rec_ a.L k).b 8 <;> rw [h7] at d7 HU7 HU8 HAD HAE <;> rw [h8] at d8 x8 HU8 HAE
          · have HNU : Hid (autosTo a.L (k + 1) = ((u : Nat) : Int)) := hid' (by simp only [autosTo, h7, h8, hu]; simp; try omega)
            have HAB : Hid (a.start k = a.at_ k + (rec_ a.L k).s 5) := hid' (by rw [HB.out]; simp only [Al.addB, h7]; simp; try omega)
            have HSN : Hid (k + 1 < a.L.length → a.at_ (k + 1) = a.at_ k + (rec_ a.L k).s 5 + at_ a.zs k + (rec_ a.L k).s 6 + a.gap + a.sp k) := hid' (fun hl => by have e := HS.out; rw [if_pos hl] at e; simp only [Al.addB, Al.addE, h7, h8] at e ⊢; simp at e ⊢; omega)
            have HSL2 : Hid (¬ k + 1 < a.L.length → a.at_ (k + 1) = a.at_ k + (rec_ a.L k).s 5 + at_ a.zs k + (rec_ a.L k).s 6) := hid' (fun hl => by have e := HS.out; rw [if_neg hl] at e; simp only [Al.addB, Al.addE, h7, h8] at e ⊢; simp at e ⊢; omega)
            skip
            have HGG := Lib.hid hG
            have HSS := Lib.hid hS
            clear hG hS h7 h8
            go_wp2_with (at_builtin; refine app1w rfl (.tmp 88) (.tmp 90) rfl w.heap.size _ k _ rfl (ho.alloc _) wr.heap.size _ rfl (World.cell?_alloc_new _ _ _ _) (by omega) (hb.alloc _).sz ?_; intro v' w5 ho5 hg5 hat5)
            have hb5 := (hb.alloc (.cells #[.int .i64 (a.at_ k + (rec_ a.L k).s 5)] 3)).own (Nat.le_refl _) (ho.alloc _) hg5
            have hG5 := (HGG.out.keep ((Bel.refl wr).alloc (.cells #[.int .i64 (a.at_ k + (rec_ a.L k).s 5)] 3))).step hg5 hat5
            have hS5 := (HSS.out.keep ((Bel.refl wr).alloc (.cells #[.int .i64 (a.at_ k + (rec_ a.L k).s 5)] 3))).step hg5 hat5
            have e6 := (hb5.cell _ _ hbl).trans x6
            have e8 := (hb5.cell _ _ hbl).trans x8
            have eZ := (hb5.cell _ _ hblz).trans xZ
            have HG5 := Lib.hid hG5
            have HS5 := Lib.hid hS5
            have HO5 := Lib.hid ho5
            clear hG5 hS5 ho5 hat5 hg5 d5 d6 d7 d8 dZ x6 x8 xZ
            go_wp2_with fail
            have q1 : IntKind.i64.wrap (a.at_ k + (rec_ a.L k).s 5 + at_ a.zs k) = a.at_ k + (rec_ a.L k).s 5 + at_ a.zs k := IntWalk.i64_in _ (by omega)
            have q2 : IntKind.i64.wrap (a.at_ k + (rec_ a.L k).s 5 + at_ a.zs k + (rec_ a.L k).s 6) = a.at_ k + (rec_ a.L k).s 5 + at_ a.zs k + (rec_ a.L k).s 6 := IntWalk.i64_in _ (by omega)
            go_quiet (fail)
            clear q1 q2
            skip
            by_cases hlast : k + 1 < a.L.length
            · have hli2 : (k : Int) + 1 < (a.L.length : Int) := by omega
              obtain ⟨bs, os, hse, hbls, hcs⟩ := HS5.out.1 k (by rw [HSPL.out]; exact hlt)
              cases hse
              have b5 := HSB.out k hlast
              have eS := hcs k (by rw [HSPL.out]; exact hlt)
              rw [HSV.out k hlast] at eS
              try rw [Nat.zero_add] at eS
              clear hcs
              go_wp2_with fail
              go_roundw
              case rel => exact ⟨k + 1, u, by omega, HNU.out, by go_num, by rw [HSN.out hlast], by go_num, by rw [a.starts_succ, ← VI_snoc, HAB.out]; exact own_drewN HO5.out _, hb5.drewN _, HG5.out.keep ((Bel.refl _).drewN _), HS5.out.keep ((Bel.refl _).drewN _)⟩
              case measure => simp [intOf]; omega
            · have hli2 : (a.L.length : Int) ≤ (k : Int) + 1 := by omega
              go_wp2_with fail
              go_roundw
              case rel => exact ⟨k + 1, u, by omega, HNU.out, by go_num, by rw [HSL2.out hlast], by go_num, by rw [a.starts_succ, ← VI_snoc, HAB.out]; exact own_drewN HO5.out _, hb5.drewN _, HG5.out.keep ((Bel.refl _).drewN _), HS5.out.keep ((Bel.refl _).drewN _)⟩
              case measure => simp [intOf]; omega
          · have HNU : Hid (autosTo a.L (k + 1) = ((u + 1 : Nat) : Int)) := hid' (by simp only [autosTo, h7, h8, hu]; simp; try omega)
            have HAB : Hid (a.start k = a.at_ k + (rec_ a.L k).s 5) := hid' (by rw [HB.out]; simp only [Al.addB, h7]; simp; try omega)
            have HSN : Hid (k + 1 < a.L.length → a.at_ (k + 1) = a.at_ k + (rec_ a.L k).s 5 + at_ a.zs k + (rec_ a.L k).s 6 + a.addE k + a.gap + a.sp k) := hid' (fun hl => by have e := HS.out; rw [if_pos hl] at e; simp only [Al.addB, Al.addE, h7, h8] at e ⊢; simp at e ⊢; omega)
            have HSL2 : Hid (¬ k + 1 < a.L.length → a.at_ (k + 1) = a.at_ k + (rec_ a.L k).s 5 + at_ a.zs k + (rec_ a.L k).s 6 + a.addE k) := hid' (fun hl => by have e := HS.out; rw [if_neg hl] at e; simp only [Al.addB, Al.addE, h7, h8] at e ⊢; simp at e ⊢; omega)
            skip
            have HGG := Lib.hid hG
            have HSS := Lib.hid hS
            clear hG hS h7 h8
            go_wp2_with (at_builtin; refine app1w rfl (.tmp 88) (.tmp 90) rfl w.heap.size _ k _ rfl (ho.alloc _) wr.heap.size _ rfl (World.cell?_alloc_new _ _ _ _) (by omega) (hb.alloc _).sz ?_; intro v' w5 ho5 hg5 hat5)
            have hb5 := (hb.alloc (.cells #[.int .i64 (a.at_ k + (rec_ a.L k).s 5)] 3)).own (Nat.le_refl _) (ho.alloc _) hg5
            have hG5 := (HGG.out.keep ((Bel.refl wr).alloc (.cells #[.int .i64 (a.at_ k + (rec_ a.L k).s 5)] 3))).step hg5 hat5
            have hS5 := (HSS.out.keep ((Bel.refl wr).alloc (.cells #[.int .i64 (a.at_ k + (rec_ a.L k).s 5)] 3))).step hg5 hat5
            have e6 := (hb5.cell _ _ hbl).trans x6
            have e8 := (hb5.cell _ _ hbl).trans x8
            have eZ := (hb5.cell _ _ hblz).trans xZ
            have HG5 := Lib.hid hG5
            have HS5 := Lib.hid hS5
            have HO5 := Lib.hid ho5
            clear hG5 hS5 ho5 hat5 hg5 d5 d6 d7 d8 dZ x6 x8 xZ
            go_wp2_with fail
            have q1 : IntKind.i64.wrap (a.at_ k + (rec_ a.L k).s 5 + at_ a.zs k) = a.at_ k + (rec_ a.L k).s 5 + at_ a.zs k := IntWalk.i64_in _ (by omega)
            have q2 : IntKind.i64.wrap (a.at_ k + (rec_ a.L k).s 5 + at_ a.zs k + (rec_ a.L k).s 6) = a.at_ k + (rec_ a.L k).s 5 + at_ a.zs k + (rec_ a.L k).s 6 := IntWalk.i64_in _ (by omega)
            go_quiet (fail)
            clear q1 q2
            have huG : u < au := by have := HU8.out (by simp); simpa using this
            obtain ⟨bg, og, hge, hblg, hcg⟩ := HG5.out.1 u (by rw [HGL.out]; exact huG)
            cases hge
            have hui : (u : Int) < (au : Int) := by omega
            have g8 := hcg u (by rw [HGL.out]; exact huG)
            have k8 : at_ gv u = a.addE k := by rw [HGV.out u (by rw [HGL.out]; exact huG), HAE.out]; simp
            rw [k8] at g8
            try rw [Nat.zero_add] at g8
            clear hcg
            by_cases hlast : k + 1 < a.L.length
            · have hli2 : (k : Int) + 1 < (a.L.length : Int) := by omega
              obtain ⟨bs, os, hse, hbls, hcs⟩ := HS5.out.1 k (by rw [HSPL.out]; exact hlt)
              cases hse
              have b5 := HSB.out k hlast
              have eS := hcs k (by rw [HSPL.out]; exact hlt)
              rw [HSV.out k hlast] at eS
              try rw [Nat.zero_add] at eS
              clear hcs
              go_wp2_with fail
              go_roundw
              case rel => exact ⟨k + 1, u + 1, by omega, HNU.out, by go_num, by rw [HSN.out hlast], by go_num, by rw [a.starts_succ, ← VI_snoc, HAB.out]; exact own_drewN HO5.out _, hb5.drewN _, HG5.out.keep ((Bel.refl _).drewN _), HS5.out.keep ((Bel.refl _).drewN _)⟩
              case measure => simp [intOf]; omega
            · have hli2 : (a.L.length : Int) ≤ (k : Int) + 1 := by omega
              go_wp2_with fail
              go_roundw
              case rel => exact ⟨k + 1, u + 1, by omega, HNU.out, by go_num, by rw [HSL2.out hlast], by go_num, by rw [a.starts_succ, ← VI_snoc, HAB.out]; exact own_drewN HO5.out _, hb5.drewN _, HG5.out.keep ((Bel.refl _).drewN _), HS5.out.keep ((Bel.refl _).drewN _)⟩
              case measure => simp [intOf]; omega
          · have HNU : Hid (autosTo a.L (k + 1) = ((u + 1 : Nat) : Int)) := hid' (by simp only [autosTo, h7, h8, hu]; simp; try omega)
            have HAB : Hid (a.start k = a.at_ k + (rec_ a.L k).s 5 + a.addB k) := hid' (by rw [HB.out]; simp only [Al.addB, h7]; simp; try omega)
            have HSN : Hid (k + 1 < a.L.length → a.at_ (k + 1) = a.at_ k + (rec_ a.L k).s 5 + a.addB k + at_ a.zs k + (rec_ a.L k).s 6 + a.gap + a.sp k) := hid' (fun hl => by have e := HS.out; rw [if_pos hl] at e; simp only [Al.addB, Al.addE, h7, h8] at e ⊢; simp at e ⊢; omega)
            have HSL2 : Hid (¬ k + 1 < a.L.length → a.at_ (k + 1) = a.at_ k + (rec_ a.L k).s 5 + a.addB k + at_ a.zs k + (rec_ a.L k).s 6) := hid' (fun hl => by have e := HS.out; rw [if_neg hl] at e; simp only [Al.addB, Al.addE, h7, h8] at e ⊢; simp at e ⊢; omega)
            have huG := HU7.out (by simp)
            obtain ⟨bg, og, hge, hblg, hcg⟩ := hG.1 u (by rw [HGL.out]; exact huG)
            cases hge
            have hui : (u : Int) < (au : Int) := by omega
            have g7 := hcg u (by rw [HGL.out]; exact huG)
            have k7 : at_ gv u = a.addB k := by rw [HGV.out u (by rw [HGL.out]; exact huG), HAD.out, if_pos rfl]
            rw [k7] at g7
            try rw [Nat.zero_add] at g7
            clear hcg
            have HGG := Lib.hid hG
            have HSS := Lib.hid hS
            clear hG hS h7 h8
            go_wp2_with (at_builtin; refine app1w rfl (.tmp 88) (.tmp 90) rfl w.heap.size _ k _ rfl (ho.alloc _) wr.heap.size _ rfl (World.cell?_alloc_new _ _ _ _) (by omega) (hb.alloc _).sz ?_; intro v' w5 ho5 hg5 hat5)
            have hb5 := (hb.alloc (.cells #[.int .i64 (a.at_ k + (rec_ a.L k).s 5 + a.addB k)] 3)).own (Nat.le_refl _) (ho.alloc _) hg5
            have hG5 := (HGG.out.keep ((Bel.refl wr).alloc (.cells #[.int .i64 (a.at_ k + (rec_ a.L k).s 5 + a.addB k)] 3))).step hg5 hat5
            have hS5 := (HSS.out.keep ((Bel.refl wr).alloc (.cells #[.int .i64 (a.at_ k + (rec_ a.L k).s 5 + a.addB k)] 3))).step hg5 hat5
            have e6 := (hb5.cell _ _ hbl).trans x6
            have e8 := (hb5.cell _ _ hbl).trans x8
            have eZ := (hb5.cell _ _ hblz).trans xZ
            have HG5 := Lib.hid hG5
            have HS5 := Lib.hid hS5
            have HO5 := Lib.hid ho5
            clear hG5 hS5 ho5 hat5 hg5 d5 d6 d7 d8 dZ x6 x8 xZ
            go_wp2_with fail
            have q1 : IntKind.i64.wrap (a.at_ k + (rec_ a.L k).s 5 + a.addB k + at_ a.zs k) = a.at_ k + (rec_ a.L k).s 5 + a.addB k + at_ a.zs k := IntWalk.i64_in _ (by omega)
            have q2 : IntKind.i64.wrap (a.at_ k + (rec_ a.L k).s 5 + a.addB k + at_ a.zs k + (rec_ a.L k).s 6) = a.at_ k + (rec_ a.L k).s 5 + a.addB k + at_ a.zs k + (rec_ a.L k).s 6 := IntWalk.i64_in _ (by omega)
            go_quiet (fail)
            clear q1 q2
            skip
            by_cases hlast : k + 1 < a.L.length
            · have hli2 : (k : Int) + 1 < (a.L.length : Int) := by omega
              obtain ⟨bs, os, hse, hbls, hcs⟩ := HS5.out.1 k (by rw [HSPL.out]; exact hlt)
              cases hse
              have b5 := HSB.out k hlast
              have eS := hcs k (by rw [HSPL.out]; exact hlt)
              rw [HSV.out k hlast] at eS
              try rw [Nat.zero_add] at eS
              clear hcs
              go_wp2_with fail
              go_roundw
              case rel => exact ⟨k + 1, u + 1, by omega, HNU.out, by go_num, by rw [HSN.out hlast], by go_num, by rw [a.starts_succ, ← VI_snoc, HAB.out]; exact own_drewN HO5.out _, hb5.drewN _, HG5.out.keep ((Bel.refl _).drewN _), HS5.out.keep ((Bel.refl _).drewN _)⟩
              case measure => simp [intOf]; omega
            · have hli2 : (a.L.length : Int) ≤ (k : Int) + 1 := by omega
              go_wp2_with fail
              go_roundw
              case rel => exact ⟨k + 1, u + 1, by omega, HNU.out, by go_num, by rw [HSL2.out hlast], by go_num, by rw [a.starts_succ, ← VI_snoc, HAB.out]; exact own_drewN HO5.out _, hb5.drewN _, HG5.out.keep ((Bel.refl _).drewN _), HS5.out.keep ((Bel.refl _).drewN _)⟩
              case measure => simp [intOf]; omega
          · have HNU : Hid (autosTo a.L (k + 1) = ((u + 2 : Nat) : Int)) := hid' (by simp only [autosTo, h7, h8, hu]; simp; try omega)
            have HAB : Hid (a.start k = a.at_ k + (rec_ a.L k).s 5 + a.addB k) := hid' (by rw [HB.out]; simp only [Al.addB, h7]; simp; try omega)
            have HSN : Hid (k + 1 < a.L.length → a.at_ (k + 1) = a.at_ k + (rec_ a.L k).s 5 + a.addB k + at_ a.zs k + (rec_ a.L k).s 6 + a.addE k + a.gap + a.sp k) := hid' (fun hl => by have e := HS.out; rw [if_pos hl] at e; simp only [Al.addB, Al.addE, h7, h8] at e ⊢; simp at e ⊢; omega)
            have HSL2 : Hid (¬ k + 1 < a.L.length → a.at_ (k + 1) = a.at_ k + (rec_ a.L k).s 5 + a.addB k + at_ a.zs k + (rec_ a.L k).s 6 + a.addE k) := hid' (fun hl => by have e := HS.out; rw [if_neg hl] at e; simp only [Al.addB, Al.addE, h7, h8] at e ⊢; simp at e ⊢; omega)
            have huG := HU7.out (by simp)
            obtain ⟨bg, og, hge, hblg, hcg⟩ := hG.1 u (by rw [HGL.out]; exact huG)
            cases hge
            have hui : (u : Int) < (au : Int) := by omega
            have g7 := hcg u (by rw [HGL.out]; exact huG)
            have k7 : at_ gv u = a.addB k := by rw [HGV.out u (by rw [HGL.out]; exact huG), HAD.out, if_pos rfl]
            rw [k7] at g7
            try rw [Nat.zero_add] at g7
            clear hcg
            have HGG := Lib.hid hG
            have HSS := Lib.hid hS
            clear hG hS h7 h8
            go_wp2_with (at_builtin; refine app1w rfl (.tmp 88) (.tmp 90) rfl w.heap.size _ k _ rfl (ho.alloc _) wr.heap.size _ rfl (World.cell?_alloc_new _ _ _ _) (by omega) (hb.alloc _).sz ?_; intro v' w5 ho5 hg5 hat5)
            have hb5 := (hb.alloc (.cells #[.int .i64 (a.at_ k + (rec_ a.L k).s 5 + a.addB k)] 3)).own (Nat.le_refl _) (ho.alloc _) hg5
            have hG5 := (HGG.out.keep ((Bel.refl wr).alloc (.cells #[.int .i64 (a.at_ k + (rec_ a.L k).s 5 + a.addB k)] 3))).step hg5 hat5
            have hS5 := (HSS.out.keep ((Bel.refl wr).alloc (.cells #[.int .i64 (a.at_ k + (rec_ a.L k).s 5 + a.addB k)] 3))).step hg5 hat5
            have e6 := (hb5.cell _ _ hbl).trans x6
            have e8 := (hb5.cell _ _ hbl).trans x8
            have eZ := (hb5.cell _ _ hblz).trans xZ
            have HG5 := Lib.hid hG5
            have HS5 := Lib.hid hS5
            have HO5 := Lib.hid ho5
            clear hG5 hS5 ho5 hat5 hg5 d5 d6 d7 d8 dZ x6 x8 xZ
            go_wp2_with fail
            have q1 : IntKind.i64.wrap (a.at_ k + (rec_ a.L k).s 5 + a.addB k + at_ a.zs k) = a.at_ k + (rec_ a.L k).s 5 + a.addB k + at_ a.zs k := IntWalk.i64_in _ (by omega)
            have q2 : IntKind.i64.wrap (a.at_ k + (rec_ a.L k).s 5 + a.addB k + at_ a.zs k + (rec_ a.L k).s 6) = a.at_ k + (rec_ a.L k).s 5 + a.addB k + at_ a.zs k + (rec_ a.L k).s 6 := IntWalk.i64_in _ (by omega)
            go_quiet (fail)
            clear q1 q2
            have huG2 : u + 1 < au := by have := HU8.out (by simp); simpa using this
            obtain ⟨bg2, og2, hge2, hblg2, hcg2⟩ := HG5.out.1 (u + 1) (by rw [HGL.out]; exact huG2)
            cases hge2
            have hui2 : (u : Int) + 1 < (au : Int) := by omega
            have q4 : ((u : Int) + 1).toNat = u + 1 := by omega
            have g8 := hcg2 (u + 1) (by rw [HGL.out]; exact huG2)
            have k8 : at_ gv (u + 1) = a.addE k := by rw [HGV.out (u + 1) (by rw [HGL.out]; exact huG2), HAE.out]; simp
            rw [k8] at g8
            try rw [Nat.zero_add] at g8
            clear hcg2
            by_cases hlast : k + 1 < a.L.length
            · have hli2 : (k : Int) + 1 < (a.L.length : Int) := by omega
              obtain ⟨bs, os, hse, hbls, hcs⟩ := HS5.out.1 k (by rw [HSPL.out]; exact hlt)
              cases hse
              have b5 := HSB.out k hlast
              have eS := hcs k (by rw [HSPL.out]; exact hlt)
              rw [HSV.out k hlast] at eS
              try rw [Nat.zero_add] at eS
              clear hcs
              go_wp2_with fail
              go_roundw
              case rel => exact ⟨k + 1, u + 2, by omega, HNU.out, by go_num, by rw [HSN.out hlast], by go_num, by rw [a.starts_succ, ← VI_snoc, HAB.out]; exact own_drewN HO5.out _, hb5.drewN _, HG5.out.keep ((Bel.refl _).drewN _), HS5.out.keep ((Bel.refl _).drewN _)⟩
              case measure => simp [intOf]; omega
            · have hli2 : (a.L.length : Int) ≤ (k : Int) + 1 := by omega
              go_wp2_with fail
              go_roundw
              case rel => exact ⟨k + 1, u + 2, by omega, HNU.out, by go_num, by rw [HSL2.out hlast], by go_num, by rw [a.starts_succ, ← VI_snoc, HAB.out]; exact own_drewN HO5.out _, hb5.drewN _, HG5.out.keep ((Bel.refl _).drewN _), HS5.out.keep ((Bel.refl _).drewN _)⟩
              case measure => simp [intOf]; omega
        · obtain rfl : k = a.L.length := by omega
          go_wp2_with fail
          go_ret2
          exact HRET.out _ _ ho hb
    · have HEX1 : Hid (a.ex = []) := hid' (by rw [HEX0.out, alEx, if_neg (by omega)])
      obtain ⟨gv, hgv⟩ : ∃ gv : List Int, gv = List.replicate au 0 := ⟨_, rfl⟩
      have HGL : Hid (gv.length = au) := hid' (by rw [hgv]; simp)
      have HGV : Hid (∀ i, i < gv.length → at_ gv i = elementOf a.ex (i : Int)) := hid' (fun i hi => by rw [HEX1.out, hgv, zeros_at]; simp [elementOf, at_])
      have HGE := Lib.hid hgv
      have hfn : free ≤ 0 := by omega
      clear hgv hfp
      go_wp2_with (first | (at_make; refine wpList_make_full _ rfl (.tmp 36) (.tmp 36) 35 rfl w3.heap.size 3 i0 (.int .i64 0) 1 Try.underlying35 hi hz0 hz1 .i64 .i64 au au au rfl rfl rfl rfl (by rw [hz2]; omega) (by unfold maxLen; omega) (Nat.le_refl _) ?_; intro w4 hown4 hg4) | (at_make; refine wpList_make_full _ rfl (.tmp 39) (.tmp 39) 35 rfl w4.heap.size 3 i0 (.int .i64 0) 1 Try.underlying35 hi hz0 hz1 .i64 .i64 a.L.length a.L.length a.L.length rfl rfl rfl rfl (by rw [hz2]; omega) (by unfold maxLen; omega) (Nat.le_refl _) ?_; intro w5 hown5 hg5))
      have hb34 : Bel w3 w4 := (Bel.refl w3).grown hg4 (by simp)
      have hb4 := hb03.trans hb34
      have hm : (Value.int .i64 0).cells = #[.int .i64 0] := rfl
      have HO4 := Lib.hid (own_keep HO3.out hb34)
      have hb45 : Bel w4 w5 := (Bel.refl w4).grown hg5 (by simp)
      have hb5 := hb4.trans hb45
      have s0 : w.heap.size < w3.heap.size := by have := ((hb1.trans hb2).trans hb3).sz; simp at this; omega
      have s1 : w3.heap.size ≤ w4.heap.size := hb34.sz
      have HO5 := Lib.hid (own_keep HO4.out hb45)
      rw [hm, toList_madeCells_one, Nat.mul_one, VI_zeros] at hown5
      rw [hm, toList_madeCells_one, Nat.mul_one, VI_zeros] at hown4
      have HG4 := Lib.hid (own_keep hown4 hb45)
      have HS5 := Lib.hid hown5
      clear hown4 hown5 hg4 hg5 hm
      have HSX : Hid (Beside w5 (.slice (some ⟨w.heap.size, 0, none⟩) 0 0) (some ⟨w4.heap.size, 0, none⟩) sp) := hid' (by rw [HSE.out]; exact Beside.new HS5.out (by omega))
      have HG0 : Hid (Beside w5 (.slice (some ⟨w.heap.size, 0, none⟩) 0 0) (some ⟨w3.heap.size, 0, none⟩) gv) := hid' (by rw [HGE.out]; exact Beside.new HG4.out (by omega))
      go_loopw [12, 16, 18, 19] (fun out q m i wr => ∃ (k u : Nat), k ≤ a.L.length ∧ autosTo a.L k = (u : Int) ∧ i = .int .i64 k ∧ q = .int .i64 (a.at_ k) ∧ m = .int .i64 (u : Nat) ∧ wr.ownsRow w.heap.size 3 1 out k (VI (a.starts k)) ∧ Bel w wr ∧ Beside wr out (some ⟨w3.heap.size, 0, none⟩) gv ∧ Beside wr out (some ⟨w4.heap.size, 0, none⟩) sp) (fun _ _ _ i _ => a.L.length - (intOf i).toNat)
      case atStart => exact ⟨0, 0, Nat.zero_le _, rfl, by go_num, by (show _ = Value.int .i64 a.lead; rw [HLE.out]), rfl, HO5.out, hb5, HG0.out, HSX.out⟩
      case round =>
        obtain ⟨k, u, hk, hu, rfl, rfl, rfl, ho, hb, hG, hS⟩ := hrel
        by_cases hlt : k < a.L.length
        · obtain ⟨b, o, rfl, hbl, hc⟩ := h k hlt
          obtain ⟨x0, x1, x2, x3, x4, x5, x6, x7, x8⟩ := item_cells hc hlt
          have d5 := (hb.cell _ _ hbl).trans x5
          have d6 := (hb.cell _ _ hbl).trans x6
          have d7 := (hb.cell _ _ hbl).trans x7
          have d8 := (hb.cell _ _ hbl).trans x8
          clear hc x0 x1 x2 x3 x4 x5 x7
          have hltz : k < a.zs.length := by have := HZL.out; omega
          obtain ⟨bz, oz, rfl, hblz, hcz⟩ := hz k hltz
          have xZ := hcz k hltz
          have dZ := (hb.cell _ _ hblz).trans xZ
          clear hcz
          have hlti : (k : Int) < (a.L.length : Int) := by omega
          have hltzi : (k : Int) < (a.zs.length : Int) := by omega
          have b1 := HAT.out k hk
          have b2 := HADD.out k
          have b3 := HP5.out k hltz
          have b4 := HP6.out k hlt
          have HS : Hid (a.at_ (k + 1) = a.at_ k + ((rec_ a.L k).s 5 + a.addB k) + (at_ a.zs k + (rec_ a.L k).s 6 + a.addE k) + (if k + 1 < a.L.length then a.gap + a.sp k else 0)) := hid' rfl
          have HB : Hid (a.start k = a.at_ k + ((rec_ a.L k).s 5 + a.addB k)) := hid' rfl
          have HU7 : Hid ((rec_ a.L k).b 7 = true → u < au) := hid' (fun h7 => by have := autosTo_lt7 hlt h7; rw [hu, HAU.out] at this; omega)
          have HU8 : Hid ((rec_ a.L k).b 8 = true → u + (if (rec_ a.L k).b 7 = true then 1 else 0) < au) := hid' (fun h8 => by have := autosTo_lt8 hlt h8; rw [hu, HAU.out] at this; split at this <;> rename_i h <;> simp only [h, if_true, if_false] <;> simp <;> omega)
          have HAD : Hid (a.addB k = (if (rec_ a.L k).b 7 = true then elementOf a.ex (u : Int) else 0)) := hid' (by rw [Al.addB, hu])
          have HAE : Hid (a.addE k = (if (rec_ a.L k).b 8 = true then elementOf a.ex ((u : Int) + (if (rec_ a.L k).b 7 = true then 1 else 0)) else 0)) := hid' (by rw [Al.addE, Al.mid, hu])
          cases h7 : (rec_ a.L k).b 7 <;> cases h8 : (rec_ a.L k).b 8 <;> rw [h7] at d7 HU7 HU8 HAD HAE <;> rw [h8] at d8 x8 HU8 HAE
          · have HNU : Hid (autosTo a.L (k + 1) = ((u : Nat) : Int)) := hid' (by simp only [autosTo, h7, h8, hu]; simp; try omega)
            have HAB : Hid (a.start k = a.at_ k + (rec_ a.L k).s 5) := hid' (by rw [HB.out]; simp only [Al.addB, h7]; simp; try omega)
            have HSN : Hid (k + 1 < a.L.length → a.at_ (k + 1) = a.at_ k + (rec_ a.L k).s 5 + at_ a.zs k + (rec_ a.L k).s 6 + a.gap + a.sp k) := hid' (fun hl => by have e := HS.out; rw [if_pos hl] at e; simp only [Al.addB, Al.addE, h7, h8] at e ⊢; simp at e ⊢; omega)
            have HSL2 : Hid (¬ k + 1 < a.L.length → a.at_ (k + 1) = a.at_ k + (rec_ a.L k).s 5 + at_ a.zs k + (rec_ a.L k).s 6) := hid' (fun hl => by have e := HS.out; rw [if_neg hl] at e; simp only [Al.addB, Al.addE, h7, h8] at e ⊢; simp at e ⊢; omega)
            skip
            have HGG := Lib.hid hG
            have HSS := Lib.hid hS
            clear hG hS h7 h8
            go_wp2_with (at_builtin; refine app1w rfl (.tmp 88) (.tmp 90) rfl w.heap.size _ k _ rfl (ho.alloc _) wr.heap.size _ rfl (World.cell?_alloc_new _ _ _ _) (by omega) (hb.alloc _).sz ?_; intro v' w5 ho5 hg5 hat5)
            have hb5 := (hb.alloc (.cells #[.int .i64 (a.at_ k + (rec_ a.L k).s 5)] 3)).own (Nat.le_refl _) (ho.alloc _) hg5
            have hG5 := (HGG.out.keep ((Bel.refl wr).alloc (.cells #[.int .i64 (a.at_ k + (rec_ a.L k).s 5)] 3))).step hg5 hat5
            have hS5 := (HSS.out.keep ((Bel.refl wr).alloc (.cells #[.int .i64 (a.at_ k + (rec_ a.L k).s 5)] 3))).step hg5 hat5
            have e6 := (hb5.cell _ _ hbl).trans x6
            have e8 := (hb5.cell _ _ hbl).trans x8
            have eZ := (hb5.cell _ _ hblz).trans xZ
            have HG5 := Lib.hid hG5
            have HS5 := Lib.hid hS5
            have HO5 := Lib.hid ho5
            clear hG5 hS5 ho5 hat5 hg5 d5 d6 d7 d8 dZ x6 x8 xZ
            go_wp2_with fail
            have q1 : IntKind.i64.wrap (a.at_ k + (rec_ a.L k).s 5 + at_ a.zs k) = a.at_ k + (rec_ a.L k).s 5 + at_ a.zs k := IntWalk.i64_in _ (by omega)
            have q2 : IntKind.i64.wrap (a.at_ k + (rec_ a.L k).s 5 + at_ a.zs k + (rec_ a.L k).s 6) = a.at_ k + (rec_ a.L k).s 5 + at_ a.zs k + (rec_ a.L k).s 6 := IntWalk.i64_in _ (by omega)
            go_quiet (fail)
            clear q1 q2
            skip
            by_cases hlast : k + 1 < a.L.length
            · have hli2 : (k : Int) + 1 < (a.L.length : Int) := by omega
              obtain ⟨bs, os, hse, hbls, hcs⟩ := HS5.out.1 k (by rw [HSPL.out]; exact hlt)
              cases hse
              have b5 := HSB.out k hlast
              have eS := hcs k (by rw [HSPL.out]; exact hlt)
              rw [HSV.out k hlast] at eS
              try rw [Nat.zero_add] at eS
              clear hcs
              go_wp2_with fail
              go_roundw
              case rel => exact ⟨k + 1, u, by omega, HNU.out, by go_num, by rw [HSN.out hlast], by go_num, by rw [a.starts_succ, ← VI_snoc, HAB.out]; exact own_drewN HO5.out _, hb5.drewN _, HG5.out.keep ((Bel.refl _).drewN _), HS5.out.keep ((Bel.refl _).drewN _)⟩
              case measure => simp [intOf]; omega
            · have hli2 : (a.L.length : Int) ≤ (k : Int) + 1 := by omega
              go_wp2_with fail
              go_roundw
              case rel => exact ⟨k + 1, u, by omega, HNU.out, by go_num, by rw [HSL2.out hlast], by go_num, by rw [a.starts_succ, ← VI_snoc, HAB.out]; exact own_drewN HO5.out _, hb5.drewN _, HG5.out.keep ((Bel.refl _).drewN _), HS5.out.keep ((Bel.refl _).drewN _)⟩
              case measure => simp [intOf]; omega
          · have HNU : Hid (autosTo a.L (k + 1) = ((u + 1 : Nat) : Int)) := hid' (by simp only [autosTo, h7, h8, hu]; simp; try omega)
            have HAB : Hid (a.start k = a.at_ k + (rec_ a.L k).s 5) := hid' (by rw [HB.out]; simp only [Al.addB, h7]; simp; try omega)
            have HSN : Hid (k + 1 < a.L.length → a.at_ (k + 1) = a.at_ k + (rec_ a.L k).s 5 + at_ a.zs k + (rec_ a.L k).s 6 + a.addE k + a.gap + a.sp k) := hid' (fun hl => by have e := HS.out; rw [if_pos hl] at e; simp only [Al.addB, Al.addE, h7, h8] at e ⊢; simp at e ⊢; omega)
            have HSL2 : Hid (¬ k + 1 < a.L.length → a.at_ (k + 1) = a.at_ k + (rec_ a.L k).s 5 + at_ a.zs k + (rec_ a.L k).s 6 + a.addE k) := hid' (fun hl => by have e := HS.out; rw [if_neg hl] at e; simp only [Al.addB, Al.addE, h7, h8] at e ⊢; simp at e ⊢; omega)
            skip
            have HGG := Lib.hid hG
            have HSS := Lib.hid hS
            clear hG hS h7 h8
            go_wp2_with (at_builtin; refine app1w rfl (.tmp 88) (.tmp 90) rfl w.heap.size _ k _ rfl (ho.alloc _) wr.heap.size _ rfl (World.cell?_alloc_new _ _ _ _) (by omega) (hb.alloc _).sz ?_; intro v' w5 ho5 hg5 hat5)
            have hb5 := (hb.alloc (.cells #[.int .i64 (a.at_ k + (rec_ a.L k).s 5)] 3)).own (Nat.le_refl _) (ho.alloc _) hg5
            have hG5 := (HGG.out.keep ((Bel.refl wr).alloc (.cells #[.int .i64 (a.at_ k + (rec_ a.L k).s 5)] 3))).step hg5 hat5
            have hS5 := (HSS.out.keep ((Bel.refl wr).alloc (.cells #[.int .i64 (a.at_ k + (rec_ a.L k).s 5)] 3))).step hg5 hat5
            have e6 := (hb5.cell _ _ hbl).trans x6
            have e8 := (hb5.cell _ _ hbl).trans x8
            have eZ := (hb5.cell _ _ hblz).trans xZ
            have HG5 := Lib.hid hG5
            have HS5 := Lib.hid hS5
            have HO5 := Lib.hid ho5
            clear hG5 hS5 ho5 hat5 hg5 d5 d6 d7 d8 dZ x6 x8 xZ
            go_wp2_with fail
            have q1 : IntKind.i64.wrap (a.at_ k + (rec_ a.L k).s 5 + at_ a.zs k) = a.at_ k + (rec_ a.L k).s 5 + at_ a.zs k := IntWalk.i64_in _ (by omega)
            have q2 : IntKind.i64.wrap (a.at_ k + (rec_ a.L k).s 5 + at_ a.zs k + (rec_ a.L k).s 6) = a.at_ k + (rec_ a.L k).s 5 + at_ a.zs k + (rec_ a.L k).s 6 := IntWalk.i64_in _ (by omega)
            go_quiet (fail)
            clear q1 q2
            have huG : u < au := by have := HU8.out (by simp); simpa using this
            obtain ⟨bg, og, hge, hblg, hcg⟩ := HG5.out.1 u (by rw [HGL.out]; exact huG)
            cases hge
            have hui : (u : Int) < (au : Int) := by omega
            have g8 := hcg u (by rw [HGL.out]; exact huG)
            have k8 : at_ gv u = a.addE k := by rw [HGV.out u (by rw [HGL.out]; exact huG), HAE.out]; simp
            rw [k8] at g8
            try rw [Nat.zero_add] at g8
            clear hcg
            by_cases hlast : k + 1 < a.L.length
            · have hli2 : (k : Int) + 1 < (a.L.length : Int) := by omega
              obtain ⟨bs, os, hse, hbls, hcs⟩ := HS5.out.1 k (by rw [HSPL.out]; exact hlt)
              cases hse
              have b5 := HSB.out k hlast
              have eS := hcs k (by rw [HSPL.out]; exact hlt)
              rw [HSV.out k hlast] at eS
              try rw [Nat.zero_add] at eS
              clear hcs
              go_wp2_with fail
              go_roundw
              case rel => exact ⟨k + 1, u + 1, by omega, HNU.out, by go_num, by rw [HSN.out hlast], by go_num, by rw [a.starts_succ, ← VI_snoc, HAB.out]; exact own_drewN HO5.out _, hb5.drewN _, HG5.out.keep ((Bel.refl _).drewN _), HS5.out.keep ((Bel.refl _).drewN _)⟩
              case measure => simp [intOf]; omega
            · have hli2 : (a.L.length : Int) ≤ (k : Int) + 1 := by omega
              go_wp2_with fail
              go_roundw
              case rel => exact ⟨k + 1, u + 1, by omega, HNU.out, by go_num, by rw [HSL2.out hlast], by go_num, by rw [a.starts_succ, ← VI_snoc, HAB.out]; exact own_drewN HO5.out _, hb5.drewN _, HG5.out.keep ((Bel.refl _).drewN _), HS5.out.keep ((Bel.refl _).drewN _)⟩
              case measure => simp [intOf]; omega
          · have HNU : Hid (autosTo a.L (k + 1) = ((u + 1 : Nat) : Int)) := hid' (by simp only [autosTo, h7, h8, hu]; simp; try omega)
            have HAB : Hid (a.start k = a.at_ k + (rec_ a.L k).s 5 + a.addB k) := hid' (by rw [HB.out]; simp only [Al.addB, h7]; simp; try omega)
            have HSN : Hid (k + 1 < a.L.length → a.at_ (k + 1) = a.at_ k + (rec_ a.L k).s 5 + a.addB k + at_ a.zs k + (rec_ a.L k).s 6 + a.gap + a.sp k) := hid' (fun hl => by have e := HS.out; rw [if_pos hl] at e; simp only [Al.addB, Al.addE, h7, h8] at e ⊢; simp at e ⊢; omega)
            have HSL2 : Hid (¬ k + 1 < a.L.length → a.at_ (k + 1) = a.at_ k + (rec_ a.L k).s 5 + a.addB k + at_ a.zs k + (rec_ a.L k).s 6) := hid' (fun hl => by have e := HS.out; rw [if_neg hl] at e; simp only [Al.addB, Al.addE, h7, h8] at e ⊢; simp at e ⊢; omega)
            have huG := HU7.out (by simp)
            obtain ⟨bg, og, hge, hblg, hcg⟩ := hG.1 u (by rw [HGL.out]; exact huG)
            cases hge
            have hui : (u : Int) < (au : Int) := by omega
            have g7 := hcg u (by rw [HGL.out]; exact huG)
            have k7 : at_ gv u = a.addB k := by rw [HGV.out u (by rw [HGL.out]; exact huG), HAD.out, if_pos rfl]
            rw [k7] at g7
            try rw [Nat.zero_add] at g7
            clear hcg
            have HGG := Lib.hid hG
            have HSS := Lib.hid hS
            clear hG hS h7 h8
            go_wp2_with (at_builtin; refine app1w rfl (.tmp 88) (.tmp 90) rfl w.heap.size _ k _ rfl (ho.alloc _) wr.heap.size _ rfl (World.cell?_alloc_new _ _ _ _) (by omega) (hb.alloc _).sz ?_; intro v' w5 ho5 hg5 hat5)
            have hb5 := (hb.alloc (.cells #[.int .i64 (a.at_ k + (rec_ a.L k).s 5 + a.addB k)] 3)).own (Nat.le_refl _) (ho.alloc _) hg5
            have hG5 := (HGG.out.keep ((Bel.refl wr).alloc (.cells #[.int .i64 (a.at_ k + (rec_ a.L k).s 5 + a.addB k)] 3))).step hg5 hat5
            have hS5 := (HSS.out.keep ((Bel.refl wr).alloc (.cells #[.int .i64 (a.at_ k + (rec_ a.L k).s 5 + a.addB k)] 3))).step hg5 hat5
            have e6 := (hb5.cell _ _ hbl).trans x6
            have e8 := (hb5.cell _ _ hbl).trans x8
            have eZ := (hb5.cell _ _ hblz).trans xZ
            have HG5 := Lib.hid hG5
            have HS5 := Lib.hid hS5
            have HO5 := Lib.hid ho5
            clear hG5 hS5 ho5 hat5 hg5 d5 d6 d7 d8 dZ x6 x8 xZ
            go_wp2_with fail
            have q1 : IntKind.i64.wrap (a.at_ k + (rec_ a.L k).s 5 + a.addB k + at_ a.zs k) = a.at_ k + (rec_ a.L k).s 5 + a.addB k + at_ a.zs k := IntWalk.i64_in _ (by omega)
            have q2 : IntKind.i64.wrap (a.at_ k + (rec_ a.L k).s 5 + a.addB k + at_ a.zs k + (rec_ a.L k).s 6) = a.at_ k + (rec_ a.L k).s 5 + a.addB k + at_ a.zs k + (rec_ a.L k).s 6 := IntWalk.i64_in _ (by omega)
            go_quiet (fail)
            clear q1 q2
            skip
            by_cases hlast : k + 1 < a.L.length
            · have hli2 : (k : Int) + 1 < (a.L.length : Int) := by omega
              obtain ⟨bs, os, hse, hbls, hcs⟩ := HS5.out.1 k (by rw [HSPL.out]; exact hlt)
              cases hse
              have b5 := HSB.out k hlast
              have eS := hcs k (by rw [HSPL.out]; exact hlt)
              rw [HSV.out k hlast] at eS
              try rw [Nat.zero_add] at eS
              clear hcs
              go_wp2_with fail
              go_roundw
              case rel => exact ⟨k + 1, u + 1, by omega, HNU.out, by go_num, by rw [HSN.out hlast], by go_num, by rw [a.starts_succ, ← VI_snoc, HAB.out]; exact own_drewN HO5.out _, hb5.drewN _, HG5.out.keep ((Bel.refl _).drewN _), HS5.out.keep ((Bel.refl _).drewN _)⟩
              case measure => simp [intOf]; omega
            · have hli2 : (a.L.length : Int) ≤ (k : Int) + 1 := by omega
              go_wp2_with fail
              go_roundw
              case rel => exact ⟨k + 1, u + 1, by omega, HNU.out, by go_num, by rw [HSL2.out hlast], by go_num, by rw [a.starts_succ, ← VI_snoc, HAB.out]; exact own_drewN HO5.out _, hb5.drewN _, HG5.out.keep ((Bel.refl _).drewN _), HS5.out.keep ((Bel.refl _).drewN _)⟩
              case measure => simp [intOf]; omega
          · have HNU : Hid (autosTo a.L (k + 1) = ((u + 2 : Nat) : Int)) := hid' (by simp only [autosTo, h7, h8, hu]; simp; try omega)
            have HAB : Hid (a.start k = a.at_ k + (rec_ a.L k).s 5 + a.addB k) := hid' (by rw [HB.out]; simp only [Al.addB, h7]; simp; try omega)
            have HSN : Hid (k + 1 < a.L.length → a.at_ (k + 1) = a.at_ k + (rec_ a.L k).s 5 + a.addB k + at_ a.zs k + (rec_ a.L k).s 6 + a.addE k + a.gap + a.sp k) := hid' (fun hl => by have e := HS.out; rw [if_pos hl] at e; simp only [Al.addB, Al.addE, h7, h8] at e ⊢; simp at e ⊢; omega)
            have HSL2 : Hid (¬ k + 1 < a.L.length → a.at_ (k + 1) = a.at_ k + (rec_ a.L k).s 5 + a.addB k + at_ a.zs k + (rec_ a.L k).s 6 + a.addE k) := hid' (fun hl => by have e := HS.out; rw [if_neg hl] at e; simp only [Al.addB, Al.addE, h7, h8] at e ⊢; simp at e ⊢; omega)
            have huG := HU7.out (by simp)
            obtain ⟨bg, og, hge, hblg, hcg⟩ := hG.1 u (by rw [HGL.out]; exact huG)
            cases hge
            have hui : (u : Int) < (au : Int) := by omega
            have g7 := hcg u (by rw [HGL.out]; exact huG)
            have k7 : at_ gv u = a.addB k := by rw [HGV.out u (by rw [HGL.out]; exact huG), HAD.out, if_pos rfl]
            rw [k7] at g7
            try rw [Nat.zero_add] at g7
            clear hcg
            have HGG := Lib.hid hG
            have HSS := Lib.hid hS
            clear hG hS h7 h8
            go_wp2_with (at_builtin; refine app1w rfl (.tmp 88) (.tmp 90) rfl w.heap.size _ k _ rfl (ho.alloc _) wr.heap.size _ rfl (World.cell?_alloc_new _ _ _ _) (by omega) (hb.alloc _).sz ?_; intro v' w5 ho5 hg5 hat5)
            have hb5 := (hb.alloc (.cells #[.int .i64 (a.at_ k + (rec_ a.L k).s 5 + a.addB k)] 3)).own (Nat.le_refl _) (ho.alloc _) hg5
            have hG5 := (HGG.out.keep ((Bel.refl wr).alloc (.cells #[.int .i64 (a.at_ k + (rec_ a.L k).s 5 + a.addB k)] 3))).step hg5 hat5
            have hS5 := (HSS.out.keep ((Bel.refl wr).alloc (.cells #[.int .i64 (a.at_ k + (rec_ a.L k).s 5 + a.addB k)] 3))).step hg5 hat5
            have e6 := (hb5.cell _ _ hbl).trans x6
            have e8 := (hb5.cell _ _ hbl).trans x8
            have eZ := (hb5.cell _ _ hblz).trans xZ
            have HG5 := Lib.hid hG5
            have HS5 := Lib.hid hS5
            have HO5 := Lib.hid ho5
            clear hG5 hS5 ho5 hat5 hg5 d5 d6 d7 d8 dZ x6 x8 xZ
            go_wp2_with fail
            have q1 : IntKind.i64.wrap (a.at_ k + (rec_ a.L k).s 5 + a.addB k + at_ a.zs k) = a.at_ k + (rec_ a.L k).s 5 + a.addB k + at_ a.zs k := IntWalk.i64_in _ (by omega)
            have q2 : IntKind.i64.wrap (a.at_ k + (rec_ a.L k).s 5 + a.addB k + at_ a.zs k + (rec_ a.L k).s 6) = a.at_ k + (rec_ a.L k).s 5 + a.addB k + at_ a.zs k + (rec_ a.L k).s 6 := IntWalk.i64_in _ (by omega)
            go_quiet (fail)
            clear q1 q2
            have huG2 : u + 1 < au := by have := HU8.out (by simp); simpa using this
            obtain ⟨bg2, og2, hge2, hblg2, hcg2⟩ := HG5.out.1 (u + 1) (by rw [HGL.out]; exact huG2)
            cases hge2
            have hui2 : (u : Int) + 1 < (au : Int) := by omega
            have q4 : ((u : Int) + 1).toNat = u + 1 := by omega
            have g8 := hcg2 (u + 1) (by rw [HGL.out]; exact huG2)
            have k8 : at_ gv (u + 1) = a.addE k := by rw [HGV.out (u + 1) (by rw [HGL.out]; exact huG2), HAE.out]; simp
            rw [k8] at g8
            try rw [Nat.zero_add] at g8
            clear hcg2
            by_cases hlast : k + 1 < a.L.length
            · have hli2 : (k : Int) + 1 < (a.L.length : Int) := by omega
              obtain ⟨bs, os, hse, hbls, hcs⟩ := HS5.out.1 k (by rw [HSPL.out]; exact hlt)
              cases hse
              have b5 := HSB.out k hlast
              have eS := hcs k (by rw [HSPL.out]; exact hlt)
              rw [HSV.out k hlast] at eS
              try rw [Nat.zero_add] at eS
              clear hcs
              go_wp2_with fail
              go_roundw
              case rel => exact ⟨k + 1, u + 2, by omega, HNU.out, by go_num, by rw [HSN.out hlast], by go_num, by rw [a.starts_succ, ← VI_snoc, HAB.out]; exact own_drewN HO5.out _, hb5.drewN _, HG5.out.keep ((Bel.refl _).drewN _), HS5.out.keep ((Bel.refl _).drewN _)⟩
              case measure => simp [intOf]; omega
            · have hli2 : (a.L.length : Int) ≤ (k : Int) + 1 := by omega
              go_wp2_with fail
              go_roundw
              case rel => exact ⟨k + 1, u + 2, by omega, HNU.out, by go_num, by rw [HSL2.out hlast], by go_num, by rw [a.starts_succ, ← VI_snoc, HAB.out]; exact own_drewN HO5.out _, hb5.drewN _, HG5.out.keep ((Bel.refl _).drewN _), HS5.out.keep ((Bel.refl _).drewN _)⟩
              case measure => simp [intOf]; omega
        · obtain rfl : k = a.L.length := by omega
          go_wp2_with fail
          go_ret2
          exact HRET.out _ _ ho hb
end Go.Proofs.Ytknccikdoabgfaa
