/- Flexing, the reference's text: all passes; FlexLine, FlexPasses. -/
import Derived.Test.YtmipjhnjlpmidaaFlexSp
namespace Go.Proofs.Ytmipjhnjlpmidaa
open Go.RowKit Go.ChangeShapes Go.WideShapes
set_option linter.unusedVariables false
set_option linter.unusedSimpArgs false

def VB (l : List Bool) : List Value := l.map Value.bool
def rowB (n : Nat) (f : Nat → Bool) : List Bool := (List.range n).map f
theorem rowB_succ (n : Nat) (f : Nat → Bool) : VB (rowB (n + 1) f) = VB (rowB n f) ++ [.bool (f n)] := by simp [VB, rowB, List.range_succ]
theorem rowOf_succ (n : Nat) (f : Nat → Int) : VI (rowOf (n + 1) f) = VI (rowOf n f) ++ [.int .i64 (f n)] := by simp [VI, rowOf, List.range_succ]
theorem rowB_at {n i : Nat} {f : Nat → Bool} (h : i < n) : (VB (rowB n f))[i]? = some (.bool (f i)) := by simp [VB, rowB, h]
theorem frees_nil {hd : Nat → Bool} {n i : Nat} (h : frees hd n = []) (hi : i < n) : hd i = true := by
  cases hh : hd i
  · have := frees_mem.2 ⟨hi, hh⟩
    rw [h] at this
    cases this
  · rfl
def cellN (w : World) (p : Nat) : Nat := match w.cell? ⟨p, 6, none⟩ with
  | some (.int _ n) => n.toNat
  | _ => 0
theorem new_at {w : World} {g : Nat} {v : Value} {t : TypeId} (h : g = w.heap.size) : (w.alloc (.cells #[v] t)).cell? ⟨g, 0, none⟩ = some v := by
  subst h
  rw [World.cell?_alloc_new]
  rfl
theorem own_slice {w : World} {base n size : Nat} {e : TypeId} {v : Value} {xs : List Value} (h : w.ownsRow base e size v n xs) : ∃ A c, v = .slice A n c := by
  rcases h.2 with ⟨h1, h0⟩ | ⟨g, c, cur, h1, _⟩
  · exact ⟨none, 0, by rw [h1, h0]⟩
  · exact ⟨_, c, h1⟩
theorem Try.info_bool1 : (Try.prog.info? 4).map (fun i => (i.zero, i.size, i.bytes)) = some (some (.bool false), 1, 1) := by kernel_rfl
/-- the struct while its rows are laid -/
structure Ini (w wr : World) (p : Nat) (A : Option Addr) (c : Nat) (L : List Rec) (gap inner : Int) (g : Bool) (H Z : Option Addr) (ch cz k : Nat) : Prop where
  bel : Bel w wr
  plo : w.heap.size ≤ p
  plt : p < wr.heap.size
  c0 : wr.cell? ⟨p, 0, none⟩ = some (.slice A L.length c)
  c1 : wr.cell? ⟨p, 1, none⟩ = some (.int .i64 gap)
  c2 : wr.cell? ⟨p, 2, none⟩ = some (.int .i64 inner)
  c3 : wr.cell? ⟨p, 3, none⟩ = some (.bool g)
  c4 : wr.cell? ⟨p, 4, none⟩ = some (.slice H k ch)
  c5 : wr.cell? ⟨p, 5, none⟩ = some (.slice Z k cz)
  c6 : wr.cell? ⟨p, 6, none⟩ = some (.int .i64 0)
  f : ∀ i, wr.frozen? ⟨p, i, none⟩ = false
  h : wr.ownsRow (p + 1) 4 1 (.slice H k ch) k (VB (rowB k (initHd L g)))
  z : wr.ownsRow (p + 1) 3 1 (.slice Z k cz) k (VI (rowOf k (baseSz L (initF L g))))
  o1 : Off (.slice H k ch) (.slice Z k cz)
  o2 : Off (.slice Z k cz) (.slice H k ch)
section
variable {w wr w' : World} {p : Nat} {A : Option Addr} {c : Nat} {L : List Rec} {gap inner : Int} {g : Bool} {H Z : Option Addr} {ch cz k : Nat}
theorem Ini.keep (h : Ini w wr p A c L gap inner g H Z ch cz k) (hb : Bel wr w') : Ini w w' p A c L gap inner g H Z ch cz k :=
  ⟨h.bel.trans hb, h.plo, Nat.lt_of_lt_of_le h.plt hb.sz, (hb.cell _ _ h.plt).trans h.c0, (hb.cell _ _ h.plt).trans h.c1, (hb.cell _ _ h.plt).trans h.c2, (hb.cell _ _ h.plt).trans h.c3, (hb.cell _ _ h.plt).trans h.c4, (hb.cell _ _ h.plt).trans h.c5, (hb.cell _ _ h.plt).trans h.c6, fun i => (hb.frozen _ _ h.plt).trans (h.f i), own_keep h.h hb, own_keep h.z hb, h.o1, h.o2⟩
theorem Ini.fl (h : Ini w wr p A c L gap inner g H Z ch cz L.length) : Fl w wr p 4 5 A c L gap inner g H Z ch cz (initF L g).hd (baseSz L (initF L g)) 0 :=
  ⟨h.bel, h.plo, h.plt, h.c0, h.c1, h.c2, h.c3, h.c4, h.c5, h.c6, h.f 6, own_base h.z (by have := h.plo; omega), fun b e => by have := (h.z.lt b e).1; omega, fun hn => by
    obtain ⟨gh, dh, e1⟩ := own_posM h.h hn
    obtain ⟨gz, dz, e2⟩ := own_posM h.z hn
    injection e1 with e1 _ _
    injection e2 with e2 _ _
    subst e1 e2
    have l1 := h.h.lt gh rfl
    have l2 := h.z.lt gz rfl
    have hp := h.plo
    refine ⟨gh, gz, rfl, rfl, by omega, l1.2, by omega, l2.2, ?_, by omega, by omega, fun i hi => ?_, fun i hi => h.h.frozenAt i, fun i hi => ?_, fun i hi => h.z.frozenAt i⟩
    · rcases h.o1 with e | e
      · simp [Value.ownBlock] at e
      · simpa [Value.ownBlock] using e
    · rw [h.h.cellAt i (by omega), rowB_at hi]; rfl
    · rw [h.z.cellAt i (by omega), VI_at (by rw [rowOf_length]; exact hi), rowOf_at hi]⟩
end
set_option maxRecDepth 100000 in
set_option maxHeartbeats 3000000 in
theorem sFlex_c (A : Option Addr) (c : Nat) (L : List Rec) (gap inner : Int) (w : World) (h : Recs w A k_item L) (hn : L.length ≤ 1048576) :
    Calls Try.prog 56 #[.slice A L.length c, .int .i64 gap, .int .i64 inner] w fun e w' => ∃ v, e = .returned (.tuple #[v, .int .i64 (flexP L gap inner : Nat)]) ∧ w'.ownsRow w.heap.size 3 1 v L.length (VI (flexL L gap inner)) ∧ Bel w w' := by
  have HB : Hid (flexOk L gap inner = false → flexP L gap inner = 0 ∧ flexL L gap inner = hyps L) := hid' (fun e => ⟨by rw [flexP, if_neg (by rw [e]; simp)], by rw [flexL, if_neg (by rw [e]; simp)]⟩)
  have HK : Hid (flexOk L gap inner = (itemsOk L && inB gap 0 1048576 && inB inner 0 1048576)) := hid' rfl
  cases hio : itemsOk L
  · obtain ⟨hp, hl⟩ := HB.out (by rw [HK.out, hio]; rfl)
    rw [hp, hl]
    go_enter Try.func56, Try.ntmps56
    go_wp2_with fail
    refine (sItemsOk_c _ _ _ _ h hn).mono ?_; rintro e w1 ⟨rfl, hb1⟩
    rw [hio]
    go_wp2_with fail
    refine (shyps_c _ _ _ _ (h.keep hb1) hn).mono ?_; rintro e w2 ⟨v, rfl, ho, hb2⟩
    go_wp2_with fail
    go_ret2
    exact ⟨v, rfl, own_base ho hb1.sz, hb1.trans hb2⟩
  · cases hg : inB gap 0 1048576
    · obtain ⟨hp, hl⟩ := HB.out (by rw [HK.out, hio, hg]; rfl)
      rw [hp, hl]
      go_enter Try.func56, Try.ntmps56
      go_wp2_with fail
      refine (sItemsOk_c _ _ _ _ h hn).mono ?_; rintro e w1 ⟨rfl, hb1⟩
      rw [hio]
      go_wp2_with (go_at_call 73; refine (l01In_c _ _ _ _).mono ?_; rintro e w' ⟨rfl, rfl⟩)
      refine (shyps_c _ _ _ _ (h.keep hb1) hn).mono ?_; rintro e w2 ⟨v, rfl, ho, hb2⟩
      go_wp2_with fail
      go_ret2
      exact ⟨v, rfl, own_base ho hb1.sz, hb1.trans hb2⟩
    · cases hi : inB inner 0 1048576
      · obtain ⟨hp, hl⟩ := HB.out (by rw [HK.out, hio, hg, hi]; rfl)
        rw [hp, hl]
        go_enter Try.func56, Try.ntmps56
        go_wp2_with fail
        refine (sItemsOk_c _ _ _ _ h hn).mono ?_; rintro e w1 ⟨rfl, hb1⟩
        rw [hio]
        go_wp2_with (go_at_call 73; refine (l01In_c _ _ _ _).mono ?_; rintro e w' ⟨rfl, rfl⟩)
        refine (shyps_c _ _ _ _ (h.keep hb1) hn).mono ?_; rintro e w2 ⟨v, rfl, ho, hb2⟩
        go_wp2_with fail
        go_ret2
        exact ⟨v, rfl, own_base ho hb1.sz, hb1.trans hb2⟩
      · have HFO : Hid (flexOk L gap inner = true) := hid' (by rw [HK.out, hio, hg, hi]; rfl)
        obtain ⟨h12, hit⟩ := itemsOk_at hio
        have HOK := Lib.hid hio
        have HIT := Lib.hid hit
        clear hit HB
        go_enter Try.func56, Try.ntmps56
        go_wp2_with fail
        refine (sItemsOk_c _ _ _ _ h hn).mono ?_; rintro e w1 ⟨rfl, hb1⟩
        rw [hio]
        go_wp2_with (go_at_call 73; refine (l01In_c _ _ _ _).mono ?_; rintro e w' ⟨rfl, rfl⟩)
        clear hio
        refine (sGrows_c _ _ _ _ _ _ (h.keep hb1) hn).mono ?_; rintro e w2 ⟨rfl, hb2⟩
        obtain ⟨g, hgr⟩ : ∃ g, growsB L gap inner = g := ⟨_, rfl⟩
        have HG := Lib.hid hgr
        rw [hgr]
        clear hgr hg hi
        go_wp2_with fail
        have hI0 : Ini w (w2.alloc (.cells #[.slice A L.length c, .int .i64 gap, .int .i64 inner, .bool g, .slice none 0 0, .slice none 0 0, .int .i64 0] 98)) w2.heap.size A c L gap inner g none none 0 0 0 :=
          ⟨(hb1.trans hb2).alloc _, (hb1.trans hb2).sz, by simp, by simp, by simp, by simp, by simp, by simp, by simp, by simp, fun i => by simp, ⟨rfl, .inl ⟨rfl, rfl⟩⟩, own_nil _ _ _, .inl rfl, .inl rfl⟩
        obtain ⟨w3, hw3⟩ : ∃ w3, w3 = w2.alloc (.cells #[.slice A L.length c, .int .i64 gap, .int .i64 inner, .bool g, .slice none 0 0, .slice none 0 0, .int .i64 0] 98) := ⟨_, rfl⟩
        rw [← hw3] at hI0 ⊢
        clear hw3
        obtain ⟨p, hp⟩ : ∃ p, w2.heap.size = p := ⟨_, rfl⟩
        rw [hp] at hI0 ⊢
        clear hp hb1 hb2
        go_loopw [9] (fun i wq => ∃ (k : Nat) (H Z : Option Addr) (ch cz : Nat), k ≤ L.length ∧ i = .int .i64 k ∧ Ini w wq p A c L gap inner g H Z ch cz k) (fun i _ => L.length - (intOf i).toNat)
        case atStart => exact ⟨0, none, none, 0, 0, Nat.zero_le _, by go_num, hI0⟩
        case round =>
          obtain ⟨k, H, Z, ch, cz, hk, rfl, hI⟩ := hrel
          by_cases hkl : k < L.length
          · have hki : (k : Int) < (L.length : Int) := by omega
            have hRr := h.keep hI.bel
            have HR := Lib.hid hRr
            obtain ⟨b, o, rfl, hbl, hc⟩ := hRr k hkl
            obtain ⟨x0, x1, x2, x3, x4, x5, x6, x7, x8⟩ := item_cells hc hkl
            have x0' := x0
            clear hc
            have HI := Lib.hid hI
            clear hI hRr
            go_wp2_with fail
            refine (sHypOf_c _ _ _ _ _ _ _ _ _ _).mono ?_; rintro e w4 ⟨rfl, hb4⟩
            have HI4 := hid' (HI.out.keep hb4)
            have HR4 := hid' (HR.out.keep hb4)
            clear x0 x1 x2 x3 x4 x5 x6 x7 x8
            have x0 := (hb4.cell _ _ hbl).trans x0'
            obtain ⟨hy, hhy⟩ : ∃ v, within ((rec_ L k).s 0) ((rec_ L k).s 1) ((rec_ L k).s 2) = v := ⟨_, rfl⟩
            have HHY : Hid (hypR (rec_ L k) = hy) := hid' hhy
            rw [hhy]
            clear hhy
            go_wp2_with fail
            refine (sWeight_c0 HR4.out HOK.out HI4.out.c0 HI4.out.c3 k hkl).mono ?_; rintro e w5 ⟨rfl, hb5⟩
            have HI5 := hid' (HI4.out.keep hb5)
            have d3 := HI5.out.c3
            have d4 := HI5.out.c4
            have d5 := HI5.out.c5
            have df4 := HI5.out.f 4
            have df5 := HI5.out.f 5
            have hpl := HI5.out.plt
            clear x0 x0'
            have HIH : Hid (initHd L g k = (wt L g k == 0 || (g && decide (hy < (rec_ L k).s 0)) || (!g && decide ((rec_ L k).s 0 < hy)))) := hid' (by rw [initHd, HHY.out])
            have HBZ : Hid (baseSz L (initF L g) k = if initHd L g k = true then hy else (rec_ L k).s 0) := hid' (by rw [baseSz, ← HHY.out]; rfl)
            obtain ⟨W, hW⟩ : ∃ v, wt L g k = v := ⟨_, rfl⟩
            rw [hW] at HIH ⊢
            clear hW
            obtain ⟨B, hB⟩ : ∃ v, (rec_ L k).s 0 = v := ⟨_, rfl⟩
            rw [hB] at HIH HBZ ⊢
            clear hB
            by_cases hw0 : W = 0
            · have HX : Hid (initHd L _ k = true) := hid' (HIH.out.trans (by simp [hw0]))
              clear HIH
              go_wp2_with (first
                | (at_builtin; refine appG rfl (.tmp 84) (.tmp 86) 68 4 rfl (.bool false) 1 1 Try.underlying68 Try.info_bool1 rfl (by decide) (by decide) (p + 1) _ _ _ rfl (HI5.out.h.alloc _) w5.heap.size rfl [.bool true] rfl (fun j u hj => by match j, hj with | 0, hj => simp at hj; subst hj; simp) (fun u hu => by simp at hu; subst hu; rfl) (by omega) (by simp; omega) ?_
                   intro v6 w6 hv6 hg6 hl6
                   obtain ⟨H', ch', rfl⟩ := own_slice hv6
                   have hz6 := (HI5.out.z.alloc (.cells #[.bool true] 4)).kept hg6 HI5.out.o2
                   have hof := Off.grow HI5.out.o1 HI5.out.o2 (HI5.out.z.alloc (.cells #[.bool true] 4)) hl6
                   have hb6 := (HI5.out.bel.alloc (.cells #[.bool true] 4)).grown hg6 (fun q e => by have := (HI5.out.h.alloc (.cells #[.bool true] 4)).lt q e; have := HI5.out.plo; omega)
                   have hp6 : ∀ o, w6.cell? ⟨p, o, none⟩ = w5.cell? ⟨p, o, none⟩ ∧ w6.frozen? ⟨p, o, none⟩ = w5.frozen? ⟨p, o, none⟩ := fun o => by
                     have hq := hg6.block p (Nat.lt_of_lt_of_le hpl ((Bel.refl w5).alloc (.cells #[.bool true] 4)).sz) (fun e => by have := (HI5.out.h.alloc (.cells #[.bool true] 4)).lt p e.symm; omega)
                     exact ⟨(World.cell?_of_block hq).trans (((Bel.refl w5).alloc (.cells #[.bool true] 4)).cell _ o hpl), (World.frozen?_of_block hq).trans (((Bel.refl w5).alloc (.cells #[.bool true] 4)).frozen _ o hpl)⟩
                   have hp6l : p < w6.heap.size := Nat.lt_of_lt_of_le hpl (Nat.le_trans ((Bel.refl w5).alloc (.cells #[.bool true] 4)).sz hg6.size)
                   have HP6 := Lib.hid hp6
                   have e4 := (hp6 4).1.trans d4
                   have e5 := (hp6 5).1.trans d5
                   have ef4 := (hp6 4).2.trans df4
                   have ef5 := (hp6 5).2.trans df5
                   have HH6 := hid' (own_set (p := p) (o := 4) (x := .slice H' (k + 1) ch') hv6 (by omega))
                   have HZ6 := hid' (own_set (p := p) (o := 4) (x := .slice H' (k + 1) ch') hz6 (by omega))
                   have HS6 : Hid ((w6.setCell ⟨p, 4, none⟩ (.slice H' (k + 1) ch')).heap.size = w6.heap.size) := hid' (by simp)
                   have HB6 := Lib.hid hb6
                   clear hp6 d4 d5 df4 df5 hg6 hl6 hb6 hz6 hv6)
                | (at_builtin; refine app1w rfl (.tmp 97) (.tmp 99) rfl (p + 1) _ _ _ rfl (HZ6.out.alloc _) _ _ rfl (new_at (by simp)) (by omega) (by simp; omega) ?_
                   intro v7 w7 hv7 hg7 hl7
                   obtain ⟨Z', cz', rfl⟩ := own_slice hv7
                   have hh7 := (HH6.out.alloc (.cells #[.int .i64 (hy)] 3)).kept hg7 hof.1
                   have hof7 := Off.grow hof.2 hof.1 (HH6.out.alloc (.cells #[.int .i64 (hy)] 3)) hl7
                   have hb7 := ((HB6.out.setCell (p := ⟨p, 4, none⟩) HI5.out.plo (.slice H' (k + 1) ch')).alloc (.cells #[.int .i64 (hy)] 3)).grown hg7 (fun q e => by have := (HZ6.out.alloc (.cells #[.int .i64 (hy)] 3)).lt q e; have := HI5.out.plo; omega)
                   have hp7 : ∀ o, w7.cell? ⟨p, o, none⟩ = (w6.setCell ⟨p, 4, none⟩ (.slice H' (k + 1) ch')).cell? ⟨p, o, none⟩ ∧ w7.frozen? ⟨p, o, none⟩ = w6.frozen? ⟨p, o, none⟩ := fun o => by
                     have hq := hg7.block p (Nat.lt_of_lt_of_le (show p < (w6.setCell ⟨p, 4, none⟩ (.slice H' (k + 1) ch')).heap.size by rw [HS6.out]; exact hp6l) ((Bel.refl (w6.setCell ⟨p, 4, none⟩ (.slice H' (k + 1) ch'))).alloc (.cells #[.int .i64 (hy)] 3)).sz) (fun e => by have := (HZ6.out.alloc (.cells #[.int .i64 (hy)] 3)).lt p e.symm; omega)
                     exact ⟨(World.cell?_of_block hq).trans (((Bel.refl (w6.setCell ⟨p, 4, none⟩ (.slice H' (k + 1) ch'))).alloc (.cells #[.int .i64 (hy)] 3)).cell _ o (show p < (w6.setCell ⟨p, 4, none⟩ (.slice H' (k + 1) ch')).heap.size by rw [HS6.out]; exact hp6l)), ((World.frozen?_of_block hq).trans (((Bel.refl (w6.setCell ⟨p, 4, none⟩ (.slice H' (k + 1) ch'))).alloc (.cells #[.int .i64 (hy)] 3)).frozen _ o (show p < (w6.setCell ⟨p, 4, none⟩ (.slice H' (k + 1) ch')).heap.size by rw [HS6.out]; exact hp6l))).trans (by simp)⟩
                   have hp7l : p < w7.heap.size := Nat.lt_of_lt_of_le (show p < (w6.setCell ⟨p, 4, none⟩ (.slice H' (k + 1) ch')).heap.size by rw [HS6.out]; exact hp6l) (Nat.le_trans ((Bel.refl (w6.setCell ⟨p, 4, none⟩ (.slice H' (k + 1) ch'))).alloc (.cells #[.int .i64 (hy)] 3)).sz hg7.size)
                   have HP7 := Lib.hid hp7
                   have e5' := ((hp7 5).1.trans (cell_set_off (by omega))).trans e5
                   have ef5' := (hp7 5).2.trans ef5
                   have HH7 := hid' (own_set (p := p) (o := 5) (x := .slice Z' (k + 1) cz') hh7 (by omega))
                   have HZ7 := hid' (own_set (p := p) (o := 5) (x := .slice Z' (k + 1) cz') hv7 (by omega))
                   have HB7 := Lib.hid hb7
                   clear hp7 hb7 hh7 hv7 hg7 hl7))
              go_roundw
              case rel =>
                have pc : ∀ o, o ≠ 4 → o ≠ 5 → (w7.setCell ⟨p, 5, none⟩ (.slice Z' (k + 1) cz')).cell? ⟨p, o, none⟩ = w5.cell? ⟨p, o, none⟩ := fun o h4 h5 => by
                  rw [cell_set_off (by omega), (HP7.out o).1, cell_set_off (by omega), (HP6.out o).1]
                refine ⟨k + 1, H', Z', ch', cz', by omega, by go_num, ⟨HB7.out.setCell HI5.out.plo _, HI5.out.plo, by simpa using hp7l, (pc 0 (by omega) (by omega)).trans HI5.out.c0, (pc 1 (by omega) (by omega)).trans HI5.out.c1, (pc 2 (by omega) (by omega)).trans HI5.out.c2, (pc 3 (by omega) (by omega)).trans HI5.out.c3, ?_, World.cell?_setCell_same _ _ _ e5', (pc 6 (by omega) (by omega)).trans HI5.out.c6, fun i => ?_, ?_, ?_, hof7.2, hof7.1⟩⟩
                · rw [cell_set_off (by omega), (HP7.out 4).1]
                  exact World.cell?_setCell_same _ _ _ e4
                · rw [show (w7.setCell ⟨p, 5, none⟩ (.slice Z' (k + 1) cz')).frozen? ⟨p, i, none⟩ = w7.frozen? ⟨p, i, none⟩ by simp, (HP7.out i).2, (HP6.out i).2]
                  exact HI5.out.f i
                · rw [rowB_succ, HX.out]; exact HH7.out
                · rw [rowOf_succ, HBZ.out, HX.out]; exact HZ7.out
              case measure => simp [intOf]; omega
            · cases g
              · by_cases hlt : B < hy
                · have hwb : (W == 0) = false := by simpa using hw0
                  have hdb : decide (B < hy) = true := by simpa using hlt
                  have HX : Hid (initHd L _ k = true) := hid' (HIH.out.trans (by simp [hlt]))
                  clear HIH
                  go_wp2_with (first
                    | (at_builtin; refine appG rfl (.tmp 84) (.tmp 86) 68 4 rfl (.bool false) 1 1 Try.underlying68 Try.info_bool1 rfl (by decide) (by decide) (p + 1) _ _ _ rfl (HI5.out.h.alloc _) w5.heap.size rfl [.bool true] rfl (fun j u hj => by match j, hj with | 0, hj => simp at hj; subst hj; simp) (fun u hu => by simp at hu; subst hu; rfl) (by omega) (by simp; omega) ?_
                       intro v6 w6 hv6 hg6 hl6
                       obtain ⟨H', ch', rfl⟩ := own_slice hv6
                       have hz6 := (HI5.out.z.alloc (.cells #[.bool true] 4)).kept hg6 HI5.out.o2
                       have hof := Off.grow HI5.out.o1 HI5.out.o2 (HI5.out.z.alloc (.cells #[.bool true] 4)) hl6
                       have hb6 := (HI5.out.bel.alloc (.cells #[.bool true] 4)).grown hg6 (fun q e => by have := (HI5.out.h.alloc (.cells #[.bool true] 4)).lt q e; have := HI5.out.plo; omega)
                       have hp6 : ∀ o, w6.cell? ⟨p, o, none⟩ = w5.cell? ⟨p, o, none⟩ ∧ w6.frozen? ⟨p, o, none⟩ = w5.frozen? ⟨p, o, none⟩ := fun o => by
                         have hq := hg6.block p (Nat.lt_of_lt_of_le hpl ((Bel.refl w5).alloc (.cells #[.bool true] 4)).sz) (fun e => by have := (HI5.out.h.alloc (.cells #[.bool true] 4)).lt p e.symm; omega)
                         exact ⟨(World.cell?_of_block hq).trans (((Bel.refl w5).alloc (.cells #[.bool true] 4)).cell _ o hpl), (World.frozen?_of_block hq).trans (((Bel.refl w5).alloc (.cells #[.bool true] 4)).frozen _ o hpl)⟩
                       have hp6l : p < w6.heap.size := Nat.lt_of_lt_of_le hpl (Nat.le_trans ((Bel.refl w5).alloc (.cells #[.bool true] 4)).sz hg6.size)
                       have HP6 := Lib.hid hp6
                       have e4 := (hp6 4).1.trans d4
                       have e5 := (hp6 5).1.trans d5
                       have ef4 := (hp6 4).2.trans df4
                       have ef5 := (hp6 5).2.trans df5
                       have HH6 := hid' (own_set (p := p) (o := 4) (x := .slice H' (k + 1) ch') hv6 (by omega))
                       have HZ6 := hid' (own_set (p := p) (o := 4) (x := .slice H' (k + 1) ch') hz6 (by omega))
                       have HS6 : Hid ((w6.setCell ⟨p, 4, none⟩ (.slice H' (k + 1) ch')).heap.size = w6.heap.size) := hid' (by simp)
                       have HB6 := Lib.hid hb6
                       clear hp6 d4 d5 df4 df5 hg6 hl6 hb6 hz6 hv6)
                    | (at_builtin; refine app1w rfl (.tmp 97) (.tmp 99) rfl (p + 1) _ _ _ rfl (HZ6.out.alloc _) _ _ rfl (new_at (by simp)) (by omega) (by simp; omega) ?_
                       intro v7 w7 hv7 hg7 hl7
                       obtain ⟨Z', cz', rfl⟩ := own_slice hv7
                       have hh7 := (HH6.out.alloc (.cells #[.int .i64 (hy)] 3)).kept hg7 hof.1
                       have hof7 := Off.grow hof.2 hof.1 (HH6.out.alloc (.cells #[.int .i64 (hy)] 3)) hl7
                       have hb7 := ((HB6.out.setCell (p := ⟨p, 4, none⟩) HI5.out.plo (.slice H' (k + 1) ch')).alloc (.cells #[.int .i64 (hy)] 3)).grown hg7 (fun q e => by have := (HZ6.out.alloc (.cells #[.int .i64 (hy)] 3)).lt q e; have := HI5.out.plo; omega)
                       have hp7 : ∀ o, w7.cell? ⟨p, o, none⟩ = (w6.setCell ⟨p, 4, none⟩ (.slice H' (k + 1) ch')).cell? ⟨p, o, none⟩ ∧ w7.frozen? ⟨p, o, none⟩ = w6.frozen? ⟨p, o, none⟩ := fun o => by
                         have hq := hg7.block p (Nat.lt_of_lt_of_le (show p < (w6.setCell ⟨p, 4, none⟩ (.slice H' (k + 1) ch')).heap.size by rw [HS6.out]; exact hp6l) ((Bel.refl (w6.setCell ⟨p, 4, none⟩ (.slice H' (k + 1) ch'))).alloc (.cells #[.int .i64 (hy)] 3)).sz) (fun e => by have := (HZ6.out.alloc (.cells #[.int .i64 (hy)] 3)).lt p e.symm; omega)
                         exact ⟨(World.cell?_of_block hq).trans (((Bel.refl (w6.setCell ⟨p, 4, none⟩ (.slice H' (k + 1) ch'))).alloc (.cells #[.int .i64 (hy)] 3)).cell _ o (show p < (w6.setCell ⟨p, 4, none⟩ (.slice H' (k + 1) ch')).heap.size by rw [HS6.out]; exact hp6l)), ((World.frozen?_of_block hq).trans (((Bel.refl (w6.setCell ⟨p, 4, none⟩ (.slice H' (k + 1) ch'))).alloc (.cells #[.int .i64 (hy)] 3)).frozen _ o (show p < (w6.setCell ⟨p, 4, none⟩ (.slice H' (k + 1) ch')).heap.size by rw [HS6.out]; exact hp6l))).trans (by simp)⟩
                       have hp7l : p < w7.heap.size := Nat.lt_of_lt_of_le (show p < (w6.setCell ⟨p, 4, none⟩ (.slice H' (k + 1) ch')).heap.size by rw [HS6.out]; exact hp6l) (Nat.le_trans ((Bel.refl (w6.setCell ⟨p, 4, none⟩ (.slice H' (k + 1) ch'))).alloc (.cells #[.int .i64 (hy)] 3)).sz hg7.size)
                       have HP7 := Lib.hid hp7
                       have e5' := ((hp7 5).1.trans (cell_set_off (by omega))).trans e5
                       have ef5' := (hp7 5).2.trans ef5
                       have HH7 := hid' (own_set (p := p) (o := 5) (x := .slice Z' (k + 1) cz') hh7 (by omega))
                       have HZ7 := hid' (own_set (p := p) (o := 5) (x := .slice Z' (k + 1) cz') hv7 (by omega))
                       have HB7 := Lib.hid hb7
                       clear hp7 hb7 hh7 hv7 hg7 hl7))
                  go_roundw
                  case rel =>
                    have pc : ∀ o, o ≠ 4 → o ≠ 5 → (w7.setCell ⟨p, 5, none⟩ (.slice Z' (k + 1) cz')).cell? ⟨p, o, none⟩ = w5.cell? ⟨p, o, none⟩ := fun o h4 h5 => by
                      rw [cell_set_off (by omega), (HP7.out o).1, cell_set_off (by omega), (HP6.out o).1]
                    refine ⟨k + 1, H', Z', ch', cz', by omega, by go_num, ⟨HB7.out.setCell HI5.out.plo _, HI5.out.plo, by simpa using hp7l, (pc 0 (by omega) (by omega)).trans HI5.out.c0, (pc 1 (by omega) (by omega)).trans HI5.out.c1, (pc 2 (by omega) (by omega)).trans HI5.out.c2, (pc 3 (by omega) (by omega)).trans HI5.out.c3, ?_, World.cell?_setCell_same _ _ _ e5', (pc 6 (by omega) (by omega)).trans HI5.out.c6, fun i => ?_, ?_, ?_, hof7.2, hof7.1⟩⟩
                    · rw [cell_set_off (by omega), (HP7.out 4).1]
                      exact World.cell?_setCell_same _ _ _ e4
                    · rw [show (w7.setCell ⟨p, 5, none⟩ (.slice Z' (k + 1) cz')).frozen? ⟨p, i, none⟩ = w7.frozen? ⟨p, i, none⟩ by simp, (HP7.out i).2, (HP6.out i).2]
                      exact HI5.out.f i
                    · rw [rowB_succ, HX.out]; exact HH7.out
                    · rw [rowOf_succ, HBZ.out, HX.out]; exact HZ7.out
                  case measure => simp [intOf]; omega
                · have hwb : (W == 0) = false := by simpa using hw0
                  have hdb : decide (B < hy) = false := by simpa using hlt
                  have HX : Hid (initHd L _ k = false) := hid' (HIH.out.trans (by simp [hw0]; omega))
                  clear HIH
                  go_wp2_with (first
                    | (at_builtin; refine appG rfl (.tmp 84) (.tmp 86) 68 4 rfl (.bool false) 1 1 Try.underlying68 Try.info_bool1 rfl (by decide) (by decide) (p + 1) _ _ _ rfl (HI5.out.h.alloc _) w5.heap.size rfl [.bool false] rfl (fun j u hj => by match j, hj with | 0, hj => simp at hj; subst hj; simp) (fun u hu => by simp at hu; subst hu; rfl) (by omega) (by simp; omega) ?_
                       intro v6 w6 hv6 hg6 hl6
                       obtain ⟨H', ch', rfl⟩ := own_slice hv6
                       have hz6 := (HI5.out.z.alloc (.cells #[.bool false] 4)).kept hg6 HI5.out.o2
                       have hof := Off.grow HI5.out.o1 HI5.out.o2 (HI5.out.z.alloc (.cells #[.bool false] 4)) hl6
                       have hb6 := (HI5.out.bel.alloc (.cells #[.bool false] 4)).grown hg6 (fun q e => by have := (HI5.out.h.alloc (.cells #[.bool false] 4)).lt q e; have := HI5.out.plo; omega)
                       have hp6 : ∀ o, w6.cell? ⟨p, o, none⟩ = w5.cell? ⟨p, o, none⟩ ∧ w6.frozen? ⟨p, o, none⟩ = w5.frozen? ⟨p, o, none⟩ := fun o => by
                         have hq := hg6.block p (Nat.lt_of_lt_of_le hpl ((Bel.refl w5).alloc (.cells #[.bool false] 4)).sz) (fun e => by have := (HI5.out.h.alloc (.cells #[.bool false] 4)).lt p e.symm; omega)
                         exact ⟨(World.cell?_of_block hq).trans (((Bel.refl w5).alloc (.cells #[.bool false] 4)).cell _ o hpl), (World.frozen?_of_block hq).trans (((Bel.refl w5).alloc (.cells #[.bool false] 4)).frozen _ o hpl)⟩
                       have hp6l : p < w6.heap.size := Nat.lt_of_lt_of_le hpl (Nat.le_trans ((Bel.refl w5).alloc (.cells #[.bool false] 4)).sz hg6.size)
                       have HP6 := Lib.hid hp6
                       have e4 := (hp6 4).1.trans d4
                       have e5 := (hp6 5).1.trans d5
                       have ef4 := (hp6 4).2.trans df4
                       have ef5 := (hp6 5).2.trans df5
                       have HH6 := hid' (own_set (p := p) (o := 4) (x := .slice H' (k + 1) ch') hv6 (by omega))
                       have HZ6 := hid' (own_set (p := p) (o := 4) (x := .slice H' (k + 1) ch') hz6 (by omega))
                       have HS6 : Hid ((w6.setCell ⟨p, 4, none⟩ (.slice H' (k + 1) ch')).heap.size = w6.heap.size) := hid' (by simp)
                       have HB6 := Lib.hid hb6
                       clear hp6 d4 d5 df4 df5 hg6 hl6 hb6 hz6 hv6)
                    | (at_builtin; refine app1w rfl (.tmp 97) (.tmp 99) rfl (p + 1) _ _ _ rfl (HZ6.out.alloc _) _ _ rfl (new_at (by simp)) (by omega) (by simp; omega) ?_
                       intro v7 w7 hv7 hg7 hl7
                       obtain ⟨Z', cz', rfl⟩ := own_slice hv7
                       have hh7 := (HH6.out.alloc (.cells #[.int .i64 (B)] 3)).kept hg7 hof.1
                       have hof7 := Off.grow hof.2 hof.1 (HH6.out.alloc (.cells #[.int .i64 (B)] 3)) hl7
                       have hb7 := ((HB6.out.setCell (p := ⟨p, 4, none⟩) HI5.out.plo (.slice H' (k + 1) ch')).alloc (.cells #[.int .i64 (B)] 3)).grown hg7 (fun q e => by have := (HZ6.out.alloc (.cells #[.int .i64 (B)] 3)).lt q e; have := HI5.out.plo; omega)
                       have hp7 : ∀ o, w7.cell? ⟨p, o, none⟩ = (w6.setCell ⟨p, 4, none⟩ (.slice H' (k + 1) ch')).cell? ⟨p, o, none⟩ ∧ w7.frozen? ⟨p, o, none⟩ = w6.frozen? ⟨p, o, none⟩ := fun o => by
                         have hq := hg7.block p (Nat.lt_of_lt_of_le (show p < (w6.setCell ⟨p, 4, none⟩ (.slice H' (k + 1) ch')).heap.size by rw [HS6.out]; exact hp6l) ((Bel.refl (w6.setCell ⟨p, 4, none⟩ (.slice H' (k + 1) ch'))).alloc (.cells #[.int .i64 (B)] 3)).sz) (fun e => by have := (HZ6.out.alloc (.cells #[.int .i64 (B)] 3)).lt p e.symm; omega)
                         exact ⟨(World.cell?_of_block hq).trans (((Bel.refl (w6.setCell ⟨p, 4, none⟩ (.slice H' (k + 1) ch'))).alloc (.cells #[.int .i64 (B)] 3)).cell _ o (show p < (w6.setCell ⟨p, 4, none⟩ (.slice H' (k + 1) ch')).heap.size by rw [HS6.out]; exact hp6l)), ((World.frozen?_of_block hq).trans (((Bel.refl (w6.setCell ⟨p, 4, none⟩ (.slice H' (k + 1) ch'))).alloc (.cells #[.int .i64 (B)] 3)).frozen _ o (show p < (w6.setCell ⟨p, 4, none⟩ (.slice H' (k + 1) ch')).heap.size by rw [HS6.out]; exact hp6l))).trans (by simp)⟩
                       have hp7l : p < w7.heap.size := Nat.lt_of_lt_of_le (show p < (w6.setCell ⟨p, 4, none⟩ (.slice H' (k + 1) ch')).heap.size by rw [HS6.out]; exact hp6l) (Nat.le_trans ((Bel.refl (w6.setCell ⟨p, 4, none⟩ (.slice H' (k + 1) ch'))).alloc (.cells #[.int .i64 (B)] 3)).sz hg7.size)
                       have HP7 := Lib.hid hp7
                       have e5' := ((hp7 5).1.trans (cell_set_off (by omega))).trans e5
                       have ef5' := (hp7 5).2.trans ef5
                       have HH7 := hid' (own_set (p := p) (o := 5) (x := .slice Z' (k + 1) cz') hh7 (by omega))
                       have HZ7 := hid' (own_set (p := p) (o := 5) (x := .slice Z' (k + 1) cz') hv7 (by omega))
                       have HB7 := Lib.hid hb7
                       clear hp7 hb7 hh7 hv7 hg7 hl7))
                  go_roundw
                  case rel =>
                    have pc : ∀ o, o ≠ 4 → o ≠ 5 → (w7.setCell ⟨p, 5, none⟩ (.slice Z' (k + 1) cz')).cell? ⟨p, o, none⟩ = w5.cell? ⟨p, o, none⟩ := fun o h4 h5 => by
                      rw [cell_set_off (by omega), (HP7.out o).1, cell_set_off (by omega), (HP6.out o).1]
                    refine ⟨k + 1, H', Z', ch', cz', by omega, by go_num, ⟨HB7.out.setCell HI5.out.plo _, HI5.out.plo, by simpa using hp7l, (pc 0 (by omega) (by omega)).trans HI5.out.c0, (pc 1 (by omega) (by omega)).trans HI5.out.c1, (pc 2 (by omega) (by omega)).trans HI5.out.c2, (pc 3 (by omega) (by omega)).trans HI5.out.c3, ?_, World.cell?_setCell_same _ _ _ e5', (pc 6 (by omega) (by omega)).trans HI5.out.c6, fun i => ?_, ?_, ?_, hof7.2, hof7.1⟩⟩
                    · rw [cell_set_off (by omega), (HP7.out 4).1]
                      exact World.cell?_setCell_same _ _ _ e4
                    · rw [show (w7.setCell ⟨p, 5, none⟩ (.slice Z' (k + 1) cz')).frozen? ⟨p, i, none⟩ = w7.frozen? ⟨p, i, none⟩ by simp, (HP7.out i).2, (HP6.out i).2]
                      exact HI5.out.f i
                    · rw [rowB_succ, HX.out]; exact HH7.out
                    · rw [rowOf_succ, HBZ.out, HX.out]; exact HZ7.out
                  case measure => simp [intOf]; omega
              · by_cases hlt : hy < B
                · have hwb : (W == 0) = false := by simpa using hw0
                  have hdb : decide (hy < B) = true := by simpa using hlt
                  have HX : Hid (initHd L _ k = true) := hid' (HIH.out.trans (by simp [hlt]))
                  clear HIH
                  go_wp2_with (first
                    | (at_builtin; refine appG rfl (.tmp 84) (.tmp 86) 68 4 rfl (.bool false) 1 1 Try.underlying68 Try.info_bool1 rfl (by decide) (by decide) (p + 1) _ _ _ rfl (HI5.out.h.alloc _) w5.heap.size rfl [.bool true] rfl (fun j u hj => by match j, hj with | 0, hj => simp at hj; subst hj; simp) (fun u hu => by simp at hu; subst hu; rfl) (by omega) (by simp; omega) ?_
                       intro v6 w6 hv6 hg6 hl6
                       obtain ⟨H', ch', rfl⟩ := own_slice hv6
                       have hz6 := (HI5.out.z.alloc (.cells #[.bool true] 4)).kept hg6 HI5.out.o2
                       have hof := Off.grow HI5.out.o1 HI5.out.o2 (HI5.out.z.alloc (.cells #[.bool true] 4)) hl6
                       have hb6 := (HI5.out.bel.alloc (.cells #[.bool true] 4)).grown hg6 (fun q e => by have := (HI5.out.h.alloc (.cells #[.bool true] 4)).lt q e; have := HI5.out.plo; omega)
                       have hp6 : ∀ o, w6.cell? ⟨p, o, none⟩ = w5.cell? ⟨p, o, none⟩ ∧ w6.frozen? ⟨p, o, none⟩ = w5.frozen? ⟨p, o, none⟩ := fun o => by
                         have hq := hg6.block p (Nat.lt_of_lt_of_le hpl ((Bel.refl w5).alloc (.cells #[.bool true] 4)).sz) (fun e => by have := (HI5.out.h.alloc (.cells #[.bool true] 4)).lt p e.symm; omega)
                         exact ⟨(World.cell?_of_block hq).trans (((Bel.refl w5).alloc (.cells #[.bool true] 4)).cell _ o hpl), (World.frozen?_of_block hq).trans (((Bel.refl w5).alloc (.cells #[.bool true] 4)).frozen _ o hpl)⟩
                       have hp6l : p < w6.heap.size := Nat.lt_of_lt_of_le hpl (Nat.le_trans ((Bel.refl w5).alloc (.cells #[.bool true] 4)).sz hg6.size)
                       have HP6 := Lib.hid hp6
                       have e4 := (hp6 4).1.trans d4
                       have e5 := (hp6 5).1.trans d5
                       have ef4 := (hp6 4).2.trans df4
                       have ef5 := (hp6 5).2.trans df5
                       have HH6 := hid' (own_set (p := p) (o := 4) (x := .slice H' (k + 1) ch') hv6 (by omega))
                       have HZ6 := hid' (own_set (p := p) (o := 4) (x := .slice H' (k + 1) ch') hz6 (by omega))
                       have HS6 : Hid ((w6.setCell ⟨p, 4, none⟩ (.slice H' (k + 1) ch')).heap.size = w6.heap.size) := hid' (by simp)
                       have HB6 := Lib.hid hb6
                       clear hp6 d4 d5 df4 df5 hg6 hl6 hb6 hz6 hv6)
                    | (at_builtin; refine app1w rfl (.tmp 97) (.tmp 99) rfl (p + 1) _ _ _ rfl (HZ6.out.alloc _) _ _ rfl (new_at (by simp)) (by omega) (by simp; omega) ?_
                       intro v7 w7 hv7 hg7 hl7
                       obtain ⟨Z', cz', rfl⟩ := own_slice hv7
                       have hh7 := (HH6.out.alloc (.cells #[.int .i64 (hy)] 3)).kept hg7 hof.1
                       have hof7 := Off.grow hof.2 hof.1 (HH6.out.alloc (.cells #[.int .i64 (hy)] 3)) hl7
                       have hb7 := ((HB6.out.setCell (p := ⟨p, 4, none⟩) HI5.out.plo (.slice H' (k + 1) ch')).alloc (.cells #[.int .i64 (hy)] 3)).grown hg7 (fun q e => by have := (HZ6.out.alloc (.cells #[.int .i64 (hy)] 3)).lt q e; have := HI5.out.plo; omega)
                       have hp7 : ∀ o, w7.cell? ⟨p, o, none⟩ = (w6.setCell ⟨p, 4, none⟩ (.slice H' (k + 1) ch')).cell? ⟨p, o, none⟩ ∧ w7.frozen? ⟨p, o, none⟩ = w6.frozen? ⟨p, o, none⟩ := fun o => by
                         have hq := hg7.block p (Nat.lt_of_lt_of_le (show p < (w6.setCell ⟨p, 4, none⟩ (.slice H' (k + 1) ch')).heap.size by rw [HS6.out]; exact hp6l) ((Bel.refl (w6.setCell ⟨p, 4, none⟩ (.slice H' (k + 1) ch'))).alloc (.cells #[.int .i64 (hy)] 3)).sz) (fun e => by have := (HZ6.out.alloc (.cells #[.int .i64 (hy)] 3)).lt p e.symm; omega)
                         exact ⟨(World.cell?_of_block hq).trans (((Bel.refl (w6.setCell ⟨p, 4, none⟩ (.slice H' (k + 1) ch'))).alloc (.cells #[.int .i64 (hy)] 3)).cell _ o (show p < (w6.setCell ⟨p, 4, none⟩ (.slice H' (k + 1) ch')).heap.size by rw [HS6.out]; exact hp6l)), ((World.frozen?_of_block hq).trans (((Bel.refl (w6.setCell ⟨p, 4, none⟩ (.slice H' (k + 1) ch'))).alloc (.cells #[.int .i64 (hy)] 3)).frozen _ o (show p < (w6.setCell ⟨p, 4, none⟩ (.slice H' (k + 1) ch')).heap.size by rw [HS6.out]; exact hp6l))).trans (by simp)⟩
                       have hp7l : p < w7.heap.size := Nat.lt_of_lt_of_le (show p < (w6.setCell ⟨p, 4, none⟩ (.slice H' (k + 1) ch')).heap.size by rw [HS6.out]; exact hp6l) (Nat.le_trans ((Bel.refl (w6.setCell ⟨p, 4, none⟩ (.slice H' (k + 1) ch'))).alloc (.cells #[.int .i64 (hy)] 3)).sz hg7.size)
                       have HP7 := Lib.hid hp7
                       have e5' := ((hp7 5).1.trans (cell_set_off (by omega))).trans e5
                       have ef5' := (hp7 5).2.trans ef5
                       have HH7 := hid' (own_set (p := p) (o := 5) (x := .slice Z' (k + 1) cz') hh7 (by omega))
                       have HZ7 := hid' (own_set (p := p) (o := 5) (x := .slice Z' (k + 1) cz') hv7 (by omega))
                       have HB7 := Lib.hid hb7
                       clear hp7 hb7 hh7 hv7 hg7 hl7))
                  go_roundw
                  case rel =>
                    have pc : ∀ o, o ≠ 4 → o ≠ 5 → (w7.setCell ⟨p, 5, none⟩ (.slice Z' (k + 1) cz')).cell? ⟨p, o, none⟩ = w5.cell? ⟨p, o, none⟩ := fun o h4 h5 => by
                      rw [cell_set_off (by omega), (HP7.out o).1, cell_set_off (by omega), (HP6.out o).1]
                    refine ⟨k + 1, H', Z', ch', cz', by omega, by go_num, ⟨HB7.out.setCell HI5.out.plo _, HI5.out.plo, by simpa using hp7l, (pc 0 (by omega) (by omega)).trans HI5.out.c0, (pc 1 (by omega) (by omega)).trans HI5.out.c1, (pc 2 (by omega) (by omega)).trans HI5.out.c2, (pc 3 (by omega) (by omega)).trans HI5.out.c3, ?_, World.cell?_setCell_same _ _ _ e5', (pc 6 (by omega) (by omega)).trans HI5.out.c6, fun i => ?_, ?_, ?_, hof7.2, hof7.1⟩⟩
                    · rw [cell_set_off (by omega), (HP7.out 4).1]
                      exact World.cell?_setCell_same _ _ _ e4
                    · rw [show (w7.setCell ⟨p, 5, none⟩ (.slice Z' (k + 1) cz')).frozen? ⟨p, i, none⟩ = w7.frozen? ⟨p, i, none⟩ by simp, (HP7.out i).2, (HP6.out i).2]
                      exact HI5.out.f i
                    · rw [rowB_succ, HX.out]; exact HH7.out
                    · rw [rowOf_succ, HBZ.out, HX.out]; exact HZ7.out
                  case measure => simp [intOf]; omega
                · have hwb : (W == 0) = false := by simpa using hw0
                  have hdb : decide (hy < B) = false := by simpa using hlt
                  have HX : Hid (initHd L _ k = false) := hid' (HIH.out.trans (by simp [hw0]; omega))
                  clear HIH
                  go_wp2_with (first
                    | (at_builtin; refine appG rfl (.tmp 84) (.tmp 86) 68 4 rfl (.bool false) 1 1 Try.underlying68 Try.info_bool1 rfl (by decide) (by decide) (p + 1) _ _ _ rfl (HI5.out.h.alloc _) w5.heap.size rfl [.bool false] rfl (fun j u hj => by match j, hj with | 0, hj => simp at hj; subst hj; simp) (fun u hu => by simp at hu; subst hu; rfl) (by omega) (by simp; omega) ?_
                       intro v6 w6 hv6 hg6 hl6
                       obtain ⟨H', ch', rfl⟩ := own_slice hv6
                       have hz6 := (HI5.out.z.alloc (.cells #[.bool false] 4)).kept hg6 HI5.out.o2
                       have hof := Off.grow HI5.out.o1 HI5.out.o2 (HI5.out.z.alloc (.cells #[.bool false] 4)) hl6
                       have hb6 := (HI5.out.bel.alloc (.cells #[.bool false] 4)).grown hg6 (fun q e => by have := (HI5.out.h.alloc (.cells #[.bool false] 4)).lt q e; have := HI5.out.plo; omega)
                       have hp6 : ∀ o, w6.cell? ⟨p, o, none⟩ = w5.cell? ⟨p, o, none⟩ ∧ w6.frozen? ⟨p, o, none⟩ = w5.frozen? ⟨p, o, none⟩ := fun o => by
                         have hq := hg6.block p (Nat.lt_of_lt_of_le hpl ((Bel.refl w5).alloc (.cells #[.bool false] 4)).sz) (fun e => by have := (HI5.out.h.alloc (.cells #[.bool false] 4)).lt p e.symm; omega)
                         exact ⟨(World.cell?_of_block hq).trans (((Bel.refl w5).alloc (.cells #[.bool false] 4)).cell _ o hpl), (World.frozen?_of_block hq).trans (((Bel.refl w5).alloc (.cells #[.bool false] 4)).frozen _ o hpl)⟩
                       have hp6l : p < w6.heap.size := Nat.lt_of_lt_of_le hpl (Nat.le_trans ((Bel.refl w5).alloc (.cells #[.bool false] 4)).sz hg6.size)
                       have HP6 := Lib.hid hp6
                       have e4 := (hp6 4).1.trans d4
                       have e5 := (hp6 5).1.trans d5
                       have ef4 := (hp6 4).2.trans df4
                       have ef5 := (hp6 5).2.trans df5
                       have HH6 := hid' (own_set (p := p) (o := 4) (x := .slice H' (k + 1) ch') hv6 (by omega))
                       have HZ6 := hid' (own_set (p := p) (o := 4) (x := .slice H' (k + 1) ch') hz6 (by omega))
                       have HS6 : Hid ((w6.setCell ⟨p, 4, none⟩ (.slice H' (k + 1) ch')).heap.size = w6.heap.size) := hid' (by simp)
                       have HB6 := Lib.hid hb6
                       clear hp6 d4 d5 df4 df5 hg6 hl6 hb6 hz6 hv6)
                    | (at_builtin; refine app1w rfl (.tmp 97) (.tmp 99) rfl (p + 1) _ _ _ rfl (HZ6.out.alloc _) _ _ rfl (new_at (by simp)) (by omega) (by simp; omega) ?_
                       intro v7 w7 hv7 hg7 hl7
                       obtain ⟨Z', cz', rfl⟩ := own_slice hv7
                       have hh7 := (HH6.out.alloc (.cells #[.int .i64 (B)] 3)).kept hg7 hof.1
                       have hof7 := Off.grow hof.2 hof.1 (HH6.out.alloc (.cells #[.int .i64 (B)] 3)) hl7
                       have hb7 := ((HB6.out.setCell (p := ⟨p, 4, none⟩) HI5.out.plo (.slice H' (k + 1) ch')).alloc (.cells #[.int .i64 (B)] 3)).grown hg7 (fun q e => by have := (HZ6.out.alloc (.cells #[.int .i64 (B)] 3)).lt q e; have := HI5.out.plo; omega)
                       have hp7 : ∀ o, w7.cell? ⟨p, o, none⟩ = (w6.setCell ⟨p, 4, none⟩ (.slice H' (k + 1) ch')).cell? ⟨p, o, none⟩ ∧ w7.frozen? ⟨p, o, none⟩ = w6.frozen? ⟨p, o, none⟩ := fun o => by
                         have hq := hg7.block p (Nat.lt_of_lt_of_le (show p < (w6.setCell ⟨p, 4, none⟩ (.slice H' (k + 1) ch')).heap.size by rw [HS6.out]; exact hp6l) ((Bel.refl (w6.setCell ⟨p, 4, none⟩ (.slice H' (k + 1) ch'))).alloc (.cells #[.int .i64 (B)] 3)).sz) (fun e => by have := (HZ6.out.alloc (.cells #[.int .i64 (B)] 3)).lt p e.symm; omega)
                         exact ⟨(World.cell?_of_block hq).trans (((Bel.refl (w6.setCell ⟨p, 4, none⟩ (.slice H' (k + 1) ch'))).alloc (.cells #[.int .i64 (B)] 3)).cell _ o (show p < (w6.setCell ⟨p, 4, none⟩ (.slice H' (k + 1) ch')).heap.size by rw [HS6.out]; exact hp6l)), ((World.frozen?_of_block hq).trans (((Bel.refl (w6.setCell ⟨p, 4, none⟩ (.slice H' (k + 1) ch'))).alloc (.cells #[.int .i64 (B)] 3)).frozen _ o (show p < (w6.setCell ⟨p, 4, none⟩ (.slice H' (k + 1) ch')).heap.size by rw [HS6.out]; exact hp6l))).trans (by simp)⟩
                       have hp7l : p < w7.heap.size := Nat.lt_of_lt_of_le (show p < (w6.setCell ⟨p, 4, none⟩ (.slice H' (k + 1) ch')).heap.size by rw [HS6.out]; exact hp6l) (Nat.le_trans ((Bel.refl (w6.setCell ⟨p, 4, none⟩ (.slice H' (k + 1) ch'))).alloc (.cells #[.int .i64 (B)] 3)).sz hg7.size)
                       have HP7 := Lib.hid hp7
                       have e5' := ((hp7 5).1.trans (cell_set_off (by omega))).trans e5
                       have ef5' := (hp7 5).2.trans ef5
                       have HH7 := hid' (own_set (p := p) (o := 5) (x := .slice Z' (k + 1) cz') hh7 (by omega))
                       have HZ7 := hid' (own_set (p := p) (o := 5) (x := .slice Z' (k + 1) cz') hv7 (by omega))
                       have HB7 := Lib.hid hb7
                       clear hp7 hb7 hh7 hv7 hg7 hl7))
                  go_roundw
                  case rel =>
                    have pc : ∀ o, o ≠ 4 → o ≠ 5 → (w7.setCell ⟨p, 5, none⟩ (.slice Z' (k + 1) cz')).cell? ⟨p, o, none⟩ = w5.cell? ⟨p, o, none⟩ := fun o h4 h5 => by
                      rw [cell_set_off (by omega), (HP7.out o).1, cell_set_off (by omega), (HP6.out o).1]
                    refine ⟨k + 1, H', Z', ch', cz', by omega, by go_num, ⟨HB7.out.setCell HI5.out.plo _, HI5.out.plo, by simpa using hp7l, (pc 0 (by omega) (by omega)).trans HI5.out.c0, (pc 1 (by omega) (by omega)).trans HI5.out.c1, (pc 2 (by omega) (by omega)).trans HI5.out.c2, (pc 3 (by omega) (by omega)).trans HI5.out.c3, ?_, World.cell?_setCell_same _ _ _ e5', (pc 6 (by omega) (by omega)).trans HI5.out.c6, fun i => ?_, ?_, ?_, hof7.2, hof7.1⟩⟩
                    · rw [cell_set_off (by omega), (HP7.out 4).1]
                      exact World.cell?_setCell_same _ _ _ e4
                    · rw [show (w7.setCell ⟨p, 5, none⟩ (.slice Z' (k + 1) cz')).frozen? ⟨p, i, none⟩ = w7.frozen? ⟨p, i, none⟩ by simp, (HP7.out i).2, (HP6.out i).2]
                      exact HI5.out.f i
                    · rw [rowB_succ, HX.out]; exact HH7.out
                    · rw [rowOf_succ, HBZ.out, HX.out]; exact HZ7.out
                  case measure => simp [intOf]; omega
          · obtain rfl : k = L.length := by omega
            have hF := hI.fl
            have HFI : Hid (flexAll L gap inner = flexRun L g gap inner L.length (initF L g) 0) := hid' (by unfold flexAll; rw [HG.out])
            have HRUN : Hid (∀ S ps, flexRun L g gap inner L.length S ps = flexAll L gap inner → frees S.hd L.length = [] → flexP L gap inner = ps ∧ rowOf L.length (baseSz L S) = flexL L gap inner) := hid' (fun S ps h1 h2 => by
              rw [flexRun_done _ _ _ _ _ h2] at h1
              refine ⟨by rw [flexP, if_pos HFO.out, ← h1], ?_⟩
              rw [flexL, if_pos HFO.out, ← h1]
              exact rowOf_ext (fun i hi => by rw [baseSz, if_pos (frees_nil h2 hi)]))
            go_wp2_with fail
            go_loopw [104] (fun _ wq => ∃ (S : Fx) (ps : Nat), Fl w wq p 4 5 A c L gap inner g H Z ch cz S.hd (baseSz L S) (ps : Int) ∧ flexRun L g gap inner L.length S ps = flexAll L gap inner ∧ ps + (frees S.hd L.length).length ≤ L.length) (fun _ wq => L.length - cellN wq p)
            case atStart => exact ⟨initF L g, 0, hF, HFI.out.symm, by have := frees_le (initF L g).hd L.length; omega⟩
            case round =>
              obtain ⟨S, ps, hFq, hrun, hle⟩ := hrel
              have c6 := hFq.c6
              go_wp2_with fail
              refine (sPass_c S ps hFq h HOK.out (by omega)).mono ?_
              rintro e w6 (⟨hf, rfl, hF6⟩ | ⟨hf, rfl, hF6⟩)
              · obtain ⟨r1, r2⟩ := HRUN.out S ps hrun hf
                have e5 := hF6.kz
                have e6 := hF6.c6
                go_wp2_with fail
                go_quiet (fail)
                go_wp2_with fail
                go_ret2
                exact ⟨.slice Z L.length cz, by (show Ending.returned (.tuple #[.slice Z L.length cz, .int .i64 (ps : Nat)]) = _; rw [r1]), by rw [← r2]; exact own_drewN hF6.zo _, hF6.bel.drewN _⟩
              · have hless := step_less L g gap inner S hf
                go_wp2_with fail
                go_roundw
                case rel => exact ⟨stepF L g gap inner S, ps + 1, by rw [show ((ps + 1 : Nat) : Int) = (ps : Int) + 1 by omega]; exact hF6, (flexRun_step L g gap inner hf).trans hrun, by omega⟩
                case measure =>
                  have m1 : cellN w6 p = ps + 1 := by unfold cellN; rw [hF6.c6]; first | (simp; done) | (simp; omega)
                  have m2 : cellN wr p = ps := by unfold cellN; rw [c6]; simp
                  have : 0 < (frees S.hd L.length).length := List.length_pos_iff.2 hf
                  omega
set_option maxRecDepth 100000 in
set_option maxHeartbeats 1000000 in
theorem sFlexLine_c (A : Option Addr) (c : Nat) (L : List Rec) (gap inner : Int) (w : World) (h : Recs w A k_item L) (hn : L.length ≤ 1048576) :
    Calls Try.prog 15 #[.slice A L.length c, .int .i64 gap, .int .i64 inner] w fun e w' => ∃ v, e = .returned v ∧ w'.ownsRow w.heap.size 3 1 v L.length (VI (flexL L gap inner)) ∧ Bel w w' := by
  go_enter Try.func15, Try.ntmps15
  go_wp2_with fail
  refine (sFlex_c _ _ _ _ _ _ h hn).mono ?_; rintro e w1 ⟨v, rfl, ho, hb⟩
  go_wp2_with fail
  go_ret
  exact ⟨v, rfl, ho, hb⟩
set_option maxRecDepth 100000 in
set_option maxHeartbeats 1000000 in
theorem sFlexPasses_c (A : Option Addr) (c : Nat) (L : List Rec) (gap inner : Int) (w : World) (h : Recs w A k_item L) (hn : L.length ≤ 1048576) :
    Calls Try.prog 11 #[.slice A L.length c, .int .i64 gap, .int .i64 inner] w fun e w' => e = .returned (.int .i64 (flexP L gap inner : Nat)) ∧ Bel w w' := by
  go_enter Try.func11, Try.ntmps11
  go_wp2_with fail
  refine (sFlex_c _ _ _ _ _ _ h hn).mono ?_; rintro e w1 ⟨v, rfl, ho, hb⟩
  go_wp2_with fail
  go_ret
  exact ⟨rfl, hb⟩
end Go.Proofs.Ytmipjhnjlpmidaa
