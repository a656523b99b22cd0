/- Flexing, the program's text: all passes; FlexLine, FlexPasses. -/
import Derived.Test.YtmipjhnjlpmidaaFlexIp
import Derived.Test.YtmipjhnjlpmidaaQTail
import Derived.Deep.CutRange
import Derived.Deep.CutBlock
import Derived.Deep.OwnRows
namespace Go.Proofs.Ytmipjhnjlpmidaa
open Go.RowKit Go.ChangeShapes Go.WideShapes Go.Sort
set_option linter.unusedVariables false
set_option linter.unusedSimpArgs false

/-! ### a struct of seven cells in a block; a row of flags -/
def set7 (u : World) (g : Nat) (v0 v1 v2 v3 v4 v5 v6 : Value) : World :=
  ((((((u.setCell ⟨g, 0, none⟩ v0).setCell ⟨g, 1, none⟩ v1).setCell ⟨g, 2, none⟩ v2).setCell ⟨g, 3, none⟩ v3).setCell ⟨g, 4, none⟩ v4).setCell ⟨g, 5, none⟩ v5).setCell ⟨g, 6, none⟩ v6
structure G7 (u : World) (g : Nat) (v0 v1 v2 v3 v4 v5 v6 : Value) : Prop where
  lt : g < u.heap.size
  c0 : u.cell? ⟨g, 0, none⟩ = some v0
  c1 : u.cell? ⟨g, 1, none⟩ = some v1
  c2 : u.cell? ⟨g, 2, none⟩ = some v2
  c3 : u.cell? ⟨g, 3, none⟩ = some v3
  c4 : u.cell? ⟨g, 4, none⟩ = some v4
  c5 : u.cell? ⟨g, 5, none⟩ = some v5
  c6 : u.cell? ⟨g, 6, none⟩ = some v6
  f : ∀ i, u.frozen? ⟨g, i, none⟩ = false
section
variable {u u' : World} {g : Nat} {v0 v1 v2 v3 v4 v5 v6 x0 x1 x2 x3 x4 x5 x6 : Value}
theorem G7.new (u : World) (v0 v1 v2 v3 v4 v5 v6 : Value) (t : TypeId) : G7 (u.alloc (.cells #[v0, v1, v2, v3, v4, v5, v6] t)) u.heap.size v0 v1 v2 v3 v4 v5 v6 :=
  ⟨by simp, by simp, by simp, by simp, by simp, by simp, by simp, by simp, fun i => by simp⟩
theorem G7.keep (h : G7 u g v0 v1 v2 v3 v4 v5 v6) (hb : Bel u u') : G7 u' g v0 v1 v2 v3 v4 v5 v6 :=
  ⟨Nat.lt_of_lt_of_le h.lt hb.sz, (hb.cell _ _ h.lt).trans h.c0, (hb.cell _ _ h.lt).trans h.c1, (hb.cell _ _ h.lt).trans h.c2, (hb.cell _ _ h.lt).trans h.c3, (hb.cell _ _ h.lt).trans h.c4, (hb.cell _ _ h.lt).trans h.c5, (hb.cell _ _ h.lt).trans h.c6, fun i => (hb.frozen _ _ h.lt).trans (h.f i)⟩
theorem G7.put (h : G7 u g x0 x1 x2 x3 x4 x5 x6) (v0 v1 v2 v3 v4 v5 v6 : Value) : G7 (set7 u g v0 v1 v2 v3 v4 v5 v6) g v0 v1 v2 v3 v4 v5 v6 := by
  unfold set7
  have n : ∀ (w : World) (i j : Nat) (v : Value), i ≠ j → (w.setCell ⟨g, i, none⟩ v).cell? ⟨g, j, none⟩ = w.cell? ⟨g, j, none⟩ := fun w i j v hij => cell_set_off (by omega)
  refine ⟨by simpa using h.lt, ?_, ?_, ?_, ?_, ?_, ?_, ?_, fun i => by simpa using h.f i⟩
  · rw [n _ 6 0 _ (by omega), n _ 5 0 _ (by omega), n _ 4 0 _ (by omega), n _ 3 0 _ (by omega), n _ 2 0 _ (by omega), n _ 1 0 _ (by omega)]
    exact World.cell?_setCell_same _ _ _ h.c0
  · rw [n _ 6 1 _ (by omega), n _ 5 1 _ (by omega), n _ 4 1 _ (by omega), n _ 3 1 _ (by omega), n _ 2 1 _ (by omega)]
    exact World.cell?_setCell_same _ _ _ (by rw [n _ 0 1 _ (by omega)]; exact h.c1)
  · rw [n _ 6 2 _ (by omega), n _ 5 2 _ (by omega), n _ 4 2 _ (by omega), n _ 3 2 _ (by omega)]
    exact World.cell?_setCell_same _ _ _ (by rw [n _ 1 2 _ (by omega), n _ 0 2 _ (by omega)]; exact h.c2)
  · rw [n _ 6 3 _ (by omega), n _ 5 3 _ (by omega), n _ 4 3 _ (by omega)]
    exact World.cell?_setCell_same _ _ _ (by rw [n _ 2 3 _ (by omega), n _ 1 3 _ (by omega), n _ 0 3 _ (by omega)]; exact h.c3)
  · rw [n _ 6 4 _ (by omega), n _ 5 4 _ (by omega)]
    exact World.cell?_setCell_same _ _ _ (by rw [n _ 3 4 _ (by omega), n _ 2 4 _ (by omega), n _ 1 4 _ (by omega), n _ 0 4 _ (by omega)]; exact h.c4)
  · rw [n _ 6 5 _ (by omega)]
    exact World.cell?_setCell_same _ _ _ (by rw [n _ 4 5 _ (by omega), n _ 3 5 _ (by omega), n _ 2 5 _ (by omega), n _ 1 5 _ (by omega), n _ 0 5 _ (by omega)]; exact h.c5)
  · exact World.cell?_setCell_same _ _ _ (by rw [n _ 5 6 _ (by omega), n _ 4 6 _ (by omega), n _ 3 6 _ (by omega), n _ 2 6 _ (by omega), n _ 1 6 _ (by omega), n _ 0 6 _ (by omega)]; exact h.c6)
end
structure HR (u : World) (gh n : Nat) : Prop where
  lt : gh < u.heap.size
  c : ∀ i, i < n → u.cell? ⟨gh, i, none⟩ = some (.bool false)
  f : ∀ i, u.frozen? ⟨gh, i, none⟩ = false
theorem HR.new (u : World) (n : Nat) (t : TypeId) : HR (u.alloc (.cells (madeCells #[.bool false] n) t)) u.heap.size n :=
  ⟨by simp, fun i hi => by rw [World.cell?_alloc_new]; simp [madeCells, hi, Nat.mod_one], fun i => by simp⟩
theorem HR.keep {u u' : World} {gh n : Nat} (h : HR u gh n) (hb : Bel u u') : HR u' gh n :=
  ⟨Nat.lt_of_lt_of_le h.lt hb.sz, fun i hi => (hb.cell _ _ h.lt).trans (h.c i hi), fun i => (hb.frozen _ _ h.lt).trans (h.f i)⟩
theorem HR.set {u : World} {gh n q : Nat} (h : HR u gh n) (hq : q ≠ gh) (o : Nat) (v : Value) : HR (u.setCell ⟨q, o, none⟩ v) gh n :=
  ⟨by simpa using h.lt, fun i hi => (cell_set_off (by omega)).trans (h.c i hi), fun i => by simpa using h.f i⟩
theorem HR.set7 {u : World} {gh n q : Nat} (h : HR u gh n) (hq : q ≠ gh) (v0 v1 v2 v3 v4 v5 v6 : Value) : HR (Go.Proofs.Ytmipjhnjlpmidaa.set7 u q v0 v1 v2 v3 v4 v5 v6) gh n :=
  ((((((h.set hq 0 v0).set hq 1 v1).set hq 2 v2).set hq 3 v3).set hq 4 v4).set hq 5 v5).set hq 6 v6
theorem own_set7 {w : World} {base n size p : Nat} {e : TypeId} {v : Value} {xs : List Value} (h : w.ownsRow base e size v n xs) (hp : ∀ b, v.ownBlock = some b → b ≠ p) (v0 v1 v2 v3 v4 v5 v6 : Value) : (set7 w p v0 v1 v2 v3 v4 v5 v6).ownsRow base e size v n xs :=
  own_setN (own_setN (own_setN (own_setN (own_setN (own_setN (own_setN h hp) hp) hp) hp) hp) hp) hp
theorem bel_set7 {w u : World} {g : Nat} (h : Bel w u) (hg : w.heap.size ≤ g) (v0 v1 v2 v3 v4 v5 v6 : Value) : Bel w (set7 u g v0 v1 v2 v3 v4 v5 v6) :=
  ((((((h.setCell hg v0).setCell hg v1).setCell hg v2).setCell hg v3).setCell hg v4).setCell hg v5).setCell hg v6
theorem set7_size (u : World) (g : Nat) (v0 v1 v2 v3 v4 v5 v6 : Value) : (set7 u g v0 v1 v2 v3 v4 v5 v6).heap.size = u.heap.size := by simp [set7]
/-- the struct behind its first statement -/
structure Fr (W wx : World) (g : Nat) (A : Option Addr) (c : Nat) (L : List Rec) (gap inner : Int) (gh : Nat) (Z : Option Addr) (cz : Nat) : Prop where
  bel : Bel W wx
  glo : W.heap.size ≤ g
  hlo : W.heap.size ≤ gh
  ne : gh ≠ g
  g7 : G7 wx g (.slice A L.length c) (.int .i64 gap) (.int .i64 inner) (.bool false) (.slice Z L.length cz) (.slice (some ⟨gh, 0, none⟩) L.length L.length) (.int .i64 0)
  hr : HR wx gh L.length
  zo : wx.ownsRow W.heap.size 3 1 (.slice Z L.length cz) L.length (VI (hyps L))
  zne : ∀ b, (Value.slice Z L.length cz).ownBlock = some b → b ≠ g ∧ b ≠ gh
theorem Fr.keep {W wx u : World} {g : Nat} {A : Option Addr} {c : Nat} {L : List Rec} {gap inner : Int} {gh : Nat} {Z : Option Addr} {cz : Nat} (h : Fr W wx g A c L gap inner gh Z cz) (hb : Bel wx u) : Fr W u g A c L gap inner gh Z cz :=
  ⟨h.bel.trans hb, h.glo, h.hlo, h.ne, h.g7.keep hb, h.hr.keep hb, own_keep h.zo hb, h.zne⟩
def hz0 (L : List Rec) (g : Bool) (k : Nat) (i : Nat) : Bool := if i < k then initHd L g i else false
/-- .. and with its flag 'grows' set: the state of flexing, no flag set yet -/
theorem Fr.fl {W wx : World} {g : Nat} {A : Option Addr} {c : Nat} {L : List Rec} {gap inner : Int} {gh : Nat} {Z : Option Addr} {cz : Nat} (h : Fr W wx g A c L gap inner gh Z cz) (gr : Bool) :
    Fl W (wx.setCell ⟨g, 3, none⟩ (.bool gr)) g 5 4 A c L gap inner gr (some ⟨gh, 0, none⟩) Z L.length cz (hz0 L gr 0) (initF L gr).sz 0 := by
  have hv : VI (hyps L) = VI (rowOf L.length (initF L gr).sz) := by rw [← hypsTo_all]; rfl
  have hz := h.zo
  rw [hv] at hz
  refine ⟨h.bel.setCell h.glo _, h.glo, by simpa using h.g7.lt, (cell_set_off (by omega)).trans h.g7.c0, (cell_set_off (by omega)).trans h.g7.c1, (cell_set_off (by omega)).trans h.g7.c2, World.cell?_setCell_same _ _ _ h.g7.c3, (cell_set_off (by omega)).trans h.g7.c5, (cell_set_off (by omega)).trans h.g7.c4, (cell_set_off (by omega)).trans h.g7.c6, by simpa using h.g7.f 6, own_setN hz (fun b e => (h.zne b e).1), fun b e => (h.zne b e).1, fun hn => ?_⟩
  obtain ⟨gz, cz', e⟩ := own_posM h.zo hn
  injection e with e1 _ e2
  subst e1 e2
  have hl := h.zo.lt gz rfl
  have hne := h.zne gz rfl
  have hne2 := h.ne
  refine ⟨gh, gz, rfl, rfl, h.hlo, by simpa using h.hr.lt, hl.1, by simpa using hl.2, by omega, by omega, by omega, fun i hi => ?_, fun i hi => by simpa using h.hr.f i, fun i hi => ?_, fun i hi => by simpa using h.zo.frozenAt i⟩
  · rw [cell_set_off (by omega), h.hr.c i hi]; rfl
  · rw [cell_set_off (by omega), hz.cellAt i (by omega), VI_at (by rw [rowOf_length]; exact hi), rowOf_at hi]
set_option maxRecDepth 100000 in
set_option maxHeartbeats 6000000 in
theorem iFlexed_c (A : Option Addr) (c : Nat) (L : List Rec) (gap inner : Int) (w : World) (h : Recs w A k_item L) (hn : L.length ≤ 1048576) :
    Calls Try.prog 58 #[.slice A L.length c, .int .i64 gap, .int .i64 inner] w fun e w' => ∃ (Z : Option Addr) (cz gh : Nat) (b : Bool), e = .returned (.agg #[.slice A L.length c, .int .i64 gap, .int .i64 inner, .bool b, .slice Z L.length cz, .slice (some ⟨gh, 0, none⟩) L.length L.length, .int .i64 (flexP L gap inner : Nat)]) ∧ w'.ownsRow w.heap.size 3 1 (.slice Z L.length cz) L.length (VI (flexL L gap inner)) ∧ Bel w w' := by
  have HB : Hid (flexOk L gap inner = false → flexP L gap inner = 0 ∧ flexL L gap inner = hyps L) := hid' (fun e => ⟨by rw [flexP, if_neg (by rw [e]; simp)], by rw [flexL, if_neg (by rw [e]; simp)]⟩)
  have HK : Hid (flexOk L gap inner = (itemsOk L && inB gap 0 1048576 && inB inner 0 1048576)) := hid' rfl
  go_enter Try.func58, Try.ntmps58
  go_upto_region 1 with fail
  obtain ⟨W, hW⟩ : ∃ W, W = w.alloc (.cells #[.slice none 0 0, .int .i64 0, .int .i64 0, .bool false, .slice none 0 0, .slice none 0 0, .int .i64 0] 70) := ⟨_, rfl⟩
  rw [← hW]
  have HWB : Hid (Bel w W) := hid' (by rw [hW]; exact (Bel.refl _).alloc _)
  have HRB : Hid (G7 W w.heap.size (.slice none 0 0) (.int .i64 0) (.int .i64 0) (.bool false) (.slice none 0 0) (.slice none 0 0) (.int .i64 0)) := hid' (by rw [hW]; exact G7.new w _ _ _ _ _ _ _ _)
  have hmk := run_make_row' (P := Try.prog) 68 4 (.bool false) 1 Try.underlying68 Try.info_bool1 rfl .i64 .i64 L.length (by omega) (by omega)
  clear hW
  have hd0 : Bel W W.drew := (Bel.refl W).drew
  have hwd : W.drew.heap.size = W.heap.size := by simp
  go_cut [7] from 11 (fun s wx => ∃ (g gh : Nat) (Z : Option Addr) (cz : Nat), s = .pointer (some ⟨g, 0, none⟩) ∧ Fr W wx g A c L gap inner gh Z cz)
  case first =>
    go_region_with (first
      | (go_at_call 92
         refine (ihyps_c _ _ _ _ (h.keep (by first | exact HWB.out.trans hd0 | exact HWB.out.trans (hd0.alloc _) | exact HWB.out.trans ((hd0.alloc _).alloc _))) hn).mono ?_
         rintro e u1 ⟨v, rfl, hv, hb1⟩
         obtain ⟨Z, cz, rfl⟩ := own_slice hv
         have hz1 := hb1.sz
         (try simp at hz1)
         (try have n1 : ¬ W.heap.size = u1.heap.size := by omega)
         (try have n2 : ¬ W.heap.size + 1 = u1.heap.size := by omega)
         (try have n3 : ¬ u1.heap.size = W.heap.size := by omega)
         (try have n4 : W.heap.size < u1.heap.size := by omega)
         (try have hq0 := fun o => hb1.cell W.heap.size o (by first | (simp; done) | (simp; omega) | omega))
         (try have hq1 := fun o => hb1.cell (W.heap.size + 1) o (by first | (simp; done) | (simp; omega) | omega))
         (try have hq2 := fun o => hb1.frozen W.heap.size o (by first | (simp; done) | (simp; omega) | omega))
         (try have hq3 := fun o => hb1.frozen (W.heap.size + 1) o (by first | (simp; done) | (simp; omega) | omega))))
    · go_wp2_with fail
      go_meet
      exact ⟨u1.heap.size + 1, u1.heap.size, Z, cz, rfl, ⟨((hd0.trans hb1).alloc _).alloc _, by omega, by omega, by omega, by have := G7.new (u1.alloc (.cells (madeCells #[.bool false] L.length) 4)) (.slice A L.length c) (.int .i64 gap) (.int .i64 inner) (.bool false) (.slice Z L.length cz) (.slice (some ⟨u1.heap.size, 0, none⟩) L.length L.length) (.int .i64 0) 70; rwa [show (u1.alloc (.cells (madeCells #[.bool false] L.length) 4)).heap.size = u1.heap.size + 1 by simp] at this, (HR.new u1 L.length _).keep ((Bel.refl _).alloc _), own_base (own_keep hv (((Bel.refl _).alloc _).alloc _)) (by simp), fun b e => by have h1 := hv.lt b e; (try simp at h1); constructor <;> omega⟩⟩
    · go_wp2_with fail
      go_meet
      exact ⟨u1.heap.size, u1.heap.size + 1, Z, cz, rfl, ⟨((hd0.trans hb1).alloc _).alloc _, by omega, by omega, by omega, (G7.new u1 (.slice A L.length c) (.int .i64 gap) (.int .i64 inner) (.bool false) (.slice Z L.length cz) (.slice (some ⟨u1.heap.size + 1, 0, none⟩) L.length L.length) (.int .i64 0) 70).keep ((Bel.refl _).alloc _), by have := HR.new (u1.alloc (.cells #[.slice A L.length c, .int .i64 gap, .int .i64 inner, .bool false, .slice Z L.length cz, .slice (some ⟨u1.heap.size + 1, 0, none⟩) L.length L.length, .int .i64 0] 70)) L.length 4; rwa [show (u1.alloc (.cells #[.slice A L.length c, .int .i64 gap, .int .i64 inner, .bool false, .slice Z L.length cz, .slice (some ⟨u1.heap.size + 1, 0, none⟩) L.length L.length, .int .i64 0] 70)).heap.size = u1.heap.size + 1 by simp] at this, own_base (own_keep hv (((Bel.refl _).alloc _).alloc _)) (by simp), fun b e => by have h1 := hv.lt b e; (try simp at h1); constructor <;> omega⟩⟩
    · go_wp2_with fail
      go_meet
      exact ⟨u1.heap.size, W.heap.size, Z, cz, rfl, ⟨((hd0.alloc _).trans hb1).alloc _, by omega, by omega, by omega, G7.new u1 (.slice A L.length c) (.int .i64 gap) (.int .i64 inner) (.bool false) (.slice Z L.length cz) (.slice (some ⟨W.heap.size, 0, none⟩) L.length L.length) (.int .i64 0) 70, ((HR.new W.drew L.length 4).keep hb1).keep ((Bel.refl _).alloc _), own_base (own_keep hv ((Bel.refl _).alloc _)) (by simp), fun b e => by have h1 := hv.lt b e; (try simp at h1); constructor <;> omega⟩⟩
    · go_wp2_with fail
      go_meet
      exact ⟨W.heap.size + 1, W.heap.size, Z, cz, rfl, ⟨bel_set7 (((hd0.alloc _).alloc _).trans hb1) (by omega) _ _ _ _ _ _ _, by omega, by omega, by omega, G7.put ((by have := G7.new (W.drew.alloc (.cells (madeCells #[.bool false] L.length) 4)) (.slice none 0 0) (.int .i64 0) (.int .i64 0) (.bool false) (.slice none 0 0) (.slice none 0 0) (.int .i64 0) 70; rwa [show (W.drew.alloc (.cells (madeCells #[.bool false] L.length) 4)).heap.size = W.heap.size + 1 by simp] at this : G7 _ (W.heap.size + 1) (.slice none 0 0) (.int .i64 0) (.int .i64 0) (.bool false) (.slice none 0 0) (.slice none 0 0) (.int .i64 0)).keep hb1) _ _ _ _ _ _ _, (((HR.new W.drew L.length 4).keep ((Bel.refl _).alloc _)).keep hb1).set7 (by omega) _ _ _ _ _ _ _, own_base (own_set7 hv (fun b e => (((fun b e => by have h1 := hv.lt b e; (try simp at h1); constructor <;> omega : ∀ b, (Value.slice Z L.length cz).ownBlock = some b → b ≠ W.heap.size + 1 ∧ b ≠ W.heap.size)) b e).1) _ _ _ _ _ _ _) (by simp; try omega), fun b e => by have h1 := hv.lt b e; (try simp at h1); constructor <;> omega⟩⟩
    · go_wp2_with fail
      go_meet
      exact ⟨W.heap.size, u1.heap.size, Z, cz, rfl, ⟨(bel_set7 ((hd0.alloc _).trans hb1) (by omega) _ _ _ _ _ _ _).alloc _, by omega, by omega, by omega, (G7.put ((G7.new W.drew (.slice none 0 0) (.int .i64 0) (.int .i64 0) (.bool false) (.slice none 0 0) (.slice none 0 0) (.int .i64 0) 70).keep hb1) _ _ _ _ _ _ _).keep ((Bel.refl _).alloc _), by have := HR.new (set7 u1 W.heap.size (.slice A L.length c) (.int .i64 gap) (.int .i64 inner) (.bool false) (.slice Z L.length cz) (.slice (some ⟨u1.heap.size, 0, none⟩) L.length L.length) (.int .i64 0)) L.length 4; rwa [set7_size] at this, own_base (own_keep (own_set7 hv (fun b e => (((fun b e => by have h1 := hv.lt b e; (try simp at h1); constructor <;> omega : ∀ b, (Value.slice Z L.length cz).ownBlock = some b → b ≠ W.heap.size ∧ b ≠ u1.heap.size)) b e).1) _ _ _ _ _ _ _) ((Bel.refl _).alloc _)) (by simp; try omega), fun b e => by have h1 := hv.lt b e; (try simp at h1); constructor <;> omega⟩⟩
    · go_wp2_with fail
      go_meet
      exact ⟨W.heap.size, W.heap.size + 1, Z, cz, rfl, ⟨bel_set7 (((hd0.alloc _).alloc _).trans hb1) (by omega) _ _ _ _ _ _ _, by omega, by omega, by omega, G7.put (((G7.new W.drew (.slice none 0 0) (.int .i64 0) (.int .i64 0) (.bool false) (.slice none 0 0) (.slice none 0 0) (.int .i64 0) 70).keep ((Bel.refl _).alloc _)).keep hb1) _ _ _ _ _ _ _, ((by have := HR.new (W.drew.alloc (.cells #[.slice none 0 0, .int .i64 0, .int .i64 0, .bool false, .slice none 0 0, .slice none 0 0, .int .i64 0] 70)) L.length 4; rwa [show (W.drew.alloc (.cells #[.slice none 0 0, .int .i64 0, .int .i64 0, .bool false, .slice none 0 0, .slice none 0 0, .int .i64 0] 70)).heap.size = W.heap.size + 1 by simp] at this : HR _ (W.heap.size + 1) L.length).keep hb1).set7 (by omega) _ _ _ _ _ _ _, own_base (own_set7 hv (fun b e => (((fun b e => by have h1 := hv.lt b e; (try simp at h1); constructor <;> omega : ∀ b, (Value.slice Z L.length cz).ownBlock = some b → b ≠ W.heap.size ∧ b ≠ W.heap.size + 1)) b e).1) _ _ _ _ _ _ _) (by simp; try omega), fun b e => by have h1 := hv.lt b e; (try simp at h1); constructor <;> omega⟩⟩
  case rest =>
  obtain ⟨g, gh, Z, cz, rfl, hF⟩ := hcut
  clear hmk hd0 hwd
  have hR := h.keep (HWB.out.trans hF.bel)
  have hwg : w.heap.size < g := by have := HRB.out.lt; have := hF.glo; omega
  go_wp2_with fail
  cases hio : itemsOk L
  · obtain ⟨hp, hl⟩ := HB.out (by rw [HK.out, hio]; rfl)
    refine (iItemsOk_c _ _ _ _ hR hn).mono ?_; rintro e w2 ⟨rfl, hb2⟩
    rw [hio]
    have hF2 := hF.keep hb2
    have hRB := HRB.out.keep hF2.bel
    have HF2 := Lib.hid hF2
    have HRB2 := Lib.hid hRB
    have c0 := hF2.g7.c0
    have c1 := hF2.g7.c1
    have c2 := hF2.g7.c2
    have c3 := hF2.g7.c3
    have c4 := hF2.g7.c4
    have c5 := hF2.g7.c5
    have c6 := hF2.g7.c6
    have d0 := hRB.c0
    have d1 := hRB.c1
    have d2 := hRB.c2
    have d3 := hRB.c3
    have d4 := hRB.c4
    have d5 := hRB.c5
    have d6 := hRB.c6
    have f0 := hRB.f 0
    have f1 := hRB.f 1
    have f2 := hRB.f 2
    have f3 := hRB.f 3
    have f4 := hRB.f 4
    have f5 := hRB.f 5
    have f6 := hRB.f 6
    clear hF2 hRB
    go_wp2_with (go_at_call 68; refine (in_c _ _ _ _).mono ?_; rintro e w' ⟨rfl, rfl⟩)
    (try simp only [Exit.inBlock, Exit.then])
    refine bodyPost_ret (v := .agg #[.slice A L.length c, .int .i64 gap, .int .i64 inner, .bool false, .slice Z L.length cz, .slice (some ⟨gh, 0, none⟩) L.length L.length, .int .i64 0]) (by simp [results, Try.results58, go_sem, d0, d1, d2, d3, d4, d5, d6]) rfl ⟨Z, cz, gh, false, ?_, ?_, ?_⟩
    · rw [hp]; rfl
    · rw [hl]
      exact own_base (own_set7 HF2.out.zo (fun b e => by have h1 := (HF2.out.zo.lt b e).1; have h2 := HRB.out.lt; omega) _ _ _ _ _ _ _) (by have := HRB.out.lt; omega)
    · exact bel_set7 (HWB.out.trans HF2.out.bel) (Nat.le_refl _) _ _ _ _ _ _ _
  · cases hg : inB gap 0 1048576
    · obtain ⟨hp, hl⟩ := HB.out (by rw [HK.out, hio, hg]; rfl)
      refine (iItemsOk_c _ _ _ _ hR hn).mono ?_; rintro e w2 ⟨rfl, hb2⟩
      rw [hio]
      have hF2 := hF.keep hb2
      have hRB := HRB.out.keep hF2.bel
      have HF2 := Lib.hid hF2
      have HRB2 := Lib.hid hRB
      have c0 := hF2.g7.c0
      have c1 := hF2.g7.c1
      have c2 := hF2.g7.c2
      have c3 := hF2.g7.c3
      have c4 := hF2.g7.c4
      have c5 := hF2.g7.c5
      have c6 := hF2.g7.c6
      have d0 := hRB.c0
      have d1 := hRB.c1
      have d2 := hRB.c2
      have d3 := hRB.c3
      have d4 := hRB.c4
      have d5 := hRB.c5
      have d6 := hRB.c6
      have f0 := hRB.f 0
      have f1 := hRB.f 1
      have f2 := hRB.f 2
      have f3 := hRB.f 3
      have f4 := hRB.f 4
      have f5 := hRB.f 5
      have f6 := hRB.f 6
      clear hF2 hRB
      go_wp2_with (go_at_call 68; refine (in_c _ _ _ _).mono ?_; rintro e w' ⟨rfl, rfl⟩)
      (try simp only [Exit.inBlock, Exit.then])
      refine bodyPost_ret (v := .agg #[.slice A L.length c, .int .i64 gap, .int .i64 inner, .bool false, .slice Z L.length cz, .slice (some ⟨gh, 0, none⟩) L.length L.length, .int .i64 0]) (by simp [results, Try.results58, go_sem, d0, d1, d2, d3, d4, d5, d6]) rfl ⟨Z, cz, gh, false, ?_, ?_, ?_⟩
      · rw [hp]; rfl
      · rw [hl]
        exact own_base (own_set7 HF2.out.zo (fun b e => by have h1 := (HF2.out.zo.lt b e).1; have h2 := HRB.out.lt; omega) _ _ _ _ _ _ _) (by have := HRB.out.lt; omega)
      · exact bel_set7 (HWB.out.trans HF2.out.bel) (Nat.le_refl _) _ _ _ _ _ _ _
    · cases hi : inB inner 0 1048576
      · obtain ⟨hp, hl⟩ := HB.out (by rw [HK.out, hio, hg, hi]; rfl)
        refine (iItemsOk_c _ _ _ _ hR hn).mono ?_; rintro e w2 ⟨rfl, hb2⟩
        rw [hio]
        have hF2 := hF.keep hb2
        have hRB := HRB.out.keep hF2.bel
        have HF2 := Lib.hid hF2
        have HRB2 := Lib.hid hRB
        have c0 := hF2.g7.c0
        have c1 := hF2.g7.c1
        have c2 := hF2.g7.c2
        have c3 := hF2.g7.c3
        have c4 := hF2.g7.c4
        have c5 := hF2.g7.c5
        have c6 := hF2.g7.c6
        have d0 := hRB.c0
        have d1 := hRB.c1
        have d2 := hRB.c2
        have d3 := hRB.c3
        have d4 := hRB.c4
        have d5 := hRB.c5
        have d6 := hRB.c6
        have f0 := hRB.f 0
        have f1 := hRB.f 1
        have f2 := hRB.f 2
        have f3 := hRB.f 3
        have f4 := hRB.f 4
        have f5 := hRB.f 5
        have f6 := hRB.f 6
        clear hF2 hRB
        go_wp2_with (go_at_call 68; refine (in_c _ _ _ _).mono ?_; rintro e w' ⟨rfl, rfl⟩)
        (try simp only [Exit.inBlock, Exit.then])
        refine bodyPost_ret (v := .agg #[.slice A L.length c, .int .i64 gap, .int .i64 inner, .bool false, .slice Z L.length cz, .slice (some ⟨gh, 0, none⟩) L.length L.length, .int .i64 0]) (by simp [results, Try.results58, go_sem, d0, d1, d2, d3, d4, d5, d6]) rfl ⟨Z, cz, gh, false, ?_, ?_, ?_⟩
        · rw [hp]; rfl
        · rw [hl]
          exact own_base (own_set7 HF2.out.zo (fun b e => by have h1 := (HF2.out.zo.lt b e).1; have h2 := HRB.out.lt; omega) _ _ _ _ _ _ _) (by have := HRB.out.lt; omega)
        · exact bel_set7 (HWB.out.trans HF2.out.bel) (Nat.le_refl _) _ _ _ _ _ _ _
      · have HFO : Hid (flexOk L gap inner = true) := hid' (by rw [HK.out, hio, hg, hi]; rfl)
        obtain ⟨h12, hit⟩ := itemsOk_at hio
        have HOK := Lib.hid hio
        have HIT := Lib.hid hit
        clear hit HB
        refine (iItemsOk_c _ _ _ _ hR hn).mono ?_; rintro e w2 ⟨rfl, hb2⟩
        rw [hio]
        have hF2 := hF.keep hb2
        go_wp2_with (go_at_call 68; refine (in_c _ _ _ _).mono ?_; rintro e w' ⟨rfl, rfl⟩)
        clear hio hg hi
        refine (iGrows_c _ _ _ _ _ _ (hR.keep hb2) hn).mono ?_; rintro e w3 ⟨rfl, hb3⟩
        obtain ⟨gr, hgr⟩ : ∃ g, growsB L gap inner = g := ⟨_, rfl⟩
        have HG := Lib.hid hgr
        rw [hgr]
        clear hgr
        have hF3 := hF2.keep hb3
        have HFL := hid' (hF3.fl gr)
        have c3 := hF3.g7.c3
        have f3 := hF3.g7.f 3
        have hglo := hF3.glo
        have hRW := Lib.hid (h.keep HWB.out)
        clear hF hF2 hF3 hR hb2 hb3
        go_wp2_with fail
        obtain ⟨W4, hW4⟩ : ∃ W4, W4 = w3.setCell ⟨g, 3, none⟩ (.bool gr) := ⟨_, rfl⟩
        rw [← hW4] at HFL ⊢
        clear hW4 c3 f3
        go_loopw [41] (fun i wq => ∃ (k : Nat), k ≤ L.length ∧ i = .int .i64 k ∧ Fl W wq g 5 4 A c L gap inner gr (some ⟨gh, 0, none⟩) Z L.length cz (hz0 L gr k) (initF L gr).sz 0) (fun i _ => L.length - (intOf i).toNat)
        case atStart => exact ⟨0, Nat.zero_le _, by go_num, HFL.out⟩
        case round =>
          obtain ⟨k, hk, rfl, hFk⟩ := hrel
          by_cases hkl : k < L.length
          · have hki : (k : Int) < (L.length : Int) := by omega
            obtain ⟨b, o, rfl, hbl, hc⟩ := (hRW.out.keep hFk.bel) k hkl
            obtain ⟨x0, x1, x2, x3, x4, x5, x6, x7, x8⟩ := item_cells hc hkl
            have HFk := Lib.hid hFk
            have HX0 := hid' (FX.new wr (rec_ L k))
            have HBX : Hid (Bel wr (wr.alloc (.cells (rcells k_item (rec_ L k)).toArray 48))) := hid' ((Bel.refl _).alloc _)
            have hlx : wr.heap.size < (wr.alloc (.cells (rcells k_item (rec_ L k)).toArray 48)).heap.size := by simp
            clear hc hFk
            go_wp2_with fail
            refine (iHypOf_c _ _ _ _ _ _ _ _ _ _).mono ?_; rintro e w5 ⟨rfl, hb5⟩
            have HX5 := hid' (HX0.out.bel hb5 hlx)
            have HF5 := hid' (HFk.out.keep (HBX.out.trans hb5))
            have hl5 : wr.heap.size < w5.heap.size := Nat.lt_of_lt_of_le hlx hb5.sz
            clear x0 x1 x2 x3 x4 x5 x6 x7 x8 HX0 HBX hlx hb5
            obtain ⟨gx, hgx⟩ : ∃ gx, wr.heap.size = gx := ⟨_, rfl⟩
            rw [hgx] at HX5 hl5 ⊢
            clear hgx
            obtain ⟨gh', gz, hrow⟩ := HF5.out.row (by omega)
            obtain rfl : gh = gh' := by have := hrow.eh; injection this with h1; injection h1
            have p3 := cell_regrown HF5.out.c3
            have p5 := cell_regrown HF5.out.kh
            have y0 := cell_regrown (HX5.out 0 _ rfl)
            have y1 := cell_regrown (HX5.out 1 _ rfl)
            have y2 := cell_regrown (HX5.out 2 _ rfl)
            have y3 := cell_regrown (HX5.out 3 _ rfl)
            have y4 := cell_regrown (HX5.out 4 _ rfl)
            have y5 := cell_regrown (HX5.out 5 _ rfl)
            have y6 := cell_regrown (HX5.out 6 _ rfl)
            have y7 := cell_regrown (HX5.out 7 _ rfl)
            have y8 := cell_regrown (HX5.out 8 _ rfl)
            have HCK := hid' (hrow.hc k hkl)
            have HFK := hid' (hrow.hf k hkl)
            have hghl := hrow.hlt
            have hgh0 := hrow.hlo
            clear hrow
            obtain ⟨hy, hhy⟩ : ∃ v, within ((rec_ L k).s 0) ((rec_ L k).s 1) ((rec_ L k).s 2) = v := ⟨_, rfl⟩
            have HHY : Hid (hypR (rec_ L k) = hy) := hid' hhy
            rw [hhy]
            clear hhy
            have HIH : Hid (initHd L gr k = (wt L gr k == 0 || (gr && decide (hy < (rec_ L k).s 0)) || (!gr && decide ((rec_ L k).s 0 < hy)))) := hid' (by rw [initHd, HHY.out])
            have CW : Hid (∀ u : World, Calls Try.prog 95 #[itemV ((rec_ L k).s 0) ((rec_ L k).s 1) ((rec_ L k).s 2) ((rec_ L k).s 3) ((rec_ L k).s 4) ((rec_ L k).s 5) ((rec_ L k).s 6) ((rec_ L k).b 7) ((rec_ L k).b 8), .bool gr] u fun e u' => e = .returned (.int .i64 (wt L gr k)) ∧ Below u.heap.size u u') := hid' (fun u => iWeight_c (HIT.out k hkl) gr u)
            obtain ⟨V, hV⟩ : ∃ v, wt L gr k = v := ⟨_, rfl⟩
            rw [hV] at HIH CW
            clear hV
            obtain ⟨B, hB⟩ : ∃ v, (rec_ L k).s 0 = v := ⟨_, rfl⟩
            rw [hB] at HIH CW y0
            clear hB
            by_cases hw0 : V = 0
            · have HX : Hid (initHd L _ k = true) := hid' (HIH.out.trans (by simp [hw0]))
              clear HIH
              go_wp2_with fail
              refine wp_region_quiet_tail (C := fun w' => ∃ p : Regrown, w' = grow (redrawn w5 p.d) p.os) 30 (by kernel_rfl) (by kernel_rfl) ⟨⟨(w5).drawn + 1, #[]⟩, by rw [grow_empty]; rfl⟩ ?_
              simp only [List.take_succ_cons, List.take_zero, List.drop_succ_cons, List.drop_zero]
              repeat (go_big_quiet_step ((go_at_call 95; exact Calls.regrown_of (CW.out _))))
              refine wpQuiet_nil ?_
              intro _ hw'
              obtain ⟨⟨dq, osq⟩, hw''⟩ := hw'
              subst hw''
              have hbq : Bel w5 (grow (redrawn w5 dq) osq) := below_regrown w5 dq osq
              generalize grow (redrawn w5 dq) osq = wq at hbq ⊢
              have ck := (hbq.cell _ k hghl).trans HCK.out
              have cf := (hbq.frozen _ k hghl).trans HFK.out
              clear p3 p5 y0 y1 y2 y3 y4 y5 y6 y7 y8 CW
              go_wp2_with fail
              go_roundw
              case rel =>
                obtain ⟨gh', gz', hrow'⟩ := (HF5.out.keep hbq).row (by omega)
                obtain rfl : gh = gh' := by have := hrow'.eh; injection this with h1; injection h1
                exact ⟨k + 1, by omega, by go_num, ((HF5.out.keep hbq).setH hrow' hkl true).congr (fun i _ => by
                  unfold hz0
                  by_cases e : i = k
                  · rw [if_pos e, if_pos (by omega), e, HX.out]
                  · rw [if_neg e]
                    by_cases e2 : i < k
                    · rw [if_pos e2, if_pos (by omega)]
                    · rw [if_neg e2, if_neg (by omega)]) (fun i _ => rfl)⟩
              case measure => simp [intOf]; omega
            · cases gr
              · by_cases hlt : B < hy
                · have hwb : (V == 0) = false := by simpa using hw0
                  have hdb : decide (B < hy) = true := by simpa using hlt
                  have HX : Hid (initHd L _ k = true) := hid' (HIH.out.trans (by simp [hlt]))
                  clear HIH
                  go_wp2_with fail
                  refine wp_region_quiet_tail (C := fun w' => ∃ p : Regrown, w' = grow (redrawn w5 p.d) p.os) 30 (by kernel_rfl) (by kernel_rfl) ⟨⟨(w5).drawn + 1, #[]⟩, by rw [grow_empty]; rfl⟩ ?_
                  simp only [List.take_succ_cons, List.take_zero, List.drop_succ_cons, List.drop_zero]
                  repeat (go_big_quiet_step ((go_at_call 95; exact Calls.regrown_of (CW.out _))))
                  refine wpQuiet_nil ?_
                  intro _ hw'
                  obtain ⟨⟨dq, osq⟩, hw''⟩ := hw'
                  subst hw''
                  have hbq : Bel w5 (grow (redrawn w5 dq) osq) := below_regrown w5 dq osq
                  generalize grow (redrawn w5 dq) osq = wq at hbq ⊢
                  have ck := (hbq.cell _ k hghl).trans HCK.out
                  have cf := (hbq.frozen _ k hghl).trans HFK.out
                  clear p3 p5 y0 y1 y2 y3 y4 y5 y6 y7 y8 CW
                  go_wp2_with fail
                  go_roundw
                  case rel =>
                    obtain ⟨gh', gz', hrow'⟩ := (HF5.out.keep hbq).row (by omega)
                    obtain rfl : gh = gh' := by have := hrow'.eh; injection this with h1; injection h1
                    exact ⟨k + 1, by omega, by go_num, ((HF5.out.keep hbq).setH hrow' hkl true).congr (fun i _ => by
                      unfold hz0
                      by_cases e : i = k
                      · rw [if_pos e, if_pos (by omega), e, HX.out]
                      · rw [if_neg e]
                        by_cases e2 : i < k
                        · rw [if_pos e2, if_pos (by omega)]
                        · rw [if_neg e2, if_neg (by omega)]) (fun i _ => rfl)⟩
                  case measure => simp [intOf]; omega
                · have hwb : (V == 0) = false := by simpa using hw0
                  have hdb : decide (B < hy) = false := by simpa using hlt
                  have HX : Hid (initHd L _ k = false) := hid' (HIH.out.trans (by simp [hw0]; omega))
                  clear HIH
                  go_wp2_with fail
                  refine wp_region_quiet_tail (C := fun w' => ∃ p : Regrown, w' = grow (redrawn w5 p.d) p.os) 30 (by kernel_rfl) (by kernel_rfl) ⟨⟨(w5).drawn + 1, #[]⟩, by rw [grow_empty]; rfl⟩ ?_
                  simp only [List.take_succ_cons, List.take_zero, List.drop_succ_cons, List.drop_zero]
                  repeat (go_big_quiet_step ((go_at_call 95; exact Calls.regrown_of (CW.out _))))
                  refine wpQuiet_nil ?_
                  intro _ hw'
                  obtain ⟨⟨dq, osq⟩, hw''⟩ := hw'
                  subst hw''
                  have hbq : Bel w5 (grow (redrawn w5 dq) osq) := below_regrown w5 dq osq
                  generalize grow (redrawn w5 dq) osq = wq at hbq ⊢
                  have ck := (hbq.cell _ k hghl).trans HCK.out
                  have cf := (hbq.frozen _ k hghl).trans HFK.out
                  clear p3 p5 y0 y1 y2 y3 y4 y5 y6 y7 y8 CW
                  go_wp2_with fail
                  go_roundw
                  case rel =>
                    obtain ⟨gh', gz', hrow'⟩ := (HF5.out.keep hbq).row (by omega)
                    obtain rfl : gh = gh' := by have := hrow'.eh; injection this with h1; injection h1
                    exact ⟨k + 1, by omega, by go_num, ((HF5.out.keep hbq).setH hrow' hkl false).congr (fun i _ => by
                      unfold hz0
                      by_cases e : i = k
                      · rw [if_pos e, if_pos (by omega), e, HX.out]
                      · rw [if_neg e]
                        by_cases e2 : i < k
                        · rw [if_pos e2, if_pos (by omega)]
                        · rw [if_neg e2, if_neg (by omega)]) (fun i _ => rfl)⟩
                  case measure => simp [intOf]; omega
              · by_cases hlt : hy < B
                · have hwb : (V == 0) = false := by simpa using hw0
                  have hdb : decide (hy < B) = true := by simpa using hlt
                  have HX : Hid (initHd L _ k = true) := hid' (HIH.out.trans (by simp [hlt]))
                  clear HIH
                  go_wp2_with fail
                  refine wp_region_quiet_tail (C := fun w' => ∃ p : Regrown, w' = grow (redrawn w5 p.d) p.os) 30 (by kernel_rfl) (by kernel_rfl) ⟨⟨(w5).drawn + 1, #[]⟩, by rw [grow_empty]; rfl⟩ ?_
                  simp only [List.take_succ_cons, List.take_zero, List.drop_succ_cons, List.drop_zero]
                  repeat (go_big_quiet_step ((go_at_call 95; exact Calls.regrown_of (CW.out _))))
                  refine wpQuiet_nil ?_
                  intro _ hw'
                  obtain ⟨⟨dq, osq⟩, hw''⟩ := hw'
                  subst hw''
                  have hbq : Bel w5 (grow (redrawn w5 dq) osq) := below_regrown w5 dq osq
                  generalize grow (redrawn w5 dq) osq = wq at hbq ⊢
                  have ck := (hbq.cell _ k hghl).trans HCK.out
                  have cf := (hbq.frozen _ k hghl).trans HFK.out
                  clear p3 p5 y0 y1 y2 y3 y4 y5 y6 y7 y8 CW
                  go_wp2_with fail
                  go_roundw
                  case rel =>
                    obtain ⟨gh', gz', hrow'⟩ := (HF5.out.keep hbq).row (by omega)
                    obtain rfl : gh = gh' := by have := hrow'.eh; injection this with h1; injection h1
                    exact ⟨k + 1, by omega, by go_num, ((HF5.out.keep hbq).setH hrow' hkl true).congr (fun i _ => by
                      unfold hz0
                      by_cases e : i = k
                      · rw [if_pos e, if_pos (by omega), e, HX.out]
                      · rw [if_neg e]
                        by_cases e2 : i < k
                        · rw [if_pos e2, if_pos (by omega)]
                        · rw [if_neg e2, if_neg (by omega)]) (fun i _ => rfl)⟩
                  case measure => simp [intOf]; omega
                · have hwb : (V == 0) = false := by simpa using hw0
                  have hdb : decide (hy < B) = false := by simpa using hlt
                  have HX : Hid (initHd L _ k = false) := hid' (HIH.out.trans (by simp [hw0]; omega))
                  clear HIH
                  go_wp2_with fail
                  refine wp_region_quiet_tail (C := fun w' => ∃ p : Regrown, w' = grow (redrawn w5 p.d) p.os) 30 (by kernel_rfl) (by kernel_rfl) ⟨⟨(w5).drawn + 1, #[]⟩, by rw [grow_empty]; rfl⟩ ?_
                  simp only [List.take_succ_cons, List.take_zero, List.drop_succ_cons, List.drop_zero]
                  repeat (go_big_quiet_step ((go_at_call 95; exact Calls.regrown_of (CW.out _))))
                  refine wpQuiet_nil ?_
                  intro _ hw'
                  obtain ⟨⟨dq, osq⟩, hw''⟩ := hw'
                  subst hw''
                  have hbq : Bel w5 (grow (redrawn w5 dq) osq) := below_regrown w5 dq osq
                  generalize grow (redrawn w5 dq) osq = wq at hbq ⊢
                  have ck := (hbq.cell _ k hghl).trans HCK.out
                  have cf := (hbq.frozen _ k hghl).trans HFK.out
                  clear p3 p5 y0 y1 y2 y3 y4 y5 y6 y7 y8 CW
                  go_wp2_with fail
                  go_roundw
                  case rel =>
                    obtain ⟨gh', gz', hrow'⟩ := (HF5.out.keep hbq).row (by omega)
                    obtain rfl : gh = gh' := by have := hrow'.eh; injection this with h1; injection h1
                    exact ⟨k + 1, by omega, by go_num, ((HF5.out.keep hbq).setH hrow' hkl false).congr (fun i _ => by
                      unfold hz0
                      by_cases e : i = k
                      · rw [if_pos e, if_pos (by omega), e, HX.out]
                      · rw [if_neg e]
                        by_cases e2 : i < k
                        · rw [if_pos e2, if_pos (by omega)]
                        · rw [if_neg e2, if_neg (by omega)]) (fun i _ => rfl)⟩
                  case measure => simp [intOf]; omega
          · obtain rfl : k = L.length := by omega
            have hFi := hFk.congr (hd' := (initF L gr).hd) (z' := (initF L gr).sz) (fun i hi => by rw [hz0, if_pos hi]; rfl) (fun i _ => rfl)
            have HFI : Hid (flexAll L gap inner = flexRun L gr gap inner L.length (initF L gr) 0) := hid' (by unfold flexAll; rw [HG.out])
            have HRUN : Hid (∀ S ps, flexRun L gr gap inner L.length S ps = flexAll L gap inner → frees S.hd L.length = [] → flexP L gap inner = ps ∧ rowOf L.length S.sz = flexL L gap inner) := hid' (fun S ps h1 h2 => by
              rw [flexRun_done _ _ _ _ _ h2] at h1
              exact ⟨by rw [flexP, if_pos HFO.out, ← h1], by rw [flexL, if_pos HFO.out, ← h1]⟩)
            clear hFk
            go_wp2_with fail
            go_loopw [79] (fun _ wq => ∃ (S : Fx) (ps : Nat), Fl W wq g 5 4 A c L gap inner gr (some ⟨gh, 0, none⟩) Z L.length cz S.hd S.sz (ps : Int) ∧ flexRun L gr gap inner L.length S ps = flexAll L gap inner ∧ ps + (frees S.hd L.length).length ≤ L.length) (fun _ wq => L.length - cellN wq g)
            case atStart => exact ⟨initF L gr, 0, hFi, HFI.out.symm, by have := frees_le (initF L gr).hd L.length; omega⟩
            case round =>
              obtain ⟨S, ps, hFq, hrun, hle⟩ := hrel
              have c6 := hFq.c6
              have HC6 := Lib.hid c6
              clear c6
              go_wp2_with fail
              refine (iPass_c S ps hFq hRW.out HOK.out (by omega)).mono ?_
              rintro e w6 (⟨hf, rfl, hF6⟩ | ⟨hf, rfl, hF6⟩)
              · obtain ⟨r1, r2⟩ := HRUN.out S ps hrun hf
                have hRB := HRB.out.keep hF6.bel
                have HF6 := Lib.hid hF6
                have c0 := hF6.c0
                have c1 := hF6.c1
                have c2 := hF6.c2
                have c3 := hF6.c3
                have c4 := hF6.kz
                have c5 := hF6.kh
                have c6 := hF6.c6
                have d0 := hRB.c0
                have d1 := hRB.c1
                have d2 := hRB.c2
                have d3 := hRB.c3
                have d4 := hRB.c4
                have d5 := hRB.c5
                have d6 := hRB.c6
                have f0 := hRB.f 0
                have f1 := hRB.f 1
                have f2 := hRB.f 2
                have f3 := hRB.f 3
                have f4 := hRB.f 4
                have f5 := hRB.f 5
                have f6 := hRB.f 6
                clear hF6 hRB hrun hf hFq
                go_wp2_with fail
                (try simp only [Exit.inBlock, Exit.then])
                refine bodyPost_ret (v := .agg #[.slice A L.length c, .int .i64 gap, .int .i64 inner, .bool gr, .slice Z L.length cz, .slice (some ⟨gh, 0, none⟩) L.length L.length, .int .i64 (ps : Nat)]) (by simp [results, Try.results58, go_sem, d0, d1, d2, d3, d4, d5, d6]) rfl ⟨Z, cz, gh, gr, ?_, ?_, ?_⟩
                · rw [r1]
                · rw [← r2]
                  exact own_base (own_set7 HF6.out.zo (fun b e => by have h1 := (HF6.out.zo.lt b e).1; have h2 := HRB.out.lt; omega) _ _ _ _ _ _ _) (by have := HRB.out.lt; omega)
                · exact bel_set7 (HWB.out.trans HF6.out.bel) (Nat.le_refl _) _ _ _ _ _ _ _
              · have hless := step_less L gr gap inner S hf
                go_wp2_with fail
                go_roundw
                case rel => exact ⟨stepF L gr gap inner S, ps + 1, by rw [show ((ps + 1 : Nat) : Int) = (ps : Int) + 1 by omega]; exact hF6, (flexRun_step L gr gap inner hf).trans hrun, by omega⟩
                case measure =>
                  have m1 : cellN w6 g = ps + 1 := by unfold cellN; rw [hF6.c6]; first | (simp; done) | (simp; omega)
                  have m2 : cellN wr g = ps := by unfold cellN; rw [HC6.out]; simp
                  have : 0 < (frees S.hd L.length).length := List.length_pos_iff.2 hf
                  omega
theorem field_sizes (v0 v1 v2 v3 v4 v5 v6 : Value) (w : World) : (Instr.field 70 (.agg #[v0, v1, v2, v3, v4, v5, v6]) 4).run Try.prog w = .ok v4 w := by
  have hagg : (isAgg 29).run Try.prog w = .ok false w := by
    unfold isAgg
    rw [Sem.run_bind, run_underlying Try.underlying29 w]
    rfl
  unfold Instr.field
  rw [Sem.run_bind, run_underlying Try.underlying70 w]
  simp only [Result.andThen_ok]
  show (asAgg (.agg #[v0, v1, v2, v3, v4, v5, v6]) >>= fun z => part 29 z 4).run Try.prog w = _
  simp [asAgg, part, Sem.run_bind, hagg]
theorem field_passes (v0 v1 v2 v3 v4 v5 v6 : Value) (w : World) : (Instr.field 70 (.agg #[v0, v1, v2, v3, v4, v5, v6]) 6).run Try.prog w = .ok v6 w := by
  have hagg : (isAgg 3).run Try.prog w = .ok false w := by
    unfold isAgg
    rw [Sem.run_bind, run_underlying Try.underlying3 w]
    rfl
  unfold Instr.field
  rw [Sem.run_bind, run_underlying Try.underlying70 w]
  simp only [Result.andThen_ok]
  show (asAgg (.agg #[v0, v1, v2, v3, v4, v5, v6]) >>= fun z => part 3 z 6).run Try.prog w = _
  simp [asAgg, part, Sem.run_bind, hagg]
set_option maxRecDepth 100000 in
set_option maxHeartbeats 1000000 in
theorem iFlexLine_c (A : Option Addr) (c : Nat) (L : List Rec) (gap inner : Int) (w : World) (h : Recs w A k_item L) (hn : L.length ≤ 1048576) :
    Calls Try.prog 16 #[.slice A L.length c, .int .i64 gap, .int .i64 inner] w fun e w' => ∃ v, e = .returned v ∧ w'.ownsRow w.heap.size 3 1 v L.length (VI (flexL L gap inner)) ∧ Bel w w' := by
  go_enter Try.func16, Try.ntmps16
  go_wp2_with fail
  refine (iFlexed_c _ _ _ _ _ _ h hn).mono ?_; rintro e w1 ⟨Z, cz, gh, b, rfl, ho, hb⟩
  have hfu := field_sizes (.slice A L.length c) (.int .i64 gap) (.int .i64 inner) (.bool b) (.slice Z L.length cz) (.slice (some ⟨gh, 0, none⟩) L.length L.length) (.int .i64 (flexP L gap inner : Nat)) w1
  go_wp2_with fail
  go_ret
  exact ⟨_, rfl, ho, hb⟩
set_option maxRecDepth 100000 in
set_option maxHeartbeats 1000000 in
theorem iFlexPasses_c (A : Option Addr) (c : Nat) (L : List Rec) (gap inner : Int) (w : World) (h : Recs w A k_item L) (hn : L.length ≤ 1048576) :
    Calls Try.prog 13 #[.slice A L.length c, .int .i64 gap, .int .i64 inner] w fun e w' => e = .returned (.int .i64 (flexP L gap inner : Nat)) ∧ Bel w w' := by
  go_enter Try.func13, Try.ntmps13
  go_wp2_with fail
  refine (iFlexed_c _ _ _ _ _ _ h hn).mono ?_; rintro e w1 ⟨Z, cz, gh, b, rfl, ho, hb⟩
  have hfu := field_passes (.slice A L.length c) (.int .i64 gap) (.int .i64 inner) (.bool b) (.slice Z L.length cz) (.slice (some ⟨gh, 0, none⟩) L.length L.length) (.int .i64 (flexP L gap inner : Nat)) w1
  go_wp2_with fail
  go_ret
  exact ⟨rfl, hb⟩
end Go.Proofs.Ytmipjhnjlpmidaa
