/- The cursor of a draw: l01New, l01Byte, l01Below, l01Once, l01PickInt, and what a call over a cursor leaves. -/
import Derived.Test.YtfmijkedhlnccaaMark
import Derived.StillTailTactics
namespace Go.Proofs.Ytfmijkedhlnccaa
open Go.RowKit Go.ChangeShapes Go.WideShapes
set_option linter.unusedVariables false
set_option linter.unusedSimpArgs false

theorem and_bd (v : Int) (m : Nat) (hm : m < 9223372036854775808) : 0 ≤ bits .and .i64 v (m : Int) ∧ bits .and .i64 v (m : Int) ≤ m := by
  have e : bits .and .i64 v (m : Int) = IntKind.i64.wrap ((BitVec.ofInt 64 v &&& BitVec.ofInt 64 (m : Int)).toNat : Int) := rfl
  have h : (BitVec.ofInt 64 v &&& BitVec.ofInt 64 (m : Int)).toNat ≤ m := by
    rw [BitVec.toNat_and]
    refine Nat.le_trans Nat.and_le_right ?_
    rw [BitVec.ofInt_natCast, BitVec.toNat_ofNat]
    exact Nat.mod_le _ _
  rw [e, IntKind.wrap_i64]
  omega
theorem and255 (v : Int) : 0 ≤ bits .and .i64 v 255 ∧ bits .and .i64 v 255 ≤ 255 := and_bd v 255 (by omega)

/-- bytes that are read -/
def Byts (w : World) (A : Option Addr) (n : Nat) : Prop :=
  ∀ i, i < n → ∃ b o, A = some ⟨b, o, none⟩ ∧ b < w.heap.size ∧ ∀ j, j < n → ∃ x : Int, 0 ≤ x ∧ x ≤ 255 ∧ w.cell? ⟨b, o + j, none⟩ = some (.int .u8 x)
theorem Byts.keep {w w' : World} {A : Option Addr} {n : Nat} (h : Byts w A n) (hb : Bel w w') : Byts w' A n := fun i hi => by
  obtain ⟨b, o, e, hl, hc⟩ := h i hi
  refine ⟨b, o, e, Nat.lt_of_lt_of_le hl hb.sz, fun j hj => ?_⟩
  obtain ⟨x, h0, h1, hx⟩ := hc j hj
  exact ⟨x, h0, h1, (hb.cell _ _ hl).trans hx⟩
theorem Byts.grown {w w' : World} {A : Option Addr} {n p : Nat} (h : Byts w A n) (hg : w.grownBy w' (some p)) (ha : ∀ b o, A = some ⟨b, o, none⟩ → b ≠ p) : Byts w' A n := fun i hi => by
  obtain ⟨b, o, e, hl, hc⟩ := h i hi
  refine ⟨b, o, e, Nat.lt_of_lt_of_le hl hg.size, fun j hj => ?_⟩
  obtain ⟨x, h0, h1, hx⟩ := hc j hj
  exact ⟨x, h0, h1, hg.cell hx (by have := ha b o e; simpa using this)⟩

/-- what a call leaves that writes in block p and in new blocks alone -/
def CB (p : Nat) (w w' : World) : Prop := w.grownBy w' (some p)
theorem CB.refl (p : Nat) (w : World) : CB p w w := World.grownBy.refl _ _
theorem CB.trans {p : Nat} {a b c : World} (h : CB p a b) (k : CB p b c) : CB p a c := World.grownBy.trans h k
theorem CB.sz {p : Nat} {a b : World} (h : CB p a b) : a.heap.size ≤ b.heap.size := World.grownBy.size h
theorem CB.of {p : Nat} {a b : World} (h : Bel a b) : CB p a b := ⟨h.os, h.tape, h.output, h.sz, fun k hk _ => h.block k hk⟩
theorem CB.bel {p : Nat} {a b c : World} (h : CB p a b) (k : Bel b c) : CB p a c := h.trans (CB.of k)
theorem CB.new {p q : Nat} {a b c : World} (h : CB p a b) (k : b.grownBy c (some q)) (hq : a.heap.size ≤ q) : CB p a c :=
  ⟨k.os.trans h.os, k.tape.trans h.tape, k.output.trans h.output, Nat.le_trans h.sz k.size, fun i hi hne => (k.block i (Nat.lt_of_lt_of_le hi h.sz) (by intro e; injection e with e; omega)).trans (h.block i hi hne)⟩
theorem CB.grown {p : Nat} {a b c : World} {row : Option Nat} (h : CB p a b) (k : b.grownBy c row) (hq : ∀ q, row = some q → a.heap.size ≤ q) : CB p a c :=
  ⟨k.os.trans h.os, k.tape.trans h.tape, k.output.trans h.output, Nat.le_trans h.sz k.size, fun i hi hne => (k.block i (Nat.lt_of_lt_of_le hi h.sz) (by intro e; have := hq i e.symm; omega)).trans (h.block i hi hne)⟩
theorem CB.alloc {p : Nat} {a b : World} (h : CB p a b) (o : Obj) : CB p a (b.alloc o) := h.bel ((Bel.refl b).alloc o)
theorem CB.drew {p : Nat} {a b : World} (h : CB p a b) : CB p a b.drew := h.bel ((Bel.refl b).drew)
theorem CB.drewN {p : Nat} {a b : World} (h : CB p a b) (n : Nat) : CB p a (b.drewN n) := h.bel ((Bel.refl b).drewN n)
theorem CB.set {p : Nat} {a b : World} (h : CB p a b) (i : Nat) (v : Value) : CB p a (b.setCell ⟨p, i, none⟩ v) :=
  h.trans ⟨rfl, rfl, rfl, by simp [World.setCell], fun k hk hne => Below.heap_setCell _ _ _ _ (fun e => hne (by rw [e]))⟩
theorem CB.setNew {p q : Nat} {a b : World} (h : CB p a b) (hq : a.heap.size ≤ q) (i : Nat) (v : Value) : CB p a (b.setCell ⟨q, i, none⟩ v) :=
  h.new ⟨rfl, rfl, rfl, by simp [World.setCell], fun k hk hne => Below.heap_setCell _ _ _ _ (fun e => hne (by rw [e]))⟩ hq
theorem CB.toBel {p : Nat} {w a b : World} (h : CB p a b) (hw : Bel w a) (hp : w.heap.size ≤ p) : Bel w b := hw.grown (row := some p) h (fun k e => by injection e with e; omega)
theorem CB.cell {p : Nat} {a b : World} (h : CB p a b) (k o : Nat) (hk : k < a.heap.size) (hne : k ≠ p) : b.cell? ⟨k, o, none⟩ = a.cell? ⟨k, o, none⟩ :=
  World.cell?_of_block (World.grownBy.block h k hk (by simpa using hne))
theorem CB.frozen {p : Nat} {a b : World} (h : CB p a b) (k o : Nat) (hk : k < a.heap.size) (hne : k ≠ p) : b.frozen? ⟨k, o, none⟩ = a.frozen? ⟨k, o, none⟩ :=
  World.frozen?_of_block (World.grownBy.block h k hk (by simpa using hne))

/-- a cursor in block p -/
structure CurAt (w : World) (p : Nat) (A : Option Addr) (n c i : Nat) (h : Int) : Prop where
  le : i ≤ n
  n63 : n ≤ 4611686018427387904
  c0 : w.cell? ⟨p, 0, none⟩ = some (.slice A n c)
  c1 : w.cell? ⟨p, 1, none⟩ = some (.int .i64 i)
  c2 : w.cell? ⟨p, 2, none⟩ = some (.int .i64 h)
  f1 : w.frozen? ⟨p, 1, none⟩ = false
  f2 : w.frozen? ⟨p, 2, none⟩ = false
  by_ : Byts w A n
  far : 0 < n → ∀ b o, A = some ⟨b, o, none⟩ → b < p
  lt : p < w.heap.size
def Cur (w : World) (p : Nat) : Prop := ∃ A n c i h, CurAt w p A n c i h
theorem CurAt.keep {w w' : World} {p : Nat} {A : Option Addr} {n c i : Nat} {h : Int} (hc : CurAt w p A n c i h) (hb : Bel w w') : CurAt w' p A n c i h :=
  ⟨hc.le, hc.n63, (hb.cell _ _ hc.lt).trans hc.c0, (hb.cell _ _ hc.lt).trans hc.c1, (hb.cell _ _ hc.lt).trans hc.c2, (hb.frozen _ _ hc.lt).trans hc.f1, (hb.frozen _ _ hc.lt).trans hc.f2, hc.by_.keep hb, hc.far, Nat.lt_of_lt_of_le hc.lt hb.sz⟩
theorem Cur.keep {w w' : World} {p : Nat} (hc : Cur w p) (hb : Bel w w') : Cur w' p := by
  obtain ⟨A, n, c, i, h, k⟩ := hc
  exact ⟨A, n, c, i, h, k.keep hb⟩
theorem Cur.grown {w w' : World} {p : Nat} {row : Option Nat} (hc : Cur w p) (hg : w.grownBy w' row) (hq : ∀ q, row = some q → p < q) : Cur w' p := by
  obtain ⟨A, n, c, i, h, k⟩ := hc
  have hne : some p ≠ row := fun e => by have := hq p e.symm; omega
  refine ⟨A, n, c, i, h, k.le, k.n63, hg.cell k.c0 hne, hg.cell k.c1 hne, hg.cell k.c2 hne, ?_, ?_, ?_, k.far, Nat.lt_of_lt_of_le k.lt hg.size⟩
  · rw [World.frozen?_of_block (w := w) (hg.block p k.lt hne)]; exact k.f1
  · rw [World.frozen?_of_block (w := w) (hg.block p k.lt hne)]; exact k.f2
  · intro j hj
    obtain ⟨b, o, e, hl, hc⟩ := k.by_ j hj
    refine ⟨b, o, e, Nat.lt_of_lt_of_le hl hg.size, fun j hj => ?_⟩
    obtain ⟨x, h0, h1, hx⟩ := hc j hj
    exact ⟨x, h0, h1, hg.cell hx (fun e' => by have := hq b e'.symm; have := k.far (by omega) b o e; omega)⟩
theorem Cur.lt {w : World} {p : Nat} (hc : Cur w p) : p < w.heap.size := by
  obtain ⟨A, n, c, i, h, k⟩ := hc
  exact k.lt
theorem Cur.setNew {w : World} {p q : Nat} (hc : Cur w p) (hq : p < q) (i : Nat) (v : Value) : Cur (w.setCell ⟨q, i, none⟩ v) p :=
  hc.grown (row := some q) ⟨rfl, rfl, rfl, by simp [World.setCell], fun k hk hne => Below.heap_setCell _ _ _ _ (fun e => hne (by rw [e]))⟩ (fun k e => by injection e with e; omega)

theorem cell_set_ne {w : World} {b o c q : Nat} {v : Value} (h : ¬ (b = c ∧ o = q)) : (w.setCell ⟨b, o, none⟩ v).cell? ⟨c, q, none⟩ = w.cell? ⟨c, q, none⟩ :=
  World.cell?_setCell_other _ _ _ _ (fun e => h (by injection e with e1 e2; exact ⟨e1, e2⟩))
theorem Byts.set {w : World} {A : Option Addr} {n p : Nat} (h : Byts w A n) (hf : 0 < n → ∀ b o, A = some ⟨b, o, none⟩ → b < p) (q : Nat) (v : Value) : Byts (w.setCell ⟨p, q, none⟩ v) A n := fun j hj => by
  obtain ⟨b, o, e, hl, hc⟩ := h j hj
  refine ⟨b, o, e, by simpa using hl, fun q hq => ?_⟩
  obtain ⟨x, h0, h1, hx⟩ := hc q hq
  have := hf (by omega) b o e
  exact ⟨x, h0, h1, by rw [cell_set_ne (by omega)]; exact hx⟩
theorem CurAt.setH {w : World} {p : Nat} {A : Option Addr} {n c i : Nat} {h : Int} (k : CurAt w p A n c i h) (h' : Int) : CurAt (w.setCell ⟨p, 2, none⟩ (.int .i64 h')) p A n c i h' :=
  ⟨k.le, k.n63, (cell_set_ne (by omega)).trans k.c0, (cell_set_ne (by omega)).trans k.c1, World.cell?_setCell_same _ _ _ k.c2, by simpa using k.f1, by simpa using k.f2, k.by_.set k.far _ _, k.far, by simpa using k.lt⟩
theorem CurAt.setI {w : World} {p : Nat} {A : Option Addr} {n c i : Nat} {h : Int} (k : CurAt w p A n c i h) (hi : i < n) : CurAt (w.setCell ⟨p, 1, none⟩ (.int .i64 ((i : Int) + 1))) p A n c (i + 1) h :=
  ⟨hi, k.n63, (cell_set_ne (by omega)).trans k.c0, World.cell?_setCell_same _ _ _ k.c1, (cell_set_ne (by omega)).trans k.c2, by simpa using k.f1, by simpa using k.f2, k.by_.set k.far _ _, k.far, by simpa using k.lt⟩
set_option maxRecDepth 100000 in
set_option maxHeartbeats 2000000 in
theorem l01New_c (A : Option Addr) (n c : Nat) (w : World) (h : Byts w A n) (hn : n ≤ 4611686018427387904) :
    Calls Try.prog 20 #[.slice A n c] w fun r w' => r = .returned (.pointer (some ⟨w.heap.size, 0, none⟩)) ∧ Cur w' w.heap.size ∧ Bel w w' := by
  have hfar : ∀ b o, A = some ⟨b, o, none⟩ → 0 < n → b < w.heap.size := fun b o e hp => by
    obtain ⟨b', o', e', hl, -⟩ := h 0 hp
    rw [e] at e'
    injection e' with e'
    injection e' with e1
    omega
  go_enter Try.func20, Try.ntmps20
  go_wp2_with fail
  go_loopw [3, 4] (fun q i wr => ∃ (k : Nat) (z : Int), k ≤ n ∧ i = .int .i64 k ∧ q = .int .i64 z ∧ wr = w) (fun _ i _ => n - (intOf i).toNat)
  case atStart => exact ⟨0, _, Nat.zero_le _, by go_num, rfl, rfl⟩
  case round =>
    obtain ⟨k, z, hk, rfl, rfl, rfl⟩ := hrel
    by_cases hlt : k < n ∧ k < 4000
    · obtain ⟨b, o, rfl, hbl, hc⟩ := h k hlt.1
      obtain ⟨x, hx0, hx1, hcx⟩ := hc k hlt.1
      clear hc
      have h1 := hlt.1
      have h2 := hlt.2
      go_wp2_with fail
      go_roundw
      case rel => exact ⟨k + 1, _, by omega, by go_num, rfl, by trivial⟩
      case measure => simp [intOf]; omega
    · by_cases h1 : k < n
      · have h2 : ¬ k < 4000 := fun h => hlt ⟨h1, h⟩
        go_wp2_with fail
        go_ret
        refine ⟨by first | rfl | trivial | simp, ⟨A, n, c, 0, z, Nat.zero_le _, hn, ?_, ?_, ?_, ?_, ?_, h.keep ((Bel.refl _).alloc _), fun hp b o e => hfar b o e hp, by simp⟩, (Bel.refl _).alloc _⟩
        all_goals simp
      · go_wp2_with fail
        go_ret
        refine ⟨by first | rfl | trivial | simp, ⟨A, n, c, 0, z, Nat.zero_le _, hn, ?_, ?_, ?_, ?_, ?_, h.keep ((Bel.refl _).alloc _), fun hp b o e => hfar b o e hp, by simp⟩, (Bel.refl _).alloc _⟩
        all_goals simp
set_option maxRecDepth 100000 in
set_option maxHeartbeats 2000000 in
theorem l01Byte_c (p : Nat) (w : World) (hc : Cur w p) :
    Calls Try.prog 64 #[.pointer (some ⟨p, 0, none⟩)] w fun r w' => ∃ x, r = .returned (.int .i64 x) ∧ (0 ≤ x ∧ x ≤ 255) ∧ Cur w' p ∧ CB p w w' := by
  obtain ⟨A, n, c, i, h, k⟩ := hc
  have hle := k.le
  have h63 := k.n63
  have c0 := k.c0
  have c1 := k.c1
  have c2 := k.c2
  have f1 := k.f1
  have f2 := k.f2
  by_cases hlt : i < n
  · obtain ⟨b, o, rfl, hbl, hc⟩ := k.by_ i hlt
    obtain ⟨x, hx0, hx1, hcx⟩ := hc i hlt
    have hbp := k.far (by omega) b o rfl
    have hne : b ≠ p := by omega
    have hlti : (i : Int) < (n : Int) := by omega
    have K := Lib.hid k
    clear hc k
    go_enter Try.func64, Try.ntmps64
    go_wp2_with fail
    go_quiet (fail)
    go_wp2_with fail
    go_quiet (fail)
    go_wp2_with fail
    go_quiet (fail)
    go_wp2_with fail
    go_ret
    exact ⟨_, rfl, and255 _, ⟨_, _, _, _, _, (((K.out.setH _).keep ((Bel.refl _).drewN _)).setI hlt)⟩, (((CB.refl p w).set 2 _).drewN _).set 1 _⟩
  · have hge : ¬ (i : Int) < (n : Int) := by omega
    go_enter Try.func64, Try.ntmps64
    go_wp2_with fail
    go_quiet (fail)
    go_wp2_with fail
    go_quiet (fail)
    go_wp2_with fail
    go_ret
    exact ⟨_, rfl, and255 _, ⟨_, _, _, _, _, ((k.setH _).keep (((Bel.refl _).drewN _).drewN _))⟩, (((CB.refl p w).set 2 _).drewN _).drewN _⟩
/-- what a draw below n answers -/
def Lo (n x : Int) : Prop := 0 ≤ x ∧ (0 < n → x < n) ∧ (n ≤ 0 → x = 0)
set_option maxRecDepth 100000 in
set_option maxHeartbeats 2000000 in
theorem l01Below_c (p : Nat) (n : Int) (w : World) (hc : Cur w p) :
    Calls Try.prog 44 #[.pointer (some ⟨p, 0, none⟩), .int .i64 n] w fun r w' => ∃ x, r = .returned (.int .i64 x) ∧ Lo n x ∧ Cur w' p ∧ CB p w w' := by
  by_cases h0 : n ≤ 0
  · go_enter Try.func44, Try.ntmps44
    go_wp2_with fail
    go_ret
    exact ⟨0, rfl, ⟨by omega, by omega, by omega⟩, hc, CB.refl _ _⟩
  · have hn0 : ¬ n = 0 := by omega
    by_cases h1 : n ≤ 256
    · go_enter Try.func44, Try.ntmps44
      go_wp2_with fail
      refine (l01Byte_c _ _ hc).mono ?_; rintro e w1 ⟨x, rfl, ⟨hx0, hx1⟩, hc1, hb1⟩
      go_wp2_with fail
      go_ret
      have := Int.emod_nonneg x hn0
      have := Int.emod_lt_of_pos x (show 0 < n by omega)
      exact ⟨_, rfl, ⟨by omega, by omega, by omega⟩, hc1, hb1⟩
    · go_enter Try.func44, Try.ntmps44
      go_wp2_with fail
      refine (l01Byte_c _ _ hc).mono ?_; rintro e w1 ⟨x1, rfl, ⟨hx0, hx1⟩, hc1, hb1⟩
      go_wp2_with fail
      refine (l01Byte_c _ _ hc1).mono ?_; rintro e w2 ⟨x2, rfl, ⟨hy0, hy1⟩, hc2, hb2⟩
      go_wp2_with fail
      refine (l01Byte_c _ _ hc2).mono ?_; rintro e w3 ⟨x3, rfl, ⟨hz0, hz1⟩, hc3, hb3⟩
      go_wp2_with fail
      refine (l01Byte_c _ _ hc3).mono ?_; rintro e w4 ⟨x4, rfl, ⟨hv0, hv1⟩, hc4, hb4⟩
      go_wp2_with fail
      go_ret
      have := Int.emod_nonneg (x1 * 16777216 + x2 * 65536 + x3 * 256 + x4) hn0
      have := Int.emod_lt_of_pos (x1 * 16777216 + x2 * 65536 + x3 * 256 + x4) (show 0 < n by omega)
      exact ⟨_, rfl, ⟨by omega, by omega, by omega⟩, hc4, ((hb1.trans hb2).trans hb3).trans hb4⟩
set_option maxRecDepth 100000 in
set_option maxHeartbeats 2000000 in
theorem l01Once_c (p : Nat) (n : Int) (w : World) (hc : Cur w p) :
    Calls Try.prog 22 #[.pointer (some ⟨p, 0, none⟩), .int .i64 n] w fun r w' => ∃ b, r = .returned (.bool b) ∧ Cur w' p ∧ CB p w w' := by
  go_enter Try.func22, Try.ntmps22
  go_wp2_with fail
  refine (l01Below_c _ _ _ hc).mono ?_; rintro e w1 ⟨x, rfl, hx, hc1, hb1⟩
  go_wp2_with fail
  go_ret
  exact ⟨_, rfl, hc1, hb1⟩
set_option maxRecDepth 100000 in
set_option maxHeartbeats 2000000 in
theorem l01PickInt_c (p : Nat) (A : Option Addr) (c : Nat) (zs : List Int) (w : World) (hc : Cur w p) (h : Ints w A zs) (hp : 0 < zs.length) (hn : zs.length ≤ 1048576) (hf : ∀ b o, A = some ⟨b, o, none⟩ → b ≠ p) :
    Calls Try.prog 43 #[.pointer (some ⟨p, 0, none⟩), .slice A zs.length c] w fun r w' => ∃ z, r = .returned (.int .i64 z) ∧ z ∈ zs ∧ Cur w' p ∧ CB p w w' := by
  go_enter Try.func43, Try.ntmps43
  go_wp2_with fail
  refine (l01Below_c _ _ _ hc).mono ?_; rintro e w1 ⟨x, rfl, hx, hc1, hb1⟩
  obtain ⟨k, rfl⟩ : ∃ k : Nat, x = (k : Int) := ⟨x.toNat, by have := hx.1; omega⟩
  have hlt : k < zs.length := by have := hx.2.1 (by omega); omega
  obtain ⟨b, o, rfl, hbl, hcc⟩ := h k hlt
  have hcA : w1.cell? ⟨b, o + k, none⟩ = some (.int .i64 (at_ zs k)) := (hb1.cell _ _ hbl (hf b o rfl)).trans (hcc k hlt)
  clear hcc
  go_wp2_with fail
  go_ret
  exact ⟨_, rfl, at_mem hlt, hc1, hb1⟩
end Go.Proofs.Ytfmijkedhlnccaa
