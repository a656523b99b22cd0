/- LineSizes, both sides. -/
import Derived.Test.YtmipjhnjlpmidaaFlexK
import Derived.Test.YtmipjhnjlpmidaaLinesI
import Derived.Test.YtmipjhnjlpmidaaLinesS
import Derived.Test.YtmipjhnjlpmidaaLongest
namespace Go.Proofs.Ytmipjhnjlpmidaa
open Go.RowKit Go.ChangeShapes Go.WideShapes
set_option linter.unusedVariables false
set_option linter.unusedSimpArgs false

def lineSizesTo (L : List Rec) (gap inner : Int) (LL : List (List Int)) (k : Nat) : List Int := (LL.take k).flatMap (fun l => flexL (lineItems L l) gap inner)
def lineSizes (L : List Rec) (gap room : Int) (wraps : Bool) (inner : Int) : List Int := (linesOf L gap room wraps).flatMap (fun l => flexL (lineItems L l) gap inner)
theorem lineSizesTo_succ {L : List Rec} {gap inner : Int} {LL : List (List Int)} {k : Nat} (h : k < LL.length) : lineSizesTo L gap inner LL (k + 1) = lineSizesTo L gap inner LL k ++ flexL (lineItems L (LL.getD k [])) gap inner := by
  unfold lineSizesTo
  rw [List.take_add_one, List.flatMap_append, getD_eq h]
  simp
theorem lineSizesTo_le (L : List Rec) (gap inner : Int) (LL : List (List Int)) : ∀ k, k ≤ LL.length → (lineSizesTo L gap inner LL k).length ≤ totTo LL k := by
  intro k
  induction k with
  | zero => intro _; simp [lineSizesTo]
  | succ k ih =>
    intro hk
    rw [lineSizesTo_succ (by omega), List.length_append, flexL_length, totTo_succ (by omega)]
    have := ih (by omega)
    have := lineItems_le L (LL.getD k [])
    omega
theorem totLen_append (a b : List (List Int)) : totLen (a ++ b) = totLen a + totLen b := by simp [totLen, List.sum_append]
theorem totLen_last {xs : List (List Int)} (v : List Int) (h : 0 < xs.length) : totLen (xs.set (xs.length - 1) v) + (xs.getD (xs.length - 1) []).length = totLen xs + v.length := by
  obtain ⟨a, l, rfl⟩ : ∃ a l, xs = a ++ [l] := ⟨xs.dropLast, xs.getLast (List.ne_nil_of_length_pos h), (List.dropLast_concat_getLast (List.ne_nil_of_length_pos h)).symm⟩
  have e : (a ++ [l]).length - 1 = a.length := by simp
  rw [e, List.set_append_right _ _ (Nat.le_refl _), Nat.sub_self, totLen_append, totLen_append]
  simp [totLen, List.getD]
  omega
theorem linesTo_tot (L : List Rec) (gap room : Int) (one : Bool) : ∀ k : Nat, totLen (linesTo L gap room one k) = k := by
  intro k
  induction k with
  | zero => simp [linesTo, totLen]
  | succ k ih =>
    rw [linesTo]
    split
    · rename_i h
      rw [List.eq_nil_of_length_eq_zero h] at ih
      simp [totLen] at ih ⊢
      omega
    · split
      · have := totLen_last ((linesTo L gap room one k).getD ((linesTo L gap room one k).length - 1) [] ++ [(k : Int)]) (xs := linesTo L gap room one k) (by omega)
        rw [List.length_append] at this
        simp at this ⊢
        omega
      · rw [totLen_append, ih]; simp [totLen]
theorem linesOf_total (L : List Rec) (gap room : Int) (wraps : Bool) : totLen (linesOf L gap room wraps) = L.length := linesTo_tot _ _ _ _ _
theorem VI_append (a b : List Int) : VI (a ++ b) = VI a ++ VI b := by simp [VI]
/-- append(dst, src...), and where the row lies then -/
theorem appSw {w : World} {ops : Array Oper} {rest : List Oper} {o : Oper} {a : Act} {Q : Exit → Act → World → Prop} (hgd : o.guard = none) (s x : Operand)
    (ho : o.op = .call { callee := .builtin .append, args := #[s, x], argTypes := #[29, 29] })
    (base : Nat) (v : Value) (n : Nat) (xs : List Value) (hs : a.eval s = v) (hown : w.ownsRow base 3 1 v n xs) (A : Option Addr) (c : Nat) (zs : List Int) (hx : a.eval x = .slice A zs.length c)
    (hI : Ints w A zs) (hA : A = none → c = 0) (hn : n ≤ 4194304) (hm : zs.length ≤ 4194304) (hbase : base ≤ w.heap.size)
    (h : ∀ v' w', w'.ownsRow base 3 1 v' (n + zs.length) (xs ++ VI zs) → w.grownBy w' v.ownBlock → (v'.ownBlock = v.ownBlock ∨ v'.ownBlock = some w.heap.size) → wpList Try.prog ops Q rest (a.put o.dst v') w') : wpList Try.prog ops Q (o :: rest) a w := by
  rcases A with _ | ad
  · obtain ⟨i0, hi, hz0, hz1, hz2⟩ := info_parts Try.info_int
    have hz : zs = [] := by
      rcases zs with _ | ⟨z, zs⟩
      · rfl
      · obtain ⟨_, _, h0, _⟩ := hI 0 (by simp)
        cases h0
    subst hz
    have hc := hA rfl
    subst hc
    refine wpList_plain hgd fun K hK => ?_
    have hr := run_append_owned_none (P := Try.prog) w base 29 o.type 3 i0 1 Try.underlying29 hi v n xs hown
    unfold Oper.wp execOp
    simp only [ho, resolve, invoke, builtin, Sem.run_bind, Sem.run_pure, Result.andThen_ok, List.map_toArray, List.map_cons, List.map_nil, hs, hx, List.length_nil, hr]
    exact hK _ _ (h v w (by simpa [VI] using hown) (World.grownBy.refl w _) (.inl rfl))
  · refine appM hgd s x 29 3 ho (.int .i64 0) 1 8 Try.underlying29 Try.info_int rfl (by decide) (by decide) base v n xs hs hown ad zs.length c hx (VI zs) (by rw [VI_length, Nat.mul_one]) (fun j u hj => ?_) (fun u hu => ?_) hn hm hbase h
    · have hj' := lt_of_VI hj
      obtain ⟨b, o', h1, _, h3⟩ := hI j hj'
      injection h1 with h1
      subst h1
      rw [VI_at hj'] at hj
      injection hj with hj
      subst hj
      have e : (⟨b, o', none⟩ : Addr).add j = ⟨b, o' + j, none⟩ := by
        unfold Addr.add
        split
        · rename_i h; subst h; rfl
        · rfl
      rw [e]
      exact h3 j hj'
    · simp only [VI, List.mem_map] at hu
      obtain ⟨z, _, rfl⟩ := hu
      rfl
def outR (s : Value) (zs : List Int) : Row := ⟨3, 1, s, zs.length, VI zs⟩
set_option maxRecDepth 100000 in
set_option maxHeartbeats 2000000 in
theorem iLineSizes_c (A : Option Addr) (c : Nat) (L : List Rec) (gap room : Int) (wraps : Bool) (inner : Int) (w : World) (h : Recs w A k_item L) (hn : L.length ≤ 1048576) :
    Calls Try.prog 22 #[.slice A L.length c, .int .i64 gap, .int .i64 room, .bool wraps, .int .i64 inner] w fun r w' => ∃ v, r = .returned v ∧ w'.ownsRow w.heap.size 3 1 v (lineSizes L gap room wraps inner).length (VI (lineSizes L gap room wraps inner)) ∧ Bel w w' := by
  go_enter Try.func22, Try.ntmps22
  go_wp2_with fail
  have hbw0 : Bel w w := Bel.refl _
  have h0 := h.keep hbw0
  refine (iLinesOf_c _ _ _ _ _ _ _ h0 hn).mono ?_; rintro e w1 ⟨v, rfl, hAt, hb1⟩
  obtain ⟨LL, hLL⟩ : ∃ LL, linesOf L gap room wraps = LL := ⟨_, rfl⟩
  have hLl := linesOf_len L gap room wraps
  have hLa : ∀ j, j < LL.length → (LL.getD j []).length ≤ L.length := fun j hj => by subst hLL; exact linesOf_at L gap room wraps hj
  have HTOT : Hid (totLen LL = L.length) := hid' (by subst hLL; exact linesOf_total _ _ _ _)
  have HQ : Hid (lineSizes L gap room wraps inner = lineSizesTo L gap inner LL LL.length) := hid' (by subst hLL; simp [lineSizes, lineSizesTo])
  rw [hLL] at hAt hLl
  obtain ⟨Av, cv, rfl, -, -, -⟩ := LinesAt.rows hAt
  obtain ⟨VS, hVl, hF⟩ := hAt
  have HVL := Lib.hid hVl
  have hbw1 := hbw0.trans hb1
  have hws := hbw1.sz
  have HST : Hid (Fam w1 w.heap.size (outR (.slice none 0 0) (lineSizesTo L gap inner LL 0) :: linesF (.slice Av LL.length cv) VS LL)) := hid' (hF.cons1 (r := outR (.slice none 0 0) []) (Bel.refl w1) (own_nil _ _ _) hws)
  clear hLL hF hVl h0 hb1 hbw0
  go_wp2_with fail
  go_loopw [11, 20] (fun s i wr => ∃ (k : Nat), k ≤ LL.length ∧ i = .int .i64 k ∧ Fam wr w.heap.size (outR s (lineSizesTo L gap inner LL k) :: linesF (.slice Av LL.length cv) VS LL) ∧ Bel w wr) (fun _ i _ => LL.length - (intOf i).toNat)
  case atStart => exact ⟨0, Nat.zero_le _, by go_num, HST.out, hbw1⟩
  case round =>
    obtain ⟨k, hk, rfl, hFa, hb⟩ := hrel
    have HFA := Lib.hid hFa
    by_cases hlt : k < LL.length
    · obtain ⟨b, o, rfl, hbl, hR⟩ := own_rows2 (n := LL.length) (c := cv) (⟨VS, HVL.out, hFa.sub (List.sublist_cons_self _ _)⟩ : LinesAt wr w.heap.size (.slice Av LL.length cv) LL) k hlt
      obtain ⟨B, d, hcA, hd1, hd2, hB0, hI2⟩ := hR k hlt
      have hlk := hLa k hlt
      have HS := Lib.hid (lineSizesTo_succ (L := L) (gap := gap) (inner := inner) hlt)
      have hle : (lineSizesTo L gap inner LL k).length ≤ 1048576 := by
        have h1 := lineSizesTo_le L gap inner LL k (by omega)
        have h2 := totTo_le LL k
        have h3 := HTOT.out
        omega
      obtain ⟨l, hel⟩ : ∃ l, LL.getD k [] = l := ⟨_, rfl⟩
      rw [hel] at hcA hlk hI2 HS
      clear hR hel hd1
      obtain ⟨zs, hzs⟩ : ∃ zs, lineSizesTo L gap inner LL k = zs := ⟨_, rfl⟩
      rw [hzs] at HFA HS hle
      clear hzs hFa
      have h2 := h.keep hb
      have hlin := lineItems_le L l
      have hlki : (k : Int) < (LL.length : Int) := by omega
      go_wp2_with fail
      refine (iLineItems_c _ _ _ _ _ _ _ h2 hI2 hn (by omega)).mono ?_; rintro e w3 ⟨v3, rfl, ho3, hb3⟩
      obtain ⟨A3, c3, rfl, -, -, h3⟩ := own_openR rfl ho3
      go_wp2_with fail
      refine (iFlexLine_c _ _ _ _ _ _ h3 (by omega)).mono ?_; rintro e w4 ⟨v4, rfl, ho4, hb4⟩
      obtain ⟨A4, c4, rfl, -, -, hA4, h4⟩ := own_openC ho4
      have hF4 := HFA.out.keep (hb3.trans hb4)
      have ho' : w4.ownsRow w.heap.size 3 1 _ zs.length (VI zs) := hF4.at_ (i := 0) rfl
      have hBx := hb.trans (hb3.trans hb4)
      have hfl : (flexL (lineItems L l) gap inner).length ≤ 1048576 := by rw [flexL_length]; omega
      have hsz := hBx.sz
      have HF4 := Lib.hid hF4
      clear ho3 ho4 hF4
      go_wp2_with (at_builtin; refine appSw rfl _ _ rfl (w.heap.size) _ _ _ rfl ho' A4 c4 (flexL (lineItems L l) gap inner) rfl h4 hA4 (by omega) (by omega) (by omega) ?_; intro v' w' ho2 hg' hl')
      go_roundw
      case rel => exact ⟨k + 1, by omega, by go_num, HF4.out.write (i := 0) rfl hg' (outR v' (lineSizesTo L gap inner LL (k + 1))) hl' (by unfold outR Row.own; rw [HS.out, List.length_append, VI_append]; exact ho2), hBx.grown hg' (fun q e => (ho'.lt q e).1)⟩
      case measure => simp [intOf]; omega
    · obtain rfl : k = LL.length := by omega
      go_wp2_with fail
      go_ret
      exact ⟨_, rfl, by rw [HQ.out]; exact HFA.out.at_ (i := 0) rfl, hb⟩
set_option maxRecDepth 100000 in
set_option maxHeartbeats 2000000 in
theorem sLineSizes_c (A : Option Addr) (c : Nat) (L : List Rec) (gap room : Int) (wraps : Bool) (inner : Int) (w : World) (h : Recs w A k_item L) (hn : L.length ≤ 1048576) :
    Calls Try.prog 21 #[.slice A L.length c, .int .i64 gap, .int .i64 room, .bool wraps, .int .i64 inner] w fun r w' => ∃ v, r = .returned v ∧ w'.ownsRow w.heap.size 3 1 v (lineSizes L gap room wraps inner).length (VI (lineSizes L gap room wraps inner)) ∧ Bel w w' := by
  go_enter Try.func21, Try.ntmps21
  go_wp2_with fail
  have hbw0 : Bel w (w.alloc (.cells #[] 3)) := (Bel.refl _).alloc _
  have h0 := h.keep hbw0
  refine (sLinesOf_c _ _ _ _ _ _ _ h0 hn).mono ?_; rintro e w1 ⟨v, rfl, hAt, hb1⟩
  obtain ⟨LL, hLL⟩ : ∃ LL, linesOf L gap room wraps = LL := ⟨_, rfl⟩
  have hLl := linesOf_len L gap room wraps
  have hLa : ∀ j, j < LL.length → (LL.getD j []).length ≤ L.length := fun j hj => by subst hLL; exact linesOf_at L gap room wraps hj
  have HTOT : Hid (totLen LL = L.length) := hid' (by subst hLL; exact linesOf_total _ _ _ _)
  have HQ : Hid (lineSizes L gap room wraps inner = lineSizesTo L gap inner LL LL.length) := hid' (by subst hLL; simp [lineSizes, lineSizesTo])
  rw [hLL] at hAt hLl
  obtain ⟨Av, cv, rfl, -, -, -⟩ := LinesAt.rows hAt
  obtain ⟨VS, hVl, hF⟩ := hAt
  have HVL := Lib.hid hVl
  have hbw1 := hbw0.trans hb1
  have hws := hbw1.sz
  have HST : Hid (Fam w1 w.heap.size (outR (.slice (some ⟨w.heap.size, 0, none⟩) 0 0) (lineSizesTo L gap inner LL 0) :: linesF (.slice Av LL.length cv) VS LL)) := hid' ((Fam.one (r := outR (.slice (some ⟨w.heap.size, 0, none⟩) 0 0) []) (World.ownsRow_lit w #[] 0 (Nat.le_refl _) (by unfold maxLen; omega) rfl)).add hb1 hF hbw0.sz)
  clear hLL hF hVl h0 hb1 hbw0
  go_wp2_with fail
  go_loopw [11, 13] (fun s i wr => ∃ (k : Nat), k ≤ LL.length ∧ i = .int .i64 k ∧ Fam wr w.heap.size (outR s (lineSizesTo L gap inner LL k) :: linesF (.slice Av LL.length cv) VS LL) ∧ Bel w wr) (fun _ i _ => LL.length - (intOf i).toNat)
  case atStart => exact ⟨0, Nat.zero_le _, by go_num, HST.out, hbw1⟩
  case round =>
    obtain ⟨k, hk, rfl, hFa, hb⟩ := hrel
    have HFA := Lib.hid hFa
    by_cases hlt : k < LL.length
    · obtain ⟨b, o, rfl, hbl, hR⟩ := own_rows2 (n := LL.length) (c := cv) (⟨VS, HVL.out, hFa.sub (List.sublist_cons_self _ _)⟩ : LinesAt wr w.heap.size (.slice Av LL.length cv) LL) k hlt
      obtain ⟨B, d, hcA, hd1, hd2, hB0, hI2⟩ := hR k hlt
      have hlk := hLa k hlt
      have HS := Lib.hid (lineSizesTo_succ (L := L) (gap := gap) (inner := inner) hlt)
      have hle : (lineSizesTo L gap inner LL k).length ≤ 1048576 := by
        have h1 := lineSizesTo_le L gap inner LL k (by omega)
        have h2 := totTo_le LL k
        have h3 := HTOT.out
        omega
      obtain ⟨l, hel⟩ : ∃ l, LL.getD k [] = l := ⟨_, rfl⟩
      rw [hel] at hcA hlk hI2 HS
      clear hR hel hd1
      obtain ⟨zs, hzs⟩ : ∃ zs, lineSizesTo L gap inner LL k = zs := ⟨_, rfl⟩
      rw [hzs] at HFA HS hle
      clear hzs hFa
      have h2 := h.keep hb
      have hlin := lineItems_le L l
      have hlki : (k : Int) < (LL.length : Int) := by omega
      go_wp2_with fail
      refine (sLineItems_c _ _ _ _ _ _ _ h2 hI2 hn (by omega)).mono ?_; rintro e w3 ⟨v3, rfl, ho3, hb3⟩
      obtain ⟨A3, c3, rfl, -, -, h3⟩ := own_openR rfl ho3
      go_wp2_with fail
      refine (sFlexLine_c _ _ _ _ _ _ h3 (by omega)).mono ?_; rintro e w4 ⟨v4, rfl, ho4, hb4⟩
      obtain ⟨A4, c4, rfl, -, -, hA4, h4⟩ := own_openC ho4
      have hF4 := HFA.out.keep (hb3.trans hb4)
      have ho' : w4.ownsRow w.heap.size 3 1 _ zs.length (VI zs) := hF4.at_ (i := 0) rfl
      have hBx := hb.trans (hb3.trans hb4)
      have hfl : (flexL (lineItems L l) gap inner).length ≤ 1048576 := by rw [flexL_length]; omega
      have hsz := hBx.sz
      have HF4 := Lib.hid hF4
      clear ho3 ho4 hF4
      go_wp2_with (at_builtin; refine appSw rfl _ _ rfl (w.heap.size) _ _ _ rfl ho' A4 c4 (flexL (lineItems L l) gap inner) rfl h4 hA4 (by omega) (by omega) (by omega) ?_; intro v' w' ho2 hg' hl')
      go_roundw
      case rel => exact ⟨k + 1, by omega, by go_num, HF4.out.write (i := 0) rfl hg' (outR v' (lineSizesTo L gap inner LL (k + 1))) hl' (by unfold outR Row.own; rw [HS.out, List.length_append, VI_append]; exact ho2), hBx.grown hg' (fun q e => (ho'.lt q e).1)⟩
      case measure => simp [intOf]; omega
    · obtain rfl : k = LL.length := by omega
      go_wp2_with fail
      go_ret
      exact ⟨_, rfl, by rw [HQ.out]; exact HFA.out.at_ (i := 0) rfl, hb⟩
theorem lineSizes_le (L : List Rec) (gap room : Int) (wraps : Bool) (inner : Int) : (lineSizes L gap room wraps inner).length ≤ L.length := by
  have h1 := lineSizesTo_le L gap inner (linesOf L gap room wraps) _ (Nat.le_refl _)
  have h2 := totTo_le (linesOf L gap room wraps) (linesOf L gap room wraps).length
  have h3 := linesOf_total L gap room wraps
  have e : lineSizesTo L gap inner (linesOf L gap room wraps) (linesOf L gap room wraps).length = lineSizes L gap room wraps inner := by simp [lineSizes, lineSizesTo]
  rw [e] at h1
  omega
end Go.Proofs.Ytmipjhnjlpmidaa
