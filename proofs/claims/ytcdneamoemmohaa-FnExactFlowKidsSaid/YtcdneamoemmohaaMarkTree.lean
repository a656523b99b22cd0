/- markTree. -/
import Derived.Test.YtcdneamoemmohaaStep
namespace Go.Proofs.Ytcdneamoemmohaa
open Go.RowKit Go.ChangeShapes Go.WideShapes
set_option linter.unusedVariables false
set_option linter.unusedSimpArgs false

def firstLoop : Code → Option Code
  | .loop c => some c
  | .seq a b => match firstLoop a with
    | some c => some c
    | none => firstLoop b
  | .block _ c => firstLoop c
  | .scope c => firstLoop c
  | .cond _ a b => match firstLoop a with
    | some c => some c
    | none => firstLoop b
  | _ => none
def firstBlock : Code → Option Code
  | .block _ c => some c
  | .seq a b => match firstBlock a with
    | some c => some c
    | none => firstBlock b
  | _ => none
noncomputable def markBody : Code := ((((Try.f49).body.bind firstLoop).bind firstBlock).getD .skip)

set_option maxRecDepth 1000000 in
set_option maxRecDepth 100000 in
set_option maxHeartbeats 16000000 in
/-- one node marked -/
theorem mark_one {w wr : World} {base b c k : Nat} {T X : List NodeD} {KS RS : List Value} {R : List Row} {xs0 L : List Value} {x : NodeD} {K Rr : Option Addr} {ck cr : Nat} {M : Int} {a : Act} {Q : Exit → Act → World → Prop}
    (A : AS a 598 (.slice (some ⟨b, 0, none⟩) T.length c) (.int .i64 (k : Int)) (.int .i64 M))
    (H : Hid (Mk w wr base b T.length c (k * 64) xs0 L (nodeRows KS RS X ++ R) 0)) (hlt : k < T.length) (hT : T.length ≤ 1048576)
    (HL : Hid (nodeL (markNode M x) (.slice K x.kids.length ck) (.slice Rr x.rules.length cr) = L))
    (HG : Hid (xs0[k * 64 + 1]? = some (.slice K x.kids.length ck) ∧ xs0[k * 64 + 63]? = some (.slice Rr x.rules.length cr)))
    (HRW : Hid ((nodeRows KS RS X)[2 * k]? = some (kidsRow (.slice K x.kids.length ck) x.kids) ∧ (nodeRows KS RS X)[2 * k + 1]? = some (rulesRow (.slice Rr x.rules.length cr) x.rules)))
    (HLR : Hid ((nodeRows KS RS X).length = 2 * T.length)) (hM : 0 ≤ M ∧ M ≤ 4611686018427387) (hk1 : x.kids.length ≤ 1048576) (hk2 : x.rules.length ≤ 1048576)
    (next : ∀ a' w' M1, M1 = M + 1 + (x.kids.length : Int) → AS a' 598 (.slice (some ⟨b, 0, none⟩) T.length c) (.int .i64 (k : Int)) (.int .i64 (M1 + 61 + 3 * (x.rules.length : Int))) →
      Mk w w' base b T.length c (k * 64) xs0 L (((nodeRows KS RS X ++ R).set (2 * k) ⟨3, 1, .slice K x.kids.length ck, x.kids.length, VI (marks (M + 1) x.kids.length)⟩).set (2 * k + 1) ⟨106, 3, .slice Rr x.rules.length cr, x.rules.length, RV k_rule (marksR 3 (M1 + 61) x.rules.length)⟩) 64 → Q .normal a' w') :
    markBody.wp Try.prog Q a wr := by
  have l0 : L[0]? = some (.int .i64 M) := by rw [← HL.out]; rfl
  have l1 : L[1]? = some (.slice K x.kids.length ck) := by rw [← HL.out]; rfl
  have l63 : L[63]? = some (.slice Rr x.rules.length cr) := by rw [← HL.out]; exact nodeL_get63 _ _ _
  conv => arg 2; whnf
  have next := next
  refine wp_seq (st1i (j := 0) (o1 := 0) (z := M) A H hlt (by decide) (by kernel_rfl) rfl (by decide) (by kernel_rfl) l0 ?_); intro a1 w1 A1 H1; change Code.wp _ _ _ _ _
  refine wp_seq (st_inc A1 (by omega) (by decide) (z' := M + 1) rfl ?_); intro a2 A2; change Code.wp _ _ _ _ _
  have hcK := H1.out.cell HG.out.1 (by decide) (by omega)
  have ⟨_, hrw⟩ := HRW.out
  refine wp_seq (stc1 (j := 1) (o1 := 1) (z := M + 1) (R := fun z' w' => z' = M + 1 + (x.kids.length : Int) ∧ w'.ownsRow base 3 1 (.slice K x.kids.length ck) x.kids.length (VI (marks (M + 1) x.kids.length)) ∧ w1.grownBy w' (Value.slice K x.kids.length ck).ownBlock) A2 hlt (by decide) (by kernel_rfl) rfl hcK Try.underlying26 (by kernel_rfl) rfl (run_callFunc Try.func18 (by kernel_rfl) rfl)
    ((markIntS_n base _ x.kids.length x.kids (M + 1) w1 (H1.out.fam.1 (kidsRow (.slice K x.kids.length ck) x.kids) (List.mem_cons_of_mem _ (List.mem_append_left _ (List.mem_of_getElem? HRW.out.1)))) (by omega) (by omega)).mono (by rintro e w' ⟨rfl, ho, hg⟩; exact ⟨_, rfl, rfl, ho, hg⟩)) ?_)
  rintro a3 z3 w3 ⟨rfl, ho3, hg3⟩ A3; change Code.wp _ _ _ _ _
  have H3 := hid' ((H1.out.row (i := 2 * k) (r := kidsRow (.slice K x.kids.length ck) x.kids) (by rw [List.getElem?_append_left (by rw [HLR.out]; omega)]; exact HRW.out.1) (VI (marks (M + 1) x.kids.length)) ho3 hg3).skip l1 HG.out.1)
  obtain ⟨M1, hM1⟩ : ∃ M1 : Int, M1 = M + 1 + (x.kids.length : Int) := ⟨_, rfl⟩
  rw [← hM1] at A3
  have HI1 : Hid (∀ q, k_style[q]? = some true → L[2 + q]? = some (.int .i64 (M1 + (q : Int)))) := hid' (fun q hq => by rw [← HL.out]; exact markL_int (M := M1) (by rw [hM1]; rfl) ⟨by omega, by have := lt_of_get hq; change q < 60 at this; omega⟩ (by rw [show 2 + q - 2 = q by omega]; exact hq) (by rw [show 2 + q - 2 = q by omega]))
  have HB1 : Hid (∀ q, k_style[q]? = some false → L[2 + q]? = some (.bool (decide ((M1 + (q : Int)) % 3 = 0)))) := hid' (fun q hq => by rw [← HL.out]; exact markL_bool (M := M1) (by rw [hM1]; rfl) ⟨by omega, by have := lt_of_get hq; change q < 60 at this; omega⟩ (by rw [show 2 + q - 2 = q by omega]; exact hq) (by rw [show 2 + q - 2 = q by omega]))
  have l62 : L[62]? = some (.bool (decide ((M1 + 60) % 3 = 0))) := by rw [← HL.out, hM1]; exact nodeL_get62 _ _ _
  have hM1b : 0 ≤ M1 ∧ M1 ≤ 4611686000000000000 := by omega
  have HM1 := Lib.hid hM1
  clear hM1 hcK H H1 A A1 A2 ho3 hg3 l0 l1 hrw
  have A4 : AS a3 598 (.slice (some ⟨b, 0, none⟩) T.length c) (.int .i64 (k : Int)) (.int .i64 (M1 + 0)) := by rw [Int.add_zero]; exact A3
  clear A3
  obtain ⟨w4, hw4⟩ : ∃ w4, w4 = w3 := ⟨_, rfl⟩; rw [← hw4] at H3 ⊢; clear hw4
  obtain ⟨a4, ha4⟩ : ∃ a4, a4 = a3 := ⟨_, rfl⟩; rw [← ha4] at A4 ⊢; clear ha4
  have H4 := H3; clear H3
  refine wp_seq (st2i (j := 2) (o1 := 2) (o2 := 0) (z := M1 + 0) A4 H4 hlt (by decide) (by kernel_rfl) (by kernel_rfl) rfl (by decide) (by kernel_rfl) (HI1.out 0 rfl) ?_); intro a5 w5 B5 H5; change Code.wp _ _ _ _ _
  clear A4 H4
  refine wp_seq (st_inc B5 (by omega) (by decide) (z' := M1 + 1) (by omega) ?_); intro b5 A5; change Code.wp _ _ _ _ _
  clear B5
  refine wp_seq (st2i (j := 3) (o1 := 2) (o2 := 1) (z := M1 + 1) A5 H5 hlt (by decide) (by kernel_rfl) (by kernel_rfl) rfl (by decide) (by kernel_rfl) (HI1.out 1 rfl) ?_); intro a6 w6 B6 H6; change Code.wp _ _ _ _ _
  clear A5 H5
  refine wp_seq (st_inc B6 (by omega) (by decide) (z' := M1 + 2) (by omega) ?_); intro b6 A6; change Code.wp _ _ _ _ _
  clear B6
  refine wp_seq (st2i (j := 4) (o1 := 2) (o2 := 2) (z := M1 + 2) A6 H6 hlt (by decide) (by kernel_rfl) (by kernel_rfl) rfl (by decide) (by kernel_rfl) (HI1.out 2 rfl) ?_); intro a7 w7 B7 H7; change Code.wp _ _ _ _ _
  clear A6 H6
  refine wp_seq (st_inc B7 (by omega) (by decide) (z' := M1 + 3) (by omega) ?_); intro b7 A7; change Code.wp _ _ _ _ _
  clear B7
  refine wp_seq (st2i (j := 5) (o1 := 2) (o2 := 3) (z := M1 + 3) A7 H7 hlt (by decide) (by kernel_rfl) (by kernel_rfl) rfl (by decide) (by kernel_rfl) (HI1.out 3 rfl) ?_); intro a8 w8 B8 H8; change Code.wp _ _ _ _ _
  clear A7 H7
  refine wp_seq (st_inc B8 (by omega) (by decide) (z' := M1 + 4) (by omega) ?_); intro b8 A8; change Code.wp _ _ _ _ _
  clear B8
  refine wp_seq (st2i (j := 6) (o1 := 2) (o2 := 4) (z := M1 + 4) A8 H8 hlt (by decide) (by kernel_rfl) (by kernel_rfl) rfl (by decide) (by kernel_rfl) (HI1.out 4 rfl) ?_); intro a9 w9 B9 H9; change Code.wp _ _ _ _ _
  clear A8 H8
  refine wp_seq (st_inc B9 (by omega) (by decide) (z' := M1 + 5) (by omega) ?_); intro b9 A9; change Code.wp _ _ _ _ _
  clear B9
  refine wp_seq (st2i (j := 7) (o1 := 2) (o2 := 5) (z := M1 + 5) A9 H9 hlt (by decide) (by kernel_rfl) (by kernel_rfl) rfl (by decide) (by kernel_rfl) (HI1.out 5 rfl) ?_); intro a10 w10 B10 H10; change Code.wp _ _ _ _ _
  clear A9 H9
  refine wp_seq (st_inc B10 (by omega) (by decide) (z' := M1 + 6) (by omega) ?_); intro b10 A10; change Code.wp _ _ _ _ _
  clear B10
  refine wp_seq (st2b (j := 8) (o1 := 2) (o2 := 6) (z := M1 + 6) A10 H10 hlt (by omega) (by decide) (by kernel_rfl) (by kernel_rfl) rfl (by decide) (by kernel_rfl) (HB1.out 6 rfl) ?_); intro a11 w11 B11 H11; change Code.wp _ _ _ _ _
  clear A10 H10
  refine wp_seq (st_inc B11 (by omega) (by decide) (z' := M1 + 7) (by omega) ?_); intro b11 A11; change Code.wp _ _ _ _ _
  clear B11
  refine wp_seq (st2b (j := 9) (o1 := 2) (o2 := 7) (z := M1 + 7) A11 H11 hlt (by omega) (by decide) (by kernel_rfl) (by kernel_rfl) rfl (by decide) (by kernel_rfl) (HB1.out 7 rfl) ?_); intro a12 w12 B12 H12; change Code.wp _ _ _ _ _
  clear A11 H11
  refine wp_seq (st_inc B12 (by omega) (by decide) (z' := M1 + 8) (by omega) ?_); intro b12 A12; change Code.wp _ _ _ _ _
  clear B12
  refine wp_seq (st2i (j := 10) (o1 := 2) (o2 := 8) (z := M1 + 8) A12 H12 hlt (by decide) (by kernel_rfl) (by kernel_rfl) rfl (by decide) (by kernel_rfl) (HI1.out 8 rfl) ?_); intro a13 w13 B13 H13; change Code.wp _ _ _ _ _
  clear A12 H12
  refine wp_seq (st_inc B13 (by omega) (by decide) (z' := M1 + 9) (by omega) ?_); intro b13 A13; change Code.wp _ _ _ _ _
  clear B13
  refine wp_seq (st2i (j := 11) (o1 := 2) (o2 := 9) (z := M1 + 9) A13 H13 hlt (by decide) (by kernel_rfl) (by kernel_rfl) rfl (by decide) (by kernel_rfl) (HI1.out 9 rfl) ?_); intro a14 w14 B14 H14; change Code.wp _ _ _ _ _
  clear A13 H13
  refine wp_seq (st_inc B14 (by omega) (by decide) (z' := M1 + 10) (by omega) ?_); intro b14 A14; change Code.wp _ _ _ _ _
  clear B14
  refine wp_seq (st2i (j := 12) (o1 := 2) (o2 := 10) (z := M1 + 10) A14 H14 hlt (by decide) (by kernel_rfl) (by kernel_rfl) rfl (by decide) (by kernel_rfl) (HI1.out 10 rfl) ?_); intro a15 w15 B15 H15; change Code.wp _ _ _ _ _
  clear A14 H14
  refine wp_seq (st_inc B15 (by omega) (by decide) (z' := M1 + 11) (by omega) ?_); intro b15 A15; change Code.wp _ _ _ _ _
  clear B15
  refine wp_seq (st3i (j := 13) (o1 := 2) (o2 := 11) (o3 := 0) (z := M1 + 11) A15 H15 hlt (by decide) (by kernel_rfl) (by kernel_rfl) (by kernel_rfl) rfl (by decide) (by kernel_rfl) (HI1.out 11 rfl) ?_); intro a16 w16 B16 H16; change Code.wp _ _ _ _ _
  clear A15 H15
  refine wp_seq (st_inc B16 (by omega) (by decide) (z' := M1 + 12) (by omega) ?_); intro b16 A16; change Code.wp _ _ _ _ _
  clear B16
  refine wp_seq (st3i (j := 14) (o1 := 2) (o2 := 11) (o3 := 1) (z := M1 + 12) A16 H16 hlt (by decide) (by kernel_rfl) (by kernel_rfl) (by kernel_rfl) rfl (by decide) (by kernel_rfl) (HI1.out 12 rfl) ?_); intro a17 w17 B17 H17; change Code.wp _ _ _ _ _
  clear A16 H16
  refine wp_seq (st_inc B17 (by omega) (by decide) (z' := M1 + 13) (by omega) ?_); intro b17 A17; change Code.wp _ _ _ _ _
  clear B17
  refine wp_seq (st3i (j := 15) (o1 := 2) (o2 := 13) (o3 := 0) (z := M1 + 13) A17 H17 hlt (by decide) (by kernel_rfl) (by kernel_rfl) (by kernel_rfl) rfl (by decide) (by kernel_rfl) (HI1.out 13 rfl) ?_); intro a18 w18 B18 H18; change Code.wp _ _ _ _ _
  clear A17 H17
  refine wp_seq (st_inc B18 (by omega) (by decide) (z' := M1 + 14) (by omega) ?_); intro b18 A18; change Code.wp _ _ _ _ _
  clear B18
  refine wp_seq (st3i (j := 16) (o1 := 2) (o2 := 13) (o3 := 1) (z := M1 + 14) A18 H18 hlt (by decide) (by kernel_rfl) (by kernel_rfl) (by kernel_rfl) rfl (by decide) (by kernel_rfl) (HI1.out 14 rfl) ?_); intro a19 w19 B19 H19; change Code.wp _ _ _ _ _
  clear A18 H18
  refine wp_seq (st_inc B19 (by omega) (by decide) (z' := M1 + 15) (by omega) ?_); intro b19 A19; change Code.wp _ _ _ _ _
  clear B19
  refine wp_seq (st3i (j := 17) (o1 := 2) (o2 := 15) (o3 := 0) (z := M1 + 15) A19 H19 hlt (by decide) (by kernel_rfl) (by kernel_rfl) (by kernel_rfl) rfl (by decide) (by kernel_rfl) (HI1.out 15 rfl) ?_); intro a20 w20 B20 H20; change Code.wp _ _ _ _ _
  clear A19 H19
  refine wp_seq (st_inc B20 (by omega) (by decide) (z' := M1 + 16) (by omega) ?_); intro b20 A20; change Code.wp _ _ _ _ _
  clear B20
  refine wp_seq (st3i (j := 18) (o1 := 2) (o2 := 15) (o3 := 1) (z := M1 + 16) A20 H20 hlt (by decide) (by kernel_rfl) (by kernel_rfl) (by kernel_rfl) rfl (by decide) (by kernel_rfl) (HI1.out 16 rfl) ?_); intro a21 w21 B21 H21; change Code.wp _ _ _ _ _
  clear A20 H20
  refine wp_seq (st_inc B21 (by omega) (by decide) (z' := M1 + 17) (by omega) ?_); intro b21 A21; change Code.wp _ _ _ _ _
  clear B21
  refine wp_seq (st3i (j := 19) (o1 := 2) (o2 := 17) (o3 := 0) (z := M1 + 17) A21 H21 hlt (by decide) (by kernel_rfl) (by kernel_rfl) (by kernel_rfl) rfl (by decide) (by kernel_rfl) (HI1.out 17 rfl) ?_); intro a22 w22 B22 H22; change Code.wp _ _ _ _ _
  clear A21 H21
  refine wp_seq (st_inc B22 (by omega) (by decide) (z' := M1 + 18) (by omega) ?_); intro b22 A22; change Code.wp _ _ _ _ _
  clear B22
  refine wp_seq (st3i (j := 20) (o1 := 2) (o2 := 17) (o3 := 1) (z := M1 + 18) A22 H22 hlt (by decide) (by kernel_rfl) (by kernel_rfl) (by kernel_rfl) rfl (by decide) (by kernel_rfl) (HI1.out 18 rfl) ?_); intro a23 w23 B23 H23; change Code.wp _ _ _ _ _
  clear A22 H22
  refine wp_seq (st_inc B23 (by omega) (by decide) (z' := M1 + 19) (by omega) ?_); intro b23 A23; change Code.wp _ _ _ _ _
  clear B23
  refine wp_seq (st3i (j := 21) (o1 := 2) (o2 := 19) (o3 := 0) (z := M1 + 19) A23 H23 hlt (by decide) (by kernel_rfl) (by kernel_rfl) (by kernel_rfl) rfl (by decide) (by kernel_rfl) (HI1.out 19 rfl) ?_); intro a24 w24 B24 H24; change Code.wp _ _ _ _ _
  clear A23 H23
  refine wp_seq (st_inc B24 (by omega) (by decide) (z' := M1 + 20) (by omega) ?_); intro b24 A24; change Code.wp _ _ _ _ _
  clear B24
  refine wp_seq (st3i (j := 22) (o1 := 2) (o2 := 19) (o3 := 1) (z := M1 + 20) A24 H24 hlt (by decide) (by kernel_rfl) (by kernel_rfl) (by kernel_rfl) rfl (by decide) (by kernel_rfl) (HI1.out 20 rfl) ?_); intro a25 w25 B25 H25; change Code.wp _ _ _ _ _
  clear A24 H24
  refine wp_seq (st_inc B25 (by omega) (by decide) (z' := M1 + 21) (by omega) ?_); intro b25 A25; change Code.wp _ _ _ _ _
  clear B25
  refine wp_seq (st3i (j := 23) (o1 := 2) (o2 := 21) (o3 := 0) (z := M1 + 21) A25 H25 hlt (by decide) (by kernel_rfl) (by kernel_rfl) (by kernel_rfl) rfl (by decide) (by kernel_rfl) (HI1.out 21 rfl) ?_); intro a26 w26 B26 H26; change Code.wp _ _ _ _ _
  clear A25 H25
  refine wp_seq (st_inc B26 (by omega) (by decide) (z' := M1 + 22) (by omega) ?_); intro b26 A26; change Code.wp _ _ _ _ _
  clear B26
  refine wp_seq (st3i (j := 24) (o1 := 2) (o2 := 21) (o3 := 1) (z := M1 + 22) A26 H26 hlt (by decide) (by kernel_rfl) (by kernel_rfl) (by kernel_rfl) rfl (by decide) (by kernel_rfl) (HI1.out 22 rfl) ?_); intro a27 w27 B27 H27; change Code.wp _ _ _ _ _
  clear A26 H26
  refine wp_seq (st_inc B27 (by omega) (by decide) (z' := M1 + 23) (by omega) ?_); intro b27 A27; change Code.wp _ _ _ _ _
  clear B27
  refine wp_seq (st3i (j := 25) (o1 := 2) (o2 := 23) (o3 := 0) (z := M1 + 23) A27 H27 hlt (by decide) (by kernel_rfl) (by kernel_rfl) (by kernel_rfl) rfl (by decide) (by kernel_rfl) (HI1.out 23 rfl) ?_); intro a28 w28 B28 H28; change Code.wp _ _ _ _ _
  clear A27 H27
  refine wp_seq (st_inc B28 (by omega) (by decide) (z' := M1 + 24) (by omega) ?_); intro b28 A28; change Code.wp _ _ _ _ _
  clear B28
  refine wp_seq (st3i (j := 26) (o1 := 2) (o2 := 23) (o3 := 1) (z := M1 + 24) A28 H28 hlt (by decide) (by kernel_rfl) (by kernel_rfl) (by kernel_rfl) rfl (by decide) (by kernel_rfl) (HI1.out 24 rfl) ?_); intro a29 w29 B29 H29; change Code.wp _ _ _ _ _
  clear A28 H28
  refine wp_seq (st_inc B29 (by omega) (by decide) (z' := M1 + 25) (by omega) ?_); intro b29 A29; change Code.wp _ _ _ _ _
  clear B29
  refine wp_seq (st2i (j := 27) (o1 := 2) (o2 := 25) (z := M1 + 25) A29 H29 hlt (by decide) (by kernel_rfl) (by kernel_rfl) rfl (by decide) (by kernel_rfl) (HI1.out 25 rfl) ?_); intro a30 w30 B30 H30; change Code.wp _ _ _ _ _
  clear A29 H29
  refine wp_seq (st_inc B30 (by omega) (by decide) (z' := M1 + 26) (by omega) ?_); intro b30 A30; change Code.wp _ _ _ _ _
  clear B30
  refine wp_seq (st4i (j := 28) (o1 := 2) (o2 := 26) (o3 := 0) (o4 := 0) (z := M1 + 26) A30 H30 hlt (by decide) (by kernel_rfl) (by kernel_rfl) (by kernel_rfl) (by kernel_rfl) rfl (by decide) (by kernel_rfl) (HI1.out 26 rfl) ?_); intro a31 w31 B31 H31; change Code.wp _ _ _ _ _
  clear A30 H30
  refine wp_seq (st_inc B31 (by omega) (by decide) (z' := M1 + 27) (by omega) ?_); intro b31 A31; change Code.wp _ _ _ _ _
  clear B31
  refine wp_seq (st4i (j := 29) (o1 := 2) (o2 := 26) (o3 := 0) (o4 := 1) (z := M1 + 27) A31 H31 hlt (by decide) (by kernel_rfl) (by kernel_rfl) (by kernel_rfl) (by kernel_rfl) rfl (by decide) (by kernel_rfl) (HI1.out 27 rfl) ?_); intro a32 w32 B32 H32; change Code.wp _ _ _ _ _
  clear A31 H31
  refine wp_seq (st_inc B32 (by omega) (by decide) (z' := M1 + 28) (by omega) ?_); intro b32 A32; change Code.wp _ _ _ _ _
  clear B32
  refine wp_seq (st4i (j := 30) (o1 := 2) (o2 := 26) (o3 := 2) (o4 := 0) (z := M1 + 28) A32 H32 hlt (by decide) (by kernel_rfl) (by kernel_rfl) (by kernel_rfl) (by kernel_rfl) rfl (by decide) (by kernel_rfl) (HI1.out 28 rfl) ?_); intro a33 w33 B33 H33; change Code.wp _ _ _ _ _
  clear A32 H32
  refine wp_seq (st_inc B33 (by omega) (by decide) (z' := M1 + 29) (by omega) ?_); intro b33 A33; change Code.wp _ _ _ _ _
  clear B33
  refine wp_seq (st4i (j := 31) (o1 := 2) (o2 := 26) (o3 := 2) (o4 := 1) (z := M1 + 29) A33 H33 hlt (by decide) (by kernel_rfl) (by kernel_rfl) (by kernel_rfl) (by kernel_rfl) rfl (by decide) (by kernel_rfl) (HI1.out 29 rfl) ?_); intro a34 w34 B34 H34; change Code.wp _ _ _ _ _
  clear A33 H33
  refine wp_seq (st_inc B34 (by omega) (by decide) (z' := M1 + 30) (by omega) ?_); intro b34 A34; change Code.wp _ _ _ _ _
  clear B34
  refine wp_seq (st4i (j := 32) (o1 := 2) (o2 := 26) (o3 := 4) (o4 := 0) (z := M1 + 30) A34 H34 hlt (by decide) (by kernel_rfl) (by kernel_rfl) (by kernel_rfl) (by kernel_rfl) rfl (by decide) (by kernel_rfl) (HI1.out 30 rfl) ?_); intro a35 w35 B35 H35; change Code.wp _ _ _ _ _
  clear A34 H34
  refine wp_seq (st_inc B35 (by omega) (by decide) (z' := M1 + 31) (by omega) ?_); intro b35 A35; change Code.wp _ _ _ _ _
  clear B35
  refine wp_seq (st4i (j := 33) (o1 := 2) (o2 := 26) (o3 := 4) (o4 := 1) (z := M1 + 31) A35 H35 hlt (by decide) (by kernel_rfl) (by kernel_rfl) (by kernel_rfl) (by kernel_rfl) rfl (by decide) (by kernel_rfl) (HI1.out 31 rfl) ?_); intro a36 w36 B36 H36; change Code.wp _ _ _ _ _
  clear A35 H35
  refine wp_seq (st_inc B36 (by omega) (by decide) (z' := M1 + 32) (by omega) ?_); intro b36 A36; change Code.wp _ _ _ _ _
  clear B36
  refine wp_seq (st4i (j := 34) (o1 := 2) (o2 := 26) (o3 := 6) (o4 := 0) (z := M1 + 32) A36 H36 hlt (by decide) (by kernel_rfl) (by kernel_rfl) (by kernel_rfl) (by kernel_rfl) rfl (by decide) (by kernel_rfl) (HI1.out 32 rfl) ?_); intro a37 w37 B37 H37; change Code.wp _ _ _ _ _
  clear A36 H36
  refine wp_seq (st_inc B37 (by omega) (by decide) (z' := M1 + 33) (by omega) ?_); intro b37 A37; change Code.wp _ _ _ _ _
  clear B37
  refine wp_seq (st4i (j := 35) (o1 := 2) (o2 := 26) (o3 := 6) (o4 := 1) (z := M1 + 33) A37 H37 hlt (by decide) (by kernel_rfl) (by kernel_rfl) (by kernel_rfl) (by kernel_rfl) rfl (by decide) (by kernel_rfl) (HI1.out 33 rfl) ?_); intro a38 w38 B38 H38; change Code.wp _ _ _ _ _
  clear A37 H37
  refine wp_seq (st_inc B38 (by omega) (by decide) (z' := M1 + 34) (by omega) ?_); intro b38 A38; change Code.wp _ _ _ _ _
  clear B38
  refine wp_seq (st4i (j := 36) (o1 := 2) (o2 := 26) (o3 := 8) (o4 := 0) (z := M1 + 34) A38 H38 hlt (by decide) (by kernel_rfl) (by kernel_rfl) (by kernel_rfl) (by kernel_rfl) rfl (by decide) (by kernel_rfl) (HI1.out 34 rfl) ?_); intro a39 w39 B39 H39; change Code.wp _ _ _ _ _
  clear A38 H38
  refine wp_seq (st_inc B39 (by omega) (by decide) (z' := M1 + 35) (by omega) ?_); intro b39 A39; change Code.wp _ _ _ _ _
  clear B39
  refine wp_seq (st4i (j := 37) (o1 := 2) (o2 := 26) (o3 := 8) (o4 := 1) (z := M1 + 35) A39 H39 hlt (by decide) (by kernel_rfl) (by kernel_rfl) (by kernel_rfl) (by kernel_rfl) rfl (by decide) (by kernel_rfl) (HI1.out 35 rfl) ?_); intro a40 w40 B40 H40; change Code.wp _ _ _ _ _
  clear A39 H39
  refine wp_seq (st_inc B40 (by omega) (by decide) (z' := M1 + 36) (by omega) ?_); intro b40 A40; change Code.wp _ _ _ _ _
  clear B40
  refine wp_seq (st4i (j := 38) (o1 := 2) (o2 := 26) (o3 := 10) (o4 := 0) (z := M1 + 36) A40 H40 hlt (by decide) (by kernel_rfl) (by kernel_rfl) (by kernel_rfl) (by kernel_rfl) rfl (by decide) (by kernel_rfl) (HI1.out 36 rfl) ?_); intro a41 w41 B41 H41; change Code.wp _ _ _ _ _
  clear A40 H40
  refine wp_seq (st_inc B41 (by omega) (by decide) (z' := M1 + 37) (by omega) ?_); intro b41 A41; change Code.wp _ _ _ _ _
  clear B41
  refine wp_seq (st4i (j := 39) (o1 := 2) (o2 := 26) (o3 := 10) (o4 := 1) (z := M1 + 37) A41 H41 hlt (by decide) (by kernel_rfl) (by kernel_rfl) (by kernel_rfl) (by kernel_rfl) rfl (by decide) (by kernel_rfl) (HI1.out 37 rfl) ?_); intro a42 w42 B42 H42; change Code.wp _ _ _ _ _
  clear A41 H41
  refine wp_seq (st_inc B42 (by omega) (by decide) (z' := M1 + 38) (by omega) ?_); intro b42 A42; change Code.wp _ _ _ _ _
  clear B42
  refine wp_seq (st4i (j := 40) (o1 := 2) (o2 := 38) (o3 := 0) (o4 := 0) (z := M1 + 38) A42 H42 hlt (by decide) (by kernel_rfl) (by kernel_rfl) (by kernel_rfl) (by kernel_rfl) rfl (by decide) (by kernel_rfl) (HI1.out 38 rfl) ?_); intro a43 w43 B43 H43; change Code.wp _ _ _ _ _
  clear A42 H42
  refine wp_seq (st_inc B43 (by omega) (by decide) (z' := M1 + 39) (by omega) ?_); intro b43 A43; change Code.wp _ _ _ _ _
  clear B43
  refine wp_seq (st4i (j := 41) (o1 := 2) (o2 := 38) (o3 := 0) (o4 := 1) (z := M1 + 39) A43 H43 hlt (by decide) (by kernel_rfl) (by kernel_rfl) (by kernel_rfl) (by kernel_rfl) rfl (by decide) (by kernel_rfl) (HI1.out 39 rfl) ?_); intro a44 w44 B44 H44; change Code.wp _ _ _ _ _
  clear A43 H43
  refine wp_seq (st_inc B44 (by omega) (by decide) (z' := M1 + 40) (by omega) ?_); intro b44 A44; change Code.wp _ _ _ _ _
  clear B44
  refine wp_seq (st4i (j := 42) (o1 := 2) (o2 := 38) (o3 := 2) (o4 := 0) (z := M1 + 40) A44 H44 hlt (by decide) (by kernel_rfl) (by kernel_rfl) (by kernel_rfl) (by kernel_rfl) rfl (by decide) (by kernel_rfl) (HI1.out 40 rfl) ?_); intro a45 w45 B45 H45; change Code.wp _ _ _ _ _
  clear A44 H44
  refine wp_seq (st_inc B45 (by omega) (by decide) (z' := M1 + 41) (by omega) ?_); intro b45 A45; change Code.wp _ _ _ _ _
  clear B45
  refine wp_seq (st4i (j := 43) (o1 := 2) (o2 := 38) (o3 := 2) (o4 := 1) (z := M1 + 41) A45 H45 hlt (by decide) (by kernel_rfl) (by kernel_rfl) (by kernel_rfl) (by kernel_rfl) rfl (by decide) (by kernel_rfl) (HI1.out 41 rfl) ?_); intro a46 w46 B46 H46; change Code.wp _ _ _ _ _
  clear A45 H45
  refine wp_seq (st_inc B46 (by omega) (by decide) (z' := M1 + 42) (by omega) ?_); intro b46 A46; change Code.wp _ _ _ _ _
  clear B46
  refine wp_seq (st4i (j := 44) (o1 := 2) (o2 := 38) (o3 := 4) (o4 := 0) (z := M1 + 42) A46 H46 hlt (by decide) (by kernel_rfl) (by kernel_rfl) (by kernel_rfl) (by kernel_rfl) rfl (by decide) (by kernel_rfl) (HI1.out 42 rfl) ?_); intro a47 w47 B47 H47; change Code.wp _ _ _ _ _
  clear A46 H46
  refine wp_seq (st_inc B47 (by omega) (by decide) (z' := M1 + 43) (by omega) ?_); intro b47 A47; change Code.wp _ _ _ _ _
  clear B47
  refine wp_seq (st4i (j := 45) (o1 := 2) (o2 := 38) (o3 := 4) (o4 := 1) (z := M1 + 43) A47 H47 hlt (by decide) (by kernel_rfl) (by kernel_rfl) (by kernel_rfl) (by kernel_rfl) rfl (by decide) (by kernel_rfl) (HI1.out 43 rfl) ?_); intro a48 w48 B48 H48; change Code.wp _ _ _ _ _
  clear A47 H47
  refine wp_seq (st_inc B48 (by omega) (by decide) (z' := M1 + 44) (by omega) ?_); intro b48 A48; change Code.wp _ _ _ _ _
  clear B48
  refine wp_seq (st4i (j := 46) (o1 := 2) (o2 := 38) (o3 := 6) (o4 := 0) (z := M1 + 44) A48 H48 hlt (by decide) (by kernel_rfl) (by kernel_rfl) (by kernel_rfl) (by kernel_rfl) rfl (by decide) (by kernel_rfl) (HI1.out 44 rfl) ?_); intro a49 w49 B49 H49; change Code.wp _ _ _ _ _
  clear A48 H48
  refine wp_seq (st_inc B49 (by omega) (by decide) (z' := M1 + 45) (by omega) ?_); intro b49 A49; change Code.wp _ _ _ _ _
  clear B49
  refine wp_seq (st4i (j := 47) (o1 := 2) (o2 := 38) (o3 := 6) (o4 := 1) (z := M1 + 45) A49 H49 hlt (by decide) (by kernel_rfl) (by kernel_rfl) (by kernel_rfl) (by kernel_rfl) rfl (by decide) (by kernel_rfl) (HI1.out 45 rfl) ?_); intro a50 w50 B50 H50; change Code.wp _ _ _ _ _
  clear A49 H49
  refine wp_seq (st_inc B50 (by omega) (by decide) (z' := M1 + 46) (by omega) ?_); intro b50 A50; change Code.wp _ _ _ _ _
  clear B50
  refine wp_seq (st4i (j := 48) (o1 := 2) (o2 := 38) (o3 := 8) (o4 := 0) (z := M1 + 46) A50 H50 hlt (by decide) (by kernel_rfl) (by kernel_rfl) (by kernel_rfl) (by kernel_rfl) rfl (by decide) (by kernel_rfl) (HI1.out 46 rfl) ?_); intro a51 w51 B51 H51; change Code.wp _ _ _ _ _
  clear A50 H50
  refine wp_seq (st_inc B51 (by omega) (by decide) (z' := M1 + 47) (by omega) ?_); intro b51 A51; change Code.wp _ _ _ _ _
  clear B51
  refine wp_seq (st4i (j := 49) (o1 := 2) (o2 := 38) (o3 := 8) (o4 := 1) (z := M1 + 47) A51 H51 hlt (by decide) (by kernel_rfl) (by kernel_rfl) (by kernel_rfl) (by kernel_rfl) rfl (by decide) (by kernel_rfl) (HI1.out 47 rfl) ?_); intro a52 w52 B52 H52; change Code.wp _ _ _ _ _
  clear A51 H51
  refine wp_seq (st_inc B52 (by omega) (by decide) (z' := M1 + 48) (by omega) ?_); intro b52 A52; change Code.wp _ _ _ _ _
  clear B52
  refine wp_seq (st4i (j := 50) (o1 := 2) (o2 := 38) (o3 := 10) (o4 := 0) (z := M1 + 48) A52 H52 hlt (by decide) (by kernel_rfl) (by kernel_rfl) (by kernel_rfl) (by kernel_rfl) rfl (by decide) (by kernel_rfl) (HI1.out 48 rfl) ?_); intro a53 w53 B53 H53; change Code.wp _ _ _ _ _
  clear A52 H52
  refine wp_seq (st_inc B53 (by omega) (by decide) (z' := M1 + 49) (by omega) ?_); intro b53 A53; change Code.wp _ _ _ _ _
  clear B53
  refine wp_seq (st4i (j := 51) (o1 := 2) (o2 := 38) (o3 := 10) (o4 := 1) (z := M1 + 49) A53 H53 hlt (by decide) (by kernel_rfl) (by kernel_rfl) (by kernel_rfl) (by kernel_rfl) rfl (by decide) (by kernel_rfl) (HI1.out 49 rfl) ?_); intro a54 w54 B54 H54; change Code.wp _ _ _ _ _
  clear A53 H53
  refine wp_seq (st_inc B54 (by omega) (by decide) (z' := M1 + 50) (by omega) ?_); intro b54 A54; change Code.wp _ _ _ _ _
  clear B54
  refine wp_seq (st3i (j := 52) (o1 := 2) (o2 := 50) (o3 := 0) (z := M1 + 50) A54 H54 hlt (by decide) (by kernel_rfl) (by kernel_rfl) (by kernel_rfl) rfl (by decide) (by kernel_rfl) (HI1.out 50 rfl) ?_); intro a55 w55 B55 H55; change Code.wp _ _ _ _ _
  clear A54 H54
  refine wp_seq (st_inc B55 (by omega) (by decide) (z' := M1 + 51) (by omega) ?_); intro b55 A55; change Code.wp _ _ _ _ _
  clear B55
  refine wp_seq (st3i (j := 53) (o1 := 2) (o2 := 50) (o3 := 1) (z := M1 + 51) A55 H55 hlt (by decide) (by kernel_rfl) (by kernel_rfl) (by kernel_rfl) rfl (by decide) (by kernel_rfl) (HI1.out 51 rfl) ?_); intro a56 w56 B56 H56; change Code.wp _ _ _ _ _
  clear A55 H55
  refine wp_seq (st_inc B56 (by omega) (by decide) (z' := M1 + 52) (by omega) ?_); intro b56 A56; change Code.wp _ _ _ _ _
  clear B56
  refine wp_seq (st3i (j := 54) (o1 := 2) (o2 := 50) (o3 := 2) (z := M1 + 52) A56 H56 hlt (by decide) (by kernel_rfl) (by kernel_rfl) (by kernel_rfl) rfl (by decide) (by kernel_rfl) (HI1.out 52 rfl) ?_); intro a57 w57 B57 H57; change Code.wp _ _ _ _ _
  clear A56 H56
  refine wp_seq (st_inc B57 (by omega) (by decide) (z' := M1 + 53) (by omega) ?_); intro b57 A57; change Code.wp _ _ _ _ _
  clear B57
  refine wp_seq (st3i (j := 55) (o1 := 2) (o2 := 50) (o3 := 3) (z := M1 + 53) A57 H57 hlt (by decide) (by kernel_rfl) (by kernel_rfl) (by kernel_rfl) rfl (by decide) (by kernel_rfl) (HI1.out 53 rfl) ?_); intro a58 w58 B58 H58; change Code.wp _ _ _ _ _
  clear A57 H57
  refine wp_seq (st_inc B58 (by omega) (by decide) (z' := M1 + 54) (by omega) ?_); intro b58 A58; change Code.wp _ _ _ _ _
  clear B58
  refine wp_seq (st3i (j := 56) (o1 := 2) (o2 := 54) (o3 := 0) (z := M1 + 54) A58 H58 hlt (by decide) (by kernel_rfl) (by kernel_rfl) (by kernel_rfl) rfl (by decide) (by kernel_rfl) (HI1.out 54 rfl) ?_); intro a59 w59 B59 H59; change Code.wp _ _ _ _ _
  clear A58 H58
  refine wp_seq (st_inc B59 (by omega) (by decide) (z' := M1 + 55) (by omega) ?_); intro b59 A59; change Code.wp _ _ _ _ _
  clear B59
  refine wp_seq (st3i (j := 57) (o1 := 2) (o2 := 54) (o3 := 1) (z := M1 + 55) A59 H59 hlt (by decide) (by kernel_rfl) (by kernel_rfl) (by kernel_rfl) rfl (by decide) (by kernel_rfl) (HI1.out 55 rfl) ?_); intro a60 w60 B60 H60; change Code.wp _ _ _ _ _
  clear A59 H59
  refine wp_seq (st_inc B60 (by omega) (by decide) (z' := M1 + 56) (by omega) ?_); intro b60 A60; change Code.wp _ _ _ _ _
  clear B60
  refine wp_seq (st3i (j := 58) (o1 := 2) (o2 := 54) (o3 := 2) (z := M1 + 56) A60 H60 hlt (by decide) (by kernel_rfl) (by kernel_rfl) (by kernel_rfl) rfl (by decide) (by kernel_rfl) (HI1.out 56 rfl) ?_); intro a61 w61 B61 H61; change Code.wp _ _ _ _ _
  clear A60 H60
  refine wp_seq (st_inc B61 (by omega) (by decide) (z' := M1 + 57) (by omega) ?_); intro b61 A61; change Code.wp _ _ _ _ _
  clear B61
  refine wp_seq (st3i (j := 59) (o1 := 2) (o2 := 54) (o3 := 3) (z := M1 + 57) A61 H61 hlt (by decide) (by kernel_rfl) (by kernel_rfl) (by kernel_rfl) rfl (by decide) (by kernel_rfl) (HI1.out 57 rfl) ?_); intro a62 w62 B62 H62; change Code.wp _ _ _ _ _
  clear A61 H61
  refine wp_seq (st_inc B62 (by omega) (by decide) (z' := M1 + 58) (by omega) ?_); intro b62 A62; change Code.wp _ _ _ _ _
  clear B62
  refine wp_seq (st2i (j := 60) (o1 := 2) (o2 := 58) (z := M1 + 58) A62 H62 hlt (by decide) (by kernel_rfl) (by kernel_rfl) rfl (by decide) (by kernel_rfl) (HI1.out 58 rfl) ?_); intro a63 w63 B63 H63; change Code.wp _ _ _ _ _
  clear A62 H62
  refine wp_seq (st_inc B63 (by omega) (by decide) (z' := M1 + 59) (by omega) ?_); intro b63 A63; change Code.wp _ _ _ _ _
  clear B63
  refine wp_seq (st2i (j := 61) (o1 := 2) (o2 := 59) (z := M1 + 59) A63 H63 hlt (by decide) (by kernel_rfl) (by kernel_rfl) rfl (by decide) (by kernel_rfl) (HI1.out 59 rfl) ?_); intro a64 w64 B64 H64; change Code.wp _ _ _ _ _
  clear A63 H63
  refine wp_seq (st_inc B64 (by omega) (by decide) (z' := M1 + 60) (by omega) ?_); intro b64 A64; change Code.wp _ _ _ _ _
  clear B64
  refine wp_seq (st1b (j := 62) (o1 := 62) (z := M1 + 60) A64 H64 hlt (by omega) (by decide) (by kernel_rfl) rfl (by decide) (by kernel_rfl) l62 ?_); intro a65 w65 B65 H65; change Code.wp _ _ _ _ _
  refine wp_seq (st_inc B65 (by omega) (by decide) (z' := M1 + 61) (by omega) ?_); intro b65 A65; change Code.wp _ _ _ _ _
  have hcR := H65.out.cell HG.out.2 (by decide) (by omega)
  refine (stc2 (j := 63) (o1 := 63) (o2 := 0) (z := M1 + 61) (R := fun z' w' => z' = M1 + 61 + 3 * (x.rules.length : Int) ∧ w'.ownsRow base 106 3 (.slice Rr x.rules.length cr) x.rules.length (RV k_rule (marksR 3 (M1 + 61) x.rules.length)) ∧ w65.grownBy w' (Value.slice Rr x.rules.length cr).ownBlock) A65 hlt (by decide) (by kernel_rfl) (by kernel_rfl) rfl hcR Try.underlying43 (by kernel_rfl) rfl (run_callFunc Try.func61 (by kernel_rfl) rfl)
    ((markRuleS_c base _ x.rules.length x.rules (M1 + 61) w65 (H65.out.fam.1 (rulesRow (.slice Rr x.rules.length cr) x.rules) (List.mem_cons_of_mem _ (List.mem_of_getElem? (i := 2 * k + 1) (by rw [List.getElem?_set_ne (by omega), List.getElem?_append_left (by rw [HLR.out]; omega)]; exact HRW.out.2)))) (by omega) rfl (by omega)).mono (by rintro e w' ⟨rfl, ho, hg⟩; exact ⟨_, rfl, rfl, ho, hg⟩)) ?_)
  rintro a z w' ⟨rfl, ho, hg⟩ A
  have HE2 := ((H65.out.row (i := 2 * k + 1) (r := rulesRow (.slice Rr x.rules.length cr) x.rules) (by rw [List.getElem?_set_ne (by omega), List.getElem?_append_left (by rw [HLR.out]; omega)]; exact HRW.out.2) (RV k_rule (marksR 3 (M1 + 61) x.rules.length)) ho hg).skip l63 HG.out.2)
  exact next a w' M1 HM1.out A HE2

theorem mark_end {base b c k : Nat} {T X : List NodeD} {KS RS : List Value} {R : List Row} {x : NodeD} {K Rr : Option Addr} {ck cr : Nat} {M M1 : Int} {w : World} (h1 : KS.length = X.length) (h2 : RS.length = X.length) (hX : X.length = T.length) (hlt : k < T.length)
    (e1 : KS[k]? = some (.slice K x.kids.length ck)) (e2 : RS[k]? = some (.slice Rr x.rules.length cr)) (hM : M1 = M + 1 + (x.kids.length : Int))
    (h : Fam w base (⟨77, 64, .slice (some ⟨b, 0, none⟩) T.length c, T.length, setRun (nodesL KS RS X) (k * 64) ((nodeL (markNode M x) (.slice K x.kids.length ck) (.slice Rr x.rules.length cr)).take 64)⟩ ::
      ((nodeRows KS RS X ++ R).set (2 * k) ⟨3, 1, .slice K x.kids.length ck, x.kids.length, VI (marks (M + 1) x.kids.length)⟩).set (2 * k + 1) ⟨106, 3, .slice Rr x.rules.length cr, x.rules.length, RV k_rule (marksR 3 (M1 + 61) x.rules.length)⟩)) :
    Fam w base (treeF (.slice (some ⟨b, 0, none⟩) T.length c) (X.set k (markNode M x)) KS RS ++ R) := by
  have hl := nodeRows_length h1 h2
  rw [List.take_of_length_le (by rw [nodeL_length]; exact Nat.le_refl _), ← nodesL_set (markNode M x) h1 h2 (by omega) e1 e2] at h
  rw [List.set_append_left _ _ (by omega), List.set_append_left _ _ (by rw [List.length_set]; omega)] at h
  unfold treeF
  rw [nodeRows_set (markNode M x) e1 e2 (by omega), List.length_set, hX]
  have ek : kidsRow (.slice K x.kids.length ck) (markNode M x).kids = ⟨3, 1, .slice K x.kids.length ck, x.kids.length, VI (marks (M + 1) x.kids.length)⟩ := by
    unfold kidsRow markNode
    rw [marks_length]
  have er : rulesRow (.slice Rr x.rules.length cr) (markNode M x).rules = ⟨106, 3, .slice Rr x.rules.length cr, x.rules.length, RV k_rule (marksR 3 (M1 + 61) x.rules.length)⟩ := by
    unfold rulesRow markNode
    rw [marksR_length, hM]
  rw [ek, er]
  exact h
noncomputable def markCode : Code := ((Try.f49).body).getD .skip
set_option maxRecDepth 1000000 in
set_option maxRecDepth 100000 in
set_option maxHeartbeats 4000000 in
theorem markNodeS_c (base : Nat) (v : Value) (T : List NodeD) (KS RS : List Value) (R : List Row) (m : Int) (w : World) (h1 : KS.length = T.length) (h2 : RS.length = T.length) (hF : Fam w base (treeF v T KS RS ++ R)) (hs : base ≤ w.heap.size) (hn : treeSz T ≤ 1048576) (hm : 0 ≤ m ∧ m ≤ 1048576) :
    Calls Try.prog 49 #[v, .int .i64 m] w fun e w' => e = .returned (.int .i64 (m + (markAll T : Int))) ∧ Fam w' base (treeF v (markT m T) KS RS ++ R) ∧ Below base w w' := by
  have hT : T.length ≤ 1048576 := by unfold treeSz at hn; omega
  have hms := markAll_small hn
  have hA : TreeAt w base v T := ⟨KS, RS, h1, h2, hF.left⟩
  obtain ⟨S, c, rfl, hc1, hc2, -, hI⟩ := hA.nodes
  refine calls_of_wp (c := markCode) Try.func49 rfl ?_
  have A0 : AS ⟨#[.slice S T.length c, .int .i64 m] ++ Array.replicate ((Try.f49).ntmps - (#[Value.slice S T.length c, Value.int .i64 m]).size) undef, []⟩ 598 (.slice S T.length c) undef (.int .i64 m) := by
    rw [Try.ntmps49]
    exact frame_AS 592 _ _
  generalize (⟨#[.slice S T.length c, .int .i64 m] ++ Array.replicate ((Try.f49).ntmps - (#[Value.slice S T.length c, Value.int .i64 m]).size) undef, []⟩ : Act) = a0 at A0 ⊢
  conv => arg 2; whnf
  refine wp_seq (st_set4 A0 (by decide) ?_); intro a1 A1 _; change Code.wp _ _ _ _ _
  refine wp_seq ?_
  refine wp_seq (st_set5 A1 (by decide) ?_); intro a2 A2; change Code.wp _ _ _ _ _
  refine wp_block ?_
  refine wp_loop (fun a wr => ∃ k : Nat, k ≤ T.length ∧ AS a 598 (.slice S T.length c) (.int .i64 (k : Int)) (.int .i64 (m + (markTo T k : Int))) ∧ Fam wr base (treeF (.slice S T.length c) (markX m T k) KS RS ++ R) ∧ Below base w wr ∧ base ≤ wr.heap.size)
    (fun a _ => T.length - (intOf (a.eval (.tmp 5))).toNat) ?_ ?_
  · exact ⟨0, Nat.zero_le _, by rw [show m + (markTo T 0 : Int) = m by simp [markTo]]; exact A2, by rw [markX_zero]; exact hF, Below.refl _ _, hs⟩
  · rintro a wr ⟨k, hk, A, hF1, hb, hsz⟩
    have hi5 : intOf (a.eval (.tmp 5)) = (k : Int) := by rw [A.t5]; rfl
    refine wp_seq (wp_seq (st_test A (by decide) Try.underlying28 ?_)); intro a3 A3 h9; change Code.wp _ _ _ _ _
    by_cases hlt : k < T.length
    · refine wp_cond (t := true) (by rw [h9, decide_eq_true hlt]) ?_
      refine wp_skip ?_
      change Code.wp _ _ _ _ _
      obtain ⟨b, o, rfl, hbl, -⟩ := hI k hlt
      have hXl := markX_length m (Nat.le_of_lt hlt)
      have hms2 := markTo_le T (k + 1)
      have hms3 := markTo_succ hlt
      have hxk : node_ (markX m T k) k = node_ T k := markX_at m hlt
      obtain ⟨K, ck, Rr, cr, e1, e2, -, -, q1, q2, q3, q4, q5, q6, e3⟩ := TreeAt.node (T := markX m T k) (by rw [hXl]; exact h1) (by rw [hXl]; exact h2) hF1.left (j := k) (by rw [hXl]; exact hlt)
      rw [hxk] at e1 e2 q1 q4 e3
      have hnz : nodeSz (node_ T k) ≤ 1048576 := Nat.le_trans (nodeSz_le hlt) hn
      obtain ⟨hk1, hk2⟩ : (node_ T k).kids.length ≤ 1048576 ∧ (node_ T k).rules.length ≤ 1048576 := by unfold nodeSz at hnz; omega
      have hrows := nodeRows_get (T := markX m T k) e1 e2 (by rw [hXl]; exact hlt)
      rw [hxk] at hrows
      have ho0 : Fam wr base (⟨77, 64, .slice (some ⟨b, o, none⟩) T.length c, T.length, nodesL KS RS (markX m T k)⟩ :: (nodeRows KS RS (markX m T k) ++ R)) := by
        have := hF1
        unfold treeF at this
        rw [hXl] at this
        exact this
      obtain rfl : o = 0 := own_off (ho0.1 ⟨77, 64, .slice (some ⟨b, o, none⟩) T.length c, T.length, nodesL KS RS (markX m T k)⟩ List.mem_cons_self) (by omega)
      refine wp_seq (wp_block ?_)
      refine mark_one (M := m + (markTo T k : Int)) (x := node_ T k) (w := w) (X := markX m T k) (KS := KS) (RS := RS) (R := R) (xs0 := nodesL KS RS (markX m T k)) A3 (hid' ⟨ho0, hb, hsz⟩) hlt hT (hid' rfl) (hid' ⟨e3 1 (by decide), (e3 63 (by decide)).trans (nodeL_get63 _ _ _)⟩) (hid' hrows)
        (hid' (by rw [nodeRows_length (by rw [hXl]; exact h1) (by rw [hXl]; exact h2), hXl])) (by omega) hk1 hk2 ?_
      intro a4 w4 M1 hM1 A4 hMk
      change Code.wp _ _ _ _ _
      refine st_inci A4 (by omega) (by decide) ?_
      intro a5 A5
      refine ⟨⟨k + 1, hlt, ?_, ?_, hMk.bel, hMk.sz⟩, ?_⟩
      · have e : M1 + 61 + 3 * ((node_ T k).rules.length : Int) = m + (markTo T (k + 1) : Int) := by rw [hM1, hms3]; unfold markSz; omega
        rw [← e]
        exact A5
      · rw [markX_succ m hlt]
        exact mark_end (by rw [hXl]; exact h1) (by rw [hXl]; exact h2) hXl hlt e1 e2 hM1 hMk.fam
      · show T.length - (intOf (a5.eval (.tmp 5))).toNat < T.length - (intOf (a.eval (.tmp 5))).toNat
        rw [hi5, A5.t5]
        show T.length - (((k + 1 : Nat) : Int)).toNat < T.length - ((k : Int)).toNat
        omega
    · refine wp_cond (t := false) (by rw [h9, decide_eq_false hlt]) ?_
      refine wp_exit ?_
      change Code.wp _ _ _ _ _
      obtain rfl : k = T.length := by omega
      refine wp_seq (st_ret4 A3 (by decide) ?_); intro a4 A4 h4; change Code.wp _ _ _ _ _
      refine wp_ret ?_
      refine bodyPost_ret (results_tmp rfl _ _ _) A4.df ⟨?_, ?_, hb⟩
      · show Ending.returned (a4.eval (.tmp 4)) = _
        rw [h4, markTo_all]
      · rw [markX_all] at hF1
        exact hF1
set_option maxRecDepth 100000 in
set_option maxHeartbeats 1000000 in
theorem markTree_c (base : Nat) (A : Option Addr) (c : Nat) (T : List NodeD) (KS RS : List Value) (R : List Row) (m : Int) (w : World) (h1 : KS.length = T.length) (h2 : RS.length = T.length) (hF : Fam w base (treeF (.slice A T.length c) T KS RS ++ R)) (hs : base ≤ w.heap.size) (hn : treeSz T ≤ 1048576) (hm : 0 ≤ m ∧ m ≤ 1048576) :
    Calls Try.prog 17 #[.agg #[.slice A T.length c], .int .i64 m] w fun e w' => e = .returned (.int .i64 (m + (markAll T : Int))) ∧ Fam w' base (treeF (.slice A T.length c) (markT m T) KS RS ++ R) ∧ Below base w w' := by
  have h' := hF.keep ((Bel.refl w).alloc (.cells #[.slice A T.length c] 30))
  go_enter Try.func17, Try.ntmps17
  go_wp2_with fail
  refine (markNodeS_c base _ T KS RS R m _ h1 h2 h' (by simp; omega) hn hm).mono ?_; rintro e w1 ⟨rfl, hF1, hb⟩
  go_wp2_with fail
  go_ret
  exact ⟨rfl, hF1, Below.trans ((Below.refl base w).alloc hs _) hb⟩
end Go.Proofs.Ytcdneamoemmohaa
