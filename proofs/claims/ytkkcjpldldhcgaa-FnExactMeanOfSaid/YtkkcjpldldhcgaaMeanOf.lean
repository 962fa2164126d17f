/-
  The law FnExactMeanOf returns true for every argument (the statement FnExactMeanOfSaid): the MeanOf of the program and that of the reference agree.
  Conditions: none beyond those of the given statement.
-/
import Derived.Test.YtkkcjpldldhcgaaMean
import Derived.Test.YtkkcjpldldhcgaaLaw
namespace Go.Proofs.Ytkkcjpldldhcgaa.MeanOf
open Go Go.RowKit Go.ChangeShapes Go.WideShapes Go.ChangeAt Go.Joins Go.Proofs.Ytkkcjpldldhcgaa.Fl Go.Proofs.Ytkkcjpldldhcgaa.Reg Go.Proofs.Ytkkcjpldldhcgaa.Step Go.Proofs.Ytkkcjpldldhcgaa.Mem Go.Proofs.Ytkkcjpldldhcgaa.Same Go.Proofs.Ytkkcjpldldhcgaa.Help Go.Proofs.Ytkkcjpldldhcgaa.Grid Go.Proofs.Ytkkcjpldldhcgaa.Mean Go.Proofs.Ytkkcjpldldhcgaa.Law

def outF (W H : Int) (n : Nat) (xs : List (Option Nat)) : Option Nat := if fitB W H n = true then meanF xs else some 0

set_option maxHeartbeats 400000 in
theorem spec_any (W H : Int) (p : Option Addr) (c : Nat) (rs : List Nat) (w : World) (hn : rs.length ≤ 1048576) (hr : Rd w p rs) :
    Calls Try.prog 15 #[.agg #[.int .i64 W, .int .i64 H], .slice p rs.length c] w fun e w' => ∃ r, e = .returned (.tuple #[.float .f32 r, .bool (fitB W H rs.length)]) ∧ Hid (vf .f32 r = outF W H rs.length (rs.map (vf .f32))) ∧ Below w.heap.size w w' := by
  cases h : fitB W H rs.length
  · have hO : Hid (outF W H rs.length (rs.map (vf .f32)) = some 0) := by simp [Hid, outF, h]
    go_enter Try.func15, Try.ntmps15
    go_wp2_with (go_at_call 39; refine (l03Fits_any _ W H p rs.length c hn _ (by simp) (by simp) (by simp)).mono ?_; rintro e w1 ⟨rfl, hb⟩)
    go_ret2
    exact ⟨0, rfl, by rw [hO.out]; exact vf_zero, ((Below.refl _ _).alloc (Nat.le_refl _) _).trans (hb.mono (by simp))⟩
  · have hO : Hid (outF W H rs.length (rs.map (vf .f32)) = meanF (rs.map (vf .f32))) := by simp [Hid, outF, h]
    go_enter Try.func15, Try.ntmps15
    go_wp2_with (first
      | (go_at_call 39; refine (l03Fits_any _ W H p rs.length c hn _ (by simp) (by simp) (by simp)).mono ?_; rintro e w1 ⟨rfl, hb⟩; replace hb := ((Below.refl _ _).alloc (Nat.le_refl _) _).trans (hb.mono (by simp)))
      | (go_at_call 40; refine (l03Mean_any p c rs _ hn (hr.below (by assumption))).mono ?_; rintro e w2 ⟨r, rfl, hv, hb2⟩))
    go_ret2
    exact ⟨_, rfl, by rw [hO.out]; exact hv, hb.trans (hb2.mono hb.size)⟩

set_option maxHeartbeats 400000 in
theorem impl_any (W H : Int) (p : Option Addr) (c : Nat) (rs : List Nat) (w : World) (hn : rs.length ≤ 1048576) (hr : Rd w p rs) :
    Calls Try.prog 18 #[.agg #[.int .i64 W, .int .i64 H], .slice p rs.length c] w fun e w' => ∃ r, e = .returned (.tuple #[.float .f32 r, .bool (fitB W H rs.length)]) ∧ Hid (vf .f32 r = outF W H rs.length (rs.map (vf .f32))) ∧ Below w.heap.size w w' := by
  cases h : fitB W H rs.length
  · have hO : Hid (outF W H rs.length (rs.map (vf .f32)) = some 0) := by simp [Hid, outF, h]
    go_enter Try.func18, Try.ntmps18
    go_wp2_with (go_at_call 41; refine (IsField_any W H p rs.length c hn _).mono ?_; rintro e w1 ⟨rfl, hb⟩)
    go_ret2
    exact ⟨0, rfl, by rw [hO.out]; exact vf_zero, ((Below.refl _ _).alloc (Nat.le_refl _) _).trans (hb.mono (by simp))⟩
  · have hO : Hid (outF W H rs.length (rs.map (vf .f32)) = meanF (rs.map (vf .f32))) := by simp [Hid, outF, h]
    go_enter Try.func18, Try.ntmps18
    go_wp2_with (first
      | (go_at_call 41; refine (IsField_any W H p rs.length c hn _).mono ?_; rintro e w1 ⟨rfl, hb⟩; replace hb := ((Below.refl _ _).alloc (Nat.le_refl _) _).trans (hb.mono (by simp)))
      | (go_at_call 42; refine (mean_any p c rs _ hn (hr.below (by assumption))).mono ?_; rintro e w2 ⟨r, rfl, hv, hb2⟩))
    go_ret2
    exact ⟨_, rfl, by rw [hO.out]; exact hv, hb.trans (hb2.mono hb.size)⟩

set_option maxHeartbeats 1000000 in
theorem walk_of (W H : Int) (p : Option Addr) (c : Nat) (rs : List Nat) (w : World) (hr : Rd w p rs) (hn : rs.length ≤ 1048576) :
    Calls Try.prog 5 #[.agg #[.int .i64 W, .int .i64 H], .slice p rs.length c] w fun e w' => e = .returned (.bool true) ∧ Below w.heap.size w w' := by
  have i0 := Inv.start w W H
  go_enter Try.func5, Try.ntmps5
  go_wp2_with fail
  refine (toGrid_any W H _).mono ?_
  rintro e w1 ⟨rfl, hb1⟩
  have i1 := i0.step hb1
  go_wp2_with fail
  refine (toF_any p c rs _ hn (hr.below i1.below)).mono ?_
  rintro e w2 ⟨q1, rfl, ho1, hb2⟩
  have i2 := i1.step hb2
  go_wp2_with fail
  refine (spec_any W H _ _ rs _ hn ho1.rd).mono ?_
  rintro e w3 ⟨r1, rfl, hv1, hb3⟩
  have i3 := i2.step hb3
  go_wp2_with fail
  refine (toF_any p c rs _ hn (hr.below i3.below)).mono ?_
  rintro e w4 ⟨q2, rfl, ho2, hb4⟩
  have i4 := i3.step hb4
  have c40 := i4.c0
  have c41 := i4.c1
  go_wp2_with fail
  refine (toGrid_any W H _).mono ?_
  rintro e w5 ⟨rfl, hb5⟩
  have i5 := i4.step hb5
  have ho3 := ho2.below hb5
  go_wp2_with fail
  refine (impl_any W H _ _ rs _ hn ho3.rd).mono ?_
  rintro e w6 ⟨r2, rfl, hv2, hb6⟩
  have i6 := i5.step hb6
  have ho4 := ho3.below hb6
  go_wp2_with (refine wpList_widen (src := 25) (dst := 29) rfl rfl rfl u32s Try.underlying29 (fun r n hv => ?_))
  refine Calls.mono (same_any _ _ _ (widen_eq (by assumption) (by assumption) (hv2.out.trans hv1.out.symm))) ?_
  rintro e w7 ⟨rfl, n7, rfl⟩
  go_wp2_with fail
  refine (toF_any p c rs _ hn (hr.below (by simpa using i6.below))).mono ?_
  rintro e w8 ⟨q3, rfl, ho8, hb8⟩
  have i8 : Inv w W H w8 := i6.step (by simpa using hb8)
  have ho9 : Ow w8 _ q2 rs.length rs := ho4.below (by simpa using hb8)
  go_wp2_with fail
  refine (eqF_any _ _ _ _ rs rs _ hn ho9.rd ho8.rd rfl).mono ?_
  rintro e w9 ⟨rfl, hb9⟩
  have i9 := i8.step hb9
  go_wp2
  go_ret
  exact ⟨rfl, i9.below⟩

theorem walk_out (W H : Int) (p : Option Addr) (c : Nat) (rs : List Nat) (w : World) (hn : 1048576 < rs.length) (hm : rs.length ≤ 9223372036854775807) :
    Calls Try.prog 5 #[.agg #[.int .i64 W, .int .i64 H], .slice p rs.length c] w fun e w' => e = .returned (.bool true) ∧ Below w.heap.size w w' := by
  have i0 := Inv.start w W H
  go_enter Try.func5, Try.ntmps5
  go_wp2
  go_ret
  exact ⟨rfl, i0.below⟩

theorem walk (W H : Int) (_wW : (Lit.int .i64 W).wf = true) (_wH : (Lit.int .i64 H).wf = true) (p : Option Addr) (c : Nat) (rs : List Nat) (w : World) (hr : Rd w p rs) (hm : rs.length ≤ 9223372036854775807) :
    Calls Try.prog 5 #[.agg #[.int .i64 W, .int .i64 H], .slice p rs.length c] w fun e w' => e = .returned (.bool true) ∧ Below w.heap.size w w' := by
  by_cases hn : rs.length ≤ 1048576
  · exact walk_of W H p c rs w hr hn
  · exact walk_out W H p c rs w (by omega) hm

/-! ### From the walk to the statement -/
set_option maxRecDepth 100000 in
theorem lifted (os : Os) (started : os.Started) (H : Type) (enc : TypeId × Value → H) :
    ReturnsInHanded {} Try.checked os 5 .any (Rows.fnExactMeanOfSpec.pre6 enc Try.prog Try.f5 Rows.fnExactMeanOfRow.domain false) (Rows.fnExactMeanOfSpec.post enc Try.prog Try.f5 false true false false) := by
  refine returnsInHanded_of_change (C := Try.checked) own started (by kernel_rfl) Try.func5
    (ChangeSpec.witness6 (enc := enc) (C := Try.checked) false ⟨#[], #[.agg #[.int .i64 0, .int .i64 0], .slice none 0 0], []⟩ 8 (by kernel_rfl) (by kernel_rfl) (by kernel_rfl) (by kernel_rfl)) ?_
  intro W base args ds gs before hval0 hW hcnd _
  have hval : ∀ (j : Nat) t v, Try.f5.params[j]? = some t → args[j]? = some v → Value.okWide Try.prog W .any base t v := hval0
  have hW' := hW
  obtain ⟨p, q, hA0, hV, rfl, hfz, hnd⟩ := hW
  have hA : DataW.TrodAll enc Try.prog W 0 (fun _ => true) true Try.f5.params.toList args.toList ds p := hA0
  rw [Try.params5] at hA hval
  obtain ⟨v0, vs0, d0, ds0, p0, q0, hargs, rfl, rfl, h0, r0⟩ := trodAll_cons hA
  obtain ⟨v1, vs1, d1, ds1, p1, q1, rfl, rfl, rfl, h1, r1⟩ := trodAll_cons r0
  obtain ⟨rfl, rfl, rfl⟩ := trodAll_nil r1
  obtain rfl : args = #[v0, v1] := by cases args; simp_all
  obtain ⟨rfl, rfl⟩ := trodVars_none hV
  obtain ⟨c0a, c0b, y0a, y0b, m0, rfl, _, _, hy0a, hy0b⟩ := open_agg2 Try.underlying31 (by kernel_rfl) cellsGrid (hval 0 31 v0 rfl rfl) h0
  obtain ⟨gW0, e0a, _, wW0⟩ := DataW.trod_int Try.underlying2 hy0a
  obtain ⟨gH0, e0b, _, wH0⟩ := DataW.trod_int Try.underlying2 hy0b
  simp only [List.cons.injEq, and_true] at e0a e0b
  subst e0a e0b
  obtain ⟨a1, c1, rs1, rfl, hr1, hm1⟩ := open_floats Try.underlying32 Try.underlying25 cellsF32 (hval 1 32 v1 rfl rfl) h1
  refine (walk gW0 gH0 wW0 wH0 a1 c1 rs1 W hr1 hm1).mono fun e W' ⟨he, hb⟩ => ?_
  subst he
  exact ⟨_, rfl, law_post laid Try.underlying4 (by kernel_rfl) (by rw [Try.params5]; intro t ht; simp only [List.mem_cons, List.not_mem_nil, or_false] at ht; rcases ht with rfl | rfl <;> exact ⟨by kernel_rfl, of_decide_eq_true (by kernel_rfl)⟩) rfl rfl hW' hb⟩

/-- The statement. -/
theorem proved : Rows.FnExactMeanOfSaid :=
  OpenClaim.holds_of_wide 5 Try.f5 rfl rfl rfl rfl rfl rfl rfl ⟨rfl, rfl, rfl, rfl, rfl⟩ rfl rfl rfl rfl rfl (by kernel_rfl) Try.func5 (by kernel_rfl)
    (of_decide_eq_true (by kernel_rfl)) (by unfold Func.isWrapper; first | (rw [if_pos (by decide +kernel)]; kernel_rfl) | (rw [if_neg (by decide +kernel)]; exact ⟨rfl, rfl⟩))
    (fun os started H enc _ => lifted os started H enc)
#print axioms proved

end Go.Proofs.Ytkkcjpldldhcgaa.MeanOf
