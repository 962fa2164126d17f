/-
  The law FnExactFieldsOf returns true for every argument (the statement FnExactFieldsOfSaid): the FieldsOf of the program and that of the reference agree.
  Conditions: none beyond those of the given statement.
-/
import Derived.Test.YtdafcgimkiepnaaFields
namespace Go.Proofs.Ytdafcgimkiepnaa.FieldsOf
open Go Go.RowKit Go.ChangeShapes Go.WideShapes Go.ChangeAt Go.Joins Go.Proofs.Ytdafcgimkiepnaa.Fl Go.Proofs.Ytdafcgimkiepnaa.Reg Go.Proofs.Ytdafcgimkiepnaa.Step Go.Proofs.Ytdafcgimkiepnaa.Mem Go.Proofs.Ytdafcgimkiepnaa.Same Go.Proofs.Ytdafcgimkiepnaa.Help Go.Proofs.Ytdafcgimkiepnaa.Grid Go.Proofs.Ytdafcgimkiepnaa.Mean Go.Proofs.Ytdafcgimkiepnaa.App Go.Proofs.Ytdafcgimkiepnaa.Level Go.Proofs.Ytdafcgimkiepnaa.Lap Go.Proofs.Ytdafcgimkiepnaa.Law Go.Proofs.Ytdafcgimkiepnaa.Fields

set_option maxHeartbeats 400000 in
theorem impl_bad (W H : Int) (p : Option Addr) (n c : Nat) (w : World) (hn : n ≤ 1048576) (h : fitB W H n = false) :
    Calls Try.prog 18 #[.agg #[.int .i64 W, .int .i64 H], .slice p n c] w fun e w' => e = .returned (.tuple #[.slice none 0 0, .slice none 0 0, .bool false]) ∧ Below w.heap.size w w' := by
  go_enter Try.func18, Try.ntmps18
  go_wp2_with (go_at_call 48; refine (IsField_any W H p n c hn _).mono ?_; rintro e w1 ⟨rfl, hb⟩)
  go_ret3
  exact ⟨rfl, ((Below.refl _ _).alloc (Nat.le_refl _) _).trans (hb.mono (by simp))⟩

theorem impl_any (W H : Int) (p : Option Addr) (c : Nat) (rs : List Nat) {base : Nat} (w : World) (hn : rs.length ≤ 1048576) (how : Ow w base p c rs) :
    Calls Try.prog 18 #[.agg #[.int .i64 W, .int .i64 H], .slice p rs.length c] w fun e w' => BackTT w w' e (fitB W H rs.length) (outA W H rs.length 0 1 (rs.map (vf .f32))) (outA W H rs.length 2 3 (rs.map (vf .f32))) := by
  unfold outA
  cases h : fitB W H rs.length
  · refine (impl_bad W H p _ c w hn h).mono ?_
    rintro e w' ⟨rfl, hb⟩
    simpa using BackTT.none hb
  · obtain ⟨h1, h2, h3, h4, hf⟩ := fitB_spec h
    obtain ⟨W, rfl⟩ : ∃ n : Nat, W = n := ⟨W.toNat, by omega⟩
    obtain ⟨H, rfl⟩ : ∃ n : Nat, H = n := ⟨H.toNat, by omega⟩
    have e : ((W * H : Nat) : Int) = (W : Int) * H := by simp
    refine (fields_in W H p c rs (by omega) (by omega) (by omega) (by omega) (by omega) h w how.rd).mono ?_
    intro e w' hh
    simpa using hh
set_option maxHeartbeats 4000000 in
set_option maxRecDepth 100000 in
theorem walk_of (W H : Int) (p1 : Option Addr) (c1 : Nat) (rs1 : List Nat)  (w : World) (hr1 : Rd w p1 rs1) (hn1 : rs1.length ≤ 1048576) :
    Calls Try.prog 3 #[.agg #[.int .i64 W, .int .i64 H], .slice p1 rs1.length c1] w fun e w' => e = .returned (.bool true) ∧ Below w.heap.size w w' := by
  have i0 := Inv.start w W H
  go_enter Try.func3, Try.ntmps3
  have ca := i0.c0
  have cb := i0.c1
  go_wp2_with fail
  clear ca cb
  refine (toGrid_any W H _).mono ?_
  rintro e w1 ⟨rfl, hb1⟩
  have z1 : (w.alloc (.cells #[.int .i64 W, .int .i64 H] 23)).heap.size ≤ w1.heap.size := hb1.size
  have i1 := i0.step hb1
  go_wp2_with fail
  refine (toF_any p1 c1 rs1 _ hn1 (hr1.below i1.below)).mono ?_
  rintro e w2 ⟨q_t1, rfl, o_t1, hb2⟩
  have z2 : w1.heap.size ≤ w2.heap.size := hb2.size
  have i2 := i1.step hb2
  have l_t1 : ∀ a, q_t1 = some a → w1.heap.size ≤ a.block ∧ a.block < w2.heap.size := o_t1.lt
  go_wp2_with fail
  refine (spec_any W H _ _ rs1 _ hn1 o_t1).mono ?_
  rintro e w3 ⟨q_wa, d_wa, rs_wa, q_wb, d_wb, rs_wb, rfl, o_wa, v_wa, e_wa, o_wb, v_wb, e_wb, dj_w, hb3⟩
  have z3 : w2.heap.size ≤ w3.heap.size := hb3.size
  have i3 := i2.step hb3
  replace o_t1 := o_t1.below hb3
  have l_wa : ∀ a, q_wa = some a → w2.heap.size ≤ a.block ∧ a.block < w3.heap.size := o_wa.lt
  have l_wb : ∀ a, q_wb = some a → w2.heap.size ≤ a.block ∧ a.block < w3.heap.size := o_wb.lt
  clear o_t1 l_t1
  go_wp2_with fail
  refine (toF_any p1 c1 rs1 _ hn1 (hr1.below i3.below)).mono ?_
  rintro e w4 ⟨q_x1, rfl, o_x1, hb4⟩
  have z4 : w3.heap.size ≤ w4.heap.size := hb4.size
  have i4 := i3.step hb4
  replace o_wa := o_wa.below hb4
  replace o_wb := o_wb.below hb4
  have l_x1 : ∀ a, q_x1 = some a → w3.heap.size ≤ a.block ∧ a.block < w4.heap.size := o_x1.lt
  have ca := i4.c0
  have cb := i4.c1
  go_wp2_with fail
  clear ca cb
  refine (toGrid_any W H _).mono ?_
  rintro e w5 ⟨rfl, hb5⟩
  have z5 : w4.heap.size ≤ w5.heap.size := hb5.size
  have i5 := i4.step hb5
  replace o_wa := o_wa.below hb5
  replace o_wb := o_wb.below hb5
  replace o_x1 := o_x1.below hb5
  go_wp2_with fail
  refine (impl_any W H _ _ rs1 _ hn1 o_x1).mono ?_
  rintro e w6 ⟨q_ga, d_ga, rs_ga, q_gb, d_gb, rs_gb, rfl, o_ga, v_ga, e_ga, o_gb, v_gb, e_gb, dj_g, hb6⟩
  have z6 : w5.heap.size ≤ w6.heap.size := hb6.size
  have i6 := i5.step hb6
  replace o_wa := o_wa.below hb6
  replace o_wb := o_wb.below hb6
  replace o_x1 := o_x1.below hb6
  have l_ga : ∀ a, q_ga = some a → w5.heap.size ≤ a.block ∧ a.block < w6.heap.size := o_ga.lt
  have l_gb : ∀ a, q_gb = some a → w5.heap.size ≤ a.block ∧ a.block < w6.heap.size := o_gb.lt
  go_wp2_with fail
  refine (eqF_any _ _ _ _ rs_ga rs_wa _ e_ga o_ga.rd o_wa.rd (v_ga.trans v_wa.symm)).mono ?_
  rintro e w7 ⟨rfl, hb7⟩
  have z7 : w6.heap.size ≤ w7.heap.size := hb7.size
  have i7 := i6.step hb7
  replace o_wa := o_wa.below hb7
  replace o_wb := o_wb.below hb7
  replace o_x1 := o_x1.below hb7
  replace o_ga := o_ga.below hb7
  replace o_gb := o_gb.below hb7
  go_wp2_with fail
  refine (eqF_any _ _ _ _ rs_gb rs_wb _ e_gb o_gb.rd o_wb.rd (v_gb.trans v_wb.symm)).mono ?_
  rintro e w8 ⟨rfl, hb8⟩
  have z8 : w7.heap.size ≤ w8.heap.size := hb8.size
  have i8 := i7.step hb8
  replace o_wa := o_wa.below hb8
  replace o_wb := o_wb.below hb8
  replace o_x1 := o_x1.below hb8
  replace o_ga := o_ga.below hb8
  replace o_gb := o_gb.below hb8
  go_wp2_with fail
  refine (toF_any p1 c1 rs1 _ hn1 (hr1.below i8.below)).mono ?_
  rintro e w9 ⟨q_u, rfl, o_u, hb9⟩
  have z9 : w8.heap.size ≤ w9.heap.size := hb9.size
  have i9 := i8.step hb9
  replace o_wa := o_wa.below hb9
  replace o_wb := o_wb.below hb9
  replace o_x1 := o_x1.below hb9
  replace o_ga := o_ga.below hb9
  replace o_gb := o_gb.below hb9
  have l_u : ∀ a, q_u = some a → w8.heap.size ≤ a.block ∧ a.block < w9.heap.size := o_u.lt
  go_wp2_with fail
  refine (eqF_any _ _ _ _ rs1 rs1 _ hn1 o_x1.rd o_u.rd rfl).mono ?_
  rintro e w10 ⟨rfl, hb10⟩
  have z10 : w9.heap.size ≤ w10.heap.size := hb10.size
  have i10 := i9.step hb10
  replace o_wa := o_wa.below hb10
  replace o_wb := o_wb.below hb10
  replace o_x1 := o_x1.below hb10
  replace o_ga := o_ga.below hb10
  replace o_gb := o_gb.below hb10
  replace o_u := o_u.below hb10
  clear o_u l_u
  go_wp2_with fail
  refine (mark_at _ _ _ _ (1) (by omega) _ _ hn1 (by omega) o_x1).mono ?_
  rintro e w11 ⟨rfl, o_x1', hg11⟩
  have z11 : w10.heap.size ≤ w11.heap.size := hg11.size
  have i11 := i10.gb hg11 (fun a ha => by have h1 := l_x1 a ha; have h2 := i0.size; omega)
  replace o_wa := o_wa.gb hg11 (sep l_wa l_x1 (by omega))
  replace o_wb := o_wb.gb hg11 (sep l_wb l_x1 (by omega))
  replace o_ga := o_ga.gb hg11 (sep l_ga l_x1 (by omega))
  replace o_gb := o_gb.gb hg11 (sep l_gb l_x1 (by omega))
  clear o_x1
  have o_x1 := o_x1'
  clear o_x1'
  clear o_x1 l_x1
  go_wp2_with fail
  refine (eqF_any _ _ _ _ rs_ga rs_wa _ e_ga o_ga.rd o_wa.rd (v_ga.trans v_wa.symm)).mono ?_
  rintro e w12 ⟨rfl, hb12⟩
  have z12 : w11.heap.size ≤ w12.heap.size := hb12.size
  have i12 := i11.step hb12
  replace o_wa := o_wa.below hb12
  replace o_wb := o_wb.below hb12
  replace o_ga := o_ga.below hb12
  replace o_gb := o_gb.below hb12
  go_wp2_with fail
  refine (eqF_any _ _ _ _ rs_gb rs_wb _ e_gb o_gb.rd o_wb.rd (v_gb.trans v_wb.symm)).mono ?_
  rintro e w13 ⟨rfl, hb13⟩
  have z13 : w12.heap.size ≤ w13.heap.size := hb13.size
  have i13 := i12.step hb13
  replace o_wa := o_wa.below hb13
  replace o_wb := o_wb.below hb13
  replace o_ga := o_ga.below hb13
  replace o_gb := o_gb.below hb13
  go_wp2_with fail
  refine (mark_at _ _ _ _ (1) (by omega) _ _ e_ga (by omega) o_ga).mono ?_
  rintro e w14 ⟨rfl, o_ga', hg14⟩
  have z14 : w13.heap.size ≤ w14.heap.size := hg14.size
  have i14 := i13.gb hg14 (fun a ha => by have h1 := l_ga a ha; have h2 := i0.size; omega)
  replace o_wa := o_wa.gb hg14 (sep l_wa l_ga (by omega))
  replace o_wb := o_wb.gb hg14 (sep l_wb l_ga (by omega))
  replace o_gb := o_gb.gb hg14 (sep_of' dj_g)
  clear o_ga
  have o_ga := o_ga'
  clear o_ga'
  go_wp2_with fail
  refine (mark_at _ _ _ _ (1 + rs_ga.length) (by omega) _ _ e_gb (by omega) o_gb).mono ?_
  rintro e w15 ⟨rfl, o_gb', hg15⟩
  have z15 : w14.heap.size ≤ w15.heap.size := hg15.size
  have i15 := i14.gb hg15 (fun a ha => by have h1 := l_gb a ha; have h2 := i0.size; omega)
  replace o_wa := o_wa.gb hg15 (sep l_wa l_gb (by omega))
  replace o_wb := o_wb.gb hg15 (sep l_wb l_gb (by omega))
  replace o_ga := o_ga.gb hg15 (sep_of dj_g)
  clear o_gb
  have o_gb := o_gb'
  clear o_gb'
  go_wp2_with fail
  refine (held_at _ _ _ (1) _ (by omega) _ e_ga (by omega) o_ga.rd).mono ?_
  rintro e w16 ⟨rfl, hb16⟩
  have z16 : w15.heap.size ≤ w16.heap.size := hb16.size
  have i16 := i15.step hb16
  replace o_wa := o_wa.below hb16
  replace o_wb := o_wb.below hb16
  replace o_ga := o_ga.below hb16
  replace o_gb := o_gb.below hb16
  go_wp2_with fail
  refine (held_at _ _ _ (1 + rs_ga.length) _ (by omega) _ e_gb (by omega) o_gb.rd).mono ?_
  rintro e w17 ⟨rfl, hb17⟩
  have z17 : w16.heap.size ≤ w17.heap.size := hb17.size
  have i17 := i16.step hb17
  replace o_wa := o_wa.below hb17
  replace o_wb := o_wb.below hb17
  replace o_ga := o_ga.below hb17
  replace o_gb := o_gb.below hb17
  have ca := i17.c0
  have cb := i17.c1
  go_wp2_with fail
  clear ca cb
  refine (toGrid_any W H _).mono ?_
  rintro e w18 ⟨rfl, hb18⟩
  have z18 : w17.heap.size ≤ w18.heap.size := hb18.size
  have i18 := i17.step hb18
  replace o_wa := o_wa.below hb18
  replace o_wb := o_wb.below hb18
  replace o_ga := o_ga.below hb18
  replace o_gb := o_gb.below hb18
  go_wp2_with fail
  refine (toF_any p1 c1 rs1 _ hn1 (hr1.below i18.below)).mono ?_
  rintro e w19 ⟨q_t1, rfl, o_t1, hb19⟩
  have z19 : w18.heap.size ≤ w19.heap.size := hb19.size
  have i19 := i18.step hb19
  replace o_wa := o_wa.below hb19
  replace o_wb := o_wb.below hb19
  replace o_ga := o_ga.below hb19
  replace o_gb := o_gb.below hb19
  have l_t1 : ∀ a, q_t1 = some a → w18.heap.size ≤ a.block ∧ a.block < w19.heap.size := o_t1.lt
  go_wp2_with fail
  refine (impl_any W H _ _ rs1 _ hn1 o_t1).mono ?_
  rintro e w20 ⟨q_ha, d_ha, rs_ha, q_hb, d_hb, rs_hb, rfl, o_ha, v_ha, e_ha, o_hb, v_hb, e_hb, dj_h, hb20⟩
  have z20 : w19.heap.size ≤ w20.heap.size := hb20.size
  have i20 := i19.step hb20
  replace o_wa := o_wa.below hb20
  replace o_wb := o_wb.below hb20
  replace o_ga := o_ga.below hb20
  replace o_gb := o_gb.below hb20
  replace o_t1 := o_t1.below hb20
  have l_ha : ∀ a, q_ha = some a → w19.heap.size ≤ a.block ∧ a.block < w20.heap.size := o_ha.lt
  have l_hb : ∀ a, q_hb = some a → w19.heap.size ≤ a.block ∧ a.block < w20.heap.size := o_hb.lt
  clear o_t1 l_t1
  go_wp2_with fail
  refine (eqF_any _ _ _ _ rs_ha rs_wa _ e_ha o_ha.rd o_wa.rd (v_ha.trans v_wa.symm)).mono ?_
  rintro e w21 ⟨rfl, hb21⟩
  have z21 : w20.heap.size ≤ w21.heap.size := hb21.size
  have i21 := i20.step hb21
  replace o_wa := o_wa.below hb21
  replace o_wb := o_wb.below hb21
  replace o_ga := o_ga.below hb21
  replace o_gb := o_gb.below hb21
  replace o_ha := o_ha.below hb21
  replace o_hb := o_hb.below hb21
  go_wp2_with fail
  refine (eqF_any _ _ _ _ rs_hb rs_wb _ e_hb o_hb.rd o_wb.rd (v_hb.trans v_wb.symm)).mono ?_
  rintro e w22 ⟨rfl, hb22⟩
  have z22 : w21.heap.size ≤ w22.heap.size := hb22.size
  have i22 := i21.step hb22
  replace o_wa := o_wa.below hb22
  replace o_wb := o_wb.below hb22
  replace o_ga := o_ga.below hb22
  replace o_gb := o_gb.below hb22
  replace o_ha := o_ha.below hb22
  replace o_hb := o_hb.below hb22
  go_wp2_with fail
  refine (held_at _ _ _ (1) _ (by omega) _ e_ga (by omega) o_ga.rd).mono ?_
  rintro e w23 ⟨rfl, hb23⟩
  have z23 : w22.heap.size ≤ w23.heap.size := hb23.size
  have i23 := i22.step hb23
  replace o_wa := o_wa.below hb23
  replace o_wb := o_wb.below hb23
  replace o_ga := o_ga.below hb23
  replace o_gb := o_gb.below hb23
  replace o_ha := o_ha.below hb23
  replace o_hb := o_hb.below hb23
  go_wp2_with fail
  refine (held_at _ _ _ (1 + rs_ga.length) _ (by omega) _ e_gb (by omega) o_gb.rd).mono ?_
  rintro e w24 ⟨rfl, hb24⟩
  have z24 : w23.heap.size ≤ w24.heap.size := hb24.size
  have i24 := i23.step hb24
  replace o_wa := o_wa.below hb24
  replace o_wb := o_wb.below hb24
  replace o_ga := o_ga.below hb24
  replace o_gb := o_gb.below hb24
  replace o_ha := o_ha.below hb24
  replace o_hb := o_hb.below hb24
  go_wp2
  go_ret
  exact ⟨rfl, i24.below⟩

set_option maxHeartbeats 1000000 in
theorem walk_out1 (W H : Int) (p1 : Option Addr) (c1 : Nat) (rs1 : List Nat) (w : World)  (hn1 : 1048576 < rs1.length) (hm1 : rs1.length ≤ 9223372036854775807) :
    Calls Try.prog 3 #[.agg #[.int .i64 W, .int .i64 H], .slice p1 rs1.length c1] w fun e w' => e = .returned (.bool true) ∧ Below w.heap.size w w' := by
  have i0 := Inv.start w W H
  go_enter Try.func3, Try.ntmps3
  go_wp2
  go_ret
  exact ⟨rfl, i0.below⟩

theorem walk (W H : Int) (_wW : (Lit.int .i64 W).wf = true) (_wH : (Lit.int .i64 H).wf = true) (p1 : Option Addr) (c1 : Nat) (rs1 : List Nat) (w : World) (hr1 : Rd w p1 rs1) (hm1 : rs1.length ≤ 9223372036854775807) :
    Calls Try.prog 3 #[.agg #[.int .i64 W, .int .i64 H], .slice p1 rs1.length c1] w fun e w' => e = .returned (.bool true) ∧ Below w.heap.size w w' := by
  by_cases hn1 : rs1.length ≤ 1048576
  · skip
    exact walk_of W H p1 c1 rs1 w hr1 hn1
  · exact walk_out1 W H p1 c1 rs1 w  (by omega) hm1

/-! ### From the walk to the statement -/
set_option maxRecDepth 100000 in
theorem lifted (os : Os) (started : os.Started) (H : Type) (enc : TypeId × Value → H) :
    ReturnsInHanded {} Try.checked os 3 .any (Rows.fnExactFieldsOfSpec.pre6 enc Try.prog Try.f3 Rows.fnExactFieldsOfRow.domain false) (Rows.fnExactFieldsOfSpec.post enc Try.prog Try.f3 false true false false) := by
  refine returnsInHanded_of_change (C := Try.checked) own started (by kernel_rfl) Try.func3
    (ChangeSpec.witness6 (enc := enc) (C := Try.checked) false ⟨#[], #[.agg #[.int .i64 0, .int .i64 0], .slice none 0 0], []⟩ 8 (by kernel_rfl) (by kernel_rfl) (by kernel_rfl) (by kernel_rfl)) ?_
  intro W base args ds gs before hval0 hW hcnd _
  have hval : ∀ (j : Nat) t v, Try.f3.params[j]? = some t → args[j]? = some v → Value.okWide Try.prog W .any base t v := hval0
  have hW' := hW
  obtain ⟨p, q, hA0, hV, rfl, hfz, hnd⟩ := hW
  have hA : DataW.TrodAll enc Try.prog W 0 (fun _ => true) true Try.f3.params.toList args.toList ds p := hA0
  rw [Try.params3] at hA hval
  obtain ⟨v0, vs0, d0, ds0, p0, q0, hargs, rfl, rfl, h0, r0⟩ := trodAll_cons hA
  obtain ⟨v1, vs1, d1, ds1, p1, q1, rfl, rfl, rfl, h1, r1⟩ := trodAll_cons r0
  obtain ⟨rfl, rfl, rfl⟩ := trodAll_nil r1
  obtain rfl : args = #[v0, v1] := by cases args; simp_all
  obtain ⟨rfl, rfl⟩ := trodVars_none hV
  obtain ⟨c0a, c0b, y0a, y0b, m0, rfl, _, _, hy0a, hy0b⟩ := open_agg2 Try.underlying23 (by kernel_rfl) cellsGrid (hval 0 23 v0 rfl rfl) h0
  obtain ⟨gW0, e0a, _, wW0⟩ := DataW.trod_int Try.underlying2 hy0a
  obtain ⟨gH0, e0b, _, wH0⟩ := DataW.trod_int Try.underlying2 hy0b
  simp only [List.cons.injEq, and_true] at e0a e0b
  subst e0a e0b
  obtain ⟨a1, c1, rs1, rfl, hr1, hm1⟩ := open_floats Try.underlying24 Try.underlying38 cellsF32 (hval 1 24 v1 rfl rfl) h1
  refine (walk gW0 gH0 wW0 wH0 a1 c1 rs1 W hr1 hm1).mono fun e W' ⟨he, hb⟩ => ?_
  subst he
  exact ⟨_, rfl, law_post laid Try.underlying4 (by kernel_rfl) (by rw [Try.params3]; intro t ht; simp only [List.mem_cons, List.not_mem_nil, or_false] at ht; rcases ht with rfl | rfl <;> exact ⟨by kernel_rfl, of_decide_eq_true (by kernel_rfl)⟩) rfl rfl hW' hb⟩

/-- The statement. -/
theorem proved : Rows.FnExactFieldsOfSaid :=
  OpenClaim.holds_of_wide 3 Try.f3 rfl rfl rfl rfl rfl rfl rfl ⟨rfl, rfl, rfl, rfl, rfl⟩ rfl rfl rfl rfl rfl (by kernel_rfl) Try.func3 (by kernel_rfl)
    (of_decide_eq_true (by kernel_rfl)) (by unfold Func.isWrapper; first | (rw [if_pos (by decide +kernel)]; kernel_rfl) | (rw [if_neg (by decide +kernel)]; exact ⟨rfl, rfl⟩))
    (fun os started H enc _ => lifted os started H enc)
#print axioms proved

end Go.Proofs.Ytdafcgimkiepnaa.FieldsOf
