/-
  The law FnExactSpringField returns true for every argument (the statement FnExactSpringFieldSaid): the SpringField of the program and that of the reference agree.
  Conditions: none beyond those of the given statement.
-/
import Derived.Test.YtkkcjpldldhcgaaSpring
namespace Go.Proofs.Ytkkcjpldldhcgaa.SpringF
open Go Go.RowKit Go.ChangeShapes Go.WideShapes Go.ChangeAt Go.Joins Go.Proofs.Ytkkcjpldldhcgaa.Fl Go.Proofs.Ytkkcjpldldhcgaa.Reg Go.Proofs.Ytkkcjpldldhcgaa.Step Go.Proofs.Ytkkcjpldldhcgaa.Mem Go.Proofs.Ytkkcjpldldhcgaa.Same Go.Proofs.Ytkkcjpldldhcgaa.Help Go.Proofs.Ytkkcjpldldhcgaa.Grid Go.Proofs.Ytkkcjpldldhcgaa.App Go.Proofs.Ytkkcjpldldhcgaa.Level Go.Proofs.Ytkkcjpldldhcgaa.Law Go.Proofs.Ytkkcjpldldhcgaa.Fin Go.Proofs.Ytkkcjpldldhcgaa.Spring

def okS (W H : Int) (st : Option Nat) : Bool := vgB W H && finv .f32 st
def outB (W H : Int) (st : Option Nat) : Bool := okS W H st && spOk W.toNat H.toNat (W.toNat * H.toNat) st
def outX (W H : Int) (st : Option Nat) : List (Option Nat) := if outB W H st = true then (List.range (W.toNat * H.toNat)).map (spA W.toNat st) else []
def outY (W H : Int) (st : Option Nat) : List (Option Nat) := if outB W H st = true then (List.range (W.toNat * H.toNat)).map (spB W.toNat H.toNat st) else []

set_option maxHeartbeats 1000000 in
theorem spec_bad (W H : Int) (b : Nat) (w : World) (h : okS W H (vf .f32 b) = false) :
    Calls Try.prog 20 #[.agg #[.int .i64 W, .int .i64 H], .float .f32 b] w fun e w' => e = .returned (.tuple #[.slice none 0 0, .slice none 0 0, .bool false]) ∧ Below w.heap.size w w' := by
  have bA : Below w.heap.size w (w.alloc (.cells #[.int .i64 W, .int .i64 H] 34)) := (Below.refl _ _).alloc (Nat.le_refl _) _
  cases hv : vgB W H
  · go_enter Try.func20, Try.ntmps20
    go_wp2_with fail
    refine (l02Is_any w.heap.size W H _ (by simp) (by simp)).mono ?_
    rw [hv]
    rintro e w1 ⟨rfl, rfl⟩
    clear hv h
    go_wp2
    go_ret3
    exact ⟨rfl, bA⟩
  · have hf : finv .f32 (vf .f32 b) = false := by simpa [okS, hv] using h
    go_enter Try.func20, Try.ntmps20
    go_wp2_with fail
    refine (l02Is_any w.heap.size W H _ (by simp) (by simp)).mono ?_
    rw [hv]
    rintro e w1 ⟨rfl, rfl⟩
    go_wp2_with fail
    refine (l01Finite_any b _).mono ?_
    rw [hf]
    rintro e w1 ⟨rfl, hb⟩
    clear hv hf h
    go_wp2
    go_ret3
    exact ⟨rfl, bA.trans (hb.mono (by simp))⟩

set_option maxHeartbeats 1000000 in
theorem impl_bad (W H : Int) (b : Nat) (w : World) (h : okS W H (vf .f32 b) = false) :
    Calls Try.prog 21 #[.agg #[.int .i64 W, .int .i64 H], .float .f32 b] w fun e w' => e = .returned (.tuple #[.slice none 0 0, .slice none 0 0, .bool false]) ∧ Below w.heap.size w w' := by
  have bA : Below w.heap.size w (w.alloc (.cells #[.int .i64 W, .int .i64 H] 34)) := (Below.refl _ _).alloc (Nat.le_refl _) _
  cases hv : vgB W H
  · go_enter Try.func21, Try.ntmps21
    go_wp2_with fail
    refine (ValidGrid_any W H _).mono ?_
    rw [hv]
    rintro e w1 ⟨rfl, hb⟩
    clear hv h
    go_wp2
    go_ret3
    exact ⟨rfl, bA.trans (hb.mono (by simp))⟩
  · have hf : finv .f32 (vf .f32 b) = false := by simpa [okS, hv] using h
    go_enter Try.func21, Try.ntmps21
    go_wp2_with fail
    refine (ValidGrid_any W H _).mono ?_
    rw [hv]
    rintro e w1 ⟨rfl, hb⟩
    go_wp2_with fail
    refine (IsFinite_any b _).mono ?_
    rw [hf]
    rintro e w2 ⟨rfl, hb2⟩
    clear hv hf h
    go_wp2
    go_ret3
    exact ⟨rfl, bA.trans ((hb.trans (hb2.mono hb.size)).mono (by simp))⟩

theorem join {F : FuncId} (W H : Int) (b : Nat) (w : World)
    (hbad : okS W H (vf .f32 b) = false → Calls Try.prog F #[.agg #[.int .i64 W, .int .i64 H], .float .f32 b] w fun e w' => e = .returned (.tuple #[.slice none 0 0, .slice none 0 0, .bool false]) ∧ Below w.heap.size w w')
    (hgood : ∀ W H : Nat, 4 ≤ W → W ≤ 16 → 4 ≤ H → H ≤ 16 → vgB W H = true → finv .f32 (vf .f32 b) = true → Calls Try.prog F #[.agg #[.int .i64 (W : Nat), .int .i64 (H : Nat)], .float .f32 b] w fun e w' => SpBack w w' e W H (W * H) (vf .f32 b)) :
    Calls Try.prog F #[.agg #[.int .i64 W, .int .i64 H], .float .f32 b] w fun e w' => BackTT w w' e (outB W H (vf .f32 b)) (outX W H (vf .f32 b)) (outY W H (vf .f32 b)) := by
  unfold outX outY outB
  cases h : okS W H (vf .f32 b)
  · refine (hbad h).mono ?_
    rintro e w' ⟨rfl, hb⟩
    simpa using BackTT.none hb
  · have h' : vgB W H = true ∧ finv .f32 (vf .f32 b) = true := by simpa [okS] using h
    obtain ⟨h1, h2, h3, h4⟩ := vgB_spec h'.1
    obtain ⟨W, rfl⟩ : ∃ n : Nat, W = n := ⟨W.toNat, by omega⟩
    obtain ⟨H, rfl⟩ : ∃ n : Nat, H = n := ⟨H.toNat, by omega⟩
    refine (hgood W H (by omega) (by omega) (by omega) (by omega) h'.1 h'.2).mono ?_
    intro e w' hh
    simpa [SpBack] using hh
theorem spec_any (W H : Int) (b : Nat) (w : World) :
    Calls Try.prog 20 #[.agg #[.int .i64 W, .int .i64 H], .float .f32 b] w fun e w' => BackTT w w' e (outB W H (vf .f32 b)) (outX W H (vf .f32 b)) (outY W H (vf .f32 b)) :=
  join W H b w (spec_bad W H b w) (fun W H a1 a2 a3 a4 a5 a6 => spec_in W H _ rfl a1 a2 a3 a4 a5 b a6 w)
theorem impl_any (W H : Int) (b : Nat) (w : World) :
    Calls Try.prog 21 #[.agg #[.int .i64 W, .int .i64 H], .float .f32 b] w fun e w' => BackTT w w' e (outB W H (vf .f32 b)) (outX W H (vf .f32 b)) (outY W H (vf .f32 b)) :=
  join W H b w (impl_bad W H b w) (fun W H a1 a2 a3 a4 a5 a6 => impl_in W H _ rfl a1 a2 a3 a4 a5 b a6 w)
set_option maxHeartbeats 4000000 in
set_option maxRecDepth 100000 in
theorem walk_of (W H : Int) (b1 : Nat)  (w : World)  :
    Calls Try.prog 6 #[.agg #[.int .i64 W, .int .i64 H], .float .f32 b1] w fun e w' => e = .returned (.bool true) ∧ Below w.heap.size w w' := by
  have i0 := Inv.start w W H
  go_enter Try.func6, Try.ntmps6
  have ca := i0.c0
  have cb := i0.c1
  go_wp2_with fail
  clear ca cb
  refine (toGrid_any W H _).mono ?_
  rintro e w1 ⟨rfl, hb1⟩
  have z1 : (w.alloc (.cells #[.int .i64 W, .int .i64 H] 31)).heap.size ≤ w1.heap.size := hb1.size
  have i1 := i0.step hb1
  go_wp2_with fail
  refine (spec_any W H b1 _).mono ?_
  rintro e w2 ⟨q_wa, d_wa, rs_wa, q_wb, d_wb, rs_wb, rfl, o_wa, v_wa, e_wa, o_wb, v_wb, e_wb, dj_w, hb2⟩
  have z2 : w1.heap.size ≤ w2.heap.size := hb2.size
  have i2 := i1.step hb2
  have l_wa : ∀ a, q_wa = some a → w1.heap.size ≤ a.block ∧ a.block < w2.heap.size := o_wa.lt
  have l_wb : ∀ a, q_wb = some a → w1.heap.size ≤ a.block ∧ a.block < w2.heap.size := o_wb.lt
  have ca := i2.c0
  have cb := i2.c1
  go_wp2_with fail
  clear ca cb
  refine (toGrid_any W H _).mono ?_
  rintro e w3 ⟨rfl, hb3⟩
  have z3 : w2.heap.size ≤ w3.heap.size := hb3.size
  have i3 := i2.step hb3
  replace o_wa := o_wa.below hb3
  replace o_wb := o_wb.below hb3
  go_wp2_with fail
  refine (impl_any W H b1 _).mono ?_
  rintro e w4 ⟨q_ga, d_ga, rs_ga, q_gb, d_gb, rs_gb, rfl, o_ga, v_ga, e_ga, o_gb, v_gb, e_gb, dj_g, hb4⟩
  have z4 : w3.heap.size ≤ w4.heap.size := hb4.size
  have i4 := i3.step hb4
  replace o_wa := o_wa.below hb4
  replace o_wb := o_wb.below hb4
  have l_ga : ∀ a, q_ga = some a → w3.heap.size ≤ a.block ∧ a.block < w4.heap.size := o_ga.lt
  have l_gb : ∀ a, q_gb = some a → w3.heap.size ≤ a.block ∧ a.block < w4.heap.size := o_gb.lt
  go_wp2_with fail
  refine (eqF_any _ _ _ _ rs_ga rs_wa _ e_ga o_ga.rd o_wa.rd (v_ga.trans v_wa.symm)).mono ?_
  rintro e w5 ⟨rfl, hb5⟩
  have z5 : w4.heap.size ≤ w5.heap.size := hb5.size
  have i5 := i4.step hb5
  replace o_wa := o_wa.below hb5
  replace o_wb := o_wb.below hb5
  replace o_ga := o_ga.below hb5
  replace o_gb := o_gb.below hb5
  go_wp2_with fail
  refine (eqF_any _ _ _ _ rs_gb rs_wb _ e_gb o_gb.rd o_wb.rd (v_gb.trans v_wb.symm)).mono ?_
  rintro e w6 ⟨rfl, hb6⟩
  have z6 : w5.heap.size ≤ w6.heap.size := hb6.size
  have i6 := i5.step hb6
  replace o_wa := o_wa.below hb6
  replace o_wb := o_wb.below hb6
  replace o_ga := o_ga.below hb6
  replace o_gb := o_gb.below hb6
  go_wp2_with fail
  refine (mark_at _ _ _ _ (1) (by omega) _ _ e_ga (by omega) o_ga).mono ?_
  rintro e w7 ⟨rfl, o_ga', hg7⟩
  have z7 : w6.heap.size ≤ w7.heap.size := hg7.size
  have i7 := i6.gb hg7 (fun a ha => by have h1 := l_ga a ha; have h2 := i0.size; omega)
  replace o_wa := o_wa.gb hg7 (sep l_wa l_ga (by omega))
  replace o_wb := o_wb.gb hg7 (sep l_wb l_ga (by omega))
  replace o_gb := o_gb.gb hg7 (sep_of' dj_g)
  clear o_ga
  have o_ga := o_ga'
  clear o_ga'
  go_wp2_with fail
  refine (mark_at _ _ _ _ (1 + rs_ga.length) (by omega) _ _ e_gb (by omega) o_gb).mono ?_
  rintro e w8 ⟨rfl, o_gb', hg8⟩
  have z8 : w7.heap.size ≤ w8.heap.size := hg8.size
  have i8 := i7.gb hg8 (fun a ha => by have h1 := l_gb a ha; have h2 := i0.size; omega)
  replace o_wa := o_wa.gb hg8 (sep l_wa l_gb (by omega))
  replace o_wb := o_wb.gb hg8 (sep l_wb l_gb (by omega))
  replace o_ga := o_ga.gb hg8 (sep_of dj_g)
  clear o_gb
  have o_gb := o_gb'
  clear o_gb'
  go_wp2_with fail
  refine (held_at _ _ _ (1) _ (by omega) _ e_ga (by omega) o_ga.rd).mono ?_
  rintro e w9 ⟨rfl, hb9⟩
  have z9 : w8.heap.size ≤ w9.heap.size := hb9.size
  have i9 := i8.step hb9
  replace o_wa := o_wa.below hb9
  replace o_wb := o_wb.below hb9
  replace o_ga := o_ga.below hb9
  replace o_gb := o_gb.below hb9
  go_wp2_with fail
  refine (held_at _ _ _ (1 + rs_ga.length) _ (by omega) _ e_gb (by omega) o_gb.rd).mono ?_
  rintro e w10 ⟨rfl, hb10⟩
  have z10 : w9.heap.size ≤ w10.heap.size := hb10.size
  have i10 := i9.step hb10
  replace o_wa := o_wa.below hb10
  replace o_wb := o_wb.below hb10
  replace o_ga := o_ga.below hb10
  replace o_gb := o_gb.below hb10
  have ca := i10.c0
  have cb := i10.c1
  go_wp2_with fail
  clear ca cb
  refine (toGrid_any W H _).mono ?_
  rintro e w11 ⟨rfl, hb11⟩
  have z11 : w10.heap.size ≤ w11.heap.size := hb11.size
  have i11 := i10.step hb11
  replace o_wa := o_wa.below hb11
  replace o_wb := o_wb.below hb11
  replace o_ga := o_ga.below hb11
  replace o_gb := o_gb.below hb11
  go_wp2_with fail
  refine (impl_any W H b1 _).mono ?_
  rintro e w12 ⟨q_ha, d_ha, rs_ha, q_hb, d_hb, rs_hb, rfl, o_ha, v_ha, e_ha, o_hb, v_hb, e_hb, dj_h, hb12⟩
  have z12 : w11.heap.size ≤ w12.heap.size := hb12.size
  have i12 := i11.step hb12
  replace o_wa := o_wa.below hb12
  replace o_wb := o_wb.below hb12
  replace o_ga := o_ga.below hb12
  replace o_gb := o_gb.below hb12
  have l_ha : ∀ a, q_ha = some a → w11.heap.size ≤ a.block ∧ a.block < w12.heap.size := o_ha.lt
  have l_hb : ∀ a, q_hb = some a → w11.heap.size ≤ a.block ∧ a.block < w12.heap.size := o_hb.lt
  go_wp2_with fail
  refine (eqF_any _ _ _ _ rs_ha rs_wa _ e_ha o_ha.rd o_wa.rd (v_ha.trans v_wa.symm)).mono ?_
  rintro e w13 ⟨rfl, hb13⟩
  have z13 : w12.heap.size ≤ w13.heap.size := hb13.size
  have i13 := i12.step hb13
  replace o_wa := o_wa.below hb13
  replace o_wb := o_wb.below hb13
  replace o_ga := o_ga.below hb13
  replace o_gb := o_gb.below hb13
  replace o_ha := o_ha.below hb13
  replace o_hb := o_hb.below hb13
  go_wp2_with fail
  refine (eqF_any _ _ _ _ rs_hb rs_wb _ e_hb o_hb.rd o_wb.rd (v_hb.trans v_wb.symm)).mono ?_
  rintro e w14 ⟨rfl, hb14⟩
  have z14 : w13.heap.size ≤ w14.heap.size := hb14.size
  have i14 := i13.step hb14
  replace o_wa := o_wa.below hb14
  replace o_wb := o_wb.below hb14
  replace o_ga := o_ga.below hb14
  replace o_gb := o_gb.below hb14
  replace o_ha := o_ha.below hb14
  replace o_hb := o_hb.below hb14
  go_wp2_with fail
  refine (held_at _ _ _ (1) _ (by omega) _ e_ga (by omega) o_ga.rd).mono ?_
  rintro e w15 ⟨rfl, hb15⟩
  have z15 : w14.heap.size ≤ w15.heap.size := hb15.size
  have i15 := i14.step hb15
  replace o_wa := o_wa.below hb15
  replace o_wb := o_wb.below hb15
  replace o_ga := o_ga.below hb15
  replace o_gb := o_gb.below hb15
  replace o_ha := o_ha.below hb15
  replace o_hb := o_hb.below hb15
  go_wp2_with fail
  refine (held_at _ _ _ (1 + rs_ga.length) _ (by omega) _ e_gb (by omega) o_gb.rd).mono ?_
  rintro e w16 ⟨rfl, hb16⟩
  have z16 : w15.heap.size ≤ w16.heap.size := hb16.size
  have i16 := i15.step hb16
  replace o_wa := o_wa.below hb16
  replace o_wb := o_wb.below hb16
  replace o_ga := o_ga.below hb16
  replace o_gb := o_gb.below hb16
  replace o_ha := o_ha.below hb16
  replace o_hb := o_hb.below hb16
  go_wp2
  go_ret
  exact ⟨rfl, i16.below⟩

theorem walk (W H : Int) (_wW : (Lit.int .i64 W).wf = true) (_wH : (Lit.int .i64 H).wf = true) (b1 : Nat) (w : World)  :
    Calls Try.prog 6 #[.agg #[.int .i64 W, .int .i64 H], .float .f32 b1] w fun e w' => e = .returned (.bool true) ∧ Below w.heap.size w w' := by
  exact walk_of W H b1 w 

/-! ### From the walk to the statement -/
set_option maxRecDepth 100000 in
theorem lifted (os : Os) (started : os.Started) (H : Type) (enc : TypeId × Value → H) :
    ReturnsInHanded {} Try.checked os 6 .any (Rows.fnExactSpringFieldSpec.pre6 enc Try.prog Try.f6 Rows.fnExactSpringFieldRow.domain false) (Rows.fnExactSpringFieldSpec.post enc Try.prog Try.f6 false true false false) := by
  refine returnsInHanded_of_change (C := Try.checked) own started (by kernel_rfl) Try.func6
    (ChangeSpec.witness6 (enc := enc) (C := Try.checked) false ⟨#[], #[.agg #[.int .i64 0, .int .i64 0], .float .f32 0], []⟩ 8 (by kernel_rfl) (by kernel_rfl) (by kernel_rfl) (by kernel_rfl)) ?_
  intro W base args ds gs before hval0 hW hcnd _
  have hval : ∀ (j : Nat) t v, Try.f6.params[j]? = some t → args[j]? = some v → Value.okWide Try.prog W .any base t v := hval0
  have hW' := hW
  obtain ⟨p, q, hA0, hV, rfl, hfz, hnd⟩ := hW
  have hA : DataW.TrodAll enc Try.prog W 0 (fun _ => true) true Try.f6.params.toList args.toList ds p := hA0
  rw [Try.params6] at hA hval
  obtain ⟨v0, vs0, d0, ds0, p0, q0, hargs, rfl, rfl, h0, r0⟩ := trodAll_cons hA
  obtain ⟨v1, vs1, d1, ds1, p1, q1, rfl, rfl, rfl, h1, r1⟩ := trodAll_cons r0
  obtain ⟨rfl, rfl, rfl⟩ := trodAll_nil r1
  obtain rfl : args = #[v0, v1] := by cases args; simp_all
  obtain ⟨rfl, rfl⟩ := trodVars_none hV
  obtain ⟨c0a, c0b, y0a, y0b, m0, rfl, _, _, hy0a, hy0b⟩ := open_agg2 Try.underlying31 (by kernel_rfl) cellsGrid (hval 0 31 v0 rfl rfl) h0
  obtain ⟨gW0, e0a, _, wW0⟩ := DataW.trod_int Try.underlying2 hy0a
  obtain ⟨gH0, e0b, _, wH0⟩ := DataW.trod_int Try.underlying2 hy0b
  simp only [List.cons.injEq, and_true] at e0a e0b
  subst e0a e0b
  obtain ⟨b1, rfl, _, _, _⟩ := open_float Try.underlying25 (hval 1 25 v1 rfl rfl) h1
  refine (walk gW0 gH0 wW0 wH0 b1 W).mono fun e W' ⟨he, hb⟩ => ?_
  subst he
  exact ⟨_, rfl, law_post laid Try.underlying4 (by kernel_rfl) (by rw [Try.params6]; intro t ht; simp only [List.mem_cons, List.not_mem_nil, or_false] at ht; rcases ht with rfl | rfl <;> exact ⟨by kernel_rfl, of_decide_eq_true (by kernel_rfl)⟩) rfl rfl hW' hb⟩

/-- The statement. -/
theorem proved : Rows.FnExactSpringFieldSaid :=
  OpenClaim.holds_of_wide 6 Try.f6 rfl rfl rfl rfl rfl rfl rfl ⟨rfl, rfl, rfl, rfl, rfl⟩ rfl rfl rfl rfl rfl (by kernel_rfl) Try.func6 (by kernel_rfl)
    (of_decide_eq_true (by kernel_rfl)) (by unfold Func.isWrapper; first | (rw [if_pos (by decide +kernel)]; kernel_rfl) | (rw [if_neg (by decide +kernel)]; exact ⟨rfl, rfl⟩))
    (fun os started H enc _ => lifted os started H enc)
#print axioms proved

end Go.Proofs.Ytkkcjpldldhcgaa.SpringF
