/-
  The law FnExactSolvePotential returns true for every argument (the statement FnExactSolvePotentialSaid): the SolvePotential of the program and that of the reference agree.
  Conditions: none beyond those of the given statement.
-/
import Derived.Test.YtdafcgimkiepnaaSolve
import Derived.Test.YtdafcgimkiepnaaLaw
namespace Go.Proofs.Ytdafcgimkiepnaa.SolveP
open Go Go.RowKit Go.ChangeShapes Go.WideShapes Go.ChangeAt Go.Joins Go.Proofs.Ytdafcgimkiepnaa.Fl Go.Proofs.Ytdafcgimkiepnaa.Reg Go.Proofs.Ytdafcgimkiepnaa.Step Go.Proofs.Ytdafcgimkiepnaa.Mem Go.Proofs.Ytdafcgimkiepnaa.Same Go.Proofs.Ytdafcgimkiepnaa.Help Go.Proofs.Ytdafcgimkiepnaa.Grid Go.Proofs.Ytdafcgimkiepnaa.Mean Go.Proofs.Ytdafcgimkiepnaa.App Go.Proofs.Ytdafcgimkiepnaa.Level Go.Proofs.Ytdafcgimkiepnaa.Lap Go.Proofs.Ytdafcgimkiepnaa.Two Go.Proofs.Ytdafcgimkiepnaa.Sweep Go.Proofs.Ytdafcgimkiepnaa.Solve Go.Proofs.Ytdafcgimkiepnaa.Law

def okP (W H : Int) (n : Nat) (R : Int) : Bool := fitB W H n && inB R 0 60
def outP (W H : Int) (n : Nat) (R : Int) (xs : List (Option Nat)) : List (Option Nat) := if okP W H n R = true then solveF W H xs R.toNat else []

theorem rounds_nat {R : Int} (h : inB R 0 60 = true) : ∃ k : Nat, R = k ∧ k ≤ 60 := by
  simp only [inB, decide_eq_true_eq] at h
  exact ⟨R.toNat, by omega, by omega⟩

theorem isRounds_any (R : Int) (w : World) : Calls Try.prog 71 #[.int .i64 R] w fun e w' => e = .returned (.bool (inB R 0 60)) ∧ w = w' := by
  go_enter Try.func71, Try.ntmps71
  go_wp2_with (go_at_call 67; refine (within_any R 0 60 _).mono ?_; rintro e w1 ⟨rfl, rfl⟩)
  go_ret
  exact ⟨rfl, rfl⟩

set_option maxHeartbeats 800000 in
theorem spec_any (W H : Int) (p : Option Addr) (c : Nat) (rs : List Nat) (R : Int) {base : Nat} (w : World) (hn : rs.length ≤ 1048576) (how : Ow w base p c rs) :
    Calls Try.prog 38 #[.agg #[.int .i64 W, .int .i64 H], .slice p rs.length c, .int .i64 R] w fun e w' => BackT w w' e (okP W H rs.length R) (outP W H rs.length R (rs.map (vf .f32))) := by
  have hr := how.rd
  have hG0 := GI.start w W H
  have hO : Hid (outP W H rs.length R (rs.map (vf .f32)) = if okP W H rs.length R = true then solveF W H (rs.map (vf .f32)) R.toNat else []) := rfl
  rw [hO.out]
  clear hO
  cases h1 : fitB W H rs.length
  · rw [show okP W H rs.length R = false by simp [okP, h1]]
    go_enter Try.func38, Try.ntmps38
    go_wp2_with (go_at_call 46; refine (l03Fits_any _ W H p rs.length c hn _ (by simp) (by simp) (by simp)).mono ?_; rintro e w1 ⟨rfl, hb⟩)
    go_ret2
    simpa using BackT.none (hG0.step hb).below
  · cases h3 : inB R 0 60
    · rw [show okP W H rs.length R = false by simp [okP, h3]]
      go_enter Try.func38, Try.ntmps38
      go_wp2_with fail
      refine (l03Fits_any _ W H p rs.length c hn _ (by simp) (by simp) (by simp)).mono ?_
      rintro e w1 ⟨rfl, hb⟩
      have hG := hG0.step hb
      go_wp2_with fail
      refine (l00In_any R 0 60 _).mono ?_
      rintro e w3 ⟨rfl, hb3⟩
      have hb3 : Below w1.heap.size w1 w3 := by rw [hb3]; exact Below.refl _ _
      go_wp2
      go_ret2
      simpa using BackT.none (hG.step hb3).below
    · rw [show okP W H rs.length R = true by simp [okP, h1, h3], if_pos rfl]
      obtain ⟨a1, a2, a3, a4, a5⟩ := fitB_spec h1
      have hF : Hid ((rs.length : Int) = W * H) := a5
      have h0 := fitB_pos h1
      obtain ⟨k, rfl, hk⟩ := rounds_nat h3
      clear a5
      go_enter Try.func38, Try.ntmps38
      go_wp2_with fail
      refine (l03Fits_any _ W H _ rs.length c hn _ (by simp) (by simp) (by simp)).mono ?_
      rintro e w1 ⟨rfl, hb⟩
      have hG := hG0.step hb
      go_wp2_with fail
      refine (l00In_any (k : Nat) 0 60 _).mono ?_
      rintro e w3 ⟨rfl, hb3⟩
      have hb3 : Below w1.heap.size w1 w3 := by rw [hb3]; exact Below.refl _ _
      have hG3 := hG.step hb3
      go_wp2_with fail
      refine (l03Solve_any _ W H p c rs k a1 a2 a3 a4 hk hF.out h0 hn _ (by have := hG3.size; omega) hG3.c0 hG3.c1 (hr.below hG3.below)).mono ?_
      rintro e w4 ⟨q4, c4, rs4, rfl, ho4, hv4, hb4⟩
      go_wp2
      go_ret2
      exact BackT.some hG3.below ho4 hv4 (by simp [solveF, levelF]) hn hb4

set_option maxHeartbeats 800000 in
theorem impl_any (W H : Int) (p : Option Addr) (c : Nat) (rs : List Nat) (R : Int) {base : Nat} (w : World) (hn : rs.length ≤ 1048576) (how : Ow w base p c rs) :
    Calls Try.prog 39 #[.agg #[.int .i64 W, .int .i64 H], .slice p rs.length c, .int .i64 R] w fun e w' => BackT w w' e (okP W H rs.length R) (outP W H rs.length R (rs.map (vf .f32))) := by
  have hr := how.rd
  have hG0 := GI.start w W H
  have hO : Hid (outP W H rs.length R (rs.map (vf .f32)) = if okP W H rs.length R = true then solveF W H (rs.map (vf .f32)) R.toNat else []) := rfl
  rw [hO.out]
  clear hO
  cases h1 : fitB W H rs.length
  · rw [show okP W H rs.length R = false by simp [okP, h1]]
    go_enter Try.func39, Try.ntmps39
    go_wp2_with (go_at_call 48; refine (IsField_any W H p rs.length c hn _).mono ?_; rintro e w1 ⟨rfl, hb⟩)
    go_ret2
    simpa using BackT.none (hG0.step hb).below
  · cases h3 : inB R 0 60
    · rw [show okP W H rs.length R = false by simp [okP, h3]]
      go_enter Try.func39, Try.ntmps39
      go_wp2_with fail
      refine (IsField_any W H p rs.length c hn _).mono ?_
      rintro e w1 ⟨rfl, hb⟩
      have hG := hG0.step hb
      go_wp2_with fail
      refine (isRounds_any R _).mono ?_
      rintro e w3 ⟨rfl, hb3⟩
      have hb3 : Below w1.heap.size w1 w3 := by rw [hb3]; exact Below.refl _ _
      go_wp2
      go_ret2
      simpa using BackT.none (hG.step hb3).below
    · rw [show okP W H rs.length R = true by simp [okP, h1, h3], if_pos rfl]
      obtain ⟨a1, a2, a3, a4, a5⟩ := fitB_spec h1
      obtain ⟨W, rfl⟩ : ∃ n : Nat, W = n := ⟨W.toNat, by omega⟩
      obtain ⟨H, rfl⟩ : ∃ n : Nat, H = n := ⟨H.toNat, by omega⟩
      have hF : Hid (rs.length = W * H) := by
        show rs.length = W * H
        have e : ((W * H : Nat) : Int) = (W : Int) * H := by simp
        omega
      have h0 := fitB_pos h1
      obtain ⟨g, rfl, _, _, _, _⟩ := how.cells h0
      obtain ⟨k, rfl, hk⟩ := rounds_nat h3
      clear a5
      go_enter Try.func39, Try.ntmps39
      go_wp2_with fail
      refine (IsField_any W H _ rs.length c hn _).mono ?_
      rintro e w1 ⟨rfl, hb⟩
      have hG := hG0.step hb
      go_wp2_with fail
      refine (isRounds_any (k : Nat) _).mono ?_
      rintro e w3 ⟨rfl, hb3⟩
      have hb3 : Below w1.heap.size w1 w3 := by rw [hb3]; exact Below.refl _ _
      have hG3 := hG.step hb3
      have hc0 := hG3.c0
      have hc1 := hG3.c1
      go_wp2_with fail
      refine (potential_any W H g c rs k (by omega) (by omega) (by omega) (by omega) hk hF.out h0 hn _ (hr.below hG3.below)).mono ?_
      rintro e w4 ⟨q4, c4, rs4, rfl, ho4, hv4, hb4⟩
      go_wp2
      go_ret2
      exact BackT.some hG3.below ho4 hv4 (by simp [solveF, levelF]) hn hb4
set_option maxHeartbeats 4000000 in
set_option maxRecDepth 100000 in
theorem walk_of (W H : Int) (p1 : Option Addr) (c1 : Nat) (rs1 : List Nat) (x2 : Int) (_wx2 : (Lit.int .i64 x2).wf = true) (w : World) (hr1 : Rd w p1 rs1) (hn1 : rs1.length ≤ 1048576) :
    Calls Try.prog 11 #[.agg #[.int .i64 W, .int .i64 H], .slice p1 rs1.length c1, .int .i64 x2] w fun e w' => e = .returned (.bool true) ∧ Below w.heap.size w w' := by
  have i0 := Inv.start w W H
  go_enter Try.func11, Try.ntmps11
  have ca := i0.c0
  have cb := i0.c1
  go_wp2_with fail
  clear ca cb
  refine (toGrid_any W H _).mono ?_
  rintro e w1 ⟨rfl, hb1⟩
  have z1 : (w.alloc (.cells #[.int .i64 W, .int .i64 H] 23)).heap.size ≤ w1.heap.size := hb1.size
  have i1 := i0.step hb1
  go_wp2_with fail
  refine (toF_any p1 c1 rs1 _ hn1 (hr1.below i1.below)).mono ?_
  rintro e w2 ⟨q_t1, rfl, o_t1, hb2⟩
  have z2 : w1.heap.size ≤ w2.heap.size := hb2.size
  have i2 := i1.step hb2
  have l_t1 : ∀ a, q_t1 = some a → w1.heap.size ≤ a.block ∧ a.block < w2.heap.size := o_t1.lt
  go_wp2_with fail
  refine (spec_any W H _ _ rs1 x2 _ hn1 o_t1).mono ?_
  rintro e w3 ⟨q_w, d_w, rs_w, rfl, o_w, v_w, e_w, hb3⟩
  have z3 : w2.heap.size ≤ w3.heap.size := hb3.size
  have i3 := i2.step hb3
  replace o_t1 := o_t1.below hb3
  have l_w : ∀ a, q_w = some a → w2.heap.size ≤ a.block ∧ a.block < w3.heap.size := o_w.lt
  clear o_t1 l_t1
  go_wp2_with fail
  refine (toF_any p1 c1 rs1 _ hn1 (hr1.below i3.below)).mono ?_
  rintro e w4 ⟨q_x1, rfl, o_x1, hb4⟩
  have z4 : w3.heap.size ≤ w4.heap.size := hb4.size
  have i4 := i3.step hb4
  replace o_w := o_w.below hb4
  have l_x1 : ∀ a, q_x1 = some a → w3.heap.size ≤ a.block ∧ a.block < w4.heap.size := o_x1.lt
  have ca := i4.c0
  have cb := i4.c1
  go_wp2_with fail
  clear ca cb
  refine (toGrid_any W H _).mono ?_
  rintro e w5 ⟨rfl, hb5⟩
  have z5 : w4.heap.size ≤ w5.heap.size := hb5.size
  have i5 := i4.step hb5
  replace o_w := o_w.below hb5
  replace o_x1 := o_x1.below hb5
  go_wp2_with fail
  refine (impl_any W H _ _ rs1 x2 _ hn1 o_x1).mono ?_
  rintro e w6 ⟨q_g, d_g, rs_g, rfl, o_g, v_g, e_g, hb6⟩
  have z6 : w5.heap.size ≤ w6.heap.size := hb6.size
  have i6 := i5.step hb6
  replace o_w := o_w.below hb6
  replace o_x1 := o_x1.below hb6
  have l_g : ∀ a, q_g = some a → w5.heap.size ≤ a.block ∧ a.block < w6.heap.size := o_g.lt
  go_wp2_with fail
  refine (eqF_any _ _ _ _ rs_g rs_w _ e_g o_g.rd o_w.rd (v_g.trans v_w.symm)).mono ?_
  rintro e w7 ⟨rfl, hb7⟩
  have z7 : w6.heap.size ≤ w7.heap.size := hb7.size
  have i7 := i6.step hb7
  replace o_w := o_w.below hb7
  replace o_x1 := o_x1.below hb7
  replace o_g := o_g.below hb7
  go_wp2_with fail
  refine (toF_any p1 c1 rs1 _ hn1 (hr1.below i7.below)).mono ?_
  rintro e w8 ⟨q_u, rfl, o_u, hb8⟩
  have z8 : w7.heap.size ≤ w8.heap.size := hb8.size
  have i8 := i7.step hb8
  replace o_w := o_w.below hb8
  replace o_x1 := o_x1.below hb8
  replace o_g := o_g.below hb8
  have l_u : ∀ a, q_u = some a → w7.heap.size ≤ a.block ∧ a.block < w8.heap.size := o_u.lt
  go_wp2_with fail
  refine (eqF_any _ _ _ _ rs1 rs1 _ hn1 o_x1.rd o_u.rd rfl).mono ?_
  rintro e w9 ⟨rfl, hb9⟩
  have z9 : w8.heap.size ≤ w9.heap.size := hb9.size
  have i9 := i8.step hb9
  replace o_w := o_w.below hb9
  replace o_x1 := o_x1.below hb9
  replace o_g := o_g.below hb9
  replace o_u := o_u.below hb9
  clear o_u l_u
  go_wp2_with fail
  refine (mark_at _ _ _ _ (1) (by omega) _ _ hn1 (by omega) o_x1).mono ?_
  rintro e w10 ⟨rfl, o_x1', hg10⟩
  have z10 : w9.heap.size ≤ w10.heap.size := hg10.size
  have i10 := i9.gb hg10 (fun a ha => by have h1 := l_x1 a ha; have h2 := i0.size; omega)
  replace o_w := o_w.gb hg10 (sep l_w l_x1 (by omega))
  replace o_g := o_g.gb hg10 (sep l_g l_x1 (by omega))
  clear o_x1
  have o_x1 := o_x1'
  clear o_x1'
  clear o_x1 l_x1
  go_wp2_with fail
  refine (eqF_any _ _ _ _ rs_g rs_w _ e_g o_g.rd o_w.rd (v_g.trans v_w.symm)).mono ?_
  rintro e w11 ⟨rfl, hb11⟩
  have z11 : w10.heap.size ≤ w11.heap.size := hb11.size
  have i11 := i10.step hb11
  replace o_w := o_w.below hb11
  replace o_g := o_g.below hb11
  go_wp2_with fail
  refine (mark_at _ _ _ _ (1) (by omega) _ _ e_g (by omega) o_g).mono ?_
  rintro e w12 ⟨rfl, o_g', hg12⟩
  have z12 : w11.heap.size ≤ w12.heap.size := hg12.size
  have i12 := i11.gb hg12 (fun a ha => by have h1 := l_g a ha; have h2 := i0.size; omega)
  replace o_w := o_w.gb hg12 (sep l_w l_g (by omega))
  clear o_g
  have o_g := o_g'
  clear o_g'
  go_wp2_with fail
  refine (held_at _ _ _ (1) _ (by omega) _ e_g (by omega) o_g.rd).mono ?_
  rintro e w13 ⟨rfl, hb13⟩
  have z13 : w12.heap.size ≤ w13.heap.size := hb13.size
  have i13 := i12.step hb13
  replace o_w := o_w.below hb13
  replace o_g := o_g.below hb13
  have ca := i13.c0
  have cb := i13.c1
  go_wp2_with fail
  clear ca cb
  refine (toGrid_any W H _).mono ?_
  rintro e w14 ⟨rfl, hb14⟩
  have z14 : w13.heap.size ≤ w14.heap.size := hb14.size
  have i14 := i13.step hb14
  replace o_w := o_w.below hb14
  replace o_g := o_g.below hb14
  go_wp2_with fail
  refine (toF_any p1 c1 rs1 _ hn1 (hr1.below i14.below)).mono ?_
  rintro e w15 ⟨q_t1, rfl, o_t1, hb15⟩
  have z15 : w14.heap.size ≤ w15.heap.size := hb15.size
  have i15 := i14.step hb15
  replace o_w := o_w.below hb15
  replace o_g := o_g.below hb15
  have l_t1 : ∀ a, q_t1 = some a → w14.heap.size ≤ a.block ∧ a.block < w15.heap.size := o_t1.lt
  go_wp2_with fail
  refine (impl_any W H _ _ rs1 x2 _ hn1 o_t1).mono ?_
  rintro e w16 ⟨q_h, d_h, rs_h, rfl, o_h, v_h, e_h, hb16⟩
  have z16 : w15.heap.size ≤ w16.heap.size := hb16.size
  have i16 := i15.step hb16
  replace o_w := o_w.below hb16
  replace o_g := o_g.below hb16
  replace o_t1 := o_t1.below hb16
  have l_h : ∀ a, q_h = some a → w15.heap.size ≤ a.block ∧ a.block < w16.heap.size := o_h.lt
  clear o_t1 l_t1
  go_wp2_with fail
  refine (eqF_any _ _ _ _ rs_h rs_w _ e_h o_h.rd o_w.rd (v_h.trans v_w.symm)).mono ?_
  rintro e w17 ⟨rfl, hb17⟩
  have z17 : w16.heap.size ≤ w17.heap.size := hb17.size
  have i17 := i16.step hb17
  replace o_w := o_w.below hb17
  replace o_g := o_g.below hb17
  replace o_h := o_h.below hb17
  go_wp2_with fail
  refine (held_at _ _ _ (1) _ (by omega) _ e_g (by omega) o_g.rd).mono ?_
  rintro e w18 ⟨rfl, hb18⟩
  have z18 : w17.heap.size ≤ w18.heap.size := hb18.size
  have i18 := i17.step hb18
  replace o_w := o_w.below hb18
  replace o_g := o_g.below hb18
  replace o_h := o_h.below hb18
  go_wp2
  go_ret
  exact ⟨rfl, i18.below⟩

set_option maxHeartbeats 1000000 in
theorem walk_out1 (W H : Int) (p1 : Option Addr) (c1 : Nat) (rs1 : List Nat) (x2 : Int) (w : World)  (hn1 : 1048576 < rs1.length) (hm1 : rs1.length ≤ 9223372036854775807) :
    Calls Try.prog 11 #[.agg #[.int .i64 W, .int .i64 H], .slice p1 rs1.length c1, .int .i64 x2] w fun e w' => e = .returned (.bool true) ∧ Below w.heap.size w w' := by
  have i0 := Inv.start w W H
  go_enter Try.func11, Try.ntmps11
  go_wp2
  go_ret
  exact ⟨rfl, i0.below⟩

theorem walk (W H : Int) (_wW : (Lit.int .i64 W).wf = true) (_wH : (Lit.int .i64 H).wf = true) (p1 : Option Addr) (c1 : Nat) (rs1 : List Nat) (x2 : Int) (wx2 : (Lit.int .i64 x2).wf = true) (w : World) (hr1 : Rd w p1 rs1) (hm1 : rs1.length ≤ 9223372036854775807) :
    Calls Try.prog 11 #[.agg #[.int .i64 W, .int .i64 H], .slice p1 rs1.length c1, .int .i64 x2] w fun e w' => e = .returned (.bool true) ∧ Below w.heap.size w w' := by
  by_cases hn1 : rs1.length ≤ 1048576
  · skip
    exact walk_of W H p1 c1 rs1 x2 wx2 w hr1 hn1
  · exact walk_out1 W H p1 c1 rs1 x2 w  (by omega) hm1

/-! ### From the walk to the statement -/
set_option maxRecDepth 100000 in
theorem lifted (os : Os) (started : os.Started) (H : Type) (enc : TypeId × Value → H) :
    ReturnsInHanded {} Try.checked os 11 .any (Rows.fnExactSolvePotentialSpec.pre6 enc Try.prog Try.f11 Rows.fnExactSolvePotentialRow.domain false) (Rows.fnExactSolvePotentialSpec.post enc Try.prog Try.f11 false true false false) := by
  refine returnsInHanded_of_change (C := Try.checked) own started (by kernel_rfl) Try.func11
    (ChangeSpec.witness6 (enc := enc) (C := Try.checked) false ⟨#[], #[.agg #[.int .i64 0, .int .i64 0], .slice none 0 0, .int .i64 0], []⟩ 8 (by kernel_rfl) (by kernel_rfl) (by kernel_rfl) (by kernel_rfl)) ?_
  intro W base args ds gs before hval0 hW hcnd _
  have hval : ∀ (j : Nat) t v, Try.f11.params[j]? = some t → args[j]? = some v → Value.okWide Try.prog W .any base t v := hval0
  have hW' := hW
  obtain ⟨p, q, hA0, hV, rfl, hfz, hnd⟩ := hW
  have hA : DataW.TrodAll enc Try.prog W 0 (fun _ => true) true Try.f11.params.toList args.toList ds p := hA0
  rw [Try.params11] at hA hval
  obtain ⟨v0, vs0, d0, ds0, p0, q0, hargs, rfl, rfl, h0, r0⟩ := trodAll_cons hA
  obtain ⟨v1, vs1, d1, ds1, p1, q1, rfl, rfl, rfl, h1, r1⟩ := trodAll_cons r0
  obtain ⟨v2, vs2, d2, ds2, p2, q2, rfl, rfl, rfl, h2, r2⟩ := trodAll_cons r1
  obtain ⟨rfl, rfl, rfl⟩ := trodAll_nil r2
  obtain rfl : args = #[v0, v1, v2] := by cases args; simp_all
  obtain ⟨rfl, rfl⟩ := trodVars_none hV
  obtain ⟨c0a, c0b, y0a, y0b, m0, rfl, _, _, hy0a, hy0b⟩ := open_agg2 Try.underlying23 (by kernel_rfl) cellsGrid (hval 0 23 v0 rfl rfl) h0
  obtain ⟨gW0, e0a, _, wW0⟩ := DataW.trod_int Try.underlying2 hy0a
  obtain ⟨gH0, e0b, _, wH0⟩ := DataW.trod_int Try.underlying2 hy0b
  simp only [List.cons.injEq, and_true] at e0a e0b
  subst e0a e0b
  obtain ⟨a1, c1, rs1, rfl, hr1, hm1⟩ := open_floats Try.underlying24 Try.underlying38 cellsF32 (hval 1 24 v1 rfl rfl) h1
  obtain ⟨x2, rfl, _, _, wx2⟩ := open_int Try.underlying2 (hval 2 2 v2 rfl rfl) h2
  refine (walk gW0 gH0 wW0 wH0 a1 c1 rs1 x2 wx2 W hr1 hm1).mono fun e W' ⟨he, hb⟩ => ?_
  subst he
  exact ⟨_, rfl, law_post laid Try.underlying4 (by kernel_rfl) (by rw [Try.params11]; intro t ht; simp only [List.mem_cons, List.not_mem_nil, or_false] at ht; rcases ht with rfl | rfl | rfl <;> exact ⟨by kernel_rfl, of_decide_eq_true (by kernel_rfl)⟩) rfl rfl hW' hb⟩

/-- The statement. -/
theorem proved : Rows.FnExactSolvePotentialSaid :=
  OpenClaim.holds_of_wide 11 Try.f11 rfl rfl rfl rfl rfl rfl rfl ⟨rfl, rfl, rfl, rfl, rfl⟩ rfl rfl rfl rfl rfl (by kernel_rfl) Try.func11 (by kernel_rfl)
    (of_decide_eq_true (by kernel_rfl)) (by unfold Func.isWrapper; first | (rw [if_pos (by decide +kernel)]; kernel_rfl) | (rw [if_neg (by decide +kernel)]; exact ⟨rfl, rfl⟩))
    (fun os started H enc _ => lifted os started H enc)
#print axioms proved

end Go.Proofs.Ytdafcgimkiepnaa.SolveP
