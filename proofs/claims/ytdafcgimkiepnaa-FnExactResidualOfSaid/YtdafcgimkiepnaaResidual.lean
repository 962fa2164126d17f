/-
  The law FnExactResidualOf returns true for every argument (the statement FnExactResidualOfSaid): the ResidualOf of the program and that of the reference agree.
  Conditions: none beyond those of the given statement.
-/
import Derived.Test.YtdafcgimkiepnaaResid
import Derived.Test.YtdafcgimkiepnaaLaw
namespace Go.Proofs.Ytdafcgimkiepnaa.Residual
open Go Go.RowKit Go.ChangeShapes Go.WideShapes Go.ChangeAt Go.Joins Go.Proofs.Ytdafcgimkiepnaa.Fl Go.Proofs.Ytdafcgimkiepnaa.Reg Go.Proofs.Ytdafcgimkiepnaa.Step Go.Proofs.Ytdafcgimkiepnaa.Mem Go.Proofs.Ytdafcgimkiepnaa.Same Go.Proofs.Ytdafcgimkiepnaa.Help Go.Proofs.Ytdafcgimkiepnaa.Grid Go.Proofs.Ytdafcgimkiepnaa.Mean Go.Proofs.Ytdafcgimkiepnaa.App Go.Proofs.Ytdafcgimkiepnaa.Level Go.Proofs.Ytdafcgimkiepnaa.Lap Go.Proofs.Ytdafcgimkiepnaa.Law Go.Proofs.Ytdafcgimkiepnaa.Two Go.Proofs.Ytdafcgimkiepnaa.Rest Go.Proofs.Ytdafcgimkiepnaa.Resid

/-- What a function of a float32 and a bool hands back. -/
def BackF (w w' : World) (e : Ending) (b : Bool) (v : Option Nat) : Prop := ∃ r, e = .returned (.tuple #[.float .f32 r, .bool b]) ∧ Hid (vf .f32 r = v) ∧ Below w.heap.size w w'
def outR (W H : Int) (n m : Nat) (vs cs : List (Option Nat)) : Option Nat := if fit2 W H n m = true then resTo 0 (restF W H vs cs) else some 0

set_option maxHeartbeats 1000000 in
theorem spec_bad (W H : Int) (p q : Option Addr) (n m c d : Nat) (w : World) (hn : n ≤ 1048576) (hm : m ≤ 1048576) (h : fit2 W H n m = false) :
    Calls Try.prog 40 #[.agg #[.int .i64 W, .int .i64 H], .slice p n c, .slice q m d] w fun e w' => e = .returned (.tuple #[.float .f32 0, .bool false]) ∧ Below w.heap.size w w' := by
  have hG0 := GI.start w W H
  cases h1 : fitB W H n
  · go_enter Try.func40, Try.ntmps40
    go_wp2_with fail
    refine (l03Fits_any w.heap.size W H p n c hn _ (by simp) (by simp) (by simp)).mono ?_
    rw [h1]
    rintro e w1 ⟨rfl, hb1⟩
    have hG1 := hG0.step hb1
    clear h h1
    go_wp2
    go_ret2
    exact ⟨rfl, hG1.below⟩
  · have h2 : fitB W H m = false := by simpa [fit2, h1] using h
    go_enter Try.func40, Try.ntmps40
    go_wp2_with fail
    refine (l03Fits_any w.heap.size W H p n c hn _ (by simp) (by simp) (by simp)).mono ?_
    rw [h1]
    rintro e w1 ⟨rfl, hb1⟩
    have hG1 := hG0.step hb1
    clear h h1
    go_wp2_with fail
    refine (l03Fits_any w.heap.size W H q m d hm _ (by have := hG1.size; omega) hG1.c0 hG1.c1).mono ?_
    rw [h2]
    rintro e w2 ⟨rfl, hb2⟩
    have hG2 := hG1.step hb2
    clear h2
    go_wp2
    go_ret2
    exact ⟨rfl, hG2.below⟩

set_option maxHeartbeats 1000000 in
theorem impl_bad (W H : Int) (p q : Option Addr) (n m c d : Nat) (w : World) (hn : n ≤ 1048576) (hm : m ≤ 1048576) (h : fit2 W H n m = false) :
    Calls Try.prog 41 #[.agg #[.int .i64 W, .int .i64 H], .slice p n c, .slice q m d] w fun e w' => e = .returned (.tuple #[.float .f32 0, .bool false]) ∧ Below w.heap.size w w' := by
  have hG0 := GI.start w W H
  go_enter Try.func41, Try.ntmps41
  go_wp2_with fail
  refine (areFields_any W H p q n m c d hn hm _).mono ?_
  rw [h]
  rintro e w1 ⟨rfl, hb1⟩
  have hG1 := hG0.step hb1
  clear h
  go_wp2
  go_ret2
  exact ⟨rfl, hG1.below⟩

theorem spec_any (W H : Int) (p : Option Addr) (c : Nat) (rs : List Nat) (q : Option Addr) (d : Nat) (ss : List Nat) {b1 b2 : Nat} (w : World) (hn : rs.length ≤ 1048576) (h1 : Ow w b1 p c rs) (hm : ss.length ≤ 1048576) (h2 : Ow w b2 q d ss) :
    Calls Try.prog 40 #[.agg #[.int .i64 W, .int .i64 H], .slice p rs.length c, .slice q ss.length d] w fun e w' => BackF w w' e (fit2 W H rs.length ss.length) (outR W H rs.length ss.length (rs.map (vf .f32)) (ss.map (vf .f32))) := by
  unfold outR
  cases h : fit2 W H rs.length ss.length
  · refine (spec_bad W H p q _ _ c d w hn hm h).mono ?_
    rintro e w' ⟨rfl, hb⟩
    exact ⟨0, rfl, by show _ = _; simp; decide, hb⟩
  · have h' : fitB W H rs.length = true ∧ fitB W H ss.length = true := by simpa [fit2] using h
    obtain ⟨a1, a2, a3, a4, hf⟩ := fitB_spec h'.1
    obtain ⟨_, _, _, _, hf2⟩ := fitB_spec h'.2
    obtain ⟨W, rfl⟩ : ∃ n : Nat, W = n := ⟨W.toNat, by omega⟩
    obtain ⟨H, rfl⟩ : ∃ n : Nat, H = n := ⟨H.toNat, by omega⟩
    have e : ((W * H : Nat) : Int) = (W : Int) * H := by simp
    have hl : ss.length = rs.length := by omega
    rw [hl]
    refine (spec_in W H p q c d rs ss rs.length (by omega) (by omega) (by omega) (by omega) (by show _ = _; omega) rfl hl h'.1 w h1.rd h2.rd).mono ?_
    rintro e w' ⟨r, rfl, hv, hb⟩
    exact ⟨r, rfl, by show _ = _; simpa using hv, hb⟩
theorem impl_any (W H : Int) (p : Option Addr) (c : Nat) (rs : List Nat) (q : Option Addr) (d : Nat) (ss : List Nat) {b1 b2 : Nat} (w : World) (hn : rs.length ≤ 1048576) (h1 : Ow w b1 p c rs) (hm : ss.length ≤ 1048576) (h2 : Ow w b2 q d ss) :
    Calls Try.prog 41 #[.agg #[.int .i64 W, .int .i64 H], .slice p rs.length c, .slice q ss.length d] w fun e w' => BackF w w' e (fit2 W H rs.length ss.length) (outR W H rs.length ss.length (rs.map (vf .f32)) (ss.map (vf .f32))) := by
  unfold outR
  cases h : fit2 W H rs.length ss.length
  · refine (impl_bad W H p q _ _ c d w hn hm h).mono ?_
    rintro e w' ⟨rfl, hb⟩
    exact ⟨0, rfl, by show _ = _; simp; decide, hb⟩
  · have h' : fitB W H rs.length = true ∧ fitB W H ss.length = true := by simpa [fit2] using h
    obtain ⟨a1, a2, a3, a4, hf⟩ := fitB_spec h'.1
    obtain ⟨_, _, _, _, hf2⟩ := fitB_spec h'.2
    obtain ⟨W, rfl⟩ : ∃ n : Nat, W = n := ⟨W.toNat, by omega⟩
    obtain ⟨H, rfl⟩ : ∃ n : Nat, H = n := ⟨H.toNat, by omega⟩
    have e : ((W * H : Nat) : Int) = (W : Int) * H := by simp
    have hl : ss.length = rs.length := by omega
    obtain ⟨g, rfl, _⟩ := h2.cells (by rw [hl]; exact fitB_pos h'.1)
    rw [hl]
    refine (impl_in W H p g c d rs ss rs.length (by omega) (by omega) (by omega) (by omega) (by show _ = _; omega) rfl hl h'.1 w h1.rd h2.rd).mono ?_
    rintro e w' ⟨r, rfl, hv, hb⟩
    exact ⟨r, rfl, by show _ = _; simpa using hv, hb⟩
set_option maxHeartbeats 4000000 in
set_option maxRecDepth 100000 in
theorem walk_of (W H : Int) (p1 : Option Addr) (c1 : Nat) (rs1 : List Nat) (p2 : Option Addr) (c2 : Nat) (rs2 : List Nat)  (w : World) (hr1 : Rd w p1 rs1) (hn1 : rs1.length ≤ 1048576) (hr2 : Rd w p2 rs2) (hn2 : rs2.length ≤ 1048576) :
    Calls Try.prog 12 #[.agg #[.int .i64 W, .int .i64 H], .slice p1 rs1.length c1, .slice p2 rs2.length c2] w fun e w' => e = .returned (.bool true) ∧ Below w.heap.size w w' := by
  have i0 := Inv.start w W H
  go_enter Try.func12, Try.ntmps12
  have ca := i0.c0
  have cb := i0.c1
  go_wp2_with fail
  clear ca cb
  refine (toGrid_any W H _).mono ?_
  rintro e w1 ⟨rfl, hb1⟩
  have z1 : (w.alloc (.cells #[.int .i64 W, .int .i64 H] 23)).heap.size ≤ w1.heap.size := hb1.size
  have i1 := i0.step hb1
  go_wp2_with fail
  refine (toF_any p1 c1 rs1 _ hn1 (hr1.below i1.below)).mono ?_
  rintro e w2 ⟨q_t1, rfl, o_t1, hb2⟩
  have z2 : w1.heap.size ≤ w2.heap.size := hb2.size
  have i2 := i1.step hb2
  have l_t1 : ∀ a, q_t1 = some a → w1.heap.size ≤ a.block ∧ a.block < w2.heap.size := o_t1.lt
  go_wp2_with fail
  refine (toF_any p2 c2 rs2 _ hn2 (hr2.below i2.below)).mono ?_
  rintro e w3 ⟨q_t2, rfl, o_t2, hb3⟩
  have z3 : w2.heap.size ≤ w3.heap.size := hb3.size
  have i3 := i2.step hb3
  replace o_t1 := o_t1.below hb3
  have l_t2 : ∀ a, q_t2 = some a → w2.heap.size ≤ a.block ∧ a.block < w3.heap.size := o_t2.lt
  go_wp2_with fail
  refine (spec_any W H _ _ rs1 _ _ rs2 _ hn1 o_t1 hn2 o_t2).mono ?_
  rintro e w4 ⟨r_w, rfl, v_w, hb4⟩
  have z4 : w3.heap.size ≤ w4.heap.size := hb4.size
  have i4 := i3.step hb4
  replace o_t1 := o_t1.below hb4
  replace o_t2 := o_t2.below hb4
  clear o_t1 l_t1
  clear o_t2 l_t2
  go_wp2_with fail
  refine (toF_any p1 c1 rs1 _ hn1 (hr1.below i4.below)).mono ?_
  rintro e w5 ⟨q_x1, rfl, o_x1, hb5⟩
  have z5 : w4.heap.size ≤ w5.heap.size := hb5.size
  have i5 := i4.step hb5
  have l_x1 : ∀ a, q_x1 = some a → w4.heap.size ≤ a.block ∧ a.block < w5.heap.size := o_x1.lt
  go_wp2_with fail
  refine (toF_any p2 c2 rs2 _ hn2 (hr2.below i5.below)).mono ?_
  rintro e w6 ⟨q_x2, rfl, o_x2, hb6⟩
  have z6 : w5.heap.size ≤ w6.heap.size := hb6.size
  have i6 := i5.step hb6
  replace o_x1 := o_x1.below hb6
  have l_x2 : ∀ a, q_x2 = some a → w5.heap.size ≤ a.block ∧ a.block < w6.heap.size := o_x2.lt
  have ca := i6.c0
  have cb := i6.c1
  go_wp2_with fail
  clear ca cb
  refine (toGrid_any W H _).mono ?_
  rintro e w7 ⟨rfl, hb7⟩
  have z7 : w6.heap.size ≤ w7.heap.size := hb7.size
  have i7 := i6.step hb7
  replace o_x1 := o_x1.below hb7
  replace o_x2 := o_x2.below hb7
  go_wp2_with fail
  refine (impl_any W H _ _ rs1 _ _ rs2 _ hn1 o_x1 hn2 o_x2).mono ?_
  rintro e w8 ⟨r_g, rfl, v_g, hb8⟩
  have z8 : w7.heap.size ≤ w8.heap.size := hb8.size
  have i8 := i7.step hb8
  replace o_x1 := o_x1.below hb8
  replace o_x2 := o_x2.below hb8
  go_wp2_with (refine wpList_widen (src := 38) (dst := 42) rfl rfl rfl u32s Try.underlying42 (fun r n hv => ?_))
  refine Calls.mono (same_any _ _ _ (widen_eq (by assumption) (by assumption) (v_g.out.trans v_w.out.symm))) ?_
  rintro e w9 ⟨rfl, n9, hw9⟩
  have hb9 : Below w8.heap.size w8 w9 := by rw [hw9]; simpa using Below.refl w8.heap.size w8
  clear hw9
  have z9 : w8.heap.size ≤ w9.heap.size := hb9.size
  have i9 := i8.step hb9
  replace o_x1 := o_x1.below hb9
  replace o_x2 := o_x2.below hb9
  go_wp2_with fail
  refine (toF_any p1 c1 rs1 _ hn1 (hr1.below i9.below)).mono ?_
  rintro e w10 ⟨q_u, rfl, o_u, hb10⟩
  have z10 : w9.heap.size ≤ w10.heap.size := hb10.size
  have i10 := i9.step hb10
  replace o_x1 := o_x1.below hb10
  replace o_x2 := o_x2.below hb10
  have l_u : ∀ a, q_u = some a → w9.heap.size ≤ a.block ∧ a.block < w10.heap.size := o_u.lt
  go_wp2_with fail
  refine (eqF_any _ _ _ _ rs1 rs1 _ hn1 o_x1.rd o_u.rd rfl).mono ?_
  rintro e w11 ⟨rfl, hb11⟩
  have z11 : w10.heap.size ≤ w11.heap.size := hb11.size
  have i11 := i10.step hb11
  replace o_x1 := o_x1.below hb11
  replace o_x2 := o_x2.below hb11
  replace o_u := o_u.below hb11
  clear o_u l_u
  go_wp2_with fail
  refine (toF_any p2 c2 rs2 _ hn2 (hr2.below i11.below)).mono ?_
  rintro e w12 ⟨q_u, rfl, o_u, hb12⟩
  have z12 : w11.heap.size ≤ w12.heap.size := hb12.size
  have i12 := i11.step hb12
  replace o_x1 := o_x1.below hb12
  replace o_x2 := o_x2.below hb12
  have l_u : ∀ a, q_u = some a → w11.heap.size ≤ a.block ∧ a.block < w12.heap.size := o_u.lt
  go_wp2_with fail
  refine (eqF_any _ _ _ _ rs2 rs2 _ hn2 o_x2.rd o_u.rd rfl).mono ?_
  rintro e w13 ⟨rfl, hb13⟩
  have z13 : w12.heap.size ≤ w13.heap.size := hb13.size
  have i13 := i12.step hb13
  replace o_x1 := o_x1.below hb13
  replace o_x2 := o_x2.below hb13
  replace o_u := o_u.below hb13
  clear o_u l_u
  go_wp2
  go_ret
  exact ⟨rfl, i13.below⟩

set_option maxHeartbeats 1000000 in
theorem walk_out1 (W H : Int) (p1 : Option Addr) (c1 : Nat) (rs1 : List Nat) (p2 : Option Addr) (c2 : Nat) (rs2 : List Nat) (w : World)  (hn1 : 1048576 < rs1.length) (hm1 : rs1.length ≤ 9223372036854775807) :
    Calls Try.prog 12 #[.agg #[.int .i64 W, .int .i64 H], .slice p1 rs1.length c1, .slice p2 rs2.length c2] w fun e w' => e = .returned (.bool true) ∧ Below w.heap.size w w' := by
  have i0 := Inv.start w W H
  go_enter Try.func12, Try.ntmps12
  go_wp2
  go_ret
  exact ⟨rfl, i0.below⟩

set_option maxHeartbeats 1000000 in
theorem walk_out2 (W H : Int) (p1 : Option Addr) (c1 : Nat) (rs1 : List Nat) (p2 : Option Addr) (c2 : Nat) (rs2 : List Nat) (w : World) (hn1 : rs1.length ≤ 1048576) (hn2 : 1048576 < rs2.length) (hm2 : rs2.length ≤ 9223372036854775807) :
    Calls Try.prog 12 #[.agg #[.int .i64 W, .int .i64 H], .slice p1 rs1.length c1, .slice p2 rs2.length c2] w fun e w' => e = .returned (.bool true) ∧ Below w.heap.size w w' := by
  have i0 := Inv.start w W H
  go_enter Try.func12, Try.ntmps12
  go_wp2
  go_ret
  exact ⟨rfl, i0.below⟩

theorem walk (W H : Int) (_wW : (Lit.int .i64 W).wf = true) (_wH : (Lit.int .i64 H).wf = true) (p1 : Option Addr) (c1 : Nat) (rs1 : List Nat) (p2 : Option Addr) (c2 : Nat) (rs2 : List Nat) (w : World) (hr1 : Rd w p1 rs1) (hm1 : rs1.length ≤ 9223372036854775807) (hr2 : Rd w p2 rs2) (hm2 : rs2.length ≤ 9223372036854775807) :
    Calls Try.prog 12 #[.agg #[.int .i64 W, .int .i64 H], .slice p1 rs1.length c1, .slice p2 rs2.length c2] w fun e w' => e = .returned (.bool true) ∧ Below w.heap.size w w' := by
  by_cases hn1 : rs1.length ≤ 1048576
  · skip
    by_cases hn2 : rs2.length ≤ 1048576
    · skip
      exact walk_of W H p1 c1 rs1 p2 c2 rs2 w hr1 hn1 hr2 hn2
    · exact walk_out2 W H p1 c1 rs1 p2 c2 rs2 w hn1 (by omega) hm2
  · exact walk_out1 W H p1 c1 rs1 p2 c2 rs2 w  (by omega) hm1

/-! ### From the walk to the statement -/
set_option maxRecDepth 100000 in
theorem lifted (os : Os) (started : os.Started) (H : Type) (enc : TypeId × Value → H) :
    ReturnsInHanded {} Try.checked os 12 .any (Rows.fnExactResidualOfSpec.pre6 enc Try.prog Try.f12 Rows.fnExactResidualOfRow.domain false) (Rows.fnExactResidualOfSpec.post enc Try.prog Try.f12 false true false false) := by
  refine returnsInHanded_of_change (C := Try.checked) own started (by kernel_rfl) Try.func12
    (ChangeSpec.witness6 (enc := enc) (C := Try.checked) false ⟨#[], #[.agg #[.int .i64 0, .int .i64 0], .slice none 0 0, .slice none 0 0], []⟩ 8 (by kernel_rfl) (by kernel_rfl) (by kernel_rfl) (by kernel_rfl)) ?_
  intro W base args ds gs before hval0 hW hcnd _
  have hval : ∀ (j : Nat) t v, Try.f12.params[j]? = some t → args[j]? = some v → Value.okWide Try.prog W .any base t v := hval0
  have hW' := hW
  obtain ⟨p, q, hA0, hV, rfl, hfz, hnd⟩ := hW
  have hA : DataW.TrodAll enc Try.prog W 0 (fun _ => true) true Try.f12.params.toList args.toList ds p := hA0
  rw [Try.params12] at hA hval
  obtain ⟨v0, vs0, d0, ds0, p0, q0, hargs, rfl, rfl, h0, r0⟩ := trodAll_cons hA
  obtain ⟨v1, vs1, d1, ds1, p1, q1, rfl, rfl, rfl, h1, r1⟩ := trodAll_cons r0
  obtain ⟨v2, vs2, d2, ds2, p2, q2, rfl, rfl, rfl, h2, r2⟩ := trodAll_cons r1
  obtain ⟨rfl, rfl, rfl⟩ := trodAll_nil r2
  obtain rfl : args = #[v0, v1, v2] := by cases args; simp_all
  obtain ⟨rfl, rfl⟩ := trodVars_none hV
  obtain ⟨c0a, c0b, y0a, y0b, m0, rfl, _, _, hy0a, hy0b⟩ := open_agg2 Try.underlying23 (by kernel_rfl) cellsGrid (hval 0 23 v0 rfl rfl) h0
  obtain ⟨gW0, e0a, _, wW0⟩ := DataW.trod_int Try.underlying2 hy0a
  obtain ⟨gH0, e0b, _, wH0⟩ := DataW.trod_int Try.underlying2 hy0b
  simp only [List.cons.injEq, and_true] at e0a e0b
  subst e0a e0b
  obtain ⟨a1, c1, rs1, rfl, hr1, hm1⟩ := open_floats Try.underlying24 Try.underlying38 cellsF32 (hval 1 24 v1 rfl rfl) h1
  obtain ⟨a2, c2, rs2, rfl, hr2, hm2⟩ := open_floats Try.underlying24 Try.underlying38 cellsF32 (hval 2 24 v2 rfl rfl) h2
  refine (walk gW0 gH0 wW0 wH0 a1 c1 rs1 a2 c2 rs2 W hr1 hm1 hr2 hm2).mono fun e W' ⟨he, hb⟩ => ?_
  subst he
  exact ⟨_, rfl, law_post laid Try.underlying4 (by kernel_rfl) (by rw [Try.params12]; intro t ht; simp only [List.mem_cons, List.not_mem_nil, or_false] at ht; rcases ht with rfl | rfl | rfl <;> exact ⟨by kernel_rfl, of_decide_eq_true (by kernel_rfl)⟩) rfl rfl hW' hb⟩

/-- The statement. -/
theorem proved : Rows.FnExactResidualOfSaid :=
  OpenClaim.holds_of_wide 12 Try.f12 rfl rfl rfl rfl rfl rfl rfl ⟨rfl, rfl, rfl, rfl, rfl⟩ rfl rfl rfl rfl rfl (by kernel_rfl) Try.func12 (by kernel_rfl)
    (of_decide_eq_true (by kernel_rfl)) (by unfold Func.isWrapper; first | (rw [if_pos (by decide +kernel)]; kernel_rfl) | (rw [if_neg (by decide +kernel)]; exact ⟨rfl, rfl⟩))
    (fun os started H enc _ => lifted os started H enc)
#print axioms proved

end Go.Proofs.Ytdafcgimkiepnaa.Residual
