/-
  The law FnExactSolveRing returns true for every argument (the statement FnExactSolveRingSaid): the SolveRing of the program and that of the reference agree.
  Conditions: none beyond those of the given statement.
-/
import Derived.Test.YtkkcjpldldhcgaaRing
namespace Go.Proofs.Ytkkcjpldldhcgaa.SolveRing
open Go Go.RowKit Go.ChangeShapes Go.WideShapes Go.ChangeAt Go.Joins Go.Proofs.Ytkkcjpldldhcgaa.Fl Go.Proofs.Ytkkcjpldldhcgaa.Reg Go.Proofs.Ytkkcjpldldhcgaa.Step Go.Proofs.Ytkkcjpldldhcgaa.Mem Go.Proofs.Ytkkcjpldldhcgaa.Same Go.Proofs.Ytkkcjpldldhcgaa.Help Go.Proofs.Ytkkcjpldldhcgaa.Grid Go.Proofs.Ytkkcjpldldhcgaa.App Go.Proofs.Ytkkcjpldldhcgaa.Level Go.Proofs.Ytkkcjpldldhcgaa.Law Go.Proofs.Ytkkcjpldldhcgaa.Row Go.Proofs.Ytkkcjpldldhcgaa.Ring

def okN (n : Nat) : Bool := decide (3 ≤ n ∧ n ≤ 256)
def outR (n : Nat) (R : List (Option Nat)) : List (Option Nat) := if okN n = true then ringF n R else []

set_option maxHeartbeats 1000000 in
theorem spec_bad (p : Option Addr) (c n : Nat) (hn : n ≤ 1048576) (w : World) (h : okN n = false) :
    Calls Try.prog 26 #[.slice p n c] w fun e w' => e = .returned (.tuple #[.slice none 0 0, .bool false]) ∧ Below w.heap.size w w' := by
  have h' : ¬ (3 ≤ n ∧ n ≤ 256) := by simpa [okN] using h
  clear h
  by_cases h1 : n < 3
  · clear h'
    go_enter Try.func26, Try.ntmps26
    go_wp2
    go_ret2
    exact ⟨rfl, Below.refl _ _⟩
  · have h2 : 256 < n := by omega
    clear h'
    go_enter Try.func26, Try.ntmps26
    go_wp2
    go_ret2
    exact ⟨rfl, Below.refl _ _⟩

set_option maxHeartbeats 1000000 in
theorem impl_bad (p : Option Addr) (c n : Nat) (hn : n ≤ 1048576) (w : World) (h : okN n = false) :
    Calls Try.prog 27 #[.slice p n c] w fun e w' => e = .returned (.tuple #[.slice none 0 0, .bool false]) ∧ Below w.heap.size w w' := by
  have h' : ¬ (3 ≤ n ∧ n ≤ 256) := by simpa [okN] using h
  have hin : inB (n : Int) 3 256 = false := by simp [inB]; omega
  clear h h'
  go_enter Try.func27, Try.ntmps27
  go_wp2_with (go_at_call 49; refine (within_any _ _ _ _).mono ?_; rintro e w' ⟨rfl, rfl⟩)
  go_ret2
  exact ⟨rfl, Below.refl _ _⟩

set_option maxHeartbeats 1000000 in
theorem spec_in (p : Option Addr) (c : Nat) (rs : List Nat) (n : Nat) (R : List (Option Nat)) (h3 : 3 ≤ n) (h256 : n ≤ 256) (hl : rs.length = n) (eR : Hid (rs.map (vf .f32) = R)) (w : World) (rR : Rd w p rs) :
    Calls Try.prog 26 #[.slice p n c] w fun e w' => BackT w w' e true (ringF n R) := by
  have gl : Hid (rs.length = n) := hl
  clear hl
  go_enter Try.func26, Try.ntmps26
  go_wp2_with fail
  refine (l03Ring_any p c rs n R h3 (by omega) gl.out eR _ rR).mono ?_
  rintro e w1 ⟨q, cap, rs', rfl, ho, hv, hb⟩
  go_wp2
  go_ret2
  have hl : rs'.length = n := by have := congrArg List.length hv; simpa [ringF] using this
  exact BackT.of ho hv hl (by omega) hb

theorem spec_any (p : Option Addr) (c : Nat) (rs : List Nat) {base : Nat} (w : World) (hn : rs.length ≤ 1048576) (how : Ow w base p c rs) :
    Calls Try.prog 26 #[.slice p rs.length c] w fun e w' => BackT w w' e (okN rs.length) (outR rs.length (rs.map (vf .f32))) := by
  unfold outR
  cases h : okN rs.length
  · refine (spec_bad p c _ hn w h).mono ?_
    rintro e w' ⟨rfl, hb⟩
    simpa using BackT.none hb
  · have h' : 3 ≤ rs.length ∧ rs.length ≤ 256 := by simpa [okN] using h
    refine (spec_in p c rs _ _ h'.1 h'.2 rfl rfl w how.rd).mono ?_
    intro e w' hh
    simpa using hh
theorem impl_any (p : Option Addr) (c : Nat) (rs : List Nat) {base : Nat} (w : World) (hn : rs.length ≤ 1048576) (how : Ow w base p c rs) :
    Calls Try.prog 27 #[.slice p rs.length c] w fun e w' => BackT w w' e (okN rs.length) (outR rs.length (rs.map (vf .f32))) := by
  unfold outR
  cases h : okN rs.length
  · refine (impl_bad p c _ hn w h).mono ?_
    rintro e w' ⟨rfl, hb⟩
    simpa using BackT.none hb
  · have h' : 3 ≤ rs.length ∧ rs.length ≤ 256 := by simpa [okN] using h
    refine (solveRing_in p c rs _ _ h'.1 h'.2 rfl rfl w how.rd).mono ?_
    intro e w' hh
    simpa using hh
set_option maxHeartbeats 4000000 in
set_option maxRecDepth 100000 in
theorem walk_of (p0 : Option Addr) (c0 : Nat) (rs0 : List Nat)  (w : World) (hr0 : Rd w p0 rs0) (hn0 : rs0.length ≤ 1048576) :
    Calls Try.prog 8 #[.slice p0 rs0.length c0] w fun e w' => e = .returned (.bool true) ∧ Below w.heap.size w w' := by
  have i0 := Below.refl w.heap.size w
  go_enter Try.func8, Try.ntmps8
  go_wp2_with fail
  refine (toF_any p0 c0 rs0 _ hn0 (hr0.below i0)).mono ?_
  rintro e w1 ⟨q_t0, rfl, o_t0, hb1⟩
  have z1 : w.heap.size ≤ w1.heap.size := hb1.size
  have i1 := i0.trans (hb1.mono i0.size)
  have l_t0 : ∀ a, q_t0 = some a → w.heap.size ≤ a.block ∧ a.block < w1.heap.size := o_t0.lt
  go_wp2_with fail
  refine (spec_any _ _ rs0 _ hn0 o_t0).mono ?_
  rintro e w2 ⟨q_w, d_w, rs_w, rfl, o_w, v_w, e_w, hb2⟩
  have z2 : w1.heap.size ≤ w2.heap.size := hb2.size
  have i2 := i1.trans (hb2.mono i1.size)
  replace o_t0 := o_t0.below hb2
  have l_w : ∀ a, q_w = some a → w1.heap.size ≤ a.block ∧ a.block < w2.heap.size := o_w.lt
  clear o_t0 l_t0
  go_wp2_with fail
  refine (toF_any p0 c0 rs0 _ hn0 (hr0.below i2)).mono ?_
  rintro e w3 ⟨q_x0, rfl, o_x0, hb3⟩
  have z3 : w2.heap.size ≤ w3.heap.size := hb3.size
  have i3 := i2.trans (hb3.mono i2.size)
  replace o_w := o_w.below hb3
  have l_x0 : ∀ a, q_x0 = some a → w2.heap.size ≤ a.block ∧ a.block < w3.heap.size := o_x0.lt
  go_wp2_with fail
  refine (impl_any _ _ rs0 _ hn0 o_x0).mono ?_
  rintro e w4 ⟨q_g, d_g, rs_g, rfl, o_g, v_g, e_g, hb4⟩
  have z4 : w3.heap.size ≤ w4.heap.size := hb4.size
  have i4 := i3.trans (hb4.mono i3.size)
  replace o_w := o_w.below hb4
  replace o_x0 := o_x0.below hb4
  have l_g : ∀ a, q_g = some a → w3.heap.size ≤ a.block ∧ a.block < w4.heap.size := o_g.lt
  go_wp2_with fail
  refine (eqF_any _ _ _ _ rs_g rs_w _ e_g o_g.rd o_w.rd (v_g.trans v_w.symm)).mono ?_
  rintro e w5 ⟨rfl, hb5⟩
  have z5 : w4.heap.size ≤ w5.heap.size := hb5.size
  have i5 := i4.trans (hb5.mono i4.size)
  replace o_w := o_w.below hb5
  replace o_x0 := o_x0.below hb5
  replace o_g := o_g.below hb5
  go_wp2_with fail
  refine (toF_any p0 c0 rs0 _ hn0 (hr0.below i5)).mono ?_
  rintro e w6 ⟨q_u, rfl, o_u, hb6⟩
  have z6 : w5.heap.size ≤ w6.heap.size := hb6.size
  have i6 := i5.trans (hb6.mono i5.size)
  replace o_w := o_w.below hb6
  replace o_x0 := o_x0.below hb6
  replace o_g := o_g.below hb6
  have l_u : ∀ a, q_u = some a → w5.heap.size ≤ a.block ∧ a.block < w6.heap.size := o_u.lt
  go_wp2_with fail
  refine (eqF_any _ _ _ _ rs0 rs0 _ hn0 o_x0.rd o_u.rd rfl).mono ?_
  rintro e w7 ⟨rfl, hb7⟩
  have z7 : w6.heap.size ≤ w7.heap.size := hb7.size
  have i7 := i6.trans (hb7.mono i6.size)
  replace o_w := o_w.below hb7
  replace o_x0 := o_x0.below hb7
  replace o_g := o_g.below hb7
  replace o_u := o_u.below hb7
  clear o_u l_u
  go_wp2_with fail
  refine (mark_at _ _ _ _ (1) (by omega) _ _ hn0 (by omega) o_x0).mono ?_
  rintro e w8 ⟨rfl, o_x0', hg8⟩
  have z8 : w7.heap.size ≤ w8.heap.size := hg8.size
  have i8 := i7.trans (below_of_gb hg8 (fun a ha => by have h1 := l_x0 a ha; omega) i7.size)
  replace o_w := o_w.gb hg8 (sep l_w l_x0 (by omega))
  replace o_g := o_g.gb hg8 (sep l_g l_x0 (by omega))
  clear o_x0
  have o_x0 := o_x0'
  clear o_x0'
  clear o_x0 l_x0
  go_wp2_with fail
  refine (eqF_any _ _ _ _ rs_g rs_w _ e_g o_g.rd o_w.rd (v_g.trans v_w.symm)).mono ?_
  rintro e w9 ⟨rfl, hb9⟩
  have z9 : w8.heap.size ≤ w9.heap.size := hb9.size
  have i9 := i8.trans (hb9.mono i8.size)
  replace o_w := o_w.below hb9
  replace o_g := o_g.below hb9
  go_wp2_with fail
  refine (mark_at _ _ _ _ (1) (by omega) _ _ e_g (by omega) o_g).mono ?_
  rintro e w10 ⟨rfl, o_g', hg10⟩
  have z10 : w9.heap.size ≤ w10.heap.size := hg10.size
  have i10 := i9.trans (below_of_gb hg10 (fun a ha => by have h1 := l_g a ha; omega) i9.size)
  replace o_w := o_w.gb hg10 (sep l_w l_g (by omega))
  clear o_g
  have o_g := o_g'
  clear o_g'
  go_wp2_with fail
  refine (held_at _ _ _ (1) _ (by omega) _ e_g (by omega) o_g.rd).mono ?_
  rintro e w11 ⟨rfl, hb11⟩
  have z11 : w10.heap.size ≤ w11.heap.size := hb11.size
  have i11 := i10.trans (hb11.mono i10.size)
  replace o_w := o_w.below hb11
  replace o_g := o_g.below hb11
  go_wp2_with fail
  refine (toF_any p0 c0 rs0 _ hn0 (hr0.below i11)).mono ?_
  rintro e w12 ⟨q_t0, rfl, o_t0, hb12⟩
  have z12 : w11.heap.size ≤ w12.heap.size := hb12.size
  have i12 := i11.trans (hb12.mono i11.size)
  replace o_w := o_w.below hb12
  replace o_g := o_g.below hb12
  have l_t0 : ∀ a, q_t0 = some a → w11.heap.size ≤ a.block ∧ a.block < w12.heap.size := o_t0.lt
  go_wp2_with fail
  refine (impl_any _ _ rs0 _ hn0 o_t0).mono ?_
  rintro e w13 ⟨q_h, d_h, rs_h, rfl, o_h, v_h, e_h, hb13⟩
  have z13 : w12.heap.size ≤ w13.heap.size := hb13.size
  have i13 := i12.trans (hb13.mono i12.size)
  replace o_w := o_w.below hb13
  replace o_g := o_g.below hb13
  replace o_t0 := o_t0.below hb13
  have l_h : ∀ a, q_h = some a → w12.heap.size ≤ a.block ∧ a.block < w13.heap.size := o_h.lt
  clear o_t0 l_t0
  go_wp2_with fail
  refine (eqF_any _ _ _ _ rs_h rs_w _ e_h o_h.rd o_w.rd (v_h.trans v_w.symm)).mono ?_
  rintro e w14 ⟨rfl, hb14⟩
  have z14 : w13.heap.size ≤ w14.heap.size := hb14.size
  have i14 := i13.trans (hb14.mono i13.size)
  replace o_w := o_w.below hb14
  replace o_g := o_g.below hb14
  replace o_h := o_h.below hb14
  go_wp2_with fail
  refine (held_at _ _ _ (1) _ (by omega) _ e_g (by omega) o_g.rd).mono ?_
  rintro e w15 ⟨rfl, hb15⟩
  have z15 : w14.heap.size ≤ w15.heap.size := hb15.size
  have i15 := i14.trans (hb15.mono i14.size)
  replace o_w := o_w.below hb15
  replace o_g := o_g.below hb15
  replace o_h := o_h.below hb15
  go_wp2
  go_ret
  exact ⟨rfl, i15⟩

set_option maxHeartbeats 1000000 in
theorem walk_out0 (p0 : Option Addr) (c0 : Nat) (rs0 : List Nat) (w : World)  (hn0 : 1048576 < rs0.length) (hm0 : rs0.length ≤ 9223372036854775807) :
    Calls Try.prog 8 #[.slice p0 rs0.length c0] w fun e w' => e = .returned (.bool true) ∧ Below w.heap.size w w' := by
  have i0 := Below.refl w.heap.size w
  go_enter Try.func8, Try.ntmps8
  go_wp2
  go_ret
  exact ⟨rfl, i0⟩

theorem walk (p0 : Option Addr) (c0 : Nat) (rs0 : List Nat) (w : World) (hr0 : Rd w p0 rs0) (hm0 : rs0.length ≤ 9223372036854775807) :
    Calls Try.prog 8 #[.slice p0 rs0.length c0] w fun e w' => e = .returned (.bool true) ∧ Below w.heap.size w w' := by
  by_cases hn0 : rs0.length ≤ 1048576
  · skip
    exact walk_of p0 c0 rs0 w hr0 hn0
  · exact walk_out0 p0 c0 rs0 w  (by omega) hm0

/-! ### From the walk to the statement -/
set_option maxRecDepth 100000 in
theorem lifted (os : Os) (started : os.Started) (H : Type) (enc : TypeId × Value → H) :
    ReturnsInHanded {} Try.checked os 8 .any (Rows.fnExactSolveRingSpec.pre6 enc Try.prog Try.f8 Rows.fnExactSolveRingRow.domain false) (Rows.fnExactSolveRingSpec.post enc Try.prog Try.f8 false true false false) := by
  refine returnsInHanded_of_change (C := Try.checked) own started (by kernel_rfl) Try.func8
    (ChangeSpec.witness6 (enc := enc) (C := Try.checked) false ⟨#[], #[.slice none 0 0], []⟩ 8 (by kernel_rfl) (by kernel_rfl) (by kernel_rfl) (by kernel_rfl)) ?_
  intro W base args ds gs before hval0 hW hcnd _
  have hval : ∀ (j : Nat) t v, Try.f8.params[j]? = some t → args[j]? = some v → Value.okWide Try.prog W .any base t v := hval0
  have hW' := hW
  obtain ⟨p, q, hA0, hV, rfl, hfz, hnd⟩ := hW
  have hA : DataW.TrodAll enc Try.prog W 0 (fun _ => true) true Try.f8.params.toList args.toList ds p := hA0
  rw [Try.params8] at hA hval
  obtain ⟨v0, vs0, d0, ds0, p0, q0, hargs, rfl, rfl, h0, r0⟩ := trodAll_cons hA
  obtain ⟨rfl, rfl, rfl⟩ := trodAll_nil r0
  obtain rfl : args = #[v0] := by cases args; simp_all
  obtain ⟨rfl, rfl⟩ := trodVars_none hV
  obtain ⟨a0, c0, rs0, rfl, hr0, hm0⟩ := open_floats Try.underlying32 Try.underlying25 cellsF32 (hval 0 32 v0 rfl rfl) h0
  refine (walk a0 c0 rs0 W hr0 hm0).mono fun e W' ⟨he, hb⟩ => ?_
  subst he
  exact ⟨_, rfl, law_post laid Try.underlying4 (by kernel_rfl) (by rw [Try.params8]; intro t ht; simp only [List.mem_cons, List.not_mem_nil, or_false] at ht; subst ht; exact ⟨by kernel_rfl, of_decide_eq_true (by kernel_rfl)⟩) rfl rfl hW' hb⟩

/-- The statement. -/
theorem proved : Rows.FnExactSolveRingSaid :=
  OpenClaim.holds_of_wide 8 Try.f8 rfl rfl rfl rfl rfl rfl rfl ⟨rfl, rfl, rfl, rfl, rfl⟩ rfl rfl rfl rfl rfl (by kernel_rfl) Try.func8 (by kernel_rfl)
    (of_decide_eq_true (by kernel_rfl)) (by unfold Func.isWrapper; first | (rw [if_pos (by decide +kernel)]; kernel_rfl) | (rw [if_neg (by decide +kernel)]; exact ⟨rfl, rfl⟩))
    (fun os started H enc _ => lifted os started H enc)
#print axioms proved

end Go.Proofs.Ytkkcjpldldhcgaa.SolveRing
