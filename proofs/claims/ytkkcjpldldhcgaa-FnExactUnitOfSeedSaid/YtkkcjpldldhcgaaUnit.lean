/-
  The law FnExactUnitOfSeed returns true for every argument (the statement FnExactUnitOfSeedSaid): the UnitOfSeed of the program and that of the reference agree.
  Conditions: none beyond those of the given statement.
-/
import Derived.Test.YtkkcjpldldhcgaaHelp
import Derived.Test.YtkkcjpldldhcgaaLaw
namespace Go.Proofs.Ytkkcjpldldhcgaa.Unit
open Go Go.RowKit Go.ChangeShapes Go.WideShapes Go.ChangeAt Go.Proofs.Ytkkcjpldldhcgaa.Fl Go.Proofs.Ytkkcjpldldhcgaa.Step Go.Proofs.Ytkkcjpldldhcgaa.Mem Go.Proofs.Ytkkcjpldldhcgaa.Same Go.Proofs.Ytkkcjpldldhcgaa.Help Go.Proofs.Ytkkcjpldldhcgaa.Law

def unitV (s : Int) : Option Nat := fop .quo .f32 (vf .f32 (floatOfInt .f32 (s / 65536))) (vf .f32 1191182336)

theorem l06Unit_any (s : Int) (h0 : 0 ≤ s) (h1 : s ≤ 2147483647) (w : World) :
    Calls Try.prog 37 #[.int .i64 s] w fun e w' => ∃ r n, e = .returned (.float .f32 r) ∧ Hid (vf .f32 r = unitV s) ∧ w' = w.drewN n := by
  go_enter Try.func37, Try.ntmps37
  go_wp2_with (refine wpList_flt rfl rfl rfl rfl rfl (fun r n hr => ?_))
  go_ret
  exact ⟨_, _, rfl, hr, rfl⟩

theorem unitOf_any (s : Int) (h0 : 0 ≤ s) (h1 : s ≤ 2147483647) (w : World) :
    Calls Try.prog 38 #[.int .i64 s] w fun e w' => ∃ r n, e = .returned (.float .f32 r) ∧ Hid (vf .f32 r = unitV s) ∧ w' = w.drewN n := by
  go_enter Try.func38, Try.ntmps38
  go_wp2_with (refine wpList_flt rfl rfl rfl rfl rfl (fun r n hr => ?_))
  go_ret
  exact ⟨_, _, rfl, hr, rfl⟩

theorem spec_any (s : Int) (h0 : 0 ≤ s) (h1 : s ≤ 2147483647) (w : World) :
    Calls Try.prog 12 #[.int .i64 s] w fun e w' => ∃ r n, e = .returned (.tuple #[.float .f32 r, .bool true]) ∧ Hid (vf .f32 r = unitV s) ∧ w' = w.drewN n := by
  go_enter Try.func12, Try.ntmps12
  go_wp2_with (first
    | (go_at_call 37; refine (l06Unit_any _ h0 h1 _).mono ?_; rintro e w1 ⟨r, n, rfl, hr, rfl⟩)
    | go_in)
  go_ret2
  exact ⟨_, _, rfl, hr, rfl⟩

theorem impl_any (s : Int) (h0 : 0 ≤ s) (h1 : s ≤ 2147483647) (w : World) :
    Calls Try.prog 13 #[.int .i64 s] w fun e w' => ∃ r n, e = .returned (.tuple #[.float .f32 r, .bool true]) ∧ Hid (vf .f32 r = unitV s) ∧ w' = w.drewN n := by
  go_enter Try.func13, Try.ntmps13
  go_wp2_with (first
    | (go_at_call 38; refine (unitOf_any _ h0 h1 _).mono ?_; rintro e w1 ⟨r, n, rfl, hr, rfl⟩)
    | go_in)
  go_ret2
  exact ⟨_, _, rfl, hr, rfl⟩

set_option maxHeartbeats 400000 in
theorem walk_of (s : Int) (h0 : 0 ≤ s) (h1 : s ≤ 2147483647) (w : World) :
    Calls Try.prog 4 #[.int .i64 s] w fun e w' => e = .returned (.bool true) ∧ Below w.heap.size w w' := by
  go_enter Try.func4, Try.ntmps4
  go_wp2_with (first
    | (go_at_call 12; refine (spec_any _ h0 h1 _).mono ?_; rintro e w1 ⟨r1, n1, rfl, hr1, rfl⟩)
    | (go_at_call 13; refine (impl_any _ h0 h1 _).mono ?_; rintro e w2 ⟨r2, n2, rfl, hr2, rfl⟩)
    | (refine wpList_widen (src := 25) (dst := 29) rfl rfl rfl u32s Try.underlying29 (fun r n hv => ?_)))
  refine Calls.mono (same_any _ _ _ (widen_eq (by assumption) (by assumption) (hr2.out.trans hr1.out.symm))) ?_
  rintro e w3 ⟨rfl, n3, rfl⟩
  go_wp2
  go_ret
  exact ⟨rfl, by simp [Below.refl]⟩

set_option maxHeartbeats 400000 in
theorem walk_out (s : Int) (h : s < 0 ∨ (0 ≤ s ∧ ¬ s ≤ 2147483647)) (w : World) :
    Calls Try.prog 4 #[.int .i64 s] w fun e w' => e = .returned (.bool true) ∧ Below w.heap.size w w' := by
  rcases h with h | h
  · have h1 : s ≤ 2147483647 := by omega
    go_enter Try.func4, Try.ntmps4
    go_wp2_with (first
      | (refine wpList_widen (src := 25) (dst := 29) rfl rfl rfl u32s Try.underlying29 (fun r n hv => ?_))
      | (go_at_call 14; refine Calls.mono (same_any _ _ _ (widen_eq (by assumption) (by assumption) rfl)) ?_; rintro e w3 ⟨rfl, n3, rfl⟩)
      | go_in)
    all_goals go_ret
    all_goals exact ⟨rfl, by simp [Below.refl]⟩
  · obtain ⟨h0, h⟩ := h
    go_enter Try.func4, Try.ntmps4
    go_wp2_with (first
      | (refine wpList_widen (src := 25) (dst := 29) rfl rfl rfl u32s Try.underlying29 (fun r n hv => ?_))
      | (go_at_call 14; refine Calls.mono (same_any _ _ _ (widen_eq (by assumption) (by assumption) rfl)) ?_; rintro e w3 ⟨rfl, n3, rfl⟩)
      | go_in)
    all_goals go_ret
    all_goals exact ⟨rfl, by simp [Below.refl]⟩

theorem walk (s : Int) (_ws : (Lit.int .i64 s).wf = true) (w : World) :
    Calls Try.prog 4 #[.int .i64 s] w fun e w' => e = .returned (.bool true) ∧ Below w.heap.size w w' := by
  by_cases h0 : 0 ≤ s
  · by_cases h1 : s ≤ 2147483647
    · exact walk_of s h0 h1 w
    · exact walk_out s (by omega) w
  · exact walk_out s (by omega) w

/-! ### From the walk to the statement -/
set_option maxRecDepth 100000 in
theorem lifted (os : Os) (started : os.Started) (H : Type) (enc : TypeId × Value → H) :
    ReturnsInHanded {} Try.checked os 4 .any (Rows.fnExactUnitOfSeedSpec.pre6 enc Try.prog Try.f4 Rows.fnExactUnitOfSeedRow.domain false) (Rows.fnExactUnitOfSeedSpec.post enc Try.prog Try.f4 false true false false) := by
  refine returnsInHanded_of_change (C := Try.checked) own started (by kernel_rfl) Try.func4
    (ChangeSpec.witness6 (enc := enc) (C := Try.checked) false ⟨#[], #[.int .i64 0], []⟩ 8 (by kernel_rfl) (by kernel_rfl) (by kernel_rfl) (by kernel_rfl)) ?_
  intro W base args ds gs before hval0 hW hcnd _
  have hval : ∀ (j : Nat) t v, Try.f4.params[j]? = some t → args[j]? = some v → Value.okWide Try.prog W .any base t v := hval0
  have hW' := hW
  obtain ⟨p, q, hA0, hV, rfl, hfz, hnd⟩ := hW
  have hA : DataW.TrodAll enc Try.prog W 0 (fun _ => true) true Try.f4.params.toList args.toList ds p := hA0
  rw [Try.params4] at hA hval
  obtain ⟨v0, vs0, d0, ds0, p0, q0, hargs, rfl, rfl, h0, r0⟩ := trodAll_cons hA
  obtain ⟨rfl, rfl, rfl⟩ := trodAll_nil r0
  obtain rfl : args = #[v0] := by cases args; simp_all
  obtain ⟨rfl, rfl⟩ := trodVars_none hV
  obtain ⟨x0, rfl, _, _, wx0⟩ := open_int Try.underlying2 (hval 0 2 v0 rfl rfl) h0
  refine (walk x0 wx0 W).mono fun e W' ⟨he, hb⟩ => ?_
  subst he
  exact ⟨_, rfl, law_post laid Try.underlying4 (by kernel_rfl) (by rw [Try.params4]; intro t ht; simp only [List.mem_cons, List.not_mem_nil, or_false] at ht; subst ht; exact ⟨by kernel_rfl, of_decide_eq_true (by kernel_rfl)⟩) rfl rfl hW' hb⟩

/-- The statement. -/
theorem proved : Rows.FnExactUnitOfSeedSaid :=
  OpenClaim.holds_of_wide 4 Try.f4 rfl rfl rfl rfl rfl rfl rfl ⟨rfl, rfl, rfl, rfl, rfl⟩ rfl rfl rfl rfl rfl (by kernel_rfl) Try.func4 (by kernel_rfl)
    (of_decide_eq_true (by kernel_rfl)) (by unfold Func.isWrapper; first | (rw [if_pos (by decide +kernel)]; kernel_rfl) | (rw [if_neg (by decide +kernel)]; exact ⟨rfl, rfl⟩))
    (fun os started H enc _ => lifted os started H enc)
#print axioms proved
end Go.Proofs.Ytkkcjpldldhcgaa.Unit
