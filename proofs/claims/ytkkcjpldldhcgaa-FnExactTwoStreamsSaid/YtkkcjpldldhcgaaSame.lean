/-
  The law's helper sameFloat answers true at two floats of one value.
  Conditions: none.
-/
import Derived.Test.YtkkcjpldldhcgaaStep
import Derived.Test.YtkkcjpldldhcgaaChecked
namespace Go.Proofs.Ytkkcjpldldhcgaa.Same
open Go Go.RowKit Go.Proofs.Ytkkcjpldldhcgaa.Fl Go.Proofs.Ytkkcjpldldhcgaa.Reg Go.Proofs.Ytkkcjpldldhcgaa.Step

theorem order_self {k : FloatKind} {x : Nat} (h : (k.decode x).isNaN = false) : k.format.order x x = some .eq := by
  have : ∀ d : Ieee.Datum, d.isNaN = false → d.order d = some .eq := by
    intro d hd
    cases d with
    | nan s t => cases hd
    | infinity s => cases s <;> rfl
    | number s m p => simp [Ieee.Datum.order, compare, compareOfLessAndEq]
  exact this _ h

theorem vf_cases {k : FloatKind} {x y : Nat} (h : vf k x = vf k y) : ((k.decode x).isNaN = true ∧ (k.decode y).isNaN = true) ∨ ((k.decode x).isNaN = false ∧ x = y) := by
  unfold vf at h
  cases hx : (k.decode x).isNaN <;> cases hy : (k.decode y).isNaN <;> simp_all

theorem order_none {k : FloatKind} {x y : Nat} (h : (k.decode x).isNaN = true) : k.format.order x y = none := order_nan (Or.inl h)

set_option maxHeartbeats 400000 in
theorem same_any (x y : Nat) (w : World) (h : vf .f64 x = vf .f64 y) :
    Calls Try.prog 14 #[.float .f64 x, .float .f64 y] w fun e w' => e = .returned (.bool true) ∧ ∃ n, w' = w.drewN n := by
  rcases vf_cases h with ⟨hx, hy⟩ | ⟨hx, rfl⟩
  · have ex : (FloatKind.f64.format.order x x != some .eq) = true := by rw [order_none hx]; rfl
    have ey : (FloatKind.f64.format.order y y != some .eq) = true := by rw [order_none hy]; rfl
    clear h hx hy
    go_enter Try.func14, Try.ntmps14
    go_wp2
    go_ret
    exact ⟨rfl, 0, rfl⟩
  · have es := order_self hx
    have ex : (FloatKind.f64.format.order x x != some .eq) = false := by rw [es]; rfl
    have eq : (FloatKind.f64.format.order x x == some .eq) = true := by rw [es]; rfl
    clear h hx es
    cases hz : (FloatKind.f64.format.order x 0 == some .eq)
    · go_enter Try.func14, Try.ntmps14
      go_wp2
      go_ret
      exact ⟨rfl, 0, rfl⟩
    · go_enter Try.func14, Try.ntmps14
      go_wp2_with (refine wpList_flt rfl rfl rfl rfl rfl (fun r n hr => ?_))
      go_ret
      refine ⟨?_, _, rfl⟩
      go_tidy
      rename_i r1 n1 h1
      have e : FloatKind.f64.format.order r1 0 = FloatKind.f64.format.order r 0 := by rw [order_vf, order_vf, h1.out, hr.out]
      show Ending.returned (.bool _) = _
      rw [e]
      simp
end Go.Proofs.Ytkkcjpldldhcgaa.Same
