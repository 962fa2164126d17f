/-
  x - x == 0: a float is finite. Plain lemmas, for every program.
  Conditions: none.
-/
import Derived.Test.YtkkcjpldldhcgaaFl
namespace Go.Proofs.Ytkkcjpldldhcgaa.Fin
open Go Go.RowKit Go.Proofs.Ytkkcjpldldhcgaa.Fl

/-- Neither NaN nor infinity. -/
def finv (k : FloatKind) (v : Option Nat) : Bool := match v with | none => false | some b => !(k.decode b).isInfinity

theorem zero_order (k : FloatKind) (s : Bool) : (k.format.order (k.format.word s 0) 0 == some .eq) = true := by
  cases k <;> cases s <;> decide
theorem signed_neg (s : Bool) (m : Nat) : Ieee.signed s m 0 + Ieee.signed (!s) m 0 = 0 := by
  cases s <;> simp [Ieee.signed]
  · omega
  · omega
theorem sub_self (k : FloatKind) {b : Nat} {s : Bool} {m : Nat} {p : Int} (h : k.decode b = .number s m p) : ∃ t, floatBits .sub k b b = some (k.format.word t 0) := by
  have h' : k.format.read b = .number s m p := h
  refine ⟨s && !s, ?_⟩
  unfold floatBits
  simp only [Ieee.Format.sub, h', Ieee.Datum.opposite, Ieee.Datum.sum, Int.min_self, Int.sub_self, Int.toNat_zero, signed_neg, if_true, Int.natAbs_zero, Option.map_some]
  rfl
theorem fin_test (k : FloatKind) (b r : Nat) (h : vf k r = fop .sub k (vf k b) (vf k b)) : (k.format.order r 0 == some .eq) = finv k (vf k b) := by
  have hz : vf k 0 = some 0 := by cases k <;> decide
  rw [order_vf, h, hz, fop_vf]
  cases hd : k.decode b with
  | number s m p =>
    obtain ⟨t, ht⟩ := sub_self k hd
    have hv : vf k b = some b := by simp [vf, hd, Ieee.Datum.isNaN]
    rw [ht, hv]
    have : ford k (some (k.format.word t 0)) (some 0) = k.format.order (k.format.word t 0) 0 := rfl
    rw [this, zero_order]
    simp [finv, hd, Ieee.Datum.isInfinity]
  | infinity s =>
    have hv : vf k b = some b := by simp [vf, hd, Ieee.Datum.isNaN]
    have h' : k.format.read b = .infinity s := hd
    have : floatBits .sub k b b = none := by
      unfold floatBits
      simp only [Ieee.Format.sub, h', Ieee.Datum.opposite, Ieee.Datum.sum]
      cases s <;> rfl
    rw [this, hv]
    simp [finv, hd, Ieee.Datum.isInfinity, ford]
  | nan s t =>
    have hn : (k.decode b).isNaN = true := by rw [hd]; rfl
    rw [floatBits_nan (Or.inl hn)]
    simp [finv, vf, hn, ford]
theorem decode_inf64 (s : Bool) : (FloatKind.f64.decode (FloatKind.f64.encode (.infinity s))).isInfinity = true := by cases s <;> decide
/-- Widening keeps it. -/
theorem fin_wid (b : Nat) : finv .f64 (wid (vf .f32 b)) = finv .f32 (vf .f32 b) := by
  cases hd : FloatKind.f32.decode b with
  | number s m p =>
    have hv : vf .f32 b = some b := by simp [vf, hd, Ieee.Datum.isNaN]
    rw [hv]
    show (!(FloatKind.f64.decode (FloatKind.f64.encode (FloatKind.f32.decode b))).isInfinity) = (!(FloatKind.f32.decode b).isInfinity)
    rw [hd, widen_fits hd]
    rfl
  | infinity s =>
    have hv : vf .f32 b = some b := by simp [vf, hd, Ieee.Datum.isNaN]
    rw [hv]
    show (!(FloatKind.f64.decode (FloatKind.f64.encode (FloatKind.f32.decode b))).isInfinity) = (!(FloatKind.f32.decode b).isInfinity)
    rw [hd, decode_inf64]
    rfl
  | nan s t =>
    have hv : vf .f32 b = none := by simp [vf, hd, Ieee.Datum.isNaN]
    rw [hv]; rfl
end Go.Proofs.Ytkkcjpldldhcgaa.Fin
