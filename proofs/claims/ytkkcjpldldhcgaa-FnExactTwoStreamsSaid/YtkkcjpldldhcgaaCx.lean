/-
  Complex numbers: widening, the narrowing of the laws' marks, '!='. Plain lemmas, for every program.
  Conditions: none.
-/
import Derived.Test.YtkkcjpldldhcgaaPart
namespace Go.Proofs.Ytkkcjpldldhcgaa.Cx
open Go Go.RowKit Go.Proofs.Ytkkcjpldldhcgaa.Fl Go.Proofs.Ytkkcjpldldhcgaa.Reg Go.Proofs.Ytkkcjpldldhcgaa.Step Go.Proofs.Ytkkcjpldldhcgaa.Mem Go.Proofs.Ytkkcjpldldhcgaa.Same Go.Proofs.Ytkkcjpldldhcgaa.Help Go.Proofs.Ytkkcjpldldhcgaa.Part

theorem run_f2f {P : Program} (w : World) (x : Nat) : (Conv.floatToFloat .f32 x .f64).run P w = .ok (.float .f64 (wr x w.tape w.drawn)) (w.drewN (wc x)) := by
  unfold Conv.floatToFloat wr wc
  cases hx : FloatKind.f32.decode x with
  | nan s t => simp [Ieee.Datum.isNaN, choose, Sem.run, Question.forced, World.drew_is_drewN]
  | infinity s => simp [Ieee.Datum.isNaN, World.drewN_zero]
  | number s m p => simp [Ieee.Datum.isNaN, World.drewN_zero, widen_fits hx]

theorem run_cwiden {P : Program} (w : World) (src dst : TypeId) (hs : (P.underlying src).isSome = true) (hd : P.underlying dst = some (.complex .f64)) (x y : Nat) :
    ∃ r s n, (convert src dst (.complex .f32 x y)).run P w = .ok (.complex .f64 r s) (w.drewN n) ∧ vf .f64 r = wid (vf .f32 x) ∧ vf .f64 s = wid (vf .f32 y) := by
  obtain ⟨u, hs'⟩ := Option.isSome_iff_exists.1 hs
  refine ⟨wr x w.tape w.drawn, wr y (w.drewN (wc x)).tape (w.drewN (wc x)).drawn, wc x + wc y, ?_, vf_wr _ _ _, vf_wr _ _ _⟩
  have key : (Conv.complexToComplex .f32 x y .f64).run P w = .ok (.complex .f64 (wr x w.tape w.drawn) (wr y (w.drewN (wc x)).tape (w.drewN (wc x)).drawn)) (w.drewN (wc x + wc y)) := by
    unfold Conv.complexToComplex
    simp only [Sem.run_bind, run_f2f, Result.andThen_ok, Sem.run_pure, World.drewN_drewN]
  cases u <;> simp [convert, run_underlying hs', run_underlying hd, key]

section
variable {P : Program} {ops : Array Oper} {Q : Exit → Act → World → Prop} {a : Act} {w : World} {rest : List Oper} {o : Oper}
/-- complex128 of a complex64. -/
theorem wpList_cwiden {src dst : TypeId} {X : Operand} {x y : Nat} (hg : o.guard = none) (ho : o.op = .convert src dst X) (hX : a.eval X = .complex .f32 x y) (hs : (P.underlying src).isSome = true) (hd : P.underlying dst = some (.complex .f64))
    (h : ∀ r s n, Hid (vf .f64 r = wid (vf .f32 x)) → Hid (vf .f64 s = wid (vf .f32 y)) → wpList P ops Q rest (a.put o.dst (.complex .f64 r s)) (w.drewN n)) : wpList P ops Q (o :: rest) a w := by
  obtain ⟨r, s, n, hr, h1, h2⟩ := run_cwiden (P := P) w src dst hs hd x y
  refine wpList_plain hg fun K hK => ?_
  have e : (execOp a.eval o).run P w = .ok (.value (.complex .f64 r s)) (w.drewN n) := by
    unfold execOp
    simp [ho, hX, hr]
  unfold Oper.wp
  rw [e]
  exact hK _ _ (h _ _ _ h1 h2)

/-- The marks fit. -/
def fitsB (n : Nat) : Bool := match FloatKind.f64.decode (floatOfInt .f64 (n : Nat)) with
  | .number s m e => !(FloatKind.f32.decode (FloatKind.f32.encode (.number s m e))).isInfinity && FloatKind.f32.encode (.number s m e) == floatOfInt .f32 (n : Nat)
  | _ => false
theorem fits_all : ∀ n, n < 256 → fitsB n = true := by decide +kernel
theorem run_narrow {n : Nat} (hn : n < 256) (w : World) : (Conv.floatToFloat .f64 (floatOfInt .f64 (n : Nat)) .f32).run P w = .ok (.float .f32 (floatOfInt .f32 (n : Nat))) w := by
  have h := fits_all n hn
  unfold fitsB at h
  unfold Conv.floatToFloat
  cases hx : FloatKind.f64.decode (floatOfInt .f64 (n : Nat)) with
  | nan s t => rw [hx] at h; cases h
  | infinity s => rw [hx] at h; cases h
  | number s m p =>
    rw [hx] at h
    simp only [Bool.and_eq_true, Bool.not_eq_true', beq_iff_eq] at h
    obtain ⟨h1, h2⟩ := h
    rw [h2] at h1
    simp [h1, h2]
theorem one64 : floatOfInt .f64 ((1 : Nat) : Int) = 4607182418800017408 := by decide +kernel
theorem one32 : floatOfInt .f32 ((1 : Nat) : Int) = 1065353216 := by decide +kernel
theorem run_one (w : World) : (Conv.floatToFloat .f64 4607182418800017408 .f32).run P w = .ok (.float .f32 1065353216) w := by
  have := run_narrow (P := P) (n := 1) (by omega) w
  rwa [one64, one32] at this
theorem run_cnarrow (w : World) (src dst : TypeId) (hs : (P.underlying src).isSome = true) (hd : P.underlying dst = some (.complex .f32)) {n : Nat} (hn : n < 256) :
    (convert src dst (.complex .f64 (floatOfInt .f64 (n : Nat)) 4607182418800017408)).run P w = .ok (.complex .f32 (floatOfInt .f32 (n : Nat)) 1065353216) w := by
  obtain ⟨u, hs'⟩ := Option.isSome_iff_exists.1 hs
  have key : (Conv.complexToComplex .f64 (floatOfInt .f64 (n : Nat)) 4607182418800017408 .f32).run P w = .ok (.complex .f32 (floatOfInt .f32 (n : Nat)) 1065353216) w := by
    unfold Conv.complexToComplex
    simp only [Sem.run_bind, run_narrow hn, run_one, Result.andThen_ok, Sem.run_pure]
  cases u <;> simp [convert, run_underlying hs', run_underlying hd, key]
/-- complex64 of a mark. -/
theorem wpList_cnarrow {src dst : TypeId} {X : Operand} {z : Int} (hg : o.guard = none) (ho : o.op = .convert src dst X) (hX : a.eval X = .complex .f64 (floatOfInt .f64 z) 4607182418800017408) (hs : (P.underlying src).isSome = true) (hd : P.underlying dst = some (.complex .f32))
    (hz : 0 ≤ z ∧ z < 256)
    (h : wpList P ops Q rest (a.put o.dst (.complex .f32 (floatOfInt .f32 z) 1065353216)) w) : wpList P ops Q (o :: rest) a w := by
  obtain ⟨n, rfl⟩ : ∃ n : Nat, z = n := ⟨z.toNat, by omega⟩
  refine wpList_plain hg fun K hK => ?_
  have e : (execOp a.eval o).run P w = .ok (.value (.complex .f32 (floatOfInt .f32 (n : Nat)) 1065353216)) w := by
    unfold execOp
    simp [ho, hX, run_cnarrow (P := P) w src dst hs hd (n := n) (by omega)]
  unfold Oper.wp
  rw [e]
  exact hK _ _ h
end
/-- A complex number is not unlike itself. -/
@[go_sem] theorem run_cneq {P : Program} {w : World} {t : TypeId} {k : FloatKind} {a b c d : Nat} : (binOp .neq t (.complex k a b) (.complex k c d)).run P w = .ok (.bool (!(k.format.order a c == some .eq && k.format.order b d == some .eq))) w := by
  simp [binOp, Op.complexOp, Op.Complex.cmp, Op.floatCmp, asBool]
end Go.Proofs.Ytkkcjpldldhcgaa.Cx
