/-
  Steps of a walk at operations on floats, in a region of one order and in a region that draws. Plain lemmas, for every program.
  Conditions: none.
-/
import Derived.Test.YtkkcjpldldhcgaaFl
import Derived.Test.YtkkcjpldldhcgaaReg
import Derived.StillTailTactics
import Derived.Deep.QuietTactic
import Derived.BigQuiet
import Derived.Below
namespace Go.Proofs.Ytkkcjpldldhcgaa.Step
open Go Go.RowKit Go.Proofs.Ytkkcjpldldhcgaa.Fl Go.Proofs.Ytkkcjpldldhcgaa.Reg

def arithB : BinOp → Bool
  | .add | .sub | .mul | .quo => true
  | _ => false
theorem arith_or {op : BinOp} (h : arithB op = true) : op = .add ∨ op = .sub ∨ op = .mul ∨ op = .quo := by
  cases op <;> simp_all [arithB]

section
variable {P : Program} {ops : Array Oper} {Q : Exit → Act → World → Prop} {a : Act} {w : World} {rest : List Oper} {o : Oper}

theorem exec_binOp {op : BinOp} {t yt : TypeId} {X Y : Operand} (ho : o.op = .binOp op t X Y yt) {k : FloatKind} {x y : Nat} (hX : a.eval X = .float k x) (hY : a.eval Y = .float k y) (hop : arithB op = true) :
    (execOp a.eval o).run P w = .ok (.value (.float k (fr op k x y w.tape w.drawn))) (w.drewN (fc op k x y)) := by
  have h := run_fbin (P := P) w op (arith_or hop) t k x y
  unfold execOp
  cases op <;> simp_all [arithB, eqGuard]

/-- A float's '+', '-', '*', '/' in a region of one order. -/
theorem wpList_flt {op : BinOp} {t yt : TypeId} {X Y : Operand} {k : FloatKind} {x y : Nat} (hg : o.guard = none) (ho : o.op = .binOp op t X Y yt) (hX : a.eval X = .float k x) (hY : a.eval Y = .float k y) (hop : arithB op = true)
    (h : ∀ r n, Hid (vf k r = fop op k (vf k x) (vf k y)) → wpList P ops Q rest (a.put o.dst (.float k r)) (w.drewN n)) : wpList P ops Q (o :: rest) a w := by
  refine wpList_plain hg fun K hK => ?_
  unfold Oper.wp
  rw [exec_binOp ho hX hY hop]
  exact hK _ _ (h _ _ (vf_fr _ _ _ _ _ _))

section
variable {C : World → Prop} {S : FuncId → Array Value → Value → Prop} {R : Act → Prop}
/-- A float's '+', '-', '*', '/' in a region that draws. -/
theorem wpDem_flt {op : BinOp} {t yt : TypeId} {X Y : Operand} {k : FloatKind} {x y : Nat} (hg : o.guard = none) (ho : o.op = .binOp op t X Y yt) (hX : a.eval X = .float k x) (hY : a.eval Y = .float k y) (hop : arithB op = true)
    (hC : ∀ w n, C w → C (w.drewN n))
    (h : ∀ r, Hid (vf k r = fop op k (vf k x) (vf k y)) → wpDem P ops C S R rest (a.put o.dst (.float k r))) : wpDem P ops C S R (o :: rest) a := by
  refine wpDem_plain hg fun K hK w hw => ?_
  rw [exec_binOp ho hX hY hop]
  exact ⟨hC _ _ hw, fun v hv => hK _ (by cases hv; exact h _ (vf_fr _ _ _ _ _ _))⟩
/-- float64 of a float32 in a region that draws. -/
theorem wpDem_widen {src dst : TypeId} {X : Operand} {x : Nat} (hg : o.guard = none) (ho : o.op = .convert src dst X) (hX : a.eval X = .float .f32 x) (hs : (P.underlying src).isSome = true) (hd : P.underlying dst = some (.float .f64))
    (hC : ∀ w n, C w → C (w.drewN n))
    (h : ∀ r, Hid (vf .f64 r = wid (vf .f32 x)) → wpDem P ops C S R rest (a.put o.dst (.float .f64 r))) : wpDem P ops C S R (o :: rest) a := by
  refine wpDem_plain hg fun K hK w hw => ?_
  have e : (execOp a.eval o).run P w = .ok (.value (.float .f64 (wr x w.tape w.drawn))) (w.drewN (wc x)) := by
    have h := run_widen (P := P) w src dst hs hd x
    unfold execOp
    simp [ho, hX, h]
  rw [e]
  exact ⟨hC _ _ hw, fun v hv => hK _ (by cases hv; exact h _ (vf_wr _ _ _))⟩
end
/-- float64 of a float32 in a region of one order. -/
theorem wpList_widen {src dst : TypeId} {X : Operand} {x : Nat} (hg : o.guard = none) (ho : o.op = .convert src dst X) (hX : a.eval X = .float .f32 x) (hs : (P.underlying src).isSome = true) (hd : P.underlying dst = some (.float .f64))
    (h : ∀ r n, Hid (vf .f64 r = wid (vf .f32 x)) → wpList P ops Q rest (a.put o.dst (.float .f64 r)) (w.drewN n)) : wpList P ops Q (o :: rest) a w := by
  refine wpList_plain hg fun K hK => ?_
  have e : (execOp a.eval o).run P w = .ok (.value (.float .f64 (wr x w.tape w.drawn))) (w.drewN (wc x)) := by
    have h := run_widen (P := P) w src dst hs hd x
    unfold execOp
    simp [ho, hX, h]
  unfold Oper.wp
  rw [e]
  exact hK _ _ (h _ _ (vf_wr _ _ _))
end
@[go_sem] theorem run_store_float {P : Program} {w : World} {a : Addr} {m : Mode} (k : FloatKind) (b : Nat) : (store a (.float k b) m).run P w = stored P w a (.float k b) m := run_store P w a _ m rfl
@[go_sem] theorem run_store_complex {P : Program} {w : World} {a : Addr} {m : Mode} (k : FloatKind) (x y : Nat) : (store a (.complex k x y) m).run P w = stored P w a (.complex k x y) m := run_store P w a _ m rfl
attribute [go_sem] demU shapeR valsR
@[simp, go_sem] theorem below_drewN_iff (B : Nat) (a w : World) (n : Nat) : Below B a (w.drewN n) ↔ Below B a w :=
  ⟨fun h => h.trans ⟨rfl, rfl, rfl, Nat.le_refl _, fun _ _ => rfl⟩, fun h => below_drewN h n⟩
@[simp, go_sem] theorem below_drewN_left (B : Nat) (a w : World) (n : Nat) : Below B (a.drewN n) w ↔ Below B a w :=
  ⟨fun h => ⟨h.os, h.tape, h.output, h.size, h.block⟩, fun h => ⟨h.os, h.tape, h.output, h.size, h.block⟩⟩
theorem bcellB {B : Nat} {W w1 : World} (hb : Below B W w1) : (∀ b o, b < B → w1.cell? ⟨b, o, none⟩ = W.cell? ⟨b, o, none⟩) ∧ (∀ b o, b < B → w1.frozen? ⟨b, o, none⟩ = W.frozen? ⟨b, o, none⟩) :=
  ⟨fun b o h => hb.cell (p := ⟨b, o, none⟩) h, fun b o h => hb.frozen (p := ⟨b, o, none⟩) h⟩
theorem bcell {W w1 : World} (hb : Below W.heap.size W w1) : (∀ b o, b < W.heap.size → w1.cell? ⟨b, o, none⟩ = W.cell? ⟨b, o, none⟩) ∧ (∀ b o, b < W.heap.size → w1.frozen? ⟨b, o, none⟩ = W.frozen? ⟨b, o, none⟩) :=
  ⟨fun b o h => hb.cell (p := ⟨b, o, none⟩) h, fun b o h => hb.frozen (p := ⟨b, o, none⟩) h⟩
end Go.Proofs.Ytkkcjpldldhcgaa.Step
