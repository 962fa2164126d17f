/-
  A region that draws its order, walked once in the order of the text, where each operation may yield ANY value of a set (a drawn NaN's bits), and leaves the world in a class; the last operations (a store ..) come behind all others. Plain lemmas, for every program.
  Conditions: none.
-/
import Derived.StillTail
import Derived.Deep.Draws
import Derived.WalkKit
namespace Go.Proofs.Ytkkcjpldldhcgaa.Reg
open Go
section
variable {P : Program} {ops : Array Oper} {md : Region.Mode} {C : World → Prop} {S : FuncId → Array Value → Value → Prop}

/-- What is asked of an outcome whatever follows. -/
def shapeR (P : Program) (C : World → Prop) (S : FuncId → Array Value → Value → Prop) : Result Next → Prop
  | .ok (.value _) w' => C w'
  | .ok .skip w' => C w'
  | .ok (.enter f args) w' => Calls P f args w' (fun e w'' => ∃ v, e = .returned v ∧ S f args v ∧ C w'')
  | _ => False
/-- The values that it may yield. -/
def valsR (S : FuncId → Array Value → Value → Prop) : Result Next → Value → Prop
  | .ok (.value u) _, v => v = u
  | .ok .skip _, v => v = undef
  | .ok (.enter f args) _, v => S f args v
  | _, _ => False

def demU (P : Program) (C : World → Prop) (S : FuncId → Array Value → Value → Prop) (K : Value → Prop) (r : Result Next) : Prop :=
  shapeR P C S r ∧ ∀ v, valsR S r v → K v

def dem (P : Program) (o : Oper) (a : Act) (C : World → Prop) (S : FuncId → Array Value → Value → Prop) (K : Act → Prop) : Prop :=
  ∀ w, C w → demU P C S (fun v => K (a.put o.dst v)) ((execOp a.eval o).run P w)

def wpDem (P : Program) (ops : Array Oper) (C : World → Prop) (S : FuncId → Array Value → Value → Prop) (Q : Act → Prop) : List Oper → Act → Prop
  | [], a => Q a
  | o :: rest, a => if Region.wanted o (yielded ops a.tmps) then dem P o a C S (wpDem P ops C S Q rest) else wpDem P ops C S Q rest (a.put o.dst undef)

theorem wpDem_nil {Q : Act → Prop} {a : Act} (h : Q a) : wpDem P ops C S Q [] a := h

def qOp (P : Program) (ops : Array Oper) (C : World → Prop) (S : FuncId → Array Value → Value → Prop) (i : Nat) (K : Act → Prop) (a : Act) : Prop :=
  match ops[i]? with
  | none => K a
  | some o => if Region.wanted o (yielded ops a.tmps) then dem P o a C S K else K (a.put o.dst undef)

theorem dem_mono {o : Oper} {a : Act} {K K' : Act → Prop} (h : ∀ a, K a → K' a) (hh : dem P o a C S K) : dem P o a C S K' :=
  fun w hw => ⟨(hh w hw).1, fun v hv => h _ ((hh w hw).2 v hv)⟩

theorem qOp_mono {i : Nat} {a : Act} {K K' : Act → Prop} (h : ∀ a, K a → K' a) (hh : qOp P ops C S i K a) : qOp P ops C S i K' a := by
  unfold qOp at *
  split
  · exact h _ (by simpa [*] using hh)
  · rename_i o ho
    simp only [ho] at hh
    split
    · rename_i hw; simp only [hw, if_true] at hh; exact dem_mono h hh
    · rename_i hw; simp only [hw] at hh; exact h _ hh

theorem vals_some {r : Result Next} (h : shapeR P C S r) : ∃ v, valsR S r v := by
  cases r with
  | ok n w' =>
    cases n <;> simp only [shapeR] at h <;> simp only [valsR]
    case value u => exact ⟨u, rfl⟩
    case skip => exact ⟨undef, rfl⟩
    case enter f args =>
      obtain ⟨e, w'', fr, ⟨v, _, hv, _⟩, _⟩ := h []
      exact ⟨v, hv⟩
  | halt x w' => exact h.elim

theorem wp_of_dem {o : Oper} {a : Act} {K : Act → Prop} {K' : Act → World → Prop} {Q' : Exit → Act → World → Prop} {w : World} (hw : C w) (h : ∀ a w', C w' → K a → K' a w') (hh : dem P o a C S K) : o.wp P a w K' Q' := by
  have h3 := hh w hw
  unfold Oper.wp
  generalize (execOp a.eval o).run P w = r at *
  obtain ⟨h4, h5⟩ := h3
  cases r with
  | ok n w' =>
    cases n <;> simp only [shapeR] at h4 <;> simp only [valsR] at h5 <;> simp only [Oper.upon]
    case value u => exact h _ _ h4 (h5 u rfl)
    case skip => exact h _ _ h4 (h5 undef rfl)
    case enter f args =>
      exact h4.mono fun e w'' ⟨v, he, hs, hc⟩ => by subst he; exact h _ _ hc (h5 v hs)
  | halt x w' => exact h4.elim

theorem wpOp_of_qOp {i : Nat} {a : Act} {K : Act → Prop} {K' : Act → World → Prop} {Q' : Exit → Act → World → Prop} {w : World} (hC : C w) (h : ∀ a w', C w' → K a → K' a w') (hh : qOp P ops C S i K a) : wpOp P ops Q' i K' a w := by
  unfold qOp at hh
  unfold wpOp
  split
  · rename_i ho; simp only [ho] at hh; exact h _ _ hC hh
  · rename_i o ho
    simp only [ho] at hh
    split
    · rename_i hw; simp only [hw, if_true] at hh; exact .inl (wp_of_dem hC h hh)
    · rename_i hw; simp only [hw] at hh; exact h _ _ hC hh

theorem qOp_w {i : Nat} {o : Oper} {K : Act → Prop} {a : Act} (hi : ops[i]? = some o) (hw : Region.wanted o (yielded ops a.tmps) = true) (h : qOp P ops C S i K a) :
    ∀ w, C w → shapeR P C S ((execOp a.eval o).run P w) ∧ ∀ v, valsR S ((execOp a.eval o).run P w) v → K (a.put o.dst v) := by
  unfold qOp at h
  simp only [hi, hw, if_true] at h
  exact fun w hw => ⟨(h w hw).1, (h w hw).2⟩
theorem qOp_of_w {i : Nat} {o : Oper} {K : Act → Prop} {a : Act} (hi : ops[i]? = some o) (hw : Region.wanted o (yielded ops a.tmps) = true)
    (h : ∀ w, C w → shapeR P C S ((execOp a.eval o).run P w) ∧ ∀ v, valsR S ((execOp a.eval o).run P w) v → K (a.put o.dst v)) : qOp P ops C S i K a := by
  unfold qOp
  simp only [hi, hw, if_true]
  exact fun w hw => ⟨(h w hw).1, (h w hw).2⟩
theorem qOp_n {i : Nat} {o : Oper} {K : Act → Prop} {a : Act} (hi : ops[i]? = some o) (hw : Region.wanted o (yielded ops a.tmps) = false) (h : qOp P ops C S i K a) : K (a.put o.dst undef) := by
  unfold qOp at h
  simpa only [hi, hw, Bool.false_eq_true, if_false] using h
theorem qOp_of_n {i : Nat} {o : Oper} {K : Act → Prop} {a : Act} (hi : ops[i]? = some o) (hw : Region.wanted o (yielded ops a.tmps) = false) (h : K (a.put o.dst undef)) : qOp P ops C S i K a := by
  unfold qOp
  simpa only [hi, hw, Bool.false_eq_true, if_false] using h

/-- Two operations that are apart may change places. -/
theorem qOp_swap {i j : Nat} {oi oj : Oper} (hi : ops[i]? = some oi) (hj : ops[j]? = some oj) (hap : oi.apart ops oj = true)
    (hsi : ∀ cs b, oi.op ≠ .select cs b) (hsj : ∀ cs b, oj.op ≠ .select cs b) {K : Act → Prop} {a : Act} {w0 : World} (hw0 : C w0)
    (h : qOp P ops C S i (qOp P ops C S j K) a) : qOp P ops C S j (qOp P ops C S i K) a := by
  obtain ⟨h1, h2, h3⟩ := Oper.apart_spec hap
  have wj : ∀ v, Region.wanted oj (yielded ops (a.put oi.dst v).tmps) = Region.wanted oj (yielded ops a.tmps) := fun v => wanted_put oj a oi.dst v h1
  have wi : ∀ v, Region.wanted oi (yielded ops (a.put oj.dst v).tmps) = Region.wanted oi (yielded ops a.tmps) := fun v => wanted_put oi a oj.dst v h3
  have xj : ∀ v, execOp (a.put oi.dst v).eval oj = execOp a.eval oj := fun v => execOp_put oj hsj a oi.dst v h1
  have xi : ∀ v, execOp (a.put oj.dst v).eval oi = execOp a.eval oi := fun v => execOp_put oi hsi a oj.dst v h3
  have pc : ∀ u v, (a.put oi.dst u).put oj.dst v = (a.put oj.dst v).put oi.dst u := fun u v => Act.put_comm a u v h2
  by_cases hwi : Region.wanted oi (yielded ops a.tmps) = true
  · by_cases hwj : Region.wanted oj (yielded ops a.tmps) = true
    · have h' := qOp_w hi hwi h
      have h'' : ∀ w, C w → ∀ u, valsR S ((execOp a.eval oi).run P w) u → ∀ w', C w' → shapeR P C S ((execOp a.eval oj).run P w') ∧ ∀ v, valsR S ((execOp a.eval oj).run P w') v → K ((a.put oi.dst u).put oj.dst v) := by
        intro w hw u hu
        have := qOp_w hj (by rw [wj]; exact hwj) ((h' w hw).2 u hu)
        rw [xj] at this
        exact this
      refine qOp_of_w hj hwj fun w hw => ⟨?_, fun v hv => qOp_of_w hi (by rw [wi]; exact hwi) fun w1 hw1 => ?_⟩
      · obtain ⟨u, hu⟩ := vals_some (h' w0 hw0).1
        exact (h'' w0 hw0 u hu w hw).1
      · rw [xi]
        refine ⟨(h' w1 hw1).1, fun u hu => ?_⟩
        rw [← pc]
        exact (h'' w1 hw1 u hu w hw).2 v hv
    · have hwj : Region.wanted oj (yielded ops a.tmps) = false := by simpa using hwj
      have h' := qOp_w hi hwi h
      refine qOp_of_n hj hwj (qOp_of_w hi (by rw [wi]; exact hwi) fun w hw => ?_)
      rw [xi]
      refine ⟨(h' w hw).1, fun u hu => ?_⟩
      have := qOp_n hj (by rw [wj]; exact hwj) ((h' w hw).2 u hu)
      rw [← pc]
      exact this
  · have hwi : Region.wanted oi (yielded ops a.tmps) = false := by simpa using hwi
    have h' := qOp_n hi hwi h
    by_cases hwj : Region.wanted oj (yielded ops a.tmps) = true
    · have h'' := qOp_w hj (by rw [wj]; exact hwj) h'
      rw [xj] at h''
      refine qOp_of_w hj hwj fun w hw => ⟨(h'' w hw).1, fun v hv => qOp_of_n hi (by rw [wi]; exact hwi) ?_⟩
      rw [← pc]
      exact (h'' w hw).2 v hv
    · have hwj : Region.wanted oj (yielded ops a.tmps) = false := by simpa using hwj
      have h'' := qOp_n hj (by rw [wj]; exact hwj) h'
      refine qOp_of_n hj hwj (qOp_of_n hi (by rw [wi]; exact hwi) ?_)
      rw [← pc]
      exact h''

theorem qOp_some {i : Nat} {K : Act → Prop} {a : Act} {w0 : World} (hw0 : C w0) (h : qOp P ops C S i K a) : ∃ a', K a' := by
  unfold qOp at h
  split at h
  · exact ⟨_, h⟩
  · split at h
    · obtain ⟨u, hu⟩ := vals_some (h w0 hw0).1
      exact ⟨_, (h w0 hw0).2 u hu⟩
    · exact ⟨_, h⟩

/-- The head of a region in whatever order. -/
def wpAnyD (P : Program) (md : Region.Mode) (ops : Array Oper) (C : World → Prop) (S : FuncId → Array Value → Value → Prop) (n : Nat) (L : Array Bool → Act → Prop) : Nat → Array Bool → Act → Prop
  | 0, listed, a => L listed a
  | f + 1, listed, a =>
    Region.ready md ops listed ≠ [] ∧ ∀ i ∈ Region.ready md ops listed, i < n ∧ qOp P ops C S i (wpAnyD P md ops C S n L f (listed.setIfInBounds i true)) a

theorem wpAny_of_head {n g : Nat} {L : Array Bool → Act → Prop} {Q' : Exit → Act → World → Prop} (hL : ∀ listed a w, C w → L listed a → wpAny P md ops Q' g listed a w) :
    ∀ (f : Nat) (listed : Array Bool) (a : Act) (w : World), C w → wpAnyD P md ops C S n L f listed a → wpAny P md ops Q' (f + g) listed a w
  | 0, listed, a, w, hw, h => by rw [Nat.zero_add]; exact hL _ _ _ hw h
  | f + 1, listed, a, w, hw, h => by
    rw [show f + 1 + g = (f + g) + 1 by omega]
    exact ⟨fun h0 => absurd h0 h.1, fun i hi => wpOp_of_qOp hw (fun a' w' hw' h' => wpAny_of_head hL f _ a' w' hw' h') (h.2 i hi).2⟩

theorem wpAnyD_first {n i : Nat} {oi : Oper} {L : Array Bool → Act → Prop} {w0 : World} (hw0 : C w0) (hi : ops[i]? = some oi) (hsel : ∀ (j : Nat) (o : Oper) cs b, ops[j]? = some o → o.op ≠ .select cs b)
    (hs : Region.sinkB md ops n = true) (hc : Region.chainB md ops n = true) (hn : n < ops.size) (hin : i < n)
    (hdone : ∀ listed a, L listed a → ∀ j ∈ Region.ready md ops listed, n ≤ j) :
    ∀ (f : Nat) (listed : Array Bool) (a : Act), HeadInv md ops n listed →
      (∀ j oj, ops[j]? = some oj → j ≠ i → listed.getD j true = false → (∀ e ∈ oj.after, Region.binds md e = true → e.on ≠ i) → oi.apart ops oj = true) →
      i ∈ Region.ready md ops listed →
      qOp P ops C S i (wpAnyD P md ops C S n L f (listed.setIfInBounds i true)) a → wpAnyD P md ops C S n L (f + 1) listed a := by
  intro f
  induction f with
  | zero =>
    intro listed a inv _ hr H
    have hun := (mem_ready.1 hr).1
    refine ⟨fun h => (by rw [h] at hr; cases hr), fun j hj => ?_⟩
    have hjn : j < n := by
      rcases Nat.lt_or_ge j n with h | h
      · exact h
      · exact absurd hj (tail_waits hs hc hn inv _ i rfl hin hun j h)
    refine ⟨hjn, ?_⟩
    by_cases hji : j = i
    · subst hji; exact H
    · obtain ⟨a', ha'⟩ := qOp_some hw0 H
      have := hdone _ _ ha' j (ready_mono hj hji)
      omega
  | succ f ih =>
    intro listed a inv hfree hr H
    have hun := (mem_ready.1 hr).1
    refine ⟨fun h => (by rw [h] at hr; cases hr), fun j hj => ?_⟩
    have hjn : j < n := by
      rcases Nat.lt_or_ge j n with h | h
      · exact h
      · exact absurd hj (tail_waits hs hc hn inv _ i rfl hin hun j h)
    refine ⟨hjn, ?_⟩
    by_cases hji : j = i
    · subst hji; exact H
    · obtain ⟨hjun, oj, hoj, hall⟩ := mem_ready.1 hj
      have hnot : ∀ e ∈ oj.after, Region.binds md e = true → e.on ≠ i := fun e he hb heq => by
        have h1 := hall e he hb
        rw [heq, getD_both hun] at h1
        cases h1
      have h1 : qOp P ops C S i (qOp P ops C S j (wpAnyD P md ops C S n L f ((listed.setIfInBounds i true).setIfInBounds j true))) a :=
        qOp_mono (fun a' h => (h.2 j (ready_mono hj hji)).2) H
      have h2 := qOp_swap hi hoj (hfree j oj hoj hji hjun hnot) (fun cs b => hsel i oi cs b hi) (fun cs b => hsel j oj cs b hoj) hw0 h1
      have hfree' : ∀ k ok, ops[k]? = some ok → k ≠ i → (listed.setIfInBounds j true).getD k true = false →
          (∀ e ∈ ok.after, Region.binds md e = true → e.on ≠ i) → oi.apart ops ok = true := fun k ok hk hki hun hno => by
        refine hfree k ok hk hki ?_ hno
        by_cases hjk : j = k
        · subst hjk; exact hjun
        · rw [getD_set_ne true hjk] at hun; exact hun
      refine qOp_mono (fun a' h3 => ih (listed.setIfInBounds j true) a' (inv.set hj hjn) hfree' (ready_mono hr (Ne.symm hji)) (by rw [Array.setIfInBounds_comm _ _ hji]; exact h3)) h2

theorem wpAnyD_lex {n g : Nat} {Lq : Act → Prop} {w0 : World} (hw0 : C w0) (hsel : Region.noSelect ops = true) (hs : Region.sinkB md ops n = true) (hc : Region.chainB md ops n = true) (hn : n < ops.size) :
    ∀ (l : List Oper) (k : Nat) (listed : Array Bool) (a : Act), (∀ j, j < l.length → l[j]? = ops[k + j]?) → k + l.length = n → HeadInv md ops n listed →
    Region.lexHead md ops g l.length k listed = true → wpDem P ops C S Lq l a →
    wpAnyD P md ops C S n (fun listed' a' => Region.seqB md ops g n listed' = true ∧ Lq a') l.length listed a
  | [], k, listed, a, _, hk, _, hB, h => by
    have : k = n := by simpa using hk
    subst this
    exact ⟨by simpa [Region.lexHead] using hB, h⟩
  | o :: l, k, listed, a, hl, hk, inv, hB, h => by
    have h0 : ops[k]? = some o := by simpa using (hl 0 (by simp)).symm
    simp only [List.length_cons, Region.lexHead, Bool.and_eq_true] at hB
    obtain ⟨⟨hr, hf⟩, hB'⟩ := hB
    have hkn : k < n := by simp only [List.length_cons] at hk; omega
    have hr' : k ∈ Region.ready md ops listed := by simpa using hr
    have hst : qOp P ops C S k (wpDem P ops C S Lq l) a := by unfold qOp; simp only [h0]; exact h
    refine wpAnyD_first hw0 h0 (Region.noSelect_spec hsel) hs hc hn hkn (fun listed' a' hL => seqB_ready hL.1) l.length listed a inv (Region.free_spec h0 hf) hr' ?_
    exact qOp_mono (fun a' h' => wpAnyD_lex hw0 hsel hs hc hn l (k + 1) _ _ (fun j hj => by have := hl (j + 1) (by simp; omega); simpa [Nat.add_assoc, Nat.add_comm 1 j] using this) (by simp only [List.length_cons] at hk; omega) (inv.set hr' hkn) hB' h') hst

/-- A region that draws: its first n operations in the order of the text, each yielding any of its values in any world of the class; the rest behind them, in any world of the class. -/
theorem wp_region_dem {id : Nat} {Q : Exit → Act → World → Prop} {a : Act} {w : World} {l : List Oper} (n : Nat) (C : World → Prop) (S : FuncId → Array Value → Value → Prop)
    (hm : P.follows .mixedOrders = true) (hB : Region.lexTailB .any l.toArray n = true) (hC : C w.drew)
    (h : wpDem P l.toArray C S (fun a' => ∀ w', C w' → wpList P l.toArray Q (l.drop n) a' w') (l.take n) a) : (Code.region id l.toArray true).wp P Q a w := by
  simp only [Region.lexTailB, Bool.and_eq_true, decide_eq_true_eq] at hB
  obtain ⟨⟨⟨⟨hsel, hn⟩, hs⟩, hc⟩, hlex⟩ := hB
  have hn' : n < l.length := by simpa using hn
  have htl : (l.take n).length = n := by simp; omega
  have hdl : (l.drop n).length = l.toArray.size - n := by simp
  have inv0 : HeadInv .any l.toArray n (Array.replicate l.toArray.size false) :=
    ⟨by simp, fun j oj _ hl => (by rw [getD_replicate_false] at hl; cases hl), fun t _ ht => getD_in (by simpa using ht) (getD_replicate_false _ _)⟩
  have H := wpAnyD_lex (md := .any) (g := l.toArray.size - n) hC hsel hs hc hn (l.take n) 0 _ a (fun j hj => by
    have hj' : j < n := by rw [htl] at hj; exact hj
    simp [hj']) (by simpa using htl) inv0 (by rw [htl]; exact hlex) h
  refine wp_region_any hm ?_
  have := wpAny_of_head (Q' := Q) (g := l.toArray.size - n) (fun listed a' w' hw' hL => by
    have := wpAny_of_seq (md := .any) (Q' := Q) (l.drop n) n listed a' w' (fun j => by simp [List.getElem?_drop]) (by rw [hdl]; exact hL.1) (hL.2 w' hw')
    rwa [hdl] at this) _ _ _ _ hC H
  rw [htl, show n + (l.toArray.size - n) = l.toArray.size by omega] at this
  exact this

section
variable {R : Act → Prop} {a : Act} {rest : List Oper} {o : Oper}
theorem wpDem_step (h : ∀ K : Act → Prop, (∀ a, wpDem P ops C S R rest a → K a) → if Region.wanted o (yielded ops a.tmps) then dem P o a C S K else K (a.put o.dst undef)) : wpDem P ops C S R (o :: rest) a :=
  h _ (fun _ h => h)
theorem wpDem_want (hw : Region.wanted o (yielded ops a.tmps) = true) (h : ∀ K : Act → Prop, (∀ a, wpDem P ops C S R rest a → K a) → dem P o a C S K) : wpDem P ops C S R (o :: rest) a :=
  wpDem_step fun K hK => by rw [if_pos hw]; exact h K hK
theorem wpDem_skip (hw : Region.wanted o (yielded ops a.tmps) = false) (h : wpDem P ops C S R rest (a.put o.dst undef)) : wpDem P ops C S R (o :: rest) a :=
  wpDem_step fun K hK => by rw [if_neg (by rw [hw]; exact Bool.false_ne_true)]; exact hK _ h
theorem wpDem_plain (hg : o.guard = none) (h : ∀ K : Act → Prop, (∀ a, wpDem P ops C S R rest a → K a) → dem P o a C S K) : wpDem P ops C S R (o :: rest) a :=
  wpDem_step fun K hK => by simp only [Region.wanted, hg, if_true]; exact h K hK
end
end
attribute [irreducible] wpDem
end Go.Proofs.Ytkkcjpldldhcgaa.Reg
