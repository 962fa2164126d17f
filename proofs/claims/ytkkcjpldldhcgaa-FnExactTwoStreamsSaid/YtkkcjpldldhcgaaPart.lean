/-
  Slices of particles in memory: 'PRd' (it reads so), 'POw' (it is the call's own); append to one. Plain lemmas, over this seat's number of Particle.
  Conditions: none.
-/
import Derived.Test.YtkkcjpldldhcgaaApp
namespace Go.Proofs.Ytkkcjpldldhcgaa.Part
open Go Go.RowKit Go.Proofs.Ytkkcjpldldhcgaa.Fl Go.Proofs.Ytkkcjpldldhcgaa.Reg Go.Proofs.Ytkkcjpldldhcgaa.Step Go.Proofs.Ytkkcjpldldhcgaa.Mem Go.Proofs.Ytkkcjpldldhcgaa.Help Go.Proofs.Ytkkcjpldldhcgaa.App

@[simp, go_sem] theorem cell_drewN_alloc (w : World) (m : Nat) (o : Obj) (a : Addr) : ((w.drewN m).alloc o).cell? a = (w.alloc o).cell? a := rfl
@[simp, go_sem] theorem frozen_drewN_alloc (w : World) (m : Nat) (o : Obj) (a : Addr) : ((w.drewN m).alloc o).frozen? a = (w.alloc o).frozen? a := rfl

/-- The bits of a particle. -/
structure Pa where
  xr : Nat
  xi : Nat
  vr : Nat
  vi : Nat
  q : Nat
  m : Nat
def pz : Pa := ⟨0, 0, 0, 0, 0, 0⟩
/-- Its cells. -/
def pc (p : Pa) : List Value := [.complex .f32 p.xr p.xi, .complex .f32 p.vr p.vi, .float .f32 p.q, .float .f32 p.m]
def pcs (ps : List Pa) : List Value := ps.flatMap pc
theorem length_pc (p : Pa) : (pc p).length = 4 := rfl
theorem pcs_cons (p : Pa) (ps : List Pa) : pcs (p :: ps) = pc p ++ pcs ps := by simp [pcs]
theorem pcs_append (ps qs : List Pa) : pcs (ps ++ qs) = pcs ps ++ pcs qs := by simp [pcs]
theorem pcs_one (p : Pa) : pcs [p] = pc p := by simp [pcs]
theorem length_pcs (ps : List Pa) : (pcs ps).length = ps.length * 4 := by
  induction ps with
  | nil => rfl
  | cons p ps ih => rw [pcs_cons, List.length_append, ih, length_pc, List.length_cons]; omega
theorem pcs_get : ∀ (ps : List Pa) (i j : Nat), i < ps.length → j < 4 → (pcs ps)[i * 4 + j]? = (pc (ps.getD i pz))[j]?
  | [], i, j, h, _ => by cases h
  | p :: ps, 0, j, _, hj => by
    rw [pcs_cons, Nat.zero_mul, Nat.zero_add, List.getElem?_append_left (by rw [length_pc]; exact hj)]
    rfl
  | p :: ps, i + 1, j, h, hj => by
    have e : (i + 1) * 4 + j = (i * 4 + j) + (pc p).length := by rw [length_pc]; omega
    rw [pcs_cons, e, List.getElem?_append_right (by omega), Nat.add_sub_cancel, pcs_get ps i j (by simpa using h) hj]
    rfl
theorem pcs_set : ∀ (ps : List Pa) (i j : Nat) (u : Value) (p' : Pa), i < ps.length → j < 4 → (pc (ps.getD i pz)).set j u = pc p' → (pcs ps).set (i * 4 + j) u = pcs (ps.set i p')
  | [], i, j, _, _, h, _, _ => by cases h
  | p :: ps, 0, j, u, p', _, hj, e => by
    rw [pcs_cons, Nat.zero_mul, Nat.zero_add, List.set_append_left _ _ (by rw [length_pc]; exact hj), List.set_cons_zero, pcs_cons]
    exact congrArg (· ++ pcs ps) e
  | p :: ps, i + 1, j, u, p', h, hj, e => by
    have e1 : (i + 1) * 4 + j = (i * 4 + j) + (pc p).length := by rw [length_pc]; omega
    rw [pcs_cons, e1, List.set_append_right _ _ (by omega), Nat.add_sub_cancel, pcs_set ps i j u p' (by simpa using h) hj e, List.set_cons_succ, pcs_cons]

/-- What the cells of the particle k hold. -/
def At (w : World) (b off : Nat) (p : Pa) : Prop :=
  w.cell? ⟨b, off, none⟩ = some (.complex .f32 p.xr p.xi) ∧ w.cell? ⟨b, off + 1, none⟩ = some (.complex .f32 p.vr p.vi) ∧ w.cell? ⟨b, off + 2, none⟩ = some (.float .f32 p.q) ∧ w.cell? ⟨b, off + 3, none⟩ = some (.float .f32 p.m)
theorem At.below {w w' : World} {b off : Nat} {p : Pa} (h : At w b off p) (hb : Below w.heap.size w w') : At w' b off p := by
  have hl := World.block_lt_of_cell? w _ h.1
  exact ⟨(hb.cell (p := ⟨b, off, none⟩) hl).trans h.1, (hb.cell (p := ⟨b, off + 1, none⟩) hl).trans h.2.1, (hb.cell (p := ⟨b, off + 2, none⟩) hl).trans h.2.2.1, (hb.cell (p := ⟨b, off + 3, none⟩) hl).trans h.2.2.2⟩
theorem At.lt {w : World} {b off : Nat} {p : Pa} (h : At w b off p) : b < w.heap.size := World.block_lt_of_cell? w _ h.1

/-- A slice at a reads as the particles ps. -/
def PRd (w : World) (a : Option Addr) (ps : List Pa) : Prop :=
  ps = [] ∨ ∃ b off, a = some ⟨b, off, none⟩ ∧ ∀ i, i < ps.length → At w b (off + i * 4) (ps.getD i pz)
/-- A slice at the head of a row of the call's own. -/
def POw (w : World) (base : Nat) (a : Option Addr) (cap : Nat) (ps : List Pa) : Prop := w.ownsRow base 70 4 (.slice a ps.length cap) ps.length (pcs ps)

theorem PRd.at {w : World} {a : Option Addr} {ps : List Pa} (h : PRd w a ps) {i : Nat} (hi : i < ps.length) :
    ∃ b off, a = some ⟨b, off, none⟩ ∧ ∀ i, i < ps.length → At w b (off + i * 4) (ps.getD i pz) := by
  rcases h with rfl | h
  · cases hi
  · exact h
theorem PRd.below {w w' : World} {a : Option Addr} {ps : List Pa} (h : PRd w a ps) (hb : Below w.heap.size w w') : PRd w' a ps := by
  rcases h with h | ⟨b, off, hp, hc⟩
  · exact Or.inl h
  · exact Or.inr ⟨b, off, hp, fun i hi => (hc i hi).below hb⟩

theorem POw.block {w : World} {base : Nat} {a : Option Addr} {cap : Nat} {ps : List Pa} (h : POw w base a cap ps) :
    (a = none ∧ ps = [] ∧ cap = 0) ∨ ∃ g cur, a = some ⟨g, 0, none⟩ ∧ base ≤ g ∧ g < w.heap.size ∧ w.heap[g]? = some (.cells cur 70 (0, 0)) ∧ ps.length ≤ cap ∧ cap ≤ maxLen ∧ cur.size = cap * 4 ∧ cur.toList.take (ps.length * 4) = pcs ps := by
  obtain ⟨_, h⟩ := h
  rcases h with ⟨h, h0⟩ | ⟨g, cap', cur, hv, hb, hg, hn, hm, hs, ht⟩
  · left
    simp only [Value.slice.injEq] at h
    exact ⟨h.1, List.eq_nil_of_length_eq_zero h0, h.2.2⟩
  · right
    simp only [Value.slice.injEq] at hv
    obtain ⟨h1, _, rfl⟩ := hv
    exact ⟨g, cur, h1, hb, (Array.getElem?_eq_some_iff.1 hg).1, hg, hn, hm, hs, ht⟩
theorem POw.of_block {w : World} {base g cap : Nat} {cur : Array Value} {ps : List Pa} (hb : base ≤ g) (hg : w.heap[g]? = some (.cells cur 70 (0, 0))) (hn : ps.length ≤ cap) (hm : cap ≤ maxLen) (hs : cur.size = cap * 4) (ht : cur.toList.take (ps.length * 4) = pcs ps) :
    POw w base (some ⟨g, 0, none⟩) cap ps :=
  ⟨length_pcs ps, .inr ⟨g, cap, cur, rfl, hb, hg, hn, hm, hs, ht⟩⟩
theorem POw.cells {w : World} {base : Nat} {a : Option Addr} {cap : Nat} {ps : List Pa} (h : POw w base a cap ps) (h0 : 0 < ps.length) :
    ∃ g, a = some ⟨g, 0, none⟩ ∧ base ≤ g ∧ g < w.heap.size ∧ (∀ i, i < ps.length → At w g (i * 4) (ps.getD i pz)) ∧ (∀ i, w.frozen? ⟨g, i, none⟩ = false) := by
  rcases h.block with ⟨_, rfl, _⟩ | ⟨g, cur, hp, hb, hlt, hg, hn, hm, hs, ht⟩
  · cases h0
  · have key : ∀ i j u, i < ps.length → j < 4 → (pc (ps.getD i pz))[j]? = some u → w.cell? ⟨g, i * 4 + j, none⟩ = some u := by
      intro i j u hi hj hu
      simp only [World.cell?, hg, Option.isSome_none, Bool.false_eq_true, if_false]
      have h1 : (cur.toList.take (ps.length * 4))[i * 4 + j]? = (pcs ps)[i * 4 + j]? := by rw [ht]
      rw [List.getElem?_take, if_pos (by omega), pcs_get ps i j hi hj, hu] at h1
      rw [← Array.getElem?_toList, h1]
    exact ⟨g, hp, hb, hlt, fun i hi => ⟨key i 0 _ hi (by omega) rfl, key i 1 _ hi (by omega) rfl, key i 2 _ hi (by omega) rfl, key i 3 _ hi (by omega) rfl⟩, fun i => by simp [World.frozen?, hg]⟩
theorem POw.rd {w : World} {base : Nat} {a : Option Addr} {cap : Nat} {ps : List Pa} (h : POw w base a cap ps) : PRd w a ps := by
  by_cases h0 : 0 < ps.length
  · obtain ⟨g, hp, _, _, hc, _⟩ := h.cells h0
    exact Or.inr ⟨g, 0, hp, fun i hi => by simpa using hc i hi⟩
  · exact Or.inl (List.eq_nil_of_length_eq_zero (by omega))
theorem POw.nil (w : World) (base : Nat) : POw w base none 0 [] := ⟨rfl, .inl ⟨rfl, rfl⟩⟩
theorem POw.below {w w' : World} {base : Nat} {a : Option Addr} {cap : Nat} {ps : List Pa} (h : POw w base a cap ps) (hb : Below w.heap.size w w') : POw w' base a cap ps := by
  rcases h.block with ⟨rfl, rfl, rfl⟩ | ⟨g, cur, rfl, hb', hlt, hg, hn, hm, hs, ht⟩
  · exact POw.nil _ _
  · exact POw.of_block hb' ((hb.block g hlt).trans hg) hn hm hs ht
theorem POw.mono {w : World} {base base' : Nat} {a : Option Addr} {cap : Nat} {ps : List Pa} (h : POw w base a cap ps) (hb : base' ≤ base) : POw w base' a cap ps := by
  rcases h.block with ⟨rfl, rfl, rfl⟩ | ⟨g, cur, rfl, hb', hlt, hg, hn, hm, hs, ht⟩
  · exact POw.nil _ _
  · exact POw.of_block (by omega) hg hn hm hs ht
theorem POw.gb {w w' : World} {base : Nat} {a : Option Addr} {cap : Nat} {ps : List Pa} {row : Option Nat} (h : POw w base a cap ps) (hg : w.grownBy w' row) (hne : ∀ x, a = some x → some x.block ≠ row) : POw w' base a cap ps := by
  rcases h.block with ⟨rfl, rfl, rfl⟩ | ⟨g, cur, rfl, hb', hlt, hgg, hn, hm, hs, ht⟩
  · exact POw.nil _ _
  · exact POw.of_block hb' ((hg.block g hlt (hne ⟨g, 0, none⟩ rfl)).trans hgg) hn hm hs ht
theorem POw.lt {w : World} {base : Nat} {a : Option Addr} {cap : Nat} {ps : List Pa} (h : POw w base a cap ps) : ∀ x, a = some x → base ≤ x.block ∧ x.block < w.heap.size := by
  rcases h.block with ⟨rfl, rfl, rfl⟩ | ⟨g, cur, rfl, hb', hlt, _⟩
  · intro x hx; cases hx
  · intro x hx; cases hx; exact ⟨hb', hlt⟩
theorem POw.drewN {w : World} {base : Nat} {a : Option Addr} {cap : Nat} {ps : List Pa} (h : POw w base a cap ps) (n : Nat) : POw (w.drewN n) base a cap ps := h
theorem PRd.drewN {w : World} {a : Option Addr} {ps : List Pa} (h : PRd w a ps) (n : Nat) : PRd (w.drewN n) a ps := h
theorem PRd.nil (w : World) (a : Option Addr) : PRd w a [] := Or.inl rfl
/-- A store into a particle. -/
theorem POw.set {w : World} {base g cap : Nat} {ps : List Pa} (h : POw w base (some ⟨g, 0, none⟩) cap ps) {i : Nat} (hi : i < ps.length) (j : Nat) (hj : j < 4) (u : Value) (p' : Pa) (he : (pc (ps.getD i pz)).set j u = pc p') :
    POw (w.setCell ⟨g, i * 4 + j, none⟩ u) base (some ⟨g, 0, none⟩) cap (ps.set i p') := by
  rcases h.block with ⟨h, _⟩ | ⟨g', cur, hp, hb', hlt, hg, hn, hm, hs, ht⟩
  · cases h
  · cases hp
    refine POw.of_block (cur := cur.setIfInBounds (i * 4 + j) u) hb' ?_ (by simpa using hn) hm (by simpa using hs) ?_
    · simp only [World.setCell, Array.getElem?_modify]
      simp [hg]
    · rw [List.length_set, Array.toList_setIfInBounds, List.take_set, ht, pcs_set ps i j u p' hi hj he]

theorem info_part : (Try.prog.info? 70).map (fun i => (i.zero, i.size, i.bytes)) = some (some (.agg #[.complex .f32 0 0, .complex .f32 0 0, .float .f32 0, .float .f32 0]), 4, 24) := by kernel_rfl

theorem own_pslice {w : World} {base : Nat} {v : Value} {n : Nat} {ps : List Pa} (h : w.ownsRow base 70 4 v n (pcs ps)) : ∃ a cap, v = .slice a ps.length cap ∧ n = ps.length ∧ POw w base a cap ps := by
  have hl : n = ps.length := by have := h.1; rw [length_pcs] at this; omega
  subst hl
  rcases h.2 with ⟨hv, h0⟩ | ⟨g, cap, cur, hv, _⟩
  · exact ⟨none, 0, by rw [hv, h0], rfl, by rw [hv] at h; unfold POw; rw [h0] at h ⊢; exact h⟩
  · exact ⟨some ⟨g, 0, none⟩, cap, hv, rfl, by rw [hv] at h; exact h⟩

theorem run_papp (w : World) {base : Nat} {a : Option Addr} {cap : Nat} {ps : List Pa} (how : POw w base a cap ps) (src : Addr) (c : Nat) (r : Pa)
    (hcells : ∀ j u, (pc r)[j]? = some u → w.cell? (src.add j) = some u) (hlen : ps.length ≤ 1048576) (hbase : base ≤ w.heap.size) :
    ∃ p' cap' w', (Builtin.append_ #[48, 48] 48 #[.slice a ps.length cap, .slice (some src) 1 c]).run Try.prog w = .ok (.slice p' (ps.length + 1) cap') w' ∧
      POw w' base p' cap' (ps ++ [r]) ∧ w.grownBy w' (a.map (·.block)) ∧ (∀ x, p' = some x → a = some x ∨ w.heap.size ≤ x.block) := by
  obtain ⟨i0, hi, hz0, hz1, hz2⟩ := info_parts info_part
  have hnews : ∀ j u, (pcs [r])[j]? = some u → w.cell? (src.add j) = some u := by
    rw [pcs_one]; exact hcells
  have h1 : ∀ u ∈ pcs [r], u.oneCell' = true := by
    intro u hu
    rw [pcs_one] at hu
    simp only [pc, List.mem_cons, List.not_mem_nil, or_false] at hu
    rcases hu with rfl | rfl | rfl | rfl <;> rfl
  have hmax : ps.length + 1 ≤ maxLen := by unfold maxLen; omega
  have hl1 : (pcs [r]).length = 1 * 4 := by rw [length_pcs]; rfl
  obtain ⟨v', w', hr, ho, hg, hnil⟩ := run_append_own (P := Try.prog) w base 48 48 70 i0 (.agg #[.complex .f32 0 0, .complex .f32 0 0, .float .f32 0, .float .f32 0]) 4 24 Try.underlying48 hi hz0 hz1 hz2 rfl (by decide)
    (.slice a ps.length cap) ps.length (pcs ps) how src 1 c (pcs [r]) hl1 hnews h1 hmax (by omega) hbase
  rw [← pcs_append] at ho
  obtain ⟨p', cap', rfl, hn', ho'⟩ := own_pslice ho
  have hn2 : (ps ++ [r]).length = ps.length + 1 := by simp
  refine ⟨p', cap', w', by rw [← hn2]; exact hr, ho', by cases a <;> exact hg, ?_⟩
  intro x hx
  subst hx
  rcases how.block with ⟨rfl, rfl, rfl⟩ | ⟨g, cur, rfl, hb', hlt, hgg, hnn, hm, hs, ht⟩
  · right
    have hr2 := run_append_nil (P := Try.prog) w 48 48 70 i0 (.agg #[.complex .f32 0 0, .complex .f32 0 0, .float .f32 0, .float .f32 0]) Try.underlying48 hi hz0 src 1 c (pcs [r]) (by rw [hz1]; exact hl1) hnews (by omega) (by omega) (by rw [hz2]; omega)
    simp only [List.length_nil] at hr
    rw [hr2] at hr
    simp only [Result.ok.injEq, Value.slice.injEq, Option.some.injEq] at hr
    rw [← hr.1.1]; exact Nat.le_refl _
  · by_cases hroom : ps.length + 1 ≤ cap
    · left
      have hr2 := run_append_room (P := Try.prog) w 48 48 70 i0 Try.underlying48 hi g ps.length cap cur hgg src 1 c (pcs [r]) (by rw [hz1]; exact hl1) hnews h1 hroom (by rw [hz1, hl1]; omega)
      rw [hr2] at hr
      simp only [Result.ok.injEq, Value.slice.injEq] at hr
      exact hr.1.1
    · right
      have holds : ∀ j u, (pcs ps)[j]? = some u → w.cell? ((⟨g, 0, none⟩ : Addr).add j) = some u := World.ownsRow.cells how (g := g) rfl
      have hr2 := run_append_grow (P := Try.prog) w 48 48 70 i0 (.agg #[.complex .f32 0 0, .complex .f32 0 0, .float .f32 0, .float .f32 0]) Try.underlying48 hi hz0 ⟨g, 0, none⟩ ps.length cap (pcs ps) (by rw [hz1]; exact length_pcs ps) holds src 1 c (pcs [r]) (by rw [hz1]; exact hl1) hnews (by omega) (by omega) (growslice_fits (by omega) (by rw [hz2]; omega))
      rw [hr2] at hr
      simp only [Result.ok.injEq, Value.slice.injEq, Option.some.injEq] at hr
      rw [← hr.1.1]; exact Nat.le_refl _

/-- append(list, p). -/
theorem wpList_papp {ops : Array Oper} {Q : Exit → Act → World → Prop} {a : Act} {w0 : World} {rest : List Oper} {o : Oper} (hgd : o.guard = none) {s x : Operand} {r : Pa}
    (ho : o.op = .call { callee := .builtin .append, args := #[s, x], argTypes := #[48, 48] }) (hty : o.type = 48)
    {base n : Nat} {p : Option Addr} {cap : Nat} {ps : List Pa} (hs : a.eval s = .slice p n cap) (hx : a.eval x = .slice (some ⟨w0.heap.size, 0, none⟩) 1 1)
    (how : POw w0 base p cap ps) (hn : n = ps.length) (hlen : ps.length ≤ 1048576) (hbase : base ≤ w0.heap.size)
    (h : ∀ p' cap' w', POw w' base p' cap' (ps ++ [r]) → w0.grownBy w' (p.map (·.block)) → (∀ x, p' = some x → p = some x ∨ w0.heap.size ≤ x.block) → wpList Try.prog ops Q rest (a.put o.dst (.slice p' (n + 1) cap')) w') :
    wpList Try.prog ops Q (o :: rest) a (w0.alloc (.cells #[.complex .f32 r.xr r.xi, .complex .f32 r.vr r.vi, .float .f32 r.q, .float .f32 r.m] 70)) := by
  subst hn
  have hal : Below w0.heap.size w0 (w0.alloc (.cells #[.complex .f32 r.xr r.xi, .complex .f32 r.vr r.vi, .float .f32 r.q, .float .f32 r.m] 70)) := (Below.refl _ _).alloc (Nat.le_refl _) _
  obtain ⟨p', cap', w', hr, ho', hg, hp⟩ := run_papp (w0.alloc (.cells #[.complex .f32 r.xr r.xi, .complex .f32 r.vr r.vi, .float .f32 r.q, .float .f32 r.m] 70)) (how.below hal) ⟨w0.heap.size, 0, none⟩ 1 r
    (by
      intro j u hj
      rw [add_lit, Nat.zero_add]
      have hlt : j < 4 := by have := (List.getElem?_eq_some_iff.1 hj).1; rwa [length_pc] at this
      have : j = 0 ∨ j = 1 ∨ j = 2 ∨ j = 3 := by omega
      rcases this with rfl | rfl | rfl | rfl <;> (simp only [pc, List.getElem?_cons_zero, List.getElem?_cons_succ, Option.some.injEq] at hj; subst hj; simp)) hlen (by simp; omega)
  refine wpList_plain hgd fun K hK => ?_
  unfold Oper.wp execOp
  simp only [ho, resolve, invoke, builtin, Sem.run_bind, Sem.run_pure, Result.andThen_ok, List.map_toArray, List.map_cons, List.map_nil, hs, hx, hty, hr]
  refine hK _ _ (h p' cap' w' ho' ?_ ?_)
  · exact ⟨hg.os.trans hal.os, hg.tape.trans hal.tape, hg.output.trans hal.output, Nat.le_trans hal.size hg.size, fun k hk hne => (hg.block k (Nat.lt_of_lt_of_le hk hal.size) hne).trans (hal.block k hk)⟩
  · intro x hx'
    rcases hp x hx' with h1 | h1
    · exact Or.inl h1
    · right; simp at h1; omega
end Go.Proofs.Ytkkcjpldldhcgaa.Part
