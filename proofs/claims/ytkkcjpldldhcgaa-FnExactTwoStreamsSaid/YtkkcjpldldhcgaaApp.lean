/-
  append to a slice of float32 of the call's own: what the slice holds then, and that it lies in its old block or in a new one; a slice that make or a literal has just made.
  Conditions: none.
-/
import Derived.Test.YtkkcjpldldhcgaaGrid
namespace Go.Proofs.Ytkkcjpldldhcgaa.App
open Go Go.RowKit Go.Proofs.Ytkkcjpldldhcgaa.Fl Go.Proofs.Ytkkcjpldldhcgaa.Reg Go.Proofs.Ytkkcjpldldhcgaa.Step Go.Proofs.Ytkkcjpldldhcgaa.Mem Go.Proofs.Ytkkcjpldldhcgaa.Help

theorem own_slice {w : World} {base : Nat} {v : Value} {n : Nat} {rs : List Nat} (h : w.ownsRow base 25 1 v n (rs.map (Value.float .f32))) : ∃ p cap, v = .slice p rs.length cap ∧ n = rs.length ∧ Ow w base p cap rs := by
  have hl : n = rs.length := by have := h.1; simp at this; omega
  subst hl
  rcases h.2 with ⟨hv, h0⟩ | ⟨g, cap, cur, hv, _⟩
  · exact ⟨none, 0, by rw [hv, h0], rfl, by rw [hv] at h; unfold Ow; rw [h0] at h ⊢; exact h⟩
  · exact ⟨some ⟨g, 0, none⟩, cap, hv, rfl, by rw [hv] at h; exact h⟩

theorem run_app (w : World) {base : Nat} {p : Option Addr} {cap : Nat} {rs : List Nat} (how : Ow w base p cap rs) (src : Addr) (c : Nat) (ns : List Nat)
    (hcells : ∀ j, j < ns.length → w.cell? (src.add j) = some (.float .f32 (ns.getD j 0))) (hlen : rs.length + ns.length ≤ 4194304) (hbase : base ≤ w.heap.size) :
    ∃ p' cap' w', (Builtin.append_ #[32, 32] 32 #[.slice p rs.length cap, .slice (some src) ns.length c]).run Try.prog w = .ok (.slice p' (rs.length + ns.length) cap') w' ∧
      Ow w' base p' cap' (rs ++ ns) ∧ w.grownBy w' (p.map (·.block)) ∧ (∀ a, p' = some a → p = some a ∨ w.heap.size ≤ a.block) := by
  obtain ⟨i0, hi, hz0, hz1, hz2⟩ := info_parts info_f32
  have hnews : ∀ j u, (ns.map (Value.float .f32))[j]? = some u → w.cell? (src.add j) = some u := by
    intro j u hj
    rw [List.getElem?_map] at hj
    rcases Nat.lt_or_ge j ns.length with h | h
    · rw [List.getElem?_eq_getElem h] at hj
      simp only [Option.map_some, Option.some.injEq] at hj
      rw [hcells j h, ← hj]
      simp [List.getD, List.getElem?_eq_getElem h]
    · rw [List.getElem?_eq_none h] at hj; cases hj
  have h1 : ∀ u ∈ ns.map (Value.float .f32), u.oneCell' = true := by
    intro u hu
    obtain ⟨x, _, rfl⟩ := List.mem_map.1 hu
    rfl
  have hmax : rs.length + ns.length ≤ maxLen := by unfold maxLen; omega
  obtain ⟨v', w', hr, ho, hg, hnil⟩ := run_append_own (P := Try.prog) w base 32 32 25 i0 (.float .f32 0) 1 4 Try.underlying32 hi hz0 hz1 hz2 rfl (by decide)
    (.slice p rs.length cap) rs.length (rs.map (Value.float .f32)) how src ns.length c (ns.map (Value.float .f32)) (by simp) hnews h1 hmax (by omega) hbase
  rw [← List.map_append] at ho
  obtain ⟨p', cap', rfl, hn', ho'⟩ := own_slice ho
  have hn2 : (rs ++ ns).length = rs.length + ns.length := by simp
  refine ⟨p', cap', w', by rw [← hn2]; exact hr, ho', by cases p <;> exact hg, ?_⟩
  intro a ha
  subst ha
  rcases how.block with ⟨rfl, rfl, rfl⟩ | ⟨g, cur, rfl, hb', hlt, hgg, hnn, hm, hs, ht⟩
  · right
    rcases Nat.eq_zero_or_pos ns.length with h0 | h0
    · have := hnil.2 ⟨rfl, h0⟩
      cases this
    · have hr2 := run_append_nil (P := Try.prog) w 32 32 25 i0 (.float .f32 0) Try.underlying32 hi hz0 src ns.length c (ns.map (Value.float .f32)) (by simp [hz1]) hnews h0 (by omega) (by rw [hz2]; omega)
      simp only [List.length_nil] at hr
      rw [hr2] at hr
      simp only [Result.ok.injEq, Value.slice.injEq, Option.some.injEq] at hr
      rw [← hr.1.1]; exact Nat.le_refl _
  · by_cases hroom : rs.length + ns.length ≤ cap
    · left
      have hr2 := run_append_room (P := Try.prog) w 32 32 25 i0 Try.underlying32 hi g rs.length cap cur hgg src ns.length c (ns.map (Value.float .f32)) (by simp [hz1]) hnews h1 hroom (by rw [hz1]; simp; omega)
      rw [hr2] at hr
      simp only [Result.ok.injEq, Value.slice.injEq] at hr
      exact hr.1.1
    · right
      have holds : ∀ j u, (rs.map (Value.float .f32))[j]? = some u → w.cell? ((⟨g, 0, none⟩ : Addr).add j) = some u := World.ownsRow.cells how (g := g) rfl
      have hr2 := run_append_grow (P := Try.prog) w 32 32 25 i0 (.float .f32 0) Try.underlying32 hi hz0 ⟨g, 0, none⟩ rs.length cap (rs.map (Value.float .f32)) (by simp [hz1]) holds src ns.length c (ns.map (Value.float .f32)) (by simp [hz1]) hnews (by omega) (by omega) (growslice_fits (by omega) (by rw [hz2]; omega))
      rw [hr2] at hr
      simp only [Result.ok.injEq, Value.slice.injEq, Option.some.injEq] at hr
      rw [← hr.1.1]; exact Nat.le_refl _

/-- append(out, x). -/
theorem wpList_app1 {ops : Array Oper} {Q : Exit → Act → World → Prop} {a : Act} {w0 : World} {rest : List Oper} {o : Oper} (hgd : o.guard = none) {s x : Operand} {r : Nat}
    (ho : o.op = .call { callee := .builtin .append, args := #[s, x], argTypes := #[32, 32] }) (hty : o.type = 32)
    {base n : Nat} {p : Option Addr} {cap : Nat} {rs : List Nat} (hs : a.eval s = .slice p n cap) (hx : a.eval x = .slice (some ⟨w0.heap.size, 0, none⟩) 1 1)
    (how : Ow w0 base p cap rs) (hn : n = rs.length) (hlen : rs.length ≤ 1048576) (hbase : base ≤ w0.heap.size)
    (h : ∀ p' cap' w', Ow w' base p' cap' (rs ++ [r]) → w0.grownBy w' (p.map (·.block)) → (∀ a, p' = some a → p = some a ∨ w0.heap.size ≤ a.block) → wpList Try.prog ops Q rest (a.put o.dst (.slice p' (n + 1) cap')) w') :
    wpList Try.prog ops Q (o :: rest) a (w0.alloc (.cells #[.float .f32 r] 25)) := by
  subst hn
  have hal : Below w0.heap.size w0 (w0.alloc (.cells #[.float .f32 r] 25)) := (Below.refl _ _).alloc (Nat.le_refl _) _
  obtain ⟨p', cap', w', hr, ho', hg, hp⟩ := run_app (w0.alloc (.cells #[.float .f32 r] 25)) (how.below hal) ⟨w0.heap.size, 0, none⟩ 1 [r]
    (by intro j hj; obtain rfl : j = 0 := by simpa using hj
        simp [Addr.add]) (by simp; omega) (by simp; omega)
  refine wpList_plain hgd fun K hK => ?_
  unfold Oper.wp execOp
  simp only [List.length_singleton] at hr
  simp only [ho, resolve, invoke, builtin, Sem.run_bind, Sem.run_pure, Result.andThen_ok, List.map_toArray, List.map_cons, List.map_nil, hs, hx, hty, hr]
  refine hK _ _ (h p' cap' w' ho' ?_ ?_)
  · exact ⟨hg.os.trans hal.os, hg.tape.trans hal.tape, hg.output.trans hal.output, Nat.le_trans hal.size hg.size, fun k hk hne => (hg.block k (Nat.lt_of_lt_of_le hk hal.size) hne).trans (hal.block k hk)⟩
  · intro a ha
    rcases hp a ha with h1 | h1
    · exact Or.inl h1
    · right; simp at h1; omega

theorem add_lit (b off j : Nat) : (⟨b, off, none⟩ : Addr).add j = ⟨b, off + j, none⟩ := by
  unfold Addr.add
  split
  · simp_all
  · rfl

/-- append(out, xs...). -/
theorem wpList_appN {ops : Array Oper} {Q : Exit → Act → World → Prop} {a : Act} {w : World} {rest : List Oper} {o : Oper} (hgd : o.guard = none) {s x : Operand}
    (ho : o.op = .call { callee := .builtin .append, args := #[s, x], argTypes := #[32, 32] }) (hty : o.type = 32)
    {base n m c : Nat} {p q : Option Addr} {cap : Nat} {rs ns : List Nat} (hs : a.eval s = .slice p n cap) (hx : a.eval x = .slice q m c)
    (how : Ow w base p cap rs) (hn : n = rs.length) (hrd : Rd w q ns) (hm : m = ns.length) (h0 : 0 < ns.length) (hlen : rs.length + ns.length ≤ 4194304) (hbase : base ≤ w.heap.size)
    (h : ∀ p' cap' w', Ow w' base p' cap' (rs ++ ns) → w.grownBy w' (p.map (·.block)) → (∀ a, p' = some a → p = some a ∨ w.heap.size ≤ a.block) → wpList Try.prog ops Q rest (a.put o.dst (.slice p' (n + m) cap')) w') :
    wpList Try.prog ops Q (o :: rest) a w := by
  subst hn hm
  obtain ⟨b, off, rfl, hb, hc⟩ := hrd.at h0
  obtain ⟨p', cap', w', hr, ho', hg, hp⟩ := run_app w how ⟨b, off, none⟩ c ns (by intro j hj; rw [add_lit]; exact hc j hj) hlen hbase
  refine wpList_plain hgd fun K hK => ?_
  unfold Oper.wp execOp
  simp only [ho, resolve, invoke, builtin, Sem.run_bind, Sem.run_pure, Result.andThen_ok, List.map_toArray, List.map_cons, List.map_nil, hs, hx, hty, hr]
  exact hK _ _ (h p' cap' w' ho' hg hp)

/-- []float32{} and make([]float32, 0). -/
theorem Ow.empty (w : World) (cur : Array Value) (hc : cur.size = 0) : Ow (w.alloc (.cells cur 25)) w.heap.size (some ⟨w.heap.size, 0, none⟩) 0 [] :=
  Ow.of_block (Nat.le_refl _) (heap_alloc_new w _) (Nat.le_refl _) (Nat.zero_le _) hc (by simp)
end Go.Proofs.Ytkkcjpldldhcgaa.App
