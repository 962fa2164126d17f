/-
  From a walk 'true, and below the old heap nothing has turned' to a law's given statement: how Grid and []float32 arguments are opened; the post of a law. Plain lemmas.
  Conditions: none.
-/
import Derived.Test.YtkkcjpldldhcgaaRows
import Derived.Test.YtkkcjpldldhcgaaMem
import Derived.ProofKit
import Derived.OpenShut
import Derived.Deep.Slices
import Derived.Lib.SmallJoins
namespace Go.Proofs.Ytkkcjpldldhcgaa.Law
open Go Go.RowKit Go.ChangeShapes Go.WideShapes Go.ChangeAt Go.Joins Go.Proofs.Ytkkcjpldldhcgaa.Mem

theorem own : ownKnob Try.prog.godebug = none := by kernel_rfl
theorem cellsGrid : Try.prog.cellsOf 31 = 2 := by kernel_rfl
theorem cellsF32 : Try.prog.cellsOf 25 = 1 := by kernel_rfl
theorem laid : laidOutB Try.prog = true := by kernel_rfl

section
variable {H : Type} {enc : TypeId × Value → H} {P : Program} {w : World} {base : Nat} {spare : Nat → Bool} {held : Bool}

theorem trod_float {k : FloatKind} {t : TypeId} {fuel : Nat} {cs : List Value} {x : DataW H × List MemPlace} (ht : P.underlying t = some (.float k)) (h : DataW.trod enc P w base spare held fuel t cs = some x) : ∃ b, cs = [.float k b] := by
  cases fuel with
  | zero => simp [DataW.trod] at h
  | succ n =>
    unfold DataW.trod at h
    rw [ht] at h
    split at h <;> simp_all

/-- A []float32 argument, opened. -/
theorem open_floats {t e : TypeId} {v : Value} {d : DataW H} {ps : List MemPlace} (ht : P.underlying t = some (.slice e)) (he : P.underlying e = some (.float .f32)) (hc : P.cellsOf e = 1) {r : Reach} {b0 : Nat}
    (hval : Value.okWide P w r b0 t v) (h : DataW.Trod enc P w base spare held t v d ps) : ∃ p c rs, v = .slice p (List.length rs) c ∧ Rd w p rs ∧ rs.length ≤ 9223372036854775807 := by
  obtain ⟨a, len, cap, rfl⟩ := okWide_slice ht hval
  obtain ⟨fuel, hf⟩ := h
  rcases Go.Deep.open_slice ht hf with ⟨hcs, _⟩ | ⟨a', len', cap', m, n, D, Pl, hcs, _, hle, hmx, hm, _, hel⟩
  · simp only [Value.cells, List.cons.injEq, Value.slice.injEq, and_true] at hcs
    obtain ⟨rfl, rfl, rfl⟩ := hcs
    exact ⟨none, 0, [], rfl, Rd.nil _ _, by simp⟩
  · simp only [Value.cells, List.cons.injEq, Value.slice.injEq, and_true] at hcs
    obtain ⟨rfl, rfl, rfl⟩ := hcs
    have hlm : len ≤ m := by rw [hm]; split <;> omega
    have each : ∀ i, i < len → ∃ b, w.cell? (a'.add i) = some (.float .f32 b) := by
      intro i hi
      obtain ⟨cs', h1, h2⟩ := hel i (by omega)
      obtain ⟨b, rfl⟩ := trod_float he h2
      rw [hc, Nat.mul_one] at h1
      exact ⟨b, cell_of_cells?_one h1⟩
    obtain ⟨f, hfn⟩ := Go.Deep.choose_lt each
    refine ⟨some a', cap, (List.range len).map f, by simp, ?_, by unfold maxLen at hmx; simp; omega⟩
    by_cases h0 : len = 0
    · left; simp [h0]
    · right
      obtain ⟨b, off, spot⟩ := a'
      have hspot : spot = none := by simpa [Addr.add] using World.cell?_spot (hfn 0 (by omega))
      subst hspot
      refine ⟨b, off, rfl, fun i hi => ?_⟩
      have hi' : i < len := by simpa using hi
      have := hfn i hi'
      simp only [List.getD, List.getElem?_map, List.getElem?_range hi', Option.map_some, Option.getD_some]
      rw [← this]
      unfold Addr.add
      split
      · simp_all
      · rfl

/-- Arguments read as they did where nothing below the old heap has turned. -/
theorem args_kept (hl : laidOutB P = true) : ∀ (ts : List TypeId) {vs : List Value} {ds : List (DataW H)} {ps : List MemPlace} {W W' : World}, (∀ t ∈ ts, P.readableRec t = true ∧ t < P.types.size) →
    DataW.TrodAll enc P W 0 (fun _ => true) true ts vs ds ps → Below W.heap.size W W' → (∀ x ∈ ps, x.block < W.heap.size) → DataW.TrodAll enc P W' 0 (fun b => decide (b < W.heap.size)) true ts vs ds ps
  | [], vs, ds, ps, W, W', _, h, _, _ => by
    obtain ⟨rfl, rfl, rfl⟩ := trodAll_nil h
    exact trodAll_mk0
  | t :: ts, vs, ds, ps, W, W', hr, h, hb, hlt => by
    obtain ⟨v, vs', d, ds', p, q, rfl, rfl, rfl, h1, h2⟩ := trodAll_cons h
    obtain ⟨hr1, hr2⟩ := hr t (by simp)
    exact trodAll_cons_mk (Below.trod hl hr1 hr2 h1 hb fun x hx => hlt x (by simp [hx]))
      (args_kept hl ts (fun t' ht' => hr t' (by simp [ht'])) h2 hb fun x hx => hlt x (by simp [hx]))

/-- The post of a law that has answered true. -/
theorem law_post (hl : laidOutB P = true) {f : Func} {s : ChangeSpec} {W W' : World} {args : Array Value} {ds : List (DataW H)} {before : List MemPlace} {tb : TypeId} (hb4 : P.underlying tb = some .bool)
    (hres : f.resultTypes = #[tb]) (hread : ∀ t ∈ f.params.toList, P.readableRec t = true ∧ t < P.types.size) (hvars : s.vars = [])
    (hfn : s.fn H (ds ++ []) = { results := [.lit (.bool true)], args := ds })
    (hW : DataW.Whole enc P f.params.toList s.vars false W args.toList ds [] before) (hb : Below W.heap.size W W') :
    s.post enc P f false true false false W args (.bool true) W' := by
  have hlt := hW.lt
  have hW' := hW
  obtain ⟨p, q, hA, hV, rfl, _, _⟩ := hW
  rw [hvars] at hV
  obtain ⟨_, rfl⟩ := trodVars_none hV
  refine ⟨ds, [], _, [], p, [], hW', ?_, ?_, ?_, hb.frame _, fun h => by cases h⟩
  · rw [hfn, hres]
    exact trodAll_mk1 (shut_bool hb4 true)
  · rw [hfn]
    exact args_kept hl _ hread hA hb fun x hx => hlt x (by simp [hx])
  · rw [hvars, hfn]
    simp [DataW.TrodVars]
end
/-! ### Two slices apart -/
theorem sep {p q : Option Addr} {a b c d : Nat} (h1 : ∀ x, p = some x → a ≤ x.block ∧ x.block < b) (h2 : ∀ x, q = some x → c ≤ x.block ∧ x.block < d) (h : b ≤ c ∨ d ≤ a) : ∀ x, p = some x → some x.block ≠ q.map (·.block) := by
  intro x hx he
  cases q with
  | none => cases he
  | some y =>
    have e1 : x.block = y.block := by simpa using he
    have e2 := h1 x hx
    have e3 := h2 y rfl
    omega
theorem sep_of {p q : Option Addr} (h : ∀ x y, p = some x → q = some y → x.block ≠ y.block) : ∀ x, p = some x → some x.block ≠ q.map (·.block) := by
  intro x hx he
  cases q with
  | none => cases he
  | some y => exact h x y hx rfl (by simpa using he)
theorem sep_of' {p q : Option Addr} (h : ∀ x y, p = some x → q = some y → x.block ≠ y.block) : ∀ x, q = some x → some x.block ≠ p.map (·.block) := by
  intro x hx he
  cases p with
  | none => cases he
  | some y => exact h y x rfl hx (by simpa using he.symm)

/-! ### A law's world: its argument aG lies in the first new block -/
/-- What was there, and the box of aG, are as they were. -/
def Inv (w : World) (W H : Int) (wi : World) : Prop := Below (w.heap.size + 1) (w.alloc (.cells #[.int .i64 W, .int .i64 H] 31)) wi
theorem Inv.start (w : World) (W H : Int) : Inv w W H (w.alloc (.cells #[.int .i64 W, .int .i64 H] 31)) := Below.refl _ _
theorem Inv.size {w wi : World} {W H : Int} (h : Inv w W H wi) : w.heap.size + 1 ≤ wi.heap.size := by
  have := Below.size h
  simpa using this
theorem Inv.step {w wi wj : World} {W H : Int} (h : Inv w W H wi) (hb : Below wi.heap.size wi wj) : Inv w W H wj := Below.trans h (hb.mono h.size)
theorem Inv.below {w wi : World} {W H : Int} (h : Inv w W H wi) : Below w.heap.size w wi := ((Below.refl _ _).alloc (Nat.le_refl _) _).trans (Below.mono h (by omega))
theorem Inv.c0 {w wi : World} {W H : Int} (h : Inv w W H wi) : wi.cell? ⟨w.heap.size, 0, none⟩ = some (.int .i64 W) := by
  have := Below.cell h (p := ⟨w.heap.size, 0, none⟩) (by simp)
  rw [this]; simp
theorem Inv.c1 {w wi : World} {W H : Int} (h : Inv w W H wi) : wi.cell? ⟨w.heap.size, 1, none⟩ = some (.int .i64 H) := by
  have := Below.cell h (p := ⟨w.heap.size, 1, none⟩) (by simp)
  rw [this]; simp
theorem Inv.gb {w wi wj : World} {W H : Int} {p : Option Addr} (h : Inv w W H wi) (hg : wi.grownBy wj (p.map (·.block))) (hp : ∀ a, p = some a → w.heap.size + 1 ≤ a.block) : Inv w W H wj :=
  Below.trans h (below_of_gb hg hp h.size)

theorem toGrid_any (W H : Int) (w : World) :
    Calls Try.prog 16 #[.agg #[.int .i64 W, .int .i64 H]] w fun e w' => e = .returned (.agg #[.int .i64 W, .int .i64 H]) ∧ Below w.heap.size w w' := by
  go_enter Try.func16, Try.ntmps16
  go_wp2
  exact bodyPost_ret (v := .agg #[.int .i64 W, .int .i64 H]) (by simp [results, Try.results16, go_sem]) rfl ⟨rfl, (((Below.refl _ _).alloc (Nat.le_refl _) _).alloc (by simp) _).alloc (by simp; omega) _⟩
end Go.Proofs.Ytkkcjpldldhcgaa.Law
