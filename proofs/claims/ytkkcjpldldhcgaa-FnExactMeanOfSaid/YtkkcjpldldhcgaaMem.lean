/-
  Slices of float32 in memory: 'Rd' (it reads so), 'Ow' (it is the call's own). Plain lemmas, over this seat's number of float32.
  Conditions: none.
-/
import Derived.Test.YtkkcjpldldhcgaaStep
import Derived.Test.YtkkcjpldldhcgaaChecked
import Derived.Carry
import Derived.Laws.MakeOwn
namespace Go.Proofs.Ytkkcjpldldhcgaa.Mem
open Go Go.RowKit

/-- A slice at p reads as the float32 bits rs. -/
def Rd (w : World) (p : Option Addr) (rs : List Nat) : Prop :=
  rs = [] ∨ ∃ b off, p = some ⟨b, off, none⟩ ∧ ∀ i, i < rs.length → w.cell? ⟨b, off + i, none⟩ = some (.float .f32 (rs.getD i 0))

/-- A slice at the head of a row of the call's own, from block base on. -/
def Ow (w : World) (base : Nat) (p : Option Addr) (cap : Nat) (rs : List Nat) : Prop := w.ownsRow base 25 1 (.slice p rs.length cap) rs.length (rs.map (Value.float .f32))

theorem Rd.at {w : World} {p : Option Addr} {rs : List Nat} (h : Rd w p rs) {i : Nat} (hi : i < rs.length) :
    ∃ b off, p = some ⟨b, off, none⟩ ∧ b < w.heap.size ∧ ∀ i, i < rs.length → w.cell? ⟨b, off + i, none⟩ = some (.float .f32 (rs.getD i 0)) := by
  rcases h with rfl | ⟨b, off, hp, hc⟩
  · cases hi
  · exact ⟨b, off, hp, World.block_lt_of_cell? w _ (hc i hi), hc⟩

theorem Rd.below {w w' : World} {p : Option Addr} {rs : List Nat} (h : Rd w p rs) (hb : Below w.heap.size w w') : Rd w' p rs := by
  rcases h with h | ⟨b, off, hp, hc⟩
  · exact Or.inl h
  · exact Or.inr ⟨b, off, hp, fun i hi => (hb.cell (p := ⟨b, off + i, none⟩) (World.block_lt_of_cell? w _ (hc i hi))).trans (hc i hi)⟩

theorem Ow.block {w : World} {base : Nat} {p : Option Addr} {cap : Nat} {rs : List Nat} (h : Ow w base p cap rs) :
    (p = none ∧ rs = [] ∧ cap = 0) ∨ ∃ g cur, p = some ⟨g, 0, none⟩ ∧ base ≤ g ∧ g < w.heap.size ∧ w.heap[g]? = some (.cells cur 25 (0, 0)) ∧ rs.length ≤ cap ∧ cap ≤ maxLen ∧ cur.size = cap ∧ cur.toList.take rs.length = rs.map (Value.float .f32) := by
  obtain ⟨_, h⟩ := h
  rcases h with ⟨h, h0⟩ | ⟨g, cap', cur, hv, hb, hg, hn, hm, hs, ht⟩
  · left
    simp only [Value.slice.injEq] at h
    exact ⟨h.1, List.eq_nil_of_length_eq_zero h0, h.2.2⟩
  · right
    simp only [Value.slice.injEq] at hv
    obtain ⟨h1, _, rfl⟩ := hv
    refine ⟨g, cur, h1, hb, ?_, hg, hn, hm, by simpa using hs, by simpa using ht⟩
    exact (Array.getElem?_eq_some_iff.1 hg).1

theorem Ow.of_block {w : World} {base g cap : Nat} {cur : Array Value} {rs : List Nat} (hb : base ≤ g) (hg : w.heap[g]? = some (.cells cur 25 (0, 0))) (hn : rs.length ≤ cap) (hm : cap ≤ maxLen) (hs : cur.size = cap) (ht : cur.toList.take rs.length = rs.map (Value.float .f32)) :
    Ow w base (some ⟨g, 0, none⟩) cap rs :=
  ⟨by simp, .inr ⟨g, cap, cur, rfl, hb, hg, hn, hm, by simpa using hs, by simpa using ht⟩⟩

theorem Ow.cells {w : World} {base : Nat} {p : Option Addr} {cap : Nat} {rs : List Nat} (h : Ow w base p cap rs) (h0 : 0 < rs.length) :
    ∃ g, p = some ⟨g, 0, none⟩ ∧ base ≤ g ∧ g < w.heap.size ∧ (∀ i, i < rs.length → w.cell? ⟨g, i, none⟩ = some (.float .f32 (rs.getD i 0))) ∧ (∀ i, w.frozen? ⟨g, i, none⟩ = false) := by
  rcases h.block with ⟨_, rfl, _⟩ | ⟨g, cur, hp, hb, hlt, hg, hn, hm, hs, ht⟩
  · cases h0
  · refine ⟨g, hp, hb, hlt, fun i hi => ?_, fun i => ?_⟩
    · simp only [World.cell?, hg, Option.isSome_none, Bool.false_eq_true, if_false]
      have h1 : (cur.toList.take rs.length)[i]? = (rs.map (Value.float .f32))[i]? := by rw [ht]
      rw [List.getElem?_take, if_pos hi, List.getElem?_map] at h1
      rw [← Array.getElem?_toList, h1]
      simp [List.getD, List.getElem?_eq_getElem hi]
    · simp [World.frozen?, hg]

theorem Ow.rd {w : World} {base : Nat} {p : Option Addr} {cap : Nat} {rs : List Nat} (h : Ow w base p cap rs) : Rd w p rs := by
  by_cases h0 : 0 < rs.length
  · obtain ⟨g, hp, _, _, hc, _⟩ := h.cells h0
    exact Or.inr ⟨g, 0, hp, fun i hi => by simpa using hc i hi⟩
  · exact Or.inl (List.eq_nil_of_length_eq_zero (by omega))

theorem Ow.below {w w' : World} {base : Nat} {p : Option Addr} {cap : Nat} {rs : List Nat} (h : Ow w base p cap rs) (hb : Below w.heap.size w w') : Ow w' base p cap rs := by
  rcases h.block with ⟨rfl, rfl, rfl⟩ | ⟨g, cur, rfl, hb', hlt, hg, hn, hm, hs, ht⟩
  · exact ⟨by simp, .inl ⟨rfl, rfl⟩⟩
  · exact Ow.of_block hb' ((hb.block g hlt).trans hg) hn hm hs ht

theorem Ow.mono {w : World} {base base' : Nat} {p : Option Addr} {cap : Nat} {rs : List Nat} (h : Ow w base p cap rs) (hb : base' ≤ base) : Ow w base' p cap rs := by
  rcases h.block with ⟨rfl, rfl, rfl⟩ | ⟨g, cur, rfl, hb', hlt, hg, hn, hm, hs, ht⟩
  · exact ⟨by simp, .inl ⟨rfl, rfl⟩⟩
  · exact Ow.of_block (by omega) hg hn hm hs ht

/-- A new block, right behind a make. -/
theorem Ow.made (w : World) (n : Nat) (hn : n ≤ maxLen) : Ow (w.alloc (.cells (madeCells #[.float .f32 0] n) 25)) w.heap.size (some ⟨w.heap.size, 0, none⟩) n (List.replicate n 0) := by
  refine Ow.of_block (Nat.le_refl _) (heap_alloc_new w _) (by simp) hn (size_madeCells _ _) ?_
  simp only [List.length_replicate, List.map_replicate]
  apply List.ext_getElem?
  intro i
  by_cases hi : i < n
  · simp [madeCells, hi, Nat.mod_one]
  · simp [madeCells, hi]

theorem Ow.set {w : World} {base g cap : Nat} {rs : List Nat} (h : Ow w base (some ⟨g, 0, none⟩) cap rs) {i : Nat} (_hi : i < rs.length) (r : Nat) :
    Ow (w.setCell ⟨g, i, none⟩ (.float .f32 r)) base (some ⟨g, 0, none⟩) cap (rs.set i r) := by
  rcases h.block with ⟨h, _⟩ | ⟨g', cur, hp, hb', hlt, hg, hn, hm, hs, ht⟩
  · cases h
  · cases hp
    refine Ow.of_block (cur := cur.setIfInBounds i (.float .f32 r)) hb' ?_ (by simpa using hn) hm (by simpa using hs) ?_
    · simp only [World.setCell, Array.getElem?_modify]
      simp [hg]
    · simp only [List.length_set, Array.toList_setIfInBounds, List.take_set, ht, List.map_set]

/-- A store elsewhere. -/
theorem Ow.set_other {w : World} {base : Nat} {p : Option Addr} {cap : Nat} {rs : List Nat} (h : Ow w base p cap rs) {g i : Nat} (hne : ∀ b o s, p = some ⟨b, o, s⟩ → b ≠ g) (u : Value) :
    Ow (w.setCell ⟨g, i, none⟩ u) base p cap rs := by
  rcases h.block with ⟨rfl, rfl, rfl⟩ | ⟨g', cur, rfl, hb', hlt, hg, hn, hm, hs, ht⟩
  · exact ⟨by simp, .inl ⟨rfl, rfl⟩⟩
  · exact Ow.of_block hb' ((Below.heap_setCell _ _ _ _ (hne g' 0 none rfl)).trans hg) hn hm hs ht

theorem Ow.drewN {w : World} {base : Nat} {p : Option Addr} {cap : Nat} {rs : List Nat} (h : Ow w base p cap rs) (n : Nat) : Ow (w.drewN n) base p cap rs := h
theorem Rd.drewN {w : World} {p : Option Addr} {rs : List Nat} (h : Rd w p rs) (n : Nat) : Rd (w.drewN n) p rs := h
theorem Rd.nil (w : World) (p : Option Addr) : Rd w p [] := Or.inl rfl
theorem Ow.nil (w : World) (base : Nat) : Ow w base none 0 [] := ⟨by simp, .inl ⟨rfl, rfl⟩⟩

/-! ### frames -/
theorem gb_refl (w : World) (row : Option Nat) : w.grownBy w row := ⟨rfl, rfl, rfl, Nat.le_refl _, fun _ _ _ => rfl⟩
theorem gb_trans {a b c : World} {row : Option Nat} (h : a.grownBy b row) (k : b.grownBy c row) : a.grownBy c row :=
  ⟨k.os.trans h.os, k.tape.trans h.tape, k.output.trans h.output, Nat.le_trans h.size k.size, fun i hi hne => (k.block i (Nat.lt_of_lt_of_le hi h.size) hne).trans (h.block i hi hne)⟩
theorem gb_drewN {w w' : World} {n : Nat} {row : Option Nat} (h : (w.drewN n).grownBy w' row) : w.grownBy w' row := ⟨h.os, h.tape, h.output, h.size, h.block⟩
theorem gb_set {a w : World} {g i : Nat} (h : a.grownBy w (some g)) (u : Value) : a.grownBy (w.setCell ⟨g, i, none⟩ u) (some g) :=
  gb_trans h ⟨rfl, rfl, rfl, by simp [World.setCell], fun k _ hne => Below.heap_setCell _ _ _ _ (fun e => hne (by rw [e]))⟩
theorem gb_below {w w' : World} (h : Below w.heap.size w w') (row : Option Nat) : w.grownBy w' row := ⟨h.os, h.tape, h.output, h.size, fun k hk _ => h.block k hk⟩
theorem below_gb {w w' : World} (h : w.grownBy w' none) : Below w.heap.size w w' := ⟨h.os, h.tape, h.output, h.size, fun k hk => h.block k hk (by simp)⟩
theorem below_gb_some {w w' : World} {g B : Nat} (h : w.grownBy w' (some g)) (hB : B ≤ g) (hs : B ≤ w.heap.size) : Below B w w' :=
  ⟨h.os, h.tape, h.output, h.size, fun k hk => h.block k (by omega) (by intro e; cases e; omega)⟩
theorem below_of_gb {w w' : World} {p : Option Addr} {B : Nat} (h : w.grownBy w' (p.map (·.block))) (hB : ∀ a, p = some a → B ≤ a.block) (hs : B ≤ w.heap.size) : Below B w w' := by
  cases p with
  | none => exact (below_gb h).mono hs
  | some a => exact below_gb_some h (hB a rfl) hs
theorem Ow.gb {w w' : World} {base : Nat} {p : Option Addr} {cap : Nat} {rs : List Nat} {row : Option Nat} (h : Ow w base p cap rs) (hg : w.grownBy w' row) (hne : ∀ a, p = some a → some a.block ≠ row) : Ow w' base p cap rs := by
  rcases h.block with ⟨rfl, rfl, rfl⟩ | ⟨g, cur, rfl, hb', hlt, hgg, hn, hm, hs, ht⟩
  · exact Ow.nil _ _
  · exact Ow.of_block hb' ((hg.block g hlt (hne ⟨g, 0, none⟩ rfl)).trans hgg) hn hm hs ht
theorem Rd.gb {w w' : World} {p : Option Addr} {rs : List Nat} {row : Option Nat} (h : Rd w p rs) (hg : w.grownBy w' row) (hne : ∀ a, p = some a → some a.block ≠ row) : Rd w' p rs := by
  rcases h with h | ⟨b, off, rfl, hc⟩
  · exact Or.inl h
  · exact Or.inr ⟨b, off, rfl, fun i hi => hg.cell (hc i hi) (hne ⟨b, off, none⟩ rfl)⟩
theorem Ow.lt {w : World} {base : Nat} {p : Option Addr} {cap : Nat} {rs : List Nat} (h : Ow w base p cap rs) : ∀ a, p = some a → base ≤ a.block ∧ a.block < w.heap.size := by
  rcases h.block with ⟨rfl, rfl, rfl⟩ | ⟨g, cur, rfl, hb', hlt, _⟩
  · intro a ha; cases ha
  · intro a ha; cases ha; exact ⟨hb', hlt⟩
theorem Ow.length_le {w : World} {base : Nat} {p : Option Addr} {cap : Nat} {rs : List Nat} (h : Ow w base p cap rs) : rs.length ≤ cap := by
  rcases h.block with ⟨_, rfl, rfl⟩ | ⟨g, cur, _, _, _, _, hn, _⟩
  · exact Nat.le_refl _
  · exact hn

/-- The marks that a law writes. -/
def marks (k0 n : Nat) : List Nat := (List.range n).map fun i => floatOfInt .f32 ((k0 + i : Nat) : Int)
@[simp] theorem length_marks (k0 n : Nat) : (marks k0 n).length = n := by simp [marks]
theorem marks_getD {k0 n i : Nat} (hi : i < n) : (marks k0 n).getD i 0 = floatOfInt .f32 ((k0 + i : Nat) : Int) := by
  simp [marks, List.getD, hi]

theorem marks_step (rs : List Nat) (k0 : Nat) {k : Nat} (hk : k < rs.length) : (marks k0 k ++ rs.drop k).set k (floatOfInt .f32 ((k0 + k : Nat) : Int)) = marks k0 (k + 1) ++ rs.drop (k + 1) := by
  rw [List.set_append_right _ _ (by simp), length_marks, Nat.sub_self, List.drop_eq_getElem_cons hk, List.set_cons_zero]
  simp [marks, List.range_succ]

end Go.Proofs.Ytkkcjpldldhcgaa.Mem
