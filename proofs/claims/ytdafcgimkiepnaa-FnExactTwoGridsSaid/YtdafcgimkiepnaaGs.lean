/-
  A function that hands back a grid, a field and a bool; boxes of two cells; eqGrid.
  Conditions: none.
-/
import Derived.Test.YtdafcgimkiepnaaHalf2
namespace Go.Proofs.Ytdafcgimkiepnaa.Gs
open Go Go.RowKit Go.Proofs.Ytdafcgimkiepnaa.Fl Go.Proofs.Ytdafcgimkiepnaa.Reg Go.Proofs.Ytdafcgimkiepnaa.Step Go.Proofs.Ytdafcgimkiepnaa.Mem Go.Proofs.Ytdafcgimkiepnaa.Help Go.Proofs.Ytdafcgimkiepnaa.Grid Go.Proofs.Ytdafcgimkiepnaa.Index Go.Proofs.Ytdafcgimkiepnaa.Near Go.Proofs.Ytdafcgimkiepnaa.Mean Go.Proofs.Ytdafcgimkiepnaa.App Go.Proofs.Ytdafcgimkiepnaa.Level Go.Proofs.Ytdafcgimkiepnaa.Lap Go.Proofs.Ytdafcgimkiepnaa.Law Go.Proofs.Ytdafcgimkiepnaa.Half

/-- Two boxes, one behind the other. -/
def B2 (w wA : World) (A B : Obj) : Prop := wA.heap.size = w.heap.size + 2 ∧ wA.heap[w.heap.size]? = some A ∧ wA.heap[w.heap.size + 1]? = some B ∧ Below w.heap.size w wA
theorem b2 (w : World) (A B : Obj) : B2 w ((w.alloc A).alloc B) A B := by
  have a1 := heap_alloc_new w A
  have a2 := heap_alloc_new (w.alloc A) B
  simp only [World.size_alloc] at a2
  have p1 := ((Below.refl (w.alloc A).heap.size (w.alloc A)).alloc (Nat.le_refl _) B).block
  simp only [World.size_alloc] at p1
  exact ⟨by simp, (p1 _ (by omega)).trans a1, a2, ((Below.refl _ _).alloc (Nat.le_refl _) _).alloc (by simp) _⟩
theorem B2.get {w wA wr : World} {a0 a1 x0 x1 : Value} {t : TypeId} (h : B2 w wA (.cells #[a0, a1] t) (.cells #[x0, x1] t)) (hb : Below wA.heap.size wA wr) :
    w.heap.size + 2 ≤ wr.heap.size ∧ wr.cell? ⟨w.heap.size, 0, none⟩ = some a0 ∧ wr.cell? ⟨w.heap.size, 1, none⟩ = some a1 ∧ wr.cell? ⟨w.heap.size + 1, 0, none⟩ = some x0 ∧ wr.cell? ⟨w.heap.size + 1, 1, none⟩ = some x1 ∧ wr.frozen? ⟨w.heap.size + 1, 0, none⟩ = false ∧ wr.frozen? ⟨w.heap.size + 1, 1, none⟩ = false := by
  obtain ⟨h0, h1, h2, _⟩ := h
  have e1 := blk2 ((hb.block w.heap.size (by omega)).trans h1)
  have e2 := blk2 ((hb.block (w.heap.size + 1) (by omega)).trans h2)
  exact ⟨by have := hb.size; omega, e1.1, e1.2.1, e2.1, e2.2.1, e2.2.2.1, e2.2.2.2⟩

/-- A box of two integers. -/
def Bx (w : World) (g : Nat) (x y : Int) : Prop := w.heap[g]? = some (.cells #[.int .i64 x, .int .i64 y] 27 (0, 0))
theorem Bx.lt {w : World} {g : Nat} {x y : Int} (h : Bx w g x y) : g < w.heap.size := (Array.getElem?_eq_some_iff.1 h).1
theorem Bx.below {w w' : World} {g : Nat} {x y : Int} (h : Bx w g x y) (hb : Below w.heap.size w w') : Bx w' g x y := (hb.block g h.lt).trans h
theorem Bx.gb {w w' : World} {g : Nat} {x y : Int} {row : Option Nat} (h : Bx w g x y) (hg : w.grownBy w' row) (hne : ∀ a, (some ⟨g, 0, none⟩ : Option Addr) = some a → some a.block ≠ row) : Bx w' g x y := (hg.block g h.lt (hne _ rfl)).trans h
theorem Bx.new (w : World) (x y : Int) : Bx (w.alloc (.cells #[.int .i64 x, .int .i64 y] 27)) w.heap.size x y := heap_alloc_new w _
theorem Bx.c0 {w : World} {g : Nat} {x y : Int} (h : Bx w g x y) : w.cell? ⟨g, 0, none⟩ = some (.int .i64 x) := (blk2 h).1
theorem Bx.c1 {w : World} {g : Nat} {x y : Int} (h : Bx w g x y) : w.cell? ⟨g, 1, none⟩ = some (.int .i64 y) := (blk2 h).2.1
theorem Bx.ne {w : World} {g : Nat} {x y : Int} (h : Bx w g x y) : w.heap.size ≠ g := Nat.ne_of_gt h.lt
theorem Bx.at {w : World} {g : Nat} {x y : Int} (h : Bx w g x y) (lo : Nat) (h1 : lo ≤ g) : ∀ a, (some ⟨g, 0, none⟩ : Option Addr) = some a → lo ≤ a.block ∧ a.block < w.heap.size := by
  intro a e
  cases e
  exact ⟨h1, h.lt⟩

theorem eqGrid_any (x y : Int) (w : World) :
    Calls Try.prog 24 #[.agg #[.int .i64 x, .int .i64 y], .agg #[.int .i64 x, .int .i64 y]] w fun e w' => e = .returned (.bool true) ∧ Below w.heap.size w w' := by
  go_enter Try.func24, Try.ntmps24
  go_wp2
  go_ret
  exact ⟨rfl, ((Below.refl _ _).alloc (Nat.le_refl _) _).alloc (by simp) _⟩

/-- What a function of a grid, a field and a bool hands back. -/
def BackGT (w w' : World) (e : Ending) (b : Bool) (gW gH : Int) (xs : List (Option Nat)) : Prop :=
  ∃ q d rs, e = .returned (.tuple #[.agg #[.int .i64 gW, .int .i64 gH], .slice q (List.length rs) d, .bool b]) ∧ Ow w' w.heap.size q d rs ∧ rs.map (vf .f32) = xs ∧ rs.length ≤ 1048576 ∧ Below w.heap.size w w'
theorem BackGT.none {w w' : World} {b : Bool} {gW gH : Int} (hb : Below w.heap.size w w') : BackGT w w' (.returned (.tuple #[.agg #[.int .i64 gW, .int .i64 gH], .slice none 0 0, .bool b])) b gW gH [] := ⟨Option.none, 0, [], rfl, Ow.nil _ _, rfl, by simp, hb⟩
theorem BackGT.of {w w' : World} {b : Bool} {gW gH : Int} {xs : List (Option Nat)} {q : Option Addr} {n cap : Nat} {rs' : List Nat} (ho : Ow w' w.heap.size q cap rs') (hv : rs'.map (vf .f32) = xs) (hl : rs'.length = n) (hn : n ≤ 1048576) (hb : Below w.heap.size w w') :
    BackGT w w' (.returned (.tuple #[.agg #[.int .i64 gW, .int .i64 gH], .slice q n cap, .bool b])) b gW gH xs := ⟨q, cap, rs', by rw [hl], ho, hv, by omega, hb⟩
end Go.Proofs.Ytdafcgimkiepnaa.Gs
