/-
  What a call hands back: a slice of its own that reads so; a list known place by place.
  Conditions: none.
-/
import Derived.Test.YtdafcgimkiepnaaApp
namespace Go.Proofs.Ytdafcgimkiepnaa.Level
open Go Go.RowKit Go.Proofs.Ytdafcgimkiepnaa.Fl Go.Proofs.Ytdafcgimkiepnaa.Reg Go.Proofs.Ytdafcgimkiepnaa.Step Go.Proofs.Ytdafcgimkiepnaa.Mem Go.Proofs.Ytdafcgimkiepnaa.Help Go.Proofs.Ytdafcgimkiepnaa.Grid Go.Proofs.Ytdafcgimkiepnaa.App

/-- What a call hands back: a slice of its own that reads so. -/
def Back (w w' : World) (e : Ending) (n : Nat) (xs : List (Option Nat)) : Prop :=
  ∃ q cap rs', e = .returned (.slice q n cap) ∧ Ow w' w.heap.size q cap rs' ∧ rs'.map (vf .f32) = xs ∧ Below w.heap.size w w'

/-- The same of a function that hands back a slice and a bool. -/
def BackT (w w' : World) (e : Ending) (b : Bool) (xs : List (Option Nat)) : Prop :=
  ∃ q cap rs', e = .returned (.tuple #[.slice q (List.length rs') cap, .bool b]) ∧ Ow w' w.heap.size q cap rs' ∧ rs'.map (vf .f32) = xs ∧ rs'.length ≤ 1048576 ∧ Below w.heap.size w w'
theorem BackT.none {w w' : World} {b : Bool} (hb : Below w.heap.size w w') : BackT w w' (.returned (.tuple #[.slice none 0 0, .bool b])) b [] :=
  ⟨Option.none, 0, [], rfl, Ow.nil _ _, rfl, by simp, hb⟩
theorem BackT.some {w w1 w2 : World} {b : Bool} {xs : List (Option Nat)} {q : Option Addr} {n cap : Nat} {rs' : List Nat} (hb : Below w.heap.size w w1) (ho : Ow w2 w1.heap.size q cap rs') (hv : rs'.map (vf .f32) = xs) (hl : xs.length = n) (hn : n ≤ 1048576) (hb2 : Below w1.heap.size w1 w2) :
    BackT w w2 (.returned (.tuple #[.slice q n cap, .bool b])) b xs := by
  have h1 : rs'.length = n := by rw [← hl, ← hv]; simp
  exact ⟨q, cap, rs', by rw [h1], ho.mono hb.size, hv, by omega, hb.trans (hb2.mono hb.size)⟩


/-- Places lo to hi of a list of n numbers are known. -/
def Pt (n lo hi : Nat) (f : Nat → Option Nat) (xs : List Nat) : Prop := xs.length = n ∧ ∀ j, lo ≤ j → j < hi → (xs.map (vf .f32)).getD j none = f j
theorem Pt.len {n lo hi : Nat} {f : Nat → Option Nat} {xs : List Nat} (h : Pt n lo hi f xs) : xs.length = n := h.1
theorem Pt.empty {f : Nat → Option Nat} : Pt 0 0 0 f [] := ⟨rfl, fun _ _ h => by omega⟩
theorem Pt.none {n lo hi : Nat} {f : Nat → Option Nat} {xs : List Nat} (hl : xs.length = n) (h : hi ≤ lo) : Pt n lo hi f xs := ⟨hl, fun _ _ _ => by omega⟩
theorem map_getD {xs : List Nat} {j : Nat} (h : j < xs.length) : (xs.map (vf .f32)).getD j Option.none = vf .f32 xs[j] := by simp [List.getD, h]
theorem map_getD0 {xs : List Nat} {j : Nat} (h : j < xs.length) : vf .f32 (xs.getD j 0) = (xs.map (vf .f32)).getD j Option.none := by simp [List.getD, h]
theorem Pt.get {n lo hi : Nat} {f : Nat → Option Nat} {xs : List Nat} (h : Pt n lo hi f xs) {j : Nat} (h1 : lo ≤ j) (h2 : j < hi) (h3 : j < n) : vf .f32 (xs.getD j 0) = f j := by
  rw [map_getD0 (by rw [h.1]; exact h3), h.2 j h1 h2]
theorem Pt.app {k lo : Nat} {f : Nat → Option Nat} {xs : List Nat} (h : Pt k lo k f xs) {r : Nat} (hr : vf .f32 r = f k) : Pt (k + 1) lo (k + 1) f (xs ++ [r]) := by
  refine ⟨by simp [h.1], fun j h1 h2 => ?_⟩
  have hl := h.1
  by_cases hj : j < k
  · rw [← h.2 j h1 hj]
    simp only [List.map_append, List.getD, List.getElem?_append, List.length_map, hl, hj, if_true]
  · obtain rfl : j = k := by omega
    simp [List.getD, hl, hr]
theorem set_getD {xs : List Nat} {k j r : Nat} (h : j < xs.length) : ((xs.set k r).map (vf .f32)).getD j Option.none = if j = k then vf .f32 r else (xs.map (vf .f32)).getD j Option.none := by
  by_cases hj : j = k
  · subst hj; simp [List.getD, h]
  · rw [if_neg hj]
    simp [List.getD, List.getElem?_set_ne (Ne.symm hj)]
theorem Pt.up {n lo k : Nat} {f : Nat → Option Nat} {xs : List Nat} (h : Pt n lo k f xs) (hk : k < n) {r : Nat} (hr : vf .f32 r = f k) : Pt n lo (k + 1) f (xs.set k r) := by
  refine ⟨by simp [h.1], fun j h1 h2 => ?_⟩
  rw [set_getD (by rw [h.1]; omega)]
  split
  · rename_i e; rw [e, hr]
  · exact h.2 j h1 (by omega)
theorem Pt.down {n k hi : Nat} {f : Nat → Option Nat} {xs : List Nat} (h : Pt n (k + 1) hi f xs) (hi' : hi ≤ n) {r : Nat} (hr : vf .f32 r = f k) : Pt n k hi f (xs.set k r) := by
  refine ⟨by simp [h.1], fun j h1 h2 => ?_⟩
  rw [set_getD (by rw [h.1]; omega)]
  split
  · rename_i e; rw [e, hr]
  · exact h.2 j (by omega) h2
theorem Pt.keep {n lo hi k : Nat} {f : Nat → Option Nat} {xs : List Nat} (h : Pt n lo hi f xs) (hi' : hi ≤ n) (hk : k < lo ∨ hi ≤ k) (r : Nat) : Pt n lo hi f (xs.set k r) := by
  refine ⟨by simp [h.1], fun j h1 h2 => ?_⟩
  rw [set_getD (by rw [h.1]; omega), if_neg (by omega)]
  exact h.2 j h1 h2
theorem Pt.mono {n lo hi lo' hi' : Nat} {f : Nat → Option Nat} {xs : List Nat} (h : Pt n lo hi f xs) (h1 : lo ≤ lo') (h2 : hi' ≤ hi) : Pt n lo' hi' f xs := ⟨h.1, fun j a b => h.2 j (by omega) (by omega)⟩
theorem Pt.congr {n lo hi : Nat} {f g : Nat → Option Nat} {xs : List Nat} (h : Pt n lo hi f xs) (e : ∀ j, lo ≤ j → j < hi → f j = g j) : Pt n lo hi g xs := ⟨h.1, fun j a b => by rw [h.2 j a b, e j a b]⟩
theorem Pt.all {n : Nat} {f : Nat → Option Nat} {xs : List Nat} (h : Pt n 0 n f xs) : xs.map (vf .f32) = (List.range n).map f := by
  apply List.ext_getElem
  · simp [h.1]
  · intro j h1 h2
    have h3 : j < xs.length := by simpa using h1
    have h4 := h.2 j (by omega) (by rw [← h.1]; exact h3)
    rw [map_getD h3] at h4
    simpa using h4
theorem Pt.of_map {n : Nat} {f : Nat → Option Nat} {xs : List Nat} (h : xs.map (vf .f32) = (List.range n).map f) : Pt n 0 n f xs := by
  have hl : xs.length = n := by have := congrArg List.length h; simpa using this
  refine ⟨hl, fun j _ h2 => ?_⟩
  rw [h]
  simp [List.getD, h2]

/-- The cells of a slice that came in, or of the call's own. -/
def Cells (w : World) (b o : Nat) (rs : List Nat) : Prop := ∀ i, i < rs.length → w.cell? ⟨b, o + i, none⟩ = some (.float .f32 (rs.getD i 0))
end Go.Proofs.Ytdafcgimkiepnaa.Level
namespace Go.Proofs.Ytdafcgimkiepnaa.Mem
open Go Go.RowKit Go.Proofs.Ytdafcgimkiepnaa.Fl Go.Proofs.Ytdafcgimkiepnaa.Reg Go.Proofs.Ytdafcgimkiepnaa.Step Go.Proofs.Ytdafcgimkiepnaa.Mem Go.Proofs.Ytdafcgimkiepnaa.Help Go.Proofs.Ytdafcgimkiepnaa.Grid Go.Proofs.Ytdafcgimkiepnaa.App Go.Proofs.Ytdafcgimkiepnaa.Level
theorem Rd.open_ {w : World} {p : Option Addr} {rs : List Nat} (h : Rd w p rs) (h0 : 0 < rs.length) : ∃ b o, p = some ⟨b, o, none⟩ ∧ b < w.heap.size ∧ Cells w b o rs := by
  obtain ⟨b, o, hp, hb, hc⟩ := h.at h0
  exact ⟨b, o, hp, hb, hc⟩
end Go.Proofs.Ytdafcgimkiepnaa.Mem
namespace Go.Proofs.Ytdafcgimkiepnaa.Level
open Go Go.RowKit Go.Proofs.Ytdafcgimkiepnaa.Fl Go.Proofs.Ytdafcgimkiepnaa.Reg Go.Proofs.Ytdafcgimkiepnaa.Step Go.Proofs.Ytdafcgimkiepnaa.Mem Go.Proofs.Ytdafcgimkiepnaa.Help Go.Proofs.Ytdafcgimkiepnaa.Grid Go.Proofs.Ytdafcgimkiepnaa.App
theorem Cells.get {w wr : World} {b o : Nat} {rs : List Nat} (h : Cells w b o rs) (hb : b < w.heap.size) (hw : Below w.heap.size w wr) {k : Nat} (hk : k < rs.length) :
    ∃ x, Hid (vf .f32 x = (rs.map (vf .f32)).getD k Option.none) ∧ wr.cell? ⟨b, o + k, none⟩ = some (.float .f32 x) :=
  ⟨rs.getD k 0, map_getD0 hk, (hw.cell (p := ⟨b, o + k, none⟩) hb).trans (h k hk)⟩
theorem Cells.rd {w : World} {b o : Nat} {rs : List Nat} (h : Cells w b o rs) : Rd w (some ⟨b, o, none⟩) rs := Or.inr ⟨b, o, rfl, h⟩
end Go.Proofs.Ytdafcgimkiepnaa.Level
namespace Go.Proofs.Ytdafcgimkiepnaa.Mem
open Go Go.RowKit Go.Proofs.Ytdafcgimkiepnaa.Fl Go.Proofs.Ytdafcgimkiepnaa.Reg Go.Proofs.Ytdafcgimkiepnaa.Step Go.Proofs.Ytdafcgimkiepnaa.Mem Go.Proofs.Ytdafcgimkiepnaa.Help Go.Proofs.Ytdafcgimkiepnaa.Grid Go.Proofs.Ytdafcgimkiepnaa.App Go.Proofs.Ytdafcgimkiepnaa.Level
theorem Ow.get {w : World} {base g cap : Nat} {rs : List Nat} (h : Ow w base (some ⟨g, 0, none⟩) cap rs) {n lo hi : Nat} {f : Nat → Option Nat} (hf : Pt n lo hi f rs) {k : Nat} (h1 : lo ≤ k) (h2 : k < hi) (h3 : k < n) :
    ∃ x, Hid (vf .f32 x = f k) ∧ w.cell? ⟨g, k, none⟩ = some (.float .f32 x) := by
  have hk : k < rs.length := by rw [hf.1]; exact h3
  obtain ⟨g', hg, _, _, hc, _⟩ := h.cells (by omega)
  cases hg
  exact ⟨rs.getD k 0, hf.get h1 h2 h3, hc k hk⟩
theorem Ow.slot {w : World} {base g cap : Nat} {rs : List Nat} (h : Ow w base (some ⟨g, 0, none⟩) cap rs) {k : Nat} (hk : k < rs.length) :
    (∃ x, w.cell? ⟨g, k, none⟩ = some (.float .f32 x)) ∧ w.frozen? ⟨g, k, none⟩ = false := by
  obtain ⟨g', hg, _, _, hc, hz⟩ := h.cells (by omega)
  cases hg
  exact ⟨⟨_, hc k hk⟩, hz k⟩
end Go.Proofs.Ytdafcgimkiepnaa.Mem
namespace Go.Proofs.Ytdafcgimkiepnaa.Level
open Go Go.RowKit Go.Proofs.Ytdafcgimkiepnaa.Fl Go.Proofs.Ytdafcgimkiepnaa.Reg Go.Proofs.Ytdafcgimkiepnaa.Step Go.Proofs.Ytdafcgimkiepnaa.Mem Go.Proofs.Ytdafcgimkiepnaa.Help Go.Proofs.Ytdafcgimkiepnaa.Grid Go.Proofs.Ytdafcgimkiepnaa.App
theorem BackT.of {w w' : World} {b : Bool} {xs : List (Option Nat)} {q : Option Addr} {n cap : Nat} {rs' : List Nat} (ho : Ow w' w.heap.size q cap rs') (hv : rs'.map (vf .f32) = xs) (hl : rs'.length = n) (hn : n ≤ 1048576) (hb : Below w.heap.size w w') :
    BackT w w' (.returned (.tuple #[.slice q n cap, .bool b])) b xs := ⟨q, cap, rs', by rw [hl], ho, hv, by omega, hb⟩
end Go.Proofs.Ytdafcgimkiepnaa.Level
