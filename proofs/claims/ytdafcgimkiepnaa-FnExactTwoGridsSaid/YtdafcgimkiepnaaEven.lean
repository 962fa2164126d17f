/-
  Whether a grid can be halved: contracts of the reference's and of the program's.
  Conditions: none.
-/
import Derived.Test.YtdafcgimkiepnaaGrid
namespace Go.Proofs.Ytdafcgimkiepnaa.Even
open Go Go.RowKit Go.Proofs.Ytdafcgimkiepnaa.Fl Go.Proofs.Ytdafcgimkiepnaa.Reg Go.Proofs.Ytdafcgimkiepnaa.Step Go.Proofs.Ytdafcgimkiepnaa.Mem Go.Proofs.Ytdafcgimkiepnaa.Help Go.Proofs.Ytdafcgimkiepnaa.Grid

def evB (W H : Int) : Bool := decide (W % 2 = 0) && decide (H % 2 = 0) && decide (8 ≤ W) && decide (8 ≤ H)
theorem evB_spec {W H : Int} (h : evB W H = true) : W % 2 = 0 ∧ H % 2 = 0 ∧ 8 ≤ W ∧ 8 ≤ H := by
  simp only [evB, Bool.and_eq_true, decide_eq_true_eq] at h
  omega

set_option maxHeartbeats 1000000 in
theorem l03Halves_any (b : Nat) (W H : Int) (h1 : 4 ≤ W) (h2 : W ≤ 16) (h3 : 4 ≤ H) (h4 : H ≤ 16) (w : World) (hW : w.cell? ⟨b, 0, none⟩ = some (.int .i64 W)) (hH : w.cell? ⟨b, 1, none⟩ = some (.int .i64 H)) :
    Calls Try.prog 57 #[.pointer (some ⟨b, 0, none⟩)] w fun e w' => e = .returned (.bool (evB W H)) ∧ w = w' := by
  by_cases a : W % 2 = 0
  · have a1 : (W % 2 == 0) = true := by simp [a]
    by_cases c : H % 2 = 0
    · have c1 : (H % 2 == 0) = true := by simp [c]
      by_cases d : 8 ≤ W
      · by_cases f : 8 ≤ H
        · have e : Hid (evB W H = true) := by simp [Hid, evB, a, c, d, f]
          clear a c
          go_enter Try.func57, Try.ntmps57
          go_wp2
          go_ret
          rw [e.out]; exact ⟨rfl, rfl⟩
        · have e : Hid (evB W H = false) := by simp [Hid, evB, f]
          clear a c
          go_enter Try.func57, Try.ntmps57
          go_wp2
          go_ret
          rw [e.out]; exact ⟨rfl, rfl⟩
      · have e : Hid (evB W H = false) := by simp [Hid, evB, d]
        clear a c
        go_enter Try.func57, Try.ntmps57
        go_wp2
        go_ret
        rw [e.out]; exact ⟨rfl, rfl⟩
    · have c1 : (H % 2 == 0) = false := by simp [c]
      have e : Hid (evB W H = false) := by simp [Hid, evB, c]
      clear a c
      go_enter Try.func57, Try.ntmps57
      go_wp2
      go_ret
      rw [e.out]; exact ⟨rfl, rfl⟩
  · have a1 : (W % 2 == 0) = false := by simp [a]
    have e : Hid (evB W H = false) := by simp [Hid, evB, a]
    clear a
    go_enter Try.func57, Try.ntmps57
    go_wp2
    go_ret
    rw [e.out]; exact ⟨rfl, rfl⟩

set_option maxHeartbeats 1000000 in
theorem isEven_no (W H : Int) (h : vgB W H = false) (w : World) :
    Calls Try.prog 59 #[.agg #[.int .i64 W, .int .i64 H]] w fun e w' => e = .returned (.bool false) ∧ Below w.heap.size w w' := by
  go_enter Try.func59, Try.ntmps59
  go_wp2_with (go_at_call 83; refine (ValidGrid_any W H _).mono ?_; rintro e w1 ⟨rfl, hb⟩)
  go_ret
  exact ⟨rfl, ((Below.refl _ _).alloc (Nat.le_refl _) _).trans (hb.mono (by simp))⟩

set_option maxHeartbeats 1000000 in
theorem isEven_yes (W H : Int) (h : vgB W H = true) (w : World) :
    Calls Try.prog 59 #[.agg #[.int .i64 W, .int .i64 H]] w fun e w' => e = .returned (.bool (evB W H)) ∧ Below w.heap.size w w' := by
  obtain ⟨h1, h2, h3, h4⟩ := vgB_spec h
  have bA : Below w.heap.size w (w.alloc (.cells #[.int .i64 W, .int .i64 H] 27)) := (Below.refl _ _).alloc (Nat.le_refl _) _
  have key : ∀ w1 : World, Below (w.alloc (.cells #[.int .i64 W, .int .i64 H] 27)).heap.size (w.alloc (.cells #[.int .i64 W, .int .i64 H] 27)) w1 → w1.cell? ⟨w.heap.size, 0, none⟩ = some (.int .i64 W) ∧ w1.cell? ⟨w.heap.size, 1, none⟩ = some (.int .i64 H) := fun w1 hb =>
    ⟨(hb.cell (p := ⟨w.heap.size, 0, none⟩) (by simp)).trans (by simp), (hb.cell (p := ⟨w.heap.size, 1, none⟩) (by simp)).trans (by simp)⟩
  have K : Hid (∀ w1 : World, Below (w.alloc (.cells #[.int .i64 W, .int .i64 H] 27)).heap.size (w.alloc (.cells #[.int .i64 W, .int .i64 H] 27)) w1 → w1.cell? ⟨w.heap.size, 0, none⟩ = some (.int .i64 W) ∧ w1.cell? ⟨w.heap.size, 1, none⟩ = some (.int .i64 H)) := key
  clear key
  by_cases a : W % 2 = 0
  · have a1 : (W % 2 == 0) = true := by simp [a]
    by_cases c : H % 2 = 0
    · have c1 : (H % 2 == 0) = true := by simp [c]
      by_cases d : 8 ≤ W
      · by_cases f : 8 ≤ H
        · have e : Hid (evB W H = true) := by simp [Hid, evB, a, c, d, f]
          clear a c
          go_enter Try.func59, Try.ntmps59
          go_wp2_with (go_at_call 83; refine (ValidGrid_any W H _).mono ?_; rintro e w1 ⟨rfl, hb⟩; have k0 := (K.out _ hb).1; have k1 := (K.out _ hb).2)
          go_ret
          rw [e.out]; exact ⟨rfl, bA.trans (hb.mono (by simp))⟩
        · have e : Hid (evB W H = false) := by simp [Hid, evB, f]
          clear a c
          go_enter Try.func59, Try.ntmps59
          go_wp2_with (go_at_call 83; refine (ValidGrid_any W H _).mono ?_; rintro e w1 ⟨rfl, hb⟩; have k0 := (K.out _ hb).1; have k1 := (K.out _ hb).2)
          go_ret
          rw [e.out]; exact ⟨by simp [f], bA.trans (hb.mono (by simp))⟩
      · have e : Hid (evB W H = false) := by simp [Hid, evB, d]
        clear a c
        go_enter Try.func59, Try.ntmps59
        go_wp2_with (go_at_call 83; refine (ValidGrid_any W H _).mono ?_; rintro e w1 ⟨rfl, hb⟩; have k0 := (K.out _ hb).1; have k1 := (K.out _ hb).2)
        go_ret
        rw [e.out]; exact ⟨rfl, bA.trans (hb.mono (by simp))⟩
    · have c1 : (H % 2 == 0) = false := by simp [c]
      have e : Hid (evB W H = false) := by simp [Hid, evB, c]
      clear a c
      go_enter Try.func59, Try.ntmps59
      go_wp2_with (go_at_call 83; refine (ValidGrid_any W H _).mono ?_; rintro e w1 ⟨rfl, hb⟩; have k0 := (K.out _ hb).1; have k1 := (K.out _ hb).2)
      go_ret
      rw [e.out]; exact ⟨rfl, bA.trans (hb.mono (by simp))⟩
  · have a1 : (W % 2 == 0) = false := by simp [a]
    have e : Hid (evB W H = false) := by simp [Hid, evB, a]
    clear a
    go_enter Try.func59, Try.ntmps59
    go_wp2_with (go_at_call 83; refine (ValidGrid_any W H _).mono ?_; rintro e w1 ⟨rfl, hb⟩; have k0 := (K.out _ hb).1; have k1 := (K.out _ hb).2)
    go_ret
    rw [e.out]; exact ⟨rfl, bA.trans (hb.mono (by simp))⟩

theorem isEven_any (W H : Int) (w : World) :
    Calls Try.prog 59 #[.agg #[.int .i64 W, .int .i64 H]] w fun e w' => e = .returned (.bool (vgB W H && evB W H)) ∧ Below w.heap.size w w' := by
  cases h : vgB W H
  · exact isEven_no W H h w
  · exact isEven_yes W H h w
end Go.Proofs.Ytdafcgimkiepnaa.Even
