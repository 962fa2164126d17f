/-
  Contracts of the tests of a grid and of a field, of the reference and of the program.
  Conditions: none.
-/
import Derived.Test.YtdafcgimkiepnaaHelp
namespace Go.Proofs.Ytdafcgimkiepnaa.Grid
open Go Go.RowKit Go.Proofs.Ytdafcgimkiepnaa.Fl Go.Proofs.Ytdafcgimkiepnaa.Reg Go.Proofs.Ytdafcgimkiepnaa.Step Go.Proofs.Ytdafcgimkiepnaa.Mem Go.Proofs.Ytdafcgimkiepnaa.Help

def inB (n lo hi : Int) : Bool := decide (lo ≤ n ∧ n ≤ hi)
def vgB (W H : Int) : Bool := inB W 4 16 && inB H 4 16
def fitB (W H : Int) (n : Nat) : Bool := vgB W H && decide ((n : Int) = W * H)

theorem vgB_spec {W H : Int} (h : vgB W H = true) : 4 ≤ W ∧ W ≤ 16 ∧ 4 ≤ H ∧ H ≤ 16 := by
  simp only [vgB, inB, Bool.and_eq_true, decide_eq_true_eq] at h
  omega
theorem fitB_spec {W H : Int} {n : Nat} (h : fitB W H n = true) : 4 ≤ W ∧ W ≤ 16 ∧ 4 ≤ H ∧ H ≤ 16 ∧ (n : Int) = W * H := by
  simp only [fitB, Bool.and_eq_true, decide_eq_true_eq] at h
  have := vgB_spec h.1
  omega

theorem fitB_pos {W H : Int} {n : Nat} (h : fitB W H n = true) : 0 < n := by
  obtain ⟨h1, _, h3, _, h5⟩ := fitB_spec h
  have e2 : 4 * 4 ≤ W * H := Int.mul_le_mul h1 h3 (by omega) (by omega)
  omega
theorem fitB_le {W H : Int} {n : Nat} (h : fitB W H n = true) : n ≤ 256 := by
  obtain ⟨h1, h2, h3, h4, h5⟩ := fitB_spec h
  have e2 : W * H ≤ 16 * 16 := Int.mul_le_mul h2 h4 (by omega) (by omega)
  omega

theorem l00In_any (n lo hi : Int) (w : World) :
    Calls Try.prog 64 #[.int .i64 n, .int .i64 lo, .int .i64 hi] w fun e w' => e = .returned (.bool (inB n lo hi)) ∧ w = w' := by
  by_cases h1 : lo ≤ n
  · by_cases h2 : n ≤ hi
    · go_enter Try.func64, Try.ntmps64
      go_wp2
      go_ret
      exact ⟨by simp [inB, h1, h2], rfl⟩
    · go_enter Try.func64, Try.ntmps64
      go_wp2
      go_ret
      exact ⟨by simp [inB, h1, h2], rfl⟩
  · go_enter Try.func64, Try.ntmps64
    go_wp2
    go_ret
    exact ⟨by simp [inB]; omega, rfl⟩

theorem within_any (n lo hi : Int) (w : World) :
    Calls Try.prog 67 #[.int .i64 n, .int .i64 lo, .int .i64 hi] w fun e w' => e = .returned (.bool (inB n lo hi)) ∧ w = w' := by
  by_cases h1 : lo ≤ n
  · by_cases h2 : n ≤ hi
    · go_enter Try.func67, Try.ntmps67
      go_wp2
      go_ret
      exact ⟨by simp [inB, h1, h2], rfl⟩
    · go_enter Try.func67, Try.ntmps67
      go_wp2
      go_ret
      exact ⟨by simp [inB, h1, h2], rfl⟩
  · go_enter Try.func67, Try.ntmps67
    go_wp2
    go_ret
    exact ⟨by simp [inB]; omega, rfl⟩

theorem l02Is_any (b : Nat) (W H : Int) (w : World) (hW : w.cell? ⟨b, 0, none⟩ = some (.int .i64 W)) (hH : w.cell? ⟨b, 1, none⟩ = some (.int .i64 H)) :
    Calls Try.prog 82 #[.pointer (some ⟨b, 0, none⟩)] w fun e w' => e = .returned (.bool (vgB W H)) ∧ w = w' := by
  by_cases h : inB W 4 16 = true
  · have e : Hid (vgB W H = inB H 4 16) := by simp [Hid, vgB, h]
    go_enter Try.func82, Try.ntmps82
    go_wp2_with (go_at_call 64; refine (l00In_any _ _ _ _).mono ?_; rintro e w' ⟨rfl, rfl⟩)
    go_ret
    rw [e.out]
    exact ⟨rfl, rfl⟩
  · have h : inB W 4 16 = false := by simpa using h
    have e : Hid (vgB W H = false) := by simp [Hid, vgB, h]
    go_enter Try.func82, Try.ntmps82
    go_wp2_with (go_at_call 64; refine (l00In_any _ _ _ _).mono ?_; rintro e w' ⟨rfl, rfl⟩)
    go_ret
    rw [e.out]
    exact ⟨rfl, rfl⟩

theorem ValidGrid_any (W H : Int) (w : World) :
    Calls Try.prog 83 #[.agg #[.int .i64 W, .int .i64 H]] w fun e w' => e = .returned (.bool (vgB W H)) ∧ Below w.heap.size w w' := by
  by_cases h : inB W 4 16 = true
  · have e : Hid (vgB W H = inB H 4 16) := by simp [Hid, vgB, h]
    go_enter Try.func83, Try.ntmps83
    go_wp2_with (go_at_call 67; refine (within_any _ _ _ _).mono ?_; rintro e w' ⟨rfl, rfl⟩)
    go_ret
    rw [e.out]
    exact ⟨rfl, (Below.refl _ _).alloc (Nat.le_refl _) _⟩
  · have h : inB W 4 16 = false := by simpa using h
    have e : Hid (vgB W H = false) := by simp [Hid, vgB, h]
    go_enter Try.func83, Try.ntmps83
    go_wp2_with (go_at_call 67; refine (within_any _ _ _ _).mono ?_; rintro e w' ⟨rfl, rfl⟩)
    go_ret
    rw [e.out]
    exact ⟨rfl, (Below.refl _ _).alloc (Nat.le_refl _) _⟩

theorem length_any (p : Option Addr) (n c : Nat) (_hn : n ≤ 1048576) (w : World) :
    Calls Try.prog 84 #[.slice p n c] w fun e w' => e = .returned (.int .i64 n) ∧ w = w' := by
  go_enter Try.func84, Try.ntmps84
  go_wp2
  go_ret
  exact ⟨rfl, rfl⟩

theorem size_any (W H : Int) (h1 : 4 ≤ W) (h2 : W ≤ 16) (h3 : 4 ≤ H) (h4 : H ≤ 16) (w : World) :
    Calls Try.prog 85 #[.agg #[.int .i64 W, .int .i64 H]] w fun e w' => e = .returned (.int .i64 (W * H)) ∧ Below w.heap.size w w' := by
  have hm : IntKind.i64.wrap (W * H) = W * H := by
    have e1 : W * H ≤ 16 * 16 := Int.mul_le_mul h2 h4 (by omega) (by omega)
    have e2 : 0 ≤ W * H := Int.mul_nonneg (by omega) (by omega)
    exact IntWalk.i64_in _ (by omega)
  go_enter Try.func85, Try.ntmps85
  go_wp2
  go_ret
  exact ⟨rfl, (Below.refl _ _).alloc (Nat.le_refl _) _⟩

theorem wrap_area {W H : Int} (h1 : 4 ≤ W) (h2 : W ≤ 16) (h3 : 4 ≤ H) (h4 : H ≤ 16) : IntKind.i64.wrap (W * H) = W * H := by
  have e1 : W * H ≤ 16 * 16 := Int.mul_le_mul h2 h4 (by omega) (by omega)
  have e2 : 0 ≤ W * H := Int.mul_nonneg (by omega) (by omega)
  exact IntWalk.i64_in _ (by omega)

set_option maxHeartbeats 400000 in
theorem l03Fits_yes (b : Nat) (W H : Int) (p : Option Addr) (n c : Nat) (_hn : n ≤ 1048576) (w : World) (hb : b < w.heap.size) (hW : w.cell? ⟨b, 0, none⟩ = some (.int .i64 W)) (hH : w.cell? ⟨b, 1, none⟩ = some (.int .i64 H)) (h : vgB W H = true) :
    Calls Try.prog 46 #[.pointer (some ⟨b, 0, none⟩), .slice p n c] w fun e w' => e = .returned (.bool (fitB W H n)) ∧ Below w.heap.size w w' := by
  have e : Hid (fitB W H n = ((n : Int) == W * H)) := by simp only [Hid, fitB, h, Bool.true_and]; rw [Bool.eq_iff_iff]; simp
  obtain ⟨h1, h2, h3, h4⟩ := vgB_spec h
  have hm := wrap_area h1 h2 h3 h4
  have hv : Hid (vgB W H = true) := h
  clear h
  go_enter Try.func46, Try.ntmps46
  go_wp2
  refine wp_region_dem 16 (Below (w.heap.size) w) (fun _ _ v => v = .bool true) (by kernel_rfl) (by kernel_rfl) (Below.refl _ _).drew ?_
  simp only [List.take_succ_cons, List.take_zero, List.drop_succ_cons, List.drop_zero]
  repeat (first
    | (refine wpDem_skip rfl ?_; simp only [Act.put, List.setIfInBounds_toArray, List.set_cons_succ, List.set_cons_zero])
    | (refine wpDem_want rfl (fun K hK => ?_); intro w' hw'; obtain ⟨hc', hf'⟩ := bcellB hw'; go_simp; first | (refine hK _ ?_; clear hK K hc' hf' hw' w') | ((refine ⟨(l02Is_any b W H _ (by rw [hc' _ _ hb]; exact hW) (by rw [hc' _ _ hb]; exact hH)).mono (by rintro e w'' ⟨rfl, rfl⟩; exact ⟨_, rfl, congrArg Value.bool hv.out, hw'⟩), ?_⟩); refine hK _ ?_; clear hK K hc' hf' hw' w')))
  refine wpDem_nil ?_
  intro w2 hb2
  go_wp2
  go_ret
  rw [e.out]
  exact ⟨rfl, hb2⟩

set_option maxHeartbeats 400000 in
theorem l03Fits_no (b : Nat) (W H : Int) (p : Option Addr) (n c : Nat) (w : World) (hb : b < w.heap.size) (hW : w.cell? ⟨b, 0, none⟩ = some (.int .i64 W)) (hH : w.cell? ⟨b, 1, none⟩ = some (.int .i64 H)) (h : vgB W H = false) :
    Calls Try.prog 46 #[.pointer (some ⟨b, 0, none⟩), .slice p n c] w fun e w' => e = .returned (.bool (fitB W H n)) ∧ Below w.heap.size w w' := by
  have e : Hid (fitB W H n = false) := by simp [Hid, fitB, h]
  have hv : Hid (vgB W H = false) := h
  clear h
  go_enter Try.func46, Try.ntmps46
  go_wp2
  refine wp_region_dem 16 (Below (w.heap.size) w) (fun _ _ v => v = .bool false) (by kernel_rfl) (by kernel_rfl) (Below.refl _ _).drew ?_
  simp only [List.take_succ_cons, List.take_zero, List.drop_succ_cons, List.drop_zero]
  repeat (first
    | (refine wpDem_skip rfl ?_; simp only [Act.put, List.setIfInBounds_toArray, List.set_cons_succ, List.set_cons_zero])
    | (refine wpDem_want rfl (fun K hK => ?_); intro w' hw'; obtain ⟨hc', hf'⟩ := bcellB hw'; go_simp; first | (refine hK _ ?_; clear hK K hc' hf' hw' w') | ((refine ⟨(l02Is_any b W H _ (by rw [hc' _ _ hb]; exact hW) (by rw [hc' _ _ hb]; exact hH)).mono (by rintro e w'' ⟨rfl, rfl⟩; exact ⟨_, rfl, congrArg Value.bool hv.out, hw'⟩), ?_⟩); refine hK _ ?_; clear hK K hc' hf' hw' w')))
  refine wpDem_nil ?_
  intro w2 hb2
  go_wp2
  go_ret
  rw [e.out]
  exact ⟨rfl, hb2⟩

theorem l03Fits_any (b : Nat) (W H : Int) (p : Option Addr) (n c : Nat) (hn : n ≤ 1048576) (w : World) (hb : b < w.heap.size) (hW : w.cell? ⟨b, 0, none⟩ = some (.int .i64 W)) (hH : w.cell? ⟨b, 1, none⟩ = some (.int .i64 H)) :
    Calls Try.prog 46 #[.pointer (some ⟨b, 0, none⟩), .slice p n c] w fun e w' => e = .returned (.bool (fitB W H n)) ∧ Below w.heap.size w w' := by
  cases h : vgB W H
  · exact l03Fits_no b W H p n c w hb hW hH h
  · exact l03Fits_yes b W H p n c hn w hb hW hH h

set_option maxHeartbeats 400000 in
theorem IsField_yes (W H : Int) (p : Option Addr) (n c : Nat) (hn : n ≤ 1048576) (w : World) (h : vgB W H = true) :
    Calls Try.prog 48 #[.agg #[.int .i64 W, .int .i64 H], .slice p n c] w fun e w' => e = .returned (.bool (fitB W H n)) ∧ Below w.heap.size w w' := by
  have e : Hid (fitB W H n = ((n : Int) == W * H)) := by simp only [Hid, fitB, h, Bool.true_and]; rw [Bool.eq_iff_iff]; simp
  obtain ⟨h1, h2, h3, h4⟩ := vgB_spec h
  have hv : Hid (vgB W H = true) := h
  clear h
  go_enter Try.func48, Try.ntmps48
  go_wp2
  refine wp_region_dem 9 (Below (w.heap.size + 1) (w.alloc (.cells #[.int .i64 W, .int .i64 H] 27))) (fun f _ v => v = (if f = 83 then .bool true else if f = 84 then .int .i64 n else .int .i64 (W * H))) (by kernel_rfl) (by kernel_rfl) (Below.refl _ _).drew ?_
  simp only [List.take_succ_cons, List.take_zero, List.drop_succ_cons, List.drop_zero]
  repeat (first
    | (refine wpDem_skip rfl ?_; simp only [Act.put, List.setIfInBounds_toArray, List.set_cons_succ, List.set_cons_zero])
    | (refine wpDem_want rfl (fun K hK => ?_); intro w' hw'; obtain ⟨hc', hf'⟩ := bcellB hw'; go_simp; first | (refine hK _ ?_; clear hK K hc' hf' hw' w') | ((first | (refine ⟨(ValidGrid_any W H _).mono (by rintro e w'' ⟨rfl, hq⟩; exact ⟨_, rfl, congrArg Value.bool hv.out, hw'.trans (hq.mono (by have := hw'.size; simpa using this))⟩), ?_⟩) | (refine ⟨(length_any p n c hn _).mono (by rintro e w'' ⟨rfl, rfl⟩; exact ⟨_, rfl, rfl, hw'⟩), ?_⟩) | (refine ⟨(size_any W H h1 h2 h3 h4 _).mono (by rintro e w'' ⟨rfl, hq⟩; exact ⟨_, rfl, rfl, hw'.trans (hq.mono (by have := hw'.size; simpa using this))⟩), ?_⟩)); refine hK _ ?_; clear hK K hc' hf' hw' w')))
  refine wpDem_nil ?_
  intro w2 hb2
  go_wp2
  go_ret
  rw [e.out]
  exact ⟨rfl, ((Below.refl _ _).alloc (Nat.le_refl _) _).trans (hb2.mono (by omega))⟩

set_option maxHeartbeats 400000 in
theorem IsField_no (W H : Int) (p : Option Addr) (n c : Nat) (w : World) (h : vgB W H = false) :
    Calls Try.prog 48 #[.agg #[.int .i64 W, .int .i64 H], .slice p n c] w fun e w' => e = .returned (.bool (fitB W H n)) ∧ Below w.heap.size w w' := by
  have e : Hid (fitB W H n = false) := by simp [Hid, fitB, h]
  have hv : Hid (vgB W H = false) := h
  clear h
  go_enter Try.func48, Try.ntmps48
  go_wp2
  refine wp_region_dem 9 (Below (w.heap.size + 1) (w.alloc (.cells #[.int .i64 W, .int .i64 H] 27))) (fun _ _ v => v = .bool false) (by kernel_rfl) (by kernel_rfl) (Below.refl _ _).drew ?_
  simp only [List.take_succ_cons, List.take_zero, List.drop_succ_cons, List.drop_zero]
  repeat (first
    | (refine wpDem_skip rfl ?_; simp only [Act.put, List.setIfInBounds_toArray, List.set_cons_succ, List.set_cons_zero])
    | (refine wpDem_want rfl (fun K hK => ?_); intro w' hw'; obtain ⟨hc', hf'⟩ := bcellB hw'; go_simp; first | (refine hK _ ?_; clear hK K hc' hf' hw' w') | ((refine ⟨(ValidGrid_any W H _).mono (by rintro e w'' ⟨rfl, hq⟩; exact ⟨_, rfl, congrArg Value.bool hv.out, hw'.trans (hq.mono (by have := hw'.size; simpa using this))⟩), ?_⟩); refine hK _ ?_; clear hK K hc' hf' hw' w')))
  refine wpDem_nil ?_
  intro w2 hb2
  go_wp2
  go_ret
  rw [e.out]
  exact ⟨rfl, ((Below.refl _ _).alloc (Nat.le_refl _) _).trans (hb2.mono (by omega))⟩

theorem IsField_any (W H : Int) (p : Option Addr) (n c : Nat) (hn : n ≤ 1048576) (w : World) :
    Calls Try.prog 48 #[.agg #[.int .i64 W, .int .i64 H], .slice p n c] w fun e w' => e = .returned (.bool (fitB W H n)) ∧ Below w.heap.size w w' := by
  cases h : vgB W H
  · exact IsField_no W H p n c w h
  · exact IsField_yes W H p n c hn w h
end Go.Proofs.Ytdafcgimkiepnaa.Grid
