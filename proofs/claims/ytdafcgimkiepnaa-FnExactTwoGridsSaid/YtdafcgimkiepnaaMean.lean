/-
  Contracts of the sums and means of the reference and of the program.
  Conditions: none.
-/
import Derived.Test.YtdafcgimkiepnaaGrid
namespace Go.Proofs.Ytdafcgimkiepnaa.Mean
open Go Go.RowKit Go.Proofs.Ytdafcgimkiepnaa.Fl Go.Proofs.Ytdafcgimkiepnaa.Reg Go.Proofs.Ytdafcgimkiepnaa.Step Go.Proofs.Ytdafcgimkiepnaa.Mem Go.Proofs.Ytdafcgimkiepnaa.Help Go.Proofs.Ytdafcgimkiepnaa.Grid

def sumF (xs : List (Option Nat)) : Option Nat := xs.foldl (fop .add .f32) (some 0)
def meanF (xs : List (Option Nat)) : Option Nat := fop .quo .f32 (sumF xs) (some (floatOfInt .f32 (xs.length : Int)))

theorem vf_zero : vf .f32 0 = some 0 := by decide
theorem sumF_nil : sumF [] = some 0 := rfl
theorem sumF_step (rs : List Nat) {k : Nat} (hk : k < rs.length) : sumF ((rs.take (k + 1)).map (vf .f32)) = fop .add .f32 (sumF ((rs.take k).map (vf .f32))) (vf .f32 rs[k]) := by
  rw [List.take_succ_eq_append_getElem hk, List.map_append, sumF, List.foldl_append]
  simp [sumF]

set_option maxHeartbeats 400000 in
theorem l03Mean_any (p : Option Addr) (c : Nat) (rs : List Nat) (w : World) (hn : rs.length ≤ 1048576) (hr : Rd w p rs) :
    Calls Try.prog 86 #[.slice p rs.length c] w fun e w' => ∃ r, e = .returned (.float .f32 r) ∧ Hid (vf .f32 r = meanF (rs.map (vf .f32))) ∧ Below w.heap.size w w' := by
  obtain ⟨n, hL⟩ : ∃ n, n = rs.length := ⟨_, rfl⟩
  rw [← hL] at hn ⊢
  have hL1 : Hid (n = rs.length) := hL
  clear hL
  go_enter Try.func86, Try.ntmps86
  go_wp2
  go_loopw [3, 7] (fun s i wr => ∃ k r : Nat, k ≤ n ∧ s = .float .f32 r ∧ i = .int .i64 k ∧ Hid (vf .f32 r = sumF ((rs.take k).map (vf .f32))) ∧ Below w.heap.size w wr) (fun _ i _ => n - (intOf i).toNat)
  case atStart => exact ⟨0, 0, Nat.zero_le _, rfl, rfl, by simpa [Hid, sumF_nil] using vf_zero, Below.refl _ _⟩
  case round =>
    obtain ⟨k, r, hk, rfl, rfl, hv, hb⟩ := hrel
    by_cases hlt : k < n
    · have hlr : k < rs.length := by rw [← hL1.out]; exact hlt
      obtain ⟨b, off, rfl, hbw, hc⟩ := (hr.below hb).at hlr
      have hck := hc k hlr
      clear hc
      go_wp2_with (refine wpList_flt rfl rfl rfl rfl rfl (fun r' n' hr' => ?_))
      go_roundw
      case rel =>
        refine ⟨k + 1, _, by omega, rfl, by go_num, ?_, by simpa using hb⟩
        have h1 := hr'.out
        rw [hv.out] at h1
        exact h1.trans (sumF_step rs hlr).symm
      case measure => simp [intOf]; omega
    · go_wp2_with (refine wpList_flt rfl rfl rfl rfl rfl (fun r' n' hr' => ?_))
      go_ret
      refine ⟨_, rfl, ?_, by simpa using hb⟩
      have h1 := hr'.out
      obtain rfl : k = n := by omega
      rw [hv.out, vf_ofInt] at h1
      have h2 := hL1.out
      rw [h2, List.take_length] at h1
      exact h1.trans (by simp [meanF])

set_option maxHeartbeats 400000 in
theorem sum_any (p : Option Addr) (c : Nat) (rs : List Nat) (w : World) (hn : rs.length ≤ 1048576) (hr : Rd w p rs) :
    Calls Try.prog 94 #[.slice p rs.length c] w fun e w' => ∃ r, e = .returned (.float .f32 r) ∧ Hid (vf .f32 r = sumF (rs.map (vf .f32))) ∧ Below w.heap.size w w' := by
  obtain ⟨n, hL⟩ : ∃ n, n = rs.length := ⟨_, rfl⟩
  rw [← hL] at hn ⊢
  have hL1 : Hid (n = rs.length) := hL
  clear hL
  go_enter Try.func94, Try.ntmps94
  go_wp2
  go_loopw [3, 8] (fun s i wr => ∃ k r : Nat, k ≤ n ∧ s = .float .f32 r ∧ i = .int .i64 k ∧ Hid (vf .f32 r = sumF ((rs.take k).map (vf .f32))) ∧ Below w.heap.size w wr) (fun _ i _ => n - (intOf i).toNat)
  case atStart => exact ⟨0, 0, Nat.zero_le _, rfl, rfl, by simpa [Hid, sumF_nil] using vf_zero, Below.refl _ _⟩
  case round =>
    obtain ⟨k, r, hk, rfl, rfl, hv, hb⟩ := hrel
    by_cases hlt : k < n
    · have hlr : k < rs.length := by rw [← hL1.out]; exact hlt
      obtain ⟨b, off, rfl, hbw, hc⟩ := (hr.below hb).at hlr
      have hck := hc k hlr
      clear hc
      go_wp2_with (refine wpList_flt rfl rfl rfl rfl rfl (fun r' n' hr' => ?_))
      go_roundw
      case rel =>
        refine ⟨k + 1, _, by omega, rfl, by go_num, ?_, by simpa using hb⟩
        have h1 := hr'.out
        rw [hv.out] at h1
        exact h1.trans (sumF_step rs hlr).symm
      case measure => simp [intOf]; omega
    · go_wp2
      go_ret
      refine ⟨_, rfl, ?_, hb⟩
      obtain rfl : k = n := by omega
      have h1 := hv.out
      have h2 := hL1.out
      rw [h2, List.take_length] at h1
      exact h1

set_option maxHeartbeats 400000 in
theorem mean_any (p : Option Addr) (c : Nat) (rs : List Nat) (w : World) (hn : rs.length ≤ 1048576) (hr : Rd w p rs) :
    Calls Try.prog 87 #[.slice p rs.length c] w fun e w' => ∃ r, e = .returned (.float .f32 r) ∧ Hid (vf .f32 r = meanF (rs.map (vf .f32))) ∧ Below w.heap.size w w' := by
  go_enter Try.func87, Try.ntmps87
  go_wp2_with (first
    | (go_at_call 94; refine (sum_any p c rs _ hn hr).mono ?_; rintro e w1 ⟨r, rfl, hv, hb⟩)
    | (refine wpList_flt rfl rfl rfl rfl rfl (fun r' n' hr' => ?_)))
  go_ret
  refine ⟨_, rfl, ?_, by simpa using hb⟩
  have h1 := hr'.out
  rw [hv.out, vf_ofInt] at h1
  exact h1.trans (by simp [meanF])
end Go.Proofs.Ytdafcgimkiepnaa.Mean
