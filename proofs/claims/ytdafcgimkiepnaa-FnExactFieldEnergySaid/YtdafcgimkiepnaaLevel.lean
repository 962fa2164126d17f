/-
  Contracts of what takes the mean away, and of copies, of the reference and of the program.
  Conditions: none.
-/
import Derived.Test.YtdafcgimkiepnaaBack
import Derived.Test.YtdafcgimkiepnaaMean
namespace Go.Proofs.Ytdafcgimkiepnaa.Level
open Go Go.RowKit Go.Proofs.Ytdafcgimkiepnaa.Fl Go.Proofs.Ytdafcgimkiepnaa.Reg Go.Proofs.Ytdafcgimkiepnaa.Step Go.Proofs.Ytdafcgimkiepnaa.Mem Go.Proofs.Ytdafcgimkiepnaa.Help Go.Proofs.Ytdafcgimkiepnaa.Grid Go.Proofs.Ytdafcgimkiepnaa.Mean Go.Proofs.Ytdafcgimkiepnaa.App

/-- A field less its mean. -/
def levelF (xs : List (Option Nat)) : List (Option Nat) := xs.map fun x => fop .sub .f32 x (meanF xs)

theorem take_map_succ {α β : Type} (f : α → β) (xs : List α) {k : Nat} (hk : k < xs.length) : (xs.map f).take (k + 1) = (xs.map f).take k ++ [f xs[k]] := by
  rw [List.take_succ_eq_append_getElem (by simpa using hk)]
  simp

set_option maxHeartbeats 400000 in
theorem l03Level_any (p : Option Addr) (c : Nat) (rs : List Nat) (w : World) (hn : rs.length ≤ 1048576) (hr : Rd w p rs) :
    Calls Try.prog 53 #[.slice p rs.length c] w fun e w' => Back w w' e rs.length (levelF (rs.map (vf .f32))) := by
  obtain ⟨n, hL⟩ : ∃ n, n = rs.length := ⟨_, rfl⟩
  have hL1 : Hid (n = rs.length) := hL
  rw [← hL]
  clear hL
  go_enter Try.func53, Try.ntmps53
  go_wp2_with fail
  rw [hL1.out]
  refine (l03Mean_any p c rs _ hn hr).mono ?_
  rintro e w1 ⟨m, rfl, hm, hb1⟩
  rw [← hL1.out]
  go_wp2
  go_loopw [4, 11] (fun out i wr => ∃ (k : Nat) (q : Option Addr) (cap : Nat) (rs' : List Nat), k ≤ n ∧ i = .int .i64 k ∧ out = .slice q k cap ∧ Ow wr w.heap.size q cap rs' ∧ Hid (rs'.map (vf .f32) = (levelF (rs.map (vf .f32))).take k) ∧ Below w.heap.size w wr) (fun _ i _ => n - (intOf i).toNat)
  case atStart => exact ⟨0, _, 0, [], Nat.zero_le _, rfl, rfl, (Ow.empty w1 #[] rfl).mono hb1.size, rfl, hb1.alloc hb1.size _⟩
  case round =>
    obtain ⟨k, q, cap, rs', hk, rfl, rfl, how, hv, hb⟩ := hrel
    have hlk : Hid (k = rs'.length) := by
      have h1 := congrArg List.length hv.out
      have h2 := hL1.out
      simp [levelF] at h1
      show k = rs'.length
      omega
    by_cases hlt : k < n
    · have hlr : k < rs.length := by rw [← hL1.out]; exact hlt
      obtain ⟨b, off, rfl, hbw, hc⟩ := (hr.below hb).at hlr
      have hck := hc k hlr
      clear hc
      go_wp2_with (first
        | (refine wpList_flt rfl rfl rfl rfl rfl (fun r' n' hr' => ?_))
        | (at_builtin; refine wpList_app1 rfl rfl rfl rfl rfl (how.drewN _) hlk.out (by have := hlk.out; omega) hb.size (fun p' cap' w' ho' hg' hp' => ?_)))
      go_roundw
      case rel =>
        refine ⟨k + 1, _, _, _, by omega, by go_num, rfl, ho', ?_, ?_⟩
        · have h1 := hr'.out
          have hlm : k < (rs.map (vf .f32)).length := by simpa using hlr
          rw [hm.out] at h1
          rw [Hid, List.map_append, hv.out, levelF, take_map_succ _ _ hlm]
          simp [h1]
        · exact hb.trans (below_of_gb (gb_drewN hg') (fun a ha => (how.lt a ha).1) hb.size)
      case measure => simp [intOf]; omega
    · go_wp2
      go_ret
      obtain rfl : k = n := by omega
      refine ⟨_, _, _, rfl, how, ?_, hb⟩
      have h1 := hv.out
      have h2 := hL1.out
      rw [h1, List.take_of_length_le (by simp [levelF, h2])]

set_option maxHeartbeats 400000 in
theorem Clone_any (b : Nat) (c : Nat) (rs : List Nat) (w : World) (h0 : 0 < rs.length) (hn : rs.length ≤ 1048576) (hr : Rd w (some ⟨b, 0, none⟩) rs) :
    Calls Try.prog 68 #[.slice (some ⟨b, 0, none⟩) rs.length c] w fun e w' => ∃ q cap, e = .returned (.slice q rs.length cap) ∧ Ow w' w.heap.size q cap rs ∧ Below w.heap.size w w' := by
  obtain ⟨n, hL⟩ : ∃ n, n = rs.length := ⟨_, rfl⟩
  have hL1 : Hid (n = rs.length) := hL
  rw [← hL]
  clear hL
  have hnil := fun w => Lib.run_eql_slice_nil (P := Try.prog) w 24 38 (some ⟨b, 0, none⟩) n c 0 0 Try.underlying24
  go_enter Try.func68, Try.ntmps68
  go_wp2_with (at_builtin; refine wpList_appN rfl rfl rfl rfl rfl (Ow.empty w #[] rfl) rfl (hr.below ((Below.refl _ _).alloc (Nat.le_refl _) _)) hL1.out h0 (by simp; omega) (by simp) (fun p' cap' w' ho' hg' hp' => ?_))
  go_ret
  refine ⟨p', cap', by simp, by simpa using ho', ((Below.refl _ _).alloc (Nat.le_refl _) _).trans (below_of_gb hg' (fun a ha => by cases ha; exact Nat.le_refl _) (by simp))⟩

/-- A store at k of what the list has there turned. -/
theorem set_step {xs ys : List (Option Nat)} {rs : List Nat} {k r : Nat} (hk : k < ys.length) (hl : xs.length = ys.length) (h : rs.map (vf .f32) = ys.take k ++ xs.drop k) (hr : vf .f32 r = ys[k]) :
    (rs.set k r).map (vf .f32) = ys.take (k + 1) ++ xs.drop (k + 1) := by
  have hkx : k < xs.length := by omega
  rw [List.map_set, h, hr, List.set_append_right _ _ (by simp; omega), List.length_take, Nat.min_eq_left (by omega), Nat.sub_self, List.drop_eq_getElem_cons hkx, List.set_cons_zero, List.take_succ_eq_append_getElem hk, List.append_assoc]
  rfl
theorem get_rest {xs ys : List (Option Nat)} {rs : List Nat} {k : Nat} (hk : k < xs.length) (hky : k ≤ ys.length) (h : rs.map (vf .f32) = ys.take k ++ xs.drop k) (hr : k < rs.length) : vf .f32 rs[k] = xs[k] := by
  have h1 : (rs.map (vf .f32))[k]? = (ys.take k ++ xs.drop k)[k]? := by rw [h]
  rw [List.getElem?_append_right (by simp; omega), List.length_take, Nat.min_eq_left hky, Nat.sub_self, List.getElem?_drop, Nat.add_zero, List.getElem?_map, List.getElem?_eq_getElem hr, List.getElem?_eq_getElem hk] at h1
  simpa using h1

set_option maxHeartbeats 400000 in
theorem withoutMean_any (b : Nat) (c : Nat) (rs : List Nat) (w : World) (h0 : 0 < rs.length) (hn : rs.length ≤ 1048576) (hr : Rd w (some ⟨b, 0, none⟩) rs) :
    Calls Try.prog 54 #[.slice (some ⟨b, 0, none⟩) rs.length c] w fun e w' => Back w w' e rs.length (levelF (rs.map (vf .f32))) := by
  obtain ⟨n, hL⟩ : ∃ n, n = rs.length := ⟨_, rfl⟩
  have hL1 : Hid (n = rs.length) := hL
  have hnn : n ≤ 1048576 := by omega
  rw [← hL]
  clear hL
  go_enter Try.func54, Try.ntmps54
  go_wp2_with fail
  rw [hL1.out]
  refine (mean_any _ c rs _ hn hr).mono ?_
  rintro e w1 ⟨m, rfl, hm, hb1⟩
  rw [← hL1.out]
  go_wp2_with fail
  rw [hL1.out]
  refine (Clone_any b c rs _ h0 hn (hr.below hb1)).mono ?_
  rintro e w2 ⟨q, cap, rfl, ho2, hb2⟩
  rw [← hL1.out]
  have ho2 := ho2.mono hb1.size
  replace hb2 := hb1.trans (hb2.mono hb1.size)
  go_wp2
  go_loopw [12] (fun i wr => ∃ (k : Nat) (rs' : List Nat), k ≤ n ∧ i = .int .i64 k ∧ Ow wr w.heap.size q cap rs' ∧ Hid (rs'.map (vf .f32) = (levelF (rs.map (vf .f32))).take k ++ (rs.map (vf .f32)).drop k) ∧ Below w.heap.size w wr) (fun i _ => n - (intOf i).toNat)
  case atStart => exact ⟨0, rs, Nat.zero_le _, rfl, ho2, by simp [Hid], hb2⟩
  case round =>
    obtain ⟨k, rs', hk, rfl, how, hv, hb⟩ := hrel
    have hlk : Hid (n = rs'.length) := by
      have h1 := congrArg List.length hv.out
      have h2 := hL1.out
      simp [levelF] at h1
      show n = rs'.length
      omega
    by_cases hlt : k < n
    · have hlr : k < rs'.length := by rw [← hlk.out]; exact hlt
      obtain ⟨g, rfl, hgb, hgl, hcs, hf⟩ := how.cells (by omega)
      have hck := hcs k hlr
      have hfz := hf k
      clear hcs hf
      go_wp2_with (refine wpList_flt rfl rfl rfl rfl rfl (fun r' n' hr' => ?_))
      go_roundw
      case rel =>
        have hlx : k < (rs.map (vf .f32)).length := by have := hL1.out; simp; omega
        refine ⟨k + 1, _, by omega, by go_num, (how.drewN n').set hlr r', ?_, ?_⟩
        · have h1 := hr'.out
          have h2 := get_rest (ys := levelF (rs.map (vf .f32))) hlx (by simp [levelF] at *; omega) hv.out hlr
          rw [hm.out, h2] at h1
          exact set_step (by simpa [levelF] using hlx) (by simp [levelF]) hv.out (by simpa [levelF] using h1)
        · exact (below_drewN hb n').setCell hgb _
      case measure => simp [intOf]; omega
    · go_wp2
      go_ret
      obtain rfl : k = n := by omega
      refine ⟨_, _, _, rfl, how, ?_, hb⟩
      have h1 := hv.out
      have h2 := hL1.out
      rw [h1, List.take_of_length_le (by simp [levelF, h2]), List.drop_of_length_le (by simp [h2]), List.append_nil]
end Go.Proofs.Ytdafcgimkiepnaa.Level
