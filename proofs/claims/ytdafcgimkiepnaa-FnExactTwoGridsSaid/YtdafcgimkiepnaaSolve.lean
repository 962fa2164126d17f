/-
  Some sweeps of both colours, and the potential of charges: contracts of the reference's and of the program's.
  Conditions: none.
-/
import Derived.Test.YtdafcgimkiepnaaSweep
import Derived.Deep.RegionHeld3
namespace Go.Proofs.Ytdafcgimkiepnaa.Solve
open Go Go.RowKit Go.Proofs.Ytdafcgimkiepnaa.Fl Go.Proofs.Ytdafcgimkiepnaa.Reg Go.Proofs.Ytdafcgimkiepnaa.Step Go.Proofs.Ytdafcgimkiepnaa.Mem Go.Proofs.Ytdafcgimkiepnaa.Help Go.Proofs.Ytdafcgimkiepnaa.Grid Go.Proofs.Ytdafcgimkiepnaa.Index Go.Proofs.Ytdafcgimkiepnaa.Near Go.Proofs.Ytdafcgimkiepnaa.Mean Go.Proofs.Ytdafcgimkiepnaa.App Go.Proofs.Ytdafcgimkiepnaa.Level Go.Proofs.Ytdafcgimkiepnaa.Lap Go.Proofs.Ytdafcgimkiepnaa.Two Go.Proofs.Ytdafcgimkiepnaa.Sweep

def sweepsF (W H : Int) (ls xs : List (Option Nat)) : Nat → List (Option Nat)
  | 0 => xs
  | k + 1 => sweepF W H ls 1 (sweepF W H ls 0 (sweepsF W H ls xs k))
@[simp] theorem length_sweepsF (W H : Int) (ls xs : List (Option Nat)) (k : Nat) : (sweepsF W H ls xs k).length = xs.length := by
  induction k with
  | zero => rfl
  | succ k ih => simp [sweepsF, ih]
def solveF (W H : Int) (xs : List (Option Nat)) (k : Nat) : List (Option Nat) := levelF (sweepsF W H (levelF xs) (List.replicate xs.length (some 0)) k)

set_option maxHeartbeats 800000 in
theorem l03Sweeps_any (b0 : Nat) (W H : Int) (g : Nat) (c : Nat) (rs : List Nat) (q : Option Addr) (d : Nat) (ss : List Nat) (R : Nat) (base : Nat) (h1 : 4 ≤ W) (h2 : W ≤ 16) (h3 : 4 ≤ H) (h4 : H ≤ 16) (hR : R ≤ 60) (hf : (rs.length : Int) = W * H) (hl : ss.length = rs.length) (w : World) (hb0 : b0 < w.heap.size) (hne : b0 ≠ g) (hW : w.cell? ⟨b0, 0, none⟩ = some (.int .i64 W)) (hH : w.cell? ⟨b0, 1, none⟩ = some (.int .i64 H)) (how : Ow w base (some ⟨g, 0, none⟩) c rs) (hs : Rd w q ss) (hq : ∀ a, q = some a → a.block ≠ g) :
    Calls Try.prog 79 #[.pointer (some ⟨b0, 0, none⟩), .slice (some ⟨g, 0, none⟩) rs.length c, .slice q ss.length d, .int .i64 R] w fun e w' => e = .returned (.tuple #[]) ∧
      ∃ rs' : List Nat, rs'.length = rs.length ∧ Ow w' base (some ⟨g, 0, none⟩) c rs' ∧ rs'.map (vf .f32) = sweepsF W H (ss.map (vf .f32)) (rs.map (vf .f32)) R ∧ w.grownBy w' (some g) := by
  obtain ⟨n, hL⟩ : ∃ n, n = rs.length := ⟨_, rfl⟩
  have hL1 : Hid (n = rs.length) := hL
  have hL2 : Hid (n = ss.length) := by show n = ss.length; omega
  rw [hl]
  rw [← hL] at hf
  rw [← hL]
  have hF : Hid ((n : Int) = W * H) := hf
  clear hL hf hl
  go_enter Try.func79, Try.ntmps79
  go_wp2
  go_loopw [3] (fun i wr => ∃ (k : Nat) (rs' : List Nat), k ≤ R ∧ i = .int .i64 (R - k : Nat) ∧ rs'.length = n ∧ Ow wr base (some ⟨g, 0, none⟩) c rs' ∧ Hid (rs'.map (vf .f32) = sweepsF W H (ss.map (vf .f32)) (rs.map (vf .f32)) k) ∧ w.grownBy wr (some g)) (fun i _ => (intOf i).toNat)
  case atStart => exact ⟨0, rs, Nat.zero_le _, rfl, hL1.out.symm, how, rfl, gb_refl _ _⟩
  case round =>
    obtain ⟨k, rs', hk, rfl, hln, how, hv, hb⟩ := hrel
    obtain ⟨m, hm⟩ : ∃ m, m = R - k := ⟨_, rfl⟩
    have hM : Hid (m = R - k) := hm
    have hm60 : m ≤ 60 := by omega
    rw [← hm]
    clear hm
    have hW1 := hb.cell hW (by simpa using hne)
    have hH1 := hb.cell hH (by simpa using hne)
    have hB1 : b0 < wr.heap.size := Nat.lt_of_lt_of_le hb0 hb.size
    have hsr : Rd wr q ss := hs.gb hb (fun a ha he => hq a ha (by simpa using he))
    by_cases hlt : 0 < m
    · go_wp2_with fail
      have hc1 := l03Sweep_any b0 W H g c rs' q d ss 0 base h1 h2 h3 h4 (by rw [hln]; exact hF.out) (by rw [hln]; exact hL2.out.symm) wr hB1 hne hW1 hH1 how hsr hq
      rw [hln, ← hL2.out] at hc1
      refine hc1.mono ?_
      rintro e w1 ⟨rfl, rs1, hl1, ho1, hv1, hg1⟩
      have hb1 := gb_trans hb hg1
      have hW2 := hb1.cell hW (by simpa using hne)
      have hH2 := hb1.cell hH (by simpa using hne)
      have hB2 : b0 < w1.heap.size := Nat.lt_of_lt_of_le hb0 hb1.size
      have hsr1 : Rd w1 q ss := hs.gb hb1 (fun a ha he => hq a ha (by simpa using he))
      go_wp2_with fail
      have hc2 := l03Sweep_any b0 W H g c rs1 q d ss 1 base h1 h2 h3 h4 (by rw [hl1]; exact hF.out) (by rw [hl1]; exact hL2.out.symm) w1 hB2 hne hW2 hH2 ho1 hsr1 hq
      rw [hl1, ← hL2.out] at hc2
      refine hc2.mono ?_
      rintro e w2 ⟨rfl, rs2, hl2, ho2, hv2, hg2⟩
      go_wp2
      go_roundw
      case rel =>
        refine ⟨k + 1, rs2, by have := hM.out; omega, by have := hM.out; simp; omega, hl2, ho2, ?_, gb_trans hb1 hg2⟩
        show _ = _
        rw [hv2, hv1, hv.out]
        rfl
      case measure => simp [intOf]; omega
    · go_wp2
      obtain rfl : k = R := by have := hM.out; omega
      exact bodyPost_end (results_none rfl _ _ _) rfl ⟨rfl, rs', hln, how, hv.out, hb⟩

set_option maxHeartbeats 800000 in
theorem sweeps_any (W H : Nat) (g : Nat) (c : Nat) (rs : List Nat) (q : Option Addr) (d : Nat) (ss : List Nat) (R : Nat) (base : Nat) (h1 : 4 ≤ W) (h2 : W ≤ 16) (h3 : 4 ≤ H) (h4 : H ≤ 16) (hR : R ≤ 60) (hf : rs.length = W * H) (hl : ss.length = rs.length) (w : World) (how : Ow w base (some ⟨g, 0, none⟩) c rs) (hs : Rd w q ss) (hq : ∀ a, q = some a → a.block ≠ g) :
    Calls Try.prog 80 #[.agg #[.int .i64 (W : Nat), .int .i64 (H : Nat)], .slice (some ⟨g, 0, none⟩) rs.length c, .slice q ss.length d, .int .i64 R] w fun e w' => e = .returned (.tuple #[]) ∧
      ∃ rs' : List Nat, rs'.length = rs.length ∧ Ow w' base (some ⟨g, 0, none⟩) c rs' ∧ rs'.map (vf .f32) = sweepsF W H (ss.map (vf .f32)) (rs.map (vf .f32)) R ∧ w.grownBy w' (some g) := by
  obtain ⟨n, hL⟩ : ∃ n, n = rs.length := ⟨_, rfl⟩
  have hL1 : Hid (n = rs.length) := hL
  have hL2 : Hid (n = ss.length) := by show n = ss.length; omega
  rw [hl]
  rw [← hL] at hf
  rw [← hL]
  have hF : Hid (n = W * H) := hf
  have hgw : g < w.heap.size := (how.lt _ rfl).2
  clear hL hf hl
  have hb00 : Below w.heap.size w (w.alloc (.cells #[.int .i64 (W : Nat), .int .i64 (H : Nat)] 27)) := (Below.refl _ _).alloc (Nat.le_refl _) _
  have how0 := how.below hb00
  have hs0 := hs.below hb00
  have hgb0 : w.grownBy (w.alloc (.cells #[.int .i64 (W : Nat), .int .i64 (H : Nat)] 27)) (some g) := gb_below hb00 _
  have hcw0 : (w.alloc (.cells #[.int .i64 (W : Nat), .int .i64 (H : Nat)] 27)).cell? ⟨w.heap.size, 0, none⟩ = some (.int .i64 (W : Nat)) := by simp
  have hcw1 : (w.alloc (.cells #[.int .i64 (W : Nat), .int .i64 (H : Nat)] 27)).cell? ⟨w.heap.size, 1, none⟩ = some (.int .i64 (H : Nat)) := by simp
  have hne : w.heap.size ≠ g := by omega
  go_enter Try.func80, Try.ntmps80
  go_wp2
  generalize hw1 : w.alloc (.cells #[.int .i64 (W : Nat), .int .i64 (H : Nat)] 27) = w1 at *
  clear hw1 how hs hb00
  go_loopw [9] (fun i wr => ∃ (k : Nat) (rs' : List Nat), k ≤ R ∧ i = .int .i64 k ∧ rs'.length = n ∧ Ow wr base (some ⟨g, 0, none⟩) c rs' ∧ Hid (rs'.map (vf .f32) = sweepsF W H (ss.map (vf .f32)) (rs.map (vf .f32)) k) ∧ w1.grownBy wr (some g)) (fun i _ => R - (intOf i).toNat)
  case atStart => exact ⟨0, rs, Nat.zero_le _, rfl, hL1.out.symm, how0, rfl, gb_refl _ _⟩
  case round =>
    obtain ⟨k, rs', hk, rfl, hln, how, hv, hb⟩ := hrel
    have hc0 := hb.cell hcw0 (by simpa using hne)
    have hc1 := hb.cell hcw1 (by simpa using hne)
    have hsr : Rd wr q ss := hs0.gb hb (fun a ha he => hq a ha (by simpa using he))
    by_cases hlt : k < R
    · go_wp2_with fail
      have hs1 := sweep_any W H g c rs' q d ss 0 base h1 h2 h3 h4 (by rw [hln]; exact hF.out) (by rw [hln]; exact hL2.out.symm) wr how hsr hq
      rw [hln, ← hL2.out] at hs1
      refine hs1.mono ?_
      rintro e w2 ⟨rfl, rs1, hl1, ho1, hv1, hg1⟩
      have hb1 := gb_trans hb hg1
      have hd0 := hb1.cell hcw0 (by simpa using hne)
      have hd1 := hb1.cell hcw1 (by simpa using hne)
      have hsr1 : Rd w2 q ss := hs0.gb hb1 (fun a ha he => hq a ha (by simpa using he))
      go_wp2_with fail
      have hs2 := sweep_any W H g c rs1 q d ss 1 base h1 h2 h3 h4 (by rw [hl1]; exact hF.out) (by rw [hl1]; exact hL2.out.symm) w2 ho1 hsr1 hq
      rw [hl1, ← hL2.out] at hs2
      refine hs2.mono ?_
      rintro e w3 ⟨rfl, rs2, hl2, ho2, hv2, hg2⟩
      go_wp2
      go_roundw
      case rel =>
        refine ⟨k + 1, rs2, by omega, by go_num, hl2, ho2, ?_, gb_trans hb1 hg2⟩
        show _ = _
        rw [hv2, hv1, hv.out]
        rfl
      case measure => simp [intOf]; omega
    · go_wp2
      obtain rfl : k = R := by omega
      exact bodyPost_end (results_none rfl _ _ _) rfl ⟨rfl, rs', hln, how, hv.out, gb_trans hgb0 hb⟩

theorem map_zeros (n : Nat) : (List.replicate n 0).map (vf .f32) = List.replicate n (some 0) := by
  rw [List.map_replicate]
  rw [show vf .f32 0 = some 0 from vf_zero]

set_option maxHeartbeats 800000 in
theorem l03Solve_any (b0 : Nat) (W H : Int) (q : Option Addr) (d : Nat) (ss : List Nat) (R : Nat) (h1 : 4 ≤ W) (h2 : W ≤ 16) (h3 : 4 ≤ H) (h4 : H ≤ 16) (hR : R ≤ 60) (hf : (ss.length : Int) = W * H) (h0 : 0 < ss.length) (hn : ss.length ≤ 1048576) (w : World) (hb0 : b0 < w.heap.size) (hW : w.cell? ⟨b0, 0, none⟩ = some (.int .i64 W)) (hH : w.cell? ⟨b0, 1, none⟩ = some (.int .i64 H)) (hs : Rd w q ss) :
    Calls Try.prog 70 #[.pointer (some ⟨b0, 0, none⟩), .slice q ss.length d, .int .i64 R] w fun e w' => Back w w' e ss.length (solveF W H (ss.map (vf .f32)) R) := by
  obtain ⟨n, hL⟩ : ∃ n, n = ss.length := ⟨_, rfl⟩
  have hL1 : Hid (n = ss.length) := hL
  rw [← hL] at hn h0 hf ⊢
  have hF : Hid ((n : Int) = W * H) := hf
  clear hL hf
  have hmk := fun w => make_f32 w n hn
  have ho1 := Ow.made w n (by unfold maxLen; omega)
  have hbA : Below w.heap.size w (w.alloc (.cells (madeCells #[.float .f32 0] n) 38)) := (Below.refl _ _).alloc (Nat.le_refl _) _
  go_enter Try.func70, Try.ntmps70
  go_wp2_with fail
  clear hmk
  rw [hL1.out] at ho1 hbA ⊢
  refine (l03Level_any q d ss _ (by rw [← hL1.out]; exact hn) (hs.below hbA)).mono ?_
  rintro e w1 ⟨q1, c1, ls, rfl, ho2, hv1, hb1⟩
  have hl1 : ls.length = ss.length := by have := congrArg List.length hv1; simpa [levelF] using this
  have hbB := hbA.trans (hb1.mono hbA.size)
  have ho3 := ho1.below hb1
  have hW1 := (hbB.cell (p := ⟨b0, 0, none⟩) hb0).trans hW
  have hH1 := (hbB.cell (p := ⟨b0, 1, none⟩) hb0).trans hH
  go_wp2_with fail
  have hsw := l03Sweeps_any b0 W H w.heap.size ss.length (List.replicate ss.length 0) q1 c1 ls R w.heap.size h1 h2 h3 h4 hR (by simp; rw [← hL1.out]; exact hF.out) (by simpa using hl1) w1 (Nat.lt_of_lt_of_le hb0 hbB.size) (by omega) hW1 hH1 (by simpa [Ow] using ho3) ho2.rd (fun a ha => by have := (ho2.lt a ha).1; simp at this; omega)
  rw [hl1, List.length_replicate] at hsw
  refine hsw.mono ?_
  rintro e w2 ⟨rfl, rs2, hl2, ho4, hv2, hg2⟩
  have hbC : Below w.heap.size w w2 := hbB.trans (below_gb_some hg2 (Nat.le_refl _) hbB.size)
  go_wp2_with fail
  rw [← hl2]
  refine (l03Level_any _ _ rs2 _ (by rw [hl2, ← hL1.out]; exact hn) ho4.rd).mono ?_
  rintro e w3 ⟨q3, c3, ls3, rfl, ho5, hv3, hb3⟩
  go_wp2
  go_ret
  refine ⟨q3, c3, ls3, by rw [hL1.out]; rfl, ho5.mono hbC.size, ?_, hbC.trans (hb3.mono hbC.size)⟩
  rw [hv3, hv2, hv1, map_zeros, solveF, List.length_map]

set_option maxHeartbeats 800000 in
theorem potential_any (W H : Nat) (b : Nat) (d : Nat) (ss : List Nat) (R : Nat) (h1 : 4 ≤ W) (h2 : W ≤ 16) (h3 : 4 ≤ H) (h4 : H ≤ 16) (hR : R ≤ 60) (hf : ss.length = W * H) (h0 : 0 < ss.length) (hn : ss.length ≤ 1048576) (w : World) (hs : Rd w (some ⟨b, 0, none⟩) ss) :
    Calls Try.prog 72 #[.agg #[.int .i64 (W : Nat), .int .i64 (H : Nat)], .slice (some ⟨b, 0, none⟩) ss.length d, .int .i64 R] w fun e w' => Back w w' e ss.length (solveF W H (ss.map (vf .f32)) R) := by
  obtain ⟨n, hL⟩ : ∃ n, n = ss.length := ⟨_, rfl⟩
  have hL1 : Hid (n = ss.length) := hL
  rw [← hL] at hn h0 hf ⊢
  have hF : Hid (n = W * H) := hf
  clear hL hf
  have hmk := fun w => make_f32 w n hn
  have hG0 := GI.start w W H
  have ho1 := Ow.made (w.alloc (.cells #[.int .i64 (W : Nat), .int .i64 (H : Nat)] 27)) n (by unfold maxLen; omega)
  have hbA : Below (w.alloc (.cells #[.int .i64 (W : Nat), .int .i64 (H : Nat)] 27)).heap.size (w.alloc (.cells #[.int .i64 (W : Nat), .int .i64 (H : Nat)] 27)) ((w.alloc (.cells #[.int .i64 (W : Nat), .int .i64 (H : Nat)] 27)).alloc (.cells (madeCells #[.float .f32 0] n) 38)) := (Below.refl _ _).alloc (Nat.le_refl _) _
  have hG1 := hG0.step hbA
  go_enter Try.func72, Try.ntmps72
  go_wp2
  clear hmk
  rw [hL1.out] at ho1 hbA hG1 ⊢
  generalize hw1 : (w.alloc (.cells #[.int .i64 (W : Nat), .int .i64 (H : Nat)] 27)).alloc (.cells (madeCells #[.float .f32 0] ss.length) 38) = w1 at *
  clear hw1
  have hc0 := hG1.c0
  have hc1 := hG1.c1
  have hsr := hs.below hG1.below
  have hz : w.heap.size + 1 < w1.heap.size := by have := (ho1.lt _ rfl).2; simpa using this
  go_region_held3 (fun w' => w'.cell? ⟨w.heap.size, 0, none⟩ = some (.int .i64 (W : Nat)) ∧ w'.cell? ⟨w.heap.size, 1, none⟩ = some (.int .i64 (H : Nat))) (go_keep)
    (first
      | (go_at_call 54; refine (withoutMean_any b d ss _ (by rw [← hL1.out]; exact h0) (by rw [← hL1.out]; exact hn) (hsr.below (Below.refl _ _).drew)).mono ?_; rintro e w5 ⟨q5, c5, ls, rfl, ho5, hv5, hb5⟩; replace hb5 : Below w1.heap.size w1 w5 := ⟨hb5.os, hb5.tape, hb5.output, hb5.size, hb5.block⟩; have hG5 := hG1.step hb5; have hd0 := hG5.c0; have hd1 := hG5.c1)
      | (go_at_call 80; have hsw := sweeps_any W H (w.heap.size + 1) ss.length (List.replicate ss.length 0) q5 c5 ls R (w.heap.size + 1) h1 h2 h3 h4 hR (by simp; rw [← hL1.out]; exact hF.out) (by have := congrArg List.length hv5; simp [levelF] at *; omega) w5 (by have := ho1.below hb5; simpa [Ow] using this) ho5.rd (fun a ha => by have h5 := (ho5.lt a ha).1; have h6 : w1.drew.heap.size = w1.heap.size := rfl; omega); rw [show ls.length = ss.length by have := congrArg List.length hv5; simpa [levelF] using this, List.length_replicate] at hsw; refine hsw.mono ?_; rintro e w6 ⟨rfl, rs', hl6, ho6, hv6, hg6⟩; have he0 := hg6.cell hd0 (by simp); have he1 := hg6.cell hd1 (by simp)))
  all_goals go_wp2_with fail
  have hbC : Below w.heap.size w w6 := hG5.below.trans (below_gb_some hg6 (by omega) (by have := hG5.size; omega))
  rw [← hl6]
  refine (withoutMean_any _ _ rs' _ (by rw [hl6, ← hL1.out]; exact h0) (by rw [hl6, ← hL1.out]; exact hn) ho6.rd).mono ?_
  rintro e w7 ⟨q7, c7, ls7, rfl, ho7, hv7, hb7⟩
  go_wp2
  go_ret
  refine ⟨q7, c7, ls7, by rw [hL1.out]; rfl, ho7.mono hbC.size, ?_, hbC.trans (hb7.mono hbC.size)⟩
  rw [hv7, hv6, hv5, map_zeros, solveF, List.length_map]
end Go.Proofs.Ytdafcgimkiepnaa.Solve
