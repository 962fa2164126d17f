/-
  What is missing everywhere: contracts of the reference's and of the program's.
  Conditions: none.
-/
import Derived.Test.YtdafcgimkiepnaaLap
import Derived.Test.YtdafcgimkiepnaaTwo
namespace Go.Proofs.Ytdafcgimkiepnaa.Rest
open Go Go.RowKit Go.Proofs.Ytdafcgimkiepnaa.Fl Go.Proofs.Ytdafcgimkiepnaa.Reg Go.Proofs.Ytdafcgimkiepnaa.Step Go.Proofs.Ytdafcgimkiepnaa.Mem Go.Proofs.Ytdafcgimkiepnaa.Help Go.Proofs.Ytdafcgimkiepnaa.Grid Go.Proofs.Ytdafcgimkiepnaa.Index Go.Proofs.Ytdafcgimkiepnaa.Near Go.Proofs.Ytdafcgimkiepnaa.Mean Go.Proofs.Ytdafcgimkiepnaa.App Go.Proofs.Ytdafcgimkiepnaa.Level Go.Proofs.Ytdafcgimkiepnaa.Lap Go.Proofs.Ytdafcgimkiepnaa.Two

def restAt (W H : Int) (vs cs : List (Option Nat)) (k : Nat) : Option Nat := fop .sub .f32 ((levelF cs).getD k none) ((lapF W H vs).getD k none)
def restF (W H : Int) (vs cs : List (Option Nat)) : List (Option Nat) := (List.range cs.length).map (restAt W H vs cs)
theorem get_ne {g g2 : Nat} (h : g ≠ g2) : ∀ b o s, (some (⟨g, 0, none⟩ : Addr)) = some ⟨b, o, s⟩ → b ≠ g2 := by
  intro b o s e
  cases e
  exact h
theorem Pt.of_eq {n : Nat} {ys : List (Option Nat)} {xs : List Nat} (h : xs.map (vf .f32) = ys) (hl : ys.length = n) : Pt n 0 n (fun k => ys.getD k none) xs :=
  ⟨by rw [← hl, ← h]; simp, fun j _ _ => by rw [h]⟩

set_option maxHeartbeats 800000 in
theorem l03Rest_any (b0 : Nat) (W H : Nat) (p1 p2 : Option Addr) (c1 c2 : Nat) (rs ss : List Nat) (n : Nat) (h1 : 4 ≤ W) (h2 : W ≤ 16) (h3 : 4 ≤ H) (h4 : H ≤ 16) (hn : Hid (n = W * H)) (l1 : Hid (rs.length = n)) (l2 : Hid (ss.length = n)) (w : World) (hb0 : b0 < w.heap.size) (hW : w.cell? ⟨b0, 0, none⟩ = some (.int .i64 (W : Nat))) (hH : w.cell? ⟨b0, 1, none⟩ = some (.int .i64 (H : Nat))) (hr : Rd w p1 rs) (hs : Rd w p2 ss) :
    Calls Try.prog 73 #[.pointer (some ⟨b0, 0, none⟩), .slice p1 n c1, .slice p2 n c2] w fun e w' => Back w w' e n (restF W H (rs.map (vf .f32)) (ss.map (vf .f32))) := by
  have hnn : n ≤ 256 := by rw [hn.out]; exact Nat.mul_le_mul h2 h4
  have hn0 : 0 < n := by rw [hn.out]; exact Nat.mul_pos (by omega) (by omega)
  have hfi : Hid ((n : Int) = (W : Int) * H) := by show _ = _; rw [hn.out]; push_cast; rfl
  go_enter Try.func73, Try.ntmps73
  go_wp2_with fail
  have hc := l03Level_any p2 c2 ss w (by rw [l2.out]; omega) hs
  rw [l2.out] at hc
  refine hc.mono ?_
  rintro e w1 ⟨q1, d1, ls, rfl, o1, v1, b1⟩
  have hW1 := (b1.cell (p := ⟨b0, 0, none⟩) hb0).trans hW
  have hH1 := (b1.cell (p := ⟨b0, 1, none⟩) hb0).trans hH
  go_wp2_with fail
  have hc2 := l03Laplace_any b0 W H p1 c1 rs (by omega) (by omega) (by omega) (by omega) (by rw [l1.out]; exact hfi.out) w1 (Nat.lt_of_lt_of_le hb0 b1.size) hW1 hH1 (hr.below b1)
  rw [l1.out] at hc2
  refine hc2.mono ?_
  rintro e w2 ⟨q2, d2, ms, rfl, o2, v2, b2⟩
  have p1' := Pt.of_eq v1 (n := n) (by simp [levelF, l2.out])
  have p2' := Pt.of_eq v2 (n := n) (by simp [lapF, l1.out])
  have la := o1.lt
  have lb := o2.lt
  have o1 := o1.below b2
  have o2 := o2.mono b1.size
  have hb := b1.trans (b2.mono b1.size)
  obtain ⟨g, rfl⟩ : ∃ g, q1 = some ⟨g, 0, none⟩ := by obtain ⟨g, hg, _⟩ := o1.cells (by rw [p1'.len]; exact hn0); exact ⟨g, hg⟩
  obtain ⟨g2, rfl⟩ : ∃ g, q2 = some ⟨g, 0, none⟩ := by obtain ⟨g, hg, _⟩ := o2.cells (by rw [p2'.len]; exact hn0); exact ⟨g, hg⟩
  have la : g < w1.heap.size := (la _ rfl).2
  have lb : w1.heap.size ≤ g2 := (lb _ rfl).1
  have hne : g2 ≠ g := by omega
  clear hc hc2 v1 v2 b1 b2 hW1 hH1
  go_wp2
  go_loopw [17] (fun i wr => ∃ (k : Nat) (xs : List Nat), k ≤ n ∧ i = .int .i64 k ∧ Ow wr w.heap.size (some ⟨g, 0, none⟩) d1 xs ∧ Pt n 0 k (restAt W H (rs.map (vf .f32)) (ss.map (vf .f32))) xs ∧ Pt n k n (fun k => (levelF (ss.map (vf .f32))).getD k none) xs ∧ Ow wr w.heap.size (some ⟨g2, 0, none⟩) d2 ms ∧ Below w.heap.size w wr) (fun i _ => n - (intOf i).toNat)
  case atStart => exact ⟨0, ls, Nat.zero_le _, rfl, o1, Pt.none p1'.len (Nat.le_refl _), p1', o2, hb⟩
  case round =>
    clear o1 o2 hb p1'
    obtain ⟨k, xs, hk, rfl, o1, pa, pb, o2, hb⟩ := hrel
    by_cases hlt : k < n
    · obtain ⟨x0, v0, c0⟩ := o1.get pb (k := k) (by omega) hlt hlt
      obtain ⟨x1, v1, c1⟩ := o2.get p2' (k := k) (by omega) hlt hlt
      have zg : g < wr.heap.size := (o1.lt _ rfl).2
      have zg2 : g2 < wr.heap.size := (o2.lt _ rfl).2
      go_wp2
      refine wp_region_dem 11 (Below (wr.heap.size) wr) (fun _ _ _ => False) (by kernel_rfl) (by kernel_rfl) (Below.refl _ _).drew ?_
      simp only [List.take_succ_cons, List.take_zero, List.drop_succ_cons, List.drop_zero]
      repeat (first
        | (refine wpDem_flt rfl rfl rfl rfl rfl (fun _ n h => (below_drewN_iff _ _ _ n).2 h) (fun r hr => ?_); simp only [Act.put, List.setIfInBounds_toArray, List.set_cons_succ, List.set_cons_zero])
        | (refine wpDem_want rfl (fun K hK => ?_); intro w' hw'; obtain ⟨hc', hf'⟩ := bcellB hw'; go_simp; first | (refine hK _ ?_; clear hK K hc' hf' hw' w')))
      refine wpDem_nil ?_
      intro w2 hb2
      have hv : Hid (vf .f32 r = restAt W H (rs.map (vf .f32)) (ss.map (vf .f32)) k) := by
        have a1 := hr.out
        rw [v0.out, v1.out] at a1
        exact a1
      clear hr v0 v1 c0 c1
      have o3 := o1.below hb2
      obtain ⟨⟨z0, e0⟩, f0⟩ := o3.slot (k := k) (by rw [pa.len]; exact hlt)
      go_wp2
      go_roundw
      case rel => exact ⟨k + 1, _, by omega, by go_num, o3.set (by rw [pa.len]; exact hlt) r, pa.up hlt hv.out, (pb.mono (Nat.le_succ k) (Nat.le_refl _)).keep (Nat.le_refl _) (Or.inl (Nat.lt_succ_self k)) r, (o2.below hb2).set_other (get_ne hne) _, (hb.trans (hb2.mono hb.size)).setCell (p := ⟨g, k, none⟩) (o1.lt _ rfl).1 _⟩
      case measure => simp [intOf]; omega
    · go_wp2
      obtain rfl : k = n := by omega
      go_ret
      exact ⟨_, _, xs, rfl, o1, by rw [pa.all, restF, List.length_map, l2.out], hb⟩

set_option maxHeartbeats 800000 in
theorem rest_any (W H : Nat) (p1 : Option Addr) (bc : Nat) (c1 c2 : Nat) (rs ss : List Nat) (n : Nat) (h1 : 4 ≤ W) (h2 : W ≤ 16) (h3 : 4 ≤ H) (h4 : H ≤ 16) (hn : Hid (n = W * H)) (l1 : Hid (rs.length = n)) (l2 : Hid (ss.length = n)) (w : World) (hr : Rd w p1 rs) (hs : Rd w (some ⟨bc, 0, none⟩) ss) :
    Calls Try.prog 74 #[.agg #[.int .i64 (W : Nat), .int .i64 (H : Nat)], .slice p1 n c1, .slice (some ⟨bc, 0, none⟩) n c2] w fun e w' => Back w w' e n (restF W H (rs.map (vf .f32)) (ss.map (vf .f32))) := by
  have hnn : n ≤ 256 := by rw [hn.out]; exact Nat.mul_le_mul h2 h4
  have hn0 : 0 < n := by rw [hn.out]; exact Nat.mul_pos (by omega) (by omega)
  have hG0 := GI.start w W H
  go_enter Try.func74, Try.ntmps74
  go_wp2_with fail
  have hc := withoutMean_any bc c2 ss _ (by rw [l2.out]; exact hn0) (by rw [l2.out]; omega) (hs.below hG0.below)
  rw [l2.out] at hc
  refine hc.mono ?_
  rintro e w1 ⟨q1, d1, ls, rfl, o1, v1, b1⟩
  have hG1 := hG0.step b1
  have k0 := hG1.c0
  have k1 := hG1.c1
  go_wp2_with fail
  have hc2 := laplace_any W H p1 c1 rs h1 h2 h3 h4 (by rw [l1.out]; exact hn.out) w1 (hr.below hG1.below)
  rw [l1.out] at hc2
  refine hc2.mono ?_
  rintro e w2 ⟨q2, d2, ms, rfl, o2, v2, b2⟩
  have p1' := Pt.of_eq v1 (n := n) (by simp [levelF, l2.out])
  have p2' := Pt.of_eq v2 (n := n) (by simp [lapF, l1.out])
  have la := o1.lt
  have lb := o2.lt
  have o1 := (o1.mono hG0.below.size).below b2
  have o2 := o2.mono hG1.below.size
  have hb := (hG1.step b2).below
  obtain ⟨g, rfl⟩ : ∃ g, q1 = some ⟨g, 0, none⟩ := by obtain ⟨g, hg, _⟩ := o1.cells (by rw [p1'.len]; exact hn0); exact ⟨g, hg⟩
  obtain ⟨g2, rfl⟩ : ∃ g, q2 = some ⟨g, 0, none⟩ := by obtain ⟨g, hg, _⟩ := o2.cells (by rw [p2'.len]; exact hn0); exact ⟨g, hg⟩
  have la : g < w1.heap.size := (la _ rfl).2
  have lb : w1.heap.size ≤ g2 := (lb _ rfl).1
  have hne : g2 ≠ g := by omega
  clear hc hc2 v1 v2 b1 b2 k0 k1 hG0 hG1
  go_wp2
  go_loopw [16] (fun i wr => ∃ (k : Nat) (xs : List Nat), k ≤ n ∧ i = .int .i64 k ∧ Ow wr w.heap.size (some ⟨g, 0, none⟩) d1 xs ∧ Pt n 0 k (restAt W H (rs.map (vf .f32)) (ss.map (vf .f32))) xs ∧ Pt n k n (fun k => (levelF (ss.map (vf .f32))).getD k none) xs ∧ Ow wr w.heap.size (some ⟨g2, 0, none⟩) d2 ms ∧ Below w.heap.size w wr) (fun i _ => n - (intOf i).toNat)
  case atStart => exact ⟨0, ls, Nat.zero_le _, rfl, o1, Pt.none p1'.len (Nat.le_refl _), p1', o2, hb⟩
  case round =>
    clear o1 o2 hb p1'
    obtain ⟨k, xs, hk, rfl, o1, pa, pb, o2, hb⟩ := hrel
    by_cases hlt : k < n
    · obtain ⟨x0, v0, c0⟩ := o1.get pb (k := k) (by omega) hlt hlt
      obtain ⟨x1, v1, c1⟩ := o2.get p2' (k := k) (by omega) hlt hlt
      obtain ⟨_, f0⟩ := o1.slot (k := k) (by rw [pa.len]; exact hlt)
      go_wp2_with (refine wpList_flt rfl rfl rfl rfl rfl (fun r n1 hr1 => ?_))
      have hv : Hid (vf .f32 r = restAt W H (rs.map (vf .f32)) (ss.map (vf .f32)) k) := by
        have a1 := hr1.out
        rw [v0.out, v1.out] at a1
        exact a1
      go_roundw
      case rel => exact ⟨k + 1, _, by omega, by go_num, (o1.drewN n1).set (by rw [pa.len]; exact hlt) r, pa.up hlt hv.out, (pb.mono (Nat.le_succ k) (Nat.le_refl _)).keep (Nat.le_refl _) (Or.inl (Nat.lt_succ_self k)) r, (o2.drewN n1).set_other (get_ne hne) _, (below_drewN hb n1).setCell (p := ⟨g, k, none⟩) (o1.lt _ rfl).1 _⟩
      case measure => simp [intOf]; omega
    · go_wp2
      obtain rfl : k = n := by omega
      go_ret
      exact ⟨_, _, xs, rfl, o1, by rw [pa.all, restF, List.length_map, l2.out], hb⟩
end Go.Proofs.Ytdafcgimkiepnaa.Rest
