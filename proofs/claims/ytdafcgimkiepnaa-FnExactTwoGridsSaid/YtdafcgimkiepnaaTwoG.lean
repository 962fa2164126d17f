/-
  Two grids: the parts of TwoGrids, and the walk of the reference's.
  Conditions: none.
-/
import Derived.Test.YtdafcgimkiepnaaHalf2
import Derived.Test.YtdafcgimkiepnaaRest
import Derived.Test.YtdafcgimkiepnaaSolve
import Derived.Test.YtdafcgimkiepnaaEven
import Derived.Test.YtdafcgimkiepnaaRows2
import Derived.Test.YtdafcgimkiepnaaSolveP
import Derived.Test.YtdafcgimkiepnaaGs
namespace Go.Proofs.Ytdafcgimkiepnaa.TwoG
open Go Go.RowKit Go.ChangeShapes Go.WideShapes Go.ChangeAt Go.Joins Go.Proofs.Ytdafcgimkiepnaa.Fl Go.Proofs.Ytdafcgimkiepnaa.Reg Go.Proofs.Ytdafcgimkiepnaa.Step Go.Proofs.Ytdafcgimkiepnaa.Mem Go.Proofs.Ytdafcgimkiepnaa.Same Go.Proofs.Ytdafcgimkiepnaa.Help Go.Proofs.Ytdafcgimkiepnaa.Grid Go.Proofs.Ytdafcgimkiepnaa.Mean Go.Proofs.Ytdafcgimkiepnaa.App Go.Proofs.Ytdafcgimkiepnaa.Level Go.Proofs.Ytdafcgimkiepnaa.Lap Go.Proofs.Ytdafcgimkiepnaa.Two Go.Proofs.Ytdafcgimkiepnaa.Sweep Go.Proofs.Ytdafcgimkiepnaa.Solve Go.Proofs.Ytdafcgimkiepnaa.Half Go.Proofs.Ytdafcgimkiepnaa.Rest Go.Proofs.Ytdafcgimkiepnaa.Even Go.Proofs.Ytdafcgimkiepnaa.Law Go.Proofs.Ytdafcgimkiepnaa.Gs

theorem product_comm (a b : Ieee.Datum) : a.product b = b.product a := by
  cases a <;> cases b <;> simp [Ieee.Datum.product, Bool.xor_comm, Nat.mul_comm, Int.add_comm]
theorem fop_mul_comm (x y : Option Nat) : fop .mul .f32 x y = fop .mul .f32 y x := by
  cases x <;> cases y <;> simp only [fop, Option.bind_none, Option.bind_some, floatBits, Ieee.Format.mul]
  rw [product_comm]

def scaleAt (xs : List (Option Nat)) (k : Nat) : Option Nat := fop .mul .f32 (some 1082130432) (xs.getD k none)
def scaleF (xs : List (Option Nat)) : List (Option Nat) := (List.range xs.length).map (scaleAt xs)
def addAt (xs ys : List (Option Nat)) (k : Nat) : Option Nat := fop .add .f32 (xs.getD k none) (ys.getD k none)
def addF (xs ys : List (Option Nat)) : List (Option Nat) := (List.range xs.length).map (addAt xs ys)
def moreF (W H hw hh : Nat) (xs cs : List (Option Nat)) : List (Option Nat) := fineF hw hh (solveF hw hh (scaleF (coarseF hw hh (restF W H xs cs))) 20)
def twoF (W H hw hh : Nat) (vs cs : List (Option Nat)) (R : Nat) : List (Option Nat) :=
  sweepsF W H (levelF cs) (addF (sweepsF W H (levelF cs) vs R) (moreF W H hw hh (sweepsF W H (levelF cs) vs R) cs)) R

theorem GI.gb {w wi wj : World} {W H : Int} {g : Nat} (h : GI w W H wi) (hg : wi.grownBy wj (some g)) (hl : w.heap.size + 1 ≤ g) : GI w W H wj := Below.trans h (below_gb_some hg hl h.size)

set_option maxHeartbeats 800000 in
theorem scaled_any (b c : Nat) (rs : List Nat) (n : Nat) (h0 : 0 < n) (hn : n ≤ 1048576) (l1 : Hid (rs.length = n)) (w : World) (hr : Rd w (some ⟨b, 0, none⟩) rs) :
    Calls Try.prog 81 #[.slice (some ⟨b, 0, none⟩) n c, .float .f32 1082130432] w fun e w' => Back w w' e n (scaleF (rs.map (vf .f32))) := by
  go_enter Try.func81, Try.ntmps81
  go_wp2_with fail
  have hc := Clone_any b c rs w (by rw [l1.out]; exact h0) (by rw [l1.out]; exact hn) hr
  rw [l1.out] at hc
  refine hc.mono ?_
  rintro e w1 ⟨q1, d1, rfl, o1, b1⟩
  obtain ⟨g, rfl⟩ : ∃ g, q1 = some ⟨g, 0, none⟩ := by obtain ⟨g, hg, _⟩ := o1.cells (by rw [l1.out]; exact h0); exact ⟨g, hg⟩
  have p1' := Pt.of_eq (xs := rs) rfl (n := n) (by simp [l1.out])
  clear hc
  go_wp2
  go_loopw [11] (fun i wr => ∃ (k : Nat) (xs : List Nat), k ≤ n ∧ i = .int .i64 k ∧ Ow wr w.heap.size (some ⟨g, 0, none⟩) d1 xs ∧ Pt n 0 k (scaleAt (rs.map (vf .f32))) xs ∧ Pt n k n (fun k => (rs.map (vf .f32)).getD k none) xs ∧ Below w.heap.size w wr) (fun i _ => n - (intOf i).toNat)
  case atStart => exact ⟨0, rs, Nat.zero_le _, rfl, o1, Pt.none p1'.len (Nat.le_refl _), p1', b1⟩
  case round =>
    clear o1 b1
    obtain ⟨k, xs, hk, rfl, o1, pa, pb, hb⟩ := hrel
    by_cases hlt : k < n
    · obtain ⟨x0, v0, c0⟩ := o1.get pb (k := k) (by omega) hlt hlt
      obtain ⟨_, f0⟩ := o1.slot (k := k) (by rw [pa.len]; exact hlt)
      go_wp2_with (refine wpList_flt rfl rfl rfl rfl rfl (fun r n1 hr1 => ?_))
      have hv : Hid (vf .f32 r = scaleAt (rs.map (vf .f32)) k) := by
        have a1 := hr1.out
        rw [v0.out, vf_four] at a1
        show _ = _
        rw [scaleAt, fop_mul_comm]
        exact a1
      go_roundw
      case rel => exact ⟨k + 1, _, by omega, by go_num, (o1.drewN n1).set (by rw [pa.len]; exact hlt) r, pa.up hlt hv.out, (pb.mono (Nat.le_succ k) (Nat.le_refl _)).keep (Nat.le_refl _) (Or.inl (Nat.lt_succ_self k)) r, (below_drewN hb n1).setCell (p := ⟨g, k, none⟩) (o1.lt _ rfl).1 _⟩
      case measure => simp [intOf]; omega
    · go_wp2
      obtain rfl : k = n := by omega
      go_ret
      exact ⟨_, _, xs, rfl, o1, by rw [pa.all, scaleF, List.length_map, l1.out], hb⟩

set_option maxHeartbeats 2000000 in
theorem spec_in (W H hw hh : Nat) (eW : Hid (W = 2 * hw)) (eH : Hid (H = 2 * hh)) (h1 : 4 ≤ hw) (h2 : hw ≤ 8) (h3 : 4 ≤ hh) (h4 : hh ≤ 8) (hev : evB W H = true) (p q c d : Nat) (rs ss : List Nat) (n : Nat) (R : Nat) (hR : R ≤ 60) (hn : Hid (n = W * H)) (l1 : Hid (rs.length = n)) (l2 : Hid (ss.length = n)) (hfit : fitB W H n = true) (w : World) (hr : Rd w (some ⟨p, 0, none⟩) rs) (hs : Rd w (some ⟨q, 0, none⟩) ss) :
    Calls Try.prog 44 #[.agg #[.int .i64 (W : Nat), .int .i64 (H : Nat)], .slice (some ⟨p, 0, none⟩) n c, .slice (some ⟨q, 0, none⟩) n d, .int .i64 (R : Nat)] w fun e w' => BackT w w' e true (twoF W H hw hh (rs.map (vf .f32)) (ss.map (vf .f32)) R) := by
  have hW16 : W ≤ 16 := by have := eW.out; omega
  have hH16 : H ≤ 16 := by have := eH.out; omega
  have hW8 : 8 ≤ W := by have := eW.out; omega
  have hH8 : 8 ≤ H := by have := eH.out; omega
  have hnn : n ≤ 256 := by rw [hn.out]; exact Nat.mul_le_mul hW16 hH16
  have hn0 : 0 < n := by rw [hn.out]; exact Nat.mul_pos (by omega) (by omega)
  have hni : Hid ((n : Int) = (W : Int) * H) := by show _ = _; rw [hn.out]; push_cast; rfl
  have hin : inB (R : Nat) 0 60 = true := by simp only [inB, decide_eq_true_eq]; omega
  have hG0 := GI.start w W H
  have hwn : Hid (w.heap.size + 1 ≤ w.heap.size + 1) := Nat.le_refl _
  go_enter Try.func44, Try.ntmps44
  go_wp2_with fail
  refine (l03Fits_any w.heap.size W H _ n c (by omega) _ (by simp) (by simp) (by simp)).mono ?_
  rw [hfit]
  rintro e w1 ⟨rfl, hb1⟩
  have hG1 := hG0.step hb1
  clear hb1
  go_wp2_with fail
  refine (l03Fits_any w.heap.size W H _ n d (by omega) _ (by have := hG1.size; omega) hG1.c0 hG1.c1).mono ?_
  rw [hfit]
  rintro e w2 ⟨rfl, hb2⟩
  have hG2 := hG1.step hb2
  clear hb2
  go_wp2_with fail
  refine (l03Halves_any w.heap.size W H (by omega) (by omega) (by omega) (by omega) _ hG2.c0 hG2.c1).mono ?_
  rw [hev]
  rintro e w3 ⟨rfl, rfl⟩
  go_wp2_with fail
  refine (l00In_any (R : Nat) 0 60 _).mono ?_
  rw [hin]
  rintro e w3 ⟨rfl, hb3⟩
  have hb3 : Below w2.heap.size w2 w3 := by rw [hb3]; exact Below.refl _ _
  have hG3 := hG2.step hb3
  clear hb3 hG1 hG2
  go_wp2_with fail
  have hc := SRows.l03Own_any p c rs w3 (by rw [l1.out]; exact hn0) (by rw [l1.out]; omega) (hr.below hG3.below)
  rw [l1.out] at hc
  refine hc.mono ?_
  rintro e w4 ⟨q4, c4, rfl, o4, b4⟩
  have hG4 := hG3.step b4
  obtain ⟨g4, rfl⟩ : ∃ g, q4 = some ⟨g, 0, none⟩ := by obtain ⟨g, hg, _⟩ := o4.cells (by rw [l1.out]; exact hn0); exact ⟨g, hg⟩
  have z4 := (o4.lt _ rfl).2
  have o4 := o4.mono hG3.size
  have y4 := (o4.lt _ rfl).1
  clear hc b4
  go_wp2_with fail
  have hc := l03Level_any (some ⟨q, 0, none⟩) d ss w4 (by rw [l2.out]; omega) (hs.below hG4.below)
  rw [l2.out] at hc
  refine hc.mono ?_
  rintro e w5 ⟨q5, c5, ls, rfl, o5, v5, b5⟩
  have hG5 := hG4.step b5
  have l5 : Hid (ls.length = n) := by have := congrArg List.length v5; show _ = _; simpa [levelF, l2.out] using this
  obtain ⟨g5, rfl⟩ : ∃ g, q5 = some ⟨g, 0, none⟩ := by obtain ⟨g, hg, _⟩ := o5.cells (by rw [l5.out]; exact hn0); exact ⟨g, hg⟩
  have hne : g5 ≠ g4 := by have := (o5.lt _ rfl).1; simp at z4 this; omega
  have o5 := o5.mono hG4.size
  have o4 := o4.below b5
  clear hc b5 z4
  have hc := l03Sweeps_any w.heap.size W H g4 c4 rs (some ⟨g5, 0, none⟩) c5 ls R (w.heap.size + 1) (by omega) (by omega) (by omega) (by omega) hR (by rw [l1.out]; exact hni.out) (by rw [l5.out, l1.out]) w5 (by have := hG5.size; omega) (by omega) hG5.c0 hG5.c1 o4 o5.rd (fun a ha => by cases ha; exact hne)
  rw [l1.out, l5.out] at hc
  go_wp2_with fail
  refine hc.mono ?_
  rintro e w6 ⟨rfl, rs6, l6, o6, v6, hg6⟩
  have hG6 := GI.gb hG5 hg6 y4
  have o5 := o5.gb hg6 (fun a ha he => by cases ha; exact hne (by simpa using he))
  rw [v5] at v6
  clear hc hg6 o4 hG3 hG4 hG5
  have l6 : Hid (rs6.length = n) := l6
  have hc := l03Rest_any w.heap.size W H (some ⟨g4, 0, none⟩) (some ⟨q, 0, none⟩) c4 d rs6 ss n (by omega) hW16 (by omega) hH16 hn l6 l2 w6 (by have := hG6.size; omega) hG6.c0 hG6.c1 o6.rd (hs.below hG6.below)
  go_wp2_with fail
  refine hc.mono ?_
  rintro e w7 ⟨q7, c7, rs7, rfl, o7, v7, b7⟩
  have hG7 := hG6.step b7
  have l7 : Hid (rs7.length = n) := by have := congrArg List.length v7; show _ = _; simpa [restF, l2.out] using this
  clear hc
  obtain ⟨m, hm⟩ : ∃ m, m = hw * hh := ⟨_, rfl⟩
  have hM : Hid (m = hw * hh) := hm
  have hmm : m ≤ 64 := by rw [hm]; exact Nat.mul_le_mul h2 h4
  have hm0 : 0 < m := by rw [hm]; exact Nat.mul_pos (by omega) (by omega)
  have hc := l03Coarse_any w.heap.size W H hw hh eW eH h1 h2 h3 h4 q7 c7 rs7 n hn l7 w7 (by have := hG7.size; omega) hG7.c0 hG7.c1 o7.rd
  rw [← hm] at hc
  clear hm
  go_wp2_with fail
  refine hc.mono ?_
  rintro e w8 ⟨q8, c8, rs8, rfl, o8, v8, b8⟩
  rw [v7] at v8
  have l8 : Hid (rs8.length = m) := by have := congrArg List.length v8; show _ = _; simpa [coarseF, hM.out] using this
  obtain ⟨g8, rfl⟩ : ∃ g, q8 = some ⟨g, 0, none⟩ := by obtain ⟨g, hg, _⟩ := o8.cells (by rw [l8.out]; exact hm0); exact ⟨g, hg⟩
  have b68 := b7.trans (b8.mono b7.size)
  have o8 := o8.mono b7.size
  clear hc o7 hG7 b7 b8 v7 l7
  have ne8 : g8 ≠ w8.heap.size := Nat.ne_of_lt (o8.lt _ rfl).2
  have bA := b68.alloc b68.size (.cells #[.int .i64 (hw : Nat), .int .i64 (hh : Nat)] 27)
  have o8 := o8.below ((Below.refl _ _).alloc (Nat.le_refl _) (.cells #[.int .i64 (hw : Nat), .int .i64 (hh : Nat)] 27))
  have x8 := Bx.new w8 (hw : Nat) (hh : Nat)
  have p8 := Pt.of_eq (xs := rs8) rfl (n := m) (by simp [l8.out])
  go_wp2
  generalize hwA : w8.alloc (.cells #[.int .i64 (hw : Nat), .int .i64 (hh : Nat)] 27) = wA at *
  clear hwA b68
  generalize w8.heap.size = bx at *
  go_loopw [52] (fun i wr => ∃ (k : Nat) (xs : List Nat), k ≤ m ∧ i = .int .i64 k ∧ Ow wr w6.heap.size (some ⟨g8, 0, none⟩) c8 xs ∧ Pt m 0 k (scaleAt (rs8.map (vf .f32))) xs ∧ Pt m k m (fun k => (rs8.map (vf .f32)).getD k none) xs ∧ Bx wr bx (hw : Nat) (hh : Nat) ∧ Below w6.heap.size w6 wr) (fun i _ => m - (intOf i).toNat)
  case atStart => exact ⟨0, rs8, Nat.zero_le _, rfl, o8, Pt.none p8.len (Nat.le_refl _), p8, x8, bA⟩
  case round =>
    clear o8 bA x8 p8
    obtain ⟨k, xs, hk, rfl, o8, pa, pb, x8, hb⟩ := hrel
    by_cases hlt : k < m
    · clear v5 v6 v8
      obtain ⟨x0, v0, c0⟩ := o8.get pb (k := k) (by omega) hlt hlt
      obtain ⟨_, f0⟩ := o8.slot (k := k) (by rw [pa.len]; exact hlt)
      go_wp2_with (refine wpList_flt rfl rfl rfl rfl rfl (fun r n1 hr1 => ?_))
      have hv : Hid (vf .f32 r = scaleAt (rs8.map (vf .f32)) k) := by
        have a1 := hr1.out
        rw [v0.out, vf_four] at a1
        exact a1
      go_roundw
      case rel => exact ⟨k + 1, _, by omega, by go_num, (o8.drewN n1).set (by rw [pa.len]; exact hlt) r, pa.up hlt hv.out, (pb.mono (Nat.le_succ k) (Nat.le_refl _)).keep (Nat.le_refl _) (Or.inl (Nat.lt_succ_self k)) r, Bx.gb (show Bx (wr.drewN n1) bx (hw : Nat) (hh : Nat) from x8) (gb_set (gb_refl _ (some g8)) _) (fun a e he => by cases e; exact ne8 (by simpa using he.symm)), (below_drewN hb n1).setCell (p := ⟨g8, k, none⟩) (o8.lt _ rfl).1 _⟩
      case measure => simp [intOf]; omega
    · obtain ⟨wo, rfl⟩ : ∃ wo, wo = wr := ⟨_, rfl⟩
      obtain rfl : m = k := by omega
      have lx : Hid (xs.length = m) := pa.len
      have vx : xs.map (vf .f32) = scaleF (rs8.map (vf .f32)) := by rw [pa.all, scaleF, List.length_map, l8.out]
      have hG7 := hG6.step hb
      have z4 := (o6.lt _ rfl).2
      have o6 := o6.below hb
      have o5 := o5.below hb
      have zz := hb.size
      clear pa pb hG6 hk hlt
      have hc := l03Solve_any bx hw hh (some ⟨g8, 0, none⟩) c8 xs 20 (by omega) (by omega) (by omega) (by omega) (by omega) (by rw [lx.out, hM.out]; push_cast; rfl) (by rw [lx.out]; exact hm0) (by rw [lx.out]; omega) wo x8.lt x8.c0 x8.c1 o8.rd
      rw [lx.out] at hc
      go_wp2_with fail
      refine hc.mono ?_
      rintro e w9 ⟨q9, c9, rs9, rfl, o9, v9, b9⟩
      have l9 : Hid (rs9.length = m) := by have := congrArg List.length v9; show _ = _; simpa [solveF, levelF, lx.out] using this
      have x9 := x8.below b9
      clear hc o8 x8
      have hc := l03Fine_any bx hw hh W H eW eH h1 h2 h3 h4 q9 c9 rs9 m hM l9 w9 x9.lt x9.c0 x9.c1 o9.rd
      rw [← hn.out] at hc
      go_wp2_with fail
      refine hc.mono ?_
      rintro e w10 ⟨q10, c10, rs10, rfl, o10, v10, b10⟩
      have l10 : Hid (rs10.length = n) := by have := congrArg List.length v10; show _ = _; simpa [fineF, hn.out, eW.out, eH.out] using this
      obtain ⟨g10, rfl⟩ : ∃ g, q10 = some ⟨g, 0, none⟩ := by obtain ⟨g, hg, _⟩ := o10.cells (by rw [l10.out]; exact hn0); exact ⟨g, hg⟩
      have ne10 : g10 ≠ g4 := by
        have a1 : w9.heap.size ≤ g10 := (o10.lt _ rfl).1
        have a2 : g4 < w6.heap.size := z4
        have := b9.size
        omega
      clear hc
      have bB := (b9.trans (b10.mono b9.size)).alloc (b9.trans (b10.mono b9.size)).size (.cells #[.int .i64 (W : Nat), .int .i64 (H : Nat)] 27)
      have hG8 := hG7.step bB
      have o6 := o6.below bB
      have o5 := o5.below bB
      have o10 := o10.below ((Below.refl _ _).alloc (Nat.le_refl _) (.cells #[.int .i64 (W : Nat), .int .i64 (H : Nat)] 27))
      have p6 := Pt.of_eq (xs := rs6) rfl (n := n) (by simp [l6.out])
      have p10 := Pt.of_eq (xs := rs10) rfl (n := n) (by simp [l10.out])
      clear o9 x9 b9 b10 hG7
      go_wp2
      generalize hwB : w10.alloc (.cells #[.int .i64 (W : Nat), .int .i64 (H : Nat)] 27) = wB at *
      clear hwB bB
      go_loopw [72] (fun i wq => ∃ (k : Nat) (ys : List Nat), k ≤ n ∧ i = .int .i64 k ∧ Ow wq (w.heap.size + 1) (some ⟨g4, 0, none⟩) c4 ys ∧ Pt n 0 k (addAt (rs6.map (vf .f32)) (rs10.map (vf .f32))) ys ∧ Pt n k n (fun k => (rs6.map (vf .f32)).getD k none) ys ∧ wB.grownBy wq (some g4)) (fun i _ => n - (intOf i).toNat)
      case atStart => exact ⟨0, rs6, Nat.zero_le _, rfl, o6, Pt.none p6.len (Nat.le_refl _), p6, gb_refl _ _⟩
      case round =>
        clear o6 p6
        obtain ⟨k, ys, hk, rfl, o6, pa, pb, hgb⟩ := hrel
        have o10 := o10.gb hgb (fun a ha he => by cases ha; exact ne10 (by simpa using he))
        by_cases hlt : k < n
        · clear v5 v6 v8 v9 v10 vx
          obtain ⟨x0, v0, c0⟩ := o6.get pb (k := k) (by omega) hlt hlt
          obtain ⟨x1, v1, c1⟩ := o10.get p10 (k := k) (by omega) hlt hlt
          have zg : g4 < wr.heap.size := (o6.lt _ rfl).2
          have zg2 : g10 < wr.heap.size := (o10.lt _ rfl).2
          go_wp2
          refine wp_region_dem 11 (Below (wr.heap.size) wr) (fun _ _ _ => False) (by kernel_rfl) (by kernel_rfl) (Below.refl _ _).drew ?_
          simp only [List.take_succ_cons, List.take_zero, List.drop_succ_cons, List.drop_zero]
          repeat (first
            | (refine wpDem_flt rfl rfl rfl rfl rfl (fun _ n h => (below_drewN_iff _ _ _ n).2 h) (fun r hr => ?_); simp only [Act.put, List.setIfInBounds_toArray, List.set_cons_succ, List.set_cons_zero])
            | (refine wpDem_want rfl (fun K hK => ?_); intro w' hw'; obtain ⟨hc', hf'⟩ := bcellB hw'; go_simp; first | (refine hK _ ?_; clear hK K hc' hf' hw' w')))
          refine wpDem_nil ?_
          intro w2 hb2
          have hv : Hid (vf .f32 r = addAt (rs6.map (vf .f32)) (rs10.map (vf .f32)) k) := by
            have a1 := hr.out
            rw [v0.out, v1.out] at a1
            exact a1
          clear hr v0 v1 c0 c1
          have o3 := o6.below hb2
          obtain ⟨⟨z0, e0⟩, f0⟩ := o3.slot (k := k) (by rw [pa.len]; exact hlt)
          go_wp2
          go_roundw
          case rel => exact ⟨k + 1, _, by omega, by go_num, o3.set (by rw [pa.len]; exact hlt) r, pa.up hlt hv.out, (pb.mono (Nat.le_succ k) (Nat.le_refl _)).keep (Nat.le_refl _) (Or.inl (Nat.lt_succ_self k)) r, gb_set (gb_trans hgb (gb_below hb2 (some g4))) _⟩
          case measure => simp [intOf]; omega
        · obtain rfl : n = k := by omega
          have hG9 := GI.gb hG8 hgb y4
          have o5 := o5.gb hgb (fun a ha he => by cases ha; exact hne (by simpa using he))
          have ly : Hid (ys.length = n) := pa.len
          have hc := l03Sweeps_any w.heap.size W H g4 c4 ys (some ⟨g5, 0, none⟩) c5 ls R (w.heap.size + 1) (by omega) (by omega) (by omega) (by omega) hR (by rw [ly.out]; exact hni.out) (by rw [l5.out, ly.out]) _ (by have := hG9.size; omega) (by omega) hG9.c0 hG9.c1 o6 o5.rd (fun a ha => by cases ha; exact hne)
          rw [ly.out, l5.out] at hc
          go_wp2_with fail
          refine hc.mono ?_
          rintro e w11 ⟨rfl, rs11, l11, o11, v11, hg11⟩
          go_wp2
          go_ret2
          refine ⟨_, _, rs11, by rw [l11]; rfl, o11.mono (Nat.le_succ _), ?_, by omega, (GI.gb hG9 hg11 y4).below⟩
          rw [v11, v5, pa.all, twoF, ← v6, addF, moreF, ← v8, ← vx, ← v9, ← v10, List.length_map, l6.out]
end Go.Proofs.Ytdafcgimkiepnaa.TwoG
