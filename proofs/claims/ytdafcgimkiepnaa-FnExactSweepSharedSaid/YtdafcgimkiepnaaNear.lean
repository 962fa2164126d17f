/-
  The neighbours of a corner, by its index: contracts of those of the reference and of the program.
  Conditions: none.
-/
import Derived.Test.YtdafcgimkiepnaaIndex
namespace Go.Proofs.Ytdafcgimkiepnaa.Near
open Go Go.RowKit Go.Proofs.Ytdafcgimkiepnaa.Fl Go.Proofs.Ytdafcgimkiepnaa.Reg Go.Proofs.Ytdafcgimkiepnaa.Step Go.Proofs.Ytdafcgimkiepnaa.Mem Go.Proofs.Ytdafcgimkiepnaa.Help Go.Proofs.Ytdafcgimkiepnaa.Grid Go.Proofs.Ytdafcgimkiepnaa.Index

/-- The index of neighbour j of the corner of index i. -/
def nbN (W H : Int) (i : Nat) (j : Nat) : Nat :=
  (match j with
  | 0 => ixF W H ((i : Int) % W - 1) ((i : Int) / W)
  | 1 => ixF W H ((i : Int) % W + 1) ((i : Int) / W)
  | 2 => ixF W H ((i : Int) % W) ((i : Int) / W - 1)
  | _ => ixF W H ((i : Int) % W) ((i : Int) / W + 1)).toNat

theorem ixF_lt (W H x y : Int) (h1 : 4 ≤ W) (h2 : W ≤ 16) (h3 : 4 ≤ H) (h4 : H ≤ 16) : 0 ≤ ixF W H x y ∧ ixF W H x y < W * H := by
  obtain ⟨a1, a2, a3, a4, a5⟩ := ixF_bd W H x y h1 h2 h3 h4
  have e : W * (H - 1) = W * H - W := by rw [Int.mul_sub, Int.mul_one]
  unfold ixF
  omega
theorem ixF_nat (W H x y : Int) (h1 : 4 ≤ W) (h2 : W ≤ 16) (h3 : 4 ≤ H) (h4 : H ≤ 16) : ixF W H x y = ((ixF W H x y).toNat : Int) := by
  have := ixF_lt W H x y h1 h2 h3 h4
  omega
theorem nbN_lt {W H : Int} {n : Nat} (h1 : 4 ≤ W) (h2 : W ≤ 16) (h3 : 4 ≤ H) (h4 : H ≤ 16) (hn : (n : Int) = W * H) (i j : Nat) : nbN W H i j < n := by
  have a0 := ixF_lt W H ((i : Int) % W - 1) ((i : Int) / W) h1 h2 h3 h4
  have a1 := ixF_lt W H ((i : Int) % W + 1) ((i : Int) / W) h1 h2 h3 h4
  have a2 := ixF_lt W H ((i : Int) % W) ((i : Int) / W - 1) h1 h2 h3 h4
  have a3 := ixF_lt W H ((i : Int) % W) ((i : Int) / W + 1) h1 h2 h3 h4
  unfold nbN
  split <;> omega

theorem split_ix {W H : Int} {i : Nat} (h1 : 4 ≤ W) (hi : (i : Int) < W * H) : 0 ≤ (i : Int) % W ∧ (i : Int) % W < W ∧ 0 ≤ (i : Int) / W ∧ (i : Int) / W < H ∧ (i : Int) = (i : Int) % W + W * ((i : Int) / W) := by
  refine ⟨Int.emod_nonneg _ (by omega), Int.emod_lt_of_pos _ (by omega), Int.ediv_nonneg (by omega) (by omega), ?_, (Int.emod_add_mul_ediv _ _).symm⟩
  exact Int.ediv_lt_of_lt_mul (by omega) (by rw [Int.mul_comm]; exact hi)

set_option maxHeartbeats 1000000 in
theorem near_any (b : Nat) (W H : Int) (i : Nat) (h1 : 4 ≤ W) (h2 : W ≤ 16) (h3 : 4 ≤ H) (h4 : H ≤ 16) (hi : (i : Int) < W * H) (w : World) (hb : b < w.heap.size) (hW : w.cell? ⟨b, 0, none⟩ = some (.int .i64 W)) (hH : w.cell? ⟨b, 1, none⟩ = some (.int .i64 H)) :
    Calls Try.prog 76 #[.pointer (some ⟨b, 0, none⟩), .int .i64 i] w fun e w' => ∃ g, e = .returned (.slice (some ⟨g, 0, none⟩) 4 4) ∧ w.heap.size ≤ g ∧ g < w'.heap.size ∧ Hid (∀ j, j < 4 → w'.cell? ⟨g, j, none⟩ = some (.int .i64 (nbN W H i j : Nat))) ∧ Below w.heap.size w w' := by
  obtain ⟨s1, s2, s3, s4, s5⟩ := split_ix h1 hi
  have q1 : (i : Int).tmod W = (i : Int) % W := Int.tmod_eq_emod_of_nonneg (by omega)
  have q2 : (i : Int).tdiv W = (i : Int) / W := Int.tdiv_eq_ediv_of_nonneg (by omega)
  have q3 : ¬ W = 0 := by omega
  have q4 : ¬ H = 0 := by omega
  have hv : Hid (∀ j, ((nbN W H i j : Nat) : Int) = (match j with
    | 0 => ixF W H ((i : Int) % W - 1) ((i : Int) / W)
    | 1 => ixF W H ((i : Int) % W + 1) ((i : Int) / W)
    | 2 => ixF W H ((i : Int) % W) ((i : Int) / W - 1)
    | _ => ixF W H ((i : Int) % W) ((i : Int) / W + 1))) := by
    intro j
    unfold nbN
    split <;> exact (ixF_nat W H _ _ h1 h2 h3 h4).symm
  clear s5
  obtain ⟨x, hx⟩ : ∃ x, x = (i : Int) % W := ⟨_, rfl⟩
  obtain ⟨y, hy⟩ : ∃ y, y = (i : Int) / W := ⟨_, rfl⟩
  rw [← hx] at s1 s2 q1 hv
  rw [← hy] at s3 s4 q2 hv
  clear hx hy
  have e1 : IntKind.i64.wrap (x + W) = x + W := IntWalk.i64_in _ (by omega)
  have e2 : IntKind.i64.wrap (x + W - 1) = x + W - 1 := IntWalk.i64_in _ (by omega)
  have e3 : IntKind.i64.wrap (x + 1) = x + 1 := IntWalk.i64_in _ (by omega)
  have e4 : IntKind.i64.wrap (y + H) = y + H := IntWalk.i64_in _ (by omega)
  have e5 : IntKind.i64.wrap (y + H - 1) = y + H - 1 := IntWalk.i64_in _ (by omega)
  have e6 : IntKind.i64.wrap (y + 1) = y + 1 := IntWalk.i64_in _ (by omega)
  have t1 : (x + W - 1).tmod W = (x + W - 1) % W := Int.tmod_eq_emod_of_nonneg (by omega)
  have t2 : (x + 1).tmod W = (x + 1) % W := Int.tmod_eq_emod_of_nonneg (by omega)
  have t3 : (y + H - 1).tmod H = (y + H - 1) % H := Int.tmod_eq_emod_of_nonneg (by omega)
  have t4 : (y + 1).tmod H = (y + 1) % H := Int.tmod_eq_emod_of_nonneg (by omega)
  go_enter Try.func76, Try.ntmps76
  go_wp2
  refine wp_region_dem 12 (Below (w.heap.size) w) (fun _ _ _ => False) (by kernel_rfl) (by kernel_rfl) (Below.refl _ _).drew ?_
  simp only [List.take_succ_cons, List.take_zero, List.drop_succ_cons, List.drop_zero]
  repeat (first
    | (refine wpDem_want rfl (fun K hK => ?_); intro w' hw'; obtain ⟨hc', hf'⟩ := bcellB hw'; go_simp; first | (refine hK _ ?_; clear hK K hc' hf' hw' w')))
  refine wpDem_nil ?_
  intro w2 hb2
  have hW2 := (hb2.cell (p := ⟨b, 0, none⟩) hb).trans hW
  have hH2 := (hb2.cell (p := ⟨b, 1, none⟩) hb).trans hH
  have hB2 : b < w2.heap.size := Nat.lt_of_lt_of_le hb hb2.size
  go_wp2
  refine wp_region_dem 12 (Below (w2.heap.size) w2) (fun _ _ _ => False) (by kernel_rfl) (by kernel_rfl) (Below.refl _ _).drew ?_
  simp only [List.take_succ_cons, List.take_zero, List.drop_succ_cons, List.drop_zero]
  repeat (first
    | (refine wpDem_want rfl (fun K hK => ?_); intro w' hw'; obtain ⟨hc', hf'⟩ := bcellB hw'; go_simp; first | (refine hK _ ?_; clear hK K hc' hf' hw' w')))
  refine wpDem_nil ?_
  intro w3 hb3
  replace hb2 := hb2.trans (hb3.mono hb2.size)
  have hW3 := (hb2.cell (p := ⟨b, 0, none⟩) hb).trans hW
  have hH3 := (hb2.cell (p := ⟨b, 1, none⟩) hb).trans hH
  have hB3 : b < w3.heap.size := Nat.lt_of_lt_of_le hb hb2.size
  clear hb3 hW2 hH2 hB2 e1 e2 e4 e5 t1 t3
  go_wp2
  clear e3 e6 t2 t4
  have u := ixF_bd W H (x - 1) (y - 1) h1 h2 h3 h4
  have v := ixF_bd W H (x + 1) (y + 1) h1 h2 h3 h4
  have z := ixF_bd W H x y h1 h2 h3 h4
  rw [Int.emod_eq_of_lt s3 s4, Int.emod_eq_of_lt s1 s2] at z
  rw [show (x + W - 1) % W = (x - 1) % W by rw [show x + W - 1 = x - 1 + W by omega, Int.add_emod_right], show (y + H - 1) % H = (y - 1) % H by rw [show y + H - 1 = y - 1 + H by omega, Int.add_emod_right]]
  have g1 : IntKind.i64.wrap (W * y) = W * y := IntWalk.i64_in _ (by omega)
  have g2 : IntKind.i64.wrap (W * ((y - 1) % H)) = W * ((y - 1) % H) := IntWalk.i64_in _ (by omega)
  have g3 : IntKind.i64.wrap (W * ((y + 1) % H)) = W * ((y + 1) % H) := IntWalk.i64_in _ (by omega)
  have g4 : IntKind.i64.wrap ((x - 1) % W + W * y) = (x - 1) % W + W * y := IntWalk.i64_in _ (by omega)
  have g5 : IntKind.i64.wrap ((x + 1) % W + W * y) = (x + 1) % W + W * y := IntWalk.i64_in _ (by omega)
  have g6 : IntKind.i64.wrap (x + W * ((y - 1) % H)) = x + W * ((y - 1) % H) := IntWalk.i64_in _ (by omega)
  have g7 : IntKind.i64.wrap (x + W * ((y + 1) % H)) = x + W * ((y + 1) % H) := IntWalk.i64_in _ (by omega)
  clear u v z
  refine wp_region_dem 32 (Below (w3.heap.size) w3) (fun _ _ _ => False) (by kernel_rfl) (by kernel_rfl) (Below.refl _ _).drew ?_
  simp only [List.take_succ_cons, List.take_zero, List.drop_succ_cons, List.drop_zero]
  repeat (first
    | (refine wpDem_want rfl (fun K hK => ?_); intro w' hw'; obtain ⟨hc', hf'⟩ := bcellB hw'; go_simp; first | (refine hK _ ?_; clear hK K hc' hf' hw' w')))
  refine wpDem_nil ?_
  intro w4 hb4
  clear g1 g2 g3 g4 g5 g6 g7
  go_wp2
  go_ret
  have hb5 := (hb2.trans (hb4.mono hb2.size)).alloc (Nat.le_trans hb2.size hb4.size) (.cells #[.int .i64 ((x - 1) % W + W * y), .int .i64 ((x + 1) % W + W * y), .int .i64 (x + W * ((y - 1) % H)), .int .i64 (x + W * ((y + 1) % H))] 2)
  have y0 := Int.emod_eq_of_lt s3 s4
  have x0 := Int.emod_eq_of_lt s1 s2
  refine ⟨w4.heap.size, rfl, Nat.le_trans hb2.size hb4.size, by simp, fun j hj => ?_, hb5⟩
  rw [hv.out j]
  rcases (by omega : j = 0 ∨ j = 1 ∨ j = 2 ∨ j = 3) with rfl | rfl | rfl | rfl <;> simp [ixF, y0, x0]

/-- The array of the neighbours' indices. -/
def nbA (W H : Int) (i : Nat) : Array Value := #[.int .i64 (nbN W H i 0 : Nat), .int .i64 (nbN W H i 1 : Nat), .int .i64 (nbN W H i 2 : Nat), .int .i64 (nbN W H i 3 : Nat)]
theorem und4 : Try.prog.underlying 56 = some (.array 4 2) := by kernel_rfl
@[go_sem] theorem run_index_nb (W H : Int) (i j : Nat) (w : World) (hj : j < 4) :
    (Instr.index 56 (.agg (nbA W H i)) (.int .i64 (j : Nat))).run Try.prog w = .ok (.int .i64 (nbN W H i j : Nat)) w := by
  have h1 : (Go.sizeOf 2).run Try.prog w = .ok 1 w := by kernel_rfl
  have hv : (nbA W H i)[j]? = some (.int .i64 (nbN W H i j : Nat)) := by
    rcases (by omega : j = 0 ∨ j = 1 ∨ j = 2 ∨ j = 3) with rfl | rfl | rfl | rfl <;> rfl
  simp [Instr.index, run_underlying und4, asIntOf, hj, hv, go_sem, h1]

set_option maxHeartbeats 400000 in
theorem neighbours_at (W H : Int) (i x y : Nat) (h1 : 4 ≤ W) (h2 : W ≤ 16) (h3 : 4 ≤ H) (h4 : H ≤ 16) (hx : (x : Int) < W) (hy : (y : Int) < H) (hi : (i : Int) = x + W * y) (w : World) :
    Calls Try.prog 49 #[.agg #[.int .i64 W, .int .i64 H], .int .i64 x, .int .i64 y] w fun e w' =>
      e = .returned (.agg (nbA W H i)) ∧ Below w.heap.size w w' := by
  refine (neighbours_any W H x y h1 h2 h3 h4 (by omega) hx (by omega) hy w).mono ?_
  rintro e w' ⟨rfl, hb⟩
  refine ⟨?_, hb⟩
  have q1 : (i : Int) % W = x := by rw [hi, Int.add_mul_emod_self_left]; exact Int.emod_eq_of_lt (by omega) hx
  have q2 : (i : Int) / W = y := by rw [hi, Int.add_mul_ediv_left _ _ (by omega), Int.ediv_eq_zero_of_lt (by omega) hx]; omega
  simp only [nbA, nbN, q1, q2, ← ixF_nat W H _ _ h1 h2 h3 h4]

theorem index_at (W H : Int) (i x y : Nat) (h1 : 4 ≤ W) (h2 : W ≤ 16) (h3 : 4 ≤ H) (h4 : H ≤ 16) (hx : (x : Int) < W) (hy : (y : Int) < H) (hi : (i : Int) = x + W * y) (w : World) :
    Calls Try.prog 50 #[.agg #[.int .i64 W, .int .i64 H], .int .i64 x, .int .i64 y] w fun e w' => e = .returned (.int .i64 i) ∧ Below w.heap.size w w' := by
  refine (index_any W H x y h1 h2 h3 h4 (by omega) (by omega) (by omega) (by omega) w).mono ?_
  rintro e w' ⟨rfl, hb⟩
  exact ⟨by rw [ixF_in hx hy, hi], hb⟩

/-- The sum (or difference) over the first k neighbours of i. -/
def nearTo (op : BinOp) (W H : Int) (xs : List (Option Nat)) (i : Nat) (x0 : Option Nat) : Nat → Option Nat
  | 0 => x0
  | k + 1 => fop op .f32 (nearTo op W H xs i x0 k) (xs.getD (nbN W H i k) none)
end Go.Proofs.Ytdafcgimkiepnaa.Near
