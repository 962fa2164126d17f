/-
  Contracts of the indices of corners and of their neighbours, of the reference and of the program.
  Conditions: none.
-/
import Derived.Test.YtdafcgimkiepnaaGrid
namespace Go.Proofs.Ytdafcgimkiepnaa.Index
open Go Go.RowKit Go.Proofs.Ytdafcgimkiepnaa.Fl Go.Proofs.Ytdafcgimkiepnaa.Reg Go.Proofs.Ytdafcgimkiepnaa.Step Go.Proofs.Ytdafcgimkiepnaa.Mem Go.Proofs.Ytdafcgimkiepnaa.Help Go.Proofs.Ytdafcgimkiepnaa.Grid

def ixF (W H x y : Int) : Int := x % W + W * (y % H)

theorem ixF_bd (W H x y : Int) (h1 : 4 ≤ W) (h2 : W ≤ 16) (h3 : 4 ≤ H) (h4 : H ≤ 16) : 0 ≤ x % W ∧ x % W < W ∧ 0 ≤ W * (y % H) ∧ W * (y % H) ≤ W * (H - 1) ∧ W * (H - 1) ≤ 240 := by
  have a1 := Int.emod_nonneg x (b := W) (by omega)
  have a2 := Int.emod_lt_of_pos x (b := W) (by omega)
  have b1 := Int.emod_nonneg y (b := H) (by omega)
  have b2 := Int.emod_lt_of_pos y (b := H) (by omega)
  have c1 : 0 ≤ W * (y % H) := Int.mul_nonneg (by omega) b1
  have c2 : W * (y % H) ≤ W * (H - 1) := Int.mul_le_mul_of_nonneg_left (by omega) (by omega)
  have c3 : W * (H - 1) ≤ 16 * 15 := Int.mul_le_mul h2 (by omega) (by omega) (by omega)
  exact ⟨a1, a2, c1, c2, by omega⟩

set_option maxHeartbeats 1000000 in
theorem index_any (W H x y : Int) (h1 : 4 ≤ W) (h2 : W ≤ 16) (h3 : 4 ≤ H) (h4 : H ≤ 16) (h5 : -1 ≤ x) (h6 : x ≤ 64) (h7 : -1 ≤ y) (h8 : y ≤ 64) (w : World) :
    Calls Try.prog 50 #[.agg #[.int .i64 W, .int .i64 H], .int .i64 x, .int .i64 y] w fun e w' => e = .returned (.int .i64 (ixF W H x y)) ∧ Below w.heap.size w w' := by
  have hbd := ixF_bd W H x y h1 h2 h3 h4
  have e1 : IntKind.i64.wrap (4 * W) = 4 * W := IntWalk.i64_in _ (by omega)
  have e2 : IntKind.i64.wrap (x + 4 * W) = x + 4 * W := IntWalk.i64_in _ (by omega)
  have e3 : (x + 4 * W).tmod W = (x + 4 * W) % W := Int.tmod_eq_emod_of_nonneg (by omega)
  have e4 : ¬ W = 0 := by omega
  have f1 : IntKind.i64.wrap (4 * H) = 4 * H := IntWalk.i64_in _ (by omega)
  have f2 : IntKind.i64.wrap (y + 4 * H) = y + 4 * H := IntWalk.i64_in _ (by omega)
  have f3 : (y + 4 * H).tmod H = (y + 4 * H) % H := Int.tmod_eq_emod_of_nonneg (by omega)
  have f4 : ¬ H = 0 := by omega
  have g1 : IntKind.i64.wrap (W * (y % H)) = W * (y % H) := IntWalk.i64_in _ (by omega)
  have g2 : IntKind.i64.wrap (x % W + W * (y % H)) = x % W + W * (y % H) := IntWalk.i64_in _ (by omega)
  clear hbd
  go_enter Try.func50, Try.ntmps50
  go_wp2
  refine wp_region_dem 20 (Below (w.heap.size + 1) (w.alloc (.cells #[.int .i64 W, .int .i64 H] 27))) (fun _ _ _ => False) (by kernel_rfl) (by kernel_rfl) (Below.refl _ _).drew ?_
  simp only [List.take_succ_cons, List.take_zero, List.drop_succ_cons, List.drop_zero]
  repeat (first
    | (refine wpDem_want rfl (fun K hK => ?_); intro w' hw'; obtain ⟨hc', hf'⟩ := bcellB hw'; go_simp; first | (refine hK _ ?_; clear hK K hc' hf' hw' w')))
  refine wpDem_nil ?_
  intro w2 hb2
  clear e1 e2 e3 f1 f2 f3 g1 g2
  go_wp2
  go_ret
  exact ⟨rfl, ((Below.refl _ _).alloc (Nat.le_refl _) _).trans (hb2.mono (by omega))⟩

/-- The corner x, y of a grid, in it: its index. -/
theorem ixF_in {W H : Int} {x y : Nat} (hx : (x : Int) < W) (hy : (y : Int) < H) : ixF W H x y = x + W * y := by
  unfold ixF
  rw [Int.emod_eq_of_lt (by omega) hx, Int.emod_eq_of_lt (by omega) hy]

def calS (W H : Int) : FuncId → Array Value → Value → Prop := fun _ args v => v = .int .i64 (ixF W H (intOf (args.getD 1 undef)) (intOf (args.getD 2 undef)))
attribute [local go_sem] intOf calS

set_option maxHeartbeats 2000000 in
theorem neighbours_any (W H x y : Int) (h1 : 4 ≤ W) (h2 : W ≤ 16) (h3 : 4 ≤ H) (h4 : H ≤ 16) (h5 : 0 ≤ x) (h6 : x < W) (h7 : 0 ≤ y) (h8 : y < H) (w : World) :
    Calls Try.prog 49 #[.agg #[.int .i64 W, .int .i64 H], .int .i64 x, .int .i64 y] w fun e w' =>
      e = .returned (.agg #[.int .i64 (ixF W H (x - 1) y), .int .i64 (ixF W H (x + 1) y), .int .i64 (ixF W H x (y - 1)), .int .i64 (ixF W H x (y + 1))]) ∧ Below w.heap.size w w' := by
  have e1 : IntKind.i64.wrap (x - 1) = x - 1 := IntWalk.i64_in _ (by omega)
  have e2 : IntKind.i64.wrap (x + 1) = x + 1 := IntWalk.i64_in _ (by omega)
  have e3 : IntKind.i64.wrap (y - 1) = y - 1 := IntWalk.i64_in _ (by omega)
  have e4 : IntKind.i64.wrap (y + 1) = y + 1 := IntWalk.i64_in _ (by omega)
  go_enter Try.func49, Try.ntmps49
  go_wp2
  refine wp_region_dem 21 (Below (w.heap.size + 1 + 1) ((w.alloc (.cells #[.int .i64 W, .int .i64 H] 27)).alloc (.cells #[.int .i64 0, .int .i64 0, .int .i64 0, .int .i64 0] 56))) (calS W H) (by kernel_rfl) (by kernel_rfl) (Below.refl _ _).drew ?_
  simp only [List.take_succ_cons, List.take_zero, List.drop_succ_cons, List.drop_zero]
  repeat (first
    | (refine wpDem_want rfl (fun K hK => ?_); intro w' hw'; obtain ⟨hc', hf'⟩ := bcellB hw'; go_simp; first | (refine hK _ ?_; clear hK K hc' hf' hw' w') | ((refine ⟨(index_any W H _ _ h1 h2 h3 h4 (by omega) (by omega) (by omega) (by omega) _).mono (by rintro e w'' ⟨rfl, hq⟩; exact ⟨_, rfl, rfl, hw'.trans (hq.mono (by have := hw'.size; simp at this; omega))⟩), ?_⟩); refine hK _ ?_; clear hK K hc' hf' hw' w')))
  refine wpDem_nil ?_
  intro w2 hb2
  have hq := heap_alloc_new (w.alloc (.cells #[.int .i64 W, .int .i64 H] 27)) (.cells #[.int .i64 0, .int .i64 0, .int .i64 0, .int .i64 0] 56)
  simp only [World.size_alloc] at hq
  have hn := (hb2.block (w.heap.size + 1) (by omega)).trans hq
  have hfz : ∀ i, w2.frozen? ⟨w.heap.size + 1, i, none⟩ = false := fun i => by simp [World.frozen?, hn]
  have hc0 : w2.cell? ⟨w.heap.size + 1, 0, none⟩ = some (.int .i64 0) := by simp [World.cell?, hn]
  have hc1 : w2.cell? ⟨w.heap.size + 1, 1, none⟩ = some (.int .i64 0) := by simp [World.cell?, hn]
  have hc2 : w2.cell? ⟨w.heap.size + 1, 2, none⟩ = some (.int .i64 0) := by simp [World.cell?, hn]
  have hc3 : w2.cell? ⟨w.heap.size + 1, 3, none⟩ = some (.int .i64 0) := by simp [World.cell?, hn]
  clear hn hq
  go_wp2
  have hb := (((Below.refl w.heap.size w).alloc (Nat.le_refl _) (.cells #[.int .i64 W, .int .i64 H] 27)).alloc (by simp) (.cells #[.int .i64 0, .int .i64 0, .int .i64 0, .int .i64 0] 56)).trans (hb2.mono (by omega))
  exact bodyPost_ret (v := .agg #[.int .i64 (ixF W H (x - 1) y), .int .i64 (ixF W H (x + 1) y), .int .i64 (ixF W H x (y - 1)), .int .i64 (ixF W H x (y + 1))]) (by simp [results, Try.results49, go_sem, hc0, hc1, hc2, hc3]) rfl ⟨rfl, (((hb.setCell (by simp) _).setCell (by simp) _).setCell (by simp) _).setCell (by simp) _⟩
end Go.Proofs.Ytdafcgimkiepnaa.Index
