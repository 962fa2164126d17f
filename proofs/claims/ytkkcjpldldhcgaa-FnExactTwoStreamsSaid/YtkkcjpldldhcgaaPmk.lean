/-
  The laws' helpers markParticleS, markCloud, heldParticleS, heldCloud: the marks are written, and are found.
  Conditions: none.
-/
import Derived.Test.YtkkcjpldldhcgaaPeq
namespace Go.Proofs.Ytkkcjpldldhcgaa.Pmk
open Go Go.RowKit Go.Proofs.Ytkkcjpldldhcgaa.Fl Go.Proofs.Ytkkcjpldldhcgaa.Reg Go.Proofs.Ytkkcjpldldhcgaa.Step Go.Proofs.Ytkkcjpldldhcgaa.Mem Go.Proofs.Ytkkcjpldldhcgaa.Same Go.Proofs.Ytkkcjpldldhcgaa.Help Go.Proofs.Ytkkcjpldldhcgaa.Grid Go.Proofs.Ytkkcjpldldhcgaa.App Go.Proofs.Ytkkcjpldldhcgaa.Level Go.Proofs.Ytkkcjpldldhcgaa.Law Go.Proofs.Ytkkcjpldldhcgaa.Part Go.Proofs.Ytkkcjpldldhcgaa.Pok Go.Proofs.Ytkkcjpldldhcgaa.Pow Go.Proofs.Ytkkcjpldldhcgaa.Str Go.Proofs.Ytkkcjpldldhcgaa.Cx Go.Proofs.Ytkkcjpldldhcgaa.Peq

theorem u128c : (Try.prog.underlying 86).isSome = true := by rw [Try.underlying86]; rfl
/-- The marks of a particle, from k on. -/
def pm (k : Nat) : Pa := ⟨floatOfInt .f32 (k : Nat), 1065353216, floatOfInt .f32 ((k + 1 : Nat) : Int), 1065353216, floatOfInt .f32 ((k + 2 : Nat) : Int), floatOfInt .f32 ((k + 3 : Nat) : Int)⟩
def pmarks (k0 n : Nat) : List Pa := (List.range n).map fun i => pm (k0 + 4 * i)
@[simp] theorem length_pmarks (k0 n : Nat) : (pmarks k0 n).length = n := by simp [pmarks]
theorem pmarks_getD {k0 n i : Nat} (hi : i < n) : (pmarks k0 n).getD i pz = pm (k0 + 4 * i) := by
  simp [pmarks, List.getD, hi]
theorem pmarks_step (ps : List Pa) (k0 : Nat) {k : Nat} (hk : k < ps.length) : (pmarks k0 k ++ ps.drop k).set k (pm (k0 + 4 * k)) = pmarks k0 (k + 1) ++ ps.drop (k + 1) := by
  rw [List.set_append_right _ _ (by simp), length_pmarks, Nat.sub_self, List.drop_eq_getElem_cons hk, List.set_cons_zero]
  simp [pmarks, List.range_succ]
/-- The four stores into a particle. -/
theorem POw.set4 {w : World} {base g cap : Nat} {ps : List Pa} (h : POw w base (some ⟨g, 0, none⟩) cap ps) {i : Nat} (hi : i < ps.length) (p : Pa) :
    POw ((((w.setCell ⟨g, i * 4, none⟩ (.complex .f32 p.xr p.xi)).setCell ⟨g, i * 4 + 1, none⟩ (.complex .f32 p.vr p.vi)).setCell ⟨g, i * 4 + 2, none⟩ (.float .f32 p.q)).setCell ⟨g, i * 4 + 3, none⟩ (.float .f32 p.m)) base (some ⟨g, 0, none⟩) cap (ps.set i p) := by
  obtain ⟨p0, hp0⟩ : ∃ p0, p0 = ps.getD i pz := ⟨_, rfl⟩
  have e : ∀ q, (ps.set i q).getD i pz = q := fun q => by simp [List.getD, hi]
  have s0 := Part.POw.set h hi 0 (by omega) (.complex .f32 p.xr p.xi) ⟨p.xr, p.xi, p0.vr, p0.vi, p0.q, p0.m⟩ (by rw [← hp0]; rfl)
  have s1 := Part.POw.set s0 (i := i) (by simpa using hi) 1 (by omega) (.complex .f32 p.vr p.vi) ⟨p.xr, p.xi, p.vr, p.vi, p0.q, p0.m⟩ (by rw [e]; rfl)
  rw [List.set_set] at s1
  have s2 := Part.POw.set s1 (i := i) (by simpa using hi) 2 (by omega) (.float .f32 p.q) ⟨p.xr, p.xi, p.vr, p.vi, p.q, p0.m⟩ (by rw [e]; rfl)
  rw [List.set_set] at s2
  have s3 := Part.POw.set s2 (i := i) (by simpa using hi) 3 (by omega) (.float .f32 p.m) p (by rw [e]; rfl)
  rw [List.set_set] at s3
  exact s3

set_option maxHeartbeats 2000000 in
set_option maxRecDepth 100000 in
/-- markParticleS fills the slice. -/
theorem markP_any (a : Option Addr) (c : Nat) (ps : List Pa) (k0 n : Nat) (base : Nat) (w : World) (hl : Hid (ps.length = n)) (hn : n ≤ 48) (hk0 : k0 ≤ 4) (how : POw w base a c ps) :
    Calls Try.prog 58 #[.slice a n c, .int .i64 k0] w fun e w' => e = .returned (.int .i64 ((k0 + 4 * n : Nat) : Int)) ∧ POw w' base a c (pmarks k0 n) ∧ w.grownBy w' (a.map (·.block)) := by
  go_enter Try.func58, Try.ntmps58
  go_wp2
  go_loopw [1, 5] (fun m i wr => ∃ k : Nat, k ≤ n ∧ m = .int .i64 ((k0 + 4 * k : Nat) : Int) ∧ i = .int .i64 k ∧ POw wr base a c (pmarks k0 k ++ ps.drop k) ∧ w.grownBy wr (a.map (·.block))) (fun _ i _ => n - (intOf i).toNat)
  case atStart => exact ⟨0, Nat.zero_le _, by simp, rfl, by simpa [pmarks] using how, gb_refl _ _⟩
  case round =>
    obtain ⟨k, hk, rfl, rfl, how1, hb⟩ := hrel
    by_cases hlt : k < n
    · have hlr : k < ps.length := by rw [hl.out]; exact hlt
      obtain ⟨g, rfl, _, hgl, hcs, hf⟩ := how1.cells (by simp; omega)
      have hA := hcs k (by simp; omega)
      generalize (pmarks k0 k ++ ps.drop k).getD k pz = p at hA
      obtain ⟨c0, c1, c2, c3⟩ := hA
      have f0 := hf (k * 4)
      have f1 := hf (k * 4 + 1)
      have f2 := hf (k * 4 + 2)
      have f3 := hf (k * 4 + 3)
      clear hcs hf
      go_wp2_with (refine wpList_cnarrow (src := 86) (dst := 68) rfl rfl rfl u128c Try.underlying68 ?_ ?_; (constructor <;> omega))
      go_roundw
      case rel =>
        refine ⟨k + 1, by omega, by go_num, by go_num, ?_, gb_set (gb_set (gb_set (gb_set hb _) _) _) _⟩
        have h2 := POw.set4 how1 (i := k) (by simp; omega) (pm (k0 + 4 * k))
        rw [pmarks_step ps k0 hlr] at h2
        simpa [pm, Int.add_assoc] using h2
      case measure => simp [intOf]; omega
    · go_wp2
      go_ret
      obtain rfl : k = n := by omega
      refine ⟨rfl, ?_, hb⟩
      have h2 := hl.out
      simpa [← h2] using how1

theorem order_int (z : Int) : FloatKind.f32.format.order (floatOfInt .f32 z) (floatOfInt .f32 z) = some .eq := order_self (ofInt_notNaN .f32 z)
theorem order_one : FloatKind.f32.format.order 1065353216 1065353216 = some .eq := by decide
attribute [local go_sem] order_int order_one

set_option maxHeartbeats 2000000 in
set_option maxRecDepth 100000 in
/-- heldParticleS finds the marks. -/
theorem heldP_any (a : Option Addr) (c : Nat) (k0 n : Nat) (w : World) (hn : n ≤ 48) (hk0 : k0 ≤ 4) (hr : PRd w a (pmarks k0 n)) :
    Calls Try.prog 59 #[.slice a n c, .int .i64 k0] w fun e w' => e = .returned (.int .i64 ((k0 + 4 * n : Nat) : Int)) ∧ Below w.heap.size w w' := by
  go_enter Try.func59, Try.ntmps59
  go_wp2
  go_loopw [1, 5] (fun m i wr => ∃ k z : Nat, k ≤ n ∧ z = k0 + 4 * k ∧ m = .int .i64 (z : Int) ∧ i = .int .i64 k ∧ Below w.heap.size w wr) (fun _ i _ => n - (intOf i).toNat)
  case atStart => exact ⟨0, k0, Nat.zero_le _, rfl, rfl, rfl, Below.refl _ _⟩
  case round =>
    obtain ⟨k, z, hk, hz, rfl, rfl, hb⟩ := hrel
    by_cases hlt : k < n
    · obtain ⟨b, off, rfl, hc⟩ := (hr.below hb).at (i := k) (by simpa using hlt)
      have hA := hc k (by simpa using hlt)
      rw [pmarks_getD hlt, ← hz] at hA
      have HZ : Hid (z = k0 + 4 * k) := hz
      clear hc hz
      obtain ⟨c0, c1, c2, c3⟩ := hA
      have e1 : ((z + 1 : Nat) : Int) = (z : Int) + 1 := by omega
      have e2 : ((z + 2 : Nat) : Int) = (z : Int) + 1 + 1 := by omega
      have e3 : ((z + 3 : Nat) : Int) = (z : Int) + 1 + 1 + 1 := by omega
      have hz : (z : Int) < 200 := by have := HZ.out; omega
      simp only [pm] at c0 c1 c2 c3
      rw [e1] at c1
      rw [e2] at c2
      rw [e3] at c3
      clear e1 e2 e3
      go_wp2_with (refine wpList_cnarrow (src := 86) (dst := 68) rfl rfl rfl u128c Try.underlying68 ?_ ?_; (constructor <;> omega))
      go_roundw
      case rel => exact ⟨k + 1, z + 4, by omega, by have := HZ.out; omega, by go_num, by go_num, hb⟩
      case measure => simp [intOf]; omega
    · go_wp2
      go_ret
      obtain rfl : k = n := by omega
      subst hz
      exact ⟨rfl, hb⟩

set_option maxHeartbeats 400000 in
theorem markC_any (W H : Int) (a : Option Addr) (c : Nat) (ps : List Pa) (mg bk n : Nat) (k : Int) (k0 base : Nat) (hk : k = (k0 : Int)) (w : World) (hl : Hid (ps.length = n)) (hn : n ≤ 48) (hk0 : k0 ≤ 4) (how : POw w base a c ps) :
    Calls Try.prog 31 #[.agg #[.int .i64 W, .int .i64 H, .slice a n c, .float .f32 mg, .float .f32 bk], .int .i64 k] w fun e w' => e = .returned (.int .i64 ((k0 + 4 * n : Nat) : Int)) ∧ POw w' base a c (pmarks k0 n) ∧ w.grownBy w' (a.map (·.block)) := by
  subst hk
  have bA : Below w.heap.size w (w.alloc (.cells #[.int .i64 W, .int .i64 H, .slice a n c, .float .f32 mg, .float .f32 bk] 50)) := (Below.refl _ _).alloc (Nat.le_refl _) _
  have oA := how.below bA
  go_enter Try.func31, Try.ntmps31
  go_wp2_with fail
  refine (markP_any a c ps k0 n base _ hl hn hk0 oA).mono ?_
  rintro e w1 ⟨rfl, o1, g1⟩
  go_wp2
  go_ret
  exact ⟨rfl, o1, gb_trans (gb_below bA _) g1⟩
set_option maxHeartbeats 400000 in
theorem heldC_any (W H : Int) (a : Option Addr) (c : Nat) (mg bk n : Nat) (k : Int) (k0 : Nat) (hk : k = (k0 : Int)) (w : World) (hn : n ≤ 48) (hk0 : k0 ≤ 4) (hr : PRd w a (pmarks k0 n)) :
    Calls Try.prog 32 #[.agg #[.int .i64 W, .int .i64 H, .slice a n c, .float .f32 mg, .float .f32 bk], .int .i64 k] w fun e w' => e = .returned (.int .i64 ((k0 + 4 * n : Nat) : Int)) ∧ Below w.heap.size w w' := by
  subst hk
  have bA : Below w.heap.size w (w.alloc (.cells #[.int .i64 W, .int .i64 H, .slice a n c, .float .f32 mg, .float .f32 bk] 50)) := (Below.refl _ _).alloc (Nat.le_refl _) _
  have rA := hr.below bA
  have hneg : ¬ (((k0 + 4 * n : Nat) : Int) < 0) := by omega
  obtain ⟨z, hz⟩ : ∃ z : Int, z = ((k0 + 4 * n : Nat) : Int) := ⟨_, rfl⟩
  rw [← hz] at hneg ⊢
  have HZ : Hid (z = ((k0 + 4 * n : Nat) : Int)) := hz
  clear hz
  go_enter Try.func32, Try.ntmps32
  go_wp2_with fail
  refine (heldP_any a c k0 n _ hn hk0 rA).mono ?_
  rw [← HZ.out]
  rintro e w1 ⟨rfl, b1⟩
  go_wp2
  go_ret
  exact ⟨rfl, bA.trans (b1.mono bA.size)⟩
end Go.Proofs.Ytkkcjpldldhcgaa.Pmk
