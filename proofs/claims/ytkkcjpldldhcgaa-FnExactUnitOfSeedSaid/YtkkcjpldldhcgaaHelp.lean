/-
  Contracts of the laws' helpers: toGrid, toFloat32S, eqFloat32S, markFloat32S, heldFloat32S.
  Conditions: none.
-/
import Derived.Test.YtkkcjpldldhcgaaMem
import Derived.Test.YtkkcjpldldhcgaaSame
namespace Go.Proofs.Ytkkcjpldldhcgaa.Help
open Go Go.RowKit Go.Proofs.Ytkkcjpldldhcgaa.Fl Go.Proofs.Ytkkcjpldldhcgaa.Reg Go.Proofs.Ytkkcjpldldhcgaa.Step Go.Proofs.Ytkkcjpldldhcgaa.Mem Go.Proofs.Ytkkcjpldldhcgaa.Same

theorem fill_set {α : Type} (xs : List α) (z d : α) (k : Nat) (hk : k < xs.length) : (xs.take k ++ List.replicate (xs.length - k) z).set k (xs.getD k d) = xs.take (k + 1) ++ List.replicate (xs.length - (k + 1)) z := by
  have e : xs.length - k = (xs.length - (k + 1)) + 1 := by omega
  rw [e, List.replicate_succ, List.set_append_right _ _ (by simp; omega), List.length_take, Nat.min_eq_left (by omega), Nat.sub_self, List.set_cons_zero, List.take_succ_eq_append_getElem hk, List.append_assoc]
  simp [List.getD, List.getElem?_eq_getElem hk]

theorem ofInt_notNaN (k : FloatKind) (n : Int) : (k.decode (floatOfInt k n)).isNaN = false := encode_notNaN k (.number (n < 0) n.natAbs 0) rfl

theorem widen_eq {a b x y : Nat} (h1 : Hid (vf .f64 a = wid (vf .f32 x))) (h2 : Hid (vf .f64 b = wid (vf .f32 y))) (h : vf .f32 x = vf .f32 y) : vf .f64 a = vf .f64 b := by
  rw [h1.out, h2.out, h]

theorem u32s : (Try.prog.underlying 25).isSome = true := by rw [Try.underlying25]; rfl
theorem info_f32 : (Try.prog.info? 25).map (fun i => (i.zero, i.size, i.bytes)) = some (some (.float .f32 0), 1, 4) := by kernel_rfl

theorem make_f32 (w : World) (n : Nat) (hn : n ≤ 1048576) :
    (Instr.makeSlice 32 (.int .i64 n) (.int .i64 n)).run Try.prog w = .ok (.slice (some ⟨w.heap.size, 0, none⟩) n n) (w.alloc (.cells (madeCells #[.float .f32 0] n) 25)) := by
  obtain ⟨i0, hi, hz0, hz1, hz2⟩ := info_parts info_f32
  have h := run_make (P := Try.prog) w 32 25 i0 (.float .f32 0) Try.underlying32 hi hz0 .i64 .i64 n n (by omega) (by omega) (by rw [hz2]; omega) (by omega)
  rw [hz1] at h
  simp only [Value.cells, Nat.mul_one, Int.toNat_natCast] at h
  exact h

set_option maxHeartbeats 400000 in
theorem toF_any (p : Option Addr) (c : Nat) (rs : List Nat) (w : World) (hn : rs.length ≤ 1048576) (hr : Rd w p rs) :
    Calls Try.prog 17 #[.slice p rs.length c] w fun e w' => ∃ q, e = .returned (.slice q rs.length rs.length) ∧ Ow w' w.heap.size q rs.length rs ∧ Below w.heap.size w w' := by
  obtain ⟨n, hl⟩ : ∃ n, n = rs.length := ⟨_, rfl⟩
  rw [← hl] at hn ⊢
  have hmk := fun w => make_f32 w n hn
  have hL : Hid (n = rs.length) := hl
  clear hl
  go_enter Try.func17, Try.ntmps17
  go_wp2
  clear hmk
  go_loopw [4] (fun i wr => ∃ k : Nat, k ≤ n ∧ i = .int .i64 k ∧ Ow wr w.heap.size (some ⟨w.heap.size, 0, none⟩) n (rs.take k ++ List.replicate (n - k) 0) ∧ Below w.heap.size w wr) (fun i _ => n - (intOf i).toNat)
  case atStart => exact ⟨0, Nat.zero_le _, rfl, by simpa using Ow.made w n (by unfold maxLen; omega), (Below.refl _ _).alloc (Nat.le_refl _) _⟩
  case round =>
    obtain ⟨k, hk, rfl, how, hb⟩ := hrel
    by_cases hlt : k < n
    · obtain ⟨b, off, rfl, hbw, hc⟩ := (hr.below hb).at (i := k) (by rw [← hL.out]; exact hlt)
      have hck := hc k (by rw [← hL.out]; exact hlt)
      clear hc
      obtain ⟨g, hg, _, hgl, hcs, hf⟩ := how.cells (by simp; omega)
      cases hg
      have hs := hcs k (by simp; have := hL.out; omega)
      have hfz := hf k
      clear hcs hf
      go_wp2
      go_roundw
      case rel =>
        refine ⟨k + 1, by omega, by go_num, ?_, hb.setCell (Nat.le_refl _) _⟩
        have h2 := how.set (i := k) (by simp; have := hL.out; omega) (rs.getD k 0)
        rw [hL.out, fill_set rs 0 0 k (by rw [← hL.out]; exact hlt), ← hL.out] at h2
        simpa [Ow, List.getD] using h2
      case measure => simp [intOf]; omega
    · go_wp2
      go_ret
      have : k = n := by omega
      subst this
      refine ⟨_, rfl, ?_, hb⟩
      have h2 := hL.out
      simpa [h2] using how
set_option maxHeartbeats 400000 in
theorem eqF_any (p q : Option Addr) (c d : Nat) (rs ss : List Nat) (w : World) (hn : rs.length ≤ 1048576) (hr : Rd w p rs) (hs : Rd w q ss) (he : rs.map (vf .f32) = ss.map (vf .f32)) :
    Calls Try.prog 19 #[.slice p rs.length c, .slice q ss.length d] w fun e w' => e = .returned (.bool true) ∧ Below w.heap.size w w' := by
  have hl : rs.length = ss.length := by simpa using congrArg List.length he
  rw [← hl]
  obtain ⟨n, hL⟩ : ∃ n, n = rs.length := ⟨_, rfl⟩
  rw [← hL] at hn ⊢
  have hL1 : Hid (n = rs.length) := hL
  have hL2 : Hid (n = ss.length) := hL.trans hl
  have hE : Hid (rs.map (vf .f32) = ss.map (vf .f32)) := he
  clear hL hl he
  go_enter Try.func19, Try.ntmps19
  go_wp2
  go_loopw [5] (fun i wr => ∃ k : Nat, k ≤ n ∧ i = .int .i64 k ∧ Below w.heap.size w wr) (fun i _ => n - (intOf i).toNat)
  case atStart => exact ⟨0, Nat.zero_le _, rfl, Below.refl _ _⟩
  case round =>
    obtain ⟨k, hk, rfl, hb⟩ := hrel
    by_cases hlt : k < n
    · obtain ⟨b, off, rfl, hbw, hc⟩ := (hr.below hb).at (i := k) (by rw [← hL1.out]; exact hlt)
      have hck := hc k (by rw [← hL1.out]; exact hlt)
      obtain ⟨b', off', rfl, hbw', hc'⟩ := (hs.below hb).at (i := k) (by rw [← hL2.out]; exact hlt)
      have hck' := hc' k (by rw [← hL2.out]; exact hlt)
      clear hc hc'
      go_wp2
      refine wp_region_dem 11 (Below wr.heap.size wr) (fun _ _ v => v = .bool true) (by kernel_rfl) (by kernel_rfl) (Below.refl _ _).drew ?_
      simp only [List.take_succ_cons, List.take_zero, List.drop_succ_cons, List.drop_zero]
      repeat (first
        | (refine wpDem_widen (src := 25) (dst := 29) rfl rfl rfl u32s Try.underlying29 (fun _ n h => (below_drewN_iff _ _ _ n).2 h) (fun r hv => ?_))
        | (refine wpDem_step (fun K hK => ?_); go_simp; intro w' hw'; obtain ⟨hc', hf'⟩ := bcell hw'; go_simp; refine hK _ ?_; clear hK K hc' hf' hw' w'))
      rename_i r1 h1
      have hee : vf .f64 r1 = vf .f64 r := by
        rw [h1.out, hv.out]
        have h3 : (rs.map (vf .f32))[k]? = (ss.map (vf .f32))[k]? := by rw [hE.out]
        have l1 : k < rs.length := by rw [← hL1.out]; exact hlt
        have l2 : k < ss.length := by rw [← hL2.out]; exact hlt
        simp only [List.getElem?_map, List.getElem?_eq_getElem l1, List.getElem?_eq_getElem l2, Option.map_some, Option.some.injEq] at h3
        simp only [List.getElem?_eq_getElem l1, List.getElem?_eq_getElem l2, Option.getD_some, h3]
      refine wpDem_step (fun K hK => ?_)
      go_simp
      intro w' hw'
      go_simp
      refine ⟨(same_any _ _ _ hee).mono ?_, ?_⟩
      · rintro e w'' ⟨rfl, m, rfl⟩
        exact ⟨_, rfl, rfl, (below_drewN_iff _ _ _ m).2 hw'⟩
      refine hK _ ?_
      clear hK K hw' w'
      refine wpDem_nil ?_
      intro w2 hb2
      go_wp2
      go_roundw
      case rel => exact ⟨k + 1, by omega, by go_num, hb.trans (hb2.mono hb.size)⟩
      case measure => simp [intOf]; omega
    · go_wp2
      go_ret
      exact ⟨rfl, hb⟩
set_option maxHeartbeats 400000 in
/-- markFloat32S fills the slice. -/
theorem mark_any (p : Option Addr) (c : Nat) (rs : List Nat) (k0 : Nat) (base : Nat) (w : World) (hn : rs.length ≤ 1048576) (hk0 : k0 ≤ 4194304) (how : Ow w base p c rs) :
    Calls Try.prog 22 #[.slice p rs.length c, .int .i64 k0] w fun e w' => e = .returned (.int .i64 ((k0 + rs.length : Nat) : Int)) ∧
      Ow w' base p c (marks k0 rs.length) ∧ w.grownBy w' (p.map (·.block)) := by
  obtain ⟨n, hL⟩ : ∃ n, n = rs.length := ⟨_, rfl⟩
  rw [← hL] at hn ⊢
  have hL1 : Hid (n = rs.length) := hL
  clear hL
  go_enter Try.func22, Try.ntmps22
  go_wp2
  go_loopw [1, 5] (fun m i wr => ∃ k : Nat, k ≤ n ∧ m = .int .i64 ((k0 + k : Nat) : Int) ∧ i = .int .i64 k ∧ Ow wr base p c (marks k0 k ++ rs.drop k) ∧ w.grownBy wr (p.map (·.block))) (fun _ i _ => n - (intOf i).toNat)
  case atStart => exact ⟨0, Nat.zero_le _, by simp, rfl, by simpa [marks] using how, gb_refl _ _⟩
  case round =>
    obtain ⟨k, hk, rfl, rfl, how1, hb⟩ := hrel
    by_cases hlt : k < n
    · have hlr : k < rs.length := by rw [← hL1.out]; exact hlt
      obtain ⟨g, rfl, _, hgl, hcs, hf⟩ := how1.cells (by simp; omega)
      have hs := hcs k (by simp; omega)
      have hfz := hf k
      clear hcs hf
      go_wp2
      go_roundw
      case rel =>
        refine ⟨k + 1, by omega, by go_num, by go_num, ?_, gb_set hb _⟩
        have h2 := how1.set (i := k) (by simp; omega) (floatOfInt .f32 ((k0 + k : Nat) : Int))
        rw [marks_step rs k0 hlr] at h2
        simpa using h2
      case measure => simp [intOf]; omega
    · go_wp2
      go_ret
      obtain rfl : k = n := by omega
      refine ⟨rfl, ?_, hb⟩
      have h2 := hL1.out
      simpa [h2] using how1

set_option maxHeartbeats 400000 in
/-- heldFloat32S finds the marks. -/
theorem held_any (p : Option Addr) (c : Nat) (k0 n : Nat) (w : World) (hn : n ≤ 1048576) (hk0 : k0 ≤ 4194304) (hr : Rd w p (marks k0 n)) :
    Calls Try.prog 23 #[.slice p n c, .int .i64 k0] w fun e w' => e = .returned (.int .i64 ((k0 + n : Nat) : Int)) ∧ Below w.heap.size w w' := by
  go_enter Try.func23, Try.ntmps23
  go_wp2
  go_loopw [1, 5] (fun m i wr => ∃ k : Nat, k ≤ n ∧ m = .int .i64 ((k0 + k : Nat) : Int) ∧ i = .int .i64 k ∧ Below w.heap.size w wr) (fun _ i _ => n - (intOf i).toNat)
  case atStart => exact ⟨0, Nat.zero_le _, by simp, rfl, Below.refl _ _⟩
  case round =>
    obtain ⟨k, hk, rfl, rfl, hb⟩ := hrel
    by_cases hlt : k < n
    · obtain ⟨b, off, rfl, hbw, hc⟩ := (hr.below hb).at (i := k) (by simpa using hlt)
      have hck := hc k (by simpa using hlt)
      rw [marks_getD hlt] at hck
      have ek : ((k0 + k : Nat) : Int) = (k0 : Int) + k := by omega
      rw [ek] at hck
      have hself : (FloatKind.f32.format.order (floatOfInt .f32 ((k0 : Int) + k)) (floatOfInt .f32 ((k0 : Int) + k)) != some .eq) = false := by
        rw [order_self (ofInt_notNaN .f32 _)]; rfl
      clear ek
      clear hc
      go_wp2
      go_roundw
      case rel => exact ⟨k + 1, by omega, by go_num, by go_num, hb⟩
      case measure => simp [intOf]; omega
    · go_wp2
      go_ret
      obtain rfl : k = n := by omega
      exact ⟨rfl, hb⟩

theorem mark_at (p : Option Addr) (c : Nat) (rs : List Nat) (k : Int) (k0 : Nat) (hk : k = (k0 : Int)) (base : Nat) (w : World) (hn : rs.length ≤ 1048576) (hk0 : k0 ≤ 4194304) (how : Ow w base p c rs) :
    Calls Try.prog 22 #[.slice p rs.length c, .int .i64 k] w fun e w' => e = .returned (.int .i64 ((k0 + rs.length : Nat) : Int)) ∧
      Ow w' base p c (marks k0 rs.length) ∧ w.grownBy w' (p.map (·.block)) := by
  subst hk
  exact mark_any p c rs k0 base w hn hk0 how
theorem held_at (p : Option Addr) (c : Nat) (k : Int) (k0 n : Nat) (hk : k = (k0 : Int)) (w : World) (hn : n ≤ 1048576) (hk0 : k0 ≤ 4194304) (hr : Rd w p (marks k0 n)) :
    Calls Try.prog 23 #[.slice p n c, .int .i64 k] w fun e w' => e = .returned (.int .i64 ((k0 + n : Nat) : Int)) ∧ Below w.heap.size w w' := by
  subst hk
  exact held_any p c k0 n w hn hk0 hr
end Go.Proofs.Ytkkcjpldldhcgaa.Help
