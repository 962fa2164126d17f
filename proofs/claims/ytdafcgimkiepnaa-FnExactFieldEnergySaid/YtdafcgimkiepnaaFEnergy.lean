/-
  The law FnExactFieldEnergy returns true for every argument (the statement FnExactFieldEnergySaid): the FieldEnergy of the program and that of the reference agree.
  Conditions: none beyond those of the given statement.
-/
import Derived.Test.YtdafcgimkiepnaaTwo
import Derived.Test.YtdafcgimkiepnaaLaw
namespace Go.Proofs.Ytdafcgimkiepnaa.FEnergy
open Go Go.RowKit Go.ChangeShapes Go.WideShapes Go.ChangeAt Go.Joins Go.Proofs.Ytdafcgimkiepnaa.Fl Go.Proofs.Ytdafcgimkiepnaa.Reg Go.Proofs.Ytdafcgimkiepnaa.Step Go.Proofs.Ytdafcgimkiepnaa.Mem Go.Proofs.Ytdafcgimkiepnaa.Same Go.Proofs.Ytdafcgimkiepnaa.Help Go.Proofs.Ytdafcgimkiepnaa.Grid Go.Proofs.Ytdafcgimkiepnaa.Mean Go.Proofs.Ytdafcgimkiepnaa.App Go.Proofs.Ytdafcgimkiepnaa.Level Go.Proofs.Ytdafcgimkiepnaa.Lap Go.Proofs.Ytdafcgimkiepnaa.Two Go.Proofs.Ytdafcgimkiepnaa.Law

/-- The sum of the products of the first k numbers. -/
def dotTo (us bs : List (Option Nat)) : Nat → Option Nat
  | 0 => some 0
  | k + 1 => fop .add .f32 (dotTo us bs k) (fop .mul .f32 (us.getD k none) (bs.getD k none))
def energyF (v charge : List (Option Nat)) : Option Nat := fop .mul .f32 (some 1056964608) (dotTo (levelF charge) v charge.length)

theorem vf_half : vf .f32 1056964608 = some 1056964608 := by decide
theorem getD_vf' {rs : List Nat} {xs : List (Option Nat)} (h : rs.map (vf .f32) = xs) {k : Nat} (hk : k < rs.length) : vf .f32 rs[k] = xs.getD k none := by
  subst h
  simp [List.getD, hk]

set_option maxHeartbeats 800000 in
theorem l03Energy_any (p q : Option Addr) (c d : Nat) (rs ss : List Nat) (w : World) (hl : rs.length = ss.length) (hn : ss.length ≤ 1048576) (hr : Rd w p rs) (hs : Rd w q ss) :
    Calls Try.prog 61 #[.slice p rs.length c, .slice q ss.length d] w fun e w' => ∃ r, e = .returned (.float .f32 r) ∧ Hid (vf .f32 r = energyF (rs.map (vf .f32)) (ss.map (vf .f32))) ∧ Below w.heap.size w w' := by
  have hL : Hid (rs.length = ss.length) := hl
  rw [hl]
  clear hl
  go_enter Try.func61, Try.ntmps61
  go_wp2_with fail
  refine (l03Level_any q d ss _ hn hs).mono ?_
  rintro e w1 ⟨a, cap, ls, rfl, ho, hv, hb1⟩
  have hvl : Hid (ls.map (vf .f32) = levelF (ss.map (vf .f32))) := hv
  clear hv
  have hll : Hid (ss.length = ls.length) := by
    have := congrArg List.length hvl.out
    simp [levelF] at this
    exact this.symm
  obtain ⟨n, hN⟩ : ∃ n, n = ss.length := ⟨_, rfl⟩
  have hN1 : Hid (n = ss.length) := hN
  have hnn : n ≤ 1048576 := by omega
  rw [← hN]
  clear hN
  have hr1 := hr.below hb1
  go_wp2
  go_loopw [6, 12] (fun s i wr => ∃ k r : Nat, k ≤ n ∧ s = .float .f32 r ∧ i = .int .i64 k ∧ Hid (vf .f32 r = dotTo (levelF (ss.map (vf .f32))) (rs.map (vf .f32)) k) ∧ Below w1.heap.size w1 wr) (fun _ i _ => n - (intOf i).toNat)
  case atStart => exact ⟨0, 0, Nat.zero_le _, rfl, rfl, vf_zero, Below.refl _ _⟩
  case round =>
    obtain ⟨k, r, hk, rfl, rfl, hv, hb⟩ := hrel
    by_cases hlt : k < n
    · have hlr : k < rs.length := by rw [hL.out, ← hN1.out]; exact hlt
      have hls : k < ls.length := by rw [← hll.out, ← hN1.out]; exact hlt
      obtain ⟨b, off, rfl, hbw, hc⟩ := (hr1.below hb).at hlr
      have hck := hc k hlr
      obtain ⟨g, rfl, _, hgl, hcs, _⟩ := (ho.below hb).cells (by omega)
      have hck' := hcs k hls
      clear hc hcs
      go_wp2
      refine wp_region_dem 11 (Below (wr.heap.size) wr) (fun _ _ _ => False) (by kernel_rfl) (by kernel_rfl) (Below.refl _ _).drew ?_
      simp only [List.take_succ_cons, List.take_zero, List.drop_succ_cons, List.drop_zero]
      repeat (first
        | (refine wpDem_flt rfl rfl rfl rfl rfl (fun _ n h => (below_drewN_iff _ _ _ n).2 h) (fun r hr => ?_); simp only [Act.put, List.setIfInBounds_toArray, List.set_cons_succ, List.set_cons_zero])
        | (refine wpDem_want rfl (fun K hK => ?_); intro w' hw'; obtain ⟨hc', hf'⟩ := bcellB hw'; go_simp; first | (refine hK _ ?_; clear hK K hc' hf' hw' w')))
      refine wpDem_nil ?_
      intro w2 hb2
      go_wp2
      go_roundw
      case rel =>
        rename_i r1 h1
        refine ⟨k + 1, _, by omega, rfl, by go_num, ?_, hb.trans (hb2.mono hb.size)⟩
        have h2 := hr.out
        have h3 := h1.out
        rw [getD_vf' hvl.out hls, getD_vf' rfl hlr] at h3
        rw [hv.out, h3] at h2
        exact h2
      case measure => simp [intOf]; omega
    · go_wp2_with (refine wpList_flt rfl rfl rfl rfl rfl (fun r' n' hr' => ?_))
      go_ret
      obtain rfl : k = n := by omega
      refine ⟨_, rfl, ?_, by simpa using hb1.trans (hb.mono hb1.size)⟩
      have h1 := hr'.out
      rw [hv.out, vf_half] at h1
      exact h1.trans (by simp [energyF, hN1.out])

def outF (W H : Int) (n m : Nat) (xs ys : List (Option Nat)) : Option Nat := if fit2 W H n m = true then energyF xs ys else some 0

theorem fit2_len {W H : Int} {n m : Nat} (h : fit2 W H n m = true) : fitB W H n = true ∧ fitB W H m = true ∧ n = m := by
  simp only [fit2, Bool.and_eq_true] at h
  obtain ⟨_, _, _, _, e1⟩ := fitB_spec h.1
  obtain ⟨_, _, _, _, e2⟩ := fitB_spec h.2
  exact ⟨h.1, h.2, by omega⟩

theorem isList_any (p : Option Addr) (n c : Nat) (hn : n ≤ 256) (w : World) :
    Calls Try.prog 88 #[.slice p n c] w fun e w' => e = .returned (.bool true) ∧ Below w.heap.size w w' := by
  go_enter Try.func88, Try.ntmps88
  go_wp2
  go_ret
  exact ⟨by simp; omega, Below.refl _ _⟩

set_option maxHeartbeats 800000 in
theorem dot_any (p q : Option Addr) (c d : Nat) (rs ss : List Nat) (w : World) (hl : rs.length = ss.length) (hn : ss.length ≤ 256) (hr : Rd w p rs) (hs : Rd w q ss) :
    Calls Try.prog 63 #[.slice p rs.length c, .slice q ss.length d] w fun e w' => ∃ r, e = .returned (.tuple #[.float .f32 r, .bool true]) ∧ Hid (vf .f32 r = dotTo (rs.map (vf .f32)) (ss.map (vf .f32)) ss.length) ∧ Below w.heap.size w w' := by
  have hL : Hid (rs.length = ss.length) := hl
  rw [hl]
  clear hl
  obtain ⟨n, hN⟩ : ∃ n, n = ss.length := ⟨_, rfl⟩
  have hN1 : Hid (n = ss.length) := hN
  rw [← hN] at hn ⊢
  clear hN
  go_enter Try.func63, Try.ntmps63
  go_wp2_with fail
  refine (isList_any p n c hn _).mono ?_
  rintro e w1 ⟨rfl, hb1⟩
  go_wp2
  go_loopw [6, 21] (fun s i wr => ∃ k r : Nat, k ≤ n ∧ s = .float .f32 r ∧ i = .int .i64 k ∧ Hid (vf .f32 r = dotTo (rs.map (vf .f32)) (ss.map (vf .f32)) k) ∧ Below w.heap.size w wr) (fun _ i _ => n - (intOf i).toNat)
  case atStart => exact ⟨0, 0, Nat.zero_le _, rfl, rfl, vf_zero, hb1⟩
  case round =>
    clear hb1
    obtain ⟨k, r, hk, rfl, rfl, hv, hb⟩ := hrel
    by_cases hlt : k < n
    · have hlr : k < rs.length := by rw [hL.out, ← hN1.out]; exact hlt
      have hls : k < ss.length := by rw [← hN1.out]; exact hlt
      obtain ⟨b, off, rfl, hbw, hc⟩ := (hr.below hb).at hlr
      have hck := hc k hlr
      obtain ⟨b', off', rfl, hbw', hc'⟩ := (hs.below hb).at hls
      have hck' := hc' k hls
      clear hc hc'
      go_wp2_with (refine wpList_flt rfl rfl rfl rfl rfl (fun r1 n1 hr1 => ?_))
      go_roundw
      case rel =>
        rename_i r0 n0 hr0
        refine ⟨k + 1, _, by omega, rfl, by go_num, ?_, by simpa using hb⟩
        have h2 := hr1.out
        have h3 := hr0.out
        rw [getD_vf' rfl hlr, getD_vf' rfl hls] at h3
        rw [hv.out, h3] at h2
        exact h2
      case measure => simp [intOf]; omega
    · go_wp2
      go_ret2
      obtain rfl : k = n := by omega
      exact ⟨_, rfl, by have h1 := hv.out; have h2 := hN1.out; show _ = _; rw [h1, h2], hb⟩

set_option maxHeartbeats 800000 in
theorem spec_any (W H : Int) (p : Option Addr) (c : Nat) (rs : List Nat) (q : Option Addr) (d : Nat) (ss : List Nat) {base base' : Nat} (w : World) (hn : rs.length ≤ 1048576) (how : Ow w base p c rs) (hm : ss.length ≤ 1048576) (hos : Ow w base' q d ss) :
    Calls Try.prog 31 #[.agg #[.int .i64 W, .int .i64 H], .slice p rs.length c, .slice q ss.length d] w fun e w' => ∃ r, e = .returned (.tuple #[.float .f32 r, .bool (fit2 W H rs.length ss.length)]) ∧ Hid (vf .f32 r = outF W H rs.length ss.length (rs.map (vf .f32)) (ss.map (vf .f32))) ∧ Below w.heap.size w w' := by
  have hr := how.rd
  have hs := hos.rd
  have hG0 := GI.start w W H
  cases h : fit2 W H rs.length ss.length
  · have hO : Hid (outF W H rs.length ss.length (rs.map (vf .f32)) (ss.map (vf .f32)) = some 0) := by simp [Hid, outF, h]
    cases h1 : fitB W H rs.length
    · go_enter Try.func31, Try.ntmps31
      go_wp2_with (go_at_call 46; refine (l03Fits_any _ W H p rs.length c hn _ (by simp) (by simp) (by simp)).mono ?_; rintro e w1 ⟨rfl, hb⟩)
      go_ret2
      exact ⟨0, rfl, by rw [hO.out]; exact vf_zero, (hG0.step hb).below⟩
    · have h2 : fitB W H ss.length = false := by simpa [fit2, h1] using h
      go_enter Try.func31, Try.ntmps31
      go_wp2_with fail
      refine (l03Fits_any _ W H p rs.length c hn _ (by simp) (by simp) (by simp)).mono ?_
      rintro e w1 ⟨rfl, hb⟩
      have hG := hG0.step hb
      go_wp2_with fail
      refine (l03Fits_any _ W H q ss.length d hm _ (by have := hG.size; omega) hG.c0 hG.c1).mono ?_
      rintro e w2 ⟨rfl, hb2⟩
      go_wp2
      go_ret2
      exact ⟨0, rfl, by rw [hO.out]; exact vf_zero, (hG.step hb2).below⟩
  · have hO : Hid (outF W H rs.length ss.length (rs.map (vf .f32)) (ss.map (vf .f32)) = energyF (rs.map (vf .f32)) (ss.map (vf .f32))) := by simp [Hid, outF, h]
    obtain ⟨h1, h2, h3⟩ := fit2_len h
    have hle := fitB_le h2
    have hE : Hid (rs.length = ss.length) := h3
    clear h3
    go_enter Try.func31, Try.ntmps31
    go_wp2_with fail
    refine (l03Fits_any _ W H p rs.length c hn _ (by simp) (by simp) (by simp)).mono ?_
    rintro e w1 ⟨rfl, hb⟩
    have hG := hG0.step hb
    go_wp2_with fail
    refine (l03Fits_any _ W H q ss.length d hm _ (by have := hG.size; omega) hG.c0 hG.c1).mono ?_
    rintro e w2 ⟨rfl, hb2⟩
    have hG2 := hG.step hb2
    go_wp2_with fail
    refine (l03Energy_any p q c d rs ss _ hE.out hm (hr.below hG2.below) (hs.below hG2.below)).mono ?_
    rintro e w3 ⟨r, rfl, hv, hb3⟩
    go_wp2
    go_ret2
    exact ⟨_, rfl, by rw [hO.out]; exact hv, (hG2.step hb3).below⟩

set_option maxHeartbeats 800000 in
theorem impl_any (W H : Int) (p : Option Addr) (c : Nat) (rs : List Nat) (q : Option Addr) (d : Nat) (ss : List Nat) {base base' : Nat} (w : World) (hn : rs.length ≤ 1048576) (how : Ow w base p c rs) (hm : ss.length ≤ 1048576) (hos : Ow w base' q d ss) :
    Calls Try.prog 32 #[.agg #[.int .i64 W, .int .i64 H], .slice p rs.length c, .slice q ss.length d] w fun e w' => ∃ r, e = .returned (.tuple #[.float .f32 r, .bool (fit2 W H rs.length ss.length)]) ∧ Hid (vf .f32 r = outF W H rs.length ss.length (rs.map (vf .f32)) (ss.map (vf .f32))) ∧ Below w.heap.size w w' := by
  have hr := how.rd
  have hs := hos.rd
  have hG0 := GI.start w W H
  cases h : fit2 W H rs.length ss.length
  · have hO : Hid (outF W H rs.length ss.length (rs.map (vf .f32)) (ss.map (vf .f32)) = some 0) := by simp [Hid, outF, h]
    go_enter Try.func32, Try.ntmps32
    go_wp2_with fail
    refine (areFields_any W H p q rs.length ss.length c d hn hm _).mono ?_
    rintro e w1 ⟨rfl, hb⟩
    go_wp2
    go_ret2
    exact ⟨0, rfl, by rw [hO.out]; exact vf_zero, (hG0.step hb).below⟩
  · have hO : Hid (outF W H rs.length ss.length (rs.map (vf .f32)) (ss.map (vf .f32)) = energyF (rs.map (vf .f32)) (ss.map (vf .f32))) := by simp [Hid, outF, h]
    obtain ⟨h1, h2, h3⟩ := fit2_len h
    have hle := fitB_le h2
    have hE : Hid (rs.length = ss.length) := h3
    have h0 := fitB_pos h2
    obtain ⟨g, rfl, _, _, _, _⟩ := hos.cells h0
    clear h3
    go_enter Try.func32, Try.ntmps32
    go_wp2_with fail
    refine (areFields_any W H p _ rs.length ss.length c d hn hm _).mono ?_
    rintro e w1 ⟨rfl, hb⟩
    have hG := hG0.step hb
    go_wp2_with fail
    refine (withoutMean_any g d ss _ h0 hm (hs.below hG.below)).mono ?_
    rintro e w2 ⟨q2, cap, ls, rfl, ho, hv, hb2⟩
    have hG2 := hG.step hb2
    have hl : ls.length = ss.length := by have := congrArg List.length hv; simpa [levelF] using this
    have hl2 : Hid (ls.length = rs.length) := hl.trans hE.out.symm
    go_wp2_with fail
    rw [← hl]
    refine (dot_any q2 p cap c ls rs _ hl2.out (by have := hE.out; omega) ho.rd (hr.below hG2.below)).mono ?_
    rintro e w3 ⟨r, rfl, hd, hb3⟩
    have hG3 := hG2.step hb3
    go_wp2_with (refine wpList_flt rfl rfl rfl rfl rfl (fun r1 n1 hr1 => ?_))
    go_ret2
    refine ⟨_, rfl, ?_, by simpa using hG3.below⟩
    have e1 := hr1.out
    rw [vf_half, hd.out, hv] at e1
    rw [hO.out]
    show _ = _
    rw [e1, energyF]
    simp [hE.out]
set_option maxHeartbeats 4000000 in
set_option maxRecDepth 100000 in
theorem walk_of (W H : Int) (p1 : Option Addr) (c1 : Nat) (rs1 : List Nat) (p2 : Option Addr) (c2 : Nat) (rs2 : List Nat)  (w : World) (hr1 : Rd w p1 rs1) (hn1 : rs1.length ≤ 1048576) (hr2 : Rd w p2 rs2) (hn2 : rs2.length ≤ 1048576) :
    Calls Try.prog 8 #[.agg #[.int .i64 W, .int .i64 H], .slice p1 rs1.length c1, .slice p2 rs2.length c2] w fun e w' => e = .returned (.bool true) ∧ Below w.heap.size w w' := by
  have i0 := Inv.start w W H
  go_enter Try.func8, Try.ntmps8
  have ca := i0.c0
  have cb := i0.c1
  go_wp2_with fail
  clear ca cb
  refine (toGrid_any W H _).mono ?_
  rintro e w1 ⟨rfl, hb1⟩
  have z1 : (w.alloc (.cells #[.int .i64 W, .int .i64 H] 23)).heap.size ≤ w1.heap.size := hb1.size
  have i1 := i0.step hb1
  go_wp2_with fail
  refine (toF_any p1 c1 rs1 _ hn1 (hr1.below i1.below)).mono ?_
  rintro e w2 ⟨q_t1, rfl, o_t1, hb2⟩
  have z2 : w1.heap.size ≤ w2.heap.size := hb2.size
  have i2 := i1.step hb2
  have l_t1 : ∀ a, q_t1 = some a → w1.heap.size ≤ a.block ∧ a.block < w2.heap.size := o_t1.lt
  go_wp2_with fail
  refine (toF_any p2 c2 rs2 _ hn2 (hr2.below i2.below)).mono ?_
  rintro e w3 ⟨q_t2, rfl, o_t2, hb3⟩
  have z3 : w2.heap.size ≤ w3.heap.size := hb3.size
  have i3 := i2.step hb3
  replace o_t1 := o_t1.below hb3
  have l_t2 : ∀ a, q_t2 = some a → w2.heap.size ≤ a.block ∧ a.block < w3.heap.size := o_t2.lt
  go_wp2_with fail
  refine (spec_any W H _ _ rs1 _ _ rs2 _ hn1 o_t1 hn2 o_t2).mono ?_
  rintro e w4 ⟨r_w, rfl, v_w, hb4⟩
  have z4 : w3.heap.size ≤ w4.heap.size := hb4.size
  have i4 := i3.step hb4
  replace o_t1 := o_t1.below hb4
  replace o_t2 := o_t2.below hb4
  clear o_t1 l_t1
  clear o_t2 l_t2
  go_wp2_with fail
  refine (toF_any p1 c1 rs1 _ hn1 (hr1.below i4.below)).mono ?_
  rintro e w5 ⟨q_x1, rfl, o_x1, hb5⟩
  have z5 : w4.heap.size ≤ w5.heap.size := hb5.size
  have i5 := i4.step hb5
  have l_x1 : ∀ a, q_x1 = some a → w4.heap.size ≤ a.block ∧ a.block < w5.heap.size := o_x1.lt
  go_wp2_with fail
  refine (toF_any p2 c2 rs2 _ hn2 (hr2.below i5.below)).mono ?_
  rintro e w6 ⟨q_x2, rfl, o_x2, hb6⟩
  have z6 : w5.heap.size ≤ w6.heap.size := hb6.size
  have i6 := i5.step hb6
  replace o_x1 := o_x1.below hb6
  have l_x2 : ∀ a, q_x2 = some a → w5.heap.size ≤ a.block ∧ a.block < w6.heap.size := o_x2.lt
  have ca := i6.c0
  have cb := i6.c1
  go_wp2_with fail
  clear ca cb
  refine (toGrid_any W H _).mono ?_
  rintro e w7 ⟨rfl, hb7⟩
  have z7 : w6.heap.size ≤ w7.heap.size := hb7.size
  have i7 := i6.step hb7
  replace o_x1 := o_x1.below hb7
  replace o_x2 := o_x2.below hb7
  go_wp2_with fail
  refine (impl_any W H _ _ rs1 _ _ rs2 _ hn1 o_x1 hn2 o_x2).mono ?_
  rintro e w8 ⟨r_g, rfl, v_g, hb8⟩
  have z8 : w7.heap.size ≤ w8.heap.size := hb8.size
  have i8 := i7.step hb8
  replace o_x1 := o_x1.below hb8
  replace o_x2 := o_x2.below hb8
  go_wp2_with (refine wpList_widen (src := 38) (dst := 42) rfl rfl rfl u32s Try.underlying42 (fun r n hv => ?_))
  refine Calls.mono (same_any _ _ _ (widen_eq (by assumption) (by assumption) (v_g.out.trans v_w.out.symm))) ?_
  rintro e w9 ⟨rfl, n9, hw9⟩
  have hb9 : Below w8.heap.size w8 w9 := by rw [hw9]; simpa using Below.refl w8.heap.size w8
  clear hw9
  have z9 : w8.heap.size ≤ w9.heap.size := hb9.size
  have i9 := i8.step hb9
  replace o_x1 := o_x1.below hb9
  replace o_x2 := o_x2.below hb9
  go_wp2_with fail
  refine (toF_any p1 c1 rs1 _ hn1 (hr1.below i9.below)).mono ?_
  rintro e w10 ⟨q_u, rfl, o_u, hb10⟩
  have z10 : w9.heap.size ≤ w10.heap.size := hb10.size
  have i10 := i9.step hb10
  replace o_x1 := o_x1.below hb10
  replace o_x2 := o_x2.below hb10
  have l_u : ∀ a, q_u = some a → w9.heap.size ≤ a.block ∧ a.block < w10.heap.size := o_u.lt
  go_wp2_with fail
  refine (eqF_any _ _ _ _ rs1 rs1 _ hn1 o_x1.rd o_u.rd rfl).mono ?_
  rintro e w11 ⟨rfl, hb11⟩
  have z11 : w10.heap.size ≤ w11.heap.size := hb11.size
  have i11 := i10.step hb11
  replace o_x1 := o_x1.below hb11
  replace o_x2 := o_x2.below hb11
  replace o_u := o_u.below hb11
  clear o_u l_u
  go_wp2_with fail
  refine (toF_any p2 c2 rs2 _ hn2 (hr2.below i11.below)).mono ?_
  rintro e w12 ⟨q_u, rfl, o_u, hb12⟩
  have z12 : w11.heap.size ≤ w12.heap.size := hb12.size
  have i12 := i11.step hb12
  replace o_x1 := o_x1.below hb12
  replace o_x2 := o_x2.below hb12
  have l_u : ∀ a, q_u = some a → w11.heap.size ≤ a.block ∧ a.block < w12.heap.size := o_u.lt
  go_wp2_with fail
  refine (eqF_any _ _ _ _ rs2 rs2 _ hn2 o_x2.rd o_u.rd rfl).mono ?_
  rintro e w13 ⟨rfl, hb13⟩
  have z13 : w12.heap.size ≤ w13.heap.size := hb13.size
  have i13 := i12.step hb13
  replace o_x1 := o_x1.below hb13
  replace o_x2 := o_x2.below hb13
  replace o_u := o_u.below hb13
  clear o_u l_u
  go_wp2
  go_ret
  exact ⟨rfl, i13.below⟩

set_option maxHeartbeats 1000000 in
theorem walk_out1 (W H : Int) (p1 : Option Addr) (c1 : Nat) (rs1 : List Nat) (p2 : Option Addr) (c2 : Nat) (rs2 : List Nat) (w : World)  (hn1 : 1048576 < rs1.length) (hm1 : rs1.length ≤ 9223372036854775807) :
    Calls Try.prog 8 #[.agg #[.int .i64 W, .int .i64 H], .slice p1 rs1.length c1, .slice p2 rs2.length c2] w fun e w' => e = .returned (.bool true) ∧ Below w.heap.size w w' := by
  have i0 := Inv.start w W H
  go_enter Try.func8, Try.ntmps8
  go_wp2
  go_ret
  exact ⟨rfl, i0.below⟩

set_option maxHeartbeats 1000000 in
theorem walk_out2 (W H : Int) (p1 : Option Addr) (c1 : Nat) (rs1 : List Nat) (p2 : Option Addr) (c2 : Nat) (rs2 : List Nat) (w : World) (hn1 : rs1.length ≤ 1048576) (hn2 : 1048576 < rs2.length) (hm2 : rs2.length ≤ 9223372036854775807) :
    Calls Try.prog 8 #[.agg #[.int .i64 W, .int .i64 H], .slice p1 rs1.length c1, .slice p2 rs2.length c2] w fun e w' => e = .returned (.bool true) ∧ Below w.heap.size w w' := by
  have i0 := Inv.start w W H
  go_enter Try.func8, Try.ntmps8
  go_wp2
  go_ret
  exact ⟨rfl, i0.below⟩

theorem walk (W H : Int) (_wW : (Lit.int .i64 W).wf = true) (_wH : (Lit.int .i64 H).wf = true) (p1 : Option Addr) (c1 : Nat) (rs1 : List Nat) (p2 : Option Addr) (c2 : Nat) (rs2 : List Nat) (w : World) (hr1 : Rd w p1 rs1) (hm1 : rs1.length ≤ 9223372036854775807) (hr2 : Rd w p2 rs2) (hm2 : rs2.length ≤ 9223372036854775807) :
    Calls Try.prog 8 #[.agg #[.int .i64 W, .int .i64 H], .slice p1 rs1.length c1, .slice p2 rs2.length c2] w fun e w' => e = .returned (.bool true) ∧ Below w.heap.size w w' := by
  by_cases hn1 : rs1.length ≤ 1048576
  · skip
    by_cases hn2 : rs2.length ≤ 1048576
    · skip
      exact walk_of W H p1 c1 rs1 p2 c2 rs2 w hr1 hn1 hr2 hn2
    · exact walk_out2 W H p1 c1 rs1 p2 c2 rs2 w hn1 (by omega) hm2
  · exact walk_out1 W H p1 c1 rs1 p2 c2 rs2 w  (by omega) hm1

/-! ### From the walk to the statement -/
set_option maxRecDepth 100000 in
theorem lifted (os : Os) (started : os.Started) (H : Type) (enc : TypeId × Value → H) :
    ReturnsInHanded {} Try.checked os 8 .any (Rows.fnExactFieldEnergySpec.pre6 enc Try.prog Try.f8 Rows.fnExactFieldEnergyRow.domain false) (Rows.fnExactFieldEnergySpec.post enc Try.prog Try.f8 false true false false) := by
  refine returnsInHanded_of_change (C := Try.checked) own started (by kernel_rfl) Try.func8
    (ChangeSpec.witness6 (enc := enc) (C := Try.checked) false ⟨#[], #[.agg #[.int .i64 0, .int .i64 0], .slice none 0 0, .slice none 0 0], []⟩ 8 (by kernel_rfl) (by kernel_rfl) (by kernel_rfl) (by kernel_rfl)) ?_
  intro W base args ds gs before hval0 hW hcnd _
  have hval : ∀ (j : Nat) t v, Try.f8.params[j]? = some t → args[j]? = some v → Value.okWide Try.prog W .any base t v := hval0
  have hW' := hW
  obtain ⟨p, q, hA0, hV, rfl, hfz, hnd⟩ := hW
  have hA : DataW.TrodAll enc Try.prog W 0 (fun _ => true) true Try.f8.params.toList args.toList ds p := hA0
  rw [Try.params8] at hA hval
  obtain ⟨v0, vs0, d0, ds0, p0, q0, hargs, rfl, rfl, h0, r0⟩ := trodAll_cons hA
  obtain ⟨v1, vs1, d1, ds1, p1, q1, rfl, rfl, rfl, h1, r1⟩ := trodAll_cons r0
  obtain ⟨v2, vs2, d2, ds2, p2, q2, rfl, rfl, rfl, h2, r2⟩ := trodAll_cons r1
  obtain ⟨rfl, rfl, rfl⟩ := trodAll_nil r2
  obtain rfl : args = #[v0, v1, v2] := by cases args; simp_all
  obtain ⟨rfl, rfl⟩ := trodVars_none hV
  obtain ⟨c0a, c0b, y0a, y0b, m0, rfl, _, _, hy0a, hy0b⟩ := open_agg2 Try.underlying23 (by kernel_rfl) cellsGrid (hval 0 23 v0 rfl rfl) h0
  obtain ⟨gW0, e0a, _, wW0⟩ := DataW.trod_int Try.underlying2 hy0a
  obtain ⟨gH0, e0b, _, wH0⟩ := DataW.trod_int Try.underlying2 hy0b
  simp only [List.cons.injEq, and_true] at e0a e0b
  subst e0a e0b
  obtain ⟨a1, c1, rs1, rfl, hr1, hm1⟩ := open_floats Try.underlying24 Try.underlying38 cellsF32 (hval 1 24 v1 rfl rfl) h1
  obtain ⟨a2, c2, rs2, rfl, hr2, hm2⟩ := open_floats Try.underlying24 Try.underlying38 cellsF32 (hval 2 24 v2 rfl rfl) h2
  refine (walk gW0 gH0 wW0 wH0 a1 c1 rs1 a2 c2 rs2 W hr1 hm1 hr2 hm2).mono fun e W' ⟨he, hb⟩ => ?_
  subst he
  exact ⟨_, rfl, law_post laid Try.underlying4 (by kernel_rfl) (by rw [Try.params8]; intro t ht; simp only [List.mem_cons, List.not_mem_nil, or_false] at ht; rcases ht with rfl | rfl | rfl <;> exact ⟨by kernel_rfl, of_decide_eq_true (by kernel_rfl)⟩) rfl rfl hW' hb⟩

/-- The statement. -/
theorem proved : Rows.FnExactFieldEnergySaid :=
  OpenClaim.holds_of_wide 8 Try.f8 rfl rfl rfl rfl rfl rfl rfl ⟨rfl, rfl, rfl, rfl, rfl⟩ rfl rfl rfl rfl rfl (by kernel_rfl) Try.func8 (by kernel_rfl)
    (of_decide_eq_true (by kernel_rfl)) (by unfold Func.isWrapper; first | (rw [if_pos (by decide +kernel)]; kernel_rfl) | (rw [if_neg (by decide +kernel)]; exact ⟨rfl, rfl⟩))
    (fun os started H enc _ => lifted os started H enc)
#print axioms proved

end Go.Proofs.Ytdafcgimkiepnaa.FEnergy
