/-
  The law FnExactTwoGrids returns true for every argument (the statement FnExactTwoGridsSaid): the TwoGrids of the program and that of the reference agree.
  Conditions: none beyond those of the given statement.
-/
import Derived.Test.YtdafcgimkiepnaaTwoH
import Derived.Test.YtdafcgimkiepnaaLaw
namespace Go.Proofs.Ytdafcgimkiepnaa.TwoL
open Go Go.RowKit Go.ChangeShapes Go.WideShapes Go.ChangeAt Go.Joins Go.Proofs.Ytdafcgimkiepnaa.Fl Go.Proofs.Ytdafcgimkiepnaa.Reg Go.Proofs.Ytdafcgimkiepnaa.Step Go.Proofs.Ytdafcgimkiepnaa.Mem Go.Proofs.Ytdafcgimkiepnaa.Same Go.Proofs.Ytdafcgimkiepnaa.Help Go.Proofs.Ytdafcgimkiepnaa.Grid Go.Proofs.Ytdafcgimkiepnaa.Mean Go.Proofs.Ytdafcgimkiepnaa.App Go.Proofs.Ytdafcgimkiepnaa.Level Go.Proofs.Ytdafcgimkiepnaa.Lap Go.Proofs.Ytdafcgimkiepnaa.Two Go.Proofs.Ytdafcgimkiepnaa.Sweep Go.Proofs.Ytdafcgimkiepnaa.Solve Go.Proofs.Ytdafcgimkiepnaa.Even Go.Proofs.Ytdafcgimkiepnaa.Law Go.Proofs.Ytdafcgimkiepnaa.TwoG

def okT (W H : Int) (n m : Nat) (R : Int) : Bool := fit2 W H n m && evB W H && inB R 0 60
def outT (W H : Int) (n m : Nat) (R : Int) (vs cs : List (Option Nat)) : List (Option Nat) := if okT W H n m R = true then twoF W.toNat H.toNat (W.toNat / 2) (H.toNat / 2) vs cs R.toNat else []

set_option maxHeartbeats 1000000 in
theorem spec_bad (W H : Int) (p q : Option Addr) (n m c d : Nat) (R : Int) (w : World) (hn : n ≤ 1048576) (hm : m ≤ 1048576) (h : okT W H n m R = false) :
    Calls Try.prog 44 #[.agg #[.int .i64 W, .int .i64 H], .slice p n c, .slice q m d, .int .i64 R] w fun e w' => e = .returned (.tuple #[.slice none 0 0, .bool false]) ∧ Below w.heap.size w w' := by
  have hG0 := GI.start w W H
  cases h1 : fitB W H n
  · go_enter Try.func44, Try.ntmps44
    go_wp2_with fail
    refine (l03Fits_any w.heap.size W H p n c hn _ (by simp) (by simp) (by simp)).mono ?_
    rw [h1]
    rintro e w1 ⟨rfl, hb1⟩
    have hG1 := hG0.step hb1
    clear h h1
    go_wp2
    go_ret2
    exact ⟨rfl, hG1.below⟩
  · obtain ⟨a1, a2, a3, a4, _⟩ := fitB_spec h1
    cases h2 : fitB W H m
    · go_enter Try.func44, Try.ntmps44
      go_wp2_with fail
      refine (l03Fits_any w.heap.size W H p n c hn _ (by simp) (by simp) (by simp)).mono ?_
      rw [h1]
      rintro e w1 ⟨rfl, hb1⟩
      have hG1 := hG0.step hb1
      clear h h1
      go_wp2_with fail
      refine (l03Fits_any w.heap.size W H q m d hm _ (by have := hG1.size; omega) hG1.c0 hG1.c1).mono ?_
      rw [h2]
      rintro e w2 ⟨rfl, hb2⟩
      have hG2 := hG1.step hb2
      clear h2
      go_wp2
      go_ret2
      exact ⟨rfl, hG2.below⟩
    · cases h3 : evB W H
      · go_enter Try.func44, Try.ntmps44
        go_wp2_with fail
        refine (l03Fits_any w.heap.size W H p n c hn _ (by simp) (by simp) (by simp)).mono ?_
        rw [h1]
        rintro e w1 ⟨rfl, hb1⟩
        have hG1 := hG0.step hb1
        clear h h1
        go_wp2_with fail
        refine (l03Fits_any w.heap.size W H q m d hm _ (by have := hG1.size; omega) hG1.c0 hG1.c1).mono ?_
        rw [h2]
        rintro e w2 ⟨rfl, hb2⟩
        have hG2 := hG1.step hb2
        clear h2
        go_wp2_with fail
        refine (l03Halves_any w.heap.size W H a1 a2 a3 a4 _ hG2.c0 hG2.c1).mono ?_
        rw [h3]
        rintro e w3 ⟨rfl, rfl⟩
        clear h3
        go_wp2
        go_ret2
        exact ⟨rfl, hG2.below⟩
      · have h4 : inB R 0 60 = false := by simpa [okT, fit2, h1, h2, h3] using h
        go_enter Try.func44, Try.ntmps44
        go_wp2_with fail
        refine (l03Fits_any w.heap.size W H p n c hn _ (by simp) (by simp) (by simp)).mono ?_
        rw [h1]
        rintro e w1 ⟨rfl, hb1⟩
        have hG1 := hG0.step hb1
        clear h h1
        go_wp2_with fail
        refine (l03Fits_any w.heap.size W H q m d hm _ (by have := hG1.size; omega) hG1.c0 hG1.c1).mono ?_
        rw [h2]
        rintro e w2 ⟨rfl, hb2⟩
        have hG2 := hG1.step hb2
        clear h2
        go_wp2_with fail
        refine (l03Halves_any w.heap.size W H a1 a2 a3 a4 _ hG2.c0 hG2.c1).mono ?_
        rw [h3]
        rintro e w3 ⟨rfl, rfl⟩
        clear h3
        go_wp2_with fail
        refine (l00In_any R 0 60 _).mono ?_
        rw [h4]
        rintro e w3 ⟨rfl, hb3⟩
        have hb3 : Below w2.heap.size w2 w3 := by rw [hb3]; exact Below.refl _ _
        clear h4
        go_wp2
        go_ret2
        exact ⟨rfl, (hG2.step hb3).below⟩

set_option maxHeartbeats 1000000 in
theorem impl_bad (W H : Int) (p q : Option Addr) (n m c d : Nat) (R : Int) (w : World) (hn : n ≤ 1048576) (hm : m ≤ 1048576) (h : okT W H n m R = false) :
    Calls Try.prog 45 #[.agg #[.int .i64 W, .int .i64 H], .slice p n c, .slice q m d, .int .i64 R] w fun e w' => e = .returned (.tuple #[.slice none 0 0, .bool false]) ∧ Below w.heap.size w w' := by
  have hG0 := GI.start w W H
  cases h1 : (vgB W H && evB W H)
  · go_enter Try.func45, Try.ntmps45
    go_wp2_with fail
    refine (isEven_any W H _).mono ?_
    rw [h1]
    rintro e w1 ⟨rfl, hb1⟩
    have hG1 := hG0.step hb1
    have k0 := hG1.c0
    have k1 := hG1.c1
    clear h h1
    go_wp2
    go_ret2
    exact ⟨rfl, hG1.below⟩
  · cases h2 : fit2 W H n m
    · go_enter Try.func45, Try.ntmps45
      go_wp2_with fail
      refine (isEven_any W H _).mono ?_
      rw [h1]
      rintro e w1 ⟨rfl, hb1⟩
      have hG1 := hG0.step hb1
      have k0 := hG1.c0
      have k1 := hG1.c1
      clear h h1
      go_wp2_with fail
      refine (areFields_any W H p q n m c d hn hm _).mono ?_
      rw [h2]
      rintro e w2 ⟨rfl, hb2⟩
      have hG2 := hG1.step hb2
      clear h2 k0 k1
      go_wp2
      go_ret2
      exact ⟨rfl, hG2.below⟩
    · have h3 : evB W H = true := by simp only [Bool.and_eq_true] at h1; exact h1.2
      have h4 : inB R 0 60 = false := by simpa [okT, h2, h3] using h
      go_enter Try.func45, Try.ntmps45
      go_wp2_with fail
      refine (isEven_any W H _).mono ?_
      rw [h1]
      rintro e w1 ⟨rfl, hb1⟩
      have hG1 := hG0.step hb1
      have k0 := hG1.c0
      have k1 := hG1.c1
      clear h h1 h3
      go_wp2_with fail
      refine (areFields_any W H p q n m c d hn hm _).mono ?_
      rw [h2]
      rintro e w2 ⟨rfl, hb2⟩
      have hG2 := hG1.step hb2
      clear h2 k0 k1
      go_wp2_with fail
      refine (SolveP.isRounds_any R _).mono ?_
      rw [h4]
      rintro e w3 ⟨rfl, hb3⟩
      have hb3 : Below w2.heap.size w2 w3 := by rw [hb3]; exact Below.refl _ _
      clear h4
      go_wp2
      go_ret2
      exact ⟨rfl, (hG2.step hb3).below⟩

theorem join {F : FuncId} (W H : Int) (p : Option Addr) (c : Nat) (rs : List Nat) (q : Option Addr) (d : Nat) (ss : List Nat) (R : Int) {b1 b2 : Nat} (w : World) (h1 : Ow w b1 p c rs) (h2 : Ow w b2 q d ss)
    (hbad : okT W H rs.length ss.length R = false → Calls Try.prog F #[.agg #[.int .i64 W, .int .i64 H], .slice p rs.length c, .slice q ss.length d, .int .i64 R] w fun e w' => e = .returned (.tuple #[.slice none 0 0, .bool false]) ∧ Below w.heap.size w w')
    (hgood : ∀ W H hw hh : Nat, Hid (W = 2 * hw) → Hid (H = 2 * hh) → 4 ≤ hw → hw ≤ 8 → 4 ≤ hh → hh ≤ 8 → evB W H = true → ∀ (g1 g2 n k : Nat), k ≤ 60 → Hid (n = W * H) → Hid (rs.length = n) → Hid (ss.length = n) → fitB W H n = true → Rd w (some ⟨g1, 0, none⟩) rs → Rd w (some ⟨g2, 0, none⟩) ss →
      Calls Try.prog F #[.agg #[.int .i64 (W : Nat), .int .i64 (H : Nat)], .slice (some ⟨g1, 0, none⟩) n c, .slice (some ⟨g2, 0, none⟩) n d, .int .i64 (k : Nat)] w fun e w' => BackT w w' e true (twoF W H hw hh (rs.map (vf .f32)) (ss.map (vf .f32)) k)) :
    Calls Try.prog F #[.agg #[.int .i64 W, .int .i64 H], .slice p rs.length c, .slice q ss.length d, .int .i64 R] w fun e w' => BackT w w' e (okT W H rs.length ss.length R) (outT W H rs.length ss.length R (rs.map (vf .f32)) (ss.map (vf .f32))) := by
  unfold outT
  cases h : okT W H rs.length ss.length R
  · refine (hbad h).mono ?_
    rintro e w' ⟨rfl, hb⟩
    simpa using BackT.none hb
  · have h' : (fitB W H rs.length = true ∧ fitB W H ss.length = true) ∧ evB W H = true ∧ inB R 0 60 = true := by simpa [okT, fit2, and_assoc] using h
    obtain ⟨a1, a2, a3, a4, hf⟩ := fitB_spec h'.1.1
    obtain ⟨_, _, _, _, hf2⟩ := fitB_spec h'.1.2
    obtain ⟨e1, e2, e3, e4⟩ := evB_spec h'.2.1
    obtain ⟨k, rfl, hk⟩ := SolveP.rounds_nat h'.2.2
    obtain ⟨W, rfl⟩ : ∃ n : Nat, W = n := ⟨W.toNat, by omega⟩
    obtain ⟨H, rfl⟩ : ∃ n : Nat, H = n := ⟨H.toNat, by omega⟩
    have e : ((W * H : Nat) : Int) = (W : Int) * H := by simp
    have hl : ss.length = rs.length := by omega
    obtain ⟨g1, rfl, _⟩ := h1.cells (fitB_pos h'.1.1)
    obtain ⟨g2, rfl, _⟩ := h2.cells (fitB_pos h'.1.2)
    rw [hl]
    refine (hgood W H (W / 2) (H / 2) (by show _ = _; omega) (by show _ = _; omega) (by omega) (by omega) (by omega) (by omega) h'.2.1 g1 g2 rs.length k hk (by show _ = _; omega) rfl hl h'.1.1 h1.rd h2.rd).mono ?_
    intro e w' hh
    simpa using hh
theorem spec_any (W H : Int) (p : Option Addr) (c : Nat) (rs : List Nat) (q : Option Addr) (d : Nat) (ss : List Nat) (R : Int) {b1 b2 : Nat} (w : World) (hn : rs.length ≤ 1048576) (h1 : Ow w b1 p c rs) (hm : ss.length ≤ 1048576) (h2 : Ow w b2 q d ss) :
    Calls Try.prog 44 #[.agg #[.int .i64 W, .int .i64 H], .slice p rs.length c, .slice q ss.length d, .int .i64 R] w fun e w' => BackT w w' e (okT W H rs.length ss.length R) (outT W H rs.length ss.length R (rs.map (vf .f32)) (ss.map (vf .f32))) :=
  join W H p c rs q d ss R w h1 h2 (spec_bad W H p q _ _ c d R w hn hm) (fun W H hw hh eW eH a1 a2 a3 a4 hev g1 g2 n k hk en l1 l2 hf r1 r2 => spec_in W H hw hh eW eH a1 a2 a3 a4 hev g1 g2 c d rs ss n k hk en l1 l2 hf w r1 r2)
theorem impl_any (W H : Int) (p : Option Addr) (c : Nat) (rs : List Nat) (q : Option Addr) (d : Nat) (ss : List Nat) (R : Int) {b1 b2 : Nat} (w : World) (hn : rs.length ≤ 1048576) (h1 : Ow w b1 p c rs) (hm : ss.length ≤ 1048576) (h2 : Ow w b2 q d ss) :
    Calls Try.prog 45 #[.agg #[.int .i64 W, .int .i64 H], .slice p rs.length c, .slice q ss.length d, .int .i64 R] w fun e w' => BackT w w' e (okT W H rs.length ss.length R) (outT W H rs.length ss.length R (rs.map (vf .f32)) (ss.map (vf .f32))) :=
  join W H p c rs q d ss R w h1 h2 (impl_bad W H p q _ _ c d R w hn hm) (fun W H hw hh eW eH a1 a2 a3 a4 hev g1 g2 n k hk en l1 l2 hf r1 r2 => impl_in W H hw hh eW eH a1 a2 a3 a4 hev g1 g2 c d rs ss n k hk en l1 l2 hf w r1 r2)
set_option maxHeartbeats 4000000 in
set_option maxRecDepth 100000 in
theorem walk_of (W H : Int) (p1 : Option Addr) (c1 : Nat) (rs1 : List Nat) (p2 : Option Addr) (c2 : Nat) (rs2 : List Nat) (x3 : Int) (_wx3 : (Lit.int .i64 x3).wf = true) (w : World) (hr1 : Rd w p1 rs1) (hn1 : rs1.length ≤ 1048576) (hr2 : Rd w p2 rs2) (hn2 : rs2.length ≤ 1048576) :
    Calls Try.prog 14 #[.agg #[.int .i64 W, .int .i64 H], .slice p1 rs1.length c1, .slice p2 rs2.length c2, .int .i64 x3] w fun e w' => e = .returned (.bool true) ∧ Below w.heap.size w w' := by
  have i0 := Inv.start w W H
  go_enter Try.func14, Try.ntmps14
  have ca := i0.c0
  have cb := i0.c1
  go_wp2_with fail
  clear ca cb
  refine (toGrid_any W H _).mono ?_
  rintro e w1 ⟨rfl, hb1⟩
  have z1 : (w.alloc (.cells #[.int .i64 W, .int .i64 H] 23)).heap.size ≤ w1.heap.size := hb1.size
  have i1 := i0.step hb1
  go_wp2_with fail
  refine (toF_any p1 c1 rs1 _ hn1 (hr1.below i1.below)).mono ?_
  rintro e w2 ⟨q_t1, rfl, o_t1, hb2⟩
  have z2 : w1.heap.size ≤ w2.heap.size := hb2.size
  have i2 := i1.step hb2
  have l_t1 : ∀ a, q_t1 = some a → w1.heap.size ≤ a.block ∧ a.block < w2.heap.size := o_t1.lt
  go_wp2_with fail
  refine (toF_any p2 c2 rs2 _ hn2 (hr2.below i2.below)).mono ?_
  rintro e w3 ⟨q_t2, rfl, o_t2, hb3⟩
  have z3 : w2.heap.size ≤ w3.heap.size := hb3.size
  have i3 := i2.step hb3
  replace o_t1 := o_t1.below hb3
  have l_t2 : ∀ a, q_t2 = some a → w2.heap.size ≤ a.block ∧ a.block < w3.heap.size := o_t2.lt
  go_wp2_with fail
  refine (spec_any W H _ _ rs1 _ _ rs2 x3 _ hn1 o_t1 hn2 o_t2).mono ?_
  rintro e w4 ⟨q_w, d_w, rs_w, rfl, o_w, v_w, e_w, hb4⟩
  have z4 : w3.heap.size ≤ w4.heap.size := hb4.size
  have i4 := i3.step hb4
  replace o_t1 := o_t1.below hb4
  replace o_t2 := o_t2.below hb4
  have l_w : ∀ a, q_w = some a → w3.heap.size ≤ a.block ∧ a.block < w4.heap.size := o_w.lt
  clear o_t1 l_t1
  clear o_t2 l_t2
  go_wp2_with fail
  refine (toF_any p1 c1 rs1 _ hn1 (hr1.below i4.below)).mono ?_
  rintro e w5 ⟨q_x1, rfl, o_x1, hb5⟩
  have z5 : w4.heap.size ≤ w5.heap.size := hb5.size
  have i5 := i4.step hb5
  replace o_w := o_w.below hb5
  have l_x1 : ∀ a, q_x1 = some a → w4.heap.size ≤ a.block ∧ a.block < w5.heap.size := o_x1.lt
  go_wp2_with fail
  refine (toF_any p2 c2 rs2 _ hn2 (hr2.below i5.below)).mono ?_
  rintro e w6 ⟨q_x2, rfl, o_x2, hb6⟩
  have z6 : w5.heap.size ≤ w6.heap.size := hb6.size
  have i6 := i5.step hb6
  replace o_w := o_w.below hb6
  replace o_x1 := o_x1.below hb6
  have l_x2 : ∀ a, q_x2 = some a → w5.heap.size ≤ a.block ∧ a.block < w6.heap.size := o_x2.lt
  have ca := i6.c0
  have cb := i6.c1
  go_wp2_with fail
  clear ca cb
  refine (toGrid_any W H _).mono ?_
  rintro e w7 ⟨rfl, hb7⟩
  have z7 : w6.heap.size ≤ w7.heap.size := hb7.size
  have i7 := i6.step hb7
  replace o_w := o_w.below hb7
  replace o_x1 := o_x1.below hb7
  replace o_x2 := o_x2.below hb7
  go_wp2_with fail
  refine (impl_any W H _ _ rs1 _ _ rs2 x3 _ hn1 o_x1 hn2 o_x2).mono ?_
  rintro e w8 ⟨q_g, d_g, rs_g, rfl, o_g, v_g, e_g, hb8⟩
  have z8 : w7.heap.size ≤ w8.heap.size := hb8.size
  have i8 := i7.step hb8
  replace o_w := o_w.below hb8
  replace o_x1 := o_x1.below hb8
  replace o_x2 := o_x2.below hb8
  have l_g : ∀ a, q_g = some a → w7.heap.size ≤ a.block ∧ a.block < w8.heap.size := o_g.lt
  go_wp2_with fail
  refine (eqF_any _ _ _ _ rs_g rs_w _ e_g o_g.rd o_w.rd (v_g.trans v_w.symm)).mono ?_
  rintro e w9 ⟨rfl, hb9⟩
  have z9 : w8.heap.size ≤ w9.heap.size := hb9.size
  have i9 := i8.step hb9
  replace o_w := o_w.below hb9
  replace o_x1 := o_x1.below hb9
  replace o_x2 := o_x2.below hb9
  replace o_g := o_g.below hb9
  go_wp2_with fail
  refine (toF_any p1 c1 rs1 _ hn1 (hr1.below i9.below)).mono ?_
  rintro e w10 ⟨q_u, rfl, o_u, hb10⟩
  have z10 : w9.heap.size ≤ w10.heap.size := hb10.size
  have i10 := i9.step hb10
  replace o_w := o_w.below hb10
  replace o_x1 := o_x1.below hb10
  replace o_x2 := o_x2.below hb10
  replace o_g := o_g.below hb10
  have l_u : ∀ a, q_u = some a → w9.heap.size ≤ a.block ∧ a.block < w10.heap.size := o_u.lt
  go_wp2_with fail
  refine (eqF_any _ _ _ _ rs1 rs1 _ hn1 o_x1.rd o_u.rd rfl).mono ?_
  rintro e w11 ⟨rfl, hb11⟩
  have z11 : w10.heap.size ≤ w11.heap.size := hb11.size
  have i11 := i10.step hb11
  replace o_w := o_w.below hb11
  replace o_x1 := o_x1.below hb11
  replace o_x2 := o_x2.below hb11
  replace o_g := o_g.below hb11
  replace o_u := o_u.below hb11
  clear o_u l_u
  go_wp2_with fail
  refine (toF_any p2 c2 rs2 _ hn2 (hr2.below i11.below)).mono ?_
  rintro e w12 ⟨q_u, rfl, o_u, hb12⟩
  have z12 : w11.heap.size ≤ w12.heap.size := hb12.size
  have i12 := i11.step hb12
  replace o_w := o_w.below hb12
  replace o_x1 := o_x1.below hb12
  replace o_x2 := o_x2.below hb12
  replace o_g := o_g.below hb12
  have l_u : ∀ a, q_u = some a → w11.heap.size ≤ a.block ∧ a.block < w12.heap.size := o_u.lt
  go_wp2_with fail
  refine (eqF_any _ _ _ _ rs2 rs2 _ hn2 o_x2.rd o_u.rd rfl).mono ?_
  rintro e w13 ⟨rfl, hb13⟩
  have z13 : w12.heap.size ≤ w13.heap.size := hb13.size
  have i13 := i12.step hb13
  replace o_w := o_w.below hb13
  replace o_x1 := o_x1.below hb13
  replace o_x2 := o_x2.below hb13
  replace o_g := o_g.below hb13
  replace o_u := o_u.below hb13
  clear o_u l_u
  go_wp2_with fail
  refine (mark_at _ _ _ _ (1) (by omega) _ _ hn1 (by omega) o_x1).mono ?_
  rintro e w14 ⟨rfl, o_x1', hg14⟩
  have z14 : w13.heap.size ≤ w14.heap.size := hg14.size
  have i14 := i13.gb hg14 (fun a ha => by have h1 := l_x1 a ha; have h2 := i0.size; omega)
  replace o_w := o_w.gb hg14 (sep l_w l_x1 (by omega))
  replace o_x2 := o_x2.gb hg14 (sep l_x2 l_x1 (by omega))
  replace o_g := o_g.gb hg14 (sep l_g l_x1 (by omega))
  clear o_x1
  have o_x1 := o_x1'
  clear o_x1'
  go_wp2_with fail
  refine (mark_at _ _ _ _ (1 + rs1.length) (by omega) _ _ hn2 (by omega) o_x2).mono ?_
  rintro e w15 ⟨rfl, o_x2', hg15⟩
  have z15 : w14.heap.size ≤ w15.heap.size := hg15.size
  have i15 := i14.gb hg15 (fun a ha => by have h1 := l_x2 a ha; have h2 := i0.size; omega)
  replace o_w := o_w.gb hg15 (sep l_w l_x2 (by omega))
  replace o_x1 := o_x1.gb hg15 (sep l_x1 l_x2 (by omega))
  replace o_g := o_g.gb hg15 (sep l_g l_x2 (by omega))
  clear o_x2
  have o_x2 := o_x2'
  clear o_x2'
  clear o_x1 l_x1
  clear o_x2 l_x2
  go_wp2_with fail
  refine (eqF_any _ _ _ _ rs_g rs_w _ e_g o_g.rd o_w.rd (v_g.trans v_w.symm)).mono ?_
  rintro e w16 ⟨rfl, hb16⟩
  have z16 : w15.heap.size ≤ w16.heap.size := hb16.size
  have i16 := i15.step hb16
  replace o_w := o_w.below hb16
  replace o_g := o_g.below hb16
  go_wp2_with fail
  refine (mark_at _ _ _ _ (1) (by omega) _ _ e_g (by omega) o_g).mono ?_
  rintro e w17 ⟨rfl, o_g', hg17⟩
  have z17 : w16.heap.size ≤ w17.heap.size := hg17.size
  have i17 := i16.gb hg17 (fun a ha => by have h1 := l_g a ha; have h2 := i0.size; omega)
  replace o_w := o_w.gb hg17 (sep l_w l_g (by omega))
  clear o_g
  have o_g := o_g'
  clear o_g'
  go_wp2_with fail
  refine (held_at _ _ _ (1) _ (by omega) _ e_g (by omega) o_g.rd).mono ?_
  rintro e w18 ⟨rfl, hb18⟩
  have z18 : w17.heap.size ≤ w18.heap.size := hb18.size
  have i18 := i17.step hb18
  replace o_w := o_w.below hb18
  replace o_g := o_g.below hb18
  have ca := i18.c0
  have cb := i18.c1
  go_wp2_with fail
  clear ca cb
  refine (toGrid_any W H _).mono ?_
  rintro e w19 ⟨rfl, hb19⟩
  have z19 : w18.heap.size ≤ w19.heap.size := hb19.size
  have i19 := i18.step hb19
  replace o_w := o_w.below hb19
  replace o_g := o_g.below hb19
  go_wp2_with fail
  refine (toF_any p1 c1 rs1 _ hn1 (hr1.below i19.below)).mono ?_
  rintro e w20 ⟨q_t1, rfl, o_t1, hb20⟩
  have z20 : w19.heap.size ≤ w20.heap.size := hb20.size
  have i20 := i19.step hb20
  replace o_w := o_w.below hb20
  replace o_g := o_g.below hb20
  have l_t1 : ∀ a, q_t1 = some a → w19.heap.size ≤ a.block ∧ a.block < w20.heap.size := o_t1.lt
  go_wp2_with fail
  refine (toF_any p2 c2 rs2 _ hn2 (hr2.below i20.below)).mono ?_
  rintro e w21 ⟨q_t2, rfl, o_t2, hb21⟩
  have z21 : w20.heap.size ≤ w21.heap.size := hb21.size
  have i21 := i20.step hb21
  replace o_w := o_w.below hb21
  replace o_g := o_g.below hb21
  replace o_t1 := o_t1.below hb21
  have l_t2 : ∀ a, q_t2 = some a → w20.heap.size ≤ a.block ∧ a.block < w21.heap.size := o_t2.lt
  go_wp2_with fail
  refine (impl_any W H _ _ rs1 _ _ rs2 x3 _ hn1 o_t1 hn2 o_t2).mono ?_
  rintro e w22 ⟨q_h, d_h, rs_h, rfl, o_h, v_h, e_h, hb22⟩
  have z22 : w21.heap.size ≤ w22.heap.size := hb22.size
  have i22 := i21.step hb22
  replace o_w := o_w.below hb22
  replace o_g := o_g.below hb22
  replace o_t1 := o_t1.below hb22
  replace o_t2 := o_t2.below hb22
  have l_h : ∀ a, q_h = some a → w21.heap.size ≤ a.block ∧ a.block < w22.heap.size := o_h.lt
  clear o_t1 l_t1
  clear o_t2 l_t2
  go_wp2_with fail
  refine (eqF_any _ _ _ _ rs_h rs_w _ e_h o_h.rd o_w.rd (v_h.trans v_w.symm)).mono ?_
  rintro e w23 ⟨rfl, hb23⟩
  have z23 : w22.heap.size ≤ w23.heap.size := hb23.size
  have i23 := i22.step hb23
  replace o_w := o_w.below hb23
  replace o_g := o_g.below hb23
  replace o_h := o_h.below hb23
  go_wp2_with fail
  refine (held_at _ _ _ (1) _ (by omega) _ e_g (by omega) o_g.rd).mono ?_
  rintro e w24 ⟨rfl, hb24⟩
  have z24 : w23.heap.size ≤ w24.heap.size := hb24.size
  have i24 := i23.step hb24
  replace o_w := o_w.below hb24
  replace o_g := o_g.below hb24
  replace o_h := o_h.below hb24
  go_wp2
  go_ret
  exact ⟨rfl, i24.below⟩

set_option maxHeartbeats 1000000 in
theorem walk_out1 (W H : Int) (p1 : Option Addr) (c1 : Nat) (rs1 : List Nat) (p2 : Option Addr) (c2 : Nat) (rs2 : List Nat) (x3 : Int) (w : World)  (hn1 : 1048576 < rs1.length) (hm1 : rs1.length ≤ 9223372036854775807) :
    Calls Try.prog 14 #[.agg #[.int .i64 W, .int .i64 H], .slice p1 rs1.length c1, .slice p2 rs2.length c2, .int .i64 x3] w fun e w' => e = .returned (.bool true) ∧ Below w.heap.size w w' := by
  have i0 := Inv.start w W H
  go_enter Try.func14, Try.ntmps14
  go_wp2
  go_ret
  exact ⟨rfl, i0.below⟩

set_option maxHeartbeats 1000000 in
theorem walk_out2 (W H : Int) (p1 : Option Addr) (c1 : Nat) (rs1 : List Nat) (p2 : Option Addr) (c2 : Nat) (rs2 : List Nat) (x3 : Int) (w : World) (hn1 : rs1.length ≤ 1048576) (hn2 : 1048576 < rs2.length) (hm2 : rs2.length ≤ 9223372036854775807) :
    Calls Try.prog 14 #[.agg #[.int .i64 W, .int .i64 H], .slice p1 rs1.length c1, .slice p2 rs2.length c2, .int .i64 x3] w fun e w' => e = .returned (.bool true) ∧ Below w.heap.size w w' := by
  have i0 := Inv.start w W H
  go_enter Try.func14, Try.ntmps14
  go_wp2
  go_ret
  exact ⟨rfl, i0.below⟩

theorem walk (W H : Int) (_wW : (Lit.int .i64 W).wf = true) (_wH : (Lit.int .i64 H).wf = true) (p1 : Option Addr) (c1 : Nat) (rs1 : List Nat) (p2 : Option Addr) (c2 : Nat) (rs2 : List Nat) (x3 : Int) (wx3 : (Lit.int .i64 x3).wf = true) (w : World) (hr1 : Rd w p1 rs1) (hm1 : rs1.length ≤ 9223372036854775807) (hr2 : Rd w p2 rs2) (hm2 : rs2.length ≤ 9223372036854775807) :
    Calls Try.prog 14 #[.agg #[.int .i64 W, .int .i64 H], .slice p1 rs1.length c1, .slice p2 rs2.length c2, .int .i64 x3] w fun e w' => e = .returned (.bool true) ∧ Below w.heap.size w w' := by
  by_cases hn1 : rs1.length ≤ 1048576
  · skip
    by_cases hn2 : rs2.length ≤ 1048576
    · skip
      exact walk_of W H p1 c1 rs1 p2 c2 rs2 x3 wx3 w hr1 hn1 hr2 hn2
    · exact walk_out2 W H p1 c1 rs1 p2 c2 rs2 x3 w hn1 (by omega) hm2
  · exact walk_out1 W H p1 c1 rs1 p2 c2 rs2 x3 w  (by omega) hm1

/-! ### From the walk to the statement -/
set_option maxRecDepth 100000 in
theorem lifted (os : Os) (started : os.Started) (H : Type) (enc : TypeId × Value → H) :
    ReturnsInHanded {} Try.checked os 14 .any (Rows.fnExactTwoGridsSpec.pre6 enc Try.prog Try.f14 Rows.fnExactTwoGridsRow.domain false) (Rows.fnExactTwoGridsSpec.post enc Try.prog Try.f14 false true false false) := by
  refine returnsInHanded_of_change (C := Try.checked) own started (by kernel_rfl) Try.func14
    (ChangeSpec.witness6 (enc := enc) (C := Try.checked) false ⟨#[], #[.agg #[.int .i64 0, .int .i64 0], .slice none 0 0, .slice none 0 0, .int .i64 0], []⟩ 8 (by kernel_rfl) (by kernel_rfl) (by kernel_rfl) (by kernel_rfl)) ?_
  intro W base args ds gs before hval0 hW hcnd _
  have hval : ∀ (j : Nat) t v, Try.f14.params[j]? = some t → args[j]? = some v → Value.okWide Try.prog W .any base t v := hval0
  have hW' := hW
  obtain ⟨p, q, hA0, hV, rfl, hfz, hnd⟩ := hW
  have hA : DataW.TrodAll enc Try.prog W 0 (fun _ => true) true Try.f14.params.toList args.toList ds p := hA0
  rw [Try.params14] at hA hval
  obtain ⟨v0, vs0, d0, ds0, p0, q0, hargs, rfl, rfl, h0, r0⟩ := trodAll_cons hA
  obtain ⟨v1, vs1, d1, ds1, p1, q1, rfl, rfl, rfl, h1, r1⟩ := trodAll_cons r0
  obtain ⟨v2, vs2, d2, ds2, p2, q2, rfl, rfl, rfl, h2, r2⟩ := trodAll_cons r1
  obtain ⟨v3, vs3, d3, ds3, p3, q3, rfl, rfl, rfl, h3, r3⟩ := trodAll_cons r2
  obtain ⟨rfl, rfl, rfl⟩ := trodAll_nil r3
  obtain rfl : args = #[v0, v1, v2, v3] := by cases args; simp_all
  obtain ⟨rfl, rfl⟩ := trodVars_none hV
  obtain ⟨c0a, c0b, y0a, y0b, m0, rfl, _, _, hy0a, hy0b⟩ := open_agg2 Try.underlying23 (by kernel_rfl) cellsGrid (hval 0 23 v0 rfl rfl) h0
  obtain ⟨gW0, e0a, _, wW0⟩ := DataW.trod_int Try.underlying2 hy0a
  obtain ⟨gH0, e0b, _, wH0⟩ := DataW.trod_int Try.underlying2 hy0b
  simp only [List.cons.injEq, and_true] at e0a e0b
  subst e0a e0b
  obtain ⟨a1, c1, rs1, rfl, hr1, hm1⟩ := open_floats Try.underlying24 Try.underlying38 cellsF32 (hval 1 24 v1 rfl rfl) h1
  obtain ⟨a2, c2, rs2, rfl, hr2, hm2⟩ := open_floats Try.underlying24 Try.underlying38 cellsF32 (hval 2 24 v2 rfl rfl) h2
  obtain ⟨x3, rfl, _, _, wx3⟩ := open_int Try.underlying2 (hval 3 2 v3 rfl rfl) h3
  refine (walk gW0 gH0 wW0 wH0 a1 c1 rs1 a2 c2 rs2 x3 wx3 W hr1 hm1 hr2 hm2).mono fun e W' ⟨he, hb⟩ => ?_
  subst he
  exact ⟨_, rfl, law_post laid Try.underlying4 (by kernel_rfl) (by rw [Try.params14]; intro t ht; simp only [List.mem_cons, List.not_mem_nil, or_false] at ht; rcases ht with rfl | rfl | rfl | rfl <;> exact ⟨by kernel_rfl, of_decide_eq_true (by kernel_rfl)⟩) rfl rfl hW' hb⟩

/-- The statement. -/
theorem proved : Rows.FnExactTwoGridsSaid :=
  OpenClaim.holds_of_wide 14 Try.f14 rfl rfl rfl rfl rfl rfl rfl ⟨rfl, rfl, rfl, rfl, rfl⟩ rfl rfl rfl rfl rfl (by kernel_rfl) Try.func14 (by kernel_rfl)
    (of_decide_eq_true (by kernel_rfl)) (by unfold Func.isWrapper; first | (rw [if_pos (by decide +kernel)]; kernel_rfl) | (rw [if_neg (by decide +kernel)]; exact ⟨rfl, rfl⟩))
    (fun os started H enc _ => lifted os started H enc)
#print axioms proved

end Go.Proofs.Ytdafcgimkiepnaa.TwoL
