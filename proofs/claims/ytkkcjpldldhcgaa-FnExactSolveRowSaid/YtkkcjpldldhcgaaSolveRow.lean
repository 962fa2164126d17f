/-
  The law FnExactSolveRow returns true for every argument (the statement FnExactSolveRowSaid): the SolveRow of the program and that of the reference agree.
  Conditions: none beyond those of the given statement.
-/
import Derived.Test.YtkkcjpldldhcgaaRow
import Derived.Lib.Hide
namespace Go.Proofs.Ytkkcjpldldhcgaa.SolveRow
open Go Go.RowKit Go.ChangeShapes Go.WideShapes Go.ChangeAt Go.Joins Go.Proofs.Ytkkcjpldldhcgaa.Fl Go.Proofs.Ytkkcjpldldhcgaa.Reg Go.Proofs.Ytkkcjpldldhcgaa.Step Go.Proofs.Ytkkcjpldldhcgaa.Mem Go.Proofs.Ytkkcjpldldhcgaa.Same Go.Proofs.Ytkkcjpldldhcgaa.Help Go.Proofs.Ytkkcjpldldhcgaa.Grid Go.Proofs.Ytkkcjpldldhcgaa.App Go.Proofs.Ytkkcjpldldhcgaa.Level Go.Proofs.Ytkkcjpldldhcgaa.Law Go.Proofs.Ytkkcjpldldhcgaa.Row

def okR (a b c n : Nat) : Bool := decide (1 ≤ n ∧ n ≤ 256 ∧ a = n ∧ b = n ∧ c = n)
def outB (a b c n : Nat) (L M U R : List (Option Nat)) : Bool := okR a b c n && rowOk L M U R n
def outR (a b c n : Nat) (L M U R : List (Option Nat)) : List (Option Nat) := if outB a b c n L M U R = true then rowF L M U R n else []

set_option maxHeartbeats 1000000 in
theorem spec_bad (p0 p1 p2 p3 : Option Addr) (c0 c1 c2 c3 a b c n : Nat) (ha : a ≤ 1048576) (hb : b ≤ 1048576) (_hc : c ≤ 1048576) (hn : n ≤ 1048576) (w : World) (h : okR a b c n = false) :
    Calls Try.prog 24 #[.slice p0 a c0, .slice p1 b c1, .slice p2 c c2, .slice p3 n c3] w fun e w' => e = .returned (.tuple #[.slice none 0 0, .bool false]) ∧ Below w.heap.size w w' := by
  have h' : ¬ (1 ≤ n ∧ n ≤ 256 ∧ a = n ∧ b = n ∧ c = n) := by simpa [okR] using h
  clear h
  by_cases h1 : n < 1
  · obtain rfl : n = 0 := by omega
    clear h' h1
    go_enter Try.func24, Try.ntmps24
    go_wp2
    go_ret2
    exact ⟨rfl, Below.refl _ _⟩
  · by_cases h2 : 256 < n
    · clear h'
      go_enter Try.func24, Try.ntmps24
      go_wp2
      go_ret2
      exact ⟨rfl, Below.refl _ _⟩
    · by_cases h3 : a = n
      · by_cases h4 : b = n
        · subst h3 h4
          have e5 : ((c : Int) != (b : Int)) = true := by simp; omega
          clear h'
          go_enter Try.func24, Try.ntmps24
          go_wp2
          go_ret2
          exact ⟨rfl, Below.refl _ _⟩
        · subst h3
          have e5 : ((b : Int) != (a : Int)) = true := by simp; omega
          clear h'
          go_enter Try.func24, Try.ntmps24
          go_wp2
          go_ret2
          exact ⟨rfl, Below.refl _ _⟩
      · have e5 : ((a : Int) != (n : Int)) = true := by simp; omega
        clear h'
        go_enter Try.func24, Try.ntmps24
        go_wp2
        go_ret2
        exact ⟨rfl, Below.refl _ _⟩

set_option maxHeartbeats 1000000 in
theorem impl_bad (p0 p1 p2 p3 : Option Addr) (c0 c1 c2 c3 a b c n : Nat) (ha : a ≤ 1048576) (hb : b ≤ 1048576) (_hc : c ≤ 1048576) (hn : n ≤ 1048576) (w : World) (h : okR a b c n = false) :
    Calls Try.prog 25 #[.slice p0 a c0, .slice p1 b c1, .slice p2 c c2, .slice p3 n c3] w fun e w' => e = .returned (.tuple #[.slice none 0 0, .bool false]) ∧ Below w.heap.size w w' := by
  have h' : ¬ (1 ≤ n ∧ n ≤ 256 ∧ a = n ∧ b = n ∧ c = n) := by simpa [okR] using h
  clear h
  by_cases h1 : 1 ≤ n ∧ n ≤ 256
  · have hin : inB (n : Int) 1 256 = true := by simp [inB]; omega
    by_cases h3 : a = n
    · by_cases h4 : b = n
      · subst h3 h4
        have e5 : ((c : Int) != (b : Int)) = true := by simp; omega
        clear h' h1
        go_enter Try.func25, Try.ntmps25
        go_wp2_with (go_at_call 49; refine (within_any _ _ _ _).mono ?_; rintro e w' ⟨rfl, rfl⟩)
        go_ret2
        exact ⟨rfl, Below.refl _ _⟩
      · subst h3
        have e5 : ((b : Int) != (a : Int)) = true := by simp; omega
        clear h' h1
        go_enter Try.func25, Try.ntmps25
        go_wp2_with (go_at_call 49; refine (within_any _ _ _ _).mono ?_; rintro e w' ⟨rfl, rfl⟩)
        go_ret2
        exact ⟨rfl, Below.refl _ _⟩
    · have e5 : ((a : Int) != (n : Int)) = true := by simp; omega
      clear h' h1
      go_enter Try.func25, Try.ntmps25
      go_wp2_with (go_at_call 49; refine (within_any _ _ _ _).mono ?_; rintro e w' ⟨rfl, rfl⟩)
      go_ret2
      exact ⟨rfl, Below.refl _ _⟩
  · have hin : inB (n : Int) 1 256 = false := by simp [inB]; omega
    clear h' h1
    go_enter Try.func25, Try.ntmps25
    go_wp2_with (go_at_call 49; refine (within_any _ _ _ _).mono ?_; rintro e w' ⟨rfl, rfl⟩)
    go_ret2
    exact ⟨rfl, Below.refl _ _⟩

set_option maxHeartbeats 1000000 in
theorem spec_in (p0 p1 p2 p3 : Option Addr) (c0 c1 c2 c3 : Nat) (ls ms us rs : List Nat) (n : Nat) (L M U R : List (Option Nat)) (h0 : 0 < n) (h256 : n ≤ 256) (hl : ls.length = n) (hm : ms.length = n) (hu : us.length = n) (hr : rs.length = n)
    (eL : Hid (ls.map (vf .f32) = L)) (eM : Hid (ms.map (vf .f32) = M)) (eU : Hid (us.map (vf .f32) = U)) (eR : Hid (rs.map (vf .f32) = R)) (w : World) (rL : Rd w p0 ls) (rM : Rd w p1 ms) (rU : Rd w p2 us) (rR : Rd w p3 rs) :
    Calls Try.prog 24 #[.slice p0 n c0, .slice p1 n c1, .slice p2 n c2, .slice p3 n c3] w fun e w' => RowBack w w' e L M U R n := by
  have gl := Lib.hid hl
  have gm := Lib.hid hm
  have gu := Lib.hid hu
  have gr := Lib.hid hr
  clear hl hm hu hr
  go_enter Try.func24, Try.ntmps24
  go_wp2_with fail
  refine (l03Row_any p0 p1 p2 p3 c0 c1 c2 c3 ls ms us rs n L M U R h0 (by omega) gl.out gm.out gu.out gr.out eL eM eU eR _ rL rM rU rR).mono ?_
  rintro e w1 ⟨q, cap, rs', rfl, ho, hv, hn', hb⟩
  go_wp2
  go_ret2
  exact ⟨q, cap, rs', rfl, ho, hv, hn', hb⟩

theorem join {F : FuncId} (p0 p1 p2 p3 : Option Addr) (c0 c1 c2 c3 : Nat) (s0 s1 s2 s3 : List Nat) (w : World)
    (hbad : okR s0.length s1.length s2.length s3.length = false → Calls Try.prog F #[.slice p0 s0.length c0, .slice p1 s1.length c1, .slice p2 s2.length c2, .slice p3 s3.length c3] w fun e w' => e = .returned (.tuple #[.slice none 0 0, .bool false]) ∧ Below w.heap.size w w')
    (hgood : ∀ n, 0 < n → n ≤ 256 → s0.length = n → s1.length = n → s2.length = n → s3.length = n → Calls Try.prog F #[.slice p0 n c0, .slice p1 n c1, .slice p2 n c2, .slice p3 n c3] w fun e w' => RowBack w w' e (s0.map (vf .f32)) (s1.map (vf .f32)) (s2.map (vf .f32)) (s3.map (vf .f32)) n) :
    Calls Try.prog F #[.slice p0 s0.length c0, .slice p1 s1.length c1, .slice p2 s2.length c2, .slice p3 s3.length c3] w fun e w' => BackT w w' e (outB s0.length s1.length s2.length s3.length (s0.map (vf .f32)) (s1.map (vf .f32)) (s2.map (vf .f32)) (s3.map (vf .f32))) (outR s0.length s1.length s2.length s3.length (s0.map (vf .f32)) (s1.map (vf .f32)) (s2.map (vf .f32)) (s3.map (vf .f32))) := by
  cases h : okR s0.length s1.length s2.length s3.length
  · refine (hbad h).mono ?_
    rintro e w' ⟨rfl, hb⟩
    simpa [outR, outB, h] using BackT.none hb
  · have h' : 1 ≤ s3.length ∧ s3.length ≤ 256 ∧ s0.length = s3.length ∧ s1.length = s3.length ∧ s2.length = s3.length := by simpa [okR] using h
    have := hgood s3.length (by omega) h'.2.1 h'.2.2.1 h'.2.2.2.1 h'.2.2.2.2 rfl
    rw [← h'.2.2.1] at this
    rw [h'.2.2.2.1, h'.2.2.2.2, ← h'.2.2.1] at h ⊢
    refine this.mono ?_
    intro e w' hh
    simpa [RowBack, outR, outB, h] using hh

theorem spec_any (p0 : Option Addr) (c0 : Nat) (s0 : List Nat) (p1 : Option Addr) (c1 : Nat) (s1 : List Nat) (p2 : Option Addr) (c2 : Nat) (s2 : List Nat) (p3 : Option Addr) (c3 : Nat) (s3 : List Nat) {b0 b1 b2 b3 : Nat} (w : World)
    (hn0 : s0.length ≤ 1048576) (w0 : Ow w b0 p0 c0 s0) (hn1 : s1.length ≤ 1048576) (w1 : Ow w b1 p1 c1 s1) (hn2 : s2.length ≤ 1048576) (w2 : Ow w b2 p2 c2 s2) (hn3 : s3.length ≤ 1048576) (w3 : Ow w b3 p3 c3 s3) :
    Calls Try.prog 24 #[.slice p0 s0.length c0, .slice p1 s1.length c1, .slice p2 s2.length c2, .slice p3 s3.length c3] w fun e w' => BackT w w' e (outB s0.length s1.length s2.length s3.length (s0.map (vf .f32)) (s1.map (vf .f32)) (s2.map (vf .f32)) (s3.map (vf .f32))) (outR s0.length s1.length s2.length s3.length (s0.map (vf .f32)) (s1.map (vf .f32)) (s2.map (vf .f32)) (s3.map (vf .f32))) :=
  join p0 p1 p2 p3 c0 c1 c2 c3 s0 s1 s2 s3 w (spec_bad p0 p1 p2 p3 c0 c1 c2 c3 _ _ _ _ hn0 hn1 hn2 hn3 w)
    (fun n h1 h2 h3 h4 h5 h6 => spec_in p0 p1 p2 p3 c0 c1 c2 c3 s0 s1 s2 s3 n _ _ _ _ h1 h2 h3 h4 h5 h6 rfl rfl rfl rfl w w0.rd w1.rd w2.rd w3.rd)
theorem impl_any (p0 : Option Addr) (c0 : Nat) (s0 : List Nat) (p1 : Option Addr) (c1 : Nat) (s1 : List Nat) (p2 : Option Addr) (c2 : Nat) (s2 : List Nat) (p3 : Option Addr) (c3 : Nat) (s3 : List Nat) {b0 b1 b2 b3 : Nat} (w : World)
    (hn0 : s0.length ≤ 1048576) (w0 : Ow w b0 p0 c0 s0) (hn1 : s1.length ≤ 1048576) (w1 : Ow w b1 p1 c1 s1) (hn2 : s2.length ≤ 1048576) (w2 : Ow w b2 p2 c2 s2) (hn3 : s3.length ≤ 1048576) (w3 : Ow w b3 p3 c3 s3) :
    Calls Try.prog 25 #[.slice p0 s0.length c0, .slice p1 s1.length c1, .slice p2 s2.length c2, .slice p3 s3.length c3] w fun e w' => BackT w w' e (outB s0.length s1.length s2.length s3.length (s0.map (vf .f32)) (s1.map (vf .f32)) (s2.map (vf .f32)) (s3.map (vf .f32))) (outR s0.length s1.length s2.length s3.length (s0.map (vf .f32)) (s1.map (vf .f32)) (s2.map (vf .f32)) (s3.map (vf .f32))) :=
  join p0 p1 p2 p3 c0 c1 c2 c3 s0 s1 s2 s3 w (impl_bad p0 p1 p2 p3 c0 c1 c2 c3 _ _ _ _ hn0 hn1 hn2 hn3 w)
    (fun n h1 h2 h3 h4 h5 h6 => solveRow_in p0 p1 p2 p3 c0 c1 c2 c3 s0 s1 s2 s3 n _ _ _ _ h1 h2 h3 h4 h5 h6 rfl rfl rfl rfl w w0.rd w1.rd w2.rd w3.rd)
set_option maxHeartbeats 4000000 in
set_option maxRecDepth 100000 in
theorem walk_of (p0 : Option Addr) (c0 : Nat) (rs0 : List Nat) (p1 : Option Addr) (c1 : Nat) (rs1 : List Nat) (p2 : Option Addr) (c2 : Nat) (rs2 : List Nat) (p3 : Option Addr) (c3 : Nat) (rs3 : List Nat)  (w : World) (hr0 : Rd w p0 rs0) (hn0 : rs0.length ≤ 1048576) (hr1 : Rd w p1 rs1) (hn1 : rs1.length ≤ 1048576) (hr2 : Rd w p2 rs2) (hn2 : rs2.length ≤ 1048576) (hr3 : Rd w p3 rs3) (hn3 : rs3.length ≤ 1048576) :
    Calls Try.prog 7 #[.slice p0 rs0.length c0, .slice p1 rs1.length c1, .slice p2 rs2.length c2, .slice p3 rs3.length c3] w fun e w' => e = .returned (.bool true) ∧ Below w.heap.size w w' := by
  have i0 := Below.refl w.heap.size w
  go_enter Try.func7, Try.ntmps7
  go_wp2_with fail
  refine (toF_any p0 c0 rs0 _ hn0 (hr0.below i0)).mono ?_
  rintro e w1 ⟨q_t0, rfl, o_t0, hb1⟩
  have z1 : w.heap.size ≤ w1.heap.size := hb1.size
  have i1 := i0.trans (hb1.mono i0.size)
  have l_t0 : ∀ a, q_t0 = some a → w.heap.size ≤ a.block ∧ a.block < w1.heap.size := o_t0.lt
  go_wp2_with fail
  refine (toF_any p1 c1 rs1 _ hn1 (hr1.below i1)).mono ?_
  rintro e w2 ⟨q_t1, rfl, o_t1, hb2⟩
  have z2 : w1.heap.size ≤ w2.heap.size := hb2.size
  have i2 := i1.trans (hb2.mono i1.size)
  replace o_t0 := o_t0.below hb2
  have l_t1 : ∀ a, q_t1 = some a → w1.heap.size ≤ a.block ∧ a.block < w2.heap.size := o_t1.lt
  go_wp2_with fail
  refine (toF_any p2 c2 rs2 _ hn2 (hr2.below i2)).mono ?_
  rintro e w3 ⟨q_t2, rfl, o_t2, hb3⟩
  have z3 : w2.heap.size ≤ w3.heap.size := hb3.size
  have i3 := i2.trans (hb3.mono i2.size)
  replace o_t0 := o_t0.below hb3
  replace o_t1 := o_t1.below hb3
  have l_t2 : ∀ a, q_t2 = some a → w2.heap.size ≤ a.block ∧ a.block < w3.heap.size := o_t2.lt
  go_wp2_with fail
  refine (toF_any p3 c3 rs3 _ hn3 (hr3.below i3)).mono ?_
  rintro e w4 ⟨q_t3, rfl, o_t3, hb4⟩
  have z4 : w3.heap.size ≤ w4.heap.size := hb4.size
  have i4 := i3.trans (hb4.mono i3.size)
  replace o_t0 := o_t0.below hb4
  replace o_t1 := o_t1.below hb4
  replace o_t2 := o_t2.below hb4
  have l_t3 : ∀ a, q_t3 = some a → w3.heap.size ≤ a.block ∧ a.block < w4.heap.size := o_t3.lt
  go_wp2_with fail
  refine (spec_any _ _ rs0 _ _ rs1 _ _ rs2 _ _ rs3 _ hn0 o_t0 hn1 o_t1 hn2 o_t2 hn3 o_t3).mono ?_
  rintro e w5 ⟨q_w, d_w, rs_w, rfl, o_w, v_w, e_w, hb5⟩
  have z5 : w4.heap.size ≤ w5.heap.size := hb5.size
  have i5 := i4.trans (hb5.mono i4.size)
  replace o_t0 := o_t0.below hb5
  replace o_t1 := o_t1.below hb5
  replace o_t2 := o_t2.below hb5
  replace o_t3 := o_t3.below hb5
  have l_w : ∀ a, q_w = some a → w4.heap.size ≤ a.block ∧ a.block < w5.heap.size := o_w.lt
  clear o_t0 l_t0
  clear o_t1 l_t1
  clear o_t2 l_t2
  clear o_t3 l_t3
  go_wp2_with fail
  refine (toF_any p0 c0 rs0 _ hn0 (hr0.below i5)).mono ?_
  rintro e w6 ⟨q_x0, rfl, o_x0, hb6⟩
  have z6 : w5.heap.size ≤ w6.heap.size := hb6.size
  have i6 := i5.trans (hb6.mono i5.size)
  replace o_w := o_w.below hb6
  have l_x0 : ∀ a, q_x0 = some a → w5.heap.size ≤ a.block ∧ a.block < w6.heap.size := o_x0.lt
  go_wp2_with fail
  refine (toF_any p1 c1 rs1 _ hn1 (hr1.below i6)).mono ?_
  rintro e w7 ⟨q_x1, rfl, o_x1, hb7⟩
  have z7 : w6.heap.size ≤ w7.heap.size := hb7.size
  have i7 := i6.trans (hb7.mono i6.size)
  replace o_w := o_w.below hb7
  replace o_x0 := o_x0.below hb7
  have l_x1 : ∀ a, q_x1 = some a → w6.heap.size ≤ a.block ∧ a.block < w7.heap.size := o_x1.lt
  go_wp2_with fail
  refine (toF_any p2 c2 rs2 _ hn2 (hr2.below i7)).mono ?_
  rintro e w8 ⟨q_x2, rfl, o_x2, hb8⟩
  have z8 : w7.heap.size ≤ w8.heap.size := hb8.size
  have i8 := i7.trans (hb8.mono i7.size)
  replace o_w := o_w.below hb8
  replace o_x0 := o_x0.below hb8
  replace o_x1 := o_x1.below hb8
  have l_x2 : ∀ a, q_x2 = some a → w7.heap.size ≤ a.block ∧ a.block < w8.heap.size := o_x2.lt
  go_wp2_with fail
  refine (toF_any p3 c3 rs3 _ hn3 (hr3.below i8)).mono ?_
  rintro e w9 ⟨q_x3, rfl, o_x3, hb9⟩
  have z9 : w8.heap.size ≤ w9.heap.size := hb9.size
  have i9 := i8.trans (hb9.mono i8.size)
  replace o_w := o_w.below hb9
  replace o_x0 := o_x0.below hb9
  replace o_x1 := o_x1.below hb9
  replace o_x2 := o_x2.below hb9
  have l_x3 : ∀ a, q_x3 = some a → w8.heap.size ≤ a.block ∧ a.block < w9.heap.size := o_x3.lt
  go_wp2_with fail
  refine (impl_any _ _ rs0 _ _ rs1 _ _ rs2 _ _ rs3 _ hn0 o_x0 hn1 o_x1 hn2 o_x2 hn3 o_x3).mono ?_
  rintro e w10 ⟨q_g, d_g, rs_g, rfl, o_g, v_g, e_g, hb10⟩
  have z10 : w9.heap.size ≤ w10.heap.size := hb10.size
  have i10 := i9.trans (hb10.mono i9.size)
  replace o_w := o_w.below hb10
  replace o_x0 := o_x0.below hb10
  replace o_x1 := o_x1.below hb10
  replace o_x2 := o_x2.below hb10
  replace o_x3 := o_x3.below hb10
  have l_g : ∀ a, q_g = some a → w9.heap.size ≤ a.block ∧ a.block < w10.heap.size := o_g.lt
  go_wp2_with fail
  refine (eqF_any _ _ _ _ rs_g rs_w _ e_g o_g.rd o_w.rd (v_g.trans v_w.symm)).mono ?_
  rintro e w11 ⟨rfl, hb11⟩
  have z11 : w10.heap.size ≤ w11.heap.size := hb11.size
  have i11 := i10.trans (hb11.mono i10.size)
  replace o_w := o_w.below hb11
  replace o_x0 := o_x0.below hb11
  replace o_x1 := o_x1.below hb11
  replace o_x2 := o_x2.below hb11
  replace o_x3 := o_x3.below hb11
  replace o_g := o_g.below hb11
  go_wp2_with fail
  refine (toF_any p0 c0 rs0 _ hn0 (hr0.below i11)).mono ?_
  rintro e w12 ⟨q_u, rfl, o_u, hb12⟩
  have z12 : w11.heap.size ≤ w12.heap.size := hb12.size
  have i12 := i11.trans (hb12.mono i11.size)
  replace o_w := o_w.below hb12
  replace o_x0 := o_x0.below hb12
  replace o_x1 := o_x1.below hb12
  replace o_x2 := o_x2.below hb12
  replace o_x3 := o_x3.below hb12
  replace o_g := o_g.below hb12
  have l_u : ∀ a, q_u = some a → w11.heap.size ≤ a.block ∧ a.block < w12.heap.size := o_u.lt
  go_wp2_with fail
  refine (eqF_any _ _ _ _ rs0 rs0 _ hn0 o_x0.rd o_u.rd rfl).mono ?_
  rintro e w13 ⟨rfl, hb13⟩
  have z13 : w12.heap.size ≤ w13.heap.size := hb13.size
  have i13 := i12.trans (hb13.mono i12.size)
  replace o_w := o_w.below hb13
  replace o_x0 := o_x0.below hb13
  replace o_x1 := o_x1.below hb13
  replace o_x2 := o_x2.below hb13
  replace o_x3 := o_x3.below hb13
  replace o_g := o_g.below hb13
  replace o_u := o_u.below hb13
  clear o_u l_u
  go_wp2_with fail
  refine (toF_any p1 c1 rs1 _ hn1 (hr1.below i13)).mono ?_
  rintro e w14 ⟨q_u, rfl, o_u, hb14⟩
  have z14 : w13.heap.size ≤ w14.heap.size := hb14.size
  have i14 := i13.trans (hb14.mono i13.size)
  replace o_w := o_w.below hb14
  replace o_x0 := o_x0.below hb14
  replace o_x1 := o_x1.below hb14
  replace o_x2 := o_x2.below hb14
  replace o_x3 := o_x3.below hb14
  replace o_g := o_g.below hb14
  have l_u : ∀ a, q_u = some a → w13.heap.size ≤ a.block ∧ a.block < w14.heap.size := o_u.lt
  go_wp2_with fail
  refine (eqF_any _ _ _ _ rs1 rs1 _ hn1 o_x1.rd o_u.rd rfl).mono ?_
  rintro e w15 ⟨rfl, hb15⟩
  have z15 : w14.heap.size ≤ w15.heap.size := hb15.size
  have i15 := i14.trans (hb15.mono i14.size)
  replace o_w := o_w.below hb15
  replace o_x0 := o_x0.below hb15
  replace o_x1 := o_x1.below hb15
  replace o_x2 := o_x2.below hb15
  replace o_x3 := o_x3.below hb15
  replace o_g := o_g.below hb15
  replace o_u := o_u.below hb15
  clear o_u l_u
  go_wp2_with fail
  refine (toF_any p2 c2 rs2 _ hn2 (hr2.below i15)).mono ?_
  rintro e w16 ⟨q_u, rfl, o_u, hb16⟩
  have z16 : w15.heap.size ≤ w16.heap.size := hb16.size
  have i16 := i15.trans (hb16.mono i15.size)
  replace o_w := o_w.below hb16
  replace o_x0 := o_x0.below hb16
  replace o_x1 := o_x1.below hb16
  replace o_x2 := o_x2.below hb16
  replace o_x3 := o_x3.below hb16
  replace o_g := o_g.below hb16
  have l_u : ∀ a, q_u = some a → w15.heap.size ≤ a.block ∧ a.block < w16.heap.size := o_u.lt
  go_wp2_with fail
  refine (eqF_any _ _ _ _ rs2 rs2 _ hn2 o_x2.rd o_u.rd rfl).mono ?_
  rintro e w17 ⟨rfl, hb17⟩
  have z17 : w16.heap.size ≤ w17.heap.size := hb17.size
  have i17 := i16.trans (hb17.mono i16.size)
  replace o_w := o_w.below hb17
  replace o_x0 := o_x0.below hb17
  replace o_x1 := o_x1.below hb17
  replace o_x2 := o_x2.below hb17
  replace o_x3 := o_x3.below hb17
  replace o_g := o_g.below hb17
  replace o_u := o_u.below hb17
  clear o_u l_u
  go_wp2_with fail
  refine (toF_any p3 c3 rs3 _ hn3 (hr3.below i17)).mono ?_
  rintro e w18 ⟨q_u, rfl, o_u, hb18⟩
  have z18 : w17.heap.size ≤ w18.heap.size := hb18.size
  have i18 := i17.trans (hb18.mono i17.size)
  replace o_w := o_w.below hb18
  replace o_x0 := o_x0.below hb18
  replace o_x1 := o_x1.below hb18
  replace o_x2 := o_x2.below hb18
  replace o_x3 := o_x3.below hb18
  replace o_g := o_g.below hb18
  have l_u : ∀ a, q_u = some a → w17.heap.size ≤ a.block ∧ a.block < w18.heap.size := o_u.lt
  go_wp2_with fail
  refine (eqF_any _ _ _ _ rs3 rs3 _ hn3 o_x3.rd o_u.rd rfl).mono ?_
  rintro e w19 ⟨rfl, hb19⟩
  have z19 : w18.heap.size ≤ w19.heap.size := hb19.size
  have i19 := i18.trans (hb19.mono i18.size)
  replace o_w := o_w.below hb19
  replace o_x0 := o_x0.below hb19
  replace o_x1 := o_x1.below hb19
  replace o_x2 := o_x2.below hb19
  replace o_x3 := o_x3.below hb19
  replace o_g := o_g.below hb19
  replace o_u := o_u.below hb19
  clear o_u l_u
  go_wp2_with fail
  refine (mark_at _ _ _ _ (1) (by omega) _ _ hn0 (by omega) o_x0).mono ?_
  rintro e w20 ⟨rfl, o_x0', hg20⟩
  have z20 : w19.heap.size ≤ w20.heap.size := hg20.size
  have i20 := i19.trans (below_of_gb hg20 (fun a ha => by have h1 := l_x0 a ha; omega) i19.size)
  replace o_w := o_w.gb hg20 (sep l_w l_x0 (by omega))
  replace o_x1 := o_x1.gb hg20 (sep l_x1 l_x0 (by omega))
  replace o_x2 := o_x2.gb hg20 (sep l_x2 l_x0 (by omega))
  replace o_x3 := o_x3.gb hg20 (sep l_x3 l_x0 (by omega))
  replace o_g := o_g.gb hg20 (sep l_g l_x0 (by omega))
  clear o_x0
  have o_x0 := o_x0'
  clear o_x0'
  go_wp2_with fail
  refine (mark_at _ _ _ _ (1 + rs0.length) (by omega) _ _ hn1 (by omega) o_x1).mono ?_
  rintro e w21 ⟨rfl, o_x1', hg21⟩
  have z21 : w20.heap.size ≤ w21.heap.size := hg21.size
  have i21 := i20.trans (below_of_gb hg21 (fun a ha => by have h1 := l_x1 a ha; omega) i20.size)
  replace o_w := o_w.gb hg21 (sep l_w l_x1 (by omega))
  replace o_x0 := o_x0.gb hg21 (sep l_x0 l_x1 (by omega))
  replace o_x2 := o_x2.gb hg21 (sep l_x2 l_x1 (by omega))
  replace o_x3 := o_x3.gb hg21 (sep l_x3 l_x1 (by omega))
  replace o_g := o_g.gb hg21 (sep l_g l_x1 (by omega))
  clear o_x1
  have o_x1 := o_x1'
  clear o_x1'
  go_wp2_with fail
  refine (mark_at _ _ _ _ (1 + rs0.length + rs1.length) (by omega) _ _ hn2 (by omega) o_x2).mono ?_
  rintro e w22 ⟨rfl, o_x2', hg22⟩
  have z22 : w21.heap.size ≤ w22.heap.size := hg22.size
  have i22 := i21.trans (below_of_gb hg22 (fun a ha => by have h1 := l_x2 a ha; omega) i21.size)
  replace o_w := o_w.gb hg22 (sep l_w l_x2 (by omega))
  replace o_x0 := o_x0.gb hg22 (sep l_x0 l_x2 (by omega))
  replace o_x1 := o_x1.gb hg22 (sep l_x1 l_x2 (by omega))
  replace o_x3 := o_x3.gb hg22 (sep l_x3 l_x2 (by omega))
  replace o_g := o_g.gb hg22 (sep l_g l_x2 (by omega))
  clear o_x2
  have o_x2 := o_x2'
  clear o_x2'
  go_wp2_with fail
  refine (mark_at _ _ _ _ (1 + rs0.length + rs1.length + rs2.length) (by omega) _ _ hn3 (by omega) o_x3).mono ?_
  rintro e w23 ⟨rfl, o_x3', hg23⟩
  have z23 : w22.heap.size ≤ w23.heap.size := hg23.size
  have i23 := i22.trans (below_of_gb hg23 (fun a ha => by have h1 := l_x3 a ha; omega) i22.size)
  replace o_w := o_w.gb hg23 (sep l_w l_x3 (by omega))
  replace o_x0 := o_x0.gb hg23 (sep l_x0 l_x3 (by omega))
  replace o_x1 := o_x1.gb hg23 (sep l_x1 l_x3 (by omega))
  replace o_x2 := o_x2.gb hg23 (sep l_x2 l_x3 (by omega))
  replace o_g := o_g.gb hg23 (sep l_g l_x3 (by omega))
  clear o_x3
  have o_x3 := o_x3'
  clear o_x3'
  clear o_x0 l_x0
  clear o_x1 l_x1
  clear o_x2 l_x2
  clear o_x3 l_x3
  go_wp2_with fail
  refine (eqF_any _ _ _ _ rs_g rs_w _ e_g o_g.rd o_w.rd (v_g.trans v_w.symm)).mono ?_
  rintro e w24 ⟨rfl, hb24⟩
  have z24 : w23.heap.size ≤ w24.heap.size := hb24.size
  have i24 := i23.trans (hb24.mono i23.size)
  replace o_w := o_w.below hb24
  replace o_g := o_g.below hb24
  go_wp2_with fail
  refine (mark_at _ _ _ _ (1) (by omega) _ _ e_g (by omega) o_g).mono ?_
  rintro e w25 ⟨rfl, o_g', hg25⟩
  have z25 : w24.heap.size ≤ w25.heap.size := hg25.size
  have i25 := i24.trans (below_of_gb hg25 (fun a ha => by have h1 := l_g a ha; omega) i24.size)
  replace o_w := o_w.gb hg25 (sep l_w l_g (by omega))
  clear o_g
  have o_g := o_g'
  clear o_g'
  go_wp2_with fail
  refine (held_at _ _ _ (1) _ (by omega) _ e_g (by omega) o_g.rd).mono ?_
  rintro e w26 ⟨rfl, hb26⟩
  have z26 : w25.heap.size ≤ w26.heap.size := hb26.size
  have i26 := i25.trans (hb26.mono i25.size)
  replace o_w := o_w.below hb26
  replace o_g := o_g.below hb26
  go_wp2_with fail
  refine (toF_any p0 c0 rs0 _ hn0 (hr0.below i26)).mono ?_
  rintro e w27 ⟨q_t0, rfl, o_t0, hb27⟩
  have z27 : w26.heap.size ≤ w27.heap.size := hb27.size
  have i27 := i26.trans (hb27.mono i26.size)
  replace o_w := o_w.below hb27
  replace o_g := o_g.below hb27
  have l_t0 : ∀ a, q_t0 = some a → w26.heap.size ≤ a.block ∧ a.block < w27.heap.size := o_t0.lt
  go_wp2_with fail
  refine (toF_any p1 c1 rs1 _ hn1 (hr1.below i27)).mono ?_
  rintro e w28 ⟨q_t1, rfl, o_t1, hb28⟩
  have z28 : w27.heap.size ≤ w28.heap.size := hb28.size
  have i28 := i27.trans (hb28.mono i27.size)
  replace o_w := o_w.below hb28
  replace o_g := o_g.below hb28
  replace o_t0 := o_t0.below hb28
  have l_t1 : ∀ a, q_t1 = some a → w27.heap.size ≤ a.block ∧ a.block < w28.heap.size := o_t1.lt
  go_wp2_with fail
  refine (toF_any p2 c2 rs2 _ hn2 (hr2.below i28)).mono ?_
  rintro e w29 ⟨q_t2, rfl, o_t2, hb29⟩
  have z29 : w28.heap.size ≤ w29.heap.size := hb29.size
  have i29 := i28.trans (hb29.mono i28.size)
  replace o_w := o_w.below hb29
  replace o_g := o_g.below hb29
  replace o_t0 := o_t0.below hb29
  replace o_t1 := o_t1.below hb29
  have l_t2 : ∀ a, q_t2 = some a → w28.heap.size ≤ a.block ∧ a.block < w29.heap.size := o_t2.lt
  go_wp2_with fail
  refine (toF_any p3 c3 rs3 _ hn3 (hr3.below i29)).mono ?_
  rintro e w30 ⟨q_t3, rfl, o_t3, hb30⟩
  have z30 : w29.heap.size ≤ w30.heap.size := hb30.size
  have i30 := i29.trans (hb30.mono i29.size)
  replace o_w := o_w.below hb30
  replace o_g := o_g.below hb30
  replace o_t0 := o_t0.below hb30
  replace o_t1 := o_t1.below hb30
  replace o_t2 := o_t2.below hb30
  have l_t3 : ∀ a, q_t3 = some a → w29.heap.size ≤ a.block ∧ a.block < w30.heap.size := o_t3.lt
  go_wp2_with fail
  refine (impl_any _ _ rs0 _ _ rs1 _ _ rs2 _ _ rs3 _ hn0 o_t0 hn1 o_t1 hn2 o_t2 hn3 o_t3).mono ?_
  rintro e w31 ⟨q_h, d_h, rs_h, rfl, o_h, v_h, e_h, hb31⟩
  have z31 : w30.heap.size ≤ w31.heap.size := hb31.size
  have i31 := i30.trans (hb31.mono i30.size)
  replace o_w := o_w.below hb31
  replace o_g := o_g.below hb31
  replace o_t0 := o_t0.below hb31
  replace o_t1 := o_t1.below hb31
  replace o_t2 := o_t2.below hb31
  replace o_t3 := o_t3.below hb31
  have l_h : ∀ a, q_h = some a → w30.heap.size ≤ a.block ∧ a.block < w31.heap.size := o_h.lt
  clear o_t0 l_t0
  clear o_t1 l_t1
  clear o_t2 l_t2
  clear o_t3 l_t3
  go_wp2_with fail
  refine (eqF_any _ _ _ _ rs_h rs_w _ e_h o_h.rd o_w.rd (v_h.trans v_w.symm)).mono ?_
  rintro e w32 ⟨rfl, hb32⟩
  have z32 : w31.heap.size ≤ w32.heap.size := hb32.size
  have i32 := i31.trans (hb32.mono i31.size)
  replace o_w := o_w.below hb32
  replace o_g := o_g.below hb32
  replace o_h := o_h.below hb32
  go_wp2_with fail
  refine (held_at _ _ _ (1) _ (by omega) _ e_g (by omega) o_g.rd).mono ?_
  rintro e w33 ⟨rfl, hb33⟩
  have z33 : w32.heap.size ≤ w33.heap.size := hb33.size
  have i33 := i32.trans (hb33.mono i32.size)
  replace o_w := o_w.below hb33
  replace o_g := o_g.below hb33
  replace o_h := o_h.below hb33
  go_wp2
  go_ret
  exact ⟨rfl, i33⟩

set_option maxHeartbeats 1000000 in
theorem walk_out0 (p0 : Option Addr) (c0 : Nat) (rs0 : List Nat) (p1 : Option Addr) (c1 : Nat) (rs1 : List Nat) (p2 : Option Addr) (c2 : Nat) (rs2 : List Nat) (p3 : Option Addr) (c3 : Nat) (rs3 : List Nat) (w : World)  (hn0 : 1048576 < rs0.length) (hm0 : rs0.length ≤ 9223372036854775807) :
    Calls Try.prog 7 #[.slice p0 rs0.length c0, .slice p1 rs1.length c1, .slice p2 rs2.length c2, .slice p3 rs3.length c3] w fun e w' => e = .returned (.bool true) ∧ Below w.heap.size w w' := by
  have i0 := Below.refl w.heap.size w
  go_enter Try.func7, Try.ntmps7
  go_wp2
  go_ret
  exact ⟨rfl, i0⟩

set_option maxHeartbeats 1000000 in
theorem walk_out1 (p0 : Option Addr) (c0 : Nat) (rs0 : List Nat) (p1 : Option Addr) (c1 : Nat) (rs1 : List Nat) (p2 : Option Addr) (c2 : Nat) (rs2 : List Nat) (p3 : Option Addr) (c3 : Nat) (rs3 : List Nat) (w : World) (hn0 : rs0.length ≤ 1048576) (hn1 : 1048576 < rs1.length) (hm1 : rs1.length ≤ 9223372036854775807) :
    Calls Try.prog 7 #[.slice p0 rs0.length c0, .slice p1 rs1.length c1, .slice p2 rs2.length c2, .slice p3 rs3.length c3] w fun e w' => e = .returned (.bool true) ∧ Below w.heap.size w w' := by
  have i0 := Below.refl w.heap.size w
  go_enter Try.func7, Try.ntmps7
  go_wp2
  go_ret
  exact ⟨rfl, i0⟩

set_option maxHeartbeats 1000000 in
theorem walk_out2 (p0 : Option Addr) (c0 : Nat) (rs0 : List Nat) (p1 : Option Addr) (c1 : Nat) (rs1 : List Nat) (p2 : Option Addr) (c2 : Nat) (rs2 : List Nat) (p3 : Option Addr) (c3 : Nat) (rs3 : List Nat) (w : World) (hn0 : rs0.length ≤ 1048576) (hn1 : rs1.length ≤ 1048576) (hn2 : 1048576 < rs2.length) (hm2 : rs2.length ≤ 9223372036854775807) :
    Calls Try.prog 7 #[.slice p0 rs0.length c0, .slice p1 rs1.length c1, .slice p2 rs2.length c2, .slice p3 rs3.length c3] w fun e w' => e = .returned (.bool true) ∧ Below w.heap.size w w' := by
  have i0 := Below.refl w.heap.size w
  go_enter Try.func7, Try.ntmps7
  go_wp2
  go_ret
  exact ⟨rfl, i0⟩

set_option maxHeartbeats 1000000 in
theorem walk_out3 (p0 : Option Addr) (c0 : Nat) (rs0 : List Nat) (p1 : Option Addr) (c1 : Nat) (rs1 : List Nat) (p2 : Option Addr) (c2 : Nat) (rs2 : List Nat) (p3 : Option Addr) (c3 : Nat) (rs3 : List Nat) (w : World) (hn0 : rs0.length ≤ 1048576) (hn1 : rs1.length ≤ 1048576) (hn2 : rs2.length ≤ 1048576) (hn3 : 1048576 < rs3.length) (hm3 : rs3.length ≤ 9223372036854775807) :
    Calls Try.prog 7 #[.slice p0 rs0.length c0, .slice p1 rs1.length c1, .slice p2 rs2.length c2, .slice p3 rs3.length c3] w fun e w' => e = .returned (.bool true) ∧ Below w.heap.size w w' := by
  have i0 := Below.refl w.heap.size w
  go_enter Try.func7, Try.ntmps7
  go_wp2
  go_ret
  exact ⟨rfl, i0⟩

theorem walk (p0 : Option Addr) (c0 : Nat) (rs0 : List Nat) (p1 : Option Addr) (c1 : Nat) (rs1 : List Nat) (p2 : Option Addr) (c2 : Nat) (rs2 : List Nat) (p3 : Option Addr) (c3 : Nat) (rs3 : List Nat) (w : World) (hr0 : Rd w p0 rs0) (hm0 : rs0.length ≤ 9223372036854775807) (hr1 : Rd w p1 rs1) (hm1 : rs1.length ≤ 9223372036854775807) (hr2 : Rd w p2 rs2) (hm2 : rs2.length ≤ 9223372036854775807) (hr3 : Rd w p3 rs3) (hm3 : rs3.length ≤ 9223372036854775807) :
    Calls Try.prog 7 #[.slice p0 rs0.length c0, .slice p1 rs1.length c1, .slice p2 rs2.length c2, .slice p3 rs3.length c3] w fun e w' => e = .returned (.bool true) ∧ Below w.heap.size w w' := by
  by_cases hn0 : rs0.length ≤ 1048576
  · skip
    by_cases hn1 : rs1.length ≤ 1048576
    · skip
      by_cases hn2 : rs2.length ≤ 1048576
      · skip
        by_cases hn3 : rs3.length ≤ 1048576
        · skip
          exact walk_of p0 c0 rs0 p1 c1 rs1 p2 c2 rs2 p3 c3 rs3 w hr0 hn0 hr1 hn1 hr2 hn2 hr3 hn3
        · exact walk_out3 p0 c0 rs0 p1 c1 rs1 p2 c2 rs2 p3 c3 rs3 w hn0 hn1 hn2 (by omega) hm3
      · exact walk_out2 p0 c0 rs0 p1 c1 rs1 p2 c2 rs2 p3 c3 rs3 w hn0 hn1 (by omega) hm2
    · exact walk_out1 p0 c0 rs0 p1 c1 rs1 p2 c2 rs2 p3 c3 rs3 w hn0 (by omega) hm1
  · exact walk_out0 p0 c0 rs0 p1 c1 rs1 p2 c2 rs2 p3 c3 rs3 w  (by omega) hm0

/-! ### From the walk to the statement -/
set_option maxRecDepth 100000 in
theorem lifted (os : Os) (started : os.Started) (H : Type) (enc : TypeId × Value → H) :
    ReturnsInHanded {} Try.checked os 7 .any (Rows.fnExactSolveRowSpec.pre6 enc Try.prog Try.f7 Rows.fnExactSolveRowRow.domain false) (Rows.fnExactSolveRowSpec.post enc Try.prog Try.f7 false true false false) := by
  refine returnsInHanded_of_change (C := Try.checked) own started (by kernel_rfl) Try.func7
    (ChangeSpec.witness6 (enc := enc) (C := Try.checked) false ⟨#[], #[.slice none 0 0, .slice none 0 0, .slice none 0 0, .slice none 0 0], []⟩ 8 (by kernel_rfl) (by kernel_rfl) (by kernel_rfl) (by kernel_rfl)) ?_
  intro W base args ds gs before hval0 hW hcnd _
  have hval : ∀ (j : Nat) t v, Try.f7.params[j]? = some t → args[j]? = some v → Value.okWide Try.prog W .any base t v := hval0
  have hW' := hW
  obtain ⟨p, q, hA0, hV, rfl, hfz, hnd⟩ := hW
  have hA : DataW.TrodAll enc Try.prog W 0 (fun _ => true) true Try.f7.params.toList args.toList ds p := hA0
  rw [Try.params7] at hA hval
  obtain ⟨v0, vs0, d0, ds0, p0, q0, hargs, rfl, rfl, h0, r0⟩ := trodAll_cons hA
  obtain ⟨v1, vs1, d1, ds1, p1, q1, rfl, rfl, rfl, h1, r1⟩ := trodAll_cons r0
  obtain ⟨v2, vs2, d2, ds2, p2, q2, rfl, rfl, rfl, h2, r2⟩ := trodAll_cons r1
  obtain ⟨v3, vs3, d3, ds3, p3, q3, rfl, rfl, rfl, h3, r3⟩ := trodAll_cons r2
  obtain ⟨rfl, rfl, rfl⟩ := trodAll_nil r3
  obtain rfl : args = #[v0, v1, v2, v3] := by cases args; simp_all
  obtain ⟨rfl, rfl⟩ := trodVars_none hV
  obtain ⟨a0, c0, rs0, rfl, hr0, hm0⟩ := open_floats Try.underlying32 Try.underlying25 cellsF32 (hval 0 32 v0 rfl rfl) h0
  obtain ⟨a1, c1, rs1, rfl, hr1, hm1⟩ := open_floats Try.underlying32 Try.underlying25 cellsF32 (hval 1 32 v1 rfl rfl) h1
  obtain ⟨a2, c2, rs2, rfl, hr2, hm2⟩ := open_floats Try.underlying32 Try.underlying25 cellsF32 (hval 2 32 v2 rfl rfl) h2
  obtain ⟨a3, c3, rs3, rfl, hr3, hm3⟩ := open_floats Try.underlying32 Try.underlying25 cellsF32 (hval 3 32 v3 rfl rfl) h3
  refine (walk a0 c0 rs0 a1 c1 rs1 a2 c2 rs2 a3 c3 rs3 W hr0 hm0 hr1 hm1 hr2 hm2 hr3 hm3).mono fun e W' ⟨he, hb⟩ => ?_
  subst he
  exact ⟨_, rfl, law_post laid Try.underlying4 (by kernel_rfl) (by rw [Try.params7]; intro t ht; simp only [List.mem_cons, List.not_mem_nil, or_false] at ht; rcases ht with rfl | rfl | rfl | rfl <;> exact ⟨by kernel_rfl, of_decide_eq_true (by kernel_rfl)⟩) rfl rfl hW' hb⟩

/-- The statement. -/
theorem proved : Rows.FnExactSolveRowSaid :=
  OpenClaim.holds_of_wide 7 Try.f7 rfl rfl rfl rfl rfl rfl rfl ⟨rfl, rfl, rfl, rfl, rfl⟩ rfl rfl rfl rfl rfl (by kernel_rfl) Try.func7 (by kernel_rfl)
    (of_decide_eq_true (by kernel_rfl)) (by unfold Func.isWrapper; first | (rw [if_pos (by decide +kernel)]; kernel_rfl) | (rw [if_neg (by decide +kernel)]; exact ⟨rfl, rfl⟩))
    (fun os started H enc _ => lifted os started H enc)
#print axioms proved

end Go.Proofs.Ytkkcjpldldhcgaa.SolveRow
