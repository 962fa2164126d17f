/-
  Valid particles and clouds: contracts of the reference's and of the program's.
  Conditions: none.
-/
import Derived.Test.YtkkcjpldldhcgaaPart
import Derived.Test.YtkkcjpldldhcgaaSpring
namespace Go.Proofs.Ytkkcjpldldhcgaa.Pok
open Go Go.RowKit Go.Proofs.Ytkkcjpldldhcgaa.Fl Go.Proofs.Ytkkcjpldldhcgaa.Reg Go.Proofs.Ytkkcjpldldhcgaa.Step Go.Proofs.Ytkkcjpldldhcgaa.Mem Go.Proofs.Ytkkcjpldldhcgaa.Help Go.Proofs.Ytkkcjpldldhcgaa.Grid Go.Proofs.Ytkkcjpldldhcgaa.App Go.Proofs.Ytkkcjpldldhcgaa.Level Go.Proofs.Ytkkcjpldldhcgaa.Law Go.Proofs.Ytkkcjpldldhcgaa.Fin Go.Proofs.Ytkkcjpldldhcgaa.Spring Go.Proofs.Ytkkcjpldldhcgaa.Part

def cfin (a b : Nat) : Bool := finv .f32 (vf .f32 a) && finv .f32 (vf .f32 b)
def posB (m : Nat) : Bool := FloatKind.f32.format.order m 0 == some .gt
def okPa (p : Pa) : Bool := cfin p.xr p.xi && cfin p.vr p.vi && finv .f32 (vf .f32 p.q) && finv .f32 (vf .f32 p.m) && posB p.m

theorem l01CFinite_any (a b : Nat) (w : World) :
    Calls Try.prog 72 #[.complex .f32 a b] w fun e w' => e = .returned (.bool (cfin a b)) ∧ Below w.heap.size w w' := by
  unfold cfin
  cases h1 : finv .f32 (vf .f32 a)
  · go_enter Try.func72, Try.ntmps72
    go_wp2_with fail
    refine (l01Finite_any a _).mono ?_
    rw [h1]
    rintro e w1 ⟨rfl, hb1⟩
    clear h1
    go_wp2
    go_ret
    exact ⟨rfl, hb1⟩
  · go_enter Try.func72, Try.ntmps72
    go_wp2_with fail
    refine (l01Finite_any a _).mono ?_
    rw [h1]
    rintro e w1 ⟨rfl, hb1⟩
    clear h1
    go_wp2_with fail
    refine (l01Finite_any b _).mono ?_
    rintro e w2 ⟨rfl, hb2⟩
    go_wp2
    go_ret
    exact ⟨rfl, hb1.trans (hb2.mono hb1.size)⟩
theorem IsFiniteComplex_any (a b : Nat) (w : World) :
    Calls Try.prog 77 #[.complex .f32 a b] w fun e w' => e = .returned (.bool (cfin a b)) ∧ Below w.heap.size w w' := by
  unfold cfin
  cases h1 : finv .f32 (vf .f32 a)
  · go_enter Try.func77, Try.ntmps77
    go_wp2_with fail
    refine (IsFinite_any a _).mono ?_
    rw [h1]
    rintro e w1 ⟨rfl, hb1⟩
    clear h1
    go_wp2
    go_ret
    exact ⟨rfl, hb1⟩
  · go_enter Try.func77, Try.ntmps77
    go_wp2_with fail
    refine (IsFinite_any a _).mono ?_
    rw [h1]
    rintro e w1 ⟨rfl, hb1⟩
    clear h1
    go_wp2_with fail
    refine (IsFinite_any b _).mono ?_
    rintro e w2 ⟨rfl, hb2⟩
    go_wp2
    go_ret
    exact ⟨rfl, hb1.trans (hb2.mono hb1.size)⟩

set_option maxHeartbeats 400000 in
theorem l02Particle_any (b off : Nat) (p : Pa) (w : World) (hA : At w b off p) :
    Calls Try.prog 69 #[.pointer (some ⟨b, off, none⟩)] w fun e w' => e = .returned (.bool (okPa p)) ∧ Below w.heap.size w w' := by
  have nb : w.heap.size ≠ b := by have := hA.lt; omega
  obtain ⟨k0, k1, k2, k3⟩ := hA
  have hA0 : At w b off p := ⟨k0, k1, k2, k3⟩
  obtain ⟨xr, xi, vr, vi, q, m⟩ := p
  unfold okPa
  dsimp only at k0 k1 k2 k3 ⊢
  cases h1 : cfin xr xi
  · go_enter Try.func69, Try.ntmps69
    go_wp2_with fail
    refine (l01CFinite_any xr xi _).mono ?_
    rw [h1]
    rintro e w1 ⟨rfl, hb1⟩
    clear h1
    go_wp2
    go_ret
    exact ⟨rfl, hb1⟩
  cases h2 : cfin vr vi
  · go_enter Try.func69, Try.ntmps69
    go_wp2_with fail
    refine (l01CFinite_any xr xi _).mono ?_
    rw [h1]
    rintro e w1 ⟨rfl, hb1⟩
    clear h1 k0 k1 k2 k3
    obtain ⟨k0, k1, k2, k3⟩ := hA0.below hb1
    go_wp2_with fail
    refine (l01CFinite_any vr vi _).mono ?_
    rw [h2]
    rintro e w2 ⟨rfl, hb2⟩
    clear h2 k0 k1 k2 k3
    go_wp2
    go_ret
    exact ⟨rfl, hb1.trans (hb2.mono hb1.size)⟩
  cases h3 : finv .f32 (vf .f32 q)
  · go_enter Try.func69, Try.ntmps69
    go_wp2_with fail
    refine (l01CFinite_any xr xi _).mono ?_
    rw [h1]
    rintro e w1 ⟨rfl, hb1⟩
    clear h1 k0 k1 k2 k3
    obtain ⟨k0, k1, k2, k3⟩ := hA0.below hb1
    go_wp2_with fail
    refine (l01CFinite_any vr vi _).mono ?_
    rw [h2]
    rintro e w2 ⟨rfl, hb2⟩
    have hb := hb1.trans (hb2.mono hb1.size)
    clear h2 k0 k1 k2 k3
    obtain ⟨k0, k1, k2, k3⟩ := hA0.below hb
    go_wp2_with fail
    refine (l01Finite_any q _).mono ?_
    rw [h3]
    rintro e w3 ⟨rfl, hb3⟩
    clear h3 k0 k1 k2 k3
    go_wp2
    go_ret
    exact ⟨rfl, hb.trans (hb3.mono hb.size)⟩
  cases h4 : finv .f32 (vf .f32 m)
  · go_enter Try.func69, Try.ntmps69
    go_wp2_with fail
    refine (l01CFinite_any xr xi _).mono ?_
    rw [h1]
    rintro e w1 ⟨rfl, hb1⟩
    clear h1 k0 k1 k2 k3
    obtain ⟨k0, k1, k2, k3⟩ := hA0.below hb1
    go_wp2_with fail
    refine (l01CFinite_any vr vi _).mono ?_
    rw [h2]
    rintro e w2 ⟨rfl, hb2⟩
    have hb := hb1.trans (hb2.mono hb1.size)
    clear h2 k0 k1 k2 k3
    obtain ⟨k0, k1, k2, k3⟩ := hA0.below hb
    go_wp2_with fail
    refine (l01Finite_any q _).mono ?_
    rw [h3]
    rintro e w3 ⟨rfl, hb3⟩
    have hb' := hb.trans (hb3.mono hb.size)
    clear h3 k0 k1 k2 k3
    obtain ⟨k0, k1, k2, k3⟩ := hA0.below hb'
    go_wp2_with fail
    refine (l01Finite_any m _).mono ?_
    rw [h4]
    rintro e w4 ⟨rfl, hb4⟩
    clear h4 k0 k1 k2 k3
    go_wp2
    go_ret
    exact ⟨rfl, hb'.trans (hb4.mono hb'.size)⟩
  · go_enter Try.func69, Try.ntmps69
    go_wp2_with fail
    refine (l01CFinite_any xr xi _).mono ?_
    rw [h1]
    rintro e w1 ⟨rfl, hb1⟩
    clear h1 k0 k1 k2 k3
    obtain ⟨k0, k1, k2, k3⟩ := hA0.below hb1
    go_wp2_with fail
    refine (l01CFinite_any vr vi _).mono ?_
    rw [h2]
    rintro e w2 ⟨rfl, hb2⟩
    have hb := hb1.trans (hb2.mono hb1.size)
    clear h2 k0 k1 k2 k3
    obtain ⟨k0, k1, k2, k3⟩ := hA0.below hb
    go_wp2_with fail
    refine (l01Finite_any q _).mono ?_
    rw [h3]
    rintro e w3 ⟨rfl, hb3⟩
    have hb' := hb.trans (hb3.mono hb.size)
    clear h3 k0 k1 k2 k3
    obtain ⟨k0, k1, k2, k3⟩ := hA0.below hb'
    go_wp2_with fail
    refine (l01Finite_any m _).mono ?_
    rw [h4]
    rintro e w4 ⟨rfl, hb4⟩
    have hb'' := hb'.trans (hb4.mono hb'.size)
    clear h4 k0 k1 k2 k3
    obtain ⟨k0, k1, k2, k3⟩ := hA0.below hb''
    go_wp2
    go_ret
    exact ⟨rfl, hb''⟩

theorem Rd.two (w : World) (x y : Nat) : Rd (w.alloc (.cells #[.float .f32 x, .float .f32 y] 25)) (some ⟨w.heap.size, 0, none⟩) [x, y] := by
  refine Or.inr ⟨w.heap.size, 0, rfl, fun i hi => ?_⟩
  have : i = 0 ∨ i = 1 := by simp at hi; omega
  rcases this with rfl | rfl <;> simp
theorem two_all (x y : Nat) : (([x, y] : List Nat).map (vf .f32)).all (finv .f32) = (finv .f32 (vf .f32 x) && finv .f32 (vf .f32 y)) := by simp

set_option maxHeartbeats 400000 in
theorem ValidParticle_any (xr xi vr vi q m : Nat) (w : World) :
    Calls Try.prog 75 #[.agg #[.complex .f32 xr xi, .complex .f32 vr vi, .float .f32 q, .float .f32 m]] w fun e w' => e = .returned (.bool (okPa ⟨xr, xi, vr, vi, q, m⟩)) ∧ Below w.heap.size w w' := by
  have bA : Below w.heap.size w (w.alloc (.cells #[.complex .f32 xr xi, .complex .f32 vr vi, .float .f32 q, .float .f32 m] 70)) := (Below.refl _ _).alloc (Nat.le_refl _) _
  have hA : At (w.alloc (.cells #[.complex .f32 xr xi, .complex .f32 vr vi, .float .f32 q, .float .f32 m] 70)) w.heap.size 0 ⟨xr, xi, vr, vi, q, m⟩ := ⟨by simp, by simp, by simp, by simp⟩
  unfold okPa
  dsimp only
  cases h1 : cfin xr xi
  · go_enter Try.func75, Try.ntmps75
    go_wp2_with fail
    refine (IsFiniteComplex_any xr xi _).mono ?_
    rw [h1]
    rintro e w1 ⟨rfl, hb1⟩
    have b1 := bA.trans (hb1.mono bA.size)
    clear h1
    go_wp2
    go_ret
    exact ⟨rfl, b1⟩
  cases h2 : cfin vr vi
  · go_enter Try.func75, Try.ntmps75
    go_wp2_with fail
    refine (IsFiniteComplex_any xr xi _).mono ?_
    rw [h1]
    rintro e w1 ⟨rfl, hb1⟩
    have b1 := bA.trans (hb1.mono bA.size)
    clear h1
    obtain ⟨k0, k1, k2, k3⟩ := hA.below hb1
    go_wp2_with fail
    refine (IsFiniteComplex_any vr vi _).mono ?_
    rw [h2]
    rintro e w2 ⟨rfl, hb2⟩
    have b2 := b1.trans (hb2.mono b1.size)
    clear h2 k0 k1 k2 k3
    go_wp2
    go_ret
    exact ⟨rfl, b2⟩
  rw [Bool.and_assoc (true && true)]
  cases h3 : (finv .f32 (vf .f32 q) && finv .f32 (vf .f32 m))
  · go_enter Try.func75, Try.ntmps75
    go_wp2_with fail
    refine (IsFiniteComplex_any xr xi _).mono ?_
    rw [h1]
    rintro e w1 ⟨rfl, hb1⟩
    have b1 := bA.trans (hb1.mono bA.size)
    clear h1
    obtain ⟨k0, k1, k2, k3⟩ := hA.below hb1
    go_wp2_with fail
    refine (IsFiniteComplex_any vr vi _).mono ?_
    rw [h2]
    rintro e w2 ⟨rfl, hb2⟩
    have b2 := b1.trans (hb2.mono b1.size)
    clear h2 k0 k1 k2 k3
    have hA2 := (hA.below hb1).below hb2
    have hA3 := hA2
    obtain ⟨k0, k1, k2, k3⟩ := hA3
    have bT := (Below.refl w2.heap.size w2).alloc (Nat.le_refl _) (.cells #[.float .f32 q, .float .f32 m] 25)
    go_wp2_with fail
    refine (areFinite_any _ _ [q, m] 2 rfl (by omega) _ (Rd.two w2 q m)).mono ?_
    rw [two_all, h3]
    rintro e w3 ⟨rfl, hb3⟩
    have b23 := bT.trans (hb3.mono (by simp))
    have b3 := b2.trans (b23.mono b2.size)
    clear h3 k0 k1 k2 k3
    go_wp2
    go_ret
    exact ⟨rfl, b3⟩
  · go_enter Try.func75, Try.ntmps75
    go_wp2_with fail
    refine (IsFiniteComplex_any xr xi _).mono ?_
    rw [h1]
    rintro e w1 ⟨rfl, hb1⟩
    have b1 := bA.trans (hb1.mono bA.size)
    clear h1
    obtain ⟨k0, k1, k2, k3⟩ := hA.below hb1
    go_wp2_with fail
    refine (IsFiniteComplex_any vr vi _).mono ?_
    rw [h2]
    rintro e w2 ⟨rfl, hb2⟩
    have b2 := b1.trans (hb2.mono b1.size)
    clear h2 k0 k1 k2 k3
    have hA2 := (hA.below hb1).below hb2
    have hA3 := hA2
    obtain ⟨k0, k1, k2, k3⟩ := hA3
    have bT := (Below.refl w2.heap.size w2).alloc (Nat.le_refl _) (.cells #[.float .f32 q, .float .f32 m] 25)
    go_wp2_with fail
    refine (areFinite_any _ _ [q, m] 2 rfl (by omega) _ (Rd.two w2 q m)).mono ?_
    rw [two_all, h3]
    rintro e w3 ⟨rfl, hb3⟩
    have b23 := bT.trans (hb3.mono (by simp))
    have b3 := b2.trans (b23.mono b2.size)
    clear h3 k0 k1 k2 k3
    obtain ⟨k0, k1, k2, k3⟩ := hA2.below b23
    go_wp2
    go_ret
    exact ⟨rfl, b3⟩

theorem notValid_any (xr xi vr vi q m : Nat) (w : World) :
    Calls Try.prog 74 #[.agg #[.complex .f32 xr xi, .complex .f32 vr vi, .float .f32 q, .float .f32 m]] w fun e w' => e = .returned (.bool (!okPa ⟨xr, xi, vr, vi, q, m⟩)) ∧ Below w.heap.size w w' := by
  have bA : Below w.heap.size w (w.alloc (.cells #[.complex .f32 xr xi, .complex .f32 vr vi, .float .f32 q, .float .f32 m] 70)) := (Below.refl _ _).alloc (Nat.le_refl _) _
  go_enter Try.func74, Try.ntmps74
  go_wp2_with fail
  refine (ValidParticle_any xr xi vr vi q m _).mono ?_
  rintro e w1 ⟨rfl, hb1⟩
  go_wp2
  go_ret
  exact ⟨rfl, bA.trans (hb1.mono bA.size)⟩


/-- The first k particles are valid. -/
def OkTo (ps : List Pa) (k : Nat) : Prop := ∀ j, j < k → okPa (ps.getD j pz) = true
theorem OkTo.succ {ps : List Pa} {k : Nat} (h : OkTo ps k) (h2 : okPa (ps.getD k pz) = true) : OkTo ps (k + 1) := by
  intro j hj
  by_cases e : j = k
  · rw [e]; exact h2
  · exact h j (by omega)
theorem OkTo.all {ps : List Pa} (h : OkTo ps ps.length) : ps.all okPa = true := by
  refine List.all_eq_true.2 fun x hx => ?_
  obtain ⟨j, hj, rfl⟩ := List.mem_iff_getElem.1 hx
  have := h j hj
  rwa [List.getD, List.getElem?_eq_getElem hj, Option.getD_some] at this
theorem not_all {ps : List Pa} {k : Nat} (hk : k < ps.length) (h : okPa (ps.getD k pz) = false) : ps.all okPa = false := by
  rw [Bool.eq_false_iff]
  intro h2
  have := List.all_eq_true.1 h2 _ (List.getElem_mem hk)
  rw [List.getD, List.getElem?_eq_getElem hk, Option.getD_some, this] at h
  cases h

set_option maxHeartbeats 400000 in
theorem IndexFunc_any (a : Option Addr) (c : Nat) (ps : List Pa) (n : Nat) (hl : Hid (ps.length = n)) (hn : n ≤ 1048576) (w : World) (hr : PRd w a ps) :
    Calls Try.prog 76 #[.slice a n c, .func (.func 74) #[] #[]] w fun e w' => ∃ r : Int, e = .returned (.int .i64 r) ∧ decide (0 ≤ r) = (!(ps.all okPa)) ∧ Below w.heap.size w w' := by
  go_enter Try.func76, Try.ntmps76
  go_wp2
  go_loopw [8] (fun i wr => ∃ k : Nat, k ≤ n ∧ i = .int .i64 k ∧ OkTo ps k ∧ Below w.heap.size w wr) (fun i _ => n - (intOf i).toNat)
  case atStart => exact ⟨0, Nat.zero_le _, rfl, fun j h => by omega, Below.refl _ _⟩
  case round =>
    obtain ⟨k, hk, rfl, hf, hb⟩ := hrel
    by_cases hlt : k < n
    · obtain ⟨b, off, rfl, hc⟩ := (hr.below hb).at (i := k) (by rw [hl.out]; exact hlt)
      have hA := hc k (by rw [hl.out]; exact hlt)
      clear hc
      obtain ⟨p, hp⟩ : ∃ p, p = ps.getD k pz := ⟨_, rfl⟩
      have hP : Hid (p = ps.getD k pz) := hp
      rw [← hp] at hA
      clear hp
      obtain ⟨xr, xi, vr, vi, q, m⟩ := p
      obtain ⟨k0, k1, k2, k3⟩ := hA
      dsimp only at k0 k1 k2 k3
      go_wp2_with fail
      refine (notValid_any xr xi vr vi q m _).mono ?_
      cases hz : okPa ⟨xr, xi, vr, vi, q, m⟩
      · rintro e w1 ⟨rfl, hb1⟩
        clear k0 k1 k2 k3
        go_wp2
        go_ret
        refine ⟨_, rfl, ?_, hb.trans (hb1.mono hb.size)⟩
        rw [not_all (k := k) (by rw [hl.out]; exact hlt) (by rw [← hP.out]; exact hz)]
        simp
      · rintro e w1 ⟨rfl, hb1⟩
        have hf2 : OkTo ps (k + 1) := hf.succ (by rw [← hP.out]; exact hz)
        clear hz k0 k1 k2 k3
        go_wp2
        go_roundw
        case rel => exact ⟨k + 1, by omega, by go_num, hf2, hb.trans (hb1.mono hb.size)⟩
        case measure => simp [intOf]; omega
    · obtain rfl : k = n := by omega
      go_wp2
      go_ret
      refine ⟨_, rfl, ?_, hb⟩
      rw [OkTo.all (by rw [hl.out]; exact hf)]
      rfl
theorem ContainsFunc_any (a : Option Addr) (c : Nat) (ps : List Pa) (n : Nat) (hl : Hid (ps.length = n)) (hn : n ≤ 1048576) (w : World) (hr : PRd w a ps) :
    Calls Try.prog 73 #[.slice a n c, .func (.func 74) #[] #[]] w fun e w' => e = .returned (.bool (!(ps.all okPa))) ∧ Below w.heap.size w w' := by
  go_enter Try.func73, Try.ntmps73
  go_wp2_with fail
  refine (IndexFunc_any a c ps n hl hn _ hr).mono ?_
  rintro e w1 ⟨r, rfl, hr1, hb1⟩
  have hr2 : Hid (decide (0 ≤ r) = (!(ps.all okPa))) := hr1
  clear hr1
  go_wp2
  go_ret
  refine ⟨?_, hb1⟩
  rw [← hr2.out]
  rfl
theorem AreParticles_any (a : Option Addr) (c : Nat) (ps : List Pa) (n : Nat) (hl : Hid (ps.length = n)) (hn : n ≤ 48) (w : World) (hr : PRd w a ps) :
    Calls Try.prog 70 #[.slice a n c] w fun e w' => e = .returned (.bool (ps.all okPa)) ∧ Below w.heap.size w w' := by
  go_enter Try.func70, Try.ntmps70
  go_wp2_with fail
  refine (ContainsFunc_any a c ps n hl (by omega) _ hr).mono ?_
  rintro e w1 ⟨rfl, hb1⟩
  go_wp2
  go_ret
  exact ⟨by simp, hb1⟩

/-- A cloud in its box. -/
def Bc (w : World) (g : Nat) (W H : Int) (v : Value) (mg bk : Nat) : Prop :=
  w.cell? ⟨g, 0, none⟩ = some (.int .i64 W) ∧ w.cell? ⟨g, 1, none⟩ = some (.int .i64 H) ∧ w.cell? ⟨g, 2, none⟩ = some v ∧ w.cell? ⟨g, 3, none⟩ = some (.float .f32 mg) ∧ w.cell? ⟨g, 4, none⟩ = some (.float .f32 bk)
theorem Bc.lt {w : World} {g : Nat} {W H : Int} {v : Value} {mg bk : Nat} (h : Bc w g W H v mg bk) : g < w.heap.size := World.block_lt_of_cell? w _ h.1
theorem Bc.below {w w' : World} {g : Nat} {W H : Int} {v : Value} {mg bk : Nat} (h : Bc w g W H v mg bk) (hb : Below w.heap.size w w') : Bc w' g W H v mg bk :=
  ⟨(hb.cell (p := ⟨g, 0, none⟩) h.lt).trans h.1, (hb.cell (p := ⟨g, 1, none⟩) h.lt).trans h.2.1, (hb.cell (p := ⟨g, 2, none⟩) h.lt).trans h.2.2.1, (hb.cell (p := ⟨g, 3, none⟩) h.lt).trans h.2.2.2.1, (hb.cell (p := ⟨g, 4, none⟩) h.lt).trans h.2.2.2.2⟩
theorem Bc.new (w : World) (W H : Int) (v : Value) (mg bk : Nat) (t : TypeId) : Bc (w.alloc (.cells #[.int .i64 W, .int .i64 H, v, .float .f32 mg, .float .f32 bk] t)) w.heap.size W H v mg bk :=
  ⟨by simp, by simp, by simp, by simp, by simp⟩

def okCl (W H : Int) (ps : List Pa) (mg bk : Nat) : Bool := vgB W H && finv .f32 (vf .f32 mg) && finv .f32 (vf .f32 bk) && ps.all okPa

set_option maxHeartbeats 800000 in
theorem l05Is_any (g : Nat) (W H : Int) (a : Option Addr) (c : Nat) (ps : List Pa) (mg bk n : Nat) (hl : Hid (ps.length = n)) (hn : n ≤ 48) (w : World) (hB : Bc w g W H (.slice a n c) mg bk) (hr : PRd w a ps) :
    Calls Try.prog 64 #[.pointer (some ⟨g, 0, none⟩)] w fun e w' => e = .returned (.bool (okCl W H ps mg bk)) ∧ Below w.heap.size w w' := by
  have hB0 := hB
  obtain ⟨k0, k1, k2, k3, k4⟩ := hB
  unfold okCl
  cases h1 : vgB W H
  · go_enter Try.func64, Try.ntmps64
    go_wp2_with fail
    refine (l02Is_any g W H _ k0 k1).mono ?_
    rw [h1]
    rintro e w1 ⟨rfl, rfl⟩
    clear h1
    go_wp2
    go_ret
    exact ⟨rfl, Below.refl _ _⟩
  cases h2 : finv .f32 (vf .f32 mg)
  · go_enter Try.func64, Try.ntmps64
    go_wp2_with fail
    refine (l02Is_any g W H _ k0 k1).mono ?_
    rw [h1]
    rintro e w1 ⟨rfl, rfl⟩
    clear h1
    go_wp2_with fail
    refine (l01Finite_any mg _).mono ?_
    rw [h2]
    rintro e w2 ⟨rfl, hb2⟩
    clear h2 k0 k1 k2 k3 k4
    go_wp2
    go_ret
    exact ⟨rfl, hb2⟩
  cases h3 : finv .f32 (vf .f32 bk)
  · go_enter Try.func64, Try.ntmps64
    go_wp2_with fail
    refine (l02Is_any g W H _ k0 k1).mono ?_
    rw [h1]
    rintro e w1 ⟨rfl, rfl⟩
    clear h1
    go_wp2_with fail
    refine (l01Finite_any mg _).mono ?_
    rw [h2]
    rintro e w2 ⟨rfl, hb2⟩
    clear h2 k0 k1 k2 k3 k4
    obtain ⟨k0, k1, k2, k3, k4⟩ := hB0.below hb2
    go_wp2_with fail
    refine (l01Finite_any bk _).mono ?_
    rw [h3]
    rintro e w3 ⟨rfl, hb3⟩
    clear h3 k0 k1 k2 k3 k4
    go_wp2
    go_ret
    exact ⟨rfl, hb2.trans (hb3.mono hb2.size)⟩
  · go_enter Try.func64, Try.ntmps64
    go_wp2_with fail
    refine (l02Is_any g W H _ k0 k1).mono ?_
    rw [h1]
    rintro e w1 ⟨rfl, rfl⟩
    clear h1
    go_wp2_with fail
    refine (l01Finite_any mg _).mono ?_
    rw [h2]
    rintro e w2 ⟨rfl, hb2⟩
    clear h2 k0 k1 k2 k3 k4
    obtain ⟨k0, k1, k2, k3, k4⟩ := hB0.below hb2
    go_wp2_with fail
    refine (l01Finite_any bk _).mono ?_
    rw [h3]
    rintro e w3 ⟨rfl, hb3⟩
    have hb4 := hb2.trans (hb3.mono hb2.size)
    clear h3 k0 k1 k2 k3 k4
    obtain ⟨k0, k1, k2, k3, k4⟩ := hB0.below hb4
    go_wp2
    clear k0 k1 k2 k3 k4
    go_loopw [38] (fun i wr => ∃ k : Nat, k ≤ n ∧ i = .int .i64 k ∧ OkTo ps k ∧ Below w.heap.size w wr) (fun i _ => n - (intOf i).toNat)
    case atStart => exact ⟨0, Nat.zero_le _, rfl, fun j h => by omega, hb4⟩
    case round =>
      obtain ⟨k, hk, rfl, hf, hb⟩ := hrel
      by_cases hlt : k < n
      · obtain ⟨b, off, rfl, hc⟩ := (hr.below hb).at (i := k) (by rw [hl.out]; exact hlt)
        have hA := hc k (by rw [hl.out]; exact hlt)
        clear hc
        obtain ⟨p, hp⟩ : ∃ p, p = ps.getD k pz := ⟨_, rfl⟩
        have hP : Hid (p = ps.getD k pz) := hp
        rw [← hp] at hA
        clear hp
        obtain ⟨k0, k1, k2, k3, k4⟩ := hB0.below hb
        go_wp2_with fail
        refine (l02Particle_any b _ p _ hA).mono ?_
        cases hz : okPa p
        · rintro e w1 ⟨rfl, hb1⟩
          have FF : Hid (ps.all okPa = false) := not_all (k := k) (by rw [hl.out]; exact hlt) (by rw [← hP.out]; exact hz)
          clear hz k0 k1 k2 k3 k4 hA
          go_wp2
          go_ret
          rw [FF.out]
          exact ⟨rfl, hb.trans (hb1.mono hb.size)⟩
        · rintro e w1 ⟨rfl, hb1⟩
          have hf2 : OkTo ps (k + 1) := hf.succ (by rw [← hP.out]; exact hz)
          clear hz k0 k1 k2 k3 k4 hA
          go_wp2
          go_roundw
          case rel => exact ⟨k + 1, by omega, by go_num, hf2, hb.trans (hb1.mono hb.size)⟩
          case measure => simp [intOf]; omega
      · obtain rfl : k = n := by omega
        have TT : Hid (ps.all okPa = true) := OkTo.all (by rw [hl.out]; exact hf)
        go_wp2
        go_ret
        rw [TT.out]
        exact ⟨rfl, hb⟩
end Go.Proofs.Ytkkcjpldldhcgaa.Pok
