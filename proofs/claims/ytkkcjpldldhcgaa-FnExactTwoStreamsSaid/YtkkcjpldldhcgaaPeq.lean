/-
  The laws' helpers sameComplex, eqParticle, eqParticleS, eqCloud answer true at equal values.
  Conditions: none.
-/
import Derived.Test.YtkkcjpldldhcgaaCx
import Derived.Test.YtkkcjpldldhcgaaStr
namespace Go.Proofs.Ytkkcjpldldhcgaa.Peq
open Go Go.RowKit Go.Proofs.Ytkkcjpldldhcgaa.Fl Go.Proofs.Ytkkcjpldldhcgaa.Reg Go.Proofs.Ytkkcjpldldhcgaa.Step Go.Proofs.Ytkkcjpldldhcgaa.Mem Go.Proofs.Ytkkcjpldldhcgaa.Same Go.Proofs.Ytkkcjpldldhcgaa.Help Go.Proofs.Ytkkcjpldldhcgaa.Grid Go.Proofs.Ytkkcjpldldhcgaa.App Go.Proofs.Ytkkcjpldldhcgaa.Level Go.Proofs.Ytkkcjpldldhcgaa.Law Go.Proofs.Ytkkcjpldldhcgaa.Part Go.Proofs.Ytkkcjpldldhcgaa.Pok Go.Proofs.Ytkkcjpldldhcgaa.Pow Go.Proofs.Ytkkcjpldldhcgaa.Str Go.Proofs.Ytkkcjpldldhcgaa.Cx

theorem u64c : (Try.prog.underlying 68).isSome = true := by rw [Try.underlying68]; rfl
theorem same_at (x y : Nat) (w : World) (h : vf .f64 x = vf .f64 y) :
    Calls Try.prog 14 #[.float .f64 x, .float .f64 y] w fun e w' => e = .returned (.bool true) ∧ Below w.heap.size w w' := by
  refine (same_any x y w h).mono ?_
  rintro e w' ⟨rfl, n, rfl⟩
  exact ⟨rfl, below_drewN (Below.refl _ _) n⟩
theorem sameComplex_any (x y x' y' : Nat) (w : World) (h1 : vf .f64 x = vf .f64 x') (h2 : vf .f64 y = vf .f64 y') :
    Calls Try.prog 71 #[.complex .f64 x y, .complex .f64 x' y'] w fun e w' => e = .returned (.bool true) ∧ Below w.heap.size w w' := by
  have H1 : Hid (vf .f64 x = vf .f64 x') := h1
  have H2 : Hid (vf .f64 y = vf .f64 y') := h2
  clear h1 h2
  go_enter Try.func71, Try.ntmps71
  go_wp2_with fail
  refine (same_at x x' _ H1.out).mono ?_
  rintro e w1 ⟨rfl, hb1⟩
  go_wp2_with fail
  refine (same_at y y' _ H2.out).mono ?_
  rintro e w2 ⟨rfl, hb2⟩
  go_wp2
  go_ret
  exact ⟨rfl, hb1.trans (hb2.mono hb1.size)⟩
theorem eqGrid_at (x y : Int) (w : World) :
    Calls Try.prog 56 #[.agg #[.int .i64 x, .int .i64 y], .agg #[.int .i64 x, .int .i64 y]] w fun e w' => e = .returned (.bool true) ∧ Below w.heap.size w w' := by
  go_enter Try.func56, Try.ntmps56
  go_wp2
  go_ret
  exact ⟨rfl, ((Below.refl _ _).alloc (Nat.le_refl _) _).alloc (by simp) _⟩

theorem pv_eq {p p' : Pa} (h : pv p = pv p') : vf .f32 p.xr = vf .f32 p'.xr ∧ vf .f32 p.xi = vf .f32 p'.xi ∧ vf .f32 p.vr = vf .f32 p'.vr ∧ vf .f32 p.vi = vf .f32 p'.vi ∧ vf .f32 p.q = vf .f32 p'.q ∧ vf .f32 p.m = vf .f32 p'.m := by
  simpa [pv] using h
set_option maxHeartbeats 1000000 in
set_option maxRecDepth 100000 in
theorem eqParticle_any (p p' : Pa) (h : pv p = pv p') (w : World) :
    Calls Try.prog 66 #[.agg #[.complex .f32 p.xr p.xi, .complex .f32 p.vr p.vi, .float .f32 p.q, .float .f32 p.m], .agg #[.complex .f32 p'.xr p'.xi, .complex .f32 p'.vr p'.vi, .float .f32 p'.q, .float .f32 p'.m]] w fun e w' => e = .returned (.bool true) ∧ Below w.heap.size w w' := by
  obtain ⟨h1, h2, h3, h4, h5, h6⟩ := pv_eq h
  have H : Hid (vf .f32 p.xr = vf .f32 p'.xr ∧ vf .f32 p.xi = vf .f32 p'.xi ∧ vf .f32 p.vr = vf .f32 p'.vr ∧ vf .f32 p.vi = vf .f32 p'.vi ∧ vf .f32 p.q = vf .f32 p'.q ∧ vf .f32 p.m = vf .f32 p'.m) := ⟨h1, h2, h3, h4, h5, h6⟩
  clear h h1 h2 h3 h4 h5 h6
  obtain ⟨xr, xi, vr, vi, q, m⟩ := p
  obtain ⟨xr', xi', vr', vi', q', m'⟩ := p'
  dsimp only at H ⊢
  have b1 : Below w.heap.size w (w.alloc (.cells #[.complex .f32 xr xi, .complex .f32 vr vi, .float .f32 q, .float .f32 m] 70)) := (Below.refl _ _).alloc (Nat.le_refl _) _
  have a1 : At (w.alloc (.cells #[.complex .f32 xr xi, .complex .f32 vr vi, .float .f32 q, .float .f32 m] 70)) w.heap.size 0 ⟨xr, xi, vr, vi, q, m⟩ := ⟨by simp, by simp, by simp, by simp⟩
  have bA := b1.alloc (show w.heap.size ≤ _ by simp) (.cells #[.complex .f32 xr' xi', .complex .f32 vr' vi', .float .f32 q', .float .f32 m'] 70)
  have a1 := a1.below ((Below.refl _ _).alloc (Nat.le_refl _) (.cells #[.complex .f32 xr' xi', .complex .f32 vr' vi', .float .f32 q', .float .f32 m'] 70))
  have a2 : At ((w.alloc (.cells #[.complex .f32 xr xi, .complex .f32 vr vi, .float .f32 q, .float .f32 m] 70)).alloc (.cells #[.complex .f32 xr' xi', .complex .f32 vr' vi', .float .f32 q', .float .f32 m'] 70)) (w.heap.size + 1) 0 ⟨xr', xi', vr', vi', q', m'⟩ := ⟨by simp, by simp, by simp, by simp⟩
  go_enter Try.func66, Try.ntmps66
  have a1' := a1
  have a2' := a2
  obtain ⟨k0, k1, k2, k3⟩ := a1'
  obtain ⟨j0, j1, j2, j3⟩ := a2'
  go_upto_region 1 with fail
  generalize (w.alloc (.cells #[.complex .f32 xr xi, .complex .f32 vr vi, .float .f32 q, .float .f32 m] 70)).alloc (.cells #[.complex .f32 xr' xi', .complex .f32 vr' vi', .float .f32 q', .float .f32 m'] 70) = wA at *
  go_wp2_with (refine wpList_cwiden (src := 68) (dst := 86) rfl rfl rfl u64c Try.underlying86 (fun r s n hr hs => ?_))
  refine (sameComplex_any _ _ _ _ _ (widen_eq (by assumption) (by assumption) H.out.1) (widen_eq (by assumption) (by assumption) H.out.2.1)).mono ?_
  rintro e w1 ⟨rfl, hb1⟩
  rename_i hr' hs'
  clear hr hs
  have hb1 : Below wA.heap.size wA w1 := by simpa using hb1
  have bb := bA.trans (hb1.mono bA.size)
  clear k0 k1 k2 k3 j0 j1 j2 j3
  have a1' := a1.below hb1
  have a2' := a2.below hb1
  obtain ⟨k0, k1, k2, k3⟩ := a1'
  obtain ⟨j0, j1, j2, j3⟩ := a2'
  go_wp2_with (refine wpList_cwiden (src := 68) (dst := 86) rfl rfl rfl u64c Try.underlying86 (fun r s n hr hs => ?_))
  refine (sameComplex_any _ _ _ _ _ (widen_eq (by assumption) (by assumption) H.out.2.2.1) (widen_eq (by assumption) (by assumption) H.out.2.2.2.1)).mono ?_
  rintro e w2 ⟨rfl, hb2⟩
  have hb2 : Below w1.heap.size w1 w2 := by simpa using hb2
  have hb := hb1.trans (hb2.mono hb1.size)
  have bb := bA.trans (hb.mono bA.size)
  clear k0 k1 k2 k3 j0 j1 j2 j3
  have a1' := a1.below hb
  have a2' := a2.below hb
  obtain ⟨k0, k1, k2, k3⟩ := a1'
  obtain ⟨j0, j1, j2, j3⟩ := a2'
  go_wp2_with (refine wpList_widen (src := 25) (dst := 29) rfl rfl rfl u32s Try.underlying29 (fun r n hv => ?_))
  refine (same_at _ _ _ (widen_eq (by assumption) (by assumption) H.out.2.2.2.2.1)).mono ?_
  rintro e w3 ⟨rfl, hb3⟩
  have hb3 : Below w2.heap.size w2 w3 := by simpa using hb3
  have hb' := hb.trans (hb3.mono hb.size)
  have bb := bA.trans (hb'.mono bA.size)
  clear k0 k1 k2 k3 j0 j1 j2 j3
  have a1' := a1.below hb'
  have a2' := a2.below hb'
  obtain ⟨k0, k1, k2, k3⟩ := a1'
  obtain ⟨j0, j1, j2, j3⟩ := a2'
  go_wp2_with (refine wpList_widen (src := 25) (dst := 29) rfl rfl rfl u32s Try.underlying29 (fun r n hv => ?_))
  refine (same_at _ _ _ (widen_eq (by assumption) (by assumption) H.out.2.2.2.2.2)).mono ?_
  rintro e w4 ⟨rfl, hb4⟩
  have hb4 : Below w3.heap.size w3 w4 := by simpa using hb4
  have bb := bb.trans (hb4.mono bb.size)
  clear k0 k1 k2 k3 j0 j1 j2 j3
  go_wp2
  go_ret
  exact ⟨rfl, bb⟩

theorem pv_at {ps qs : List Pa} (h : ps.map pv = qs.map pv) {k : Nat} (h1 : k < ps.length) (h2 : k < qs.length) : pv (ps.getD k pz) = pv (qs.getD k pz) := by
  have h3 : (ps.map pv)[k]? = (qs.map pv)[k]? := by rw [h]
  simp only [List.getElem?_map, List.getElem?_eq_getElem h1, List.getElem?_eq_getElem h2, Option.map_some, Option.some.injEq] at h3
  simpa only [List.getD, List.getElem?_eq_getElem h1, List.getElem?_eq_getElem h2, Option.getD_some] using h3

set_option maxHeartbeats 1000000 in
set_option maxRecDepth 100000 in
theorem eqParticleS_any (a a' : Option Addr) (c c' : Nat) (ps qs : List Pa) (n : Nat) (hp : Hid (ps.length = n)) (hq : Hid (qs.length = n)) (hn : n ≤ 1048576) (he : Hid (ps.map pv = qs.map pv)) (w : World) (h1 : PRd w a ps) (h2 : PRd w a' qs) :
    Calls Try.prog 57 #[.slice a n c, .slice a' n c'] w fun e w' => e = .returned (.bool true) ∧ Below w.heap.size w w' := by
  go_enter Try.func57, Try.ntmps57
  go_wp2
  go_loopw [5] (fun i wr => ∃ k : Nat, k ≤ n ∧ i = .int .i64 k ∧ Below w.heap.size w wr) (fun i _ => n - (intOf i).toNat)
  case atStart => exact ⟨0, Nat.zero_le _, rfl, Below.refl _ _⟩
  case round =>
    obtain ⟨k, hk, rfl, hb⟩ := hrel
    by_cases hlt : k < n
    · obtain ⟨b, off, rfl, hc⟩ := (h1.below hb).at (i := k) (by rw [hp.out]; exact hlt)
      have hA := hc k (by rw [hp.out]; exact hlt)
      obtain ⟨b', off', rfl, hc'⟩ := (h2.below hb).at (i := k) (by rw [hq.out]; exact hlt)
      have hA' := hc' k (by rw [hq.out]; exact hlt)
      clear hc hc'
      have hpe := pv_at he.out (k := k) (by rw [hp.out]; exact hlt) (by rw [hq.out]; exact hlt)
      generalize ps.getD k pz = p at *
      generalize qs.getD k pz = q at *
      have l1 := hA.lt
      have l2 := hA'.lt
      obtain ⟨k0, k1, k2, k3⟩ := hA
      obtain ⟨j0, j1, j2, j3⟩ := hA'
      have HP : Hid (pv p = pv q) := hpe
      clear hpe
      go_wp2
      refine wp_region_dem 9 (Below (wr.heap.size) wr) (fun _ _ v => v = .bool true) (by kernel_rfl) (by kernel_rfl) (Below.refl _ _).drew ?_
      simp only [List.take_succ_cons, List.take_zero, List.drop_succ_cons, List.drop_zero]
      repeat (first
        | (refine wpDem_want rfl (fun K hK => ?_); intro w' hw'; obtain ⟨hc', hf'⟩ := bcellB hw'; go_simp; first | (refine hK _ ?_; clear hK K hc' hf' hw' w') | ((refine ⟨(eqParticle_any p q HP.out _).mono (by rintro e w'' ⟨rfl, hq⟩; exact ⟨_, rfl, rfl, hw'.trans (hq.mono hw'.size)⟩), ?_⟩); refine hK _ ?_; clear hK K hc' hf' hw' w')))
      refine wpDem_nil ?_
      intro w2 hb2
      clear k0 k1 k2 k3 j0 j1 j2 j3
      go_wp2
      go_roundw
      case rel => exact ⟨k + 1, by omega, by go_num, hb.trans (hb2.mono hb.size)⟩
      case measure => simp [intOf]; omega
    · go_wp2
      go_ret
      exact ⟨rfl, hb⟩

theorem two_clouds (w : World) (W H : Int) (v v' : Value) (mg bk mg' bk' : Nat) : ∃ wA, (w.alloc (.cells #[.int .i64 W, .int .i64 H, v, .float .f32 mg, .float .f32 bk] 50)).alloc (.cells #[.int .i64 W, .int .i64 H, v', .float .f32 mg', .float .f32 bk'] 50) = wA ∧
    Bc wA w.heap.size W H v mg bk ∧ Bc wA (w.heap.size + 1) W H v' mg' bk' ∧ Below w.heap.size w wA := by
  have h1 := Bc.new w W H v mg bk 50
  have b1 : Below w.heap.size w (w.alloc (.cells #[.int .i64 W, .int .i64 H, v, .float .f32 mg, .float .f32 bk] 50)) := (Below.refl _ _).alloc (Nat.le_refl _) _
  have s1 : (w.alloc (.cells #[.int .i64 W, .int .i64 H, v, .float .f32 mg, .float .f32 bk] 50)).heap.size = w.heap.size + 1 := by simp
  generalize w.alloc (.cells #[.int .i64 W, .int .i64 H, v, .float .f32 mg, .float .f32 bk] 50) = w1 at *
  have b2 : Below w1.heap.size w1 (w1.alloc (.cells #[.int .i64 W, .int .i64 H, v', .float .f32 mg', .float .f32 bk'] 50)) := (Below.refl _ _).alloc (Nat.le_refl _) _
  refine ⟨_, rfl, h1.below b2, ?_, b1.trans (b2.mono b1.size)⟩
  rw [← s1]; exact Bc.new w1 W H v' mg' bk' _

set_option maxHeartbeats 1000000 in
set_option maxRecDepth 100000 in
theorem eqCloud_any (W H : Int) (a a' : Option Addr) (c c' : Nat) (ps qs : List Pa) (mg bk mg' bk' n : Nat) (hp : Hid (ps.length = n)) (hq : Hid (qs.length = n)) (hn : n ≤ 1048576) (he : Hid (ps.map pv = qs.map pv)) (hm : Hid (vf .f32 mg = vf .f32 mg')) (hk : Hid (vf .f32 bk = vf .f32 bk')) (w : World) (h1 : PRd w a ps) (h2 : PRd w a' qs) :
    Calls Try.prog 30 #[.agg #[.int .i64 W, .int .i64 H, .slice a n c, .float .f32 mg, .float .f32 bk], .agg #[.int .i64 W, .int .i64 H, .slice a' n c', .float .f32 mg', .float .f32 bk']] w fun e w' => e = .returned (.bool true) ∧ Below w.heap.size w w' := by
  obtain ⟨wA, hwA, B1, B2, bA⟩ := two_clouds w W H (.slice a n c) (.slice a' n c') mg bk mg' bk'
  have B1' := B1
  have B2' := B2
  obtain ⟨k0, k1, k2, k3, k4⟩ := B1'
  obtain ⟨j0, j1, j2, j3, j4⟩ := B2'
  go_enter Try.func30, Try.ntmps30
  go_upto_region 1 with fail
  generalize hwB : (w.alloc (.cells #[.int .i64 W, .int .i64 H, .slice a n c, .float .f32 mg, .float .f32 bk] 50)).alloc (.cells #[.int .i64 W, .int .i64 H, .slice a' n c', .float .f32 mg', .float .f32 bk'] 50) = wB at *
  subst hwA
  clear hwB
  go_wp2_with fail
  refine (eqGrid_at W H _).mono ?_
  rintro e w1 ⟨rfl, hb⟩
  clear k0 k1 k2 k3 k4 j0 j1 j2 j3 j4
  obtain ⟨k0, k1, k2, k3, k4⟩ := B1.below hb
  obtain ⟨j0, j1, j2, j3, j4⟩ := B2.below hb
  have bb := bA.trans (hb.mono bA.size)
  go_wp2_with fail
  refine (eqParticleS_any a a' c c' ps qs n hp hq hn he _ (h1.below bb) (h2.below bb)).mono ?_
  rintro e w2 ⟨rfl, hb2⟩
  replace hb := hb.trans (hb2.mono hb.size)
  clear k0 k1 k2 k3 k4 j0 j1 j2 j3 j4 bb hb2
  obtain ⟨k0, k1, k2, k3, k4⟩ := B1.below hb
  obtain ⟨j0, j1, j2, j3, j4⟩ := B2.below hb
  go_wp2_with (refine wpList_widen (src := 25) (dst := 29) rfl rfl rfl u32s Try.underlying29 (fun r n hv => ?_))
  refine (same_at _ _ _ (widen_eq (by assumption) (by assumption) hm.out)).mono ?_
  rintro e w3 ⟨rfl, hb3⟩
  have hb3 : Below w2.heap.size w2 w3 := by simpa using hb3
  replace hb := hb.trans (hb3.mono hb.size)
  clear k0 k1 k2 k3 k4 j0 j1 j2 j3 j4 hb3
  obtain ⟨k0, k1, k2, k3, k4⟩ := B1.below hb
  obtain ⟨j0, j1, j2, j3, j4⟩ := B2.below hb
  go_wp2_with (refine wpList_widen (src := 25) (dst := 29) rfl rfl rfl u32s Try.underlying29 (fun r n hv => ?_))
  refine (same_at _ _ _ (widen_eq (by assumption) (by assumption) hk.out)).mono ?_
  rintro e w4 ⟨rfl, hb4⟩
  have hb4 : Below w3.heap.size w3 w4 := by simpa using hb4
  replace hb := hb.trans (hb4.mono hb.size)
  clear k0 k1 k2 k3 k4 j0 j1 j2 j3 j4 hb4
  go_wp2
  go_ret
  exact ⟨rfl, bA.trans (hb.mono bA.size)⟩
end Go.Proofs.Ytkkcjpldldhcgaa.Peq
