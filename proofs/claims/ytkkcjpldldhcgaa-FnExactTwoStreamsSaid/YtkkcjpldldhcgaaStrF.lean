/-
  The law FnExactTwoStreams returns true for every argument (the statement FnExactTwoStreamsSaid): the TwoStreams of the program and that of the reference agree.
  Conditions: none beyond those of the given statement.
-/
import Derived.Test.YtkkcjpldldhcgaaStri
import Derived.Test.YtkkcjpldldhcgaaPmk
namespace Go.Proofs.Ytkkcjpldldhcgaa.StrF
open Go Go.RowKit Go.ChangeShapes Go.WideShapes Go.ChangeAt Go.Joins Go.Proofs.Ytkkcjpldldhcgaa.Fl Go.Proofs.Ytkkcjpldldhcgaa.Reg Go.Proofs.Ytkkcjpldldhcgaa.Step Go.Proofs.Ytkkcjpldldhcgaa.Mem Go.Proofs.Ytkkcjpldldhcgaa.Same Go.Proofs.Ytkkcjpldldhcgaa.Help Go.Proofs.Ytkkcjpldldhcgaa.Grid Go.Proofs.Ytkkcjpldldhcgaa.App Go.Proofs.Ytkkcjpldldhcgaa.Level Go.Proofs.Ytkkcjpldldhcgaa.Law Go.Proofs.Ytkkcjpldldhcgaa.Fin Go.Proofs.Ytkkcjpldldhcgaa.Spring Go.Proofs.Ytkkcjpldldhcgaa.Part Go.Proofs.Ytkkcjpldldhcgaa.Pok Go.Proofs.Ytkkcjpldldhcgaa.Pow Go.Proofs.Ytkkcjpldldhcgaa.Str Go.Proofs.Ytkkcjpldldhcgaa.Cx Go.Proofs.Ytkkcjpldldhcgaa.Peq Go.Proofs.Ytkkcjpldldhcgaa.Pmk

def okP (W H x : Int) : Bool := vgB W H && inB x 1 24
def okF (W H x : Int) (b : Nat) : Bool := okP W H x && okStr W.toNat H.toNat (2 * x.toNat) (W.toNat * H.toNat) b
def outW (W H x : Int) (b : Nat) : Int := if okF W H x b = true then W else 0
def outH (W H x : Int) (b : Nat) : Int := if okF W H x b = true then H else 0
def outB (W H x : Int) (b : Nat) : Option Nat := if okF W H x b = true then backV (2 * x.toNat) (W.toNat * H.toNat) else some 0
def outV (W H x : Int) (b : Nat) : List PV := if okF W H x b = true then (List.range (2 * x.toNat)).map (strV W.toNat H.toNat (2 * x.toNat) b) else []
abbrev BackF (w w' : World) (e : Ending) (W H x : Int) (b : Nat) : Prop := BackC w w' e (okF W H x b) (outW W H x b) (outH W H x b) (outB W H x b) (outV W H x b)

set_option maxHeartbeats 1000000 in
theorem spec_bad (W H x : Int) (b : Nat) (w : World) (h : okP W H x = false) :
    Calls Try.prog 28 #[.agg #[.int .i64 W, .int .i64 H], .int .i64 x, .float .f32 b] w fun e w' => e = .returned (.tuple #[zeroCl, .bool false]) ∧ Below w.heap.size w w' := by
  have hH0 := Hm.start w W H
  cases hv : vgB W H
  · go_enter Try.func28, Try.ntmps28
    have hHc := hH0
    obtain ⟨_, k0, k1, _⟩ := hHc
    go_wp2_with fail
    generalize hwA : (w.alloc (.cells #[.int .i64 W, .int .i64 H] 34)).alloc (.cells #[.int .i64 0, .int .i64 0, .slice none 0 0, .float .f32 0, .float .f32 0] 50) = wA at *
    clear hwA
    refine (l02Is_any w.heap.size W H _ k0 k1).mono ?_
    rw [hv]
    rintro e w1 ⟨rfl, rfl⟩
    have hH := hH0
    clear k0 k1 hv
    clear h hH0
    have bb := Below.sets5 hH.2.2.2.2.2 (g := w.heap.size + 1) (Nat.le_succ _) (.int .i64 0) (.int .i64 0) (.slice none 0 0) (.float .f32 0) (.float .f32 0)
    obtain ⟨-, -, -, ⟨z0, z1, z2, z3, z4⟩, ⟨f0, f1, f2, f3, f4⟩, -⟩ := hH
    go_wp2
    exact bodyPost_ret (v := .tuple #[zeroCl, .bool false]) (by simp [results, Try.results28, go_sem, z0, z1, z2, z3, z4, zeroCl]) rfl ⟨rfl, bb⟩
  · have hi : inB x 1 24 = false := by simpa [okP, hv] using h
    go_enter Try.func28, Try.ntmps28
    have hHc := hH0
    obtain ⟨_, k0, k1, _⟩ := hHc
    go_wp2_with fail
    generalize hwA : (w.alloc (.cells #[.int .i64 W, .int .i64 H] 34)).alloc (.cells #[.int .i64 0, .int .i64 0, .slice none 0 0, .float .f32 0, .float .f32 0] 50) = wA at *
    clear hwA
    refine (l02Is_any w.heap.size W H _ k0 k1).mono ?_
    rw [hv]
    rintro e w1 ⟨rfl, rfl⟩
    have hH := hH0
    clear k0 k1 hv
    go_wp2_with fail
    refine (l00In_any x 1 24 _).mono ?_
    rw [hi]
    rintro e w9 ⟨rfl, rfl⟩
    clear hi
    clear h hH0
    have bb := Below.sets5 hH.2.2.2.2.2 (g := w.heap.size + 1) (Nat.le_succ _) (.int .i64 0) (.int .i64 0) (.slice none 0 0) (.float .f32 0) (.float .f32 0)
    obtain ⟨-, -, -, ⟨z0, z1, z2, z3, z4⟩, ⟨f0, f1, f2, f3, f4⟩, -⟩ := hH
    go_wp2
    exact bodyPost_ret (v := .tuple #[zeroCl, .bool false]) (by simp [results, Try.results28, go_sem, z0, z1, z2, z3, z4, zeroCl]) rfl ⟨rfl, bb⟩

set_option maxHeartbeats 1000000 in
theorem impl_bad (W H x : Int) (b : Nat) (w : World) (h : okP W H x = false) :
    Calls Try.prog 29 #[.agg #[.int .i64 W, .int .i64 H], .int .i64 x, .float .f32 b] w fun e w' => e = .returned (.tuple #[zeroCl, .bool false]) ∧ Below w.heap.size w w' := by
  have hH0 := Hm.start w W H
  cases hv : vgB W H
  · go_enter Try.func29, Try.ntmps29
    have hHc := hH0
    obtain ⟨_, k0, k1, _⟩ := hHc
    go_wp2_with fail
    generalize hwA : (w.alloc (.cells #[.int .i64 W, .int .i64 H] 34)).alloc (.cells #[.int .i64 0, .int .i64 0, .slice none 0 0, .float .f32 0, .float .f32 0] 50) = wA at *
    clear hwA
    refine (ValidGrid_any W H _).mono ?_
    rw [hv]
    rintro e w1 ⟨rfl, hb1⟩
    have hH := hH0.step (B := wA.heap.size) hH0.1 hb1
    clear k0 k1 hv
    clear h hH0
    have bb := Below.sets5 hH.2.2.2.2.2 (g := w.heap.size + 1) (Nat.le_succ _) (.int .i64 0) (.int .i64 0) (.slice none 0 0) (.float .f32 0) (.float .f32 0)
    obtain ⟨-, -, -, ⟨z0, z1, z2, z3, z4⟩, ⟨f0, f1, f2, f3, f4⟩, -⟩ := hH
    go_wp2
    exact bodyPost_ret (v := .tuple #[zeroCl, .bool false]) (by simp [results, Try.results29, go_sem, z0, z1, z2, z3, z4, zeroCl]) rfl ⟨rfl, bb⟩
  · have hi : inB x 1 24 = false := by simpa [okP, hv] using h
    go_enter Try.func29, Try.ntmps29
    have hHc := hH0
    obtain ⟨_, k0, k1, _⟩ := hHc
    go_wp2_with fail
    generalize hwA : (w.alloc (.cells #[.int .i64 W, .int .i64 H] 34)).alloc (.cells #[.int .i64 0, .int .i64 0, .slice none 0 0, .float .f32 0, .float .f32 0] 50) = wA at *
    clear hwA
    refine (ValidGrid_any W H _).mono ?_
    rw [hv]
    rintro e w1 ⟨rfl, hb1⟩
    have hH := hH0.step (B := wA.heap.size) hH0.1 hb1
    clear k0 k1 hv
    go_wp2_with fail
    refine (within_any x 1 24 _).mono ?_
    rw [hi]
    rintro e w9 ⟨rfl, rfl⟩
    clear hi
    clear h hH0
    have bb := Below.sets5 hH.2.2.2.2.2 (g := w.heap.size + 1) (Nat.le_succ _) (.int .i64 0) (.int .i64 0) (.slice none 0 0) (.float .f32 0) (.float .f32 0)
    obtain ⟨-, -, -, ⟨z0, z1, z2, z3, z4⟩, ⟨f0, f1, f2, f3, f4⟩, -⟩ := hH
    go_wp2
    exact bodyPost_ret (v := .tuple #[zeroCl, .bool false]) (by simp [results, Try.results29, go_sem, z0, z1, z2, z3, z4, zeroCl]) rfl ⟨rfl, bb⟩


theorem join {F : FuncId} (W H x : Int) (b : Nat) (w : World)
    (hbad : okP W H x = false → Calls Try.prog F #[.agg #[.int .i64 W, .int .i64 H], .int .i64 x, .float .f32 b] w fun e w' => e = .returned (.tuple #[zeroCl, .bool false]) ∧ Below w.heap.size w w')
    (hgood : ∀ W H x : Nat, 4 ≤ W → W ≤ 16 → 4 ≤ H → H ≤ 16 → 1 ≤ x → x ≤ 24 → vgB W H = true → inB x 1 24 = true → Calls Try.prog F #[.agg #[.int .i64 (W : Nat), .int .i64 (H : Nat)], .int .i64 (x : Nat), .float .f32 b] w fun e w' => StrBack w w' e W H (2 * x) (W * H) b) :
    Calls Try.prog F #[.agg #[.int .i64 W, .int .i64 H], .int .i64 x, .float .f32 b] w fun e w' => BackF w w' e W H x b := by
  unfold BackF outV outB outW outH
  cases h : okP W H x
  · refine (hbad h).mono ?_
    rintro e w' ⟨rfl, hb⟩
    have : okF W H x b = false := by simp [okF, h]
    rw [this]
    simpa using BackC.none hb
  · have h' : vgB W H = true ∧ inB x 1 24 = true := by simpa [okP] using h
    obtain ⟨h1, h2, h3, h4⟩ := vgB_spec h'.1
    have h5 : 1 ≤ x ∧ x ≤ 24 := by simpa [inB] using h'.2
    obtain ⟨W, rfl⟩ : ∃ n : Nat, W = n := ⟨W.toNat, by omega⟩
    obtain ⟨H, rfl⟩ : ∃ n : Nat, H = n := ⟨H.toNat, by omega⟩
    obtain ⟨x, rfl⟩ : ∃ n : Nat, x = n := ⟨x.toNat, by omega⟩
    refine (hgood W H x (by omega) (by omega) (by omega) (by omega) (by omega) (by omega) h'.1 h'.2).mono ?_
    intro e w' hh
    have : okF W H x b = okStr W H (2 * x) (W * H) b := by simp [okF, h]
    rw [this]
    simpa [StrBack] using hh
theorem spec_any (W H x : Int) (b : Nat) (w : World) :
    Calls Try.prog 28 #[.agg #[.int .i64 W, .int .i64 H], .int .i64 x, .float .f32 b] w fun e w' => BackF w w' e W H x b :=
  join W H x b w (spec_bad W H x b w) (fun W H x a1 a2 a3 a4 a5 a6 a7 a8 => spec_in W H _ _ x rfl rfl a1 a2 a3 a4 a5 a6 a7 a8 b w)
theorem impl_any (W H x : Int) (b : Nat) (w : World) :
    Calls Try.prog 29 #[.agg #[.int .i64 W, .int .i64 H], .int .i64 x, .float .f32 b] w fun e w' => BackF w w' e W H x b :=
  join W H x b w (impl_bad W H x b w) (fun W H x a1 a2 a3 a4 a5 a6 a7 a8 => impl_in W H _ _ x rfl rfl a1 a2 a3 a4 a5 a6 a7 a8 b w)

theorem Bc.gb {w w' : World} {g : Nat} {W H : Int} {v : Value} {mg bk : Nat} {row : Option Nat} (h : Bc w g W H v mg bk) (hg : w.grownBy w' row) (hne : some g ≠ row) : Bc w' g W H v mg bk :=
  ⟨hg.cell h.1 hne, hg.cell h.2.1 hne, hg.cell h.2.2.1 hne, hg.cell h.2.2.2.1 hne, hg.cell h.2.2.2.2 hne⟩
theorem PRd.gb {w w' : World} {a : Option Addr} {ps : List Pa} {row : Option Nat} (h : PRd w a ps) (hg : w.grownBy w' row) (hne : ∀ y, a = some y → some y.block ≠ row) : PRd w' a ps := by
  rcases h with h | ⟨b, off, rfl, hc⟩
  · exact Or.inl h
  · refine Or.inr ⟨b, off, rfl, fun i hi => ?_⟩
    have := hne ⟨b, off, none⟩ rfl
    exact ⟨hg.cell (hc i hi).1 this, hg.cell (hc i hi).2.1 this, hg.cell (hc i hi).2.2.1 this, hg.cell (hc i hi).2.2.2 this⟩

set_option maxHeartbeats 4000000 in
set_option maxRecDepth 100000 in
theorem walk_of (W H x : Int) (b : Nat) (w : World) :
    Calls Try.prog 9 #[.agg #[.int .i64 W, .int .i64 H], .int .i64 x, .float .f32 b] w fun e w' => e = .returned (.bool true) ∧ Below w.heap.size w w' := by
  have i0 := Inv.start w W H
  go_enter Try.func9, Try.ntmps9
  have ca := i0.c0
  have cb := i0.c1
  go_wp2_with fail
  clear ca cb
  refine (toGrid_any W H _).mono ?_
  rintro e w1 ⟨rfl, hb1⟩
  have i1 := i0.step hb1
  clear i0 hb1
  go_wp2_with fail
  refine (spec_any W H x b _).mono ?_
  rintro e w2 ⟨aw, cw, pw, bw, rfl, ow, vw, hbw, lw, kw, hb2⟩
  have i2 := i1.step hb2
  have zw := ow.lt
  have s1 := i1.size
  have s2 := hb2.size
  clear i1 hb2
  obtain ⟨n, hn⟩ : ∃ n, n = pw.length := ⟨_, rfl⟩
  have HLw : Hid (pw.length = n) := hn.symm
  have hn48 : n ≤ 48 := by omega
  rw [← hn]
  clear hn lw kw
  simp only [clV]
  have b3 := (Below.refl w2.heap.size w2).alloc (Nat.le_refl _) (.cells #[.int .i64 (outW W H x b), .int .i64 (outH W H x b), .slice aw n cw, .float .f32 0, .float .f32 bw] 50)
  have Bw := Bc.new w2 (outW W H x b) (outH W H x b) (.slice aw n cw) 0 bw 50
  have rw3 := ow.rd.below b3
  have i3 := i2.step b3
  have s3 : (w2.alloc (.cells #[.int .i64 (outW W H x b), .int .i64 (outH W H x b), .slice aw n cw, .float .f32 0, .float .f32 bw] 50)).heap.size = w2.heap.size + 1 := by simp
  have ca := i3.c0
  have cb := i3.c1
  go_wp2_with fail
  generalize w2.alloc (.cells #[.int .i64 (outW W H x b), .int .i64 (outH W H x b), .slice aw n cw, .float .f32 0, .float .f32 bw] 50) = w3 at *
  clear ca cb b3
  refine (toGrid_any W H _).mono ?_
  rintro e w4 ⟨rfl, hb4⟩
  have i4 := i3.step hb4
  have s4 := hb4.size
  replace Bw := Bw.below hb4
  replace rw3 := rw3.below hb4
  clear i3 hb4
  go_wp2_with fail
  refine (impl_any W H x b _).mono ?_
  rintro e w5 ⟨ag, cg, pg, bg, rfl, og, vg, hbg, lg, kg, hb5⟩
  have i5 := i4.step hb5
  have s5 := hb5.size
  have zg := og.lt
  replace Bw := Bw.below hb5
  replace rw3 := rw3.below hb5
  have hn : n = pg.length := by
    have := congrArg List.length (vg.trans vw.symm)
    simp only [List.length_map] at this
    rw [this, HLw.out]
  have HLg : Hid (pg.length = n) := hn.symm
  rw [← hn]
  clear hn lg kg hb5
  simp only [clV]
  have b6 := (Below.refl w5.heap.size w5).alloc (Nat.le_refl _) (.cells #[.int .i64 (outW W H x b), .int .i64 (outH W H x b), .slice ag n cg, .float .f32 0, .float .f32 bg] 50)
  have Bg := Bc.new w5 (outW W H x b) (outH W H x b) (.slice ag n cg) 0 bg 50
  have og6 := og.below b6
  replace Bw := Bw.below b6
  replace rw3 := rw3.below b6
  have i6 := i5.step b6
  have s6 : (w5.alloc (.cells #[.int .i64 (outW W H x b), .int .i64 (outH W H x b), .slice ag n cg, .float .f32 0, .float .f32 bg] 50)).heap.size = w5.heap.size + 1 := by simp
  have HEg : Hid (pg.map pv = pw.map pv) := vg.trans vw.symm
  have HBg : Hid (vf .f32 bg = vf .f32 bw) := hbg.trans hbw.symm
  clear i5 i4 i2 vg hbg og ow
  have Bw' := Bw
  have Bg' := Bg
  obtain ⟨k0, k1, k2, k3, k4⟩ := Bw'
  obtain ⟨j0, j1, j2, j3, j4⟩ := Bg'
  go_wp2_with fail
  generalize w5.alloc (.cells #[.int .i64 (outW W H x b), .int .i64 (outH W H x b), .slice ag n cg, .float .f32 0, .float .f32 bg] 50) = w6 at *
  clear k0 k1 k2 k3 k4 j0 j1 j2 j3 j4 b6
  refine (eqCloud_any (outW W H x b) (outH W H x b) ag aw cg cw pg pw 0 bg 0 bw n HLg HLw (by omega) HEg rfl HBg _ og6.rd rw3).mono ?_
  rintro e w7 ⟨rfl, hb7⟩
  have i7 := i6.step hb7
  have s7 := hb7.size
  replace Bw := Bw.below hb7
  replace rw3 := rw3.below hb7
  replace Bg := Bg.below hb7
  replace og6 := og6.below hb7
  clear i6 hb7
  have Bg' := Bg
  obtain ⟨j0, j1, j2, j3, j4⟩ := Bg'
  go_wp2_with fail
  clear j0 j1 j2 j3 j4
  obtain ⟨z, hz⟩ : ∃ z : Int, z = ((1 + 4 * n : Nat) : Int) := ⟨_, rfl⟩
  have hneg : ¬ (z < 0) := by omega
  have HZ : Hid (z = ((1 + 4 * n : Nat) : Int)) := hz
  clear hz
  refine (markC_any (outW W H x b) (outH W H x b) ag cg pg 0 bg n 1 1 _ rfl _ HLg hn48 (by omega) og6).mono ?_
  rw [← HZ.out]
  rintro e w8 ⟨rfl, o8, g8⟩
  have i8 := i7.gb g8 (fun y hy => by have := (zg y hy).1; omega)
  have nw : some w2.heap.size ≠ ag.map (·.block) := by
    intro e
    cases ag with
    | none => cases e
    | some y => have := (zg y rfl).1; have e2 := Option.some.inj e; dsimp only at e2; omega
  have nG : some w5.heap.size ≠ ag.map (·.block) := by
    intro e
    cases ag with
    | none => cases e
    | some y => have := (zg y rfl).2; have e2 := Option.some.inj e; dsimp only at e2; omega
  replace Bw := Bc.gb Bw g8 nw
  replace Bg := Bc.gb Bg g8 nG
  replace rw3 := PRd.gb rw3 g8 (sep zw zg (by omega))
  have s8 : w7.heap.size ≤ w8.heap.size := g8.size
  have r8 := o8.rd
  clear i7 g8 og6 o8 nw nG
  have Bg' := Bg
  obtain ⟨j0, j1, j2, j3, j4⟩ := Bg'
  go_wp2_with fail
  clear j0 j1 j2 j3 j4
  refine (heldC_any (outW W H x b) (outH W H x b) ag cg 0 bg n 1 1 rfl _ hn48 (by omega) r8).mono ?_
  rw [← HZ.out]
  rintro e w9 ⟨rfl, hb9⟩
  have i9 := i8.step hb9
  have s9 := hb9.size
  replace Bw := Bw.below hb9
  replace rw3 := rw3.below hb9
  replace Bg := Bg.below hb9
  replace r8 := r8.below hb9
  clear i8 hb9
  have ca := i9.c0
  have cb := i9.c1
  go_wp2_with fail
  clear ca cb
  refine (toGrid_any W H _).mono ?_
  rintro e w10 ⟨rfl, hb10⟩
  have i10 := i9.step hb10
  have s10 := hb10.size
  replace Bw := Bw.below hb10
  replace rw3 := rw3.below hb10
  replace Bg := Bg.below hb10
  replace r8 := r8.below hb10
  clear i9 hb10
  go_wp2_with fail
  refine (impl_any W H x b _).mono ?_
  rintro e w11 ⟨ah, ch, ph, bh, rfl, oh, vh, hbh, lh, kh, hb11⟩
  have i11 := i10.step hb11
  have s11 := hb11.size
  replace Bw := Bw.below hb11
  replace rw3 := rw3.below hb11
  replace Bg := Bg.below hb11
  replace r8 := r8.below hb11
  have hn : n = ph.length := by
    have := congrArg List.length (vh.trans vw.symm)
    simp only [List.length_map] at this
    rw [this, HLw.out]
  have HLh : Hid (ph.length = n) := hn.symm
  rw [← hn]
  clear hn lh kh hb11 i10
  simp only [clV]
  have b12 := (Below.refl w11.heap.size w11).alloc (Nat.le_refl _) (.cells #[.int .i64 (outW W H x b), .int .i64 (outH W H x b), .slice ah n ch, .float .f32 0, .float .f32 bh] 50)
  have Bh := Bc.new w11 (outW W H x b) (outH W H x b) (.slice ah n ch) 0 bh 50
  have rh := oh.rd.below b12
  replace Bw := Bw.below b12
  replace rw3 := rw3.below b12
  replace Bg := Bg.below b12
  replace r8 := r8.below b12
  have i12 := i11.step b12
  have HEh : Hid (ph.map pv = pw.map pv) := vh.trans vw.symm
  have HBh : Hid (vf .f32 bh = vf .f32 bw) := hbh.trans hbw.symm
  clear i11 vh hbh oh
  have Bw' := Bw
  have Bh' := Bh
  obtain ⟨k0, k1, k2, k3, k4⟩ := Bw'
  obtain ⟨j0, j1, j2, j3, j4⟩ := Bh'
  go_wp2_with fail
  generalize w11.alloc (.cells #[.int .i64 (outW W H x b), .int .i64 (outH W H x b), .slice ah n ch, .float .f32 0, .float .f32 bh] 50) = w12 at *
  clear k0 k1 k2 k3 k4 j0 j1 j2 j3 j4 b12
  refine (eqCloud_any (outW W H x b) (outH W H x b) ah aw ch cw ph pw 0 bh 0 bw n HLh HLw (by omega) HEh rfl HBh _ rh rw3).mono ?_
  rintro e w13 ⟨rfl, hb13⟩
  have i13 := i12.step hb13
  replace Bg := Bg.below hb13
  replace r8 := r8.below hb13
  clear i12 hb13
  have Bg' := Bg
  obtain ⟨j0, j1, j2, j3, j4⟩ := Bg'
  go_wp2_with fail
  clear j0 j1 j2 j3 j4
  refine (heldC_any (outW W H x b) (outH W H x b) ag cg 0 bg n 1 1 rfl _ hn48 (by omega) r8).mono ?_
  rw [← HZ.out]
  rintro e w14 ⟨rfl, hb14⟩
  have i14 := i13.step hb14
  clear i13 hb14
  go_wp2
  go_ret
  exact ⟨rfl, i14.below⟩
theorem walk (W H : Int) (_wW : (Lit.int .i64 W).wf = true) (_wH : (Lit.int .i64 H).wf = true) (x : Int) (_wx : (Lit.int .i64 x).wf = true) (b : Nat) (w : World) :
    Calls Try.prog 9 #[.agg #[.int .i64 W, .int .i64 H], .int .i64 x, .float .f32 b] w fun e w' => e = .returned (.bool true) ∧ Below w.heap.size w w' := walk_of W H x b w
/-! ### From the walk to the statement -/
set_option maxRecDepth 100000 in
theorem lifted (os : Os) (started : os.Started) (H : Type) (enc : TypeId × Value → H) :
    ReturnsInHanded {} Try.checked os 9 .any (Rows.fnExactTwoStreamsSpec.pre6 enc Try.prog Try.f9 Rows.fnExactTwoStreamsRow.domain false) (Rows.fnExactTwoStreamsSpec.post enc Try.prog Try.f9 false true false false) := by
  refine returnsInHanded_of_change (C := Try.checked) own started (by kernel_rfl) Try.func9
    (ChangeSpec.witness6 (enc := enc) (C := Try.checked) false ⟨#[], #[.agg #[.int .i64 0, .int .i64 0], .int .i64 0, .float .f32 0], []⟩ 8 (by kernel_rfl) (by kernel_rfl) (by kernel_rfl) (by kernel_rfl)) ?_
  intro W base args ds gs before hval0 hW hcnd _
  have hval : ∀ (j : Nat) t v, Try.f9.params[j]? = some t → args[j]? = some v → Value.okWide Try.prog W .any base t v := hval0
  have hW' := hW
  obtain ⟨p, q, hA0, hV, rfl, hfz, hnd⟩ := hW
  have hA : DataW.TrodAll enc Try.prog W 0 (fun _ => true) true Try.f9.params.toList args.toList ds p := hA0
  rw [Try.params9] at hA hval
  obtain ⟨v0, vs0, d0, ds0, p0, q0, hargs, rfl, rfl, h0, r0⟩ := trodAll_cons hA
  obtain ⟨v1, vs1, d1, ds1, p1, q1, rfl, rfl, rfl, h1, r1⟩ := trodAll_cons r0
  obtain ⟨v2, vs2, d2, ds2, p2, q2, rfl, rfl, rfl, h2, r2⟩ := trodAll_cons r1
  obtain ⟨rfl, rfl, rfl⟩ := trodAll_nil r2
  obtain rfl : args = #[v0, v1, v2] := by cases args; simp_all
  obtain ⟨rfl, rfl⟩ := trodVars_none hV
  obtain ⟨c0a, c0b, y0a, y0b, m0, rfl, _, _, hy0a, hy0b⟩ := open_agg2 Try.underlying31 (by kernel_rfl) cellsGrid (hval 0 31 v0 rfl rfl) h0
  obtain ⟨gW0, e0a, _, wW0⟩ := DataW.trod_int Try.underlying2 hy0a
  obtain ⟨gH0, e0b, _, wH0⟩ := DataW.trod_int Try.underlying2 hy0b
  simp only [List.cons.injEq, and_true] at e0a e0b
  subst e0a e0b
  obtain ⟨x1, rfl, _, _, wx1⟩ := open_int Try.underlying2 (hval 1 2 v1 rfl rfl) h1
  obtain ⟨b2, rfl, _, _, _⟩ := open_float Try.underlying25 (hval 2 25 v2 rfl rfl) h2
  refine (walk gW0 gH0 wW0 wH0 x1 wx1 b2 W).mono fun e W' ⟨he, hb⟩ => ?_
  subst he
  exact ⟨_, rfl, law_post laid Try.underlying4 (by kernel_rfl) (by rw [Try.params9]; intro t ht; simp only [List.mem_cons, List.not_mem_nil, or_false] at ht; rcases ht with rfl | rfl | rfl <;> exact ⟨by kernel_rfl, of_decide_eq_true (by kernel_rfl)⟩) rfl rfl hW' hb⟩

/-- The statement. -/
theorem proved : Rows.FnExactTwoStreamsSaid :=
  OpenClaim.holds_of_wide 9 Try.f9 rfl rfl rfl rfl rfl rfl rfl ⟨rfl, rfl, rfl, rfl, rfl⟩ rfl rfl rfl rfl rfl (by kernel_rfl) Try.func9 (by kernel_rfl)
    (of_decide_eq_true (by kernel_rfl)) (by unfold Func.isWrapper; first | (rw [if_pos (by decide +kernel)]; kernel_rfl) | (rw [if_neg (by decide +kernel)]; exact ⟨rfl, rfl⟩))
    (fun os started H enc _ => lifted os started H enc)
#print axioms proved

end Go.Proofs.Ytkkcjpldldhcgaa.StrF
