/-
  Two grids: the walk of the program's.
  Conditions: none.
-/
import Derived.Test.YtdafcgimkiepnaaTwoG
namespace Go.Proofs.Ytdafcgimkiepnaa.TwoG
open Go Go.RowKit Go.ChangeShapes Go.WideShapes Go.ChangeAt Go.Joins Go.Proofs.Ytdafcgimkiepnaa.Fl Go.Proofs.Ytdafcgimkiepnaa.Reg Go.Proofs.Ytdafcgimkiepnaa.Step Go.Proofs.Ytdafcgimkiepnaa.Mem Go.Proofs.Ytdafcgimkiepnaa.Same Go.Proofs.Ytdafcgimkiepnaa.Help Go.Proofs.Ytdafcgimkiepnaa.Grid Go.Proofs.Ytdafcgimkiepnaa.Mean Go.Proofs.Ytdafcgimkiepnaa.App Go.Proofs.Ytdafcgimkiepnaa.Level Go.Proofs.Ytdafcgimkiepnaa.Lap Go.Proofs.Ytdafcgimkiepnaa.Two Go.Proofs.Ytdafcgimkiepnaa.Sweep Go.Proofs.Ytdafcgimkiepnaa.Solve Go.Proofs.Ytdafcgimkiepnaa.Half Go.Proofs.Ytdafcgimkiepnaa.Rest Go.Proofs.Ytdafcgimkiepnaa.Even Go.Proofs.Ytdafcgimkiepnaa.Law Go.Proofs.Ytdafcgimkiepnaa.Gs

theorem coarse_at (W H hw hh : Nat) (m : Nat) (hM : Hid (m = hw * hh)) (eW : Hid (W = 2 * hw)) (eH : Hid (H = 2 * hh)) (h1 : 4 ≤ hw) (h2 : hw ≤ 8) (h3 : 4 ≤ hh) (h4 : hh ≤ 8) (p : Option Addr) (c : Nat) (rs : List Nat) (n : Nat) (hn : Hid (n = W * H)) (hl : Hid (rs.length = n)) (w : World) (hr : Rd w p rs) :
    Calls Try.prog 60 #[.agg #[.int .i64 (W : Nat), .int .i64 (H : Nat)], .slice p n c] w fun e w' => BackG w w' e hw hh m (coarseF hw hh (rs.map (vf .f32))) := by
  rw [hM.out]
  exact coarse_any W H hw hh eW eH h1 h2 h3 h4 p c rs n hn hl w hr
theorem fine_at (W H hw hh : Nat) (m : Nat) (hM : Hid (m = hw * hh)) (eW : Hid (W = 2 * hw)) (eH : Hid (H = 2 * hh)) (h1 : 4 ≤ hw) (h2 : hw ≤ 8) (h3 : 4 ≤ hh) (h4 : hh ≤ 8) (p : Option Addr) (c : Nat) (rs : List Nat) (n : Nat) (hn : Hid (n = W * H)) (hl : Hid (rs.length = m)) (w : World) (hr : Rd w p rs) :
    Calls Try.prog 52 #[.agg #[.int .i64 (hw : Nat), .int .i64 (hh : Nat)], .slice p m c] w fun e w' => BackG w w' e W H n (fineF hw hh (rs.map (vf .f32))) := by
  rw [hn.out]
  exact fine_any hw hh W H eW eH h1 h2 h3 h4 p c rs m hM hl w hr
theorem potential_at (W H m : Nat) (b : Nat) (d : Nat) (ss : List Nat) (h1 : 4 ≤ W) (h2 : W ≤ 16) (h3 : 4 ≤ H) (h4 : H ≤ 16) (hM : Hid (m = W * H)) (h0 : 0 < m) (hm : m ≤ 1048576) (l : Hid (ss.length = m)) (w : World) (hs : Rd w (some ⟨b, 0, none⟩) ss) :
    Calls Try.prog 72 #[.agg #[.int .i64 (W : Nat), .int .i64 (H : Nat)], .slice (some ⟨b, 0, none⟩) m d, .int .i64 20] w fun e w' => Back w w' e m (solveF W H (ss.map (vf .f32)) 20) := by
  rw [← l.out]
  exact potential_any W H b d ss 20 h1 h2 h3 h4 (by omega) (l.out.trans hM.out) (by rw [l.out]; exact h0) (by rw [l.out]; exact hm) w hs

theorem bl_drew (w : World) : Below w.heap.size w w.drew := (Below.refl _ _).drew
theorem bl_drew_alloc (w : World) (o : Obj) : Below w.heap.size w (w.drew.alloc o) := (Below.refl _ _).drew.alloc (Nat.le_refl _) o
theorem bl_alloc (w : World) (o : Obj) : Below w.heap.size w (w.alloc o) := (Below.refl _ _).alloc (Nat.le_refl _) o
theorem bl_drewN (w : World) (n : Nat) : Below w.heap.size w (w.drewN n) := by simp [Below.refl]
theorem bl_of_drew {w w' : World} (h : Below w.drew.heap.size w.drew w') : Below w.heap.size w w' := (bl_drew w).trans h
theorem bl_of_drew_alloc {w w' : World} {o : Obj} (h : Below (w.drew.alloc o).heap.size (w.drew.alloc o) w') : Below w.heap.size w w' := (bl_drew_alloc w o).trans (h.mono (bl_drew_alloc w o).size)
theorem bl_of_alloc {w w' : World} {o : Obj} (h : Below (w.alloc o).heap.size (w.alloc o) w') : Below w.heap.size w w' := (bl_alloc w o).trans (h.mono (bl_alloc w o).size)

/-- A box of two integers that stands and may be written. -/
abbrev NB (w : World) (g : Nat) (x y : Value) : Prop := w.cell? ⟨g, 0, none⟩ = some x ∧ w.cell? ⟨g, 1, none⟩ = some y ∧ w.frozen? ⟨g, 0, none⟩ = false ∧ w.frozen? ⟨g, 1, none⟩ = false ∧ g < w.heap.size
theorem NB.step {w w' : World} {g : Nat} {x y : Value} (h : NB w g x y) (hb : Below w.heap.size w w') : NB w' g x y := by
  obtain ⟨a, b, c, d, e⟩ := h
  exact ⟨(hb.cell (p := ⟨g, 0, none⟩) e).trans a, (hb.cell (p := ⟨g, 1, none⟩) e).trans b, (hb.frozen (p := ⟨g, 0, none⟩) e).trans c, (hb.frozen (p := ⟨g, 1, none⟩) e).trans d, Nat.lt_of_lt_of_le e hb.size⟩
theorem NB.new (w : World) (x y : Value) (t : TypeId) : NB (w.alloc (.cells #[x, y] t)) w.heap.size x y := by
  have := blk2 (heap_alloc_new w (.cells #[x, y] t))
  exact ⟨this.1, this.2.1, this.2.2.1, this.2.2.2, by simp⟩
theorem NB.alloc {w w' : World} {x y : Value} {t : TypeId} (h : Below (w.alloc (.cells #[x, y] t)).heap.size (w.alloc (.cells #[x, y] t)) w') : NB w' w.heap.size x y := (NB.new w x y t).step h
theorem NB.drew_alloc {w w' : World} {x y : Value} {t : TypeId} (h : Below (w.drew.alloc (.cells #[x, y] t)).heap.size (w.drew.alloc (.cells #[x, y] t)) w') : NB w' w.heap.size x y := (NB.new w.drew x y t).step h

set_option maxHeartbeats 4000000 in
theorem impl_in (W H hw hh : Nat) (eW : Hid (W = 2 * hw)) (eH : Hid (H = 2 * hh)) (h1 : 4 ≤ hw) (h2 : hw ≤ 8) (h3 : 4 ≤ hh) (h4 : hh ≤ 8) (hev : evB W H = true) (p q c d : Nat) (rs ss : List Nat) (n : Nat) (R : Nat) (hR : R ≤ 60) (hn : Hid (n = W * H)) (l1 : Hid (rs.length = n)) (l2 : Hid (ss.length = n)) (hfit : fitB W H n = true) (w : World) (hr : Rd w (some ⟨p, 0, none⟩) rs) (hs : Rd w (some ⟨q, 0, none⟩) ss) :
    Calls Try.prog 45 #[.agg #[.int .i64 (W : Nat), .int .i64 (H : Nat)], .slice (some ⟨p, 0, none⟩) n c, .slice (some ⟨q, 0, none⟩) n d, .int .i64 (R : Nat)] w fun e w' => BackT w w' e true (twoF W H hw hh (rs.map (vf .f32)) (ss.map (vf .f32)) R) := by
  have hW16 : W ≤ 16 := by have := eW.out; omega
  have hH16 : H ≤ 16 := by have := eH.out; omega
  have hW8 : 8 ≤ W := by have := eW.out; omega
  have hH8 : 8 ≤ H := by have := eH.out; omega
  have hnn : n ≤ 256 := by rw [hn.out]; exact Nat.mul_le_mul hW16 hH16
  have hn0 : 0 < n := by rw [hn.out]; exact Nat.mul_pos (by omega) (by omega)
  have hin : inB (R : Nat) 0 60 = true := by simp only [inB, decide_eq_true_eq]; omega
  have hvg : vgB W H = true := by simp only [fitB, Bool.and_eq_true] at hfit; exact hfit.1
  have hf2 : fit2 W H n n = true := by simp [fit2, hfit]
  obtain ⟨m, hm⟩ : ∃ m, m = hw * hh := ⟨_, rfl⟩
  have hM : Hid (m = hw * hh) := hm
  have hmm : m ≤ 64 := by rw [hm]; exact Nat.mul_le_mul h2 h4
  have hm0 : 0 < m := by rw [hm]; exact Nat.mul_pos (by omega) (by omega)
  clear hm
  have hG0 := GI.start w W H
  go_enter Try.func45, Try.ntmps45
  go_wp2_with fail
  refine (isEven_any W H _).mono ?_
  rw [hvg, hev, Bool.true_and]
  rintro e w1 ⟨rfl, hb1⟩
  have hG1 := hG0.step hb1
  have k0 := hG1.c0
  have k1 := hG1.c1
  clear hb1
  go_wp2_with fail
  refine (areFields_any W H (some ⟨p, 0, none⟩) (some ⟨q, 0, none⟩) n n c d (by omega) (by omega) _).mono ?_
  rw [hf2]
  rintro e w2 ⟨rfl, hb2⟩
  have hG2 := hG1.step hb2
  clear hb2 k0 k1
  go_wp2_with fail
  refine (SolveP.isRounds_any (R : Nat) _).mono ?_
  rw [hin]
  rintro e w3 ⟨rfl, hb3⟩
  have hb3 : Below w2.heap.size w2 w3 := by rw [hb3]; exact Below.refl _ _
  have hG3 := hG2.step hb3
  clear hb3 hG1 hG2
  go_wp2_with fail
  have hc := Clone_any p c rs w3 (by rw [l1.out]; exact hn0) (by rw [l1.out]; omega) (hr.below hG3.below)
  rw [l1.out] at hc
  refine hc.mono ?_
  rintro e w4 ⟨q4, c4, rfl, o4, b4⟩
  have hG4 := hG3.step b4
  obtain ⟨g4, rfl⟩ : ∃ g, q4 = some ⟨g, 0, none⟩ := by obtain ⟨g, hg, _⟩ := o4.cells (by rw [l1.out]; exact hn0); exact ⟨g, hg⟩
  have z4 := (o4.lt _ rfl).2
  have o4 := o4.mono hG3.size
  have y4 := (o4.lt _ rfl).1
  clear hc b4
  go_wp2_with fail
  have hc := withoutMean_any q d ss w4 (by rw [l2.out]; exact hn0) (by rw [l2.out]; omega) (hs.below hG4.below)
  rw [l2.out] at hc
  refine hc.mono ?_
  rintro e w5 ⟨q5, c5, ls, rfl, o5, v5, b5⟩
  have hG5 := hG4.step b5
  have l5 : Hid (ls.length = n) := by have := congrArg List.length v5; show _ = _; simpa [levelF, l2.out] using this
  obtain ⟨g5, rfl⟩ : ∃ g, q5 = some ⟨g, 0, none⟩ := by obtain ⟨g, hg, _⟩ := o5.cells (by rw [l5.out]; exact hn0); exact ⟨g, hg⟩
  have hne : g5 ≠ g4 := by have := (o5.lt _ rfl).1; simp at z4 this; omega
  have o5 := o5.mono hG4.size
  have o4 := o4.below b5
  clear hc b5 z4
  have hc := sweeps_any W H g4 c4 rs (some ⟨g5, 0, none⟩) c5 ls R (w.heap.size + 1) (by omega) (by omega) (by omega) (by omega) hR (by rw [l1.out]; exact hn.out) (by rw [l5.out, l1.out]) w5 o4 o5.rd (fun a ha => by cases ha; exact hne)
  rw [l1.out, l5.out] at hc
  have k0 := hG5.c0
  have k1 := hG5.c1
  go_wp2_with fail
  refine hc.mono ?_
  rintro e w6 ⟨rfl, rs6, l6, o6, v6, hg6⟩
  have hG6 := GI.gb hG5 hg6 y4
  have o5 := o5.gb hg6 (fun a ha he => by cases ha; exact hne (by simpa using he))
  rw [v5] at v6
  clear hc hg6 o4 hG3 hG4 hG5 k0 k1
  have l6 : Hid (rs6.length = n) := l6
  have k0 := hG6.c0
  have k1 := hG6.c1
  have hs6 := hs.below hG6.below
  have n0 := World.new_ne w6 _ k0
  have n1 := World.new_ne w6 _ k1
  go_upto_region 5 with fail
  go_cut [12, 13] from 42 to 50 (fun a b wx => ∃ (g12 g8 c8 : Nat) (rs8 : List Nat), a = .pointer (some ⟨g12, 0, none⟩) ∧ b = .slice (some ⟨g8, 0, none⟩) m c8 ∧ g12 < wx.heap.size ∧ wx.cell? ⟨g12, 0, none⟩ = some (.int .i64 (hw : Nat)) ∧ wx.cell? ⟨g12, 1, none⟩ = some (.int .i64 (hh : Nat)) ∧ Ow wx w6.heap.size (some ⟨g8, 0, none⟩) c8 rs8 ∧ rs8.map (vf .f32) = coarseF hw hh (restF W H (rs6.map (vf .f32)) (ss.map (vf .f32))) ∧ Below w6.heap.size w6 wx)
  case first =>
    go_region_held3 (fun w' => w'.cell? ⟨w.heap.size, 0, none⟩ = some (.int .i64 (W : Nat)) ∧ w'.cell? ⟨w.heap.size, 1, none⟩ = some (.int .i64 (H : Nat))) (go_keep)
      (first
        | (go_at_call 74; refine (rest_any W H (some ⟨g4, 0, none⟩) q c4 d rs6 ss n (by omega) hW16 (by omega) hH16 hn l6 l2 _ (by first | exact o6.rd.below (bl_drew w6) | exact o6.rd.below (bl_drew_alloc w6 _)) (by first | exact hs6.below (bl_drew w6) | exact hs6.below (bl_drew_alloc w6 _))).mono ?_; rintro e w7 ⟨q7, c7, rs7, rfl, o7, v7, b7⟩; have d7 : Below w6.heap.size w6 w7 := (by first | exact bl_of_drew b7 | exact bl_of_drew_alloc b7); have l7 : Hid (rs7.length = n) := (by have := congrArg List.length v7; show _ = _; simpa [restF, l2.out] using this); have hG7 := hG6.step d7; have j0 := hG7.c0; have j1 := hG7.c1; have o7 : Ow w7 w6.heap.size q7 c7 rs7 := o7.mono (by simp); have nn0 : w7.heap.size ≠ w.heap.size := World.new_ne w7 _ j0; try (have zN := NB.drew_alloc b7; obtain ⟨z0, z1, z2, z3, zl⟩ := zN))
        | (go_at_call 60; refine (coarse_at W H hw hh m hM eW eH h1 h2 h3 h4 q7 c7 rs7 n hn l7 _ (by first | exact o7.rd | exact o7.rd.below (bl_alloc w7 _))).mono ?_; rintro e w8 ⟨q8, c8, rs8, rfl, o8, v8, b8⟩; rw [v7] at v8; have d8 : Below w7.heap.size w7 w8 := (by first | exact b8 | exact bl_of_alloc b8); have hG8 := hG7.step d8; have m0 := hG8.c0; have m1 := hG8.c1; have d8' : Below w6.heap.size w6 w8 := d7.trans (d8.mono d7.size); have l8 : Hid (rs8.length = m) := (by have := congrArg List.length v8; show _ = _; simpa [coarseF, hM.out] using this); obtain ⟨g8, rfl⟩ : ∃ g, q8 = some ⟨g, 0, none⟩ := (by obtain ⟨g, hg, _⟩ := o8.cells (by rw [l8.out]; exact hm0); exact ⟨g, hg⟩); have r8 := (o8.lt _ rfl).1; have o8 : Ow w8 w6.heap.size (some ⟨g8, 0, none⟩) c8 rs8 := o8.mono (by have := d7.size; simp; omega); have nn8 : w8.heap.size ≠ w.heap.size := World.new_ne w8 _ m0; (try (have yN := NB.alloc b8; obtain ⟨y0, y1, y2, y3, yl⟩ := yN)); (try (have yN := NB.step ⟨z0, z1, z2, z3, zl⟩ d8; obtain ⟨y0, y1, y2, y3, yl⟩ := yN))))
    · go_wp2
      go_meet
      exact ⟨w8.heap.size, g8, c8, rs8, rfl, rfl, by simp, by simp, by simp, o8.below (bl_alloc w8 _), v8, d8'.alloc d8'.size _⟩
    · have ne : w7.heap.size ≠ g8 := by (try simp at r8); omega
      go_wp2
      go_meet
      exact ⟨w7.heap.size, g8, c8, rs8, rfl, rfl, by simpa using yl, by simp [go_sem, y0], by simp [go_sem, y1], (o8.set_other (fun b o s e => by cases e; exact ne.symm) _).set_other (fun b o s e => by cases e; exact ne.symm) _, v8, (d8'.setCell (p := ⟨w7.heap.size, 0, none⟩) d7.size _).setCell (p := ⟨w7.heap.size, 1, none⟩) d7.size _⟩
    · have ne : w6.heap.size ≠ g8 := by (try simp at r8); omega
      go_wp2
      go_meet
      exact ⟨w6.heap.size, g8, c8, rs8, rfl, rfl, by simpa using yl, by simp [go_sem, y0], by simp [go_sem, y1], (o8.set_other (fun b o s e => by cases e; exact ne.symm) _).set_other (fun b o s e => by cases e; exact ne.symm) _, v8, (d8'.setCell (p := ⟨w6.heap.size, 0, none⟩) (Nat.le_refl _) _).setCell (p := ⟨w6.heap.size, 1, none⟩) (Nat.le_refl _) _⟩
  case rest =>
    obtain ⟨g12, g8, c8, rs8, rfl, rfl, zb, t0, t1, o8, v8, b8⟩ := hcut
    obtain ⟨wB, rfl⟩ : ∃ wB, wB = wc := ⟨_, rfl⟩
    have l8 : Hid (rs8.length = m) := by have := congrArg List.length v8; show _ = _; simpa [coarseF, hM.out] using this
    have z4 := (o6.lt _ rfl).2
    have hGB := hG6.step b8
    have o6 := o6.below b8
    have o5 := o5.below b8
    have zz := b8.size
    have n12 : wB.heap.size ≠ g12 := World.new_ne wB _ t0
    clear k0 k1 n0 n1 hs6 hG6
    go_upto_region 6 with fail
    go_cut [14, 15] from 51 to 59 (fun a b wx => ∃ (ga g10 c10 : Nat) (rs10 : List Nat), a = .pointer (some ⟨ga, 0, none⟩) ∧ b = .slice (some ⟨g10, 0, none⟩) n c10 ∧ Ow wx wB.heap.size (some ⟨g10, 0, none⟩) c10 rs10 ∧ rs10.map (vf .f32) = fineF hw hh (solveF hw hh (scaleF (rs8.map (vf .f32))) 20) ∧ Below wB.heap.size wB wx)
    case first =>
      go_region_held3 (fun w' => w'.cell? ⟨g12, 0, none⟩ = some (.int .i64 (hw : Nat)) ∧ w'.cell? ⟨g12, 1, none⟩ = some (.int .i64 (hh : Nat))) (go_keep)
        (first
          | (go_at_call 81; refine (scaled_any g8 c8 rs8 m hm0 (by omega) l8 _ (by first | exact o8.rd.below (bl_drew wB) | exact o8.rd.below (bl_drew_alloc wB _))).mono ?_; rintro e wS ⟨qS, cS, rsS, rfl, oS, vS, bS⟩; have dS : Below wB.heap.size wB wS := (by first | exact bl_of_drew bS | exact bl_of_drew_alloc bS); have lS : Hid (rsS.length = m) := (by have := congrArg List.length vS; show _ = _; simpa [scaleF, l8.out] using this); obtain ⟨gS, rfl⟩ : ∃ g, qS = some ⟨g, 0, none⟩ := (by obtain ⟨g, hg, _⟩ := oS.cells (by rw [lS.out]; exact hm0); exact ⟨g, hg⟩); have zS := Nat.lt_of_lt_of_le zb dS.size; have j0 : wS.cell? ⟨g12, 0, none⟩ = some (.int .i64 (hw : Nat)) := (dS.cell (p := ⟨g12, 0, none⟩) zb).trans t0; have j1 : wS.cell? ⟨g12, 1, none⟩ = some (.int .i64 (hh : Nat)) := (dS.cell (p := ⟨g12, 1, none⟩) zb).trans t1; have nS : wS.heap.size ≠ g12 := World.new_ne wS _ j0; (try (have zN := NB.drew_alloc bS; obtain ⟨z0, z1, z2, z3, zl⟩ := zN)))
          | (go_at_call 72; refine (potential_at hw hh m gS cS rsS h1 (by omega) h3 (by omega) hM hm0 (by omega) lS _ (by first | exact oS.rd | exact oS.rd.below (bl_alloc wS _))).mono ?_; rintro e wP ⟨qP, cP, rsP, rfl, oP, vP, bP⟩; rw [vS] at vP; have dP : Below wS.heap.size wS wP := (by first | exact bP | exact bl_of_alloc bP); have lP : Hid (rsP.length = m) := (by have := congrArg List.length vP; show _ = _; simpa [solveF, levelF, scaleF, l8.out] using this); have zP := Nat.lt_of_lt_of_le zS dP.size; have m0 : wP.cell? ⟨g12, 0, none⟩ = some (.int .i64 (hw : Nat)) := (dP.cell (p := ⟨g12, 0, none⟩) zS).trans j0; have m1 : wP.cell? ⟨g12, 1, none⟩ = some (.int .i64 (hh : Nat)) := (dP.cell (p := ⟨g12, 1, none⟩) zS).trans j1; have nP : wP.heap.size ≠ g12 := World.new_ne wP _ m0; have dP' : Below wB.heap.size wB wP := dS.trans (dP.mono dS.size); (try (have yN := NB.alloc bP; obtain ⟨y0, y1, y2, y3, yl⟩ := yN)); (try (have yN := NB.step ⟨z0, z1, z2, z3, zl⟩ dP; obtain ⟨y0, y1, y2, y3, yl⟩ := yN)))
          | (go_at_call 52; refine (fine_at W H hw hh m hM eW eH h1 h2 h3 h4 qP cP rsP n hn lP _ (by first | exact oP.rd | exact oP.rd.below (bl_alloc wP _))).mono ?_; rintro e wF ⟨qF, cF, rsF, rfl, oF, vF, bF⟩; rw [vP] at vF; have dF : Below wP.heap.size wP wF := (by first | exact bF | exact bl_of_alloc bF); have lF : Hid (rsF.length = n) := (by have := congrArg List.length vF; show _ = _; simpa [fineF, hn.out, eW.out, eH.out] using this); obtain ⟨gF, rfl⟩ : ∃ g, qF = some ⟨g, 0, none⟩ := (by obtain ⟨g, hg, _⟩ := oF.cells (by rw [lF.out]; exact hn0); exact ⟨g, hg⟩); have p0 : wF.cell? ⟨g12, 0, none⟩ = some (.int .i64 (hw : Nat)) := (dF.cell (p := ⟨g12, 0, none⟩) zP).trans m0; have p1 : wF.cell? ⟨g12, 1, none⟩ = some (.int .i64 (hh : Nat)) := (dF.cell (p := ⟨g12, 1, none⟩) zP).trans m1; have nF : wF.heap.size ≠ g12 := World.new_ne wF _ p0; have dF' : Below wB.heap.size wB wF := dP'.trans (dF.mono dP'.size); have rF := (oF.lt _ rfl).1; have oF : Ow wF wB.heap.size (some ⟨gF, 0, none⟩) cF rsF := oF.mono (by have := dP'.size; simp; omega); (try (have uN := NB.alloc bF; obtain ⟨u0, u1, u2, u3, ul⟩ := uN)); (try (have uN := NB.step ⟨y0, y1, y2, y3, yl⟩ dF; obtain ⟨u0, u1, u2, u3, ul⟩ := uN))))
      · go_wp2
        go_meet
        exact ⟨wF.heap.size, gF, cF, rsF, rfl, rfl, oF.below (bl_alloc wF _), vF, dF'.alloc dF'.size _⟩
      · have ne : wP.heap.size ≠ gF := by (try simp at rF); omega
        have le : wB.heap.size ≤ wP.heap.size := dP'.size
        go_wp2
        go_meet
        exact ⟨wP.heap.size, gF, cF, rsF, rfl, rfl, (oF.set_other (fun b o s e => by cases e; exact ne.symm) _).set_other (fun b o s e => by cases e; exact ne.symm) _, vF, (dF'.setCell (p := ⟨wP.heap.size, 0, none⟩) le _).setCell (p := ⟨wP.heap.size, 1, none⟩) le _⟩
      · have ne : wS.heap.size ≠ gF := by (try simp at rF); omega
        have le : wB.heap.size ≤ wS.heap.size := dS.size
        go_wp2
        go_meet
        exact ⟨wS.heap.size, gF, cF, rsF, rfl, rfl, (oF.set_other (fun b o s e => by cases e; exact ne.symm) _).set_other (fun b o s e => by cases e; exact ne.symm) _, vF, (dF'.setCell (p := ⟨wS.heap.size, 0, none⟩) le _).setCell (p := ⟨wS.heap.size, 1, none⟩) le _⟩
      · have ne : wB.heap.size ≠ gF := by (try simp at rF); have := dP.size; omega
        have le : wB.heap.size ≤ wB.heap.size := Nat.le_refl _
        go_wp2
        go_meet
        exact ⟨wB.heap.size, gF, cF, rsF, rfl, rfl, (oF.set_other (fun b o s e => by cases e; exact ne.symm) _).set_other (fun b o s e => by cases e; exact ne.symm) _, vF, (dF'.setCell (p := ⟨wB.heap.size, 0, none⟩) le _).setCell (p := ⟨wB.heap.size, 1, none⟩) le _⟩
    case rest =>
      obtain ⟨ga, g10, c10, rs10, rfl, rfl, o10, v10, b10⟩ := hcut
      obtain ⟨wC, rfl⟩ : ∃ wC, wC = wc := ⟨_, rfl⟩
      have l10 : Hid (rs10.length = n) := by have := congrArg List.length v10; show _ = _; simpa [fineF, hn.out, eW.out, eH.out] using this
      have ne10 : g10 ≠ g4 := by
        have a1 : wB.heap.size ≤ g10 := (o10.lt _ rfl).1
        have a2 : g4 < w6.heap.size := z4
        omega
      have hG8 := hGB.step b10
      have o6 := o6.below b10
      have o5 := o5.below b10
      have p6 := Pt.of_eq (xs := rs6) rfl (n := n) (by simp [l6.out])
      have p10 := Pt.of_eq (xs := rs10) rfl (n := n) (by simp [l10.out])
      clear hGB b8 b10 o8 t0 t1 zb n12
      go_wp2
      go_loopw [62] (fun i wq => ∃ (k : Nat) (ys : List Nat), k ≤ n ∧ i = .int .i64 k ∧ Ow wq (w.heap.size + 1) (some ⟨g4, 0, none⟩) c4 ys ∧ Pt n 0 k (addAt (rs6.map (vf .f32)) (rs10.map (vf .f32))) ys ∧ Pt n k n (fun k => (rs6.map (vf .f32)).getD k none) ys ∧ wC.grownBy wq (some g4)) (fun i _ => n - (intOf i).toNat)
      case atStart => exact ⟨0, rs6, Nat.zero_le _, rfl, o6, Pt.none p6.len (Nat.le_refl _), p6, gb_refl _ _⟩
      case round =>
        clear o6 p6
        obtain ⟨k, ys, hk, rfl, o6, pa, pb, hgb⟩ := hrel
        have o10 := o10.gb hgb (fun a ha he => by cases ha; exact ne10 (by simpa using he))
        by_cases hlt : k < n
        · clear v5 v6 v8 v10
          obtain ⟨x0, v0, c0⟩ := o6.get pb (k := k) (by omega) hlt hlt
          obtain ⟨x1, v1, c1⟩ := o10.get p10 (k := k) (by omega) hlt hlt
          obtain ⟨_, f0⟩ := o6.slot (k := k) (by rw [pa.len]; exact hlt)
          go_wp2_with (refine wpList_flt rfl rfl rfl rfl rfl (fun r n1 hr1 => ?_))
          have hv : Hid (vf .f32 r = addAt (rs6.map (vf .f32)) (rs10.map (vf .f32)) k) := by
            have a1 := hr1.out
            rw [v0.out, v1.out] at a1
            exact a1
          go_roundw
          case rel => exact ⟨k + 1, _, by omega, by go_num, (o6.drewN n1).set (by rw [pa.len]; exact hlt) r, pa.up hlt hv.out, (pb.mono (Nat.le_succ k) (Nat.le_refl _)).keep (Nat.le_refl _) (Or.inl (Nat.lt_succ_self k)) r, gb_set (gb_trans hgb (gb_below (bl_drewN wr n1) (some g4))) _⟩
          case measure => simp [intOf]; omega
        · obtain rfl : n = k := by omega
          have hG9 := GI.gb hG8 hgb y4
          have o5 := o5.gb hgb (fun a ha he => by cases ha; exact hne (by simpa using he))
          have ly : Hid (ys.length = n) := pa.len
          have hc := sweeps_any W H g4 c4 ys (some ⟨g5, 0, none⟩) c5 ls R (w.heap.size + 1) (by omega) (by omega) (by omega) (by omega) hR (by rw [ly.out]; exact hn.out) (by rw [l5.out, ly.out]) _ o6 o5.rd (fun a ha => by cases ha; exact hne)
          rw [ly.out, l5.out] at hc
          have k0 := hG9.c0
          have k1 := hG9.c1
          go_wp2_with fail
          refine hc.mono ?_
          rintro e w11 ⟨rfl, rs11, l11, o11, v11, hg11⟩
          go_wp2
          go_ret2
          refine ⟨_, _, rs11, by rw [l11]; rfl, o11.mono (Nat.le_succ _), ?_, by omega, (GI.gb hG9 hg11 y4).below⟩
          rw [v11, v5, pa.all, twoF, ← v6, addF, moreF, ← v8, ← v10, List.length_map, l6.out]
end Go.Proofs.Ytdafcgimkiepnaa.TwoG
