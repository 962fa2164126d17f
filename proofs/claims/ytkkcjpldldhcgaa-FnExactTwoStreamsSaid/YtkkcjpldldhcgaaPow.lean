/-
  A cloud if it is valid: contracts of the reference's l05Give and of the program's ValidCloud and with.
  Conditions: none.
-/
import Derived.Test.YtkkcjpldldhcgaaPok
namespace Go.Proofs.Ytkkcjpldldhcgaa.Pow
open Go Go.RowKit Go.Proofs.Ytkkcjpldldhcgaa.Fl Go.Proofs.Ytkkcjpldldhcgaa.Reg Go.Proofs.Ytkkcjpldldhcgaa.Step Go.Proofs.Ytkkcjpldldhcgaa.Mem Go.Proofs.Ytkkcjpldldhcgaa.Help Go.Proofs.Ytkkcjpldldhcgaa.Grid Go.Proofs.Ytkkcjpldldhcgaa.App Go.Proofs.Ytkkcjpldldhcgaa.Level Go.Proofs.Ytkkcjpldldhcgaa.Law Go.Proofs.Ytkkcjpldldhcgaa.Fin Go.Proofs.Ytkkcjpldldhcgaa.Spring Go.Proofs.Ytkkcjpldldhcgaa.Part Go.Proofs.Ytkkcjpldldhcgaa.Pok

theorem bool_perm (a b c : Bool) : (true && a && b && c) = (true && c && (a && b)) := by cases a <;> cases b <;> cases c <;> rfl

set_option maxHeartbeats 400000 in
theorem ValidCloud_any (W H : Int) (a : Option Addr) (c : Nat) (ps : List Pa) (mg bk n : Nat) (hl : Hid (ps.length = n)) (hn : n ≤ 48) (w : World) (hr : PRd w a ps) :
    Calls Try.prog 65 #[.agg #[.int .i64 W, .int .i64 H, .slice a n c, .float .f32 mg, .float .f32 bk]] w fun e w' => e = .returned (.bool (okCl W H ps mg bk)) ∧ Below w.heap.size w w' := by
  have bA : Below w.heap.size w (w.alloc (.cells #[.int .i64 W, .int .i64 H, .slice a n c, .float .f32 mg, .float .f32 bk] 50)) := (Below.refl _ _).alloc (Nat.le_refl _) _
  have hB := Bc.new w W H (.slice a n c) mg bk 50
  have hr := hr.below bA
  generalize hwA : w.alloc (.cells #[.int .i64 W, .int .i64 H, .slice a n c, .float .f32 mg, .float .f32 bk] 50) = wA at *
  have hW : Hid (w.alloc (.cells #[.int .i64 W, .int .i64 H, .slice a n c, .float .f32 mg, .float .f32 bk] 50) = wA) := hwA
  clear hwA
  unfold okCl
  cases h1 : vgB W H
  · have hB0 := hB
    obtain ⟨k0, k1, k2, k3, k4⟩ := hB0
    go_enter Try.func65, Try.ntmps65
    go_wp2_with fail
    simp only [hW.out]
    refine (ValidGrid_any W H _).mono ?_
    rw [h1]
    rintro e w1 ⟨rfl, hb1⟩
    clear h1 k0 k1 k2 k3 k4
    go_wp2
    go_ret
    exact ⟨rfl, bA.trans (hb1.mono bA.size)⟩
  cases h2 : ps.all okPa
  · have hB0 := hB
    obtain ⟨k0, k1, k2, k3, k4⟩ := hB0
    go_enter Try.func65, Try.ntmps65
    go_wp2_with fail
    simp only [hW.out]
    refine (ValidGrid_any W H _).mono ?_
    rw [h1]
    rintro e w1 ⟨rfl, hb1⟩
    clear h1 k0 k1 k2 k3 k4
    have b1 := bA.trans (hb1.mono bA.size)
    obtain ⟨k0, k1, k2, k3, k4⟩ := hB.below hb1
    go_wp2_with fail
    refine (AreParticles_any a c ps n hl hn _ (hr.below hb1)).mono ?_
    rw [h2]
    rintro e w2 ⟨rfl, hb2⟩
    clear h2 k0 k1 k2 k3 k4
    go_wp2
    go_ret
    exact ⟨by simp, b1.trans (hb2.mono b1.size)⟩
  · have hB0 := hB
    obtain ⟨k0, k1, k2, k3, k4⟩ := hB0
    rw [bool_perm]
    go_enter Try.func65, Try.ntmps65
    go_wp2_with fail
    simp only [hW.out]
    refine (ValidGrid_any W H _).mono ?_
    rw [h1]
    rintro e w1 ⟨rfl, hb1⟩
    clear h1 k0 k1 k2 k3 k4
    have b1 := bA.trans (hb1.mono bA.size)
    have hB1 := hB.below hb1
    have hB2 := hB1
    obtain ⟨k0, k1, k2, k3, k4⟩ := hB2
    go_wp2_with fail
    refine (AreParticles_any a c ps n hl hn _ (hr.below hb1)).mono ?_
    rw [h2]
    rintro e w2 ⟨rfl, hb2⟩
    have b2 := b1.trans (hb2.mono b1.size)
    clear h2 k0 k1 k2 k3 k4
    obtain ⟨k0, k1, k2, k3, k4⟩ := hB1.below hb2
    have bT := (Below.refl w2.heap.size w2).alloc (Nat.le_refl _) (.cells #[.float .f32 mg, .float .f32 bk] 25)
    go_wp2_with fail
    refine (areFinite_any _ _ [mg, bk] 2 rfl (by omega) _ (Rd.two w2 mg bk)).mono ?_
    rw [two_all]
    rintro e w3 ⟨rfl, hb3⟩
    have b23 := bT.trans (hb3.mono (by simp))
    clear k0 k1 k2 k3 k4
    go_wp2
    go_ret
    exact ⟨by simp, b2.trans (b23.mono b2.size)⟩

/-- The five cells of a box may be written. -/
def Fz (w : World) (g : Nat) : Prop :=
  w.frozen? ⟨g, 0, none⟩ = false ∧ w.frozen? ⟨g, 1, none⟩ = false ∧ w.frozen? ⟨g, 2, none⟩ = false ∧ w.frozen? ⟨g, 3, none⟩ = false ∧ w.frozen? ⟨g, 4, none⟩ = false
theorem Fz.below {w w' : World} {g : Nat} (h : Fz w g) (hg : g < w.heap.size) (hb : Below w.heap.size w w') : Fz w' g :=
  ⟨(hb.frozen (p := ⟨g, 0, none⟩) hg).trans h.1, (hb.frozen (p := ⟨g, 1, none⟩) hg).trans h.2.1, (hb.frozen (p := ⟨g, 2, none⟩) hg).trans h.2.2.1, (hb.frozen (p := ⟨g, 3, none⟩) hg).trans h.2.2.2.1, (hb.frozen (p := ⟨g, 4, none⟩) hg).trans h.2.2.2.2⟩
theorem Fz.new (w : World) (cur : Array Value) (t : TypeId) : Fz (w.alloc (.cells cur t)) w.heap.size := by
  have key : ∀ (w' : World) (g i : Nat), w'.heap[g]? = some (.cells cur t (0, 0)) → w'.frozen? ⟨g, i, none⟩ = false := fun w' g i hg => by simp [World.frozen?, hg]
  exact ⟨key _ _ _ (heap_alloc_new w _), key _ _ _ (heap_alloc_new w _), key _ _ _ (heap_alloc_new w _), key _ _ _ (heap_alloc_new w _), key _ _ _ (heap_alloc_new w _)⟩
def zeroCl : Value := .agg #[.int .i64 0, .int .i64 0, .slice none 0 0, .float .f32 0, .float .f32 0]
def clV (W H : Int) (v : Value) (mg bk : Nat) : Value := .agg #[.int .i64 W, .int .i64 H, v, .float .f32 mg, .float .f32 bk]
def giveV (b : Bool) (W H : Int) (v : Value) (mg bk : Nat) : Value := match b with
  | true => .tuple #[clV W H v mg bk, .bool true]
  | false => .tuple #[zeroCl, .bool false]
/-- Two boxes, the second one empty. -/
theorem boxes (w : World) (W H : Int) (v : Value) (mg bk : Nat) : ∃ wA, (w.alloc (.cells #[.int .i64 W, .int .i64 H, v, .float .f32 mg, .float .f32 bk] 50)).alloc (.cells #[.int .i64 0, .int .i64 0, .slice none 0 0, .float .f32 0, .float .f32 0] 50) = wA ∧
    Bc wA w.heap.size W H v mg bk ∧ Fz wA w.heap.size ∧ Bc wA (w.heap.size + 1) 0 0 (.slice none 0 0) 0 0 ∧ Fz wA (w.heap.size + 1) ∧ Below w.heap.size w wA ∧ wA.heap.size = w.heap.size + 2 := by
  have h1 := Bc.new w W H v mg bk 50
  have f1 := Fz.new w #[.int .i64 W, .int .i64 H, v, .float .f32 mg, .float .f32 bk] 50
  have b1 : Below w.heap.size w (w.alloc (.cells #[.int .i64 W, .int .i64 H, v, .float .f32 mg, .float .f32 bk] 50)) := (Below.refl _ _).alloc (Nat.le_refl _) _
  have s1 : (w.alloc (.cells #[.int .i64 W, .int .i64 H, v, .float .f32 mg, .float .f32 bk] 50)).heap.size = w.heap.size + 1 := by simp
  generalize w.alloc (.cells #[.int .i64 W, .int .i64 H, v, .float .f32 mg, .float .f32 bk] 50) = w1 at *
  have b2 : Below w1.heap.size w1 (w1.alloc (.cells #[.int .i64 0, .int .i64 0, .slice none 0 0, .float .f32 0, .float .f32 0] 50)) := (Below.refl _ _).alloc (Nat.le_refl _) _
  refine ⟨_, rfl, h1.below b2, f1.below h1.lt b2, ?_, ?_, b1.trans (b2.mono b1.size), by simp [s1]⟩
  · rw [← s1]; exact Bc.new w1 0 0 (.slice none 0 0) 0 0 _
  · rw [← s1]; exact Fz.new w1 _ _

set_option maxHeartbeats 1000000 in
theorem l05Give_any (W H : Int) (a : Option Addr) (c : Nat) (ps : List Pa) (mg bk n : Nat) (hl : Hid (ps.length = n)) (hn : n ≤ 48) (w : World) (hr : PRd w a ps) :
    Calls Try.prog 53 #[.agg #[.int .i64 W, .int .i64 H, .slice a n c, .float .f32 mg, .float .f32 bk]] w fun e w' => e = .returned (giveV (okCl W H ps mg bk) W H (.slice a n c) mg bk) ∧ Below w.heap.size w w' := by
  obtain ⟨wA, hwA, B1, F1, B2, F2, bA, sA⟩ := boxes w W H (.slice a n c) mg bk
  have hr := hr.below bA
  cases hok : okCl W H ps mg bk
  · go_enter Try.func53, Try.ntmps53
    go_wp2_with fail
    generalize hwB : (w.alloc (.cells #[.int .i64 W, .int .i64 H, .slice a n c, .float .f32 mg, .float .f32 bk] 50)).alloc (.cells #[.int .i64 0, .int .i64 0, .slice none 0 0, .float .f32 0, .float .f32 0] 50) = wB at *
    subst hwA
    clear hwB
    refine (l05Is_any w.heap.size W H a c ps mg bk n hl hn _ B1 hr).mono ?_
    rw [hok]
    rintro e w1 ⟨rfl, hb1⟩
    obtain ⟨f0, f1, f2, f3, f4⟩ := F2.below B2.lt hb1
    have B2' := B2.below hb1
    obtain ⟨k0, k1, k2, k3, k4⟩ := B2'
    have bb := bA.trans (hb1.mono bA.size)
    clear hok
    go_wp2
    refine bodyPost_ret (v := .tuple #[zeroCl, .bool false]) (by simp [results, Try.results53, go_sem, k0, k1, k2, k3, k4, zeroCl]) rfl ⟨rfl, ?_⟩
    exact ((((bb.setCell (p := ⟨w.heap.size + 1, 0, none⟩) (Nat.le_succ _) _).setCell (p := ⟨w.heap.size + 1, 1, none⟩) (Nat.le_succ _) _).setCell (p := ⟨w.heap.size + 1, 2, none⟩) (Nat.le_succ _) _).setCell (p := ⟨w.heap.size + 1, 3, none⟩) (Nat.le_succ _) _).setCell (p := ⟨w.heap.size + 1, 4, none⟩) (Nat.le_succ _) _
  · go_enter Try.func53, Try.ntmps53
    go_wp2_with fail
    generalize hwB : (w.alloc (.cells #[.int .i64 W, .int .i64 H, .slice a n c, .float .f32 mg, .float .f32 bk] 50)).alloc (.cells #[.int .i64 0, .int .i64 0, .slice none 0 0, .float .f32 0, .float .f32 0] 50) = wB at *
    subst hwA
    clear hwB
    refine (l05Is_any w.heap.size W H a c ps mg bk n hl hn _ B1 hr).mono ?_
    rw [hok]
    rintro e w1 ⟨rfl, hb1⟩
    obtain ⟨f0, f1, f2, f3, f4⟩ := F2.below B2.lt hb1
    have B2' := B2.below hb1
    obtain ⟨k0, k1, k2, k3, k4⟩ := B2'
    have B1' := B1.below hb1
    obtain ⟨j0, j1, j2, j3, j4⟩ := B1'
    have bb := bA.trans (hb1.mono bA.size)
    clear hok
    go_wp2
    refine bodyPost_ret (v := .tuple #[clV W H (.slice a n c) mg bk, .bool true]) (by simp [results, Try.results53, go_sem, k0, k1, k2, k3, k4, clV]) rfl ⟨rfl, ?_⟩
    exact ((((bb.setCell (p := ⟨w.heap.size + 1, 0, none⟩) (Nat.le_succ _) _).setCell (p := ⟨w.heap.size + 1, 1, none⟩) (Nat.le_succ _) _).setCell (p := ⟨w.heap.size + 1, 2, none⟩) (Nat.le_succ _) _).setCell (p := ⟨w.heap.size + 1, 3, none⟩) (Nat.le_succ _) _).setCell (p := ⟨w.heap.size + 1, 4, none⟩) (Nat.le_succ _) _

theorem Bc.set2 {w : World} {g : Nat} {W H : Int} {v : Value} {mg bk : Nat} (h : Bc w g W H v mg bk) (u : Value) : Bc (w.setCell ⟨g, 2, none⟩ u) g W H u mg bk := by
  obtain ⟨h0, h1, h2, h3, h4⟩ := h
  exact ⟨by simp [go_sem, h0], by simp [go_sem, h1], by simp [go_sem, h2], by simp [go_sem, h3], by simp [go_sem, h4]⟩
theorem Bc.other {w : World} {g g' i : Nat} {W H : Int} {v : Value} {mg bk : Nat} (h : Bc w g W H v mg bk) (hne : g ≠ g') (u : Value) : Bc (w.setCell ⟨g', i, none⟩ u) g W H v mg bk := by
  obtain ⟨h0, h1, h2, h3, h4⟩ := h
  exact ⟨by simp [go_sem, h0], by simp [go_sem, h1], by simp [go_sem, h2], by simp [go_sem, h3], by simp [go_sem, h4]⟩
theorem Fz.set {w : World} {g g' i : Nat} (h : Fz w g) (u : Value) : Fz (w.setCell ⟨g', i, none⟩ u) g := by
  obtain ⟨h0, h1, h2, h3, h4⟩ := h
  exact ⟨by simp [go_sem, h0], by simp [go_sem, h1], by simp [go_sem, h2], by simp [go_sem, h3], by simp [go_sem, h4]⟩

set_option maxHeartbeats 1000000 in
theorem with_any (W H : Int) (v : Value) (a : Option Addr) (c : Nat) (ps : List Pa) (mg bk n : Nat) (hv : v = .slice none 0 0) (hl : Hid (ps.length = n)) (hn : n ≤ 48) (w : World) (hr : PRd w a ps) :
    Calls Try.prog 55 #[.agg #[.int .i64 W, .int .i64 H, v, .float .f32 mg, .float .f32 bk], .slice a n c] w fun e w' => e = .returned (giveV (okCl W H ps mg bk) W H (.slice a n c) mg bk) ∧ Below w.heap.size w w' := by
  subst hv
  obtain ⟨wA, hwA, B1, F1, B2, F2, bA, sA⟩ := boxes w W H (.slice none 0 0) mg bk
  have bC := bA.setCell (p := ⟨w.heap.size, 2, none⟩) (Nat.le_refl _) (.slice a n c)
  have C1 := Bc.set2 B1 (.slice a n c)
  have C2 := Bc.other B2 (g' := w.heap.size) (i := 2) (by omega) (.slice a n c)
  have D2 := F2.set (g' := w.heap.size) (i := 2) (.slice a n c)
  have hr := hr.below bC
  cases hok : okCl W H ps mg bk
  · go_enter Try.func55, Try.ntmps55
    obtain ⟨g0, g1, g2, g3, g4⟩ := F1
    obtain ⟨j0, j1, j2, j3, j4⟩ := B1
    go_wp2_with fail
    generalize hwB : (w.alloc (.cells #[.int .i64 W, .int .i64 H, .slice none 0 0, .float .f32 mg, .float .f32 bk] 50)).alloc (.cells #[.int .i64 0, .int .i64 0, .slice none 0 0, .float .f32 0, .float .f32 0] 50) = wB at *
    subst hwA
    clear hwB
    clear g0 g1 g2 g3 g4 j0 j1 j2 j3 j4 B2 F2
    generalize hwC : wB.setCell ⟨w.heap.size, 2, none⟩ (.slice a n c) = wC at *
    clear hwC
    refine (ValidCloud_any W H a c ps mg bk n hl hn _ hr).mono ?_
    rw [hok]
    rintro e w1 ⟨rfl, hb1⟩
    obtain ⟨f0, f1, f2, f3, f4⟩ := D2.below C2.lt hb1
    have C2' := C2.below hb1
    obtain ⟨k0, k1, k2, k3, k4⟩ := C2'
    have C1' := C1.below hb1
    obtain ⟨j0, j1, j2, j3, j4⟩ := C1'
    have bb := bC.trans (hb1.mono bC.size)
    clear hok
    go_wp2
    refine bodyPost_ret (v := .tuple #[zeroCl, .bool false]) (by simp [results, Try.results55, go_sem, k0, k1, k2, k3, k4, zeroCl]) rfl ⟨rfl, ?_⟩
    exact ((((bb.setCell (p := ⟨w.heap.size + 1, 0, none⟩) (Nat.le_succ _) _).setCell (p := ⟨w.heap.size + 1, 1, none⟩) (Nat.le_succ _) _).setCell (p := ⟨w.heap.size + 1, 2, none⟩) (Nat.le_succ _) _).setCell (p := ⟨w.heap.size + 1, 3, none⟩) (Nat.le_succ _) _).setCell (p := ⟨w.heap.size + 1, 4, none⟩) (Nat.le_succ _) _
  · go_enter Try.func55, Try.ntmps55
    obtain ⟨g0, g1, g2, g3, g4⟩ := F1
    obtain ⟨j0, j1, j2, j3, j4⟩ := B1
    go_wp2_with fail
    generalize hwB : (w.alloc (.cells #[.int .i64 W, .int .i64 H, .slice none 0 0, .float .f32 mg, .float .f32 bk] 50)).alloc (.cells #[.int .i64 0, .int .i64 0, .slice none 0 0, .float .f32 0, .float .f32 0] 50) = wB at *
    subst hwA
    clear hwB
    clear g0 g1 g2 g3 g4 j0 j1 j2 j3 j4 B2 F2
    generalize hwC : wB.setCell ⟨w.heap.size, 2, none⟩ (.slice a n c) = wC at *
    clear hwC
    refine (ValidCloud_any W H a c ps mg bk n hl hn _ hr).mono ?_
    rw [hok]
    rintro e w1 ⟨rfl, hb1⟩
    obtain ⟨f0, f1, f2, f3, f4⟩ := D2.below C2.lt hb1
    have C2' := C2.below hb1
    obtain ⟨k0, k1, k2, k3, k4⟩ := C2'
    have C1' := C1.below hb1
    obtain ⟨j0, j1, j2, j3, j4⟩ := C1'
    have bb := bC.trans (hb1.mono bC.size)
    clear hok
    go_wp2
    refine bodyPost_ret (v := .tuple #[clV W H (.slice a n c) mg bk, .bool true]) (by simp [results, Try.results55, go_sem, k0, k1, k2, k3, k4, clV]) rfl ⟨rfl, ?_⟩
    exact ((((bb.setCell (p := ⟨w.heap.size + 1, 0, none⟩) (Nat.le_succ _) _).setCell (p := ⟨w.heap.size + 1, 1, none⟩) (Nat.le_succ _) _).setCell (p := ⟨w.heap.size + 1, 2, none⟩) (Nat.le_succ _) _).setCell (p := ⟨w.heap.size + 1, 3, none⟩) (Nat.le_succ _) _).setCell (p := ⟨w.heap.size + 1, 4, none⟩) (Nat.le_succ _) _
end Go.Proofs.Ytkkcjpldldhcgaa.Pow
