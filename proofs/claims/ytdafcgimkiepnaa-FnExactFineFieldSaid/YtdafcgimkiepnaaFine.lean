/-
  The law FnExactFineField returns true for every argument (the statement FnExactFineFieldSaid): the FineField of the program and that of the reference agree.
  Conditions: none beyond those of the given statement.
-/
import Derived.Test.YtdafcgimkiepnaaGs
namespace Go.Proofs.Ytdafcgimkiepnaa.Fine
open Go Go.RowKit Go.ChangeShapes Go.WideShapes Go.ChangeAt Go.Joins Go.Proofs.Ytdafcgimkiepnaa.Fl Go.Proofs.Ytdafcgimkiepnaa.Reg Go.Proofs.Ytdafcgimkiepnaa.Step Go.Proofs.Ytdafcgimkiepnaa.Mem Go.Proofs.Ytdafcgimkiepnaa.Same Go.Proofs.Ytdafcgimkiepnaa.Help Go.Proofs.Ytdafcgimkiepnaa.Grid Go.Proofs.Ytdafcgimkiepnaa.Index Go.Proofs.Ytdafcgimkiepnaa.Mean Go.Proofs.Ytdafcgimkiepnaa.App Go.Proofs.Ytdafcgimkiepnaa.Level Go.Proofs.Ytdafcgimkiepnaa.Lap Go.Proofs.Ytdafcgimkiepnaa.Law Go.Proofs.Ytdafcgimkiepnaa.Half Go.Proofs.Ytdafcgimkiepnaa.Gs

def okF (W H : Int) (n : Nat) : Bool := fitB W H n && (decide (W ≤ 8) && decide (H ≤ 8))
def outG (W H : Int) (n : Nat) (x : Int) : Int := if okF W H n = true then 2 * x else 0
def outX (W H : Int) (n : Nat) (xs : List (Option Nat)) : List (Option Nat) := if okF W H n = true then fineF W.toNat H.toNat xs else []

set_option maxHeartbeats 1000000 in
theorem spec_bad (W H : Int) (p : Option Addr) (n c : Nat) (w : World) (hn : n ≤ 1048576) (h : okF W H n = false) :
    Calls Try.prog 22 #[.agg #[.int .i64 W, .int .i64 H], .slice p n c] w fun e w' => e = .returned (.tuple #[.agg #[.int .i64 0, .int .i64 0], .slice none 0 0, .bool false]) ∧ Below w.heap.size w w' := by
  have K := b2 w (.cells #[.int .i64 W, .int .i64 H] 27) (.cells #[.int .i64 0, .int .i64 0] 27)
  cases hf : fitB W H n
  · go_enter Try.func22, Try.ntmps22
    go_wp2_with fail
    generalize hwA : (w.alloc (.cells #[.int .i64 W, .int .i64 H] 27)).alloc (.cells #[.int .i64 0, .int .i64 0] 27) = wA at *
    clear hwA
    obtain ⟨kz, ka, kb, _⟩ := K.get (Below.refl _ _)
    refine (l03Fits_any w.heap.size W H p n c hn _ (by omega) ka kb).mono ?_
    rintro e w1 ⟨rfl, hb1⟩
    obtain ⟨kz1, k0, k1, kx, ky, kf, kg⟩ := K.get hb1
    clear ka kb
    go_wp2
    exact bodyPost_ret (v := .tuple #[.agg #[.int .i64 0, .int .i64 0], .slice none 0 0, .bool false]) (by simp [results, Try.results22, go_sem, kx, ky]) rfl
      ⟨rfl, ((K.2.2.2.trans (hb1.mono K.2.2.2.size)).setCell (p := ⟨w.heap.size + 1, 0, none⟩) (by simp) _).setCell (p := ⟨w.heap.size + 1, 1, none⟩) (by simp) _⟩
  · obtain ⟨h1, h2, h3, h4, _⟩ := fitB_spec hf
    have h' : ¬ (W ≤ 8 ∧ H ≤ 8) := by
      intro h5
      simp [okF, hf, h5.1, h5.2] at h
    clear h
    by_cases hw : W ≤ 8
    · have hh : 8 < H := by omega
      clear h'
      go_enter Try.func22, Try.ntmps22
      go_wp2_with fail
      generalize hwA : (w.alloc (.cells #[.int .i64 W, .int .i64 H] 27)).alloc (.cells #[.int .i64 0, .int .i64 0] 27) = wA at *
      clear hwA
      obtain ⟨kz, ka, kb, _⟩ := K.get (Below.refl _ _)
      refine (l03Fits_any w.heap.size W H p n c hn _ (by omega) ka kb).mono ?_
      rintro e w1 ⟨rfl, hb1⟩
      obtain ⟨kz1, k0, k1, kx, ky, kf, kg⟩ := K.get hb1
      clear ka kb
      go_wp2
      exact bodyPost_ret (v := .tuple #[.agg #[.int .i64 0, .int .i64 0], .slice none 0 0, .bool false]) (by simp [results, Try.results22, go_sem, kx, ky]) rfl
        ⟨rfl, ((K.2.2.2.trans (hb1.mono K.2.2.2.size)).setCell (p := ⟨w.heap.size + 1, 0, none⟩) (by simp) _).setCell (p := ⟨w.heap.size + 1, 1, none⟩) (by simp) _⟩
    · clear h'
      go_enter Try.func22, Try.ntmps22
      go_wp2_with fail
      generalize hwA : (w.alloc (.cells #[.int .i64 W, .int .i64 H] 27)).alloc (.cells #[.int .i64 0, .int .i64 0] 27) = wA at *
      clear hwA
      obtain ⟨kz, ka, kb, _⟩ := K.get (Below.refl _ _)
      refine (l03Fits_any w.heap.size W H p n c hn _ (by omega) ka kb).mono ?_
      rintro e w1 ⟨rfl, hb1⟩
      obtain ⟨kz1, k0, k1, kx, ky, kf, kg⟩ := K.get hb1
      clear ka kb
      go_wp2
      exact bodyPost_ret (v := .tuple #[.agg #[.int .i64 0, .int .i64 0], .slice none 0 0, .bool false]) (by simp [results, Try.results22, go_sem, kx, ky]) rfl
        ⟨rfl, ((K.2.2.2.trans (hb1.mono K.2.2.2.size)).setCell (p := ⟨w.heap.size + 1, 0, none⟩) (by simp) _).setCell (p := ⟨w.heap.size + 1, 1, none⟩) (by simp) _⟩

set_option maxHeartbeats 1000000 in
theorem impl_bad (W H : Int) (p : Option Addr) (n c : Nat) (w : World) (hn : n ≤ 1048576) (h : okF W H n = false) :
    Calls Try.prog 23 #[.agg #[.int .i64 W, .int .i64 H], .slice p n c] w fun e w' => e = .returned (.tuple #[.agg #[.int .i64 0, .int .i64 0], .slice none 0 0, .bool false]) ∧ Below w.heap.size w w' := by
  have K := b2 w (.cells #[.int .i64 W, .int .i64 H] 27) (.cells #[.int .i64 0, .int .i64 0] 27)
  cases hf : fitB W H n
  · go_enter Try.func23, Try.ntmps23
    go_wp2_with fail
    generalize hwA : (w.alloc (.cells #[.int .i64 W, .int .i64 H] 27)).alloc (.cells #[.int .i64 0, .int .i64 0] 27) = wA at *
    clear hwA
    refine (IsField_any W H p n c hn _).mono ?_
    rintro e w1 ⟨rfl, hb1⟩
    obtain ⟨kz1, k0, k1, kx, ky, kf, kg⟩ := K.get hb1
    go_wp2
    exact bodyPost_ret (v := .tuple #[.agg #[.int .i64 0, .int .i64 0], .slice none 0 0, .bool false]) (by simp [results, Try.results23, go_sem, kx, ky]) rfl
      ⟨rfl, ((K.2.2.2.trans (hb1.mono K.2.2.2.size)).setCell (p := ⟨w.heap.size + 1, 0, none⟩) (by simp) _).setCell (p := ⟨w.heap.size + 1, 1, none⟩) (by simp) _⟩
  · obtain ⟨h1, h2, h3, h4, _⟩ := fitB_spec hf
    have h' : ¬ (W ≤ 8 ∧ H ≤ 8) := by
      intro h5
      simp [okF, hf, h5.1, h5.2] at h
    clear h
    by_cases hw : W ≤ 8
    · have hh : 8 < H := by omega
      clear h'
      go_enter Try.func23, Try.ntmps23
      go_wp2_with fail
      generalize hwA : (w.alloc (.cells #[.int .i64 W, .int .i64 H] 27)).alloc (.cells #[.int .i64 0, .int .i64 0] 27) = wA at *
      clear hwA
      refine (IsField_any W H p n c hn _).mono ?_
      rintro e w1 ⟨rfl, hb1⟩
      obtain ⟨kz1, k0, k1, kx, ky, kf, kg⟩ := K.get hb1
      go_wp2
      exact bodyPost_ret (v := .tuple #[.agg #[.int .i64 0, .int .i64 0], .slice none 0 0, .bool false]) (by simp [results, Try.results23, go_sem, kx, ky]) rfl
        ⟨rfl, ((K.2.2.2.trans (hb1.mono K.2.2.2.size)).setCell (p := ⟨w.heap.size + 1, 0, none⟩) (by simp) _).setCell (p := ⟨w.heap.size + 1, 1, none⟩) (by simp) _⟩
    · clear h'
      go_enter Try.func23, Try.ntmps23
      go_wp2_with fail
      generalize hwA : (w.alloc (.cells #[.int .i64 W, .int .i64 H] 27)).alloc (.cells #[.int .i64 0, .int .i64 0] 27) = wA at *
      clear hwA
      refine (IsField_any W H p n c hn _).mono ?_
      rintro e w1 ⟨rfl, hb1⟩
      obtain ⟨kz1, k0, k1, kx, ky, kf, kg⟩ := K.get hb1
      go_wp2
      exact bodyPost_ret (v := .tuple #[.agg #[.int .i64 0, .int .i64 0], .slice none 0 0, .bool false]) (by simp [results, Try.results23, go_sem, kx, ky]) rfl
        ⟨rfl, ((K.2.2.2.trans (hb1.mono K.2.2.2.size)).setCell (p := ⟨w.heap.size + 1, 0, none⟩) (by simp) _).setCell (p := ⟨w.heap.size + 1, 1, none⟩) (by simp) _⟩

set_option maxHeartbeats 2000000 in
theorem spec_good (W H : Nat) (h1 : 4 ≤ W) (h2 : W ≤ 8) (h3 : 4 ≤ H) (h4 : H ≤ 8) (p : Option Addr) (c : Nat) (rs : List Nat) (n : Nat) (hn : Hid (n = W * H)) (hl : Hid (rs.length = n)) (hfit : fitB W H n = true) (w : World) (hr : Rd w p rs) :
    Calls Try.prog 22 #[.agg #[.int .i64 (W : Nat), .int .i64 (H : Nat)], .slice p n c] w fun e w' => BackGT w w' e true (2 * (W : Int)) (2 * (H : Int)) (fineF W H (rs.map (vf .f32))) := by
  have hnn : n ≤ 64 := by rw [hn.out]; exact Nat.mul_le_mul h2 h4
  obtain ⟨W2, eW⟩ : ∃ N, Hid (N = 2 * W) := ⟨_, rfl⟩
  obtain ⟨H2, eH⟩ : ∃ N, Hid (N = 2 * H) := ⟨_, rfl⟩
  have hN : Hid (W2 * H2 ≤ 256) := by have a : W2 ≤ 16 := by have := eW.out; omega
                                      have b : H2 ≤ 16 := by have := eH.out; omega
                                      exact Nat.mul_le_mul a b
  have eg : 2 * (W : Int) = (W2 : Int) := by have := eW.out; omega
  have eh : 2 * (H : Int) = (H2 : Int) := by have := eH.out; omega
  rw [eg, eh]
  clear eg eh
  have K := b2 w (.cells #[.int .i64 (W : Nat), .int .i64 (H : Nat)] 27) (.cells #[.int .i64 0, .int .i64 0] 27)
  go_enter Try.func22, Try.ntmps22
  go_wp2_with fail
  generalize hwA : (w.alloc (.cells #[.int .i64 (W : Nat), .int .i64 (H : Nat)] 27)).alloc (.cells #[.int .i64 0, .int .i64 0] 27) = wA at *
  clear hwA
  obtain ⟨kz, ka, kb, _⟩ := K.get (Below.refl _ _)
  refine (l03Fits_any w.heap.size W H p n c (by omega) _ (by omega) ka kb).mono ?_
  rintro e w1 ⟨rfl, hb1⟩
  obtain ⟨kz1, k0, k1, kx, ky, kf, kg⟩ := K.get hb1
  clear ka kb
  go_wp2_with fail
  clear kx ky kf kg
  refine (l03Fine_any w.heap.size W H W2 H2 eW eH h1 h2 h3 h4 p c rs n hn hl _ (by omega) k0 k1 (hr.below (K.2.2.2.trans (hb1.mono K.2.2.2.size)))).mono ?_
  rintro e w2 ⟨q, cap, rs', rfl, ho, hv, hb2⟩
  have hb12 := hb1.trans (hb2.mono hb1.size)
  obtain ⟨kz2, _, _, kx, ky, kf, kg⟩ := K.get hb12
  have nx := World.new_ne w2 _ kx
  have ny := World.new_ne w2 _ ky
  have hw2 : w.heap.size + 1 < w2.heap.size := by omega
  have bT := K.2.2.2.trans (hb12.mono K.2.2.2.size)
  have hlen : rs'.length = W2 * H2 := by
    have := congrArg List.length hv
    simpa [fineF, ← eW.out, ← eH.out] using this
  have o2 := ho.mono (base' := w.heap.size + 2) kz1
  have hrow : ∀ b o s, q = some ⟨b, o, s⟩ → b ≠ w.heap.size + 1 := fun b o s e => Nat.ne_of_gt (Nat.lt_of_lt_of_le (Nat.lt_succ_self _) (o2.lt _ e).1)
  have HL : Hid (rs'.length = W2 * H2) := hlen
  clear hlen k0 k1
  have o3 := ((o2.mono (base' := w.heap.size) (by omega)).set_other (i := 0) hrow (.int .i64 (W2 : Nat))).set_other (i := 1) hrow (.int .i64 (H2 : Nat))
  have b3 := (bT.setCell (p := ⟨w.heap.size + 1, 0, none⟩) (by simp) (.int .i64 (W2 : Nat))).setCell (p := ⟨w.heap.size + 1, 1, none⟩) (by simp) (.int .i64 (H2 : Nat))
  have r0 : ((w2.setCell ⟨w.heap.size + 1, 0, none⟩ (.int .i64 (W2 : Nat))).setCell ⟨w.heap.size + 1, 1, none⟩ (.int .i64 (H2 : Nat))).cell? ⟨w.heap.size + 1, 0, none⟩ = some (.int .i64 (W2 : Nat)) := by simp [go_sem, kx]
  have r1 : ((w2.setCell ⟨w.heap.size + 1, 0, none⟩ (.int .i64 (W2 : Nat))).setCell ⟨w.heap.size + 1, 1, none⟩ (.int .i64 (H2 : Nat))).cell? ⟨w.heap.size + 1, 1, none⟩ = some (.int .i64 (H2 : Nat)) := by simp [go_sem, ky]
  go_wp2
  have e3 : ((w2.setCell ⟨w.heap.size + 1, 0, none⟩ (.int .i64 (W2 : Nat))).setCell ⟨w.heap.size + 1, 1, none⟩ (.int .i64 (H2 : Nat))).heap.size = w2.heap.size := by simp
  generalize hw3 : (w2.setCell ⟨w.heap.size + 1, 0, none⟩ (.int .i64 (W2 : Nat))).setCell ⟨w.heap.size + 1, 1, none⟩ (.int .i64 (H2 : Nat)) = w3 at *
  have bB := (Below.refl w3.heap.size w3).alloc (Nat.le_refl _) (.cells #[.int .i64 (W2 : Nat), .int .i64 (H2 : Nat)] 27)
  have r0 := (bB.cell (p := ⟨w.heap.size + 1, 0, none⟩) (by rw [e3]; exact hw2)).trans r0
  have r1 := (bB.cell (p := ⟨w.heap.size + 1, 1, none⟩) (by rw [e3]; exact hw2)).trans r1
  exact bodyPost_ret (v := .tuple #[.agg #[.int .i64 (W2 : Nat), .int .i64 (H2 : Nat)], .slice q (W2 * H2) cap, .bool true]) (by simp [results, Try.results22, go_sem, r0, r1]) rfl
    (BackGT.of (o3.below bB) hv HL.out (by have := hN.out; omega) (b3.trans (bB.mono b3.size)))

set_option maxHeartbeats 2000000 in
theorem impl_good (W H : Nat) (h1 : 4 ≤ W) (h2 : W ≤ 8) (h3 : 4 ≤ H) (h4 : H ≤ 8) (p : Option Addr) (c : Nat) (rs : List Nat) (n : Nat) (hn : Hid (n = W * H)) (hl : Hid (rs.length = n)) (hfit : fitB W H n = true) (w : World) (hr : Rd w p rs) :
    Calls Try.prog 23 #[.agg #[.int .i64 (W : Nat), .int .i64 (H : Nat)], .slice p n c] w fun e w' => BackGT w w' e true (2 * (W : Int)) (2 * (H : Int)) (fineF W H (rs.map (vf .f32))) := by
  have hnn : n ≤ 64 := by rw [hn.out]; exact Nat.mul_le_mul h2 h4
  obtain ⟨W2, eW⟩ : ∃ N, Hid (N = 2 * W) := ⟨_, rfl⟩
  obtain ⟨H2, eH⟩ : ∃ N, Hid (N = 2 * H) := ⟨_, rfl⟩
  have hN : Hid (W2 * H2 ≤ 256) := by have a : W2 ≤ 16 := by have := eW.out; omega
                                      have b : H2 ≤ 16 := by have := eH.out; omega
                                      exact Nat.mul_le_mul a b
  have eg : 2 * (W : Int) = (W2 : Int) := by have := eW.out; omega
  have eh : 2 * (H : Int) = (H2 : Int) := by have := eH.out; omega
  rw [eg, eh]
  clear eg eh
  have K := b2 w (.cells #[.int .i64 (W : Nat), .int .i64 (H : Nat)] 27) (.cells #[.int .i64 0, .int .i64 0] 27)
  go_enter Try.func23, Try.ntmps23
  go_wp2_with fail
  generalize hwA : (w.alloc (.cells #[.int .i64 (W : Nat), .int .i64 (H : Nat)] 27)).alloc (.cells #[.int .i64 0, .int .i64 0] 27) = wA at *
  clear hwA
  refine (IsField_any W H p n c (by omega) _).mono ?_
  rintro e w1 ⟨rfl, hb1⟩
  obtain ⟨kz1, k0, k1, kx, ky, kf, kg⟩ := K.get hb1
  go_wp2_with fail
  clear kx ky kf kg
  refine (fine_any W H W2 H2 eW eH h1 h2 h3 h4 p c rs n hn hl _ (hr.below (K.2.2.2.trans (hb1.mono K.2.2.2.size)))).mono ?_
  rintro e w2 ⟨q, cap, rs', rfl, ho, hv, hb2⟩
  have hb12 := hb1.trans (hb2.mono hb1.size)
  obtain ⟨kz2, _, _, kx, ky, kf, kg⟩ := K.get hb12
  have nx := World.new_ne w2 _ kx
  have ny := World.new_ne w2 _ ky
  have hw2 : w.heap.size + 1 < w2.heap.size := by omega
  have bT := K.2.2.2.trans (hb12.mono K.2.2.2.size)
  have hlen : rs'.length = W2 * H2 := by
    have := congrArg List.length hv
    simpa [fineF, ← eW.out, ← eH.out] using this
  have o2 := ho.mono (base' := w.heap.size + 2) kz1
  have hrow : ∀ b o s, q = some ⟨b, o, s⟩ → b ≠ w.heap.size + 1 := fun b o s e => Nat.ne_of_gt (Nat.lt_of_lt_of_le (Nat.lt_succ_self _) (o2.lt _ e).1)
  have HL : Hid (rs'.length = W2 * H2) := hlen
  clear hlen k0 k1
  have o3 := ((o2.mono (base' := w.heap.size) (by omega)).set_other (i := 0) hrow (.int .i64 (W2 : Nat))).set_other (i := 1) hrow (.int .i64 (H2 : Nat))
  have b3 := (bT.setCell (p := ⟨w.heap.size + 1, 0, none⟩) (by simp) (.int .i64 (W2 : Nat))).setCell (p := ⟨w.heap.size + 1, 1, none⟩) (by simp) (.int .i64 (H2 : Nat))
  have r0 : ((w2.setCell ⟨w.heap.size + 1, 0, none⟩ (.int .i64 (W2 : Nat))).setCell ⟨w.heap.size + 1, 1, none⟩ (.int .i64 (H2 : Nat))).cell? ⟨w.heap.size + 1, 0, none⟩ = some (.int .i64 (W2 : Nat)) := by simp [go_sem, kx]
  have r1 : ((w2.setCell ⟨w.heap.size + 1, 0, none⟩ (.int .i64 (W2 : Nat))).setCell ⟨w.heap.size + 1, 1, none⟩ (.int .i64 (H2 : Nat))).cell? ⟨w.heap.size + 1, 1, none⟩ = some (.int .i64 (H2 : Nat)) := by simp [go_sem, ky]
  go_wp2
  have e3 : ((w2.setCell ⟨w.heap.size + 1, 0, none⟩ (.int .i64 (W2 : Nat))).setCell ⟨w.heap.size + 1, 1, none⟩ (.int .i64 (H2 : Nat))).heap.size = w2.heap.size := by simp
  generalize hw3 : (w2.setCell ⟨w.heap.size + 1, 0, none⟩ (.int .i64 (W2 : Nat))).setCell ⟨w.heap.size + 1, 1, none⟩ (.int .i64 (H2 : Nat)) = w3 at *
  have bB := (Below.refl w3.heap.size w3).alloc (Nat.le_refl _) (.cells #[.int .i64 (W2 : Nat), .int .i64 (H2 : Nat)] 27)
  have r0 := (bB.cell (p := ⟨w.heap.size + 1, 0, none⟩) (by rw [e3]; exact hw2)).trans r0
  have r1 := (bB.cell (p := ⟨w.heap.size + 1, 1, none⟩) (by rw [e3]; exact hw2)).trans r1
  exact bodyPost_ret (v := .tuple #[.agg #[.int .i64 (W2 : Nat), .int .i64 (H2 : Nat)], .slice q (W2 * H2) cap, .bool true]) (by simp [results, Try.results23, go_sem, r0, r1]) rfl
    (BackGT.of (o3.below bB) hv HL.out (by have := hN.out; omega) (b3.trans (bB.mono b3.size)))

theorem join {F : FuncId} (W H : Int) (p : Option Addr) (c : Nat) (rs : List Nat) (w : World)
    (hbad : okF W H rs.length = false → Calls Try.prog F #[.agg #[.int .i64 W, .int .i64 H], .slice p rs.length c] w fun e w' => e = .returned (.tuple #[.agg #[.int .i64 0, .int .i64 0], .slice none 0 0, .bool false]) ∧ Below w.heap.size w w')
    (hgood : ∀ W H : Nat, 4 ≤ W → W ≤ 8 → 4 ≤ H → H ≤ 8 → rs.length = W * H → fitB W H rs.length = true → Calls Try.prog F #[.agg #[.int .i64 (W : Nat), .int .i64 (H : Nat)], .slice p rs.length c] w fun e w' => BackGT w w' e true (2 * (W : Int)) (2 * (H : Int)) (fineF W H (rs.map (vf .f32)))) :
    Calls Try.prog F #[.agg #[.int .i64 W, .int .i64 H], .slice p rs.length c] w fun e w' => BackGT w w' e (okF W H rs.length) (outG W H rs.length W) (outG W H rs.length H) (outX W H rs.length (rs.map (vf .f32))) := by
  unfold outG outX
  cases h : okF W H rs.length
  · refine (hbad h).mono ?_
    rintro e w' ⟨rfl, hb⟩
    simpa using BackGT.none hb
  · have h' : fitB W H rs.length = true ∧ W ≤ 8 ∧ H ≤ 8 := by simpa [okF] using h
    obtain ⟨h1, h2, h3, h4, hf⟩ := fitB_spec h'.1
    obtain ⟨W, rfl⟩ : ∃ n : Nat, W = n := ⟨W.toNat, by omega⟩
    obtain ⟨H, rfl⟩ : ∃ n : Nat, H = n := ⟨H.toNat, by omega⟩
    have e : ((W * H : Nat) : Int) = (W : Int) * H := by simp
    refine (hgood W H (by omega) (by omega) (by omega) (by omega) (by omega) h'.1).mono ?_
    intro e w' hh
    simpa using hh
theorem spec_any (W H : Int) (p : Option Addr) (c : Nat) (rs : List Nat) {base : Nat} (w : World) (hn : rs.length ≤ 1048576) (how : Ow w base p c rs) :
    Calls Try.prog 22 #[.agg #[.int .i64 W, .int .i64 H], .slice p rs.length c] w fun e w' => BackGT w w' e (okF W H rs.length) (outG W H rs.length W) (outG W H rs.length H) (outX W H rs.length (rs.map (vf .f32))) :=
  join W H p c rs w (spec_bad W H p _ c w hn) (fun W H a1 a2 a3 a4 a5 a6 => spec_good W H a1 a2 a3 a4 p c rs _ a5 rfl a6 w how.rd)
theorem impl_any (W H : Int) (p : Option Addr) (c : Nat) (rs : List Nat) {base : Nat} (w : World) (hn : rs.length ≤ 1048576) (how : Ow w base p c rs) :
    Calls Try.prog 23 #[.agg #[.int .i64 W, .int .i64 H], .slice p rs.length c] w fun e w' => BackGT w w' e (okF W H rs.length) (outG W H rs.length W) (outG W H rs.length H) (outX W H rs.length (rs.map (vf .f32))) :=
  join W H p c rs w (impl_bad W H p _ c w hn) (fun W H a1 a2 a3 a4 a5 a6 => impl_good W H a1 a2 a3 a4 p c rs _ a5 rfl a6 w how.rd)
set_option maxHeartbeats 4000000 in
set_option maxRecDepth 100000 in
theorem walk_of (W H : Int) (p1 : Option Addr) (c1 : Nat) (rs1 : List Nat)  (w : World) (hr1 : Rd w p1 rs1) (hn1 : rs1.length ≤ 1048576) :
    Calls Try.prog 4 #[.agg #[.int .i64 W, .int .i64 H], .slice p1 rs1.length c1] w fun e w' => e = .returned (.bool true) ∧ Below w.heap.size w w' := by
  have i0 := Inv.start w W H
  go_enter Try.func4, Try.ntmps4
  have ca := i0.c0
  have cb := i0.c1
  go_wp2_with fail
  clear ca cb
  refine (toGrid_any W H _).mono ?_
  rintro e w1 ⟨rfl, hb1⟩
  have z1 : (w.alloc (.cells #[.int .i64 W, .int .i64 H] 23)).heap.size ≤ w1.heap.size := hb1.size
  have i1 := i0.step hb1
  go_wp2_with fail
  refine (toF_any p1 c1 rs1 _ hn1 (hr1.below i1.below)).mono ?_
  rintro e w2 ⟨q_t1, rfl, o_t1, hb2⟩
  have z2 : w1.heap.size ≤ w2.heap.size := hb2.size
  have i2 := i1.step hb2
  have l_t1 : ∀ a, q_t1 = some a → w1.heap.size ≤ a.block ∧ a.block < w2.heap.size := o_t1.lt
  go_wp2_with fail
  refine (spec_any W H _ _ rs1 _ hn1 o_t1).mono ?_
  rintro e w3 ⟨q_w, d_w, rs_w, rfl, o_w, v_w, e_w, hb3⟩
  have z3 : w2.heap.size ≤ w3.heap.size := hb3.size
  have i3 := i2.step hb3
  replace o_t1 := o_t1.below hb3
  have l_w : ∀ a, q_w = some a → w2.heap.size ≤ a.block ∧ a.block < w3.heap.size := o_w.lt
  clear o_t1 l_t1
  go_wp2_with fail
  have hb4 := (Below.refl w3.heap.size w3).alloc (Nat.le_refl _) (.cells #[.int .i64 (outG W H rs1.length W), .int .i64 (outG W H rs1.length H)] 27)
  have o_bw := Bx.new w3 (outG W H rs1.length W) (outG W H rs1.length H)
  generalize hwx : w3.alloc (.cells #[.int .i64 (outG W H rs1.length W), .int .i64 (outG W H rs1.length H)] 27) = w4 at *
  clear hwx
  have z4 : w3.heap.size ≤ w4.heap.size := hb4.size
  have i4 := i3.step hb4
  replace o_w := o_w.below hb4
  have l_bw := o_bw.at w3.heap.size (Nat.le_refl _)
  go_wp2_with fail
  refine (toF_any p1 c1 rs1 _ hn1 (hr1.below i4.below)).mono ?_
  rintro e w5 ⟨q_x1, rfl, o_x1, hb5⟩
  have z5 : w4.heap.size ≤ w5.heap.size := hb5.size
  have i5 := i4.step hb5
  replace o_w := o_w.below hb5
  replace o_bw := o_bw.below hb5
  have l_x1 : ∀ a, q_x1 = some a → w4.heap.size ≤ a.block ∧ a.block < w5.heap.size := o_x1.lt
  have ca := i5.c0
  have cb := i5.c1
  go_wp2_with fail
  clear ca cb
  refine (toGrid_any W H _).mono ?_
  rintro e w6 ⟨rfl, hb6⟩
  have z6 : w5.heap.size ≤ w6.heap.size := hb6.size
  have i6 := i5.step hb6
  replace o_w := o_w.below hb6
  replace o_bw := o_bw.below hb6
  replace o_x1 := o_x1.below hb6
  go_wp2_with fail
  refine (impl_any W H _ _ rs1 _ hn1 o_x1).mono ?_
  rintro e w7 ⟨q_g, d_g, rs_g, rfl, o_g, v_g, e_g, hb7⟩
  have z7 : w6.heap.size ≤ w7.heap.size := hb7.size
  have i7 := i6.step hb7
  replace o_w := o_w.below hb7
  replace o_bw := o_bw.below hb7
  replace o_x1 := o_x1.below hb7
  have l_g : ∀ a, q_g = some a → w6.heap.size ≤ a.block ∧ a.block < w7.heap.size := o_g.lt
  have hba := (Below.refl w7.heap.size w7).alloc (Nat.le_refl _) (.cells #[.int .i64 (outG W H rs1.length W), .int .i64 (outG W H rs1.length H)] 27)
  have kx := (o_bw.below hba).c0
  have ky := (o_bw.below hba).c1
  clear hba
  go_wp2_with fail
  clear kx ky
  have hb8 := (Below.refl w7.heap.size w7).alloc (Nat.le_refl _) (.cells #[.int .i64 (outG W H rs1.length W), .int .i64 (outG W H rs1.length H)] 27)
  have o_bg := Bx.new w7 (outG W H rs1.length W) (outG W H rs1.length H)
  generalize hwx : w7.alloc (.cells #[.int .i64 (outG W H rs1.length W), .int .i64 (outG W H rs1.length H)] 27) = w8 at *
  clear hwx
  have z8 : w7.heap.size ≤ w8.heap.size := hb8.size
  have i8 := i7.step hb8
  replace o_w := o_w.below hb8
  replace o_bw := o_bw.below hb8
  replace o_x1 := o_x1.below hb8
  replace o_g := o_g.below hb8
  have l_bg := o_bg.at w7.heap.size (Nat.le_refl _)
  refine (eqGrid_any _ _ _).mono ?_
  rintro e w9 ⟨rfl, hb9⟩
  have z9 : w8.heap.size ≤ w9.heap.size := hb9.size
  have i9 := i8.step hb9
  replace o_w := o_w.below hb9
  replace o_bw := o_bw.below hb9
  replace o_x1 := o_x1.below hb9
  replace o_g := o_g.below hb9
  replace o_bg := o_bg.below hb9
  go_wp2_with fail
  refine (eqF_any _ _ _ _ rs_g rs_w _ e_g o_g.rd o_w.rd (v_g.trans v_w.symm)).mono ?_
  rintro e w10 ⟨rfl, hb10⟩
  have z10 : w9.heap.size ≤ w10.heap.size := hb10.size
  have i10 := i9.step hb10
  replace o_w := o_w.below hb10
  replace o_bw := o_bw.below hb10
  replace o_x1 := o_x1.below hb10
  replace o_g := o_g.below hb10
  replace o_bg := o_bg.below hb10
  go_wp2_with fail
  refine (toF_any p1 c1 rs1 _ hn1 (hr1.below i10.below)).mono ?_
  rintro e w11 ⟨q_u, rfl, o_u, hb11⟩
  have z11 : w10.heap.size ≤ w11.heap.size := hb11.size
  have i11 := i10.step hb11
  replace o_w := o_w.below hb11
  replace o_bw := o_bw.below hb11
  replace o_x1 := o_x1.below hb11
  replace o_g := o_g.below hb11
  replace o_bg := o_bg.below hb11
  have l_u : ∀ a, q_u = some a → w10.heap.size ≤ a.block ∧ a.block < w11.heap.size := o_u.lt
  go_wp2_with fail
  refine (eqF_any _ _ _ _ rs1 rs1 _ hn1 o_x1.rd o_u.rd rfl).mono ?_
  rintro e w12 ⟨rfl, hb12⟩
  have z12 : w11.heap.size ≤ w12.heap.size := hb12.size
  have i12 := i11.step hb12
  replace o_w := o_w.below hb12
  replace o_bw := o_bw.below hb12
  replace o_x1 := o_x1.below hb12
  replace o_g := o_g.below hb12
  replace o_bg := o_bg.below hb12
  replace o_u := o_u.below hb12
  clear o_u l_u
  go_wp2_with fail
  refine (mark_at _ _ _ _ (1) (by omega) _ _ hn1 (by omega) o_x1).mono ?_
  rintro e w13 ⟨rfl, o_x1', hg13⟩
  have z13 : w12.heap.size ≤ w13.heap.size := hg13.size
  have i13 := i12.gb hg13 (fun a ha => by have h1 := l_x1 a ha; have h2 := i0.size; omega)
  replace o_w := o_w.gb hg13 (sep l_w l_x1 (by omega))
  replace o_bw := o_bw.gb hg13 (sep l_bw l_x1 (by omega))
  replace o_g := o_g.gb hg13 (sep l_g l_x1 (by omega))
  replace o_bg := o_bg.gb hg13 (sep l_bg l_x1 (by omega))
  clear o_x1
  have o_x1 := o_x1'
  clear o_x1'
  clear o_x1 l_x1
  have kx_bg := o_bg.c0
  have ky_bg := o_bg.c1
  have kn_bg := o_bg.ne
  have kx_bw := o_bw.c0
  have ky_bw := o_bw.c1
  have kn_bw := o_bw.ne
  go_wp2_with fail
  clear kx_bg ky_bg kn_bg
  clear kx_bw ky_bw kn_bw
  refine (eqGrid_any _ _ _).mono ?_
  rintro e w14 ⟨rfl, hb14⟩
  have z14 : w13.heap.size ≤ w14.heap.size := hb14.size
  have i14 := i13.step hb14
  replace o_w := o_w.below hb14
  replace o_bw := o_bw.below hb14
  replace o_g := o_g.below hb14
  replace o_bg := o_bg.below hb14
  go_wp2_with fail
  refine (eqF_any _ _ _ _ rs_g rs_w _ e_g o_g.rd o_w.rd (v_g.trans v_w.symm)).mono ?_
  rintro e w15 ⟨rfl, hb15⟩
  have z15 : w14.heap.size ≤ w15.heap.size := hb15.size
  have i15 := i14.step hb15
  replace o_w := o_w.below hb15
  replace o_bw := o_bw.below hb15
  replace o_g := o_g.below hb15
  replace o_bg := o_bg.below hb15
  go_wp2_with fail
  refine (mark_at _ _ _ _ (1) (by omega) _ _ e_g (by omega) o_g).mono ?_
  rintro e w16 ⟨rfl, o_g', hg16⟩
  have z16 : w15.heap.size ≤ w16.heap.size := hg16.size
  have i16 := i15.gb hg16 (fun a ha => by have h1 := l_g a ha; have h2 := i0.size; omega)
  replace o_w := o_w.gb hg16 (sep l_w l_g (by omega))
  replace o_bw := o_bw.gb hg16 (sep l_bw l_g (by omega))
  replace o_bg := o_bg.gb hg16 (sep l_bg l_g (by omega))
  clear o_g
  have o_g := o_g'
  clear o_g'
  go_wp2_with fail
  refine (held_at _ _ _ (1) _ (by omega) _ e_g (by omega) o_g.rd).mono ?_
  rintro e w17 ⟨rfl, hb17⟩
  have z17 : w16.heap.size ≤ w17.heap.size := hb17.size
  have i17 := i16.step hb17
  replace o_w := o_w.below hb17
  replace o_bw := o_bw.below hb17
  replace o_g := o_g.below hb17
  replace o_bg := o_bg.below hb17
  have ca := i17.c0
  have cb := i17.c1
  go_wp2_with fail
  clear ca cb
  refine (toGrid_any W H _).mono ?_
  rintro e w18 ⟨rfl, hb18⟩
  have z18 : w17.heap.size ≤ w18.heap.size := hb18.size
  have i18 := i17.step hb18
  replace o_w := o_w.below hb18
  replace o_bw := o_bw.below hb18
  replace o_g := o_g.below hb18
  replace o_bg := o_bg.below hb18
  go_wp2_with fail
  refine (toF_any p1 c1 rs1 _ hn1 (hr1.below i18.below)).mono ?_
  rintro e w19 ⟨q_t1, rfl, o_t1, hb19⟩
  have z19 : w18.heap.size ≤ w19.heap.size := hb19.size
  have i19 := i18.step hb19
  replace o_w := o_w.below hb19
  replace o_bw := o_bw.below hb19
  replace o_g := o_g.below hb19
  replace o_bg := o_bg.below hb19
  have l_t1 : ∀ a, q_t1 = some a → w18.heap.size ≤ a.block ∧ a.block < w19.heap.size := o_t1.lt
  go_wp2_with fail
  refine (impl_any W H _ _ rs1 _ hn1 o_t1).mono ?_
  rintro e w20 ⟨q_h, d_h, rs_h, rfl, o_h, v_h, e_h, hb20⟩
  have z20 : w19.heap.size ≤ w20.heap.size := hb20.size
  have i20 := i19.step hb20
  replace o_w := o_w.below hb20
  replace o_bw := o_bw.below hb20
  replace o_g := o_g.below hb20
  replace o_bg := o_bg.below hb20
  replace o_t1 := o_t1.below hb20
  have l_h : ∀ a, q_h = some a → w19.heap.size ≤ a.block ∧ a.block < w20.heap.size := o_h.lt
  clear o_t1 l_t1
  have hba := (Below.refl w20.heap.size w20).alloc (Nat.le_refl _) (.cells #[.int .i64 (outG W H rs1.length W), .int .i64 (outG W H rs1.length H)] 27)
  have kx := (o_bw.below hba).c0
  have ky := (o_bw.below hba).c1
  clear hba
  go_wp2_with fail
  clear kx ky
  have hb21 := (Below.refl w20.heap.size w20).alloc (Nat.le_refl _) (.cells #[.int .i64 (outG W H rs1.length W), .int .i64 (outG W H rs1.length H)] 27)
  have o_bh := Bx.new w20 (outG W H rs1.length W) (outG W H rs1.length H)
  generalize hwx : w20.alloc (.cells #[.int .i64 (outG W H rs1.length W), .int .i64 (outG W H rs1.length H)] 27) = w21 at *
  clear hwx
  have z21 : w20.heap.size ≤ w21.heap.size := hb21.size
  have i21 := i20.step hb21
  replace o_w := o_w.below hb21
  replace o_bw := o_bw.below hb21
  replace o_g := o_g.below hb21
  replace o_bg := o_bg.below hb21
  replace o_h := o_h.below hb21
  have l_bh := o_bh.at w20.heap.size (Nat.le_refl _)
  refine (eqGrid_any _ _ _).mono ?_
  rintro e w22 ⟨rfl, hb22⟩
  have z22 : w21.heap.size ≤ w22.heap.size := hb22.size
  have i22 := i21.step hb22
  replace o_w := o_w.below hb22
  replace o_bw := o_bw.below hb22
  replace o_g := o_g.below hb22
  replace o_bg := o_bg.below hb22
  replace o_h := o_h.below hb22
  replace o_bh := o_bh.below hb22
  go_wp2_with fail
  refine (eqF_any _ _ _ _ rs_h rs_w _ e_h o_h.rd o_w.rd (v_h.trans v_w.symm)).mono ?_
  rintro e w23 ⟨rfl, hb23⟩
  have z23 : w22.heap.size ≤ w23.heap.size := hb23.size
  have i23 := i22.step hb23
  replace o_w := o_w.below hb23
  replace o_bw := o_bw.below hb23
  replace o_g := o_g.below hb23
  replace o_bg := o_bg.below hb23
  replace o_h := o_h.below hb23
  replace o_bh := o_bh.below hb23
  go_wp2_with fail
  refine (held_at _ _ _ (1) _ (by omega) _ e_g (by omega) o_g.rd).mono ?_
  rintro e w24 ⟨rfl, hb24⟩
  have z24 : w23.heap.size ≤ w24.heap.size := hb24.size
  have i24 := i23.step hb24
  replace o_w := o_w.below hb24
  replace o_bw := o_bw.below hb24
  replace o_g := o_g.below hb24
  replace o_bg := o_bg.below hb24
  replace o_h := o_h.below hb24
  replace o_bh := o_bh.below hb24
  go_wp2
  go_ret
  exact ⟨rfl, i24.below⟩

set_option maxHeartbeats 1000000 in
theorem walk_out1 (W H : Int) (p1 : Option Addr) (c1 : Nat) (rs1 : List Nat) (w : World)  (hn1 : 1048576 < rs1.length) (hm1 : rs1.length ≤ 9223372036854775807) :
    Calls Try.prog 4 #[.agg #[.int .i64 W, .int .i64 H], .slice p1 rs1.length c1] w fun e w' => e = .returned (.bool true) ∧ Below w.heap.size w w' := by
  have i0 := Inv.start w W H
  go_enter Try.func4, Try.ntmps4
  go_wp2
  go_ret
  exact ⟨rfl, i0.below⟩

theorem walk (W H : Int) (_wW : (Lit.int .i64 W).wf = true) (_wH : (Lit.int .i64 H).wf = true) (p1 : Option Addr) (c1 : Nat) (rs1 : List Nat) (w : World) (hr1 : Rd w p1 rs1) (hm1 : rs1.length ≤ 9223372036854775807) :
    Calls Try.prog 4 #[.agg #[.int .i64 W, .int .i64 H], .slice p1 rs1.length c1] w fun e w' => e = .returned (.bool true) ∧ Below w.heap.size w w' := by
  by_cases hn1 : rs1.length ≤ 1048576
  · skip
    exact walk_of W H p1 c1 rs1 w hr1 hn1
  · exact walk_out1 W H p1 c1 rs1 w  (by omega) hm1

/-! ### From the walk to the statement -/
set_option maxRecDepth 100000 in
theorem lifted (os : Os) (started : os.Started) (H : Type) (enc : TypeId × Value → H) :
    ReturnsInHanded {} Try.checked os 4 .any (Rows.fnExactFineFieldSpec.pre6 enc Try.prog Try.f4 Rows.fnExactFineFieldRow.domain false) (Rows.fnExactFineFieldSpec.post enc Try.prog Try.f4 false true false false) := by
  refine returnsInHanded_of_change (C := Try.checked) own started (by kernel_rfl) Try.func4
    (ChangeSpec.witness6 (enc := enc) (C := Try.checked) false ⟨#[], #[.agg #[.int .i64 0, .int .i64 0], .slice none 0 0], []⟩ 8 (by kernel_rfl) (by kernel_rfl) (by kernel_rfl) (by kernel_rfl)) ?_
  intro W base args ds gs before hval0 hW hcnd _
  have hval : ∀ (j : Nat) t v, Try.f4.params[j]? = some t → args[j]? = some v → Value.okWide Try.prog W .any base t v := hval0
  have hW' := hW
  obtain ⟨p, q, hA0, hV, rfl, hfz, hnd⟩ := hW
  have hA : DataW.TrodAll enc Try.prog W 0 (fun _ => true) true Try.f4.params.toList args.toList ds p := hA0
  rw [Try.params4] at hA hval
  obtain ⟨v0, vs0, d0, ds0, p0, q0, hargs, rfl, rfl, h0, r0⟩ := trodAll_cons hA
  obtain ⟨v1, vs1, d1, ds1, p1, q1, rfl, rfl, rfl, h1, r1⟩ := trodAll_cons r0
  obtain ⟨rfl, rfl, rfl⟩ := trodAll_nil r1
  obtain rfl : args = #[v0, v1] := by cases args; simp_all
  obtain ⟨rfl, rfl⟩ := trodVars_none hV
  obtain ⟨c0a, c0b, y0a, y0b, m0, rfl, _, _, hy0a, hy0b⟩ := open_agg2 Try.underlying23 (by kernel_rfl) cellsGrid (hval 0 23 v0 rfl rfl) h0
  obtain ⟨gW0, e0a, _, wW0⟩ := DataW.trod_int Try.underlying2 hy0a
  obtain ⟨gH0, e0b, _, wH0⟩ := DataW.trod_int Try.underlying2 hy0b
  simp only [List.cons.injEq, and_true] at e0a e0b
  subst e0a e0b
  obtain ⟨a1, c1, rs1, rfl, hr1, hm1⟩ := open_floats Try.underlying24 Try.underlying38 cellsF32 (hval 1 24 v1 rfl rfl) h1
  refine (walk gW0 gH0 wW0 wH0 a1 c1 rs1 W hr1 hm1).mono fun e W' ⟨he, hb⟩ => ?_
  subst he
  exact ⟨_, rfl, law_post laid Try.underlying4 (by kernel_rfl) (by rw [Try.params4]; intro t ht; simp only [List.mem_cons, List.not_mem_nil, or_false] at ht; rcases ht with rfl | rfl <;> exact ⟨by kernel_rfl, of_decide_eq_true (by kernel_rfl)⟩) rfl rfl hW' hb⟩

/-- The statement. -/
theorem proved : Rows.FnExactFineFieldSaid :=
  OpenClaim.holds_of_wide 4 Try.f4 rfl rfl rfl rfl rfl rfl rfl ⟨rfl, rfl, rfl, rfl, rfl⟩ rfl rfl rfl rfl rfl (by kernel_rfl) Try.func4 (by kernel_rfl)
    (of_decide_eq_true (by kernel_rfl)) (by unfold Func.isWrapper; first | (rw [if_pos (by decide +kernel)]; kernel_rfl) | (rw [if_neg (by decide +kernel)]; exact ⟨rfl, rfl⟩))
    (fun os started H enc _ => lifted os started H enc)
#print axioms proved

end Go.Proofs.Ytdafcgimkiepnaa.Fine
