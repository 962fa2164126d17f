/-
  The fields of a potential: contract of the reference's; the two lists.
  Conditions: none.
-/
import Derived.Test.YtdafcgimkiepnaaLap
import Derived.Test.YtdafcgimkiepnaaLaw
import Derived.Test.YtdafcgimkiepnaaReg1
import Derived.Deep.DeepCutAuto
import Derived.RegionTactic
import Derived.Outline
namespace Go.Proofs.Ytdafcgimkiepnaa.Fields
open Go Go.RowKit Go.Proofs.Ytdafcgimkiepnaa.Fl Go.Proofs.Ytdafcgimkiepnaa.Reg Go.Proofs.Ytdafcgimkiepnaa.Step Go.Proofs.Ytdafcgimkiepnaa.Mem Go.Proofs.Ytdafcgimkiepnaa.Help Go.Proofs.Ytdafcgimkiepnaa.Grid Go.Proofs.Ytdafcgimkiepnaa.Index Go.Proofs.Ytdafcgimkiepnaa.Near Go.Proofs.Ytdafcgimkiepnaa.Mean Go.Proofs.Ytdafcgimkiepnaa.App Go.Proofs.Ytdafcgimkiepnaa.Level Go.Proofs.Ytdafcgimkiepnaa.Lap Go.Proofs.Ytdafcgimkiepnaa.Law

/-- Half the difference of two neighbours' numbers. -/
def halfAt (W H : Int) (j k : Nat) (xs : List (Option Nat)) (i : Nat) : Option Nat := fop .mul .f32 (some 1056964608) (fop .sub .f32 (xs.getD (nbN W H i j) none) (xs.getD (nbN W H i k) none))
def halfF (W H : Int) (j k : Nat) (xs : List (Option Nat)) : List (Option Nat) := (List.range xs.length).map (halfAt W H j k xs)
theorem vf_half : vf .f32 1056964608 = some 1056964608 := by decide

/-- Two slices of its own, in two blocks. -/
def Back2 (w w' : World) (e : Ending) (n : Nat) (xs ys : List (Option Nat)) : Prop :=
  ∃ q c rs' q2 c2 rs2, e = .returned (.tuple #[.slice q n c, .slice q2 n c2]) ∧ Ow w' w.heap.size q c rs' ∧ rs'.map (vf .f32) = xs ∧ Ow w' w.heap.size q2 c2 rs2 ∧ rs2.map (vf .f32) = ys ∧ (∀ x y, q = some x → q2 = some y → x.block ≠ y.block) ∧ Below w.heap.size w w'

set_option maxHeartbeats 3000000 in
theorem l03Fields_any (b0 : Nat) (W H : Int) (p : Option Addr) (c : Nat) (rs : List Nat) (h1 : 4 ≤ W) (h2 : W ≤ 16) (h3 : 4 ≤ H) (h4 : H ≤ 16) (hf : (rs.length : Int) = W * H) (w : World) (hb0 : b0 < w.heap.size) (hW : w.cell? ⟨b0, 0, none⟩ = some (.int .i64 W)) (hH : w.cell? ⟨b0, 1, none⟩ = some (.int .i64 H)) (hr : Rd w p rs) :
    Calls Try.prog 47 #[.pointer (some ⟨b0, 0, none⟩), .slice p rs.length c] w fun e w' => Back2 w w' e rs.length (halfF W H 0 1 (rs.map (vf .f32))) (halfF W H 2 3 (rs.map (vf .f32))) := by
  have hm : W * H ≤ 256 := Int.mul_le_mul (c := 16) (d := 16) h2 h4 (by omega) (by omega)
  obtain ⟨n, hL⟩ : ∃ n, n = rs.length := ⟨_, rfl⟩
  have hL1 : Hid (n = rs.length) := hL
  rw [← hL] at hf
  rw [← hL]
  have hF : Hid ((n : Int) = W * H) := hf
  have hnn : n ≤ 256 := by omega
  clear hL hf hm
  have hn0 : w.heap.size ≤ (w.alloc (.cells #[] 38)).heap.size := by simp
  have oa0 : Ow ((w.alloc (.cells #[] 38)).alloc (.cells #[] 38)) w.heap.size (some ⟨w.heap.size, 0, none⟩) 0 [] := (Ow.empty w #[] rfl).below ((Below.refl _ _).alloc (Nat.le_refl _) _)
  have ob0 : Ow ((w.alloc (.cells #[] 38)).alloc (.cells #[] 38)) w.heap.size (some ⟨w.heap.size + 1, 0, none⟩) 0 [] := by
    have := (Ow.empty (w.alloc (.cells #[] 38)) #[] rfl).mono hn0
    simpa using this
  go_enter Try.func47, Try.ntmps47
  go_wp2
  go_loopw [6, 7, 14] (fun out out2 i wr => ∃ (k : Nat) (q : Option Addr) (cap : Nat) (rs' : List Nat) (q2 : Option Addr) (cap2 : Nat) (rs2 : List Nat), k ≤ n ∧ i = .int .i64 k ∧ out = .slice q k cap ∧ out2 = .slice q2 k cap2 ∧ Ow wr w.heap.size q cap rs' ∧ Ow wr w.heap.size q2 cap2 rs2 ∧ Hid (rs'.map (vf .f32) = (halfF W H 0 1 (rs.map (vf .f32))).take k) ∧ Hid (rs2.map (vf .f32) = (halfF W H 2 3 (rs.map (vf .f32))).take k) ∧ Hid (∀ x y, q = some x → q2 = some y → x.block ≠ y.block) ∧ Below w.heap.size w wr) (fun _ _ i _ => n - (intOf i).toNat)
  case atStart => exact ⟨0, _, 0, [], _, 0, [], Nat.zero_le _, rfl, rfl, rfl, oa0, ob0, rfl, rfl, by intro x y hx hy; cases hx; cases hy; simp, ((Below.refl _ _).alloc (Nat.le_refl _) _).alloc hn0 _⟩
  case round =>
    clear oa0 ob0
    obtain ⟨k, q, cap, rs', q2, cap2, rs2, hk, rfl, rfl, rfl, oa, ob, va, vb, dj, hb⟩ := hrel
    have hla : Hid (k = rs'.length) := by
      have e1 := congrArg List.length va.out
      have e2 := hL1.out
      simp [halfF] at e1
      show k = rs'.length
      omega
    have hlb : Hid (k = rs2.length) := by
      have e1 := congrArg List.length vb.out
      have e2 := hL1.out
      simp [halfF] at e1
      show k = rs2.length
      omega
    by_cases hlt : k < n
    · have hlr : k < rs.length := by rw [← hL1.out]; exact hlt
      obtain ⟨b, off, rfl, hbw, hc⟩ := hr.at hlr
      have hki : (k : Int) < W * H := by rw [← hF.out]; omega
      have hW1 := (hb.cell (p := ⟨b0, 0, none⟩) hb0).trans hW
      have hH1 := (hb.cell (p := ⟨b0, 1, none⟩) hb0).trans hH
      have hB1 : b0 < wr.heap.size := Nat.lt_of_lt_of_le hb0 hb.size
      go_wp2_with (go_at_call 76; refine (near_any b0 W H k h1 h2 h3 h4 hki _ hB1 hW1 hH1).mono ?_; rintro e w1 ⟨g, rfl, hg1, hg2, hgc, hb1⟩)
      clear hW1 hH1 hB1 hki
      have hbA := hb.trans (hb1.mono hb.size)
      have n0 := nbN_lt h1 h2 h3 h4 hF.out k 0
      have n1 := nbN_lt h1 h2 h3 h4 hF.out k 1
      have n2 := nbN_lt h1 h2 h3 h4 hF.out k 2
      have n3 := nbN_lt h1 h2 h3 h4 hF.out k 3
      have g0 := hgc.out 0 (by omega)
      have g1 := hgc.out 1 (by omega)
      have g2 := hgc.out 2 (by omega)
      have g3 := hgc.out 3 (by omega)
      generalize hm0 : nbN W H k 0 = m0 at n0 g0
      generalize hm1 : nbN W H k 1 = m1 at n1 g1
      generalize hm2 : nbN W H k 2 = m2 at n2 g2
      generalize hm3 : nbN W H k 3 = m3 at n3 g3
      have x0 : m0 < rs.length := by rw [← hL1.out]; exact n0
      have x1 : m1 < rs.length := by rw [← hL1.out]; exact n1
      have x2 : m2 < rs.length := by rw [← hL1.out]; exact n2
      have x3 : m3 < rs.length := by rw [← hL1.out]; exact n3
      have hbw1 : b < w1.heap.size := Nat.lt_of_lt_of_le hbw hbA.size
      have c0 := (hbA.cell (p := ⟨b, off + m0, none⟩) hbw).trans (hc m0 x0)
      have c1 := (hbA.cell (p := ⟨b, off + m1, none⟩) hbw).trans (hc m1 x1)
      go_wp2
      refine wp_region_dem1 14 (Below (w1.heap.size) w1) (fun _ _ _ => False) (by kernel_rfl) (by kernel_rfl) rfl rfl (fun _ _ _ h => h) (Below.refl _ _).drew ?_
      simp only [List.take_succ_cons, List.take_zero, List.drop_succ_cons, List.drop_zero]
      repeat (first
        | (refine wpDem_flt rfl rfl rfl rfl rfl (fun _ n h => (below_drewN_iff _ _ _ n).2 h) (fun r hr => ?_); simp only [Act.put, List.setIfInBounds_toArray, List.set_cons_succ, List.set_cons_zero])
        | (refine wpDem_want rfl (fun K hK => ?_); intro w' hw'; obtain ⟨hc', hf'⟩ := bcellB hw'; go_simp; first | (refine hK _ ?_; clear hK K hc' hf' hw' w')))
      refine wpDem_nil ?_
      intro w2 hb2
      rename_i rA0 hA0
      have hA : Hid (vf .f32 r = halfAt W H 0 1 (rs.map (vf .f32)) k) := by
        have e1 := hr.out
        have e2 := hA0.out
        rw [getD_vf x0, getD_vf x1, ← hm0, ← hm1] at e2
        rw [vf_half, e2] at e1
        exact e1
      clear hr hA0
      have oa2 := (oa.below hb1).below hb2
      have ob2 := (ob.below hb1).below hb2
      have hbB := hbA.trans (hb2.mono hbA.size)
      have la := oa.lt
      have lb := ob.lt
      go_wp2_with (at_builtin; refine wpList_app1 rfl rfl rfl rfl rfl oa2 hla.out (by have := hla.out; omega) hbB.size (fun p' cap' w3 oa3 hg3 hp3 => ?_))
      have ob3 := ob2.gb hg3 (sep_of' dj.out)
      have hbC : Below w.heap.size w w3 := hbB.trans (below_of_gb hg3 (fun a ha => (la a ha).1) hbB.size)
      have hgne : ∀ x, q = some x → g ≠ x.block := fun x hx => by have := (la x hx).2; omega
      have hgne' : some g ≠ q.map (·.block) := by
        intro he
        cases hq : q with
        | none => rw [hq] at he; cases he
        | some x => rw [hq] at he; exact hgne x hq (by simpa using he)
      have hz : w2.heap.size ≤ w3.heap.size := hg3.size
      have hg3s : g < w3.heap.size := Nat.lt_of_lt_of_le (Nat.lt_of_lt_of_le hg2 hb2.size) hz
      have g2' := hg3.cell ((hb2.cell (p := ⟨g, 2, none⟩) hg2).trans g2) hgne'
      have g3' := hg3.cell ((hb2.cell (p := ⟨g, 3, none⟩) hg2).trans g3) hgne'
      have hbw3 : b < w3.heap.size := Nat.lt_of_lt_of_le hbw hbC.size
      have c2 := (hbC.cell (p := ⟨b, off + m2, none⟩) hbw).trans (hc m2 x2)
      have c3 := (hbC.cell (p := ⟨b, off + m3, none⟩) hbw).trans (hc m3 x3)
      clear c0 c1 g0 g1 g2 g3
      go_wp2
      refine wp_region_dem1 14 (Below (w3.heap.size) w3) (fun _ _ _ => False) (by kernel_rfl) (by kernel_rfl) rfl rfl (fun _ _ _ h => h) (Below.refl _ _).drew ?_
      simp only [List.take_succ_cons, List.take_zero, List.drop_succ_cons, List.drop_zero]
      repeat (first
        | (refine wpDem_flt rfl rfl rfl rfl rfl (fun _ n h => (below_drewN_iff _ _ _ n).2 h) (fun r hr => ?_); simp only [Act.put, List.setIfInBounds_toArray, List.set_cons_succ, List.set_cons_zero])
        | (refine wpDem_want rfl (fun K hK => ?_); intro w' hw'; obtain ⟨hc', hf'⟩ := bcellB hw'; go_simp; first | (refine hK _ ?_; clear hK K hc' hf' hw' w')))
      refine wpDem_nil ?_
      intro w4 hb4
      rename_i rB0 hB0
      have hB : Hid (vf .f32 r = halfAt W H 2 3 (rs.map (vf .f32)) k) := by
        have e1 := hr.out
        have e2 := hB0.out
        rw [getD_vf x2, getD_vf x3, ← hm2, ← hm3] at e2
        rw [vf_half, e2] at e1
        exact e1
      clear hr hB0
      have oa4 := oa3.below hb4
      have ob4 := ob3.below hb4
      have hbD := hbC.trans (hb4.mono hbC.size)
      have hdj : ∀ x y, p' = some x → q2 = some y → x.block ≠ y.block := by
        intro x y hx hy
        rcases hp3 x hx with h5 | h5
        · exact dj.out x y h5 hy
        · have h6 := (lb y hy).2
          have h7 := hb1.size
          have h8 := hb2.size
          omega
      have la4 := oa4.lt
      go_wp2_with (at_builtin; refine wpList_app1 rfl rfl rfl rfl rfl ob4 hlb.out (by have := hlb.out; omega) hbD.size (fun p'' cap'' w5 ob5 hg5 hp5 => ?_))
      have oa5 := oa4.gb hg5 (sep_of hdj)
      go_roundw
      case rel =>
        refine ⟨k + 1, _, _, _, _, _, _, by omega, by go_num, rfl, rfl, oa5, ob5, ?_, ?_, ?_, hbD.trans (below_of_gb hg5 (fun a ha => (lb a ha).1) hbD.size)⟩
        · rw [Hid, List.map_append, va.out, halfF, range_succ_map _ _ _ (by simpa using hlr)]
          simp only [List.map_cons, List.map_nil, hA.out]
        · rw [Hid, List.map_append, vb.out, halfF, range_succ_map _ _ _ (by simpa using hlr)]
          simp only [List.map_cons, List.map_nil, hB.out]
        · intro x y hx hy
          rcases hp5 y hy with h5 | h5
          · exact hdj x y hx h5
          · have := (la4 x hx).2
            omega
      case measure => simp [intOf]; omega
    · go_wp2
      go_ret2
      obtain rfl : k = n := by omega
      have e2 := hL1.out
      refine ⟨_, _, _, _, _, _, rfl, oa, ?_, ob, ?_, dj.out, hb⟩
      · rw [va.out, List.take_of_length_le (by simp [halfF, e2])]
      · rw [vb.out, List.take_of_length_le (by simp [halfF, e2])]

/-- What a function of two slices and a bool hands back. -/
def BackTT (w w' : World) (e : Ending) (b : Bool) (xs ys : List (Option Nat)) : Prop :=
  ∃ q d rs q2 d2 rs2, e = .returned (.tuple #[.slice q (List.length rs) d, .slice q2 (List.length rs2) d2, .bool b]) ∧ Ow w' w.heap.size q d rs ∧ rs.map (vf .f32) = xs ∧ rs.length ≤ 1048576 ∧ Ow w' w.heap.size q2 d2 rs2 ∧ rs2.map (vf .f32) = ys ∧ rs2.length ≤ 1048576 ∧ (∀ x y, q = some x → q2 = some y → x.block ≠ y.block) ∧ Below w.heap.size w w'
theorem BackTT.none {w w' : World} {b : Bool} (hb : Below w.heap.size w w') : BackTT w w' (.returned (.tuple #[.slice none 0 0, .slice none 0 0, .bool b])) b [] [] :=
  ⟨Option.none, 0, [], Option.none, 0, [], rfl, Ow.nil _ _, rfl, by simp, Ow.nil _ _, rfl, by simp, (fun _ _ h => by cases h), hb⟩
theorem BackTT.of {w w' : World} {b : Bool} {xs ys : List (Option Nat)} {q q2 : Option Addr} {n d d2 : Nat} {rs rs2 : List Nat} (h1 : Ow w' w.heap.size q d rs) (h2 : rs.map (vf .f32) = xs) (h3 : rs.length = n) (h4 : Ow w' w.heap.size q2 d2 rs2) (h5 : rs2.map (vf .f32) = ys) (h6 : rs2.length = n) (hn : n ≤ 1048576) (h7 : ∀ x y, q = some x → q2 = some y → x.block ≠ y.block) (hb : Below w.heap.size w w') :
    BackTT w w' (.returned (.tuple #[.slice q n d, .slice q2 n d2, .bool b])) b xs ys :=
  ⟨q, d, rs, q2, d2, rs2, by rw [h3, h6], h1, h2, by omega, h4, h5, by omega, h7, hb⟩
theorem length_halfF (W H : Int) (j k : Nat) (xs : List (Option Nat)) : (halfF W H j k xs).length = xs.length := by simp [halfF]

def outA (W H : Int) (n j k : Nat) (xs : List (Option Nat)) : List (Option Nat) := if fitB W H n = true then halfF W H j k xs else []

set_option maxHeartbeats 400000 in
theorem spec_any (W H : Int) (p : Option Addr) (c : Nat) (rs : List Nat) {base : Nat} (w : World) (hn : rs.length ≤ 1048576) (how : Ow w base p c rs) :
    Calls Try.prog 15 #[.agg #[.int .i64 W, .int .i64 H], .slice p rs.length c] w fun e w' => BackTT w w' e (fitB W H rs.length) (outA W H rs.length 0 1 (rs.map (vf .f32))) (outA W H rs.length 2 3 (rs.map (vf .f32))) := by
  have hr := how.rd
  have hA : Hid (∀ j k, outA W H rs.length j k (rs.map (vf .f32)) = if fitB W H rs.length = true then halfF W H j k (rs.map (vf .f32)) else []) := fun _ _ => rfl
  cases h : fitB W H rs.length
  · go_enter Try.func15, Try.ntmps15
    go_wp2_with (go_at_call 46; refine (l03Fits_any _ W H p rs.length c hn _ (by simp) (by simp) (by simp)).mono ?_; rintro e w1 ⟨rfl, hb⟩)
    go_ret3
    rw [hA.out, hA.out, h]
    exact BackTT.none (((Below.refl _ _).alloc (Nat.le_refl _) _).trans (hb.mono (by simp)))
  · obtain ⟨h1, h2, h3, h4, hf⟩ := fitB_spec h
    have hF : Hid ((rs.length : Int) = W * H) := hf
    clear hf
    go_enter Try.func15, Try.ntmps15
    go_wp2_with (first
      | (go_at_call 46; refine (l03Fits_any _ W H p rs.length c hn _ (by simp) (by simp) (by simp)).mono ?_; rintro e w1 ⟨rfl, hb0⟩; have hb := ((Below.refl _ _).alloc (Nat.le_refl _) _).trans (hb0.mono (by simp)))
      | (go_at_call 47; refine (l03Fields_any _ W H p c rs h1 h2 h3 h4 hF.out _ (by have := hb0.size; simp at this; omega) ((hb0.cell (p := ⟨w.heap.size, 0, none⟩) (by simp)).trans (by simp)) ((hb0.cell (p := ⟨w.heap.size, 1, none⟩) (by simp)).trans (by simp)) (hr.below (by assumption))).mono ?_; rintro e w2 ⟨q, c1, r1, q2, c2, r2, rfl, o1, v1, o2, v2, dj, hb2⟩))
    go_ret3
    rw [hA.out, hA.out, h]
    have e1 : r1.length = rs.length := by have := congrArg List.length v1; simpa [halfF] using this
    have e2 : r2.length = rs.length := by have := congrArg List.length v2; simpa [halfF] using this
    exact BackTT.of (o1.mono hb.size) v1 e1 (o2.mono hb.size) v2 e2 hn dj (hb.trans (hb2.mono hb.size))

theorem get_ne {g g2 : Nat} (h : g ≠ g2) : ∀ b o s, (some (⟨g, 0, none⟩ : Addr)) = some ⟨b, o, s⟩ → b ≠ g2 := by
  intro b o s e
  cases e
  exact h

set_option maxHeartbeats 2000000 in
set_option maxRecDepth 100000 in
theorem fields_in (W H : Nat) (p : Option Addr) (c : Nat) (rs : List Nat) (h1 : 4 ≤ W) (h2 : W ≤ 16) (h3 : 4 ≤ H) (h4 : H ≤ 16) (hf : rs.length = W * H) (hfit : fitB W H rs.length = true) (w : World) (hr : Rd w p rs) :
    Calls Try.prog 18 #[.agg #[.int .i64 (W : Nat), .int .i64 (H : Nat)], .slice p rs.length c] w fun e w' => BackTT w w' e true (halfF W H 0 1 (rs.map (vf .f32))) (halfF W H 2 3 (rs.map (vf .f32))) := by
  have hm : W * H ≤ 256 := Nat.mul_le_mul h2 h4
  have hp : 0 < W * H := Nat.mul_pos (by omega) (by omega)
  obtain ⟨b, o, rfl, hbw, HC⟩ := hr.open_ (by omega)
  obtain ⟨n, hL⟩ : ∃ n, n = rs.length := ⟨_, rfl⟩
  have hL1 : Hid (n = rs.length) := hL
  rw [← hL] at hf hfit
  rw [← hL]
  have hF : Hid (n = W * H) := hf
  have hFi : Hid ((n : Int) = W * H) := by show (n : Int) = W * H; rw [hf]; simp
  have hnn : n ≤ 256 := by omega
  have hn : n ≤ 1048576 := by omega
  clear hL hf hm hp hr
  have hG0 := GI.start w W H
  go_enter Try.func18, Try.ntmps18
  go_upto_region 3 with (go_at_call 48; refine (IsField_any W H _ n c hn _).mono ?_; rintro e w1 ⟨rfl, hb0⟩; have hG := hG0.step hb0)
  have hfz : w.heap.size ≤ w1.heap.size := by have := hG.size; omega
  have oA := (Ow.made w1 n (by unfold maxLen; omega)).below ((Below.refl _ (w1.alloc (.cells (madeCells #[.float .f32 0] n) 38))).alloc (Nat.le_refl _) (.cells (madeCells #[.float .f32 0] n) 38))
  have oB := (Ow.made (w1.alloc (.cells (madeCells #[.float .f32 0] n) 38)) n (by unfold maxLen; omega)).mono (show w1.heap.size ≤ (w1.alloc (.cells (madeCells #[.float .f32 0] n) 38)).heap.size by simp)
  replace oB : Ow ((w1.alloc (.cells (madeCells #[.float .f32 0] n) 38)).alloc (.cells (madeCells #[.float .f32 0] n) 38)) w1.heap.size (some ⟨w1.heap.size + 1, 0, none⟩) n (List.replicate n 0) := by simpa using oB
  have hbAB : Below w1.heap.size w1 ((w1.alloc (.cells (madeCells #[.float .f32 0] n) 38)).alloc (.cells (madeCells #[.float .f32 0] n) 38)) := ((Below.refl _ _).alloc (Nat.le_refl _) _).alloc (by simp) _
  have hmk := fun w => make_f32 w n hn
  go_cut [7, 8] from 16 to 21 (fun c d wx => ∃ g g2 : Nat, c = .slice (some ⟨g, 0, none⟩) n n ∧ d = .slice (some ⟨g2, 0, none⟩) n n ∧ Ow wx w1.heap.size (some ⟨g, 0, none⟩) n (List.replicate n 0) ∧ Ow wx w1.heap.size (some ⟨g2, 0, none⟩) n (List.replicate n 0) ∧ g ≠ g2 ∧ Below w1.heap.size w1 wx)
  case first =>
    go_region
    all_goals
      go_wp2
      go_meet
      first
        | exact ⟨w1.heap.size, w1.heap.size + 1, rfl, rfl, oA, oB, by simp, hbAB.drew⟩
        | exact ⟨w1.heap.size + 1, w1.heap.size, rfl, rfl, oB, oA, by simp, hbAB.drew⟩
  case rest =>
    obtain ⟨g, g2, rfl, rfl, oc, od, hgg, hbx⟩ := hcut
    replace oc := oc.mono (base' := w.heap.size + 1) hG.size
    replace od := od.mono (base' := w.heap.size + 1) hG.size
    have hb := hG.step hbx
    have hgg' := Ne.symm hgg
    have hd0 := hb.c0
    have hd1 := hb.c1
    clear oA oB hbAB hmk hb0 hG0
    go_wp2
    clear hd0 hd1
    go_loopw [24] (fun i wr => ∃ (y : Nat) (cs ds : List Nat), y ≤ H ∧ i = .int .i64 y ∧ Ow wr (w.heap.size + 1) (some ⟨g, 0, none⟩) n cs ∧ Ow wr (w.heap.size + 1) (some ⟨g2, 0, none⟩) n ds ∧ Pt n 0 (W * y) (halfAt W H 0 1 (rs.map (vf .f32))) cs ∧ Pt n 0 (W * y) (halfAt W H 2 3 (rs.map (vf .f32))) ds ∧ GI w W H wr) (fun i _ => H - (intOf i).toNat)
    case atStart => exact ⟨0, _, _, Nat.zero_le _, rfl, oc, od, Pt.none (by simp) (by simp), Pt.none (by simp) (by simp), hb⟩
    case round =>
      clear oc od hb hbx hG
      obtain ⟨y, cs, ds, hy, rfl, oc, od, pc, pd, hb⟩ := hrel
      have hc0 := hb.c0
      have hc1 := hb.c1
      by_cases hlt : y < H
      · go_wp2
        clear hc0 hc1
        go_loopw [29] (fun i wr2 => ∃ (x : Nat) (cs ds : List Nat), x ≤ W ∧ i = .int .i64 x ∧ Ow wr2 (w.heap.size + 1) (some ⟨g, 0, none⟩) n cs ∧ Ow wr2 (w.heap.size + 1) (some ⟨g2, 0, none⟩) n ds ∧ Pt n 0 (x + W * y) (halfAt W H 0 1 (rs.map (vf .f32))) cs ∧ Pt n 0 (x + W * y) (halfAt W H 2 3 (rs.map (vf .f32))) ds ∧ GI w W H wr2) (fun i _ => W - (intOf i).toNat)
        case atStart => exact ⟨0, cs, ds, Nat.zero_le _, rfl, oc, od, by simpa using pc, by simpa using pd, hb⟩
        case round =>
          clear oc od pc pd hb cs ds
          obtain ⟨x, cs, ds, hx, rfl, oc, od, pc, pd, hb⟩ := hrel
          by_cases hltx : x < W
          · have hc0 := hb.c0
            have hc1 := hb.c1
            obtain ⟨i, hi⟩ : ∃ i, i = x + W * y := ⟨_, rfl⟩
            have hii : Hid ((i : Int) = x + W * y) := by show (i : Int) = _; rw [hi]; simp
            have hin : i < n := by rw [hi]; exact row_lt hF.out hltx hlt
            rw [← hi] at pc pd
            have hI : Hid (i = x + W * y) := hi
            clear hi
            go_wp2_with fail
            refine (neighbours_at W H i x y (by omega) (by omega) (by omega) (by omega) (by omega) (by omega) hii.out _).mono ?_
            rintro e w2 ⟨rfl, hb2⟩
            have hbA := hb.step hb2
            replace oc := oc.below hb2
            replace od := od.below hb2
            have ba : ∀ j, nbN W H i j < rs.length := fun j => by rw [← hL1.out]; exact nbN_lt (by omega) (by omega) (by omega) (by omega) hFi.out i j
            have m0 := ba 0
            have m1 := ba 1
            have m2 := ba 2
            have m3 := ba 3
            have lg : g < w2.heap.size := (oc.lt _ rfl).2
            have lg2 : g2 < w2.heap.size := (od.lt _ rfl).2
            clear hc0 hc1 ba
            simp only [nbA]
            obtain ⟨k0, e0⟩ : ∃ k, Hid (nbN W H i 0 = k) := ⟨_, rfl⟩
            obtain ⟨k1, e1⟩ : ∃ k, Hid (nbN W H i 1 = k) := ⟨_, rfl⟩
            obtain ⟨k2, e2⟩ : ∃ k, Hid (nbN W H i 2 = k) := ⟨_, rfl⟩
            obtain ⟨k3, e3⟩ : ∃ k, Hid (nbN W H i 3 = k) := ⟨_, rfl⟩
            rw [e0.out] at m0
            rw [e1.out] at m1
            rw [e2.out] at m2
            rw [e3.out] at m3
            rw [e0.out, e1.out, e2.out, e3.out]
            have q0 : k0 < n := by rw [hL1.out]; exact m0
            have q1 : k1 < n := by rw [hL1.out]; exact m1
            have q2 : k2 < n := by rw [hL1.out]; exact m2
            have q3 : k3 < n := by rw [hL1.out]; exact m3
            go_upto_region 11 with fail
            have hb3 := (Below.refl w2.heap.size w2).alloc (Nat.le_refl _) (.cells #[.int .i64 (k0 : Nat), .int .i64 (k1 : Nat), .int .i64 (k2 : Nat), .int .i64 (k3 : Nat)] 56)
            have n0 : (w2.alloc (.cells #[.int .i64 (k0 : Nat), .int .i64 (k1 : Nat), .int .i64 (k2 : Nat), .int .i64 (k3 : Nat)] 56)).cell? ⟨w2.heap.size, 0, none⟩ = some (.int .i64 (k0 : Nat)) := by simp
            have n1 : (w2.alloc (.cells #[.int .i64 (k0 : Nat), .int .i64 (k1 : Nat), .int .i64 (k2 : Nat), .int .i64 (k3 : Nat)] 56)).cell? ⟨w2.heap.size, 1, none⟩ = some (.int .i64 (k1 : Nat)) := by simp
            have n2 : (w2.alloc (.cells #[.int .i64 (k0 : Nat), .int .i64 (k1 : Nat), .int .i64 (k2 : Nat), .int .i64 (k3 : Nat)] 56)).cell? ⟨w2.heap.size, 2, none⟩ = some (.int .i64 (k2 : Nat)) := by simp
            have n3 : (w2.alloc (.cells #[.int .i64 (k0 : Nat), .int .i64 (k1 : Nat), .int .i64 (k2 : Nat), .int .i64 (k3 : Nat)] 56)).cell? ⟨w2.heap.size, 3, none⟩ = some (.int .i64 (k3 : Nat)) := by simp
            have nz : w2.heap.size < (w2.alloc (.cells #[.int .i64 (k0 : Nat), .int .i64 (k1 : Nat), .int .i64 (k2 : Nat), .int .i64 (k3 : Nat)] 56)).heap.size := by simp
            generalize hw3 : w2.alloc (.cells #[.int .i64 (k0 : Nat), .int .i64 (k1 : Nat), .int .i64 (k2 : Nat), .int .i64 (k3 : Nat)] 56) = w3 at *
            clear hw3
            have hbB := hbA.step hb3
            replace oc := oc.below hb3
            replace od := od.below hb3
            have zc := (oc.lt _ rfl).2
            have zd := (od.lt _ rfl).2
            have zb := Nat.lt_of_lt_of_le hbw hbB.below.size
            have hne1 : w2.heap.size ≠ g := by omega
            have hne2 : w2.heap.size ≠ g2 := by omega
            have hc0 := hbB.c0
            have hc1 := hbB.c1
            have hz0 : w.heap.size < w3.heap.size := by have := hbB.size; omega
            obtain ⟨x0, v0, l0⟩ := HC.get hbw hbB.below m0
            obtain ⟨x1, v1, l1⟩ := HC.get hbw hbB.below m1
            have kc : i < cs.length := by rw [pc.len]; exact hin
            have kd : i < ds.length := by rw [pd.len]; exact hin
            refine wp_region_dem 17 (Below (w3.heap.size) w3) (fun _ _ v => v = .int .i64 (i : Nat)) (by kernel_rfl) (by kernel_rfl) (Below.refl _ _).drew ?_
            simp only [List.take_succ_cons, List.take_zero, List.drop_succ_cons, List.drop_zero]
            repeat (first
              | (refine wpDem_flt rfl rfl rfl rfl rfl (fun _ n h => (below_drewN_iff _ _ _ n).2 h) (fun r hr => ?_); simp only [Act.put, List.setIfInBounds_toArray, List.set_cons_succ, List.set_cons_zero])
              | (refine wpDem_want rfl (fun K hK => ?_); intro w' hw'; obtain ⟨hc', hf'⟩ := bcellB hw'; go_simp; first | (refine hK _ ?_; clear hK K hc' hf' hw' w') | ((refine ⟨(index_at W H i x y (by omega) (by omega) (by omega) (by omega) (by omega) (by omega) hii.out _).mono (by rintro e w'' ⟨rfl, hq⟩; exact ⟨_, rfl, rfl, hw'.trans (hq.mono hw'.size)⟩), ?_⟩); refine hK _ ?_; clear hK K hc' hf' hw' w')))
            refine wpDem_nil ?_
            intro w4 hb4
            rename_i ra ha
            have hA : Hid (vf .f32 r = halfAt W H 0 1 (rs.map (vf .f32)) i) := by
              have a1 := hr.out
              rw [vf_half, ha.out, v0.out, v1.out, ← e0.out, ← e1.out] at a1
              exact a1
            clear hr ha l0 l1 hc0 hc1
            have hbD := hbB.step hb4
            have oc4 := oc.below hb4
            have od4 := od.below hb4
            obtain ⟨⟨y0, s0⟩, f0⟩ := oc4.slot kc
            have n2' := (hb4.cell (p := ⟨w2.heap.size, 2, none⟩) nz).trans n2
            have n3' := (hb4.cell (p := ⟨w2.heap.size, 3, none⟩) nz).trans n3
            have oc5 := oc4.set kc r
            have od5 := od4.set_other (g := g) (i := i) (get_ne hgg') (.float .f32 r)
            have hbE := hbD.set (g := g) (i := i) (oc4.lt _ rfl).1 (.float .f32 r)
            have n2'' : (w4.setCell ⟨g, i, none⟩ (.float .f32 r)).cell? ⟨w2.heap.size, 2, none⟩ = some (.int .i64 (k2 : Nat)) := (gb_set (gb_refl w4 (some g)) (i := i) (.float .f32 r)).cell n2' (by simpa using hne1)
            have n3'' : (w4.setCell ⟨g, i, none⟩ (.float .f32 r)).cell? ⟨w2.heap.size, 3, none⟩ = some (.int .i64 (k3 : Nat)) := (gb_set (gb_refl w4 (some g)) (i := i) (.float .f32 r)).cell n3' (by simpa using hne1)
            have nz' : w2.heap.size < (w4.setCell ⟨g, i, none⟩ (.float .f32 r)).heap.size := by have := hb4.size; simp; omega
            clear n0 n1 n2 n3 n2' n3' oc od
            go_upto_region 12 with fail
            generalize hw5 : w4.setCell ⟨g, i, none⟩ (.float .f32 r) = w5 at *
            clear hw5 s0 f0
            have zb5 := Nat.lt_of_lt_of_le hbw hbE.below.size
            have hc0 := hbE.c0
            have hc1 := hbE.c1
            have hz5 : w.heap.size < w5.heap.size := by have := hbE.size; omega
            have zd5 := (od5.lt _ rfl).2
            obtain ⟨x2, v2, l2⟩ := HC.get hbw hbE.below m2
            obtain ⟨x3, v3, l3⟩ := HC.get hbw hbE.below m3
            refine wp_region_dem 17 (Below (w5.heap.size) w5) (fun _ _ v => v = .int .i64 (i : Nat)) (by kernel_rfl) (by kernel_rfl) (Below.refl _ _).drew ?_
            simp only [List.take_succ_cons, List.take_zero, List.drop_succ_cons, List.drop_zero]
            repeat (first
              | (refine wpDem_flt rfl rfl rfl rfl rfl (fun _ n h => (below_drewN_iff _ _ _ n).2 h) (fun r hr => ?_); simp only [Act.put, List.setIfInBounds_toArray, List.set_cons_succ, List.set_cons_zero])
              | (refine wpDem_want rfl (fun K hK => ?_); intro w' hw'; obtain ⟨hc', hf'⟩ := bcellB hw'; go_simp; first | (refine hK _ ?_; clear hK K hc' hf' hw' w') | ((refine ⟨(index_at W H i x y (by omega) (by omega) (by omega) (by omega) (by omega) (by omega) hii.out _).mono (by rintro e w'' ⟨rfl, hq⟩; exact ⟨_, rfl, rfl, hw'.trans (hq.mono hw'.size)⟩), ?_⟩); refine hK _ ?_; clear hK K hc' hf' hw' w')))
            refine wpDem_nil ?_
            intro w6 hb6
            rename_i rb hb0
            have hB : Hid (vf .f32 r = halfAt W H 2 3 (rs.map (vf .f32)) i) := by
              have a1 := hr.out
              rw [vf_half, hb0.out, v2.out, v3.out, ← e2.out, ← e3.out] at a1
              exact a1
            clear hr hb0 l2 l3 hc0 hc1
            have hbF := hbE.step hb6
            have oc6 := oc5.below hb6
            have od6 := od5.below hb6
            obtain ⟨⟨y1, s1⟩, f1⟩ := od6.slot kd
            go_wp2
            go_roundw
            case rel =>
              refine ⟨x + 1, _, _, by omega, by go_num, oc6.set_other (get_ne hgg) _, od6.set kd r, ?_, ?_, hbF.set (od6.lt _ rfl).1 _⟩
              · rw [show x + 1 + W * y = i + 1 by have := hI.out; omega]
                exact pc.up hin hA.out
              · rw [show x + 1 + W * y = i + 1 by have := hI.out; omega]
                exact pd.up hin hB.out
            case measure => simp [intOf]; omega
          · go_wp2
            obtain rfl : x = W := by omega
            go_roundw
            case rel => exact ⟨y + 1, cs, ds, by omega, by go_num, oc, od, by simpa [Nat.mul_succ, Nat.add_comm] using pc, by simpa [Nat.mul_succ, Nat.add_comm] using pd, hb⟩
            case measure => simp [intOf]; omega
      · go_wp2
        go_ret3
        obtain rfl : y = H := by omega
        rw [← hF.out] at pc pd
        refine BackTT.of (oc.mono (by omega)) ?_ pc.len (od.mono (by omega)) ?_ pd.len hn (by intro a b ha hb; cases ha; cases hb; exact hgg) hb.below
        · rw [pc.all, halfF, List.length_map, ← hL1.out]
        · rw [pd.all, halfF, List.length_map, ← hL1.out]
end Go.Proofs.Ytdafcgimkiepnaa.Fields
