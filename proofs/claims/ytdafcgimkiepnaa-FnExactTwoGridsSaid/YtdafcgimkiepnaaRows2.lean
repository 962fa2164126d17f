/-
  All rows solved, one after another: contracts of the reference's and of the program's.
  Conditions: none.
-/
import Derived.Test.YtdafcgimkiepnaaRing
import Derived.Test.YtdafcgimkiepnaaNear
import Derived.Test.YtdafcgimkiepnaaTwo
import Derived.Laws.CopyOwn
namespace Go.Proofs.Ytdafcgimkiepnaa.SRows
open Go Go.RowKit Go.Proofs.Ytdafcgimkiepnaa.Fl Go.Proofs.Ytdafcgimkiepnaa.Reg Go.Proofs.Ytdafcgimkiepnaa.Step Go.Proofs.Ytdafcgimkiepnaa.Mem Go.Proofs.Ytdafcgimkiepnaa.Help Go.Proofs.Ytdafcgimkiepnaa.Grid Go.Proofs.Ytdafcgimkiepnaa.Index Go.Proofs.Ytdafcgimkiepnaa.Near Go.Proofs.Ytdafcgimkiepnaa.Mean Go.Proofs.Ytdafcgimkiepnaa.App Go.Proofs.Ytdafcgimkiepnaa.Level Go.Proofs.Ytdafcgimkiepnaa.Lap Go.Proofs.Ytdafcgimkiepnaa.Law Go.Proofs.Ytdafcgimkiepnaa.Two Go.Proofs.Ytdafcgimkiepnaa.Row Go.Proofs.Ytdafcgimkiepnaa.Rep Go.Proofs.Ytdafcgimkiepnaa.Ring

def rowRAt (W H : Nat) (ls xs : List (Option Nat)) (y x : Nat) : Option Nat := fop .add .f32 (fop .add .f32 (ls.getD (x + W * y) none) (xs.getD (nbN W H (x + W * y) 2) none)) (xs.getD (nbN W H (x + W * y) 3) none)
def rowR (W H : Nat) (ls xs : List (Option Nat)) (y : Nat) : List (Option Nat) := (List.range W).map (rowRAt W H ls xs y)
def putRow (W : Nat) (xs : List (Option Nat)) (y : Nat) (row : List (Option Nat)) : List (Option Nat) := (List.range xs.length).map fun k => if k / W = y then row.getD (k % W) none else xs.getD k none
def rowsTo (W H : Nat) (ls xs : List (Option Nat)) : Nat → List (Option Nat)
  | 0 => xs
  | y + 1 => putRow W (rowsTo W H ls xs y) y (ringF W (rowR W H ls (rowsTo W H ls xs y) y))
@[simp] theorem length_rowsTo (W H : Nat) (ls xs : List (Option Nat)) (y : Nat) : (rowsTo W H ls xs y).length = xs.length := by
  induction y with
  | zero => rfl
  | succ y ih => simp [rowsTo, putRow, ih]
@[simp] theorem length_ringF (n : Nat) (R : List (Option Nat)) : (ringF n R).length = n := by simp [ringF]
/-- Row y is written as far as x. -/
def mixAt (W : Nat) (xs : List (Option Nat)) (y : Nat) (row : List (Option Nat)) (x k : Nat) : Option Nat := if k / W = y ∧ k % W < x then row.getD (k % W) none else xs.getD k none
theorem Pt.put {n k0 r : Nat} {f g : Nat → Option Nat} {xs : List Nat} (h : Pt n 0 n f xs) (_hk : k0 < n) (hr : vf .f32 r = g k0) (he : ∀ j, j < n → j ≠ k0 → g j = f j) : Pt n 0 n g (xs.set k0 r) := by
  refine ⟨by simp [h.1], fun j h1 h2 => ?_⟩
  rw [set_getD (by rw [h.1]; omega)]
  split
  · rename_i e; rw [e, hr]
  · rename_i e
    rw [he j h2 e, h.2 j h1 h2]
theorem mix_zero (W : Nat) (xs : List (Option Nat)) (y : Nat) (row : List (Option Nat)) (k : Nat) : mixAt W xs y row 0 k = xs.getD k none := by simp [mixAt]
theorem mix_full {W : Nat} (hW : 0 < W) (xs : List (Option Nat)) (y : Nat) (row : List (Option Nat)) {n : Nat} (hn : xs.length = n) : (List.range n).map (mixAt W xs y row W) = putRow W xs y row := by
  unfold putRow
  rw [hn]
  apply List.map_congr_left
  intro k _
  have : k % W < W := Nat.mod_lt _ hW
  simp [mixAt, this]
theorem mix_step {W x y j : Nat} (_hx : x < W) (xs : List (Option Nat)) (row : List (Option Nat)) (hj : j ≠ x + W * y) : mixAt W xs y row (x + 1) j = mixAt W xs y row x j := by
  unfold mixAt
  have : (j / W = y ∧ j % W < x + 1) ↔ (j / W = y ∧ j % W < x) := by
    constructor
    · rintro ⟨a, b⟩
      refine ⟨a, ?_⟩
      rcases Nat.lt_or_ge (j % W) x with h | h
      · exact h
      · have e : j % W = x := by omega
        have := Nat.div_add_mod j W
        rw [a, e] at this
        omega
    · rintro ⟨a, b⟩
      exact ⟨a, by omega⟩
  simp only [this]
theorem divmod2 {W x y : Nat} (hx : x < W) : (x + W * y) % W = x ∧ (x + W * y) / W = y := by
  constructor
  · rw [Nat.add_mul_mod_self_left, Nat.mod_eq_of_lt hx]
  · rw [Nat.add_mul_div_left _ _ (by omega), Nat.div_eq_of_lt hx, Nat.zero_add]
theorem mix_at {W x y : Nat} (hx : x < W) (xs : List (Option Nat)) (row : List (Option Nat)) : mixAt W xs y row (x + 1) (x + W * y) = row.getD x none := by
  unfold mixAt
  rw [(divmod2 hx).1, (divmod2 hx).2, if_pos ⟨rfl, by omega⟩]
theorem Pt.of_eq {n : Nat} {ys : List (Option Nat)} {xs : List Nat} (h : xs.map (vf .f32) = ys) (hl : ys.length = n) : Pt n 0 n (fun k => ys.getD k none) xs :=
  ⟨by rw [← hl, ← h]; simp, fun j _ _ => by rw [h]⟩
theorem nb_up {W H i x y : Nat} (h1 : 4 ≤ W) (h2 : W ≤ 16) (h3 : 4 ≤ H) (h4 : H ≤ 16) (hx : x < W) (hi : i = x + W * y) : ixF (W : Int) (H : Int) (x : Int) ((y : Int) - 1) = (nbN W H i 2 : Int) ∧ ixF (W : Int) (H : Int) (x : Int) ((y : Int) + 1) = (nbN W H i 3 : Int) := by
  have e : (i : Int) = x + W * y := by rw [hi]; push_cast; rfl
  have q1 : (i : Int) % W = x := by rw [e, Int.add_mul_emod_self_left]; exact Int.emod_eq_of_lt (by omega) (by omega)
  have q2 : (i : Int) / W = y := by rw [e, Int.add_mul_ediv_left _ _ (by omega), Int.ediv_eq_zero_of_lt (by omega) (by omega)]; omega
  constructor
  · show _ = (((ixF W H ((i : Int) % W) ((i : Int) / W - 1)).toNat : Nat) : Int)
    rw [q1, q2, ← ixF_nat W H _ _ (by omega) (by omega) (by omega) (by omega)]
  · show _ = (((ixF W H ((i : Int) % W) ((i : Int) / W + 1)).toNat : Nat) : Int)
    rw [q1, q2, ← ixF_nat W H _ _ (by omega) (by omega) (by omega) (by omega)]

set_option maxHeartbeats 400000 in
theorem l03Own_any (b : Nat) (c : Nat) (rs : List Nat) (w : World) (h0 : 0 < rs.length) (hn : rs.length ≤ 1048576) (hr : Rd w (some ⟨b, 0, none⟩) rs) :
    Calls Try.prog 65 #[.slice (some ⟨b, 0, none⟩) rs.length c] w fun e w' => ∃ q cap, e = .returned (.slice q rs.length cap) ∧ Ow w' w.heap.size q cap rs ∧ Below w.heap.size w w' := by
  obtain ⟨n, hL⟩ : ∃ n, n = rs.length := ⟨_, rfl⟩
  have hL1 : Hid (n = rs.length) := hL
  rw [← hL]
  clear hL
  go_enter Try.func65, Try.ntmps65
  go_wp2_with (at_builtin; refine wpList_appN rfl rfl rfl rfl rfl (Ow.empty w #[] rfl) rfl (hr.below ((Below.refl _ _).alloc (Nat.le_refl _) _)) hL1.out h0 (by simp; omega) (by simp) (fun p' cap' w' ho' hg' hp' => ?_))
  go_ret
  refine ⟨p', cap', by simp, by simpa using ho', ((Below.refl _ _).alloc (Nat.le_refl _) _).trans (below_of_gb hg' (fun a ha => by cases ha; exact Nat.le_refl _) (by simp))⟩

set_option maxHeartbeats 4000000 in
set_option maxRecDepth 100000 in
theorem spec_in (W H : Nat) (bv bc : Nat) (c1 c2 : Nat) (rs ss : List Nat) (n : Nat) (h1 : 4 ≤ W) (h2 : W ≤ 16) (h3 : 4 ≤ H) (h4 : H ≤ 16) (hn : Hid (n = W * H)) (l1 : Hid (rs.length = n)) (l2 : Hid (ss.length = n)) (hfit : fitB W H n = true) (w : World) (hr : Rd w (some ⟨bv, 0, none⟩) rs) (hs : Rd w (some ⟨bc, 0, none⟩) ss) :
    Calls Try.prog 42 #[.agg #[.int .i64 (W : Nat), .int .i64 (H : Nat)], .slice (some ⟨bv, 0, none⟩) n c1, .slice (some ⟨bc, 0, none⟩) n c2] w fun e w' => BackT w w' e true (rowsTo W H (levelF (ss.map (vf .f32))) (rs.map (vf .f32)) H) := by
  have hnn : n ≤ 256 := by rw [hn.out]; exact Nat.mul_le_mul h2 h4
  have hn0 : 0 < n := by rw [hn.out]; exact Nat.mul_pos (by omega) (by omega)
  have hG0 := GI.start w W H
  obtain ⟨X, hX⟩ : ∃ X, Hid (rs.map (vf .f32) = X) := ⟨_, rfl⟩
  obtain ⟨L, hL⟩ : ∃ L, Hid (levelF (ss.map (vf .f32)) = L) := ⟨_, rfl⟩
  rw [hX.out, hL.out]
  have lX : Hid (X.length = n) := by show _ = _; rw [← hX.out]; simpa using l1.out
  have lL : Hid (L.length = n) := by show _ = _; rw [← hL.out]; simpa [levelF] using l2.out
  go_enter Try.func42, Try.ntmps42
  go_wp2_with fail
  refine (l03Fits_any w.heap.size W H _ n c1 (by omega) _ (by simp) (by simp) (by simp)).mono ?_
  rw [hfit]
  rintro e w1 ⟨rfl, hb1⟩
  have hG1 := hG0.step hb1
  go_wp2_with fail
  refine (l03Fits_any w.heap.size W H _ n c2 (by omega) _ (by have := hG1.size; omega) hG1.c0 hG1.c1).mono ?_
  rw [hfit]
  rintro e w2 ⟨rfl, hb2⟩
  have hG2 := hG1.step hb2
  clear hfit
  go_wp2_with fail
  have hc := l03Own_any bv c1 rs w2 (by rw [l1.out]; exact hn0) (by rw [l1.out]; omega) (hr.below hG2.below)
  rw [l1.out] at hc
  refine hc.mono ?_
  rintro e w3 ⟨q, cap, rfl, ho, hb3⟩
  have hG3 := hG2.step hb3
  go_wp2_with fail
  have hc2 := l03Level_any _ c2 ss w3 (by rw [l2.out]; omega) (hs.below hG3.below)
  rw [l2.out] at hc2
  refine hc2.mono ?_
  rintro e w4 ⟨q2, cap2, ls, rfl, ol, vl, hb4⟩
  have hG4 := hG3.step hb4
  rw [hL.out] at vl
  have pl := Pt.of_eq vl lL.out
  obtain ⟨g, rfl⟩ : ∃ g, q = some ⟨g, 0, none⟩ := by obtain ⟨g, hg, _⟩ := ho.cells (by rw [l1.out]; exact hn0); exact ⟨g, hg⟩
  obtain ⟨gl, rfl⟩ : ∃ g, q2 = some ⟨g, 0, none⟩ := by obtain ⟨g, hg, _⟩ := ol.cells (by rw [pl.len]; exact hn0); exact ⟨g, hg⟩
  have hg1 : w2.heap.size ≤ g ∧ g < w3.heap.size := ho.lt _ rfl
  have hg2 : w3.heap.size ≤ gl := (ol.lt _ rfl).1
  have hgl : gl ≠ g := by omega
  have hgw : w.heap.size + 1 ≤ g := by have := hG2.size; omega
  have ho := (ho.mono (base' := w.heap.size + 1) hG2.size).below hb4
  have ol := ol.mono (base' := w.heap.size + 1) hG3.size
  have HX0 : Hid (rs.map (vf .f32) = rowsTo W H L X 0) := by show _ = _; rw [hX.out]; rfl
  clear hc hc2 vl hb1 hb2 hb3 hb4 hG0 hG1 hG2 hG3 hg1 hg2
  go_wp2
  go_loopw [10] (fun i wr => ∃ (y : Nat) (os : List Nat), y ≤ H ∧ i = .int .i64 y ∧ Ow wr (w.heap.size + 1) (some ⟨g, 0, none⟩) cap os ∧ Hid (os.map (vf .f32) = rowsTo W H L X y) ∧ Ow wr (w.heap.size + 1) (some ⟨gl, 0, none⟩) cap2 ls ∧ GI w W H wr) (fun i _ => H - (intOf i).toNat)
  case atStart => exact ⟨0, rs, Nat.zero_le _, rfl, ho, HX0, ol, hG4⟩
  case round =>
    clear ho ol hG4 HX0
    obtain ⟨y, os, hy, rfl, ho, hv, ol, hG⟩ := hrel
    obtain ⟨A, hA⟩ : ∃ A, Hid (rowsTo W H L X y = A) := ⟨_, rfl⟩
    have lA : Hid (A.length = n) := by show _ = _; rw [← hA.out]; simpa using lX.out
    have pA := Pt.of_eq (hv.out.trans hA.out) lA.out
    have k0 := hG.c0
    have k1 := hG.c1
    by_cases hlt : y < H
    · obtain ⟨wo, rfl⟩ : ∃ wo : World, wo = wr := ⟨_, rfl⟩
      have oS := Ow.empty wo #[] rfl
      have bS := (Below.refl wo.heap.size wo).alloc (Nat.le_refl _) (.cells #[] 38)
      go_wp2
      clear k0 k1
      go_loopw [11, 12] (fun s i wr => ∃ (x : Nat) (q : Option Addr) (cp : Nat) (qs : List Nat), x ≤ W ∧ i = .int .i64 x ∧ s = .slice q x cp ∧ Ow wr wo.heap.size q cp qs ∧ Pt x 0 x (rowRAt W H L A y) qs ∧ Below wo.heap.size wo wr) (fun _ i _ => W - (intOf i).toNat)
      case atStart => exact ⟨0, _, 0, [], Nat.zero_le _, rfl, rfl, oS, Pt.empty, bS⟩
      case round =>
        clear oS bS
        obtain ⟨x, q, cp, qs, hx, rfl, rfl, oq, pq, hb⟩ := hrel
        have hGr := hG.step hb
        have k0 := hGr.c0
        have k1 := hGr.c1
        by_cases hltx : x < W
        · have hin : x + W * y < n := row_lt hn.out hltx hlt
          obtain ⟨i, hi⟩ : ∃ i, i = x + W * y := ⟨_, rfl⟩
          rw [← hi] at hin
          have hiI : ((x : Int) + (W : Int) * (y : Int)) = (i : Int) := by rw [hi]; push_cast; rfl
          have hWy : 0 ≤ (W : Int) * (y : Int) ∧ (W : Int) * (y : Int) ≤ 256 := by omega
          have HI : Hid (((x : Int) + (W : Int) * (y : Int)) = (i : Int)) := hiI
          have hI : Hid (i = x + W * y) := hi
          have hiN : (i : Int) < (W : Int) * (H : Int) := by
            have e := hn.out
            have e2 : ((W * H : Nat) : Int) = (W : Int) * H := by push_cast; rfl
            omega
          have HN : Hid ((i : Int) < (W : Int) * (H : Int)) := hiN
          clear hi hiI hiN
          go_upto_region 13 with fail
          rw [HI.out]
          go_wp2_with fail
          refine (near_any w.heap.size W H i (by omega) (by omega) (by omega) (by omega) HN.out _ (by have := hGr.size; omega) k0 k1).mono ?_
          rintro e w5 ⟨gN, rfl, hgN1, hgN2, hgc, hb5⟩
          have hb6 := hb.trans (hb5.mono hb.size)
          have m2 : nbN W H i 2 < n := nbN_lt (by omega) (by omega) (by omega) (by omega) (by rw [hn.out]; push_cast; rfl) i 2
          have m3 : nbN W H i 3 < n := nbN_lt (by omega) (by omega) (by omega) (by omega) (by rw [hn.out]; push_cast; rfl) i 3
          have g2 := hgc.out 2 (by omega)
          have g3 := hgc.out 3 (by omega)
          obtain ⟨i2, j2⟩ : ∃ k, Hid (nbN W H i 2 = k) := ⟨_, rfl⟩
          obtain ⟨i3, j3⟩ : ∃ k, Hid (nbN W H i 3 = k) := ⟨_, rfl⟩
          rw [j2.out] at m2 g2
          rw [j3.out] at m3 g3
          have o5 := ho.below hb6
          have ol5 := ol.below hb6
          obtain ⟨xa, va, ca⟩ := ol5.get pl (k := i) (by omega) hin hin
          obtain ⟨xb, vb, cb⟩ := o5.get pA (k := i2) (by omega) m2 m2
          obtain ⟨xc, vc, cc⟩ := o5.get pA (k := i3) (by omega) m3 m3
          have zl : gl < w5.heap.size := (ol5.lt _ rfl).2
          have zg : g < w5.heap.size := (o5.lt _ rfl).2
          have hxn : x ≤ 16 := by omega
          clear k0 k1
          go_wp2
          refine wp_region_dem1 18 (Below (w5.heap.size) w5) (fun _ _ _ => False) (by kernel_rfl) (by kernel_rfl) rfl rfl (fun _ _ _ h => h) (Below.refl _ _).drew ?_
          simp only [List.take_succ_cons, List.take_zero, List.drop_succ_cons, List.drop_zero]
          repeat (first
            | (refine wpDem_flt rfl rfl rfl rfl rfl (fun _ n h => (below_drewN_iff _ _ _ n).2 h) (fun r hr => ?_); simp only [Act.put, List.setIfInBounds_toArray, List.set_cons_succ, List.set_cons_zero])
            | (refine wpDem_want rfl (fun K hK => ?_); intro w' hw'; obtain ⟨hc', hf'⟩ := bcellB hw'; go_simp; first | (refine hK _ ?_; clear hK K hc' hf' hw' w')))
          refine wpDem_nil ?_
          intro w6 hy6
          rename_i rA hA1
          have hval : Hid (vf .f32 r = rowRAt W H L A y x) := by
            have a1 := hr.out
            rw [hA1.out, va.out, vb.out, vc.out] at a1
            show _ = _
            rw [a1, rowRAt, ← hI.out, j2.out, j3.out]
          clear hr hA1 ca cb cc g2 g3 va vb vc
          have oq2 := (oq.below hb5).below hy6
          have hb7 := hb6.trans (hy6.mono hb6.size)
          go_wp2_with (at_builtin; refine wpList_app1 rfl rfl rfl rfl rfl oq2 pq.len.symm (by have := pq.len; omega) hb7.size (fun p' cap' w7 o7 hg7 hp7 => ?_))
          go_roundw
          case rel => exact ⟨x + 1, _, _, _, by omega, by go_num, rfl, o7, pq.app hval.out, hb7.trans (below_of_gb hg7 (fun a ha => (oq2.lt a ha).1) hb7.size)⟩
          case measure => simp [intOf]; omega
        · obtain rfl : W = x := by omega
          have hgo : g < wr.heap.size := Nat.lt_of_lt_of_le (ho.lt _ rfl).2 hb.size
          have ho := ho.below hb
          have ol := ol.below hb
          go_wp2_with fail
          refine (l03Ring_any q cp qs W (rowR W H L A y) (by omega) (by omega) pq.len (by show _ = _; rw [pq.all]; rfl) _ oq.rd).mono ?_
          rintro e w5 ⟨q5, cap5, rw5, rfl, o5, v5, b5⟩
          have p5 := Pt.of_eq v5 (length_ringF _ _)
          obtain ⟨gr, rfl⟩ : ∃ g, q5 = some ⟨g, 0, none⟩ := by obtain ⟨g, hg, _⟩ := o5.cells (by rw [p5.len]; omega); exact ⟨g, hg⟩
          have hgr : wr.heap.size ≤ gr := (o5.lt _ rfl).1
          have hne : gr ≠ g := by omega
          have ho := ho.below b5
          have ol := ol.below b5
          have hG5 := hGr.step b5
          have pM : Pt n 0 n (mixAt W A y (ringF W (rowR W H L A y)) 0) os := pA.congr (fun j _ _ => (mix_zero _ _ _ _ _).symm)
          have hwb : w.heap.size + 1 ≤ wr.heap.size := hGr.size
          have o5 := o5.mono (base' := w.heap.size + 1) hwb
          have HA : Hid (putRow W A y (ringF W (rowR W H L A y)) = rowsTo W H L X (y + 1)) := by show _ = _; rw [rowsTo, hA.out]
          clear oq pq hb hGr b5 v5 k0 k1
          go_wp2
          go_loopw [75] (fun i wr => ∃ (x : Nat) (os : List Nat), x ≤ W ∧ i = .int .i64 x ∧ Ow wr (w.heap.size + 1) (some ⟨g, 0, none⟩) cap os ∧ Pt n 0 n (mixAt W A y (ringF W (rowR W H L A y)) x) os ∧ Ow wr (w.heap.size + 1) (some ⟨gr, 0, none⟩) cap5 rw5 ∧ Ow wr (w.heap.size + 1) (some ⟨gl, 0, none⟩) cap2 ls ∧ GI w W H wr) (fun i _ => W - (intOf i).toNat)
          case atStart => exact ⟨0, os, Nat.zero_le _, rfl, ho, pM, o5, ol, hG5⟩
          case round =>
            clear ho pM o5 ol hG5
            obtain ⟨x, os, hx, rfl, ho, pM, o5, ol, hG⟩ := hrel
            by_cases hltx : x < W
            · have hin : x + W * y < n := row_lt hn.out hltx hlt
              obtain ⟨i, hi⟩ : ∃ i, i = x + W * y := ⟨_, rfl⟩
              rw [← hi] at hin
              have hI : Hid (i = x + W * y) := hi
              obtain ⟨wy, ey⟩ : ∃ k, k = W * y := ⟨_, rfl⟩
              have hwy : wy ≤ i := by omega
              have e1 : IntKind.i64.wrap ((W : Int) * (y : Int)) = (wy : Int) := by
                rw [show ((W : Int) * (y : Int)) = (wy : Int) by rw [ey]; push_cast; rfl]
                exact IntWalk.i64_in _ (by omega)
              have e2 : IntKind.i64.wrap ((x : Int) + (wy : Int)) = (i : Int) := by
                rw [show ((x : Int) + (wy : Int)) = (i : Int) by omega]
                exact IntWalk.i64_in _ (by omega)
              clear hi ey hwy
              have k0 := hG.c0
              have zw : w.heap.size < wr.heap.size := by have := hG.size; omega
              obtain ⟨xa, va, ca⟩ := o5.get p5 (k := x) (by omega) hltx hltx
              have zr : gr < wr.heap.size := (o5.lt _ rfl).2
              go_wp2
              refine wp_region_dem 11 (Below (wr.heap.size) wr) (fun _ _ _ => False) (by kernel_rfl) (by kernel_rfl) (Below.refl _ _).drew ?_
              simp only [List.take_succ_cons, List.take_zero, List.drop_succ_cons, List.drop_zero]
              repeat (first
                | (refine wpDem_want rfl (fun K hK => ?_); intro w' hw'; obtain ⟨hc', hf'⟩ := bcellB hw'; go_simp; first | (refine hK _ ?_; clear hK K hc' hf' hw' w')))
              refine wpDem_nil ?_
              intro w2 hb2
              clear e1 e2 k0 ca
              have o3 := ho.below hb2
              obtain ⟨⟨y0, s0⟩, z0⟩ := o3.slot (k := i) (by rw [pM.len]; exact hin)
              go_wp2
              go_roundw
              case rel => exact ⟨x + 1, _, by omega, by go_num, o3.set (by rw [pM.len]; exact hin) xa, Pt.put pM hin (by rw [hI.out, mix_at hltx, va.out]) (fun j _ hj => mix_step hltx _ _ (by rw [← hI.out]; exact hj)), (o5.below hb2).set_other (get_ne hne) _, (ol.below hb2).set_other (get_ne hgl) _, (hG.step hb2).set (by omega) _⟩
              case measure => simp [intOf]; omega
            · obtain rfl : W = x := by omega
              go_wp2
              go_roundw
              case rel => exact ⟨y + 1, os, by omega, by go_num, ho, by show _ = _; rw [pM.all, mix_full (by omega) _ _ _ lA.out, HA.out], ol, hG⟩
              case measure => simp [intOf]; omega
    · obtain rfl : y = H := by omega
      go_wp2
      go_ret2
      exact BackT.of (ho.mono (by omega)) hv.out pA.len (by omega) hG.below

/-- The block of a row of the call's own: its numbers, then what is behind them. -/
theorem own_heap2 {w : World} {base g cap : Nat} {rs : List Nat} (h : Ow w base (some ⟨g, 0, none⟩) cap rs) : ∃ tl : List Value, rs.length + tl.length = cap ∧ cap ≤ maxLen ∧ w.heap[g]? = some (.cells (rs.map (Value.float .f32) ++ tl).toArray 38 (0, 0)) := by
  rcases h.block with ⟨h, _⟩ | ⟨g', cur, hp, hb', hlt, hg, hn, hm, hs, ht⟩
  · cases h
  · cases hp
    have e : cur.toList = rs.map (Value.float .f32) ++ cur.toList.drop rs.length := by
      rw [← ht, List.take_append_drop]
    refine ⟨cur.toList.drop rs.length, by simp; omega, hm, ?_⟩
    rw [← e]
    exact hg

/-- copy into the midst of a row of the call's own. -/
theorem wpList_copyG {ops : Array Oper} {Q : Exit → Act → World → Prop} {a : Act} {w : World} {rest : List Oper} {o : Oper} (hgd : o.guard = none) {d s : Operand}
    (ho : o.op = .call { callee := .builtin .copy, args := #[d, s], argTypes := #[24, 24] })
    {g off dLen dCap sLen sCap : Nat} {sp : Option Addr} (hd : a.eval d = .slice (some ⟨g, off, none⟩) dLen dCap) (hs : a.eval s = .slice sp sLen sCap)
    {base cap : Nat} {rs ns : List Nat} (how : Ow w base (some ⟨g, 0, none⟩) cap rs) (hn : ns.length = Nat.min sLen dLen)
    (hsp : ∃ b o, sp = some ⟨b, o, none⟩ ∧ Cells w b o ns) (hfit : off + ns.length ≤ rs.length)
    (h : ∀ w', Ow w' base (some ⟨g, 0, none⟩) cap (rs.take off ++ (ns ++ rs.drop (off + ns.length))) → w.grownBy w' (some g) → wpList Try.prog ops Q rest (a.put o.dst (.int .i64 ns.length)) w') :
    wpList Try.prog ops Q (o :: rest) a w := by
  obtain ⟨b, off2, rfl, hc⟩ := hsp
  have hbl := how.lt _ rfl
  obtain ⟨tl, htl, hmx, hg⟩ := own_heap2 how
  refine wpList_copy_own hgd d s 24 24 ho 38 Try.underlying24 size_f32 g off dLen dCap ⟨b, off2, none⟩ sLen sCap hd hs _ 38 hg (ns.map (Value.float .f32)) (by simpa using hn) ?_ (by simp; omega) (by intro v hv; obtain ⟨x, _, rfl⟩ := List.mem_map.1 hv; rfl) ?_
  · intro j v hj
    rw [List.getElem?_map] at hj
    rcases Nat.lt_or_ge j ns.length with h1 | h1
    · rw [List.getElem?_eq_getElem h1] at hj
      simp only [Option.map_some, Option.some.injEq] at hj
      rw [add_lit, hc j h1, ← hj]
      simp [List.getD, List.getElem?_eq_getElem h1]
    · rw [List.getElem?_eq_none h1] at hj; cases hj
  · have hh := h (w.setRow g (((rs.map (Value.float .f32) ++ tl).toArray.toList.take off) ++ ((ns.map (Value.float .f32)) ++ ((rs.map (Value.float .f32) ++ tl).toArray.toList.drop (off + (ns.map (Value.float .f32)).length)))).toArray) ?_ ?_
    · simpa [goInt] using hh
    · refine Ow.of_block (cap := cap) hbl.1 (setRow_heap w g _ _ 38 _ hg) (by simp; omega) hmx (by simp; omega) ?_
      have e1 : (rs.map (Value.float .f32) ++ tl).toArray.toList.take off = (rs.take off).map (Value.float .f32) := by
        rw [List.take_append_of_le_length (by simp; omega), List.map_take]
      have e2 : (rs.map (Value.float .f32) ++ tl).toArray.toList.drop (off + (ns.map (Value.float .f32)).length) = (rs.drop (off + ns.length)).map (Value.float .f32) ++ tl := by
        rw [List.drop_append_of_le_length (by simp; omega), List.map_drop, List.length_map]
      rw [e1, e2]
      have e3 : (rs.take off).map (Value.float .f32) ++ (ns.map (Value.float .f32) ++ ((rs.drop (off + ns.length)).map (Value.float .f32) ++ tl)) = (rs.take off ++ (ns ++ rs.drop (off + ns.length))).map (Value.float .f32) ++ tl := by simp
      rw [e3]
      exact List.take_left' (by simp)
    · exact ⟨rfl, rfl, rfl, by simp [World.setRow], fun k hk hne => setRow_other w g k _ (fun e => hne (by rw [e]))⟩

theorem put_copy {W H y n : Nat} (hW : 0 < W) (hy : y < H) (hn : n = W * H) {A R : List (Option Nat)} (lA : A.length = n) (lR : R.length = W) :
    A.take (W * y) ++ (R ++ A.drop (W * y + W)) = putRow W A y R := by
  have hle : W * y + W ≤ n := by
    have h1 : W * (y + 1) ≤ W * H := Nat.mul_le_mul_left _ hy
    rw [Nat.mul_succ] at h1
    omega
  apply List.ext_getElem?
  intro k
  unfold putRow
  by_cases hk : k < n
  · rw [List.getElem?_map, List.getElem?_range (by rw [lA]; exact hk), Option.map_some]
    by_cases h1 : k < W * y
    · rw [List.getElem?_append_left (by simp; omega), List.getElem?_take, if_pos h1]
      have : ¬ k / W = y := by
        have := Nat.div_lt_of_lt_mul h1
        omega
      rw [if_neg this, List.getElem?_eq_getElem (by omega), List.getD, List.getElem?_eq_getElem (by omega)]
      rfl
    · rw [List.getElem?_append_right (by simp; omega)]
      have e0 : (A.take (W * y)).length = W * y := by simp; omega
      rw [e0]
      by_cases h2 : k < W * y + W
      · have hx : k - W * y < W := by omega
        have e : k = (k - W * y) + W * y := by omega
        obtain ⟨d1, d2⟩ := divmod2 (y := y) hx
        rw [← e] at d1 d2
        rw [if_pos d2, d1, List.getElem?_append_left (by omega), List.getElem?_eq_getElem (by omega), List.getD, List.getElem?_eq_getElem (by omega)]
        rfl
      · have : ¬ k / W = y := by
          have h3 : y + 1 ≤ k / W := (Nat.le_div_iff_mul_le hW).2 (by rw [Nat.mul_comm, Nat.mul_succ]; omega)
          omega
        rw [if_neg this, List.getElem?_append_right (by omega), List.getElem?_drop, lR, List.getD]
        rw [show W * y + W + (k - W * y - W) = k by omega, List.getElem?_eq_getElem (by omega)]
        rfl
  · rw [List.getElem?_eq_none (by simp; omega), List.getElem?_eq_none (by simp; omega)]
end Go.Proofs.Ytdafcgimkiepnaa.SRows
