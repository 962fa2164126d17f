/-
  A sweep of a colour: contracts of the reference's and of the program's.
  Conditions: none.
-/
import Derived.Test.YtdafcgimkiepnaaTwo
namespace Go.Proofs.Ytdafcgimkiepnaa.Sweep
open Go Go.RowKit Go.Proofs.Ytdafcgimkiepnaa.Fl Go.Proofs.Ytdafcgimkiepnaa.Reg Go.Proofs.Ytdafcgimkiepnaa.Step Go.Proofs.Ytdafcgimkiepnaa.Mem Go.Proofs.Ytdafcgimkiepnaa.Help Go.Proofs.Ytdafcgimkiepnaa.Grid Go.Proofs.Ytdafcgimkiepnaa.Index Go.Proofs.Ytdafcgimkiepnaa.Near Go.Proofs.Ytdafcgimkiepnaa.Mean Go.Proofs.Ytdafcgimkiepnaa.App Go.Proofs.Ytdafcgimkiepnaa.Level Go.Proofs.Ytdafcgimkiepnaa.Lap Go.Proofs.Ytdafcgimkiepnaa.Two

/-- A sweep's turn at corner i. -/
def swpStep (W H : Int) (ls : List (Option Nat)) (col : Int) (xs : List (Option Nat)) (i : Nat) : List (Option Nat) :=
  if ((i : Int) % W + (i : Int) / W) % 2 = col then xs.set i (fop .mul .f32 (some 1048576000) (nearTo .add W H xs i (ls.getD i none) 4)) else xs
/-- The first k turns. -/
def swpTo (W H : Int) (ls : List (Option Nat)) (col : Int) (xs : List (Option Nat)) : Nat → List (Option Nat)
  | 0 => xs
  | k + 1 => swpStep W H ls col (swpTo W H ls col xs k) k
def sweepF (W H : Int) (ls : List (Option Nat)) (col : Int) (xs : List (Option Nat)) : List (Option Nat) := swpTo W H ls col xs xs.length
@[simp] theorem length_swpTo (W H : Int) (ls : List (Option Nat)) (col : Int) (xs : List (Option Nat)) (k : Nat) : (swpTo W H ls col xs k).length = xs.length := by
  induction k with
  | zero => rfl
  | succ k ih => simp only [swpTo, swpStep]; split <;> simp [ih]
@[simp] theorem length_sweepF (W H : Int) (ls : List (Option Nat)) (col : Int) (xs : List (Option Nat)) : (sweepF W H ls col xs).length = xs.length := length_swpTo _ _ _ _ _ _
theorem vf_quarter : vf .f32 1048576000 = some 1048576000 := by decide

set_option maxHeartbeats 1600000 in
theorem l03Sweep_any (b0 : Nat) (W H : Int) (g : Nat) (c : Nat) (rs : List Nat) (q : Option Addr) (d : Nat) (ss : List Nat) (col : Int) (base : Nat) (h1 : 4 ≤ W) (h2 : W ≤ 16) (h3 : 4 ≤ H) (h4 : H ≤ 16) (hf : (rs.length : Int) = W * H) (hl : ss.length = rs.length) (w : World) (hb0 : b0 < w.heap.size) (hne : b0 ≠ g) (hW : w.cell? ⟨b0, 0, none⟩ = some (.int .i64 W)) (hH : w.cell? ⟨b0, 1, none⟩ = some (.int .i64 H)) (how : Ow w base (some ⟨g, 0, none⟩) c rs) (hs : Rd w q ss) (hq : ∀ a, q = some a → a.block ≠ g) :
    Calls Try.prog 66 #[.pointer (some ⟨b0, 0, none⟩), .slice (some ⟨g, 0, none⟩) rs.length c, .slice q ss.length d, .int .i64 col] w fun e w' => e = .returned (.tuple #[]) ∧
      ∃ rs' : List Nat, rs'.length = rs.length ∧ Ow w' base (some ⟨g, 0, none⟩) c rs' ∧ rs'.map (vf .f32) = sweepF W H (ss.map (vf .f32)) col (rs.map (vf .f32)) ∧ w.grownBy w' (some g) := by
  have hm : W * H ≤ 256 := Int.mul_le_mul (c := 16) (d := 16) h2 h4 (by omega) (by omega)
  obtain ⟨n, hL⟩ : ∃ n, n = rs.length := ⟨_, rfl⟩
  have hL1 : Hid (n = rs.length) := hL
  have hL2 : Hid (n = ss.length) := by show n = ss.length; omega
  rw [hl]
  rw [← hL] at hf
  rw [← hL]
  have hF : Hid ((n : Int) = W * H) := hf
  have hnn : n ≤ 256 := by omega
  clear hL hf hm hl
  go_enter Try.func66, Try.ntmps66
  go_wp2
  go_loopw [14] (fun i wr => ∃ (k : Nat) (rs' : List Nat), k ≤ n ∧ i = .int .i64 k ∧ rs'.length = n ∧ Ow wr base (some ⟨g, 0, none⟩) c rs' ∧ Hid (rs'.map (vf .f32) = swpTo W H (ss.map (vf .f32)) col (rs.map (vf .f32)) k) ∧ w.grownBy wr (some g)) (fun i _ => n - (intOf i).toNat)
  case atStart => exact ⟨0, rs, Nat.zero_le _, rfl, hL1.out.symm, how, rfl, gb_refl _ _⟩
  case round =>
    obtain ⟨k, rs', hk, rfl, hln, how, hv, hb⟩ := hrel
    have hln1 : Hid (rs'.length = n) := hln
    clear hln
    by_cases hlt : k < n
    · have hki : (k : Int) < W * H := by rw [← hF.out]; omega
      obtain ⟨s1, s2, s3, s4, s5⟩ := split_ix h1 hki
      have hP : Hid ((k : Int) < W * H) := hki
      have q1 : (k : Int).tmod W = (k : Int) % W := Int.tmod_eq_emod_of_nonneg (by omega)
      have q2 : (k : Int).tdiv W = (k : Int) / W := Int.tdiv_eq_ediv_of_nonneg (by omega)
      have q3 : ¬ W = 0 := by omega
      clear s5 hki
      have hst : Hid (swpTo W H (ss.map (vf .f32)) col (rs.map (vf .f32)) (k + 1) = if ((k : Int) % W + (k : Int) / W) % 2 = col then (rs'.map (vf .f32)).set k (fop .mul .f32 (some 1048576000) (nearTo .add W H (rs'.map (vf .f32)) k ((ss.map (vf .f32)).getD k none) 4)) else rs'.map (vf .f32)) := by
        show _ = _
        rw [hv.out]
        rfl
      obtain ⟨x, hx⟩ : ∃ x, x = (k : Int) % W := ⟨_, rfl⟩
      obtain ⟨y, hy⟩ : ∃ y, y = (k : Int) / W := ⟨_, rfl⟩
      rw [← hx] at s1 s2 q1 hst
      rw [← hy] at s3 s4 q2 hst
      clear hx hy
      have e0 : IntKind.i64.wrap y = y := IntWalk.i64_in _ (by omega)
      have e1 : IntKind.i64.wrap (x + y) = x + y := IntWalk.i64_in _ (by omega)
      have e2 : (x + y).tmod 2 = (x + y) % 2 := Int.tmod_eq_emod_of_nonneg (by omega)
      have hW1 := hb.cell hW (by simpa using hne)
      have hH1 := hb.cell hH (by simpa using hne)
      have hB1 : b0 < wr.heap.size := Nat.lt_of_lt_of_le hb0 hb.size
      by_cases hcol : (x + y) % 2 = col
      · have hsr : Rd wr q ss := hs.gb hb (fun a ha he => hq a ha (by simpa using he))
        go_wp2
        refine wp_region_dem 15 (Below (wr.heap.size) wr) (fun _ _ _ => False) (by kernel_rfl) (by kernel_rfl) (Below.refl _ _).drew ?_
        simp only [List.take_succ_cons, List.take_zero, List.drop_succ_cons, List.drop_zero]
        repeat (first
          | (refine wpDem_want rfl (fun K hK => ?_); intro w' hw'; obtain ⟨hc', hf'⟩ := bcellB hw'; go_simp; first | (refine hK _ ?_; clear hK K hc' hf' hw' w')))
        refine wpDem_nil ?_
        intro w2 hb2
        clear q1 q2 q3 e0 e1 e2
        have hlss : k < ss.length := by rw [← hL2.out]; exact hlt
        have hlrs : k < rs'.length := by rw [hln1.out]; exact hlt
        obtain ⟨b, off, rfl, hbw, hc⟩ := (hsr.below hb2).at hlss
        have hck := hc k hlss
        clear hc
        have hW2 := (hb2.cell (p := ⟨b0, 0, none⟩) hB1).trans hW1
        have hH2 := (hb2.cell (p := ⟨b0, 1, none⟩) hB1).trans hH1
        have hB2 : b0 < w2.heap.size := Nat.lt_of_lt_of_le hB1 hb2.size
        go_wp2_with (go_at_call 76; refine (near_any b0 W H k h1 h2 h3 h4 hP.out _ hB2 hW2 hH2).mono ?_; rintro e w1 ⟨g1, rfl, hg1, hg2, hgc, hb3⟩)
        have how1 := (how.below hb2).below hb3
        have hb4 := hb2.trans (hb3.mono hb2.size)
        obtain ⟨g', hg', _, hgl, hcs, hfz⟩ := how1.cells (by rw [hln1.out]; omega)
        cases hg'
        clear hW2 hH2 hB2 hck hb2 hb3 hW1 hH1
        go_loopw [9, 42] (fun s i wr2 => ∃ (j r : Nat), j ≤ 4 ∧ i = .int .i64 j ∧ s = .float .f32 r ∧ Hid (vf .f32 r = nearTo .add W H (rs'.map (vf .f32)) k (vf .f32 ss[k]) j) ∧ Below w1.heap.size w1 wr2) (fun _ i _ => 4 - (intOf i).toNat)
        case atStart => exact ⟨0, ss[k], by omega, rfl, rfl, rfl, Below.refl _ _⟩
        case round =>
          obtain ⟨j, r, hj, rfl, rfl, hs, hb2⟩ := hrel
          by_cases hj4 : j < 4
          · have hgj := (hb2.cell (p := ⟨g1, j, none⟩) hg2).trans (hgc.out j hj4)
            have hnl := nbN_lt h1 h2 h3 h4 hF.out k j
            have hnr : nbN W H k j < rs'.length := by rw [hln1.out]; exact hnl
            generalize hm : nbN W H k j = m at hgj hnl hnr
            have hcm := (hb2.cell (p := ⟨g, m, none⟩) hgl).trans (hcs m hnr)
            go_wp2_with (refine wpList_flt rfl rfl rfl rfl rfl (fun r2 n2 hr2 => ?_))
            go_roundw
            case rel =>
              refine ⟨j + 1, _, by omega, by go_num, rfl, ?_, by simpa using hb2⟩
              have e1 := hr2.out
              rw [hs.out, getD_vf hnr, ← hm] at e1
              exact e1
            case measure => simp [intOf]; omega
          · obtain rfl : j = 4 := by omega
            have how2 := how1.below hb2
            have hb5 := hb4.trans (hb2.mono hb4.size)
            have hck := (hb2.cell (p := ⟨g, k, none⟩) hgl).trans (hcs k hlrs)
            have hfk : wr.frozen? ⟨g, k, none⟩ = false := (hb2.frozen (p := ⟨g, k, none⟩) hgl).trans (hfz k)
            clear hcs hfz
            go_wp2_with (refine wpList_flt rfl rfl rfl rfl rfl (fun r2 n2 hr2 => ?_))
            go_roundw
            case rel =>
              refine ⟨k + 1, rs'.set k r2, by omega, by go_num, by simpa using hln1.out, (how2.drewN n2).set hlrs r2, ?_, ?_⟩
              · have e1 := hr2.out
                have e2 := hs.out
                rw [getD_vf hlss] at e2
                rw [vf_quarter, e2] at e1
                rw [Hid, hst.out, if_pos hcol, List.map_set, e1]
              · exact gb_set (gb_trans hb (gb_below (by simpa using hb5) _)) _
            case measure => simp [intOf]; omega
      · have hcol' : ¬ (x + y) % 2 = col := hcol
        go_wp2
        refine wp_region_dem 15 (Below (wr.heap.size) wr) (fun _ _ _ => False) (by kernel_rfl) (by kernel_rfl) (Below.refl _ _).drew ?_
        simp only [List.take_succ_cons, List.take_zero, List.drop_succ_cons, List.drop_zero]
        repeat (first
          | (refine wpDem_want rfl (fun K hK => ?_); intro w' hw'; obtain ⟨hc', hf'⟩ := bcellB hw'; go_simp; first | (refine hK _ ?_; clear hK K hc' hf' hw' w')))
        refine wpDem_nil ?_
        intro w2 hb2
        go_wp2
        go_roundw
        case rel => exact ⟨k + 1, rs', by omega, by go_num, hln1.out, how.below hb2, by show _ = _; rw [hst.out, if_neg hcol], gb_trans hb (gb_below hb2 _)⟩
        case measure => simp [intOf]; omega
    · go_wp2
      obtain rfl : k = n := by omega
      refine bodyPost_end (results_none rfl _ _ _) rfl ⟨rfl, rs', hln1.out, how, ?_, hb⟩
      rw [hv.out, sweepF, List.length_map, ← hL1.out]

theorem row_ix {W : Nat} {i x y : Nat} (hx : x < W) (hi : i = x + W * y) : (i : Int) % W = x ∧ (i : Int) / W = y := by
  have e : (i : Int) = x + W * y := by rw [hi]; simp
  constructor
  · rw [e, Int.add_mul_emod_self_left]; exact Int.emod_eq_of_lt (by omega) (by omega)
  · rw [e, Int.add_mul_ediv_left _ _ (by omega), Int.ediv_eq_zero_of_lt (by omega) (by omega)]; omega

set_option maxHeartbeats 1600000 in
theorem sweep_any (W H : Nat) (g : Nat) (c : Nat) (rs : List Nat) (q : Option Addr) (d : Nat) (ss : List Nat) (col : Int) (base : Nat) (h1 : 4 ≤ W) (h2 : W ≤ 16) (h3 : 4 ≤ H) (h4 : H ≤ 16) (hf : rs.length = W * H) (hl : ss.length = rs.length) (w : World) (how : Ow w base (some ⟨g, 0, none⟩) c rs) (hs : Rd w q ss) (hq : ∀ a, q = some a → a.block ≠ g) :
    Calls Try.prog 69 #[.agg #[.int .i64 (W : Nat), .int .i64 (H : Nat)], .slice (some ⟨g, 0, none⟩) rs.length c, .slice q ss.length d, .int .i64 col] w fun e w' => e = .returned (.tuple #[]) ∧
      ∃ rs' : List Nat, rs'.length = rs.length ∧ Ow w' base (some ⟨g, 0, none⟩) c rs' ∧ rs'.map (vf .f32) = sweepF W H (ss.map (vf .f32)) col (rs.map (vf .f32)) ∧ w.grownBy w' (some g) := by
  have hm : W * H ≤ 256 := Nat.mul_le_mul h2 h4
  obtain ⟨n, hL⟩ : ∃ n, n = rs.length := ⟨_, rfl⟩
  have hL1 : Hid (n = rs.length) := hL
  have hL2 : Hid (n = ss.length) := by show n = ss.length; omega
  rw [hl]
  rw [← hL] at hf
  rw [← hL]
  have hF : Hid (n = W * H) := hf
  have hFi : Hid ((n : Int) = W * H) := by show (n : Int) = W * H; rw [hf]; simp
  have hnn : n ≤ 256 := by omega
  have hgw : g < w.heap.size := (how.lt _ rfl).2
  clear hL hf hm hl
  have how0 : Ow (w.alloc (.cells #[.int .i64 (W : Nat), .int .i64 (H : Nat)] 27)) base (some ⟨g, 0, none⟩) c rs := how.below ((Below.refl _ _).alloc (Nat.le_refl _) _)
  have hs0 : Rd (w.alloc (.cells #[.int .i64 (W : Nat), .int .i64 (H : Nat)] 27)) q ss := hs.below ((Below.refl _ _).alloc (Nat.le_refl _) _)
  have hcw0 : (w.alloc (.cells #[.int .i64 (W : Nat), .int .i64 (H : Nat)] 27)).cell? ⟨w.heap.size, 0, none⟩ = some (.int .i64 (W : Nat)) := by simp
  have hcw1 : (w.alloc (.cells #[.int .i64 (W : Nat), .int .i64 (H : Nat)] 27)).cell? ⟨w.heap.size, 1, none⟩ = some (.int .i64 (H : Nat)) := by simp
  have hgb0 : w.grownBy (w.alloc (.cells #[.int .i64 (W : Nat), .int .i64 (H : Nat)] 27)) (some g) := gb_below ((Below.refl _ _).alloc (Nat.le_refl _) _) _
  have hne : w.heap.size ≠ g := by omega
  have hz : w.heap.size < (w.alloc (.cells #[.int .i64 (W : Nat), .int .i64 (H : Nat)] 27)).heap.size := by simp
  go_enter Try.func69, Try.ntmps69
  go_wp2
  generalize hw1 : w.alloc (.cells #[.int .i64 (W : Nat), .int .i64 (H : Nat)] 27) = w1 at *
  clear hw1 how hs
  go_loopw [16] (fun i wr => ∃ (y : Nat) (rs' : List Nat), y ≤ H ∧ i = .int .i64 y ∧ rs'.length = n ∧ Ow wr base (some ⟨g, 0, none⟩) c rs' ∧ Hid (rs'.map (vf .f32) = swpTo W H (ss.map (vf .f32)) col (rs.map (vf .f32)) (W * y)) ∧ w1.grownBy wr (some g)) (fun i _ => H - (intOf i).toNat)
  case atStart => exact ⟨0, rs, Nat.zero_le _, rfl, hL1.out.symm, how0, rfl, gb_refl _ _⟩
  case round =>
    obtain ⟨y, rs', hy, rfl, hln, how, hv, hb⟩ := hrel
    have hc0 := hb.cell hcw0 (by simpa using hne)
    have hc1 := hb.cell hcw1 (by simpa using hne)
    by_cases hlt : y < H
    · go_wp2
      clear hc0 hc1
      go_loopw [21] (fun i wr2 => ∃ (x : Nat) (rs' : List Nat), x ≤ W ∧ i = .int .i64 x ∧ rs'.length = n ∧ Ow wr2 base (some ⟨g, 0, none⟩) c rs' ∧ Hid (rs'.map (vf .f32) = swpTo W H (ss.map (vf .f32)) col (rs.map (vf .f32)) (x + W * y)) ∧ w1.grownBy wr2 (some g)) (fun i _ => W - (intOf i).toNat)
      case atStart => exact ⟨0, rs', Nat.zero_le _, rfl, hln, how, by simpa using hv, hb⟩
      case round =>
        clear how hv hb hln rs'
        obtain ⟨x, rs', hx, rfl, hln, how, hv, hb⟩ := hrel
        have hln1 : Hid (rs'.length = n) := hln
        clear hln
        by_cases hltx : x < W
        · have hc0 := hb.cell hcw0 (by simpa using hne)
          have hc1 := hb.cell hcw1 (by simpa using hne)
          have hz1 : w.heap.size < wr.heap.size := Nat.lt_of_lt_of_le hz hb.size
          obtain ⟨i, hi⟩ : ∃ i, i = x + W * y := ⟨_, rfl⟩
          have hii : Hid ((i : Int) = x + W * y) := by show (i : Int) = _; rw [hi]; simp
          have hin : i < n := by rw [hi]; exact row_lt hF.out hltx hlt
          have hrow := row_ix hltx hi
          have hst : Hid (swpTo W H (ss.map (vf .f32)) col (rs.map (vf .f32)) (i + 1) = if ((x : Int) + y) % 2 = col then (rs'.map (vf .f32)).set i (fop .mul .f32 (some 1048576000) (nearTo .add W H (rs'.map (vf .f32)) i ((ss.map (vf .f32)).getD i none) 4)) else rs'.map (vf .f32)) := by
            show _ = _
            rw [hv.out, ← hi, ← hrow.1, ← hrow.2]
            rfl
          rw [← hi] at hv
          have hI : Hid (i = x + W * y) := hi
          clear hi hrow
          have e2 : ((x : Int) + y).tmod 2 = ((x : Int) + y) % 2 := Int.tmod_eq_emod_of_nonneg (by omega)
          by_cases hcol : ((x : Int) + y) % 2 = col
          · have hsr : Rd wr q ss := hs0.gb hb (fun a ha he => hq a ha (by simpa using he))
            have hlss : i < ss.length := by rw [← hL2.out]; exact hin
            have hlrs : i < rs'.length := by rw [hln1.out]; exact hin
            obtain ⟨b, off, rfl, hbw, hc⟩ := hsr.at hlss
            have hci := hc i hlss
            clear hc
            go_wp2_with (first
              | (go_at_call 50; refine (index_at W H i x y (by omega) (by omega) (by omega) (by omega) (by omega) (by omega) hii.out _).mono ?_; rintro e w2 ⟨rfl, hb1⟩; have hci1 := (hb1.cell (p := ⟨b, off + i, none⟩) hbw).trans hci; have hd0 := (hb1.cell (p := ⟨w.heap.size, 0, none⟩) hz1).trans hc0; have hd1 := (hb1.cell (p := ⟨w.heap.size, 1, none⟩) hz1).trans hc1)
              | (go_at_call 49; refine (neighbours_at W H i x y (by omega) (by omega) (by omega) (by omega) (by omega) (by omega) hii.out _).mono ?_; rintro e w3 ⟨rfl, hb2⟩))
            have hb4 : Below wr.heap.size wr w3 := hb1.trans (hb2.mono hb1.size)
            have how1 := how.below hb4
            obtain ⟨g', hg', _, hgl, hcs, hfz⟩ := how1.cells (by rw [hln1.out]; omega)
            cases hg'
            clear hc0 hc1 hd0 hd1 hci hci1 hb1 hb2 e2
            go_loopw [11, 42] (fun s q wr2 => ∃ (j r : Nat), j ≤ 4 ∧ q = .int .i64 j ∧ s = .float .f32 r ∧ Hid (vf .f32 r = nearTo .add W H (rs'.map (vf .f32)) i (vf .f32 ss[i]) j) ∧ Below w3.heap.size w3 wr2) (fun _ q _ => 4 - (intOf q).toNat)
            case atStart => exact ⟨0, ss[i], by omega, rfl, rfl, rfl, Below.refl _ _⟩
            case round =>
              obtain ⟨j, r, hj, rfl, rfl, hs, hb2⟩ := hrel
              by_cases hj4 : j < 4
              · have hnl : nbN W H i j < n := nbN_lt (by omega) (by omega) (by omega) (by omega) hFi.out i j
                have hnr : nbN W H i j < rs'.length := by rw [hln1.out]; exact hnl
                generalize hm : nbN W H i j = m at hnl hnr
                have hcm := (hb2.cell (p := ⟨g, m, none⟩) hgl).trans (hcs m hnr)
                go_wp2_with (refine wpList_flt rfl rfl rfl rfl rfl (fun r2 n2 hr2 => ?_))
                go_roundw
                case rel =>
                  refine ⟨j + 1, _, by omega, by go_num, rfl, ?_, by simpa using hb2⟩
                  have e1 := hr2.out
                  rw [hs.out, getD_vf hnr, ← hm] at e1
                  exact e1
                case measure => simp [intOf]; omega
              · obtain rfl : j = 4 := by omega
                have how2 := how1.below hb2
                have hb5 := hb4.trans (hb2.mono hb4.size)
                have hck := (hb2.cell (p := ⟨g, i, none⟩) hgl).trans (hcs i hlrs)
                have hfk : wr.frozen? ⟨g, i, none⟩ = false := (hb2.frozen (p := ⟨g, i, none⟩) hgl).trans (hfz i)
                clear hcs hfz
                go_wp2_with (refine wpList_flt rfl rfl rfl rfl rfl (fun r2 n2 hr2 => ?_))
                go_roundw
                case rel =>
                  refine ⟨x + 1, rs'.set i r2, by omega, by go_num, by simpa using hln1.out, (how2.drewN n2).set hlrs r2, ?_, ?_⟩
                  · have e1 := hr2.out
                    have e2 := hs.out
                    rw [getD_vf hlss] at e2
                    rw [vf_quarter, e2] at e1
                    rw [show x + 1 + W * y = i + 1 by have := hI.out; omega, Hid, hst.out, if_pos hcol, List.map_set, e1]
                  · exact gb_set (gb_trans hb (gb_below (by simpa using hb5) _)) _
                case measure => simp [intOf]; omega
          · go_wp2
            go_roundw
            case rel => exact ⟨x + 1, rs', by omega, by go_num, hln1.out, how, by show _ = _; rw [show x + 1 + W * y = i + 1 by have := hI.out; omega, hst.out, if_neg hcol], hb⟩
            case measure => simp [intOf]; omega
        · go_wp2
          obtain rfl : x = W := by omega
          go_roundw
          case rel => exact ⟨y + 1, rs', by omega, by go_num, hln1.out, how, by simpa [Nat.mul_succ, Nat.add_comm] using hv, hb⟩
          case measure => simp [intOf]; omega
    · go_wp2
      obtain rfl : y = H := by omega
      refine bodyPost_end (results_none rfl _ _ _) rfl ⟨rfl, rs', hln, how, ?_, gb_trans hgb0 hb⟩
      rw [hv.out, sweepF, List.length_map, ← hL1.out, ← hF.out]
end Go.Proofs.Ytdafcgimkiepnaa.Sweep
