/-
  The Laplace field: contracts of the reference's and of the program's.
  Conditions: none.
-/
import Derived.Test.YtdafcgimkiepnaaNear
import Derived.Test.YtdafcgimkiepnaaLevel
namespace Go.Proofs.Ytdafcgimkiepnaa.Lap
open Go Go.RowKit Go.Proofs.Ytdafcgimkiepnaa.Fl Go.Proofs.Ytdafcgimkiepnaa.Reg Go.Proofs.Ytdafcgimkiepnaa.Step Go.Proofs.Ytdafcgimkiepnaa.Mem Go.Proofs.Ytdafcgimkiepnaa.Help Go.Proofs.Ytdafcgimkiepnaa.Grid Go.Proofs.Ytdafcgimkiepnaa.Index Go.Proofs.Ytdafcgimkiepnaa.Near Go.Proofs.Ytdafcgimkiepnaa.Mean Go.Proofs.Ytdafcgimkiepnaa.App Go.Proofs.Ytdafcgimkiepnaa.Level

def lapAt (W H : Int) (xs : List (Option Nat)) (i : Nat) : Option Nat := nearTo .sub W H xs i (fop .mul .f32 (some 1082130432) (xs.getD i none)) 4
/-- The Laplace field. -/
def lapF (W H : Int) (xs : List (Option Nat)) : List (Option Nat) := (List.range xs.length).map (lapAt W H xs)
theorem vf_four : vf .f32 1082130432 = some 1082130432 := by decide

theorem getD_vf {rs : List Nat} {k : Nat} (hk : k < rs.length) : vf .f32 rs[k] = (rs.map (vf .f32)).getD k none := by
  simp [List.getD, hk]

theorem range_succ_map {α : Type} (f : Nat → α) (n k : Nat) (hk : k < n) : ((List.range n).map f).take (k + 1) = ((List.range n).map f).take k ++ [f k] := by
  rw [List.take_succ_eq_append_getElem (by simpa using hk)]
  simp

set_option maxHeartbeats 800000 in
theorem l03Laplace_any (b0 : Nat) (W H : Int) (p : Option Addr) (c : Nat) (rs : List Nat) (h1 : 4 ≤ W) (h2 : W ≤ 16) (h3 : 4 ≤ H) (h4 : H ≤ 16) (hf : (rs.length : Int) = W * H) (w : World) (hb0 : b0 < w.heap.size) (hW : w.cell? ⟨b0, 0, none⟩ = some (.int .i64 W)) (hH : w.cell? ⟨b0, 1, none⟩ = some (.int .i64 H)) (hr : Rd w p rs) :
    Calls Try.prog 55 #[.pointer (some ⟨b0, 0, none⟩), .slice p rs.length c] w fun e w' => Back w w' e rs.length (lapF W H (rs.map (vf .f32))) := by
  have hm : W * H ≤ 256 := Int.mul_le_mul (c := 16) (d := 16) h2 h4 (by omega) (by omega)
  obtain ⟨n, hL⟩ : ∃ n, n = rs.length := ⟨_, rfl⟩
  have hL1 : Hid (n = rs.length) := hL
  rw [← hL] at hf
  rw [← hL]
  have hF : Hid ((n : Int) = W * H) := hf
  have hnn : n ≤ 256 := by omega
  clear hL hf hm
  go_enter Try.func55, Try.ntmps55
  go_wp2
  go_loopw [5, 13] (fun out i wr => ∃ (k : Nat) (q : Option Addr) (cap : Nat) (rs' : List Nat), k ≤ n ∧ i = .int .i64 k ∧ out = .slice q k cap ∧ Ow wr w.heap.size q cap rs' ∧ Hid (rs'.map (vf .f32) = (lapF W H (rs.map (vf .f32))).take k) ∧ Below w.heap.size w wr) (fun _ i _ => n - (intOf i).toNat)
  case atStart => exact ⟨0, _, 0, [], Nat.zero_le _, rfl, rfl, Ow.empty w #[] rfl, rfl, (Below.refl _ _).alloc (Nat.le_refl _) _⟩
  case round =>
    obtain ⟨k, q, cap, rs', hk, rfl, rfl, how, hv, hb⟩ := hrel
    have hlk : Hid (k = rs'.length) := by
      have e1 := congrArg List.length hv.out
      have e2 := hL1.out
      simp [lapF] at e1
      show k = rs'.length
      omega
    by_cases hlt : k < n
    · have hlr : k < rs.length := by rw [← hL1.out]; exact hlt
      obtain ⟨b, off, rfl, hbw, hc⟩ := (hr.below hb).at hlr
      have hck := hc k hlr
      have hki : (k : Int) < W * H := by rw [← hF.out]; omega
      have hW1 := (hb.cell (p := ⟨b0, 0, none⟩) hb0).trans hW
      have hH1 := (hb.cell (p := ⟨b0, 1, none⟩) hb0).trans hH
      have hB1 : b0 < wr.heap.size := Nat.lt_of_lt_of_le hb0 hb.size
      go_wp2_with (first
        | (refine wpList_flt rfl rfl rfl rfl rfl (fun r1 n1 hr1 => ?_))
        | (go_at_call 76; refine (near_any b0 W H k h1 h2 h3 h4 hki _ (by simpa using hB1) (by simpa using hW1) (by simpa using hH1)).mono ?_; rintro e w1 ⟨g, rfl, hg1, hg2, hgc, hb1⟩))
      have hg1' : wr.heap.size ≤ g := hg1
      have hb1' : Below wr.heap.size wr w1 := by simpa using hb1
      have hr1' := (hr.below hb).below hb1'
      clear hg1 hb1
      go_loopw [7, 26] (fun s i wr2 => ∃ (j r : Nat), j ≤ 4 ∧ i = .int .i64 j ∧ s = .float .f32 r ∧ Hid (vf .f32 r = nearTo .sub W H (rs.map (vf .f32)) k (vf .f32 r1) j) ∧ Below w1.heap.size w1 wr2) (fun _ i _ => 4 - (intOf i).toNat)
      case atStart => exact ⟨0, r1, by omega, rfl, rfl, rfl, Below.refl _ _⟩
      case round =>
        obtain ⟨j, r, hj, rfl, rfl, hs, hb2⟩ := hrel
        by_cases hj4 : j < 4
        · have hgj := (hb2.cell (p := ⟨g, j, none⟩) hg2).trans (hgc.out j hj4)
          have hnl := nbN_lt h1 h2 h3 h4 hF.out k j
          have hnr : nbN W H k j < rs.length := by rw [← hL1.out]; exact hnl
          generalize hm : nbN W H k j = m at hgj hnl hnr
          have hcm := (hb2.cell (p := ⟨b, off + m, none⟩) (Nat.lt_of_lt_of_le hbw hb1'.size)).trans ((hb1'.cell (p := ⟨b, off + m, none⟩) hbw).trans (hc m hnr))
          go_wp2_with (refine wpList_flt rfl rfl rfl rfl rfl (fun r2 n2 hr2 => ?_))
          go_roundw
          case rel =>
            refine ⟨j + 1, _, by omega, by go_num, rfl, ?_, by simpa using hb2⟩
            have e1 := hr2.out
            rw [hs.out, getD_vf hnr, ← hm] at e1
            exact e1
          case measure => simp [intOf]; omega
        · obtain rfl : j = 4 := by omega
          have how2 := (how.below hb1').below hb2
          have hb3 := hb.trans ((hb1'.trans (hb2.mono hb1'.size)).mono hb.size)
          go_wp2_with (at_builtin; refine wpList_app1 rfl rfl rfl rfl rfl how2 hlk.out (by have := hlk.out; omega) hb3.size (fun p' cap' w' ho' hg' hp' => ?_))
          go_roundw
          case rel =>
            refine ⟨k + 1, _, _, _, by omega, by go_num, rfl, ho', ?_, hb3.trans (below_of_gb hg' (fun a ha => (how2.lt a ha).1) hb3.size)⟩
            have e1 := hs.out
            have e2 := hr1.out
            rw [vf_four, getD_vf hlr] at e2
            rw [e2] at e1
            rw [Hid, List.map_append, hv.out, lapF, range_succ_map _ _ _ (by simpa using hlr)]
            simp only [List.map_cons, List.map_nil, e1, lapAt]
          case measure => simp [intOf]; omega
    · go_wp2
      go_ret
      obtain rfl : k = n := by omega
      refine ⟨_, _, _, rfl, how, ?_, hb⟩
      have h1 := hv.out
      have h2 := hL1.out
      rw [h1, List.take_of_length_le (by simp [lapF, h2])]

/-- What was there, and the box of the grid, are as they were. -/
def GI (w : World) (W H : Int) (wi : World) : Prop := Below (w.heap.size + 1) (w.alloc (.cells #[.int .i64 W, .int .i64 H] 27)) wi
theorem GI.start (w : World) (W H : Int) : GI w W H (w.alloc (.cells #[.int .i64 W, .int .i64 H] 27)) := Below.refl _ _
theorem GI.size {w wi : World} {W H : Int} (h : GI w W H wi) : w.heap.size + 1 ≤ wi.heap.size := by
  have := Below.size h
  simpa using this
theorem GI.step {w wi wj : World} {W H : Int} (h : GI w W H wi) (hb : Below wi.heap.size wi wj) : GI w W H wj := Below.trans h (hb.mono h.size)
theorem GI.below {w wi : World} {W H : Int} (h : GI w W H wi) : Below w.heap.size w wi := ((Below.refl _ _).alloc (Nat.le_refl _) _).trans (Below.mono h (by omega))
theorem GI.c0 {w wi : World} {W H : Int} (h : GI w W H wi) : wi.cell? ⟨w.heap.size, 0, none⟩ = some (.int .i64 W) := by
  have := Below.cell h (p := ⟨w.heap.size, 0, none⟩) (by simp)
  rw [this]; simp
theorem GI.c1 {w wi : World} {W H : Int} (h : GI w W H wi) : wi.cell? ⟨w.heap.size, 1, none⟩ = some (.int .i64 H) := by
  have := Below.cell h (p := ⟨w.heap.size, 1, none⟩) (by simp)
  rw [this]; simp
theorem GI.set {w wi : World} {W H : Int} (h : GI w W H wi) {g i : Nat} (hg : w.heap.size + 1 ≤ g) (u : Value) : GI w W H (wi.setCell ⟨g, i, none⟩ u) := Below.setCell h hg u

/-- The first m numbers are done. -/
def Done (n m : Nat) (rs' : List Nat) (ys : List (Option Nat)) : Prop := rs'.length = n ∧ (rs'.map (vf .f32)).take m = ys.take m
theorem Done.step {n m r : Nat} {rs' : List Nat} {ys : List (Option Nat)} (h : Done n m rs' ys) (hm : m < n) (hy : m < ys.length) (hr : vf .f32 r = ys[m]) : Done n (m + 1) (rs'.set m r) ys := by
  refine ⟨by simpa using h.1, ?_⟩
  have hl : m < rs'.length := by rw [h.1]; exact hm
  rw [List.map_set, List.take_succ_eq_append_getElem hy, List.take_succ_eq_append_getElem (by simpa using hl), List.getElem_set_self, List.take_set_of_le (Nat.le_refl _), h.2, hr]
theorem Done.all {n : Nat} {rs' : List Nat} {ys : List (Option Nat)} (h : Done n n rs' ys) (hy : ys.length = n) : rs'.map (vf .f32) = ys := by
  have := h.2
  rwa [List.take_of_length_le (by simp [h.1]), List.take_of_length_le (by omega)] at this

theorem row_lt {W H n x y : Nat} (hn : n = W * H) (hx : x < W) (hy : y < H) : x + W * y < n := by
  have h1 : W * (y + 1) ≤ W * H := Nat.mul_le_mul_left _ hy
  rw [Nat.mul_succ] at h1
  omega

set_option maxHeartbeats 800000 in
theorem laplace_any (W H : Nat) (p : Option Addr) (c : Nat) (rs : List Nat) (h1 : 4 ≤ W) (h2 : W ≤ 16) (h3 : 4 ≤ H) (h4 : H ≤ 16) (hf : rs.length = W * H) (w : World) (hr : Rd w p rs) :
    Calls Try.prog 56 #[.agg #[.int .i64 (W : Nat), .int .i64 (H : Nat)], .slice p rs.length c] w fun e w' => Back w w' e rs.length (lapF W H (rs.map (vf .f32))) := by
  have hm : W * H ≤ 256 := Nat.mul_le_mul h2 h4
  obtain ⟨n, hL⟩ : ∃ n, n = rs.length := ⟨_, rfl⟩
  have hL1 : Hid (n = rs.length) := hL
  rw [← hL] at hf
  rw [← hL]
  have hF : Hid (n = W * H) := hf
  have hFi : Hid ((n : Int) = W * H) := by show (n : Int) = W * H; rw [hf]; simp
  have hnn : n ≤ 256 := by omega
  clear hL hf hm
  have hmk := fun w => make_f32 w n (by omega)
  go_enter Try.func56, Try.ntmps56
  go_wp2
  clear hmk
  go_loopw [17] (fun i wr => ∃ (y : Nat) (rs' : List Nat), y ≤ H ∧ i = .int .i64 y ∧ Ow wr (w.heap.size + 1) (some ⟨w.heap.size + 1, 0, none⟩) n rs' ∧ Hid (Done n (W * y) rs' (lapF W H (rs.map (vf .f32)))) ∧ GI w W H wr) (fun i _ => H - (intOf i).toNat)
  case atStart => exact ⟨0, List.replicate n 0, Nat.zero_le _, rfl, by simpa using Ow.made (w.alloc (.cells #[.int .i64 (W : Nat), .int .i64 (H : Nat)] 27)) n (by unfold maxLen; omega), ⟨by simp, by simp⟩, Below.alloc (GI.start w W H) (by simp) _⟩
  case round =>
    obtain ⟨y, rs', hy, rfl, how, hv, hb⟩ := hrel
    have hc0 := hb.c0
    have hc1 := hb.c1
    by_cases hlt : y < H
    · go_wp2
      clear hc0 hc1
      go_loopw [22] (fun i wr2 => ∃ (x : Nat) (rs' : List Nat), x ≤ W ∧ i = .int .i64 x ∧ Ow wr2 (w.heap.size + 1) (some ⟨w.heap.size + 1, 0, none⟩) n rs' ∧ Hid (Done n (x + W * y) rs' (lapF W H (rs.map (vf .f32)))) ∧ GI w W H wr2) (fun i _ => W - (intOf i).toNat)
      case atStart => exact ⟨0, rs', Nat.zero_le _, rfl, how, by simpa using hv, hb⟩
      case round =>
        clear how hv hb
        obtain ⟨x, rs', hx, rfl, how, hv, hb⟩ := hrel
        by_cases hltx : x < W
        · have hc0 := hb.c0
          have hc1 := hb.c1
          obtain ⟨i, hi⟩ : ∃ i, i = x + W * y := ⟨_, rfl⟩
          have hii : Hid ((i : Int) = x + W * y) := by show (i : Int) = _; rw [hi]; simp
          have hin : i < n := by rw [hi]; exact row_lt hF.out hltx hlt
          have hlr : i < rs.length := by rw [← hL1.out]; exact hin
          obtain ⟨b, off, rfl, hbw, hc⟩ := (hr.below hb.below).at hlr
          have hci := hc i hlr
          rw [← hi] at hv
          have hI : Hid (i = x + W * y) := hi
          clear hi
          go_wp2_with (first
            | (refine wpList_flt rfl rfl rfl rfl rfl (fun r1 n1 hr1 => ?_))
            | (go_at_call 50; refine (index_at W H i x y (by omega) (by omega) (by omega) (by omega) (by omega) (by omega) hii.out _).mono ?_; rintro e w1 ⟨rfl, hb1⟩; have hci1 := (hb1.cell (p := ⟨b, off + i, none⟩) hbw).trans hci; have hd0 := (hb.step hb1).c0; have hd1 := (hb.step hb1).c1)
            | (go_at_call 49; refine (neighbours_at W H i x y (by omega) (by omega) (by omega) (by omega) (by omega) (by omega) hii.out _).mono ?_; rintro e w2 ⟨rfl, hb2⟩))
          clear hc0 hc1 hd0 hd1 hci hci1
          have hb3 : Below wr.heap.size wr w2 := hb1.trans ((by simpa using hb2 : Below w1.heap.size w1 w2).mono hb1.size)
          clear hb1 hb2
          go_loopw [9, 38] (fun s q wr2 => ∃ (j r : Nat), j ≤ 4 ∧ q = .int .i64 j ∧ s = .float .f32 r ∧ Hid (vf .f32 r = nearTo .sub W H (rs.map (vf .f32)) i (vf .f32 r1) j) ∧ Below wr.heap.size wr wr2) (fun _ q _ => 4 - (intOf q).toNat)
          case atStart => exact ⟨0, r1, by omega, rfl, rfl, rfl, hb3⟩
          case round =>
            clear hb3
            obtain ⟨j, r, hj, rfl, rfl, hs, hb4⟩ := hrel
            by_cases hj4 : j < 4
            · have hnl : nbN W H i j < n := nbN_lt (by omega) (by omega) (by omega) (by omega) hFi.out i j
              have hnr : nbN W H i j < rs.length := by rw [← hL1.out]; exact hnl
              generalize hm : nbN W H i j = m at hnl hnr
              have hcm := (hb4.cell (p := ⟨b, off + m, none⟩) hbw).trans (hc m hnr)
              go_wp2_with (refine wpList_flt rfl rfl rfl rfl rfl (fun r2 n2 hr2 => ?_))
              go_roundw
              case rel =>
                refine ⟨j + 1, _, by omega, by go_num, rfl, ?_, by simpa using hb4⟩
                have e1 := hr2.out
                rw [hs.out, getD_vf hnr, ← hm] at e1
                exact e1
              case measure => simp [intOf]; omega
            · obtain rfl : j = 4 := by omega
              obtain ⟨g, hg, _, hgl, hcs, hfz⟩ := (how.below hb4).cells (by rw [hv.out.1]; omega)
              cases hg
              have hcg := hcs i (by rw [hv.out.1]; exact hin)
              have hfg := hfz i
              clear hcs hfz
              go_wp2
              go_roundw
              case rel =>
                refine ⟨x + 1, _, by omega, by go_num, (how.below hb4).set (by rw [hv.out.1]; exact hin) r, ?_, (hb.step hb4).set (by omega) _⟩
                rw [show x + 1 + W * y = i + 1 by have := hI.out; omega]
                refine hv.out.step hin (by simp [lapF]; exact hlr) ?_
                have e1 := hs.out
                have e2 := hr1.out
                rw [vf_four, getD_vf hlr] at e2
                rw [e2] at e1
                simp only [lapF, List.getElem_map, List.getElem_range]
                exact e1
              case measure => simp [intOf]; omega
        · go_wp2
          obtain rfl : x = W := by omega
          go_roundw
          case rel => exact ⟨y + 1, rs', by omega, by go_num, how, by simpa [Nat.mul_succ, Nat.add_comm] using hv, hb⟩
          case measure => simp [intOf]; omega
    · go_wp2
      go_ret
      obtain rfl : y = H := by omega
      have hd := hv.out
      rw [← hF.out] at hd
      refine ⟨_, _, rs', rfl, how.mono (by omega), hd.all (by simp [lapF, hL1.out]), hb.below⟩
end Go.Proofs.Ytdafcgimkiepnaa.Lap
