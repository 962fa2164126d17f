/-
  Fields on a grid of half the size and of twice the size: contracts of the reference's and of the program's.
  Conditions: none.
-/
import Derived.Test.YtdafcgimkiepnaaLap
import Derived.Test.YtdafcgimkiepnaaLaw
import Derived.Test.YtdafcgimkiepnaaReg1
import Derived.Deep.DeepCutAuto
import Derived.Deep.RegionHeld3
namespace Go.Proofs.Ytdafcgimkiepnaa.Half
open Go Go.RowKit Go.Proofs.Ytdafcgimkiepnaa.Fl Go.Proofs.Ytdafcgimkiepnaa.Reg Go.Proofs.Ytdafcgimkiepnaa.Step Go.Proofs.Ytdafcgimkiepnaa.Mem Go.Proofs.Ytdafcgimkiepnaa.Help Go.Proofs.Ytdafcgimkiepnaa.Grid Go.Proofs.Ytdafcgimkiepnaa.Index Go.Proofs.Ytdafcgimkiepnaa.Near Go.Proofs.Ytdafcgimkiepnaa.Mean Go.Proofs.Ytdafcgimkiepnaa.App Go.Proofs.Ytdafcgimkiepnaa.Level Go.Proofs.Ytdafcgimkiepnaa.Lap Go.Proofs.Ytdafcgimkiepnaa.Law

/-- The number of the half grid's corner k (hw corners a row). -/
def coarseAt (hw : Nat) (xs : List (Option Nat)) (k : Nat) : Option Nat :=
  fop .mul .f32 (some 1048576000) (fop .add .f32 (fop .add .f32 (fop .add .f32
    (xs.getD (2 * (k % hw) + 2 * hw * (2 * (k / hw))) none) (xs.getD (2 * (k % hw) + 2 * hw * (2 * (k / hw)) + 1) none))
    (xs.getD (2 * (k % hw) + 2 * hw * (2 * (k / hw)) + 2 * hw) none)) (xs.getD (2 * (k % hw) + 2 * hw * (2 * (k / hw)) + 2 * hw + 1) none))
def coarseF (hw hh : Nat) (xs : List (Option Nat)) : List (Option Nat) := (List.range (hw * hh)).map (coarseAt hw xs)
/-- The number of the twice grid's corner k (2 * W corners a row). -/
def fineAt (W : Nat) (xs : List (Option Nat)) (k : Nat) : Option Nat := xs.getD (k % (2 * W) / 2 + W * (k / (2 * W) / 2)) none
def fineF (W H : Nat) (xs : List (Option Nat)) : List (Option Nat) := (List.range (2 * W * (2 * H))).map (fineAt W xs)
theorem divmod_row {W x y : Nat} (hx : x < W) : (x + W * y) % W = x ∧ (x + W * y) / W = y := by
  constructor
  · rw [Nat.add_mul_mod_self_left, Nat.mod_eq_of_lt hx]
  · rw [Nat.add_mul_div_left _ _ (by omega), Nat.div_eq_of_lt hx, Nat.zero_add]

/-- What a call hands back that makes a grid and a field. -/
def BackG (w w' : World) (e : Ending) (W H : Nat) (n : Nat) (xs : List (Option Nat)) : Prop :=
  ∃ q cap rs', e = .returned (.tuple #[.agg #[.int .i64 (W : Nat), .int .i64 (H : Nat)], .slice q n cap]) ∧ Ow w' w.heap.size q cap rs' ∧ rs'.map (vf .f32) = xs ∧ Below w.heap.size w w'
theorem vf_quarter : vf .f32 1048576000 = some 1048576000 := by decide

set_option maxHeartbeats 4000000 in
set_option maxRecDepth 100000 in
theorem l03Coarse_any (b0 : Nat) (W H hw hh : Nat) (eW : Hid (W = 2 * hw)) (eH : Hid (H = 2 * hh)) (h1 : 4 ≤ hw) (h2 : hw ≤ 8) (h3 : 4 ≤ hh) (h4 : hh ≤ 8) (p : Option Addr) (c : Nat) (rs : List Nat) (n : Nat) (hn : Hid (n = W * H)) (hl : Hid (rs.length = n)) (w : World) (hb0 : b0 < w.heap.size) (hW : w.cell? ⟨b0, 0, none⟩ = some (.int .i64 (W : Nat))) (hH : w.cell? ⟨b0, 1, none⟩ = some (.int .i64 (H : Nat))) (hr : Rd w p rs) :
    Calls Try.prog 58 #[.pointer (some ⟨b0, 0, none⟩), .slice p n c] w fun e w' => BackG w w' e hw hh (hw * hh) (coarseF hw hh (rs.map (vf .f32))) := by
  have hnn : n ≤ 256 := by rw [hn.out]; exact Nat.mul_le_mul (by have := eW.out; omega : W ≤ 16) (by have := eH.out; omega : H ≤ 16)
  have hn0 : 0 < n := by rw [hn.out]; exact Nat.mul_pos (by have := eW.out; omega) (by have := eH.out; omega)
  obtain ⟨b, o, rfl, hbw, HC⟩ := hr.open_ (by rw [hl.out]; exact hn0)
  have hW16 : W ≤ 16 := by have := eW.out; omega
  have q1 : (W : Int).tdiv 2 = (hw : Int) := by rw [Int.tdiv_eq_ediv_of_nonneg (by omega)]; have := eW.out; omega
  have q2 : (H : Int).tdiv 2 = (hh : Int) := by rw [Int.tdiv_eq_ediv_of_nonneg (by omega)]; have := eH.out; omega
  have q3 : IntKind.i64.wrap (hw : Int) = (hw : Int) := IntWalk.i64_in _ (by omega)
  have q4 : IntKind.i64.wrap (hh : Int) = (hh : Int) := IntWalk.i64_in _ (by omega)
  have bA : Below w.heap.size w (w.alloc (.cells #[.int .i64 0, .int .i64 0] 27)) := (Below.refl _ _).alloc (Nat.le_refl _) _
  have hWa := (bA.cell (p := ⟨b0, 0, none⟩) hb0).trans hW
  have hHa := (bA.cell (p := ⟨b0, 1, none⟩) hb0).trans hH
  have ra0 : (w.alloc (.cells #[.int .i64 0, .int .i64 0] 27)).cell? ⟨w.heap.size, 0, none⟩ = some (.int .i64 0) := by simp
  have ra1 : (w.alloc (.cells #[.int .i64 0, .int .i64 0] 27)).cell? ⟨w.heap.size, 1, none⟩ = some (.int .i64 0) := by simp
  have rf0 : (w.alloc (.cells #[.int .i64 0, .int .i64 0] 27)).frozen? ⟨w.heap.size, 0, none⟩ = false := by simp
  have rf1 : (w.alloc (.cells #[.int .i64 0, .int .i64 0] 27)).frozen? ⟨w.heap.size, 1, none⟩ = false := by simp
  have rz : w.heap.size < (w.alloc (.cells #[.int .i64 0, .int .i64 0] 27)).heap.size := by simp
  go_enter Try.func58, Try.ntmps58
  go_upto_region 1 with fail
  generalize hwA : w.alloc (.cells #[.int .i64 0, .int .i64 0] 27) = wA at *
  clear hwA
  have zA := Nat.lt_of_lt_of_le hb0 bA.size
  have nA0 := World.new_ne wA _ hWa
  have nA1 := World.new_ne wA _ hHa
  go_cut [6] from 11 to 21 (fun s6 wx => ∃ g : Nat, s6 = .pointer (some ⟨g, 0, none⟩) ∧ wA.heap.size ≤ g ∧ g < wx.heap.size ∧ wx.cell? ⟨g, 0, none⟩ = some (.int .i64 (hw : Nat)) ∧ wx.cell? ⟨g, 1, none⟩ = some (.int .i64 (hh : Nat)) ∧ Below wA.heap.size wA wx)
  case first =>
    go_region_held3 (fun w' => w'.cell? ⟨b0, 0, none⟩ = some (.int .i64 (W : Nat)) ∧ w'.cell? ⟨b0, 1, none⟩ = some (.int .i64 (H : Nat))) (go_keep) (fail)
    all_goals
      go_wp2
      go_meet
      exact ⟨wA.heap.size, rfl, Nat.le_refl _, by simp, by simp, by simp, ((Below.refl _ _).alloc (Nat.le_refl _) _).drew⟩
  case rest =>
    obtain ⟨gT, rfl, gT1, gT2, t0, t1, bB⟩ := hcut
    obtain ⟨wB, rfl⟩ : ∃ wB : World, wB = wc := ⟨_, rfl⟩
    have bC := bA.trans (bB.mono bA.size)
    have rz : w.heap.size < wB.heap.size := Nat.lt_of_lt_of_le rz bB.size
    have oS := Ow.empty wB #[] rfl
    have bS := (Below.refl wB.heap.size wB).alloc (Nat.le_refl _) (.cells #[] 38)
    have hne : w.heap.size ≠ gT := by omega
    have r0 := (bB.cell (p := ⟨w.heap.size, 0, none⟩) (by assumption)).trans ra0
    have r1 := (bB.cell (p := ⟨w.heap.size, 1, none⟩) (by assumption)).trans ra1
    have f0 := (bB.frozen (p := ⟨w.heap.size, 0, none⟩) (by assumption)).trans rf0
    have f1 := (bB.frozen (p := ⟨w.heap.size, 1, none⟩) (by assumption)).trans rf1
    clear q1 q2 q3 q4 nA0 nA1 ra0 ra1 rf0 rf1 hWa hHa
    have HT0 : Hid (wB.cell? ⟨gT, 0, none⟩ = some (.int .i64 (hw : Nat))) := t0
    have HT1 : Hid (wB.cell? ⟨gT, 1, none⟩ = some (.int .i64 (hh : Nat))) := t1
    have HR : Hid (wB.cell? ⟨w.heap.size, 0, none⟩ = some (.int .i64 0) ∧ wB.cell? ⟨w.heap.size, 1, none⟩ = some (.int .i64 0) ∧ wB.frozen? ⟨w.heap.size, 0, none⟩ = false ∧ wB.frozen? ⟨w.heap.size, 1, none⟩ = false) := ⟨r0, r1, f0, f1⟩
    have HW : Hid (w.cell? ⟨b0, 0, none⟩ = some (.int .i64 (W : Nat))) := hW
    clear t0 t1 r0 r1 f0 f1 hW hH
    go_wp2
    go_loopw [7, 8] (fun s i wr => ∃ (y m : Nat) (q : Option Addr) (cap : Nat) (rs' : List Nat), y ≤ hh ∧ i = .int .i64 y ∧ s = .slice q m cap ∧ Hid (m = hw * y) ∧ Ow wr wB.heap.size q cap rs' ∧ Pt m 0 m (coarseAt hw (rs.map (vf .f32))) rs' ∧ Below wB.heap.size wB wr) (fun _ i _ => hh - (intOf i).toNat)
    case atStart => exact ⟨0, 0, _, 0, [], Nat.zero_le _, rfl, rfl, by show _ = _; simp, oS, Pt.empty, bS⟩
    case round =>
      clear oS bS
      obtain ⟨y, m, q, cap, rs', hy, rfl, rfl, hm, ho, pt, hb⟩ := hrel
      have k1 := (hb.cell (p := ⟨gT, 1, none⟩) gT2).trans HT1.out
      by_cases hlt : y < hh
      · go_wp2
        clear k1
        go_loopw [7, 9] (fun s i wr => ∃ (x m : Nat) (q : Option Addr) (cap : Nat) (rs' : List Nat), x ≤ hw ∧ i = .int .i64 x ∧ s = .slice q m cap ∧ Hid (m = x + hw * y) ∧ Ow wr wB.heap.size q cap rs' ∧ Pt m 0 m (coarseAt hw (rs.map (vf .f32))) rs' ∧ Below wB.heap.size wB wr) (fun _ i _ => hw - (intOf i).toNat)
        case atStart => exact ⟨0, m, q, cap, rs', Nat.zero_le _, rfl, rfl, by show _ = _; rw [hm.out]; simp, ho, pt, hb⟩
        case round =>
          clear ho pt hb hm
          obtain ⟨x, m, q, cap, rs', hx, rfl, rfl, hm, ho, pt, hb⟩ := hrel
          have k0 := (hb.cell (p := ⟨gT, 0, none⟩) gT2).trans HT0.out
          by_cases hltx : x < hw
          · have bT := bC.trans (hb.mono bC.size)
            have kW := (bT.cell (p := ⟨b0, 0, none⟩) hb0).trans HW.out
            have zb0 : b0 < wr.heap.size := Nat.lt_of_lt_of_le hb0 bT.size
            have zb : b < wr.heap.size := Nat.lt_of_lt_of_le hbw bT.size
            have hi3 : 2 * x + 1 + W * (2 * y + 1) < n := row_lt hn.out (by have := eW.out; omega) (by have := eH.out; omega)
            have hy2 : W * (2 * y) = 2 * hw * (2 * y) := by rw [eW.out]
            have hs : W * (2 * y + 1) = W * (2 * y) + W := by rw [Nat.mul_add, Nat.mul_one]
            obtain ⟨i, hi⟩ : ∃ i, i = 2 * x + W * (2 * y) := ⟨_, rfl⟩
            have hii : (2 * (x : Int) + (W : Int) * 2 * (y : Int)) = (i : Int) := by rw [hi]; push_cast; rw [Int.mul_assoc]
            have hWy : 0 ≤ (W : Int) * 2 * (y : Int) ∧ (W : Int) * 2 * (y : Int) ≤ 256 := by omega
            have hII : Hid ((2 * (x : Int) + (W : Int) * 2 * (y : Int)) = (i : Int)) := hii
            obtain ⟨i1, g1, e1, j1⟩ : ∃ j : Nat, j < n ∧ IntKind.i64.wrap ((i : Int) + 1) = (j : Int) ∧ Hid (j = i + 1) := ⟨i + 1, by omega, by rw [show ((i + 1 : Nat) : Int) = (i : Int) + 1 by omega]; exact IntWalk.i64_in _ (by omega), rfl⟩
            obtain ⟨i2, g2, e2, j2⟩ : ∃ j : Nat, j < n ∧ IntKind.i64.wrap ((i : Int) + (W : Int)) = (j : Int) ∧ Hid (j = i + W) := ⟨i + W, by omega, by rw [show ((i + W : Nat) : Int) = (i : Int) + W by omega]; exact IntWalk.i64_in _ (by omega), rfl⟩
            obtain ⟨i3, g3, e3, j3⟩ : ∃ j : Nat, j < n ∧ IntKind.i64.wrap ((i2 : Int) + 1) = (j : Int) ∧ Hid (j = i + W + 1) := ⟨i + W + 1, by omega, by rw [j2.out, show ((i + W + 1 : Nat) : Int) = ((i + W : Nat) : Int) + 1 by omega]; exact IntWalk.i64_in _ (by omega), rfl⟩
            have g0 : i < n := by omega
            obtain ⟨x0, v0, l0⟩ := HC.get hbw bT (k := i) (by rw [hl.out]; exact g0)
            obtain ⟨x1, v1, l1⟩ := HC.get hbw bT (k := i1) (by rw [hl.out]; exact g1)
            obtain ⟨x2, v2, l2⟩ := HC.get hbw bT (k := i2) (by rw [hl.out]; exact g2)
            obtain ⟨x3, v3, l3⟩ := HC.get hbw bT (k := i3) (by rw [hl.out]; exact g3)
            have dm := divmod_row (y := y) hltx
            have hm64 : m ≤ 256 := by have h5 : x + hw * y < hw * hh := row_lt rfl hltx hlt; have h6 : hw * hh ≤ 8 * 8 := Nat.mul_le_mul h2 h4; rw [hm.out]; omega
            have hval : Hid (coarseAt hw (rs.map (vf .f32)) m = fop .mul .f32 (some 1048576000) (fop .add .f32 (fop .add .f32 (fop .add .f32 ((rs.map (vf .f32)).getD i none) ((rs.map (vf .f32)).getD i1 none)) ((rs.map (vf .f32)).getD i2 none)) ((rs.map (vf .f32)).getD i3 none))) := by
              show _ = _
              rw [coarseAt, hm.out, dm.1, dm.2, j1.out, j2.out, j3.out, hi, hy2, eW.out]
            clear hii hi hy2 hs hi3 dm j1 j2 j3
            go_upto_region 10 with fail
            rw [hII.out]
            refine wp_region_dem1 32 (Below (wr.heap.size) wr) (fun _ _ _ => False) (by kernel_rfl) (by kernel_rfl) rfl rfl (fun _ _ _ h => h) (Below.refl _ _).drew ?_
            simp only [List.take_succ_cons, List.take_zero, List.drop_succ_cons, List.drop_zero]
            repeat (first
              | (refine wpDem_flt rfl rfl rfl rfl rfl (fun _ n h => (below_drewN_iff _ _ _ n).2 h) (fun r hr => ?_); simp only [Act.put, List.setIfInBounds_toArray, List.set_cons_succ, List.set_cons_zero])
              | (refine wpDem_want rfl (fun K hK => ?_); intro w' hw'; obtain ⟨hc', hf'⟩ := bcellB hw'; go_simp; first | (refine hK _ ?_; clear hK K hc' hf' hw' w')))
            refine wpDem_nil ?_
            intro w2 hb2
            rename_i rA hA rB hB rC hC
            have hv : Hid (vf .f32 r = coarseAt hw (rs.map (vf .f32)) m) := by
              have a1 := hr.out
              rw [hC.out, hB.out, hA.out, v0.out, v1.out, v2.out, v3.out, vf_quarter] at a1
              show _ = _
              rw [a1, hval.out]
            clear hr hA hB hC v0 v1 v2 v3 l0 l1 l2 l3 e1 e2 e3 k0 kW
            have o2 := ho.below hb2
            have hbD := hb.trans (hb2.mono hb.size)
            go_wp2_with (at_builtin; refine wpList_app1 rfl rfl rfl rfl rfl o2 pt.len.symm (by have := pt.len; omega) hbD.size (fun p' cap' w3 o3 hg3 hp3 => ?_))
            go_roundw
            case rel => exact ⟨x + 1, m + 1, _, _, _, by omega, by go_num, rfl, by show _ = _; have := hm.out; omega, o3, pt.app hv.out, hbD.trans (below_of_gb hg3 (fun a ha => (o2.lt a ha).1) hbD.size)⟩
            case measure => simp [intOf]; omega
          · go_wp2
            obtain rfl : x = hw := by omega
            go_roundw
            case rel => exact ⟨y + 1, m, q, cap, rs', by omega, by go_num, rfl, by show _ = _; rw [hm.out, Nat.mul_succ, Nat.add_comm], ho, pt, hb⟩
            case measure => simp [intOf]; omega
      · obtain rfl : y = hh := by omega
        have k0 := (hb.cell (p := ⟨gT, 0, none⟩) gT2).trans HT0.out
        have r0 := (hb.cell (p := ⟨w.heap.size, 0, none⟩) rz).trans HR.out.1
        have r1 := (hb.cell (p := ⟨w.heap.size, 1, none⟩) rz).trans HR.out.2.1
        have f0 := (hb.frozen (p := ⟨w.heap.size, 0, none⟩) rz).trans HR.out.2.2.1
        have f1 := (hb.frozen (p := ⟨w.heap.size, 1, none⟩) rz).trans HR.out.2.2.2
        go_wp2
        have hrow : ∀ b o s, q = some ⟨b, o, s⟩ → b ≠ w.heap.size := fun b o s e => Nat.ne_of_gt (Nat.lt_of_lt_of_le rz (ho.lt _ e).1)
        exact bodyPost_ret (v := .tuple #[.agg #[.int .i64 (hw : Nat), .int .i64 (y : Nat)], .slice q m cap]) (by simp [results, Try.results58, go_sem, r0, r1]) rfl
          ⟨q, cap, rs', by rw [hm.out], ((ho.mono bC.size).set_other (i := 0) hrow (.int .i64 (hw : Nat))).set_other (i := 1) hrow (.int .i64 (y : Nat)), by rw [pt.all, hm.out]; rfl,
            ((bC.trans (hb.mono bC.size)).setCell (p := ⟨w.heap.size, 0, none⟩) (Nat.le_refl _) (.int .i64 (hw : Nat))).setCell (p := ⟨w.heap.size, 1, none⟩) (Nat.le_refl _) (.int .i64 (y : Nat))⟩

set_option maxHeartbeats 4000000 in
set_option maxRecDepth 100000 in
theorem l03Fine_any (b0 : Nat) (W H W2 H2 : Nat) (eW : Hid (W2 = 2 * W)) (eH : Hid (H2 = 2 * H)) (h1 : 4 ≤ W) (h2 : W ≤ 8) (h3 : 4 ≤ H) (h4 : H ≤ 8) (p : Option Addr) (c : Nat) (rs : List Nat) (n : Nat) (hn : Hid (n = W * H)) (hl : Hid (rs.length = n)) (w : World) (hb0 : b0 < w.heap.size) (hW : w.cell? ⟨b0, 0, none⟩ = some (.int .i64 (W : Nat))) (hH : w.cell? ⟨b0, 1, none⟩ = some (.int .i64 (H : Nat))) (hr : Rd w p rs) :
    Calls Try.prog 51 #[.pointer (some ⟨b0, 0, none⟩), .slice p n c] w fun e w' => BackG w w' e W2 H2 (W2 * H2) (fineF W H (rs.map (vf .f32))) := by
  have hnn : n ≤ 256 := by rw [hn.out]; exact Nat.le_trans (Nat.mul_le_mul h2 h4) (by omega)
  have hn0 : 0 < n := by rw [hn.out]; exact Nat.mul_pos (by omega) (by omega)
  obtain ⟨b, o, rfl, hbw, HC⟩ := hr.open_ (by rw [hl.out]; exact hn0)
  have hW16 : W2 ≤ 16 := by have := eW.out; omega
  have hH16 : H2 ≤ 16 := by have := eH.out; omega
  have q1 : IntKind.i64.wrap (2 * (W : Int)) = (W2 : Int) := by rw [show (2 * (W : Int)) = (W2 : Int) by have := eW.out; omega]; exact IntWalk.i64_in _ (by omega)
  have q2 : IntKind.i64.wrap (2 * (H : Int)) = (H2 : Int) := by rw [show (2 * (H : Int)) = (H2 : Int) by have := eH.out; omega]; exact IntWalk.i64_in _ (by omega)
  have bA : Below w.heap.size w (w.alloc (.cells #[.int .i64 0, .int .i64 0] 27)) := (Below.refl _ _).alloc (Nat.le_refl _) _
  have hWa := (bA.cell (p := ⟨b0, 0, none⟩) hb0).trans hW
  have hHa := (bA.cell (p := ⟨b0, 1, none⟩) hb0).trans hH
  have ra0 : (w.alloc (.cells #[.int .i64 0, .int .i64 0] 27)).cell? ⟨w.heap.size, 0, none⟩ = some (.int .i64 0) := by simp
  have ra1 : (w.alloc (.cells #[.int .i64 0, .int .i64 0] 27)).cell? ⟨w.heap.size, 1, none⟩ = some (.int .i64 0) := by simp
  have rf0 : (w.alloc (.cells #[.int .i64 0, .int .i64 0] 27)).frozen? ⟨w.heap.size, 0, none⟩ = false := by simp
  have rf1 : (w.alloc (.cells #[.int .i64 0, .int .i64 0] 27)).frozen? ⟨w.heap.size, 1, none⟩ = false := by simp
  have rz : w.heap.size < (w.alloc (.cells #[.int .i64 0, .int .i64 0] 27)).heap.size := by simp
  go_enter Try.func51, Try.ntmps51
  go_upto_region 1 with fail
  generalize hwA : w.alloc (.cells #[.int .i64 0, .int .i64 0] 27) = wA at *
  clear hwA
  have zA := Nat.lt_of_lt_of_le hb0 bA.size
  have nA0 := World.new_ne wA _ hWa
  have nA1 := World.new_ne wA _ hHa
  go_cut [6] from 10 to 20 (fun s6 wx => ∃ g : Nat, s6 = .pointer (some ⟨g, 0, none⟩) ∧ wA.heap.size ≤ g ∧ g < wx.heap.size ∧ wx.cell? ⟨g, 0, none⟩ = some (.int .i64 (W2 : Nat)) ∧ wx.cell? ⟨g, 1, none⟩ = some (.int .i64 (H2 : Nat)) ∧ Below wA.heap.size wA wx)
  case first =>
    go_region_held3 (fun w' => w'.cell? ⟨b0, 0, none⟩ = some (.int .i64 (W : Nat)) ∧ w'.cell? ⟨b0, 1, none⟩ = some (.int .i64 (H : Nat))) (go_keep) (fail)
    all_goals
      go_wp2
      go_meet
      exact ⟨wA.heap.size, rfl, Nat.le_refl _, by simp, by simp, by simp, ((Below.refl _ _).alloc (Nat.le_refl _) _).drew⟩
  case rest =>
    obtain ⟨gT, rfl, gT1, gT2, t0, t1, bB⟩ := hcut
    obtain ⟨wB, rfl⟩ : ∃ wB : World, wB = wc := ⟨_, rfl⟩
    have bC := bA.trans (bB.mono bA.size)
    have rz : w.heap.size < wB.heap.size := Nat.lt_of_lt_of_le rz bB.size
    have oS := Ow.empty wB #[] rfl
    have bS := (Below.refl wB.heap.size wB).alloc (Nat.le_refl _) (.cells #[] 38)
    have hne : w.heap.size ≠ gT := by omega
    have r0 := (bB.cell (p := ⟨w.heap.size, 0, none⟩) (by assumption)).trans ra0
    have r1 := (bB.cell (p := ⟨w.heap.size, 1, none⟩) (by assumption)).trans ra1
    have f0 := (bB.frozen (p := ⟨w.heap.size, 0, none⟩) (by assumption)).trans rf0
    have f1 := (bB.frozen (p := ⟨w.heap.size, 1, none⟩) (by assumption)).trans rf1
    clear q1 q2 nA0 nA1 ra0 ra1 rf0 rf1 hWa hHa
    have HT0 : Hid (wB.cell? ⟨gT, 0, none⟩ = some (.int .i64 (W2 : Nat))) := t0
    have HT1 : Hid (wB.cell? ⟨gT, 1, none⟩ = some (.int .i64 (H2 : Nat))) := t1
    have HR : Hid (wB.cell? ⟨w.heap.size, 0, none⟩ = some (.int .i64 0) ∧ wB.cell? ⟨w.heap.size, 1, none⟩ = some (.int .i64 0) ∧ wB.frozen? ⟨w.heap.size, 0, none⟩ = false ∧ wB.frozen? ⟨w.heap.size, 1, none⟩ = false) := ⟨r0, r1, f0, f1⟩
    have HW : Hid (w.cell? ⟨b0, 0, none⟩ = some (.int .i64 (W : Nat))) := hW
    clear t0 t1 r0 r1 f0 f1 hW hH
    go_wp2
    go_loopw [7, 8] (fun s i wr => ∃ (y m : Nat) (q : Option Addr) (cap : Nat) (rs' : List Nat), y ≤ H2 ∧ i = .int .i64 y ∧ s = .slice q m cap ∧ Hid (m = W2 * y) ∧ Ow wr wB.heap.size q cap rs' ∧ Pt m 0 m (fineAt W (rs.map (vf .f32))) rs' ∧ Below wB.heap.size wB wr) (fun _ i _ => H2 - (intOf i).toNat)
    case atStart => exact ⟨0, 0, _, 0, [], Nat.zero_le _, rfl, rfl, by show _ = _; simp, oS, Pt.empty, bS⟩
    case round =>
      clear oS bS
      obtain ⟨y, m, q, cap, rs', hy, rfl, rfl, hm, ho, pt, hb⟩ := hrel
      have k1 := (hb.cell (p := ⟨gT, 1, none⟩) gT2).trans HT1.out
      by_cases hlt : y < H2
      · go_wp2
        clear k1
        go_loopw [7, 9] (fun s i wr => ∃ (x m : Nat) (q : Option Addr) (cap : Nat) (rs' : List Nat), x ≤ W2 ∧ i = .int .i64 x ∧ s = .slice q m cap ∧ Hid (m = x + W2 * y) ∧ Ow wr wB.heap.size q cap rs' ∧ Pt m 0 m (fineAt W (rs.map (vf .f32))) rs' ∧ Below wB.heap.size wB wr) (fun _ i _ => W2 - (intOf i).toNat)
        case atStart => exact ⟨0, m, q, cap, rs', Nat.zero_le _, rfl, rfl, by show _ = _; rw [hm.out]; simp, ho, pt, hb⟩
        case round =>
          clear ho pt hb hm
          obtain ⟨x, m, q, cap, rs', hx, rfl, rfl, hm, ho, pt, hb⟩ := hrel
          have k0 := (hb.cell (p := ⟨gT, 0, none⟩) gT2).trans HT0.out
          by_cases hltx : x < W2
          · have bT := bC.trans (hb.mono bC.size)
            have kW := (bT.cell (p := ⟨b0, 0, none⟩) hb0).trans HW.out
            have zb0 : b0 < wr.heap.size := Nat.lt_of_lt_of_le hb0 bT.size
            have zb : b < wr.heap.size := Nat.lt_of_lt_of_le hbw bT.size
            have hi3 : x / 2 + W * (y / 2) < n := row_lt hn.out (by have := eW.out; omega) (by have := eH.out; omega)
            have hWy : 0 ≤ (W : Int) * ((y : Int) / 2) ∧ (W : Int) * ((y : Int) / 2) ≤ 256 := by
              have e : ((W * (y / 2) : Nat) : Int) = (W : Int) * ((y : Int) / 2) := by push_cast; rfl
              omega
            have hiI : (x : Int) / 2 + (W : Int) * ((y : Int) / 2) < (n : Int) := by
              have e : ((W * (y / 2) : Nat) : Int) = (W : Int) * ((y : Int) / 2) := by push_cast; rfl
              omega
            obtain ⟨x0, v0, l0⟩ := HC.get hbw bT (k := x / 2 + W * (y / 2)) (by rw [hl.out]; exact hi3)
            have dm := divmod_row (y := y) hltx
            have hm64 : m ≤ 256 := by have h5 : x + W2 * y < W2 * H2 := row_lt rfl hltx hlt; have h6 : W2 * H2 ≤ 16 * 16 := Nat.mul_le_mul hW16 hH16; rw [hm.out]; omega
            have hv : Hid (vf .f32 x0 = fineAt W (rs.map (vf .f32)) m) := by
              show _ = _
              rw [fineAt, ← eW.out, hm.out, dm.1, dm.2, v0.out]
            clear dm v0
            have hbD := hb
            go_wp2_with (at_builtin; refine wpList_app1 rfl rfl rfl rfl rfl ho pt.len.symm (by have := pt.len; omega) hbD.size (fun p' cap' w3 o3 hg3 hp3 => ?_))
            go_roundw
            case rel => exact ⟨x + 1, m + 1, _, _, _, by omega, by go_num, rfl, by show _ = _; have := hm.out; omega, o3, pt.app hv.out, hbD.trans (below_of_gb hg3 (fun a ha => (ho.lt a ha).1) hbD.size)⟩
            case measure => simp [intOf]; omega
          · go_wp2
            obtain rfl : x = W2 := by omega
            go_roundw
            case rel => exact ⟨y + 1, m, q, cap, rs', by omega, by go_num, rfl, by show _ = _; rw [hm.out, Nat.mul_succ, Nat.add_comm], ho, pt, hb⟩
            case measure => simp [intOf]; omega
      · obtain rfl : y = H2 := by omega
        have k0 := (hb.cell (p := ⟨gT, 0, none⟩) gT2).trans HT0.out
        have r0 := (hb.cell (p := ⟨w.heap.size, 0, none⟩) rz).trans HR.out.1
        have r1 := (hb.cell (p := ⟨w.heap.size, 1, none⟩) rz).trans HR.out.2.1
        have f0 := (hb.frozen (p := ⟨w.heap.size, 0, none⟩) rz).trans HR.out.2.2.1
        have f1 := (hb.frozen (p := ⟨w.heap.size, 1, none⟩) rz).trans HR.out.2.2.2
        go_wp2
        have hrow : ∀ b o s, q = some ⟨b, o, s⟩ → b ≠ w.heap.size := fun b o s e => Nat.ne_of_gt (Nat.lt_of_lt_of_le rz (ho.lt _ e).1)
        exact bodyPost_ret (v := .tuple #[.agg #[.int .i64 (W2 : Nat), .int .i64 (y : Nat)], .slice q m cap]) (by simp [results, Try.results51, go_sem, r0, r1]) rfl
          ⟨q, cap, rs', by rw [hm.out], ((ho.mono bC.size).set_other (i := 0) hrow (.int .i64 (W2 : Nat))).set_other (i := 1) hrow (.int .i64 (y : Nat)), by rw [pt.all, hm.out, fineF, ← eW.out, ← eH.out],
            ((bC.trans (hb.mono bC.size)).setCell (p := ⟨w.heap.size, 0, none⟩) (Nat.le_refl _) (.int .i64 (W2 : Nat))).setCell (p := ⟨w.heap.size, 1, none⟩) (Nat.le_refl _) (.int .i64 (y : Nat))⟩
end Go.Proofs.Ytdafcgimkiepnaa.Half
