/-
  Equations along a row: contracts of the reference's and of the program's.
  Conditions: none.
-/
import Derived.Test.YtdafcgimkiepnaaBack
import Derived.Test.YtdafcgimkiepnaaLaw
import Derived.Deep.DeepCutAuto
import Derived.RegionTactic
namespace Go.Proofs.Ytdafcgimkiepnaa.Row
open Go Go.RowKit Go.Proofs.Ytdafcgimkiepnaa.Fl Go.Proofs.Ytdafcgimkiepnaa.Reg Go.Proofs.Ytdafcgimkiepnaa.Step Go.Proofs.Ytdafcgimkiepnaa.Mem Go.Proofs.Ytdafcgimkiepnaa.Help Go.Proofs.Ytdafcgimkiepnaa.Grid Go.Proofs.Ytdafcgimkiepnaa.App Go.Proofs.Ytdafcgimkiepnaa.Level Go.Proofs.Ytdafcgimkiepnaa.Law

def isz (m : Option Nat) : Bool := ford .f32 m (some 0) == some .eq
/-- The divisor, the upper quotient and the right quotient at k. -/
def rowAt (L M U R : List (Option Nat)) : Nat → Option Nat × Option Nat × Option Nat
  | 0 => (M.getD 0 none, fop .quo .f32 (U.getD 0 none) (M.getD 0 none), fop .quo .f32 (R.getD 0 none) (M.getD 0 none))
  | k + 1 =>
    (fop .sub .f32 (M.getD (k + 1) none) (fop .mul .f32 (L.getD (k + 1) none) (rowAt L M U R k).2.1),
     fop .quo .f32 (U.getD (k + 1) none) (fop .sub .f32 (M.getD (k + 1) none) (fop .mul .f32 (L.getD (k + 1) none) (rowAt L M U R k).2.1)),
     fop .quo .f32 (fop .sub .f32 (R.getD (k + 1) none) (fop .mul .f32 (L.getD (k + 1) none) (rowAt L M U R k).2.2)) (fop .sub .f32 (M.getD (k + 1) none) (fop .mul .f32 (L.getD (k + 1) none) (rowAt L M U R k).2.1)))
def mAt (L M U R : List (Option Nat)) (k : Nat) : Option Nat := (rowAt L M U R k).1
def cAt (L M U R : List (Option Nat)) (k : Nat) : Option Nat := (rowAt L M U R k).2.1
def dAt (L M U R : List (Option Nat)) (k : Nat) : Option Nat := (rowAt L M U R k).2.2
/-- What is divided at k. -/
def rAt (L M U R : List (Option Nat)) : Nat → Option Nat
  | 0 => R.getD 0 none
  | k + 1 => fop .sub .f32 (R.getD (k + 1) none) (fop .mul .f32 (L.getD (k + 1) none) (dAt L M U R k))
theorem cAt_eq (L M U R : List (Option Nat)) (k : Nat) : cAt L M U R k = fop .quo .f32 (U.getD k none) (mAt L M U R k) := by cases k <;> rfl
theorem dAt_eq (L M U R : List (Option Nat)) (k : Nat) : dAt L M U R k = fop .quo .f32 (rAt L M U R k) (mAt L M U R k) := by cases k <;> rfl
theorem mAt_succ (L M U R : List (Option Nat)) {k : Nat} (h : 0 < k) : mAt L M U R k = fop .sub .f32 (M.getD k none) (fop .mul .f32 (L.getD k none) (cAt L M U R (k - 1))) := by
  obtain ⟨j, rfl⟩ : ∃ j, k = j + 1 := ⟨k - 1, by omega⟩
  rfl
theorem rAt_succ (L M U R : List (Option Nat)) {k : Nat} (h : 0 < k) : rAt L M U R k = fop .sub .f32 (R.getD k none) (fop .mul .f32 (L.getD k none) (dAt L M U R (k - 1))) := by
  obtain ⟨j, rfl⟩ : ∃ j, k = j + 1 := ⟨k - 1, by omega⟩
  rfl
/-- The answer, j places from its end. -/
def bkTo (L M U R : List (Option Nat)) (n : Nat) : Nat → Option Nat
  | 0 => dAt L M U R (n - 1)
  | j + 1 => fop .sub .f32 (dAt L M U R (n - 1 - (j + 1))) (fop .mul .f32 (cAt L M U R (n - 1 - (j + 1))) (bkTo L M U R n j))
def xAt (L M U R : List (Option Nat)) (n k : Nat) : Option Nat := bkTo L M U R n (n - 1 - k)
theorem xAt_last (L M U R : List (Option Nat)) {n k : Nat} (h : k + 1 = n) : xAt L M U R n k = dAt L M U R k := by
  subst h
  simp [xAt, bkTo]
theorem xAt_step (L M U R : List (Option Nat)) {n k : Nat} (h : k + 1 < n) : xAt L M U R n k = fop .sub .f32 (dAt L M U R k) (fop .mul .f32 (cAt L M U R k) (xAt L M U R n (k + 1))) := by
  unfold xAt
  rw [show n - 1 - k = (n - 1 - (k + 1)) + 1 by omega, bkTo, show n - 1 - (n - 1 - (k + 1) + 1) = k by omega]
def rowF (L M U R : List (Option Nat)) (n : Nat) : List (Option Nat) := (List.range n).map (xAt L M U R n)
def rowOk (L M U R : List (Option Nat)) (n : Nat) : Bool := (List.range n).all fun k => !isz (mAt L M U R k)
theorem rowOk_true {L M U R : List (Option Nat)} {n : Nat} (h : ∀ j, j < n → isz (mAt L M U R j) = false) : rowOk L M U R n = true := by
  simp only [rowOk, List.all_eq_true, List.mem_range]
  intro j hj
  rw [h j hj]; rfl
theorem rowOk_false {L M U R : List (Option Nat)} {n k : Nat} (hk : k < n) (h : isz (mAt L M U R k) = true) : rowOk L M U R n = false := by
  rw [Bool.eq_false_iff]
  intro h2
  simp only [rowOk, List.all_eq_true, List.mem_range] at h2
  have := h2 k hk
  rw [h] at this
  cases this
def NoZ (L M U R : List (Option Nat)) (n : Nat) : Prop := ∀ j, j < n → isz (mAt L M U R j) = false
theorem NoZ.zero (L M U R : List (Option Nat)) : NoZ L M U R 0 := fun _ h => by omega
theorem NoZ.succ {L M U R : List (Option Nat)} {n : Nat} (h : NoZ L M U R n) (h2 : isz (mAt L M U R n) = false) : NoZ L M U R (n + 1) := by
  intro j hj
  by_cases e : j = n
  · rw [e, h2]
  · exact h j (by omega)
/-- What solving a row hands back. -/
def RowBack (w w' : World) (e : Ending) (L M U R : List (Option Nat)) (n : Nat) : Prop := BackT w w' e (rowOk L M U R n) (if rowOk L M U R n = true then rowF L M U R n else [])
theorem RowBack.bad {w w' : World} {L M U R : List (Option Nat)} {n k : Nat} (hb : Below w.heap.size w w') (hk : k < n) (h : isz (mAt L M U R k) = true) : RowBack w w' (.returned (.tuple #[.slice none 0 0, .bool false])) L M U R n := by
  unfold RowBack
  rw [rowOk_false hk h]
  exact BackT.none hb
theorem RowBack.good {w w' : World} {L M U R : List (Option Nat)} {n : Nat} (hz : NoZ L M U R n) {q : Option Addr} {cap : Nat} {xs : List Nat} (ho : Ow w' w.heap.size q cap xs) (hx : Pt n 0 n (xAt L M U R n) xs) (hn : n ≤ 1048576) (hb : Below w.heap.size w w') :
    RowBack w w' (.returned (.tuple #[.slice q n cap, .bool true])) L M U R n := by
  unfold RowBack
  rw [rowOk_true hz, if_pos rfl]
  exact BackT.of ho hx.all hx.len hn hb
theorem eq_isz {m : Nat} {v : Option Nat} (h : vf .f32 m = v) : (FloatKind.f32.format.order m 0 == some .eq) = isz v := by
  rw [order_vf, h, show vf .f32 0 = some 0 by decide]
  rfl

theorem pred_of {k n : Nat} (hk : 0 < k) (hkn : k ≤ n) (hn : n ≤ 1048576) : ∃ j : Nat, j < k ∧ IntKind.i64.wrap ((k : Int) - 1) = (j : Int) ∧ Hid (j = k - 1) := by
  refine ⟨k - 1, by omega, ?_, rfl⟩
  rw [show ((k - 1 : Nat) : Int) = (k : Int) - 1 by omega]
  exact IntWalk.i64_in _ (by omega)
theorem succ_of {i n : Nat} (h : i + 1 < n) (hn : n ≤ 1048576) : ∃ j : Nat, j < n ∧ IntKind.i64.wrap ((i : Int) + 1) = (j : Int) ∧ Hid (j = i + 1) := by
  refine ⟨i + 1, h, ?_, rfl⟩
  rw [show ((i + 1 : Nat) : Int) = (i : Int) + 1 by omega]
  exact IntWalk.i64_in _ (by omega)
/-- Two rows of the call's own, in two blocks. -/
def Apart (q q2 : Option Addr) : Prop := ∀ x y, q = some x → q2 = some y → x.block ≠ y.block

set_option maxHeartbeats 2000000 in
set_option maxRecDepth 100000 in
theorem l03Row_any (p0 p1 p2 p3 : Option Addr) (c0 c1 c2 c3 : Nat) (ls ms us rs : List Nat) (n : Nat) (L M U R : List (Option Nat)) (h0 : 0 < n) (hn : n ≤ 1048576) (hl : ls.length = n) (hm : ms.length = n) (hu : us.length = n) (hr : rs.length = n)
    (eL : Hid (ls.map (vf .f32) = L)) (eM : Hid (ms.map (vf .f32) = M)) (eU : Hid (us.map (vf .f32) = U)) (eR : Hid (rs.map (vf .f32) = R)) (w : World) (rL : Rd w p0 ls) (rM : Rd w p1 ms) (rU : Rd w p2 us) (rR : Rd w p3 rs) :
    Calls Try.prog 91 #[.slice p0 n c0, .slice p1 n c1, .slice p2 n c2, .slice p3 n c3] w fun e w' => RowBack w w' e L M U R n := by
  obtain ⟨b0, o0, rfl, hb0, H0⟩ := rL.open_ (by omega)
  obtain ⟨b1, o1, rfl, hb1, H1⟩ := rM.open_ (by omega)
  obtain ⟨b2, o2, rfl, hb2, H2⟩ := rU.open_ (by omega)
  obtain ⟨b3, o3, rfl, hb3, H3⟩ := rR.open_ (by omega)
  have gl : Hid (ls.length = n) := hl
  have gm : Hid (ms.length = n) := hm
  have gu : Hid (us.length = n) := hu
  have gr : Hid (rs.length = n) := hr
  have hmk := fun w => make_f32 w n hn
  clear hl hm hu hr rL rM rU rR
  have oc0 : Ow (w.alloc (.cells #[] 38)) w.heap.size (some ⟨w.heap.size, 0, none⟩) 0 [] := Ow.empty w #[] rfl
  have oc1 := oc0.below ((Below.refl _ (w.alloc (.cells #[] 38))).alloc (Nat.le_refl _) (.cells #[] 38))
  have od1 := (Ow.empty (w.alloc (.cells #[] 38)) #[] rfl).mono (show w.heap.size ≤ (w.alloc (.cells #[] 38)).heap.size by simp)
  go_enter Try.func91, Try.ntmps91
  go_wp2
  go_loopw [11, 12, 13] (fun c d i wr => ∃ (k : Nat) (q : Option Addr) (cap : Nat) (cs : List Nat) (q2 : Option Addr) (cap2 : Nat) (ds : List Nat), k ≤ n ∧ i = .int .i64 k ∧ c = .slice q k cap ∧ d = .slice q2 k cap2 ∧ Ow wr w.heap.size q cap cs ∧ Ow wr w.heap.size q2 cap2 ds ∧ Pt k 0 k (cAt L M U R) cs ∧ Pt k 0 k (dAt L M U R) ds ∧ Apart q q2 ∧ NoZ L M U R k ∧ Below w.heap.size w wr) (fun _ _ i _ => n - (intOf i).toNat)
  case atStart => exact ⟨0, _, 0, [], _, 0, [], Nat.zero_le _, rfl, rfl, rfl, oc1, by simpa using od1, Pt.empty, Pt.empty, by intro x y hx hy; cases hx; cases hy; simp, NoZ.zero _ _ _ _, ((Below.refl _ _).alloc (Nat.le_refl _) _).alloc (by simp) _⟩
  case round =>
    clear oc0 oc1 od1
    obtain ⟨k, q, cap, cs, q2, cap2, ds, hk, rfl, rfl, rfl, oc, od, pc, pd, dj, nz, hb⟩ := hrel
    by_cases hlt : k < n
    · obtain ⟨xl, vl, kl⟩ := H0.get hb0 hb (k := k) (by rw [gl.out]; exact hlt)
      obtain ⟨xm, vm, km⟩ := H1.get hb1 hb (k := k) (by rw [gm.out]; exact hlt)
      obtain ⟨xr, vr, kr⟩ := H3.get hb3 hb (k := k) (by rw [gr.out]; exact hlt)
      have z0 := Nat.lt_of_lt_of_le hb0 hb.size
      have z2 := Nat.lt_of_lt_of_le hb2 hb.size
      go_upto_if 36 with fail
      go_cut [14, 15] from 22 to 77 (fun m r wx => ∃ mb rb : Nat, m = .float .f32 mb ∧ r = .float .f32 rb ∧ Hid (vf .f32 mb = mAt L M U R k) ∧ Hid (vf .f32 rb = rAt L M U R k) ∧ Below wr.heap.size wr wx)
      case first =>
        by_cases hk0 : 0 < k
        · obtain ⟨g, rfl⟩ : ∃ g, q = some ⟨g, 0, none⟩ := by obtain ⟨g, hg, _⟩ := oc.cells (by rw [pc.len]; exact hk0); exact ⟨g, hg⟩
          obtain ⟨g2, rfl⟩ : ∃ g, q2 = some ⟨g, 0, none⟩ := by obtain ⟨g, hg, _⟩ := od.cells (by rw [pd.len]; exact hk0); exact ⟨g, hg⟩
          obtain ⟨j, hj, e1, ej⟩ := pred_of hk0 hk hn
          obtain ⟨xc, vc, kc⟩ := oc.get pc (k := j) (by omega) hj hj
          obtain ⟨xd, vd, kd⟩ := od.get pd (k := j) (by omega) hj hj
          have zg := (oc.lt _ rfl).2
          have zg2 := (od.lt _ rfl).2
          go_wp2
          refine wp_region_dem 12 (Below (wr.heap.size) wr) (fun _ _ _ => False) (by kernel_rfl) (by kernel_rfl) (Below.refl _ _).drew ?_
          simp only [List.take_succ_cons, List.take_zero, List.drop_succ_cons, List.drop_zero]
          repeat (first
            | (refine wpDem_flt rfl rfl rfl rfl rfl (fun _ n h => (below_drewN_iff _ _ _ n).2 h) (fun r hr => ?_); simp only [Act.put, List.setIfInBounds_toArray, List.set_cons_succ, List.set_cons_zero])
            | (refine wpDem_want rfl (fun K hK => ?_); intro w' hw'; obtain ⟨hc', hf'⟩ := bcellB hw'; go_simp; first | (refine hK _ ?_; clear hK K hc' hf' hw' w')))
          refine wpDem_nil ?_
          intro w2 hy2
          rename_i r0 h0
          have hmb : Hid (vf .f32 r = mAt L M U R k) := by
            have a1 := hr.out
            rw [h0.out, vm.out, vl.out, vc.out, eL.out, eM.out] at a1
            rw [Hid, mAt_succ _ _ _ _ hk0, ← ej.out]
            exact a1
          clear hr h0
          have kl2 := (hy2.cell (p := ⟨b0, o0 + k, none⟩) z0).trans kl
          have kd2 := (hy2.cell (p := ⟨g2, j, none⟩) zg2).trans kd
          have z02 := Nat.lt_of_lt_of_le z0 hy2.size
          have zg22 := Nat.lt_of_lt_of_le zg2 hy2.size
          clear kl kd kc km kr
          go_wp2
          refine wp_region_dem 12 (Below (w2.heap.size) w2) (fun _ _ _ => False) (by kernel_rfl) (by kernel_rfl) (Below.refl _ _).drew ?_
          simp only [List.take_succ_cons, List.take_zero, List.drop_succ_cons, List.drop_zero]
          repeat (first
            | (refine wpDem_flt rfl rfl rfl rfl rfl (fun _ n h => (below_drewN_iff _ _ _ n).2 h) (fun r hr => ?_); simp only [Act.put, List.setIfInBounds_toArray, List.set_cons_succ, List.set_cons_zero])
            | (refine wpDem_want rfl (fun K hK => ?_); intro w' hw'; obtain ⟨hc', hf'⟩ := bcellB hw'; go_simp; first | (refine hK _ ?_; clear hK K hc' hf' hw' w')))
          refine wpDem_nil ?_
          intro w3 hy3
          rename_i r0 h0
          have hrb : Hid (vf .f32 r = rAt L M U R k) := by
            have a1 := hr.out
            rw [h0.out, vr.out, vl.out, vd.out, eL.out, eR.out] at a1
            rw [Hid, rAt_succ _ _ _ _ hk0, ← ej.out]
            exact a1
          clear hr h0
          go_wp2
          go_meet
          exact ⟨_, _, rfl, rfl, hmb, hrb, hy2.trans (hy3.mono hy2.size)⟩
        · obtain rfl : k = 0 := by omega
          go_wp2
          go_meet
          exact ⟨_, _, rfl, rfl, by rw [Hid, vm.out, eM.out]; rfl, by rw [Hid, vr.out, eR.out]; rfl, Below.refl _ _⟩
      case rest =>
        obtain ⟨mb, rb, rfl, rfl, hmb, hrb, hbc⟩ := hcut
        have hb9 := hb.trans (hbc.mono hb.size)
        have oc9 := oc.below hbc
        have od9 := od.below hbc
        have hzz := eq_isz hmb.out
        cases hz : isz (mAt L M U R k)
        · rw [hz] at hzz
          obtain ⟨xu, vu, ku⟩ := H2.get hb2 hb9 (k := k) (by rw [gu.out]; exact hlt)
          go_upto_region 15 with (first
            | (refine wpList_flt rfl rfl rfl rfl rfl (fun r1 n1 hr1 => ?_))
            | (at_builtin; refine wpList_app1 rfl rfl rfl rfl rfl (oc9.drewN _) pc.len.symm (by have := pc.len; omega) (by simpa using hb9.size) (fun p' cap' w4 oc' hg' hp' => ?_)))
          have od' := od9.gb (gb_drewN hg') (sep_of' dj)
          have hb4 := hb9.trans (below_of_gb (gb_drewN hg') (fun a ha => (oc9.lt a ha).1) hb9.size)
          have pc' := pc.app (r := r1) (by have := hr1.out; rw [hmb.out, vu.out, eU.out] at this; rw [cAt_eq]; exact this)
          have la := oc9.lt
          have lb := od9.lt
          have lc := oc'.lt
          have hp2 : ∀ a, p' = some a → q = some a ∨ wc.heap.size ≤ a.block := by simpa using hp'
          clear hr1 hp' hg' ku vu hzz
          go_wp2_with (first
            | (refine wpList_flt rfl rfl rfl rfl rfl (fun r2 n2 hr2 => ?_))
            | (at_builtin; refine wpList_app1 rfl rfl rfl rfl rfl (od'.drewN _) pd.len.symm (by have := pd.len; omega) (by simpa using hb4.size) (fun p5 cap5 w5 od5 hg5 hp5 => ?_)))
          have hdj : Apart p' q2 := by
            intro x y hx hy
            rcases hp2 x hx with h5 | h5
            · exact dj x y h5 hy
            · have := (lb y hy).2
              omega
          have oc5 := oc'.gb (gb_drewN hg5) (sep_of hdj)
          go_roundw
          case rel =>
            refine ⟨k + 1, _, _, _, _, _, _, by omega, by go_num, rfl, rfl, oc5, od5, pc', pd.app ?_, ?_, nz.succ hz, hb4.trans (below_of_gb (gb_drewN hg5) (fun a ha => (od'.lt a ha).1) hb4.size)⟩
            · have := hr2.out
              rw [hmb.out, hrb.out] at this
              rw [dAt_eq]; exact this
            · intro x y hx hy
              rcases hp5 y hy with h5 | h5
              · exact hdj x y hx h5
              · have := (lc x hx).2
                simp at h5
                omega
          case measure => simp [intOf]; omega
        · rw [hz] at hzz
          go_wp2
          go_ret2
          exact RowBack.bad hb9 hlt hz
    · obtain rfl : k = n := by omega
      obtain ⟨wo, rfl⟩ : ∃ wo : World, wo = wr := ⟨_, rfl⟩
      obtain ⟨g, rfl⟩ : ∃ g, q = some ⟨g, 0, none⟩ := by obtain ⟨g, hg, _⟩ := oc.cells (by rw [pc.len]; exact h0); exact ⟨g, hg⟩
      obtain ⟨g2, rfl⟩ : ∃ g, q2 = some ⟨g, 0, none⟩ := by obtain ⟨g, hg, _⟩ := od.cells (by rw [pd.len]; exact h0); exact ⟨g, hg⟩
      have zg := (oc.lt _ rfl).2
      have zg2 := (od.lt _ rfl).2
      have hal : Below wo.heap.size wo (wo.alloc (.cells (madeCells #[.float .f32 0] k) 38)) := (Below.refl _ _).alloc (Nat.le_refl _) _
      have ox := Ow.made wo k (by unfold maxLen; omega)
      go_wp2
      clear hmk
      go_loopw [17] (fun i w2 => ∃ (m : Nat) (iv : Int) (xs : List Nat), m ≤ k ∧ i = .int .i64 iv ∧ Hid (iv = (m : Int) - 1) ∧ Ow w2 wo.heap.size (some ⟨wo.heap.size, 0, none⟩) k xs ∧ Pt k m k (xAt L M U R k) xs ∧ Below wo.heap.size wo w2) (fun i _ => (intOf i + 1).toNat)
      case atStart => exact ⟨k, _, _, Nat.le_refl _, rfl, rfl, ox, Pt.none (by simp) (Nat.le_refl _), hal⟩
      case round =>
        clear ox hal
        obtain ⟨m, iv, xs, hm, rfl, hiv, ox, px, hy⟩ := hrel
        by_cases hm0 : m = 0
        · obtain rfl : iv = -1 := by have := hiv.out; omega
          go_wp2
          go_ret2
          subst hm0
          exact RowBack.good nz (ox.mono hb.size) px hn (hb.trans (hy.mono hb.size))
        · obtain ⟨i, rfl⟩ : ∃ i, m = i + 1 := ⟨m - 1, by omega⟩
          obtain rfl : iv = (i : Int) := by have := hiv.out; omega
          have hik : i < k := by omega
          obtain ⟨xd, vd, kd⟩ := (od.below hy).get pd (k := i) (by omega) hik hik
          obtain ⟨xc, vc, kc⟩ := (oc.below hy).get pc (k := i) (by omega) hik hik
          obtain ⟨⟨x0, kx⟩, fx⟩ := ox.slot (k := i) (by rw [px.len]; exact hik)
          have zx := (ox.lt _ rfl).2
          by_cases hlast : i + 1 < k
          · obtain ⟨i1, hi1, e1, ei1⟩ := succ_of hlast hn
            have hne : wo.heap.size ≠ g2 := by omega
            have hne' : wo.heap.size ≠ g := by omega
            have os := ox.set (i := i) (by rw [px.len]; exact hik) xd
            have hws : Below wo.heap.size wo (wr.setCell ⟨wo.heap.size, i, none⟩ (.float .f32 xd)) := hy.setCell (Nat.le_refl _) _
            have ps := px.keep (Nat.le_refl _) (k := i) (Or.inl (by omega)) xd
            obtain ⟨ws, hw⟩ : ∃ ws, ws = wr.setCell ⟨wo.heap.size, i, none⟩ (.float .f32 xd) := ⟨_, rfl⟩
            rw [← hw] at os hws
            obtain ⟨xd', vd', kd'⟩ := (od.below hws).get pd (k := i) (by omega) hik hik
            obtain ⟨xc', vc', kc'⟩ := (oc.below hws).get pc (k := i) (by omega) hik hik
            obtain ⟨y', vy', ky'⟩ := os.get ps (k := i1) (by have := ei1.out; omega) hi1 hi1
            have z1 : g2 < ws.heap.size := Nat.lt_of_lt_of_le zg2 hws.size
            have z2 : g < ws.heap.size := Nat.lt_of_lt_of_le zg hws.size
            have z3 := (os.lt _ rfl).2
            go_upto_region 22 with fail
            rw [← hw]
            have hwH : Hid (ws = wr.setCell ⟨wo.heap.size, i, none⟩ (.float .f32 xd)) := hw
            clear hw kd kc kx fx vd vc hne hne'
            refine wp_region_dem 17 (Below (ws.heap.size) ws) (fun _ _ _ => False) (by kernel_rfl) (by kernel_rfl) (Below.refl _ _).drew ?_
            simp only [List.take_succ_cons, List.take_zero, List.drop_succ_cons, List.drop_zero]
            repeat (first
              | (refine wpDem_flt rfl rfl rfl rfl rfl (fun _ n h => (below_drewN_iff _ _ _ n).2 h) (fun r hr => ?_); simp only [Act.put, List.setIfInBounds_toArray, List.set_cons_succ, List.set_cons_zero])
              | (refine wpDem_want rfl (fun K hK => ?_); intro w' hw'; obtain ⟨hc', hf'⟩ := bcellB hw'; go_simp; first | (refine hK _ ?_; clear hK K hc' hf' hw' w')))
            refine wpDem_nil ?_
            intro w5 hy5
            rename_i r0 h0'
            have o5 := os.below hy5
            obtain ⟨⟨x5, k5⟩, f5⟩ := o5.slot (k := i) (by rw [ps.len]; exact hik)
            have z5 := Nat.lt_of_lt_of_le z3 hy5.size
            go_wp2
            go_roundw
            case rel =>
              refine ⟨i, _, _, by omega, rfl, rfl, o5.set (by rw [ps.len]; exact hik) r, ps.down (Nat.le_refl _) ?_, (hws.trans (hy5.mono hws.size)).setCell (Nat.le_refl _) _⟩
              have a1 := hr.out
              rw [h0'.out, vd'.out, vc'.out, vy'.out, ei1.out, ← xAt_step _ _ _ _ hlast] at a1
              exact a1
            case measure => simp [intOf]
          · have hl2 : i + 1 = k := by omega
            have e1 : (decide ((i : Int) < (k : Int) - 1)) = false := by simp; omega
            go_wp2
            go_roundw
            case rel =>
              refine ⟨i, _, _, by omega, rfl, rfl, ox.set (by rw [px.len]; exact hik) xd, px.down (Nat.le_refl _) ?_, hy.setCell (Nat.le_refl _) _⟩
              rw [xAt_last _ _ _ _ hl2]
              exact vd.out
            case measure => simp [intOf]

theorem get_ne {g g2 : Nat} (h : g ≠ g2) : ∀ b o s, (some (⟨g, 0, none⟩ : Addr)) = some ⟨b, o, s⟩ → b ≠ g2 := by
  intro b o s e
  cases e
  exact h

set_option maxHeartbeats 2000000 in
set_option maxRecDepth 100000 in
theorem solveRow_in (p0 p1 p2 p3 : Option Addr) (c0 c1 c2 c3 : Nat) (ls ms us rs : List Nat) (n : Nat) (L M U R : List (Option Nat)) (h0 : 0 < n) (h256 : n ≤ 256) (hl : ls.length = n) (hm : ms.length = n) (hu : us.length = n) (hr : rs.length = n)
    (eL : Hid (ls.map (vf .f32) = L)) (eM : Hid (ms.map (vf .f32) = M)) (eU : Hid (us.map (vf .f32) = U)) (eR : Hid (rs.map (vf .f32) = R)) (w : World) (rL : Rd w p0 ls) (rM : Rd w p1 ms) (rU : Rd w p2 us) (rR : Rd w p3 rs) :
    Calls Try.prog 93 #[.slice p0 n c0, .slice p1 n c1, .slice p2 n c2, .slice p3 n c3] w fun e w' => RowBack w w' e L M U R n := by
  obtain ⟨b0, o0, rfl, hb0, H0⟩ := rL.open_ (by omega)
  obtain ⟨b1, o1, rfl, hb1, H1⟩ := rM.open_ (by omega)
  obtain ⟨b2, o2, rfl, hb2, H2⟩ := rU.open_ (by omega)
  obtain ⟨b3, o3, rfl, hb3, H3⟩ := rR.open_ (by omega)
  have gl : Hid (ls.length = n) := hl
  have gm : Hid (ms.length = n) := hm
  have gu : Hid (us.length = n) := hu
  have gr : Hid (rs.length = n) := hr
  have hn : n ≤ 1048576 := by omega
  have hin : inB (n : Int) 1 256 = true := by simp [inB]; omega
  clear hl hm hu hr rL rM rU rR
  have oA := (Ow.made w n (by unfold maxLen; omega)).below ((Below.refl _ (w.alloc (.cells (madeCells #[.float .f32 0] n) 38))).alloc (Nat.le_refl _) (.cells (madeCells #[.float .f32 0] n) 38))
  have oB := (Ow.made (w.alloc (.cells (madeCells #[.float .f32 0] n) 38)) n (by unfold maxLen; omega)).mono (show w.heap.size ≤ (w.alloc (.cells (madeCells #[.float .f32 0] n) 38)).heap.size by simp)
  replace oB : Ow ((w.alloc (.cells (madeCells #[.float .f32 0] n) 38)).alloc (.cells (madeCells #[.float .f32 0] n) 38)) w.heap.size (some ⟨w.heap.size + 1, 0, none⟩) n (List.replicate n 0) := by simpa using oB
  have hbAB : Below w.heap.size w ((w.alloc (.cells (madeCells #[.float .f32 0] n) 38)).alloc (.cells (madeCells #[.float .f32 0] n) 38)) := ((Below.refl _ _).alloc (Nat.le_refl _) _).alloc (by simp) _
  have hmk := fun w => make_f32 w n hn
  go_enter Try.func93, Try.ntmps93
  go_upto_region 4 with (go_at_call 67; refine (within_any _ _ _ _).mono ?_; rintro e w' ⟨rfl, rfl⟩)
  go_cut [11, 12] from 40 to 43 (fun c d wx => ∃ g g2 : Nat, c = .slice (some ⟨g, 0, none⟩) n n ∧ d = .slice (some ⟨g2, 0, none⟩) n n ∧ Ow wx w.heap.size (some ⟨g, 0, none⟩) n (List.replicate n 0) ∧ Ow wx w.heap.size (some ⟨g2, 0, none⟩) n (List.replicate n 0) ∧ g ≠ g2 ∧ Below w.heap.size w wx)
  case first =>
    go_region
    all_goals
      go_wp2
      go_meet
      first
        | exact ⟨w.heap.size, w.heap.size + 1, rfl, rfl, oA, oB, by simp, hbAB.drew⟩
        | exact ⟨w.heap.size + 1, w.heap.size, rfl, rfl, oB, oA, by simp, hbAB.drew⟩
  case rest =>
    obtain ⟨g, g2, rfl, rfl, oc, od, hgg, hb⟩ := hcut
    clear oA oB hbAB hmk hin
    go_wp2
    go_loopw [45] (fun i wr => ∃ (k : Nat) (cs ds : List Nat), k ≤ n ∧ i = .int .i64 k ∧ Ow wr w.heap.size (some ⟨g, 0, none⟩) n cs ∧ Ow wr w.heap.size (some ⟨g2, 0, none⟩) n ds ∧ Pt n 0 k (cAt L M U R) cs ∧ Pt n 0 k (dAt L M U R) ds ∧ NoZ L M U R k ∧ Below w.heap.size w wr) (fun i _ => n - (intOf i).toNat)
    case atStart => exact ⟨0, _, _, Nat.zero_le _, rfl, oc, od, Pt.none (by simp) (Nat.le_refl _), Pt.none (by simp) (Nat.le_refl _), NoZ.zero _ _ _ _, hb⟩
    case round =>
      clear oc od hb
      obtain ⟨k, cs, ds, hk, rfl, oc, od, pc, pd, nz, hb⟩ := hrel
      by_cases hlt : k < n
      · obtain ⟨xl, vl, kl⟩ := H0.get hb0 hb (k := k) (by rw [gl.out]; exact hlt)
        obtain ⟨xm, vm, km⟩ := H1.get hb1 hb (k := k) (by rw [gm.out]; exact hlt)
        obtain ⟨xr, vr, kr⟩ := H3.get hb3 hb (k := k) (by rw [gr.out]; exact hlt)
        have z0 := Nat.lt_of_lt_of_le hb0 hb.size
        have z1 := Nat.lt_of_lt_of_le hb1 hb.size
        have z3 := Nat.lt_of_lt_of_le hb3 hb.size
        have zg := (oc.lt _ rfl).2
        have zg2 := (od.lt _ rfl).2
        go_upto_region 8 with fail
        go_cut [14, 15] from 46 to 99 (fun m r wx => m = .float .f32 xm ∧ r = .float .f32 xr ∧ Below wr.heap.size wr wx)
        case first =>
          go_quiet (fail)
          go_wp2
          go_meet
          exact ⟨rfl, rfl, by simpa using Below.refl wr.heap.size wr⟩
        obtain ⟨rfl, rfl, hy1⟩ := hcut
        obtain ⟨w1, rfl⟩ : ∃ w1 : World, w1 = wc := ⟨_, rfl⟩
        have kl1 := (hy1.cell (p := ⟨b0, o0 + k, none⟩) z0).trans kl
        have z01 := Nat.lt_of_lt_of_le z0 hy1.size
        have oc1 := oc.below hy1
        have od1 := od.below hy1
        have zg1 := (oc1.lt _ rfl).2
        have zg21 := (od1.lt _ rfl).2
        clear kl km kr z0 z1 z3 zg zg2
        go_upto_if 57 with fail
        go_cut [14, 15] from 46 to 99 (fun m r wx => ∃ mb rb : Nat, m = .float .f32 mb ∧ r = .float .f32 rb ∧ Hid (vf .f32 mb = mAt L M U R k) ∧ Hid (vf .f32 rb = rAt L M U R k) ∧ Below w1.heap.size w1 wx)
        case first =>
          by_cases hk0 : 0 < k
          · obtain ⟨j, hj, e1, ej⟩ := pred_of hk0 hk hn
            obtain ⟨xc, vc, kc⟩ := oc1.get pc (k := j) (by omega) hj (by omega)
            obtain ⟨xd, vd, kd⟩ := od1.get pd (k := j) (by omega) hj (by omega)
            have hjn : j < n := by omega
            go_wp2
            refine wp_region_dem 12 (Below (w1.heap.size) w1) (fun _ _ _ => False) (by kernel_rfl) (by kernel_rfl) (Below.refl _ _).drew ?_
            simp only [List.take_succ_cons, List.take_zero, List.drop_succ_cons, List.drop_zero]
            repeat (first
              | (refine wpDem_flt rfl rfl rfl rfl rfl (fun _ n h => (below_drewN_iff _ _ _ n).2 h) (fun r hr => ?_); simp only [Act.put, List.setIfInBounds_toArray, List.set_cons_succ, List.set_cons_zero])
              | (refine wpDem_want rfl (fun K hK => ?_); intro w' hw'; obtain ⟨hc', hf'⟩ := bcellB hw'; go_simp; first | (refine hK _ ?_; clear hK K hc' hf' hw' w')))
            refine wpDem_nil ?_
            intro w2 hy2
            rename_i r0 h0
            have hmb : Hid (vf .f32 r = mAt L M U R k) := by
              have a1 := hr.out
              rw [h0.out, vm.out, vl.out, vc.out, eL.out, eM.out] at a1
              rw [Hid, mAt_succ _ _ _ _ hk0, ← ej.out]
              exact a1
            clear hr h0
            have kl2 := (hy2.cell (p := ⟨b0, o0 + k, none⟩) z01).trans kl1
            have kd2 := (hy2.cell (p := ⟨g2, j, none⟩) zg21).trans kd
            have z02 := Nat.lt_of_lt_of_le z01 hy2.size
            have zg22 := Nat.lt_of_lt_of_le zg21 hy2.size
            clear kl1 kd kc
            go_wp2
            refine wp_region_dem 12 (Below (w2.heap.size) w2) (fun _ _ _ => False) (by kernel_rfl) (by kernel_rfl) (Below.refl _ _).drew ?_
            simp only [List.take_succ_cons, List.take_zero, List.drop_succ_cons, List.drop_zero]
            repeat (first
              | (refine wpDem_flt rfl rfl rfl rfl rfl (fun _ n h => (below_drewN_iff _ _ _ n).2 h) (fun r hr => ?_); simp only [Act.put, List.setIfInBounds_toArray, List.set_cons_succ, List.set_cons_zero])
              | (refine wpDem_want rfl (fun K hK => ?_); intro w' hw'; obtain ⟨hc', hf'⟩ := bcellB hw'; go_simp; first | (refine hK _ ?_; clear hK K hc' hf' hw' w')))
            refine wpDem_nil ?_
            intro w3 hy3
            rename_i r0 h0
            have hrb : Hid (vf .f32 r = rAt L M U R k) := by
              have a1 := hr.out
              rw [h0.out, vr.out, vl.out, vd.out, eL.out, eR.out] at a1
              rw [Hid, rAt_succ _ _ _ _ hk0, ← ej.out]
              exact a1
            clear hr h0
            go_wp2
            go_meet
            exact ⟨_, _, rfl, rfl, hmb, hrb, hy2.trans (hy3.mono hy2.size)⟩
          · obtain rfl : k = 0 := by omega
            go_wp2
            go_meet
            exact ⟨_, _, rfl, rfl, by rw [Hid, vm.out, eM.out]; rfl, by rw [Hid, vr.out, eR.out]; rfl, Below.refl _ _⟩
        case rest =>
          obtain ⟨mb, rb, rfl, rfl, hmb, hrb, hbc⟩ := hcut
          have hb9 := (hb.trans (hy1.mono hb.size)).trans (hbc.mono (Nat.le_trans hb.size hy1.size))
          have oc9 := oc1.below hbc
          have od9 := od1.below hbc
          have hzz := eq_isz hmb.out
          have kl9 : k < cs.length := by rw [pc.len]; exact hlt
          have kd9 : k < ds.length := by rw [pd.len]; exact hlt
          cases hz : isz (mAt L M U R k)
          · rw [hz] at hzz
            obtain ⟨xu, vu, ku⟩ := H2.get hb2 hb9 (k := k) (by rw [gu.out]; exact hlt)
            obtain ⟨⟨x5, k5⟩, f5⟩ := oc9.slot (k := k) (by rw [pc.len]; exact hlt)
            obtain ⟨⟨x6, k6⟩, f6⟩ := od9.slot (k := k) (by rw [pd.len]; exact hlt)
            have hgg' := Ne.symm hgg
            clear kl1
            go_wp2_with (refine wpList_flt rfl rfl rfl rfl rfl (fun r2 n2 hr2 => ?_))
            rename_i r1 n1 hr1
            have ec : vf .f32 r1 = cAt L M U R k := by
              have := hr1.out
              rw [hmb.out, vu.out, eU.out] at this
              rw [cAt_eq]; exact this
            have ed : vf .f32 r2 = dAt L M U R k := by
              have := hr2.out
              rw [hmb.out, hrb.out] at this
              rw [dAt_eq]; exact this
            have ocF := (((oc9.drewN n1).drewN n2).set kl9 r1).set_other (g := g2) (i := k) (get_ne hgg) (.float .f32 r2)
            have odF := (((od9.drewN n1).drewN n2).set_other (g := g) (i := k) (get_ne hgg') (.float .f32 r1)).set kd9 r2
            have hbF := ((below_drewN (below_drewN hb9 n1) n2).setCell (p := ⟨g, k, none⟩) (oc9.lt _ rfl).1 (.float .f32 r1)).setCell (p := ⟨g2, k, none⟩) (od9.lt _ rfl).1 (.float .f32 r2)
            have hec : Hid (vf .f32 r1 = cAt L M U R k) := ec
            have hed : Hid (vf .f32 r2 = dAt L M U R k) := ed
            clear hr1 hr2 ec ed
            go_roundw
            case rel => exact ⟨k + 1, _, _, by omega, by go_num, by simpa using ocF, by simpa using odF, pc.up hlt hec.out, pd.up hlt hed.out, nz.succ hz, by simpa using hbF⟩
            case measure => simp [intOf]; omega
          · rw [hz] at hzz
            go_wp2
            go_ret2
            exact RowBack.bad hb9 hlt hz
      · obtain rfl : k = n := by omega
        have e2 : IntKind.i64.wrap ((k : Int) - 2) = (k : Int) - 2 := IntWalk.i64_in _ (by omega)
        go_wp2
        go_loopw [16] (fun i w2 => ∃ (m : Nat) (iv : Int) (xs : List Nat), m + 1 ≤ k ∧ i = .int .i64 iv ∧ Hid (iv = (m : Int) - 1) ∧ Ow w2 w.heap.size (some ⟨g, 0, none⟩) k cs ∧ Ow w2 w.heap.size (some ⟨g2, 0, none⟩) k xs ∧ Pt k m k (xAt L M U R k) xs ∧ Pt k 0 m (dAt L M U R) xs ∧ Below w.heap.size w w2) (fun i _ => (intOf i + 1).toNat)
        case atStart => exact ⟨k - 1, _, ds, by omega, rfl, by show _ = _; omega, oc, od, ⟨pd.len, fun j h1 h2 => by rw [pd.2 j (by omega) h2, xAt_last _ _ _ _ (by omega)]⟩, pd.mono (Nat.le_refl _) (by omega), hb⟩
        case round =>
          clear oc od hb
          obtain ⟨m, iv, xs, hm, rfl, hiv, oc, od, px, py, hb⟩ := hrel
          by_cases hm0 : m = 0
          · obtain rfl : iv = -1 := by have := hiv.out; omega
            go_wp2
            go_ret2
            subst hm0
            exact RowBack.good nz od px hn hb
          · obtain ⟨i, rfl⟩ : ∃ i, m = i + 1 := ⟨m - 1, by omega⟩
            obtain rfl : iv = (i : Int) := by have := hiv.out; omega
            have hik : i < k := by omega
            obtain ⟨i1, hi1, e1, ei1⟩ := succ_of (i := i) (n := k) (by omega) hn
            obtain ⟨xd, vd, kd⟩ := od.get py (k := i) (by omega) (by omega) hik
            obtain ⟨xc, vc, kc⟩ := oc.get pc (k := i) (by omega) hik hik
            obtain ⟨x1, v1, k1⟩ := od.get px (k := i1) (by have := ei1.out; omega) hi1 hi1
            have zg := (oc.lt _ rfl).2
            have zg2 := (od.lt _ rfl).2
            go_wp2
            refine wp_region_dem 15 (Below (wr.heap.size) wr) (fun _ _ _ => False) (by kernel_rfl) (by kernel_rfl) (Below.refl _ _).drew ?_
            simp only [List.take_succ_cons, List.take_zero, List.drop_succ_cons, List.drop_zero]
            repeat (first
              | (refine wpDem_flt rfl rfl rfl rfl rfl (fun _ n h => (below_drewN_iff _ _ _ n).2 h) (fun r hr => ?_); simp only [Act.put, List.setIfInBounds_toArray, List.set_cons_succ, List.set_cons_zero])
              | (refine wpDem_want rfl (fun K hK => ?_); intro w' hw'; obtain ⟨hc', hf'⟩ := bcellB hw'; go_simp; first | (refine hK _ ?_; clear hK K hc' hf' hw' w')))
            refine wpDem_nil ?_
            intro w5 hy5
            rename_i r0 h0'
            have o5 := od.below hy5
            obtain ⟨⟨x5, k5⟩, f5⟩ := o5.slot (k := i) (by rw [px.len]; exact hik)
            have z5 := Nat.lt_of_lt_of_le zg2 hy5.size
            clear kd kc k1
            go_wp2
            go_roundw
            case rel =>
              refine ⟨i, _, _, by omega, rfl, rfl, (oc.below hy5).set_other (get_ne hgg) _, o5.set (by rw [px.len]; exact hik) r, px.down (Nat.le_refl _) ?_, (py.mono (Nat.le_refl _) (Nat.le_succ i)).keep (by omega) (Or.inr (Nat.le_refl _)) r, (hb.trans (hy5.mono hb.size)).setCell (p := ⟨g2, i, none⟩) (od.lt _ rfl).1 _⟩
              have a1 := hr.out
              rw [h0'.out, vd.out, vc.out, v1.out, ei1.out, ← xAt_step _ _ _ _ (by omega)] at a1
              exact a1
            case measure => simp [intOf]
end Go.Proofs.Ytdafcgimkiepnaa.Row
