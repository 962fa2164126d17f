/-
  Equations around a ring: contracts of the reference's and of the program's.
  Conditions: none.
-/
import Derived.Test.YtdafcgimkiepnaaRow
import Derived.Test.YtdafcgimkiepnaaRep
namespace Go.Proofs.Ytdafcgimkiepnaa.Ring
open Go Go.RowKit Go.Proofs.Ytdafcgimkiepnaa.Fl Go.Proofs.Ytdafcgimkiepnaa.Reg Go.Proofs.Ytdafcgimkiepnaa.Step Go.Proofs.Ytdafcgimkiepnaa.Mem Go.Proofs.Ytdafcgimkiepnaa.Help Go.Proofs.Ytdafcgimkiepnaa.Grid Go.Proofs.Ytdafcgimkiepnaa.App Go.Proofs.Ytdafcgimkiepnaa.Level Go.Proofs.Ytdafcgimkiepnaa.Law Go.Proofs.Ytdafcgimkiepnaa.Row Go.Proofs.Ytdafcgimkiepnaa.Rep

def sideL (n : Nat) : List Nat := List.replicate n 3212836864
def midL (n : Nat) : List Nat := ((List.replicate n 1082130432).set 0 1090519040).set (n - 1) 1082654720
def othL (n : Nat) : List Nat := ((List.replicate n 0).set 0 3229614080).set (n - 1) 3212836864
@[simp] theorem length_sideL (n : Nat) : (sideL n).length = n := by simp [sideL]
@[simp] theorem length_midL (n : Nat) : (midL n).length = n := by simp [midL]
@[simp] theorem length_othL (n : Nat) : (othL n).length = n := by simp [othL]
def vs (xs : List Nat) : List (Option Nat) := xs.map (vf .f32)

theorem side_at {n k : Nat} (h : k < n) : (vs (sideL n)).getD k none = some 3212836864 := by
  have e : vf .f32 3212836864 = some 3212836864 := by decide
  simp [vs, sideL, List.getD, h, e]
theorem mid_at {n k : Nat} (h : k < n) : (vs (midL n)).getD k none = if k = n - 1 then some 1082654720 else if k = 0 then some 1090519040 else some 1082130432 := by
  have e1 : vf .f32 1082130432 = some 1082130432 := by decide
  have e2 : vf .f32 1090519040 = some 1090519040 := by decide
  have e3 : vf .f32 1082654720 = some 1082654720 := by decide
  have hl : ((List.replicate n 1082130432).set 0 1090519040).length = n := by simp
  unfold vs midL
  rw [set_getD (by rw [hl]; exact h), e3]
  split
  · rfl
  · rw [set_getD (by simpa using h), e2]
    split
    · rfl
    · simp [List.getD, h, e1]

def cSet : List (Option Nat) := [some 3187671040, some 3196330248, some 3196638173, some 3196660218, some 3196661800, some 3196661914, some 3196661922, some 3196661923]
theorem c_step : cSet.all (fun c => cSet.contains (fop .quo .f32 (some 3212836864) (fop .sub .f32 (some 1082130432) (fop .mul .f32 (some 3212836864) c))) && (!isz (fop .sub .f32 (some 1082130432) (fop .mul .f32 (some 3212836864) c)) && !isz (fop .sub .f32 (some 1082654720) (fop .mul .f32 (some 3212836864) c)))) = true := by decide +kernel
theorem c_zero : cSet.contains (fop .quo .f32 (some 3212836864) (some 1090519040)) = true ∧ isz (some 1090519040) = false := by decide +kernel
theorem c_all {c : Option Nat} (h : c ∈ cSet) : fop .quo .f32 (some 3212836864) (fop .sub .f32 (some 1082130432) (fop .mul .f32 (some 3212836864) c)) ∈ cSet ∧ isz (fop .sub .f32 (some 1082130432) (fop .mul .f32 (some 3212836864) c)) = false ∧ isz (fop .sub .f32 (some 1082654720) (fop .mul .f32 (some 3212836864) c)) = false := by
  have := List.all_eq_true.1 c_step c h
  simpa using this

theorem c_in (n : Nat) (R : List (Option Nat)) : ∀ k, k + 1 < n → cAt (vs (sideL n)) (vs (midL n)) (vs (sideL n)) R k ∈ cSet ∧ isz (mAt (vs (sideL n)) (vs (midL n)) (vs (sideL n)) R k) = false := by
  intro k
  induction k with
  | zero =>
    intro hk
    rw [cAt_eq, side_at (by omega)]
    have e : mAt (vs (sideL n)) (vs (midL n)) (vs (sideL n)) R 0 = some 1090519040 := by
      show (vs (midL n)).getD 0 none = _
      rw [mid_at (by omega), if_neg (by omega), if_pos rfl]
    rw [e]
    have := c_zero
    exact ⟨by simpa using this.1, this.2⟩
  | succ k ih =>
    intro hk
    obtain ⟨h1, _⟩ := ih (by omega)
    obtain ⟨a1, a2, _⟩ := c_all h1
    rw [cAt_eq, mAt_succ _ _ _ _ (Nat.succ_pos k), side_at (by omega), mid_at (by omega), if_neg (by omega), if_neg (by omega)]
    exact ⟨a1, a2⟩
theorem noz {n : Nat} (hn : 3 ≤ n) (R : List (Option Nat)) : NoZ (vs (sideL n)) (vs (midL n)) (vs (sideL n)) R n := by
  intro j hj
  by_cases h : j + 1 < n
  · exact (c_in n R j h).2
  · obtain ⟨h1, _⟩ := c_in n R (j - 1) (by omega)
    obtain ⟨_, _, a3⟩ := c_all h1
    rw [mAt_succ _ _ _ _ (by omega), side_at hj, mid_at hj, if_pos (by omega)]
    exact a3

def xR (n : Nat) (R : List (Option Nat)) (k : Nat) : Option Nat := xAt (vs (sideL n)) (vs (midL n)) (vs (sideL n)) R n k
def facR (n : Nat) (R : List (Option Nat)) : Option Nat :=
  fop .quo .f32 (fop .add .f32 (xR n R 0) (fop .mul .f32 (some 1048576000) (xR n R (n - 1)))) (fop .add .f32 (fop .add .f32 (some 1065353216) (xR n (vs (othL n)) 0)) (fop .mul .f32 (some 1048576000) (xR n (vs (othL n)) (n - 1))))
def ringAt (n : Nat) (R : List (Option Nat)) (k : Nat) : Option Nat := fop .sub .f32 (xR n R k) (fop .mul .f32 (facR n R) (xR n (vs (othL n)) k))
def ringF (n : Nat) (R : List (Option Nat)) : List (Option Nat) := (List.range n).map (ringAt n R)
theorem vf_q : vf .f32 1048576000 = some 1048576000 := by decide
theorem vf_one : vf .f32 1065353216 = some 1065353216 := by decide

theorem RowBack.ok {w w' : World} {e : Ending} {L M U R : List (Option Nat)} {n : Nat} (h : RowBack w w' e L M U R n) (hz : NoZ L M U R n) :
    ∃ q cap xs, e = .returned (.tuple #[.slice q n cap, .bool true]) ∧ Ow w' w.heap.size q cap xs ∧ Pt n 0 n (xAt L M U R n) xs ∧ Below w.heap.size w w' := by
  unfold RowBack at h
  rw [rowOk_true hz, if_pos rfl] at h
  obtain ⟨q, cap, rs', rfl, ho, hv, hn, hb⟩ := h
  have hp := Pt.of_map (hv.trans rfl : rs'.map (vf .f32) = (List.range n).map (xAt L M U R n))
  exact ⟨q, cap, rs', by rw [hp.len], ho, hp, hb⟩
theorem mid_set (n j : Nat) (h : j = n - 1) : ((List.replicate n 1082130432).set 0 1090519040).set j 1082654720 = midL n := by rw [h]; rfl
theorem oth_set (n j : Nat) (h : j = n - 1) : ((List.replicate n 0).set 0 3229614080).set j 3212836864 = othL n := by rw [h]; rfl

set_option maxHeartbeats 4000000 in
set_option maxRecDepth 100000 in
theorem l03Ring_any (p : Option Addr) (c : Nat) (rs : List Nat) (n : Nat) (R : List (Option Nat)) (h3 : 3 ≤ n) (hn : n ≤ 1048576) (hl : rs.length = n) (eR : Hid (rs.map (vf .f32) = R)) (w : World) (rR : Rd w p rs) :
    Calls Try.prog 77 #[.slice p n c] w fun e w' => Back w w' e n (ringF n R) := by
  have gl : Hid (rs.length = n) := hl
  clear hl
  have hmk := fun w => make_f32 w n hn
  have o1 := (Ow.empty w #[] rfl).below ((Below.refl _ _).alloc (Nat.le_refl _) (.cells #[] 38))
  have o1 := o1.below ((Below.refl _ _).alloc (Nat.le_refl _) (.cells (madeCells #[.float .f32 0] n) 38))
  have o2 := ((Ow.empty (w.alloc (.cells #[] 38)) #[] rfl).below ((Below.refl _ _).alloc (Nat.le_refl _) (.cells (madeCells #[.float .f32 0] n) 38))).mono (show w.heap.size ≤ (w.alloc (.cells #[] 38)).heap.size by simp)
  have o3 := (Ow.made ((w.alloc (.cells #[] 38)).alloc (.cells #[] 38)) n (by unfold maxLen; omega)).mono (show w.heap.size ≤ ((w.alloc (.cells #[] 38)).alloc (.cells #[] 38)).heap.size by simp; omega)
  have hb0 : Below w.heap.size w (((w.alloc (.cells #[] 38)).alloc (.cells #[] 38)).alloc (.cells (madeCells #[.float .f32 0] n) 38)) := (((Below.refl _ _).alloc (Nat.le_refl _) _).alloc (by simp) _).alloc (by simp; omega) _
  go_enter Try.func77, Try.ntmps77
  go_wp2
  clear hmk
  go_loopw [4, 5, 7] (fun c d i wr => ∃ (k : Nat) (q : Option Addr) (cap : Nat) (q2 : Option Addr) (cap2 : Nat), k ≤ n ∧ i = .int .i64 k ∧ c = .slice q k cap ∧ d = .slice q2 k cap2 ∧ Ow wr w.heap.size q cap (List.replicate k 3212836864) ∧ Ow wr w.heap.size q2 cap2 (List.replicate k 1082130432) ∧ Ow wr w.heap.size (some ⟨w.heap.size + 2, 0, none⟩) n (List.replicate n 0) ∧ Apart q q2 ∧ Apart q (some ⟨w.heap.size + 2, 0, none⟩) ∧ Apart q2 (some ⟨w.heap.size + 2, 0, none⟩) ∧ Below w.heap.size w wr) (fun _ _ i _ => n - (intOf i).toNat)
  case atStart => exact ⟨0, _, 0, _, 0, Nat.zero_le _, rfl, rfl, rfl, o1, by simpa using o2, by simpa using o3, by intro x y hx hy; cases hx; cases hy; simp, by intro x y hx hy; cases hx; cases hy; simp, by intro x y hx hy; cases hx; cases hy; simp, hb0⟩
  case round =>
    clear o1 o2 o3 hb0
    obtain ⟨k, q, cap, q2, cap2, hk, rfl, rfl, rfl, o1, o2, o3, d1, d2, d3, hb⟩ := hrel
    by_cases hlt : k < n
    · have l1 := o1.lt
      have l2 := o2.lt
      have l3 : w.heap.size + 2 < wr.heap.size := (o3.lt _ rfl).2
      go_upto_region 9 with (at_builtin; refine wpList_app1 rfl rfl rfl rfl rfl o1 (by simp) (by simp; omega) hb.size (fun p' cap' w4 o1' hg' hp' => ?_))
      have o2' := o2.gb hg' (sep_of' d1)
      have o3' := o3.gb hg' (sep_of' d2)
      have hb4 := hb.trans (below_of_gb hg' (fun a ha => (l1 a ha).1) hb.size)
      have z4 := hg'.size
      have d1' : Apart p' q2 := by
        intro x y hx hy
        rcases hp' x hx with h5 | h5
        · exact d1 x y h5 hy
        · have := (l2 y hy).2
          omega
      have d2' : Apart p' (some ⟨w.heap.size + 2, 0, none⟩) := by
        intro x y hx hy
        rcases hp' x hx with h5 | h5
        · exact d2 x y h5 hy
        · cases hy
          show x.block ≠ w.heap.size + 2
          omega
      have l1' := o1'.lt
      clear hg' hp' o1 o2 o3
      go_wp2_with (at_builtin; refine wpList_app1 rfl rfl rfl rfl rfl o2' (by simp) (by simp; omega) hb4.size (fun p5 cap5 w5 o2'' hg5 hp5 => ?_))
      have o1'' := o1'.gb hg5 (sep_of d1')
      have o3'' := o3'.gb hg5 (sep_of' d3)
      go_roundw
      case rel =>
        refine ⟨k + 1, _, _, _, _, by omega, by go_num, rfl, rfl, by simpa [List.replicate_succ'] using o1'', by simpa [List.replicate_succ'] using o2'', o3'', ?_, d2', ?_, hb4.trans (below_of_gb hg5 (fun a ha => (l2 a ha).1) hb4.size)⟩
        · intro x y hx hy
          rcases hp5 y hy with h5 | h5
          · exact d1' x y hx h5
          · have := (l1' x hx).2
            omega
        · intro x y hx hy
          rcases hp5 x hx with h5 | h5
          · exact d3 x y h5 hy
          · cases hy
            show x.block ≠ w.heap.size + 2
            omega
      case measure => simp [intOf]; omega
    · obtain rfl : k = n := by omega
      obtain ⟨wo, rfl⟩ : ∃ wo : World, wo = wr := ⟨_, rfl⟩
      obtain ⟨g, rfl⟩ : ∃ g, q = some ⟨g, 0, none⟩ := by obtain ⟨g, hg, _⟩ := o1.cells (by simp; omega); exact ⟨g, hg⟩
      obtain ⟨g2, rfl⟩ : ∃ g, q2 = some ⟨g, 0, none⟩ := by obtain ⟨g, hg, _⟩ := o2.cells (by simp; omega); exact ⟨g, hg⟩
      have n12 : g ≠ g2 := d1 _ _ rfl rfl
      have n13 : g ≠ w.heap.size + 2 := d2 _ _ rfl rfl
      have n23 : g2 ≠ w.heap.size + 2 := d3 _ _ rfl rfl
      have n32 := Ne.symm n23
      obtain ⟨j, hj, e1, ej⟩ := pred_of (show 0 < k by omega) (Nat.le_refl k) hn
      have hj0 : ¬ j = 0 := by have := ej.out; omega
      have hj0' : ¬ 0 = j := by omega
      obtain ⟨⟨_, a1⟩, b1⟩ := o2.slot (k := 0) (by simp; omega)
      obtain ⟨⟨_, a2⟩, b2⟩ := o2.slot (k := j) (by simp; omega)
      obtain ⟨⟨_, a3⟩, b3⟩ := o3.slot (k := 0) (by simp; omega)
      obtain ⟨⟨_, a4⟩, b4⟩ := o3.slot (k := j) (by simp; omega)
      have om := ((((o2.set (i := 0) (by simp; omega) 1090519040).set (i := j) (by simp; omega) 1082654720).set_other (g := w.heap.size + 2) (i := 0) (get_ne n23) (.float .f32 3229614080))).set_other (g := w.heap.size + 2) (i := j) (get_ne n23) (.float .f32 3212836864)
      have oo := ((((o3.set_other (g := g2) (i := 0) (get_ne n32) (.float .f32 1090519040)).set_other (g := g2) (i := j) (get_ne n32) (.float .f32 1082654720)).set (i := 0) (by simp; omega) 3229614080)).set (i := j) (by simp; omega) 3212836864
      have os := ((((o1.set_other (g := g2) (i := 0) (get_ne n12) (.float .f32 1090519040)).set_other (g := g2) (i := j) (get_ne n12) (.float .f32 1082654720)).set_other (g := w.heap.size + 2) (i := 0) (get_ne n13) (.float .f32 3229614080))).set_other (g := w.heap.size + 2) (i := j) (get_ne n13) (.float .f32 3212836864)
      have lg2 : w.heap.size ≤ g2 := (o2.lt _ rfl).1
      have hbW := (((hb.setCell (p := ⟨g2, 0, none⟩) lg2 (.float .f32 1090519040)).setCell (p := ⟨g2, j, none⟩) lg2 (.float .f32 1082654720)).setCell (p := ⟨w.heap.size + 2, 0, none⟩) (by simp) (.float .f32 3229614080)).setCell (p := ⟨w.heap.size + 2, j, none⟩) (by simp) (.float .f32 3212836864)
      rw [mid_set _ _ ej.out] at om
      rw [oth_set _ _ ej.out] at oo
      go_upto_region 14 with fail
      generalize hW : (((wo.setCell ⟨g2, 0, none⟩ (.float .f32 1090519040)).setCell ⟨g2, j, none⟩ (.float .f32 1082654720)).setCell ⟨w.heap.size + 2, 0, none⟩ (.float .f32 3229614080)).setCell ⟨w.heap.size + 2, j, none⟩ (.float .f32 3212836864) = W4 at *
      clear hW a1 a2 a3 a4 b1 b2 b3 b4 o1 o2 o3 hb
      replace os : Ow W4 w.heap.size (some ⟨g, 0, none⟩) cap (sideL k) := os
      go_wp2_with fail
      refine (l03Row_any _ _ _ p cap cap2 cap c (sideL k) (midL k) (sideL k) rs k (vs (sideL k)) (vs (midL k)) (vs (sideL k)) R (by omega) hn (by simp) (by simp) (by simp) gl.out rfl rfl rfl eR _ os.rd om.rd os.rd (rR.below hbW)).mono ?_
      intro e w1 hh
      obtain ⟨q5, cap5, xs5, rfl, o5, p5, b5⟩ := RowBack.ok hh (noz h3 R)
      have z5 := b5.size
      have zW := hbW.size
      go_wp2_with fail
      refine (l03Row_any _ _ _ _ cap cap2 cap k (sideL k) (midL k) (sideL k) (othL k) k (vs (sideL k)) (vs (midL k)) (vs (sideL k)) (vs (othL k)) (by omega) hn (by simp) (by simp) (by simp) (by simp) rfl rfl rfl rfl _ (os.below b5).rd (om.below b5).rd (os.below b5).rd (oo.below b5).rd).mono ?_
      intro e w2 hh2
      obtain ⟨q6, cap6, xs6, rfl, o6, p6, b6⟩ := RowBack.ok hh2 (noz h3 (vs (othL k)))
      have l5 := o5.lt
      have l6 := o6.lt
      have o5 := (o5.below b6).mono zW
      have o6 := o6.mono (Nat.le_trans zW z5)
      have hbZ := hbW.trans ((b5.trans (b6.mono z5)).mono zW)
      clear os om oo hh hh2 b5 b6
      obtain ⟨gp, rfl⟩ : ∃ g, q5 = some ⟨g, 0, none⟩ := by obtain ⟨g, hg, _⟩ := o5.cells (by rw [p5.len]; omega); exact ⟨g, hg⟩
      obtain ⟨gq, rfl⟩ : ∃ g, q6 = some ⟨g, 0, none⟩ := by obtain ⟨g, hg, _⟩ := o6.cells (by rw [p6.len]; omega); exact ⟨g, hg⟩
      have l5 : gp < w1.heap.size := (l5 _ rfl).2
      have l6 : w1.heap.size ≤ gq := (l6 _ rfl).1
      have npq : gp ≠ gq := by omega
      have nqp := Ne.symm npq
      obtain ⟨x0, v0, c0⟩ := o5.get p5 (k := 0) (by omega) (by omega) (by omega)
      obtain ⟨x1, v1, c1⟩ := o5.get p5 (k := j) (by omega) hj hj
      obtain ⟨y0, u0, d0⟩ := o6.get p6 (k := 0) (by omega) (by omega) (by omega)
      obtain ⟨y1, u1, d1⟩ := o6.get p6 (k := j) (by omega) hj hj
      have zp : gp < w2.heap.size := (o5.lt _ rfl).2
      have zq : gq < w2.heap.size := (o6.lt _ rfl).2
      have hk0 : 0 < k := by omega
      go_wp2
      refine wp_region_dem 22 (Below (w2.heap.size) w2) (fun _ _ _ => False) (by kernel_rfl) (by kernel_rfl) (Below.refl _ _).drew ?_
      simp only [List.take_succ_cons, List.take_zero, List.drop_succ_cons, List.drop_zero]
      repeat (first
        | (refine wpDem_flt rfl rfl rfl rfl rfl (fun _ n h => (below_drewN_iff _ _ _ n).2 h) (fun r hr => ?_); simp only [Act.put, List.setIfInBounds_toArray, List.set_cons_succ, List.set_cons_zero])
        | (refine wpDem_want rfl (fun K hK => ?_); intro w' hw'; obtain ⟨hc', hf'⟩ := bcellB hw'; go_simp; first | (refine hK _ ?_; clear hK K hc' hf' hw' w')))
      refine wpDem_nil ?_
      intro w3 hb3
      rename_i rA hA rB hB rC hC rD hD rE hE
      have hfac : Hid (vf .f32 r = facR k R) := by
        have a1 := hr.out
        rw [hB.out, hA.out, hE.out, hC.out, hD.out, v0.out, v1.out, u0.out, u1.out, vf_q, vf_one, ej.out] at a1
        exact a1
      obtain ⟨fb, hfb⟩ : ∃ fb, fb = r := ⟨_, rfl⟩
      subst hfb
      clear hr hA hB hC hD hE v0 v1 u0 u1 c0 c1 d0 d1
      have hbY := hbZ.trans (hb3.mono hbZ.size)
      have o5 := o5.below hb3
      have o6 := o6.below hb3
      go_wp2
      go_loopw [83] (fun i wr => ∃ (m : Nat) (xs : List Nat), m ≤ k ∧ i = .int .i64 m ∧ Ow wr w.heap.size (some ⟨gp, 0, none⟩) cap5 xs ∧ Pt k 0 m (ringAt k R) xs ∧ Pt k m k (xR k R) xs ∧ Ow wr w.heap.size (some ⟨gq, 0, none⟩) cap6 xs6 ∧ Below w.heap.size w wr) (fun i _ => k - (intOf i).toNat)
      case atStart => exact ⟨0, xs5, Nat.zero_le _, rfl, o5, Pt.none p5.len (Nat.le_refl _), p5, o6, hbY⟩
      case round =>
        clear o5 o6 hbY hb3 zp zq p5
        obtain ⟨m, xs, hm, rfl, o5, pa, pb, o6, hb⟩ := hrel
        by_cases hlt : m < k
        · obtain ⟨x0, v0, c0⟩ := o5.get pb (k := m) (by omega) hlt hlt
          obtain ⟨y0, u0, d0⟩ := o6.get p6 (k := m) (by omega) hlt hlt
          have zp : gp < wr.heap.size := (o5.lt _ rfl).2
          have zq : gq < wr.heap.size := (o6.lt _ rfl).2
          go_wp2
          refine wp_region_dem 13 (Below (wr.heap.size) wr) (fun _ _ _ => False) (by kernel_rfl) (by kernel_rfl) (Below.refl _ _).drew ?_
          simp only [List.take_succ_cons, List.take_zero, List.drop_succ_cons, List.drop_zero]
          repeat (first
            | (refine wpDem_flt rfl rfl rfl rfl rfl (fun _ n h => (below_drewN_iff _ _ _ n).2 h) (fun r hr => ?_); simp only [Act.put, List.setIfInBounds_toArray, List.set_cons_succ, List.set_cons_zero])
            | (refine wpDem_want rfl (fun K hK => ?_); intro w' hw'; obtain ⟨hc', hf'⟩ := bcellB hw'; go_simp; first | (refine hK _ ?_; clear hK K hc' hf' hw' w')))
          refine wpDem_nil ?_
          intro w3 hb3
          rename_i rA hA
          have hv : Hid (vf .f32 r = ringAt k R m) := by
            have a1 := hr.out
            rw [hA.out, v0.out, u0.out, hfac.out] at a1
            exact a1
          clear hr hA v0 u0 c0 d0
          have o5 := o5.below hb3
          obtain ⟨⟨z0, e0⟩, f0⟩ := o5.slot (k := m) (by rw [pa.len]; exact hlt)
          go_wp2
          go_roundw
          case rel => exact ⟨m + 1, _, by omega, by go_num, o5.set (by rw [pa.len]; exact hlt) r, pa.up hlt hv.out, (pb.mono (Nat.le_succ m) (Nat.le_refl _)).keep (Nat.le_refl _) (Or.inl (Nat.lt_succ_self m)) r, (o6.below hb3).set_other (get_ne nqp) _, (hb.trans (hb3.mono hb.size)).setCell (p := ⟨gp, m, none⟩) (o5.lt _ rfl).1 _⟩
          case measure => simp [intOf]; omega
        · go_wp2
          obtain rfl : m = k := by omega
          go_ret
          exact ⟨_, _, xs, rfl, o5, pa.all, hb⟩

set_option maxHeartbeats 4000000 in
set_option maxRecDepth 100000 in
theorem solveRing_in (p : Option Addr) (c : Nat) (rs : List Nat) (n : Nat) (R : List (Option Nat)) (h3 : 3 ≤ n) (h256 : n ≤ 256) (hl : rs.length = n) (eR : Hid (rs.map (vf .f32) = R)) (w : World) (rR : Rd w p rs) :
    Calls Try.prog 78 #[.slice p n c] w fun e w' => BackT w w' e true (ringF n R) := by
  have gl : Hid (rs.length = n) := hl
  clear hl
  have hn : n ≤ 1048576 := by omega
  have hin : inB (n : Int) 3 256 = true := by simp [inB]; omega
  have hbA : Below w.heap.size w (w.alloc (.cells #[.float .f32 3212836864] 38)) := (Below.refl _ _).alloc (Nat.le_refl _) _
  go_enter Try.func78, Try.ntmps78
  go_wp2_with (go_at_call 67; refine (within_any _ _ _ _).mono ?_; rintro e w' ⟨rfl, rfl⟩)
  refine (Repeat_any w.heap.size 3212836864 n _ (by omega) h256 _ (by simp) (by simp)).mono ?_
  rintro e wA ⟨g, rfl, os, hb1⟩
  have hbB := hbA.trans (hb1.mono hbA.size)
  have hbC := hbB.alloc hbB.size (.cells #[.float .f32 1082130432] 38)
  replace os := (os.mono hbA.size).below ((Below.refl _ wA).alloc (Nat.le_refl _) (.cells #[.float .f32 1082130432] 38))
  have lg := os.lt
  go_wp2_with fail
  refine (Repeat_any wA.heap.size 1082130432 n _ (by omega) h256 _ (by simp) (by simp)).mono ?_
  rintro e wB ⟨g2, rfl, om, hb2⟩
  have hbD := hbC.trans (hb2.mono hbC.size)
  have hmk := fun w => make_f32 w n hn
  have lg : g < wA.heap.size + 1 := by simpa using (lg _ rfl).2
  have lg2 : wA.heap.size + 1 ≤ g2 := by simpa using (om.lt _ rfl).1
  have n12 : g ≠ g2 := by omega
  have n23 : g2 ≠ wB.heap.size := by have := (om.lt _ rfl).2; simp at this; omega
  have n32 := Ne.symm n23
  have hzz := hb2.size
  have n13 : g ≠ wB.heap.size := by simp at hzz; omega
  replace os := os.below hb2
  replace om := om.mono hbC.size
  obtain ⟨j, hj, e1, ej⟩ := pred_of (show 0 < n by omega) (Nat.le_refl n) hn
  have hj0 : ¬ j = 0 := by have := ej.out; omega
  have hj0' : ¬ 0 = j := by omega
  obtain ⟨⟨_, a1⟩, b1⟩ := om.slot (k := 0) (by simp; omega)
  obtain ⟨⟨_, a2⟩, b2⟩ := om.slot (k := j) (by simp; omega)
  have om5 := (om.set (i := 0) (by simp; omega) 1090519040).set (i := j) (by simp; omega) 1082654720
  have os5 := (os.set_other (g := g2) (i := 0) (get_ne n12) (.float .f32 1090519040)).set_other (g := g2) (i := j) (get_ne n12) (.float .f32 1082654720)
  have lw2 : w.heap.size ≤ g2 := (om.lt _ rfl).1
  have hb5 := (hbD.setCell (p := ⟨g2, 0, none⟩) lw2 (.float .f32 1090519040)).setCell (p := ⟨g2, j, none⟩) lw2 (.float .f32 1082654720)
  have hz5 : ((wB.setCell ⟨g2, 0, none⟩ (.float .f32 1090519040)).setCell ⟨g2, j, none⟩ (.float .f32 1082654720)).heap.size = wB.heap.size := by simp
  rw [mid_set _ _ ej.out] at om5
  go_upto_region 6 with fail
  generalize hW : (wB.setCell ⟨g2, 0, none⟩ (.float .f32 1090519040)).setCell ⟨g2, j, none⟩ (.float .f32 1082654720) = W5 at *
  clear hW a1 a2 b1 b2 os om hbA hbB hbC hbD hb1 hb2
  rw [← hz5] at n13 n23 n32
  have hzH : Hid (W5.heap.size = wB.heap.size) := hz5
  clear hz5
  have hal := (Below.refl W5.heap.size W5).alloc (Nat.le_refl _) (.cells (madeCells #[.float .f32 0] n) 38)
  have o3 := (Ow.made W5 n (by unfold maxLen; omega)).mono hb5.size
  replace os5 := os5.below hal
  replace om5 := om5.below hal
  have hb6 := hb5.trans (hal.mono hb5.size)
  obtain ⟨⟨_, a3⟩, b3⟩ := o3.slot (k := 0) (by simp; omega)
  obtain ⟨⟨_, a4⟩, b4⟩ := o3.slot (k := j) (by simp; omega)
  go_upto_region 7 with fail
  clear hmk
  generalize hW6 : W5.alloc (.cells (madeCells #[.float .f32 0] n) 38) = W6 at *
  clear hW6 hal
  have oo := (o3.set (i := 0) (by simp; omega) 3229614080).set (i := j) (by simp; omega) 3212836864
  have os7 := (os5.set_other (g := W5.heap.size) (i := 0) (get_ne n13) (.float .f32 3229614080)).set_other (g := W5.heap.size) (i := j) (get_ne n13) (.float .f32 3212836864)
  have om7 := (om5.set_other (g := W5.heap.size) (i := 0) (get_ne n23) (.float .f32 3229614080)).set_other (g := W5.heap.size) (i := j) (get_ne n23) (.float .f32 3212836864)
  have hbW := (hb6.setCell (p := ⟨W5.heap.size, 0, none⟩) hb5.size (.float .f32 3229614080)).setCell (p := ⟨W5.heap.size, j, none⟩) hb5.size (.float .f32 3212836864)
  rw [oth_set _ _ ej.out] at oo
  go_upto_region 8 with fail
  generalize hW : (W6.setCell ⟨W5.heap.size, 0, none⟩ (.float .f32 3229614080)).setCell ⟨W5.heap.size, j, none⟩ (.float .f32 3212836864) = W4 at *
  clear hW a3 a4 b3 b4 o3 os5 om5 hb6
  obtain ⟨os, om⟩ : Ow W4 w.heap.size (some ⟨g, 0, none⟩) n (sideL n) ∧ Ow W4 w.heap.size (some ⟨g2, 0, none⟩) n (midL n) := ⟨os7, om7⟩
  clear os7 om7
  go_wp2_with fail
  refine (solveRow_in _ _ _ p n n n c (sideL n) (midL n) (sideL n) rs n (vs (sideL n)) (vs (midL n)) (vs (sideL n)) R (by omega) h256 (by simp) (by simp) (by simp) gl.out rfl rfl rfl eR _ os.rd om.rd os.rd (rR.below hbW)).mono ?_
  intro e w1 hh
  obtain ⟨q5, cap5, xs5, rfl, o5, p5, b5⟩ := RowBack.ok hh (noz h3 R)
  have z5 := b5.size
  have zW := hbW.size
  go_wp2_with fail
  refine (solveRow_in _ _ _ _ n n n n (sideL n) (midL n) (sideL n) (othL n) n (vs (sideL n)) (vs (midL n)) (vs (sideL n)) (vs (othL n)) (by omega) h256 (by simp) (by simp) (by simp) (by simp) rfl rfl rfl rfl _ (os.below b5).rd (om.below b5).rd (os.below b5).rd (oo.below b5).rd).mono ?_
  intro e w2 hh2
  obtain ⟨q6, cap6, xs6, rfl, o6, p6, b6⟩ := RowBack.ok hh2 (noz h3 (vs (othL n)))
  have l5 := o5.lt
  have l6 := o6.lt
  have o5 := (o5.below b6).mono zW
  have o6 := o6.mono (Nat.le_trans zW z5)
  have hbZ := hbW.trans ((b5.trans (b6.mono z5)).mono zW)
  clear os om oo hh hh2 b5 b6
  obtain ⟨gp, rfl⟩ : ∃ g, q5 = some ⟨g, 0, none⟩ := by obtain ⟨g, hg, _⟩ := o5.cells (by rw [p5.len]; omega); exact ⟨g, hg⟩
  obtain ⟨gq, rfl⟩ : ∃ g, q6 = some ⟨g, 0, none⟩ := by obtain ⟨g, hg, _⟩ := o6.cells (by rw [p6.len]; omega); exact ⟨g, hg⟩
  have l5 : gp < w1.heap.size := (l5 _ rfl).2
  have l6 : w1.heap.size ≤ gq := (l6 _ rfl).1
  have npq : gp ≠ gq := by omega
  have nqp := Ne.symm npq
  obtain ⟨x0, v0, c0⟩ := o5.get p5 (k := 0) (by omega) (by omega) (by omega)
  obtain ⟨x1, v1, c1⟩ := o5.get p5 (k := j) (by omega) hj hj
  obtain ⟨y0, u0, d0⟩ := o6.get p6 (k := 0) (by omega) (by omega) (by omega)
  obtain ⟨y1, u1, d1⟩ := o6.get p6 (k := j) (by omega) hj hj
  have zp : gp < w2.heap.size := (o5.lt _ rfl).2
  have zq : gq < w2.heap.size := (o6.lt _ rfl).2
  have hk0 : 0 < n := by omega
  go_wp2
  refine wp_region_dem 22 (Below (w2.heap.size) w2) (fun _ _ _ => False) (by kernel_rfl) (by kernel_rfl) (Below.refl _ _).drew ?_
  simp only [List.take_succ_cons, List.take_zero, List.drop_succ_cons, List.drop_zero]
  repeat (first
    | (refine wpDem_flt rfl rfl rfl rfl rfl (fun _ n h => (below_drewN_iff _ _ _ n).2 h) (fun r hr => ?_); simp only [Act.put, List.setIfInBounds_toArray, List.set_cons_succ, List.set_cons_zero])
    | (refine wpDem_want rfl (fun K hK => ?_); intro w' hw'; obtain ⟨hc', hf'⟩ := bcellB hw'; go_simp; first | (refine hK _ ?_; clear hK K hc' hf' hw' w')))
  refine wpDem_nil ?_
  intro w3 hb3
  rename_i rA hA rB hB rC hC rD hD rE hE
  have hfac : Hid (vf .f32 r = facR n R) := by
    have a1 := hr.out
    rw [hB.out, hA.out, hE.out, hC.out, hD.out, v0.out, v1.out, u0.out, u1.out, vf_q, vf_one, ej.out] at a1
    exact a1
  obtain ⟨fb, hfb⟩ : ∃ fb, fb = r := ⟨_, rfl⟩
  subst hfb
  clear hr hA hB hC hD hE v0 v1 u0 u1 c0 c1 d0 d1
  have hbY := hbZ.trans (hb3.mono hbZ.size)
  have o5 := o5.below hb3
  have o6 := o6.below hb3
  go_wp2
  go_loopw [85] (fun i wr => ∃ (m : Nat) (xs : List Nat), m ≤ n ∧ i = .int .i64 m ∧ Ow wr w.heap.size (some ⟨gp, 0, none⟩) cap5 xs ∧ Pt n 0 m (ringAt n R) xs ∧ Pt n m n (xR n R) xs ∧ Ow wr w.heap.size (some ⟨gq, 0, none⟩) cap6 xs6 ∧ Below w.heap.size w wr) (fun i _ => n - (intOf i).toNat)
  case atStart => exact ⟨0, xs5, Nat.zero_le _, rfl, o5, Pt.none p5.len (Nat.le_refl _), p5, o6, hbY⟩
  case round =>
    clear o5 o6 hbY hb3 zp zq p5
    obtain ⟨m, xs, hm, rfl, o5, pa, pb, o6, hb⟩ := hrel
    by_cases hlt : m < n
    · obtain ⟨x0, v0, c0⟩ := o5.get pb (k := m) (by omega) hlt hlt
      obtain ⟨y0, u0, d0⟩ := o6.get p6 (k := m) (by omega) hlt hlt
      have zp : gp < wr.heap.size := (o5.lt _ rfl).2
      have zq : gq < wr.heap.size := (o6.lt _ rfl).2
      go_wp2
      refine wp_region_dem 11 (Below (wr.heap.size) wr) (fun _ _ _ => False) (by kernel_rfl) (by kernel_rfl) (Below.refl _ _).drew ?_
      simp only [List.take_succ_cons, List.take_zero, List.drop_succ_cons, List.drop_zero]
      repeat (first
        | (refine wpDem_flt rfl rfl rfl rfl rfl (fun _ n h => (below_drewN_iff _ _ _ n).2 h) (fun r hr => ?_); simp only [Act.put, List.setIfInBounds_toArray, List.set_cons_succ, List.set_cons_zero])
        | (refine wpDem_want rfl (fun K hK => ?_); intro w' hw'; obtain ⟨hc', hf'⟩ := bcellB hw'; go_simp; first | (refine hK _ ?_; clear hK K hc' hf' hw' w')))
      refine wpDem_nil ?_
      intro w3 hb3
      rename_i rA hA
      have hv : Hid (vf .f32 r = ringAt n R m) := by
        have a1 := hr.out
        rw [hA.out, v0.out, u0.out, hfac.out] at a1
        exact a1
      clear hr hA v0 u0 c0 d0
      have o5 := o5.below hb3
      obtain ⟨⟨z0, e0⟩, f0⟩ := o5.slot (k := m) (by rw [pa.len]; exact hlt)
      go_wp2
      go_roundw
      case rel => exact ⟨m + 1, _, by omega, by go_num, o5.set (by rw [pa.len]; exact hlt) r, pa.up hlt hv.out, (pb.mono (Nat.le_succ m) (Nat.le_refl _)).keep (Nat.le_refl _) (Or.inl (Nat.lt_succ_self m)) r, (o6.below hb3).set_other (get_ne nqp) _, (hb.trans (hb3.mono hb.size)).setCell (p := ⟨gp, m, none⟩) (o5.lt _ rfl).1 _⟩
      case measure => simp [intOf]; omega
    · go_wp2
      obtain rfl : m = n := by omega
      go_ret2
      exact BackT.of o5 pa.all pa.len hn hb

end Go.Proofs.Ytdafcgimkiepnaa.Ring
