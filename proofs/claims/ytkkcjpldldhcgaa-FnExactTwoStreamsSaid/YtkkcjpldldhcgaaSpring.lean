/-
  Finite floats, and the field that pulls to the middle: contracts of the reference's and of the program's.
  Conditions: none.
-/
import Derived.Test.YtkkcjpldldhcgaaBack
import Derived.Test.YtkkcjpldldhcgaaLaw
import Derived.Test.YtkkcjpldldhcgaaFin
import Derived.Deep.DeepCutAuto
namespace Go.Proofs.Ytkkcjpldldhcgaa.Spring
open Go Go.RowKit Go.Proofs.Ytkkcjpldldhcgaa.Fl Go.Proofs.Ytkkcjpldldhcgaa.Reg Go.Proofs.Ytkkcjpldldhcgaa.Step Go.Proofs.Ytkkcjpldldhcgaa.Mem Go.Proofs.Ytkkcjpldldhcgaa.Help Go.Proofs.Ytkkcjpldldhcgaa.Grid Go.Proofs.Ytkkcjpldldhcgaa.App Go.Proofs.Ytkkcjpldldhcgaa.Level Go.Proofs.Ytkkcjpldldhcgaa.Law Go.Proofs.Ytkkcjpldldhcgaa.Fin

theorem l01Finite_any (b : Nat) (w : World) :
    Calls Try.prog 44 #[.float .f32 b] w fun e w' => e = .returned (.bool (finv .f32 (vf .f32 b))) ∧ Below w.heap.size w w' := by
  go_enter Try.func44, Try.ntmps44
  go_wp2_with (refine wpList_flt rfl rfl rfl rfl rfl (fun r n hr => ?_))
  go_ret
  rw [fin_test .f32 b r hr.out]
  exact ⟨rfl, by simpa using Below.refl w.heap.size w⟩

theorem isFinite_any (b : Nat) (w : World) :
    Calls Try.prog 62 #[.float .f64 b] w fun e w' => e = .returned (.bool (finv .f64 (vf .f64 b))) ∧ Below w.heap.size w w' := by
  go_enter Try.func62, Try.ntmps62
  go_wp2_with (refine wpList_flt rfl rfl rfl rfl rfl (fun r n hr => ?_))
  go_ret
  rw [fin_test .f64 b r hr.out]
  exact ⟨rfl, by simpa using Below.refl w.heap.size w⟩

theorem IsFinite_any (b : Nat) (w : World) :
    Calls Try.prog 46 #[.float .f32 b] w fun e w' => e = .returned (.bool (finv .f32 (vf .f32 b))) ∧ Below w.heap.size w w' := by
  go_enter Try.func46, Try.ntmps46
  go_wp2_with (refine wpList_widen (src := 25) (dst := 29) rfl rfl rfl u32s Try.underlying29 (fun r n hv => ?_))
  refine (isFinite_any r _).mono ?_
  rintro e w1 ⟨rfl, hb⟩
  rw [hv.out, fin_wid]
  go_wp2
  go_ret
  exact ⟨rfl, by simpa using hb⟩

set_option maxHeartbeats 400000 in
theorem areFinite_any (p : Option Addr) (c : Nat) (rs : List Nat) (n : Nat) (hl : Hid (rs.length = n)) (hn : n ≤ 1048576) (w : World) (hr : Rd w p rs) :
    Calls Try.prog 47 #[.slice p n c] w fun e w' => e = .returned (.bool ((rs.map (vf .f32)).all (finv .f32))) ∧ Below w.heap.size w w' := by
  go_enter Try.func47, Try.ntmps47
  go_wp2
  go_loopw [7] (fun i wr => ∃ k : Nat, k ≤ n ∧ i = .int .i64 k ∧ Hid (∀ j, j < k → finv .f32 ((rs.map (vf .f32)).getD j none) = true) ∧ Below w.heap.size w wr) (fun i _ => n - (intOf i).toNat)
  case atStart => exact ⟨0, Nat.zero_le _, rfl, fun j h => by omega, Below.refl _ _⟩
  case round =>
    obtain ⟨k, hk, rfl, hf, hb⟩ := hrel
    by_cases hlt : k < n
    · obtain ⟨b, off, rfl, hbw, hc⟩ := hr.open_ (by rw [hl.out]; omega)
      obtain ⟨x, v, kx⟩ := hc.get hbw hb (k := k) (by rw [hl.out]; exact hlt)
      go_wp2_with fail
      refine (IsFinite_any x _).mono ?_
      rw [v.out]
      cases hz : finv .f32 ((rs.map (vf .f32)).getD k none)
      · rintro e w1 ⟨rfl, hb1⟩
        clear hc
        go_wp2
        go_ret
        refine ⟨?_, hb.trans (hb1.mono hb.size)⟩
        have : (rs.map (vf .f32)).all (finv .f32) = false := by
          rw [Bool.eq_false_iff]
          intro h2
          have hlk : k < (rs.map (vf .f32)).length := by simp [hl.out]; exact hlt
          have := List.all_eq_true.1 h2 _ (List.getElem_mem hlk)
          rw [List.getD, List.getElem?_eq_getElem hlk, Option.getD_some] at hz
          rw [hz] at this; cases this
        rw [this]; rfl
      · rintro e w1 ⟨rfl, hb1⟩
        have hf2 : Hid (∀ j, j < k + 1 → finv .f32 ((rs.map (vf .f32)).getD j none) = true) := by
          intro j hj
          by_cases e : j = k
          · rw [e]; exact hz
          · exact hf.out j (by omega)
        clear hz hc
        go_wp2
        go_roundw
        case rel => exact ⟨k + 1, by omega, by go_num, hf2, hb.trans (hb1.mono hb.size)⟩
        case measure => simp [intOf]; omega
    · obtain rfl : k = n := by omega
      have : Hid ((rs.map (vf .f32)).all (finv .f32) = true) := by
        refine List.all_eq_true.2 fun x hx => ?_
        obtain ⟨j, hj, rfl⟩ := List.mem_iff_getElem.1 hx
        have := hf.out j (by rw [← hl.out]; simpa using hj)
        rwa [List.getD, List.getElem?_eq_getElem hj, Option.getD_some] at this
      go_wp2
      go_ret
      rw [this.out]
      exact ⟨rfl, hb⟩

theorem row_lt' {W H x y : Nat} (hx : x < W) (hy : y < H) : x + W * y < W * H := by
  have h1 : W * (y + 1) ≤ W * H := Nat.mul_le_mul_left _ hy
  rw [Nat.mul_succ] at h1
  omega
theorem divmod_row' {W x y : Nat} (hx : x < W) : (x + W * y) % W = x ∧ (x + W * y) / W = y := by
  constructor
  · rw [Nat.add_mul_mod_self_left, Nat.mod_eq_of_lt hx]
  · rw [Nat.add_mul_div_left _ _ (by omega), Nat.div_eq_of_lt hx, Nat.zero_add]
/-- What a function of two slices and a bool hands back. -/
def BackTT (w w' : World) (e : Ending) (b : Bool) (xs ys : List (Option Nat)) : Prop :=
  ∃ q d rs q2 d2 rs2, e = .returned (.tuple #[.slice q (List.length rs) d, .slice q2 (List.length rs2) d2, .bool b]) ∧ Ow w' w.heap.size q d rs ∧ rs.map (vf .f32) = xs ∧ rs.length ≤ 1048576 ∧ Ow w' w.heap.size q2 d2 rs2 ∧ rs2.map (vf .f32) = ys ∧ rs2.length ≤ 1048576 ∧ (∀ x y, q = some x → q2 = some y → x.block ≠ y.block) ∧ Below w.heap.size w w'
theorem BackTT.none {w w' : World} {b : Bool} (hb : Below w.heap.size w w') : BackTT w w' (.returned (.tuple #[.slice none 0 0, .slice none 0 0, .bool b])) b [] [] :=
  ⟨Option.none, 0, [], Option.none, 0, [], rfl, Ow.nil _ _, rfl, by simp, Ow.nil _ _, rfl, by simp, (fun _ _ h => by cases h), hb⟩
theorem BackTT.of {w w' : World} {b : Bool} {xs ys : List (Option Nat)} {q q2 : Option Addr} {n d d2 : Nat} {rs rs2 : List Nat} (h1 : Ow w' w.heap.size q d rs) (h2 : rs.map (vf .f32) = xs) (h3 : rs.length = n) (h4 : Ow w' w.heap.size q2 d2 rs2) (h5 : rs2.map (vf .f32) = ys) (h6 : rs2.length = n) (hn : n ≤ 1048576) (h7 : ∀ x y, q = some x → q2 = some y → x.block ≠ y.block) (hb : Below w.heap.size w w') :
    BackTT w w' (.returned (.tuple #[.slice q n d, .slice q2 n d2, .bool b])) b xs ys :=
  ⟨q, d, rs, q2, d2, rs2, by rw [h3, h6], h1, h2, by omega, h4, h5, by omega, h7, hb⟩
def Apart (q q2 : Option Addr) : Prop := ∀ x y, q = some x → q2 = some y → x.block ≠ y.block

def spA (W : Nat) (st : Option Nat) (k : Nat) : Option Nat := fop .mul .f32 st (fop .sub .f32 (fop .quo .f32 (some (floatOfInt .f32 (W : Nat))) (some 1073741824)) (some (floatOfInt .f32 ((k % W : Nat) : Int))))
def spB (W H : Nat) (st : Option Nat) (k : Nat) : Option Nat := fop .mul .f32 st (fop .sub .f32 (fop .quo .f32 (some (floatOfInt .f32 (H : Nat))) (some 1073741824)) (some (floatOfInt .f32 ((k / W : Nat) : Int))))
def spOk (W H N : Nat) (st : Option Nat) : Bool := (List.range N).all fun k => finv .f32 (spA W st k) && finv .f32 (spB W H st k)
theorem vf_two : vf .f32 1073741824 = some 1073741824 := by decide
def FinTo (W H : Nat) (st : Option Nat) (n : Nat) : Prop := ∀ j, j < n → (finv .f32 (spA W st j) && finv .f32 (spB W H st j)) = true
theorem FinTo.succ {W H : Nat} {st : Option Nat} {n : Nat} (h : FinTo W H st n) (h2 : (finv .f32 (spA W st n) && finv .f32 (spB W H st n)) = true) : FinTo W H st (n + 1) := by
  intro j hj
  by_cases e : j = n
  · rw [e]; exact h2
  · exact h j (by omega)
theorem spOk_true {W H N : Nat} {st : Option Nat} (h : FinTo W H st N) : spOk W H N st = true := by
  simp only [spOk, List.all_eq_true, List.mem_range]
  exact h
theorem spOk_false {W H N k : Nat} {st : Option Nat} (hk : k < N) (h : (finv .f32 (spA W st k) && finv .f32 (spB W H st k)) = false) : spOk W H N st = false := by
  rw [Bool.eq_false_iff]
  intro h2
  simp only [spOk, List.all_eq_true, List.mem_range] at h2
  have := h2 k hk
  rw [h] at this; cases this
/-- What the function hands back on a valid grid and a finite number. -/
def SpBack (w w' : World) (e : Ending) (W H N : Nat) (st : Option Nat) : Prop := BackTT w w' e (spOk W H N st) (if spOk W H N st = true then (List.range N).map (spA W st) else []) (if spOk W H N st = true then (List.range N).map (spB W H st) else [])
theorem SpBack.bad {w w' : World} {W H N k : Nat} {st : Option Nat} (hb : Below w.heap.size w w') (hk : k < N) (h : (finv .f32 (spA W st k) && finv .f32 (spB W H st k)) = false) : SpBack w w' (.returned (.tuple #[.slice none 0 0, .slice none 0 0, .bool false])) W H N st := by
  unfold SpBack
  rw [spOk_false hk h]
  exact BackTT.none hb

set_option maxHeartbeats 2000000 in
set_option maxRecDepth 100000 in
theorem spec_in (W H N : Nat) (eN : Hid (N = W * H)) (h1 : 4 ≤ W) (h2 : W ≤ 16) (_h3 : 4 ≤ H) (h4 : H ≤ 16) (hvg : vgB W H = true) (b : Nat) (hfin : finv .f32 (vf .f32 b) = true) (w : World) :
    Calls Try.prog 20 #[.agg #[.int .i64 (W : Nat), .int .i64 (H : Nat)], .float .f32 b] w fun e w' => SpBack w w' e W H N (vf .f32 b) := by
  have hN : N ≤ 256 := by rw [eN.out]; exact Nat.mul_le_mul h2 h4
  have hWH : IntKind.i64.wrap ((W : Int) * (H : Int)) = (N : Int) := by
    have e : ((W : Int) * (H : Int)) = (N : Int) := by rw [eN.out]; push_cast; rfl
    rw [e]; exact IntWalk.i64_in _ (by omega)
  have hbA := (Below.refl w.heap.size w).alloc (Nat.le_refl _) (.cells #[.int .i64 (W : Nat), .int .i64 (H : Nat)] 34)
  have hA : Hid (∀ w1, Below (w.alloc (.cells #[.int .i64 (W : Nat), .int .i64 (H : Nat)] 34)).heap.size (w.alloc (.cells #[.int .i64 (W : Nat), .int .i64 (H : Nat)] 34)) w1 → w.heap.size < w1.heap.size ∧ w1.cell? ⟨w.heap.size, 0, none⟩ = some (.int .i64 (W : Nat)) ∧ w1.cell? ⟨w.heap.size, 1, none⟩ = some (.int .i64 (H : Nat))) := fun w1 hb =>
    ⟨by have := hb.size; simp at this; omega, (hb.cell (p := ⟨w.heap.size, 0, none⟩) (by simp)).trans (by simp), (hb.cell (p := ⟨w.heap.size, 1, none⟩) (by simp)).trans (by simp)⟩
  go_enter Try.func20, Try.ntmps20
  go_wp2_with fail
  refine (l02Is_any w.heap.size W H _ (by simp) (by simp)).mono ?_
  rw [hvg]
  rintro e w1 ⟨rfl, rfl⟩
  go_wp2_with fail
  refine (l01Finite_any b _).mono ?_
  rw [hfin]
  rintro e w1 ⟨rfl, hb1⟩
  have oS := Ow.empty w1 #[] rfl
  have oS2 := oS.below ((Below.refl _ _).alloc (Nat.le_refl _) (.cells #[] 25))
  have oT := (Ow.empty (w1.alloc (.cells #[] 25)) #[] rfl).mono (show w1.heap.size ≤ (w1.alloc (.cells #[] 25)).heap.size by simp)
  have bS := ((Below.refl w1.heap.size w1).alloc (Nat.le_refl _) (.cells #[] 25)).alloc (by simp) (.cells #[] 25)
  clear hfin hvg
  go_wp2
  go_loopw [7, 8, 9] (fun s t i wr => ∃ (k : Nat) (q : Option Addr) (cap : Nat) (cs : List Nat) (q2 : Option Addr) (cap2 : Nat) (ds : List Nat), k ≤ N ∧ i = .int .i64 k ∧ s = .slice q k cap ∧ t = .slice q2 k cap2 ∧ Ow wr w1.heap.size q cap cs ∧ Ow wr w1.heap.size q2 cap2 ds ∧ Pt k 0 k (spA W (vf .f32 b)) cs ∧ Pt k 0 k (spB W H (vf .f32 b)) ds ∧ Apart q q2 ∧ FinTo W H (vf .f32 b) k ∧ Below w1.heap.size w1 wr) (fun _ _ i _ => N - (intOf i).toNat)
  case atStart => exact ⟨0, _, 0, [], _, 0, [], Nat.zero_le _, rfl, rfl, rfl, oS2, by simpa using oT, Pt.empty, Pt.empty, by intro x y hx hy; cases hx; cases hy; simp, fun j h => by omega, bS⟩
  case round =>
    clear oS oS2 oT bS
    obtain ⟨k, q, cap, cs, q2, cap2, ds, hk, rfl, rfl, rfl, oc, od, pc, pd, dj, nz, hb⟩ := hrel
    have bW := hb1.trans (hb.mono hb1.size)
    obtain ⟨zz, k0, k1⟩ := hA.out _ bW
    by_cases hlt : k < N
    · obtain ⟨xm, q1, d1, u1⟩ : ∃ j : Nat, (k : Int).tmod (W : Int) = (j : Int) ∧ Hid (j = k % W) ∧ j < W := ⟨k % W, by rw [Int.tmod_eq_emod_of_nonneg (by omega)]; rfl, rfl, Nat.mod_lt _ (by omega)⟩
      obtain ⟨ym, q2', s2, d2, u2⟩ : ∃ j : Nat, (k : Int).tdiv (W : Int) = (j : Int) ∧ IntKind.i64.wrap (j : Int) = (j : Int) ∧ Hid (j = k / W) ∧ j ≤ k := ⟨k / W, by rw [Int.tdiv_eq_ediv_of_nonneg (by omega)]; rfl, by have e := Nat.div_le_self k W; generalize k / W = z at *; exact IntWalk.i64_in _ (by omega), rfl, Nat.div_le_self k W⟩
      have q3 : ¬ (W : Int) = 0 := by omega
      have q4 : ¬ W = 0 := by omega
      go_wp2
      refine wp_region_dem 12 (Below (wr.heap.size) wr) (fun _ _ _ => False) (by kernel_rfl) (by kernel_rfl) (Below.refl _ _).drew ?_
      simp only [List.take_succ_cons, List.take_zero, List.drop_succ_cons, List.drop_zero]
      repeat (first
        | (refine wpDem_flt rfl rfl rfl rfl rfl (fun _ n h => (below_drewN_iff _ _ _ n).2 h) (fun r hr => ?_); simp only [Act.put, List.setIfInBounds_toArray, List.set_cons_succ, List.set_cons_zero])
        | (refine wpDem_want rfl (fun K hK => ?_); intro w' hw'; obtain ⟨hc', hf'⟩ := bcellB hw'; go_simp; first | (refine hK _ ?_; clear hK K hc' hf' hw' w')))
      refine wpDem_nil ?_
      intro w2 hb2
      rename_i rA hA1 rB hB1
      obtain ⟨a0, ha0⟩ : ∃ a0, a0 = r := ⟨_, rfl⟩
      have hva : Hid (vf .f32 a0 = spA W (vf .f32 b) k) := by
        have a1 := hr.out
        rw [hB1.out, hA1.out, vf_ofInt, vf_ofInt, vf_two, d1.out] at a1
        show _ = _
        rw [ha0, a1]; rfl
      subst ha0
      clear hr hA1 hB1
      obtain ⟨zz2, k02, k12⟩ := hA.out _ (bW.trans (hb2.mono bW.size))
      clear k0 k1
      go_wp2
      refine wp_region_dem 12 (Below (w2.heap.size) w2) (fun _ _ _ => False) (by kernel_rfl) (by kernel_rfl) (Below.refl _ _).drew ?_
      simp only [List.take_succ_cons, List.take_zero, List.drop_succ_cons, List.drop_zero]
      repeat (first
        | (refine wpDem_flt rfl rfl rfl rfl rfl (fun _ n h => (below_drewN_iff _ _ _ n).2 h) (fun r hr => ?_); simp only [Act.put, List.setIfInBounds_toArray, List.set_cons_succ, List.set_cons_zero])
        | (refine wpDem_want rfl (fun K hK => ?_); intro w' hw'; obtain ⟨hc', hf'⟩ := bcellB hw'; go_simp; first | (refine hK _ ?_; clear hK K hc' hf' hw' w')))
      refine wpDem_nil ?_
      intro w3 hb3
      rename_i rA hA1 rB hB1
      obtain ⟨c0, hc0⟩ : ∃ c0, c0 = r := ⟨_, rfl⟩
      have hvb : Hid (vf .f32 c0 = spB W H (vf .f32 b) k) := by
        have a1 := hr.out
        rw [hB1.out, hA1.out, vf_ofInt, vf_ofInt, vf_two, d2.out] at a1
        show _ = _
        rw [hc0, a1]; rfl
      subst hc0
      clear hr hA1 hB1 k02 k12 q1 q2' s2 q3
      have hb4 := hb.trans ((hb2.trans (hb3.mono hb2.size)).mono hb.size)
      have oc := (oc.below hb2).below hb3
      have od := (od.below hb2).below hb3
      go_wp2_with fail
      refine (l01Finite_any a0 _).mono ?_
      rw [hva.out]
      cases fa : finv .f32 (spA W (vf .f32 b) k)
      · rintro e w4 ⟨rfl, hb5⟩
        have FF : Hid ((finv .f32 (spA W (vf .f32 b) k) && finv .f32 (spB W H (vf .f32 b) k)) = false) := by show _ = _; rw [fa]; rfl
        clear fa
        go_wp2
        go_ret3
        exact SpBack.bad (hbA.trans ((hb1.trans ((hb4.trans (hb5.mono hb4.size)).mono hb1.size)).mono (by simp))) hlt FF.out
      · rintro e w4 ⟨rfl, hb5⟩
        have hb6 := hb4.trans (hb5.mono hb4.size)
        go_wp2_with fail
        refine (l01Finite_any c0 _).mono ?_
        rw [hvb.out]
        cases fb : finv .f32 (spB W H (vf .f32 b) k)
        · rintro e w5 ⟨rfl, hb7⟩
          have FF : Hid ((finv .f32 (spA W (vf .f32 b) k) && finv .f32 (spB W H (vf .f32 b) k)) = false) := by show _ = _; rw [fb]; simp
          clear fa fb
          go_wp2
          go_ret3
          exact SpBack.bad (hbA.trans ((hb1.trans ((hb6.trans (hb7.mono hb6.size)).mono hb1.size)).mono (by simp))) hlt FF.out
        · rintro e w5 ⟨rfl, hb7⟩
          have FF : Hid ((finv .f32 (spA W (vf .f32 b) k) && finv .f32 (spB W H (vf .f32 b) k)) = true) := by show _ = _; rw [fa, fb]; rfl
          clear fa fb
          have hb8 := hb6.trans (hb7.mono hb6.size)
          have oc9 := (oc.below hb5).below hb7
          have od9 := (od.below hb5).below hb7
          have la := oc9.lt
          have lb := od9.lt
          go_upto_region 13 with (at_builtin; refine wpList_app1 rfl rfl rfl rfl rfl oc9 pc.len.symm (by have := pc.len; omega) hb8.size (fun p' cap' w4 oc' hg' hp' => ?_))
          have od' := od9.gb hg' (sep_of' dj)
          have hb9 := hb8.trans (below_of_gb hg' (fun a ha => (la a ha).1) hb8.size)
          have pc' := pc.app hva.out
          have hdj : Apart p' q2 := by
            intro x y hx hy
            rcases hp' x hx with h5 | h5
            · exact dj x y h5 hy
            · have := (lb y hy).2
              omega
          have lc := oc'.lt
          clear hg' hp' oc9 od9
          go_wp2_with (at_builtin; refine wpList_app1 rfl rfl rfl rfl rfl od' pd.len.symm (by have := pd.len; omega) hb9.size (fun p5 cap5 w6 od5 hg5 hp5 => ?_))
          have oc5 := oc'.gb hg5 (sep_of hdj)
          go_roundw
          case rel =>
            refine ⟨k + 1, _, _, _, _, _, _, by omega, by go_num, rfl, rfl, oc5, od5, pc', pd.app hvb.out, ?_, nz.succ FF.out, hb9.trans (below_of_gb hg5 (fun a ha => (lb a ha).1) hb9.size)⟩
            intro x y hx hy
            rcases hp5 y hy with h5 | h5
            · exact hdj x y hx h5
            · have := (lc x hx).2
              omega
          case measure => simp [intOf]; omega
    · obtain rfl : k = N := by omega
      go_wp2
      go_ret3
      unfold SpBack
      rw [spOk_true nz, if_pos rfl, if_pos rfl]
      have hbZ := hbA.trans ((hb1.trans (hb.mono hb1.size)).mono (by simp))
      have hz : w.heap.size ≤ w1.heap.size := by have := hb1.size; simp at this; omega
      exact BackTT.of (oc.mono hz) pc.all pc.len (od.mono hz) pd.all pd.len (by omega) dj hbZ

set_option maxHeartbeats 2000000 in
set_option maxRecDepth 100000 in
theorem impl_in (W H N : Nat) (eN : Hid (N = W * H)) (h1 : 4 ≤ W) (h2 : W ≤ 16) (h3 : 4 ≤ H) (h4 : H ≤ 16) (hvg : vgB W H = true) (b : Nat) (hfin : finv .f32 (vf .f32 b) = true) (w : World) :
    Calls Try.prog 21 #[.agg #[.int .i64 (W : Nat), .int .i64 (H : Nat)], .float .f32 b] w fun e w' => SpBack w w' e W H N (vf .f32 b) := by
  have hN : N ≤ 256 := by rw [eN.out]; exact Nat.mul_le_mul h2 h4
  have hbA := (Below.refl w.heap.size w).alloc (Nat.le_refl _) (.cells #[.int .i64 (W : Nat), .int .i64 (H : Nat)] 34)
  have hA : Hid (∀ w1, Below (w.alloc (.cells #[.int .i64 (W : Nat), .int .i64 (H : Nat)] 34)).heap.size (w.alloc (.cells #[.int .i64 (W : Nat), .int .i64 (H : Nat)] 34)) w1 → w.heap.size < w1.heap.size ∧ w1.cell? ⟨w.heap.size, 0, none⟩ = some (.int .i64 (W : Nat)) ∧ w1.cell? ⟨w.heap.size, 1, none⟩ = some (.int .i64 (H : Nat))) := fun w1 hb =>
    ⟨by have := hb.size; simp at this; omega, (hb.cell (p := ⟨w.heap.size, 0, none⟩) (by simp)).trans (by simp), (hb.cell (p := ⟨w.heap.size, 1, none⟩) (by simp)).trans (by simp)⟩
  go_enter Try.func21, Try.ntmps21
  go_wp2_with fail
  refine (ValidGrid_any W H _).mono ?_
  rw [hvg]
  rintro e w0 ⟨rfl, hb0⟩
  go_wp2_with fail
  refine (IsFinite_any b _).mono ?_
  rw [hfin]
  rintro e w1 ⟨rfl, hb1⟩
  replace hb1 := hb0.trans (hb1.mono hb0.size)
  clear hfin hvg
  obtain ⟨zz, k0, k1⟩ := hA.out _ hb1
  go_wp2
  clear k0 k1 zz
  go_loopw [7, 8, 21] (fun s t i wr => ∃ (y m : Nat) (q : Option Addr) (cap : Nat) (cs : List Nat) (q2 : Option Addr) (cap2 : Nat) (ds : List Nat), y ≤ H ∧ i = .int .i64 y ∧ s = .slice q m cap ∧ t = .slice q2 m cap2 ∧ Hid (m = W * y) ∧ Ow wr w1.heap.size q cap cs ∧ Ow wr w1.heap.size q2 cap2 ds ∧ Pt m 0 m (spA W (vf .f32 b)) cs ∧ Pt m 0 m (spB W H (vf .f32 b)) ds ∧ Apart q q2 ∧ Below w1.heap.size w1 wr) (fun _ _ i _ => H - (intOf i).toNat)
  case atStart => exact ⟨0, 0, _, 0, [], _, 0, [], Nat.zero_le _, rfl, rfl, rfl, by show _ = _; simp, Ow.nil _ _, Ow.nil _ _, Pt.empty, Pt.empty, (fun x y hx hy => by cases hx), Below.refl _ _⟩
  case round =>
    obtain ⟨y, m, q, cap, cs, q2, cap2, ds, hy, rfl, rfl, rfl, em, oc, od, pc, pd, dj, hb⟩ := hrel
    obtain ⟨zz, k0, k1⟩ := hA.out _ (hb1.trans (hb.mono hb1.size))
    by_cases hlt : y < H
    · go_wp2
      clear k0 k1 zz
      go_loopw [7, 8, 26] (fun s t i wr => ∃ (x m : Nat) (q : Option Addr) (cap : Nat) (cs : List Nat) (q2 : Option Addr) (cap2 : Nat) (ds : List Nat), x ≤ W ∧ i = .int .i64 x ∧ s = .slice q m cap ∧ t = .slice q2 m cap2 ∧ Hid (m = x + W * y) ∧ Ow wr w1.heap.size q cap cs ∧ Ow wr w1.heap.size q2 cap2 ds ∧ Pt m 0 m (spA W (vf .f32 b)) cs ∧ Pt m 0 m (spB W H (vf .f32 b)) ds ∧ Apart q q2 ∧ Below w1.heap.size w1 wr) (fun _ _ i _ => W - (intOf i).toNat)
      case atStart => exact ⟨0, m, q, cap, cs, q2, cap2, ds, Nat.zero_le _, rfl, rfl, rfl, by show _ = _; rw [em.out]; simp, oc, od, pc, pd, dj, hb⟩
      case round =>
        clear oc od pc pd dj em hb
        obtain ⟨x, m, q, cap, cs, q2, cap2, ds, hx, rfl, rfl, rfl, em, oc, od, pc, pd, dj, hb⟩ := hrel
        obtain ⟨zz, k0, k1⟩ := hA.out _ (hb1.trans (hb.mono hb1.size))
        by_cases hltx : x < W
        · have hmN : m ≤ 256 := by have h5 : x + W * y < W * H := row_lt' hltx hlt; have h6 := eN.out; rw [em.out]; omega
          have dm : m % W = x ∧ m / W = y := by rw [em.out]; exact divmod_row' hltx
          have ex : Hid (m % W = x) := dm.1
          have ey : Hid (m / W = y) := dm.2
          clear dm
          have la := oc.lt
          have lb := od.lt
          go_upto_region 11 with (first
            | (refine wpList_flt rfl rfl rfl rfl rfl (fun r n hr => ?_))
            | (at_builtin; refine wpList_app1 rfl rfl rfl rfl rfl (by first | exact oc.drewN _ | exact oc) pc.len.symm (by have := pc.len; omega) (by simpa using hb.size) (fun p' cap' w4 oc' hg' hp' => ?_)))
          rename_i rA nA hA1 rB nB hB1
          have hva : Hid (vf .f32 r = spA W (vf .f32 b) m) := by
            have a1 := hr.out
            rw [hB1.out, hA1.out, vf_ofInt, vf_ofInt, vf_two] at a1
            show _ = _
            rw [a1, spA, ex.out]
          have hg1 : wr.grownBy w4 (q.map (·.block)) := ⟨hg'.os, hg'.tape, hg'.output, hg'.size, hg'.block⟩
          have hp1 : ∀ a, p' = some a → q = some a ∨ wr.heap.size ≤ a.block := by simpa using hp'
          clear hg' hp' hr hA1 hB1
          have od' := od.gb hg1 (sep_of' dj)
          have hb9 := hb.trans (below_of_gb hg1 (fun a ha => (la a ha).1) hb.size)
          have pc' := pc.app hva.out
          have hdj : Apart p' q2 := by
            intro x y hx hy
            rcases hp1 x hx with h5 | h5
            · exact dj x y h5 hy
            · have := (lb y hy).2
              omega
          have lc := oc'.lt
          clear k0 k1 zz
          obtain ⟨zz, k0, k1⟩ := hA.out _ (hb1.trans (hb9.mono hb1.size))
          clear hg1 hp1 oc od
          go_wp2_with (first
            | (refine wpList_flt rfl rfl rfl rfl rfl (fun r2 n2 hr2 => ?_))
            | (at_builtin; refine wpList_app1 rfl rfl rfl rfl rfl (by first | exact od'.drewN _ | exact od') pd.len.symm (by have := pd.len; omega) (by simpa using hb9.size) (fun p5 cap5 w6 od5 hg5 hp5 => ?_)))
          rename_i rA nA hA1 rB nB hB1
          have hvb : Hid (vf .f32 r2 = spB W H (vf .f32 b) m) := by
            have a1 := hr2.out
            rw [hB1.out, hA1.out, vf_ofInt, vf_ofInt, vf_two] at a1
            show _ = _
            rw [a1, spB, ey.out]
          have hg6 : w4.grownBy w6 (q2.map (·.block)) := ⟨hg5.os, hg5.tape, hg5.output, hg5.size, hg5.block⟩
          have hp6 : ∀ a, p5 = some a → q2 = some a ∨ w4.heap.size ≤ a.block := by simpa using hp5
          have oc5 := oc'.gb hg6 (sep_of hdj)
          go_roundw
          case rel =>
            refine ⟨x + 1, m + 1, _, _, _, _, _, _, by omega, by go_num, rfl, rfl, by show _ = _; have := em.out; omega, oc5, od5, pc', pd.app hvb.out, ?_, hb9.trans (below_of_gb hg6 (fun a ha => (lb a ha).1) hb9.size)⟩
            intro x y hx hy
            rcases hp6 y hy with h5 | h5
            · exact hdj x y hx h5
            · have := (lc x hx).2
              omega
          case measure => simp [intOf]; omega
        · go_wp2
          obtain rfl : x = W := by omega
          go_roundw
          case rel => exact ⟨y + 1, m, q, cap, cs, q2, cap2, ds, by omega, by go_num, rfl, rfl, by show _ = _; rw [em.out, Nat.mul_succ, Nat.add_comm], oc, od, pc, pd, dj, hb⟩
          case measure => simp [intOf]; omega
    · obtain rfl : y = H := by omega
      have eM : m = N := by rw [em.out, eN.out]
      have HM : Hid (m = N) := eM
      have hm256 : m ≤ 256 := by omega
      clear eM
      have hz : w.heap.size ≤ w1.heap.size := by have := hb1.size; simp at this; omega
      go_wp2_with fail
      refine (areFinite_any q cap cs m pc.len (by omega) _ oc.rd).mono ?_
      rw [pc.all]
      cases fa : ((List.range m).map (spA W (vf .f32 b))).all (finv .f32)
      · rintro e w4 ⟨rfl, hb5⟩
        obtain ⟨k, hk, hz2⟩ : ∃ k, k < m ∧ finv .f32 (spA W (vf .f32 b) k) = false := by
          have : ¬ (∀ x ∈ (List.range m).map (spA W (vf .f32 b)), finv .f32 x = true) := fun h => by rw [List.all_eq_true.2 h] at fa; cases fa
          simp only [List.mem_map, List.mem_range, forall_exists_index, and_imp, forall_apply_eq_imp_iff₂, Classical.not_forall] at this
          obtain ⟨k, hk, h⟩ := this
          exact ⟨k, hk, by simpa using h⟩
        have FF : Hid ((finv .f32 (spA W (vf .f32 b) k) && finv .f32 (spB W y (vf .f32 b) k)) = false) := by show _ = _; rw [hz2]; rfl
        clear fa hz2
        go_wp2
        go_ret3
        exact SpBack.bad (hbA.trans ((hb1.trans ((hb.trans (hb5.mono hb.size)).mono hb1.size)).mono (by simp))) (by rw [← HM.out]; exact hk) FF.out
      · rintro e w4 ⟨rfl, hb5⟩
        have od4 := od.below hb5
        have oc4 := oc.below hb5
        have hb6 := hb.trans (hb5.mono hb.size)
        have FA : Hid (∀ k, k < m → finv .f32 (spA W (vf .f32 b) k) = true) := fun k hk => List.all_eq_true.1 fa _ (List.mem_map.2 ⟨k, List.mem_range.2 hk, rfl⟩)
        clear fa
        go_wp2_with fail
        refine (areFinite_any q2 cap2 ds m pd.len (by omega) _ od4.rd).mono ?_
        rw [pd.all]
        cases fb : ((List.range m).map (spB W y (vf .f32 b))).all (finv .f32)
        · rintro e w5 ⟨rfl, hb7⟩
          obtain ⟨k, hk, hz2⟩ : ∃ k, k < m ∧ finv .f32 (spB W y (vf .f32 b) k) = false := by
            have : ¬ (∀ x ∈ (List.range m).map (spB W y (vf .f32 b)), finv .f32 x = true) := fun h => by rw [List.all_eq_true.2 h] at fb; cases fb
            simp only [List.mem_map, List.mem_range, forall_exists_index, and_imp, forall_apply_eq_imp_iff₂, Classical.not_forall] at this
            obtain ⟨k, hk, h⟩ := this
            exact ⟨k, hk, by simpa using h⟩
          have FF : Hid ((finv .f32 (spA W (vf .f32 b) k) && finv .f32 (spB W y (vf .f32 b) k)) = false) := by show _ = _; rw [hz2]; simp
          clear fb hz2
          go_wp2
          go_ret3
          exact SpBack.bad (hbA.trans ((hb1.trans ((hb6.trans (hb7.mono hb6.size)).mono hb1.size)).mono (by simp))) (by rw [← HM.out]; exact hk) FF.out
        · rintro e w5 ⟨rfl, hb7⟩
          have FB : Hid (FinTo W y (vf .f32 b) m) := fun k hk => by rw [FA.out k hk, List.all_eq_true.1 fb _ (List.mem_map.2 ⟨k, List.mem_range.2 hk, rfl⟩)]; rfl
          clear fb
          go_wp2
          go_ret3
          unfold SpBack
          rw [← HM.out, spOk_true FB.out, if_pos rfl, if_pos rfl]
          exact BackTT.of ((oc4.below hb7).mono hz) pc.all pc.len ((od4.below hb7).mono hz) pd.all pd.len (by omega) dj (hbA.trans ((hb1.trans ((hb6.trans (hb7.mono hb6.size)).mono hb1.size)).mono (by simp)))
end Go.Proofs.Ytkkcjpldldhcgaa.Spring
