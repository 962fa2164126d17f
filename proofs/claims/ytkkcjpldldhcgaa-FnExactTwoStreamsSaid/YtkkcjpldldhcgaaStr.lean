/-
  A cloud of two streams: contracts of the reference's and of the program's.
  Conditions: none.
-/
import Derived.Test.YtkkcjpldldhcgaaPow
namespace Go.Proofs.Ytkkcjpldldhcgaa.Str
open Go Go.RowKit Go.Proofs.Ytkkcjpldldhcgaa.Fl Go.Proofs.Ytkkcjpldldhcgaa.Reg Go.Proofs.Ytkkcjpldldhcgaa.Step Go.Proofs.Ytkkcjpldldhcgaa.Mem Go.Proofs.Ytkkcjpldldhcgaa.Help Go.Proofs.Ytkkcjpldldhcgaa.Grid Go.Proofs.Ytkkcjpldldhcgaa.App Go.Proofs.Ytkkcjpldldhcgaa.Level Go.Proofs.Ytkkcjpldldhcgaa.Law Go.Proofs.Ytkkcjpldldhcgaa.Fin Go.Proofs.Ytkkcjpldldhcgaa.Spring Go.Proofs.Ytkkcjpldldhcgaa.Part Go.Proofs.Ytkkcjpldldhcgaa.Pok Go.Proofs.Ytkkcjpldldhcgaa.Pow

@[go_sem] theorem run_fneg {P : Program} {w : World} {k : FloatKind} {b : Nat} : (Op.unary .neg (.float k b)).run P w = .ok (.float k (Op.negFloat k b)) w := by simp [Op.unary]
/-- The values of a particle. -/
abbrev PV := Option Nat × Option Nat × Option Nat × Option Nat × Option Nat × Option Nat
def pv (p : Pa) : PV := (vf .f32 p.xr, vf .f32 p.xi, vf .f32 p.vr, vf .f32 p.vi, vf .f32 p.q, vf .f32 p.m)
def ownB (b k : Nat) : Nat := if k % 2 = 0 then b else Op.negFloat .f32 b
/-- The particle k. -/
def strV (W H N b k : Nat) : PV := (fop .mul .f32 (some (floatOfInt .f32 (W : Nat))) (fop .quo .f32 (some (floatOfInt .f32 (k : Nat))) (some (floatOfInt .f32 (N : Nat)))), fop .mul .f32 (some 1056964608) (some (floatOfInt .f32 (H : Nat))), vf .f32 (ownB b k), vf .f32 0, vf .f32 3212836864, vf .f32 1065353216)
def backV (N M : Nat) : Option Nat := fop .quo .f32 (some (floatOfInt .f32 (N : Nat))) (some (floatOfInt .f32 (M : Nat)))

theorem Bc.upTo {w w' : World} {B g : Nat} {W H : Int} {v : Value} {mg bk : Nat} (h : Bc w g W H v mg bk) (hg : g < B) (hb : Below B w w') : Bc w' g W H v mg bk :=
  ⟨(hb.cell (p := ⟨g, 0, none⟩) hg).trans h.1, (hb.cell (p := ⟨g, 1, none⟩) hg).trans h.2.1, (hb.cell (p := ⟨g, 2, none⟩) hg).trans h.2.2.1, (hb.cell (p := ⟨g, 3, none⟩) hg).trans h.2.2.2.1, (hb.cell (p := ⟨g, 4, none⟩) hg).trans h.2.2.2.2⟩
theorem Fz.upTo {w w' : World} {B g : Nat} (h : Fz w g) (hg : g < B) (hb : Below B w w') : Fz w' g :=
  ⟨(hb.frozen (p := ⟨g, 0, none⟩) hg).trans h.1, (hb.frozen (p := ⟨g, 1, none⟩) hg).trans h.2.1, (hb.frozen (p := ⟨g, 2, none⟩) hg).trans h.2.2.1, (hb.frozen (p := ⟨g, 3, none⟩) hg).trans h.2.2.2.1, (hb.frozen (p := ⟨g, 4, none⟩) hg).trans h.2.2.2.2⟩

/-- The boxes of the grid and of the result stand. -/
def Hm (w : World) (W H : Int) (wi : World) : Prop :=
  w.heap.size + 1 + 1 ≤ wi.heap.size ∧ wi.cell? ⟨w.heap.size, 0, none⟩ = some (.int .i64 W) ∧ wi.cell? ⟨w.heap.size, 1, none⟩ = some (.int .i64 H) ∧ Bc wi (w.heap.size + 1) 0 0 (.slice none 0 0) 0 0 ∧ Fz wi (w.heap.size + 1) ∧ Below w.heap.size w wi
theorem Hm.step {w wi wj : World} {W H : Int} (h : Hm w W H wi) {B : Nat} (hB : w.heap.size + 1 + 1 ≤ B) (hb : Below B wi wj) : Hm w W H wj :=
  ⟨Nat.le_trans h.1 hb.size, (hb.cell (p := ⟨w.heap.size, 0, none⟩) (by show w.heap.size < B; omega)).trans h.2.1, (hb.cell (p := ⟨w.heap.size, 1, none⟩) (by show w.heap.size < B; omega)).trans h.2.2.1, Bc.upTo h.2.2.2.1 (by omega) hb, Fz.upTo h.2.2.2.2.1 (by omega) hb, h.2.2.2.2.2.trans (hb.mono (by omega))⟩
theorem Hm.start (w : World) (W H : Int) : Hm w W H ((w.alloc (.cells #[.int .i64 W, .int .i64 H] 34)).alloc (.cells #[.int .i64 0, .int .i64 0, .slice none 0 0, .float .f32 0, .float .f32 0] 50)) := by
  have b1 : Below w.heap.size w (w.alloc (.cells #[.int .i64 W, .int .i64 H] 34)) := (Below.refl _ _).alloc (Nat.le_refl _) _
  have c0 : (w.alloc (.cells #[.int .i64 W, .int .i64 H] 34)).cell? ⟨w.heap.size, 0, none⟩ = some (.int .i64 W) := by simp
  have c1 : (w.alloc (.cells #[.int .i64 W, .int .i64 H] 34)).cell? ⟨w.heap.size, 1, none⟩ = some (.int .i64 H) := by simp
  have s1 : (w.alloc (.cells #[.int .i64 W, .int .i64 H] 34)).heap.size = w.heap.size + 1 := by simp
  generalize w.alloc (.cells #[.int .i64 W, .int .i64 H] 34) = w1 at *
  have b2 : Below w1.heap.size w1 (w1.alloc (.cells #[.int .i64 0, .int .i64 0, .slice none 0 0, .float .f32 0, .float .f32 0] 50)) := (Below.refl _ _).alloc (Nat.le_refl _) _
  refine ⟨by simp [s1], (b2.cell (p := ⟨w.heap.size, 0, none⟩) (by show w.heap.size < _; omega)).trans c0, (b2.cell (p := ⟨w.heap.size, 1, none⟩) (by show w.heap.size < _; omega)).trans c1, ?_, ?_, b1.trans (b2.mono b1.size)⟩
  · rw [← s1]; exact Bc.new w1 0 0 (.slice none 0 0) 0 0 _
  · rw [← s1]; exact Fz.new w1 _ _

/-- What a function that hands back a cloud and a bool hands back. -/
def BackC (w w' : World) (e : Ending) (ok : Bool) (W H : Int) (bv : Option Nat) (vs : List PV) : Prop :=
  ∃ a cap ps bk, e = .returned (.tuple #[clV W H (.slice a (List.length ps) cap) 0 bk, .bool ok]) ∧ POw w' w.heap.size a cap ps ∧ ps.map pv = vs ∧ vf .f32 bk = bv ∧ ps.length ≤ 48 ∧ ps.all okPa = true ∧ Below w.heap.size w w'
theorem vf_c0 : vf .f32 0 = some 0 := by decide
theorem BackC.none {w w' : World} (hb : Below w.heap.size w w') : BackC w w' (.returned (.tuple #[zeroCl, .bool false])) false 0 0 (some 0) [] :=
  ⟨Option.none, 0, [], 0, rfl, POw.nil _ _, rfl, vf_c0, by simp, rfl, hb⟩
def okV (v : PV) : Bool := finv .f32 v.1 && finv .f32 v.2.1 && (finv .f32 v.2.2.1 && finv .f32 v.2.2.2.1) && finv .f32 v.2.2.2.2.1 && finv .f32 v.2.2.2.2.2 && (ford .f32 v.2.2.2.2.2 (some 0) == some .gt)
theorem okPa_pv (p : Pa) : okPa p = okV (pv p) := by
  have h : posB p.m = (ford .f32 (vf .f32 p.m) (some 0) == some .gt) := by rw [posB, order_vf, vf_c0]
  simp only [okPa, okV, pv, cfin, h]
theorem all_pv (ps : List Pa) : ps.all okPa = (ps.map pv).all okV := by
  rw [List.all_map]
  congr 1
  funext p
  exact okPa_pv p
/-- A cloud of two streams is valid. -/
def okStr (W H N M b : Nat) : Bool := vgB W H && finv .f32 (some 0) && finv .f32 (backV N M) && ((List.range N).map (strV W H N b)).all okV
/-- What the function hands back for a valid grid and number. -/
def StrBack (w w' : World) (e : Ending) (W H N M b : Nat) : Prop :=
  BackC w w' e (okStr W H N M b) (if okStr W H N M b = true then (W : Int) else 0) (if okStr W H N M b = true then (H : Int) else 0) (if okStr W H N M b = true then backV N M else some 0) (if okStr W H N M b = true then (List.range N).map (strV W H N b) else [])
theorem okCl_str {W H N M b bk : Nat} {ps : List Pa} (hp : ps.map pv = (List.range N).map (strV W H N b)) (hb : vf .f32 bk = backV N M) : okCl W H ps 0 bk = okStr W H N M b := by
  rw [okCl, okStr, all_pv, hp, hb, vf_c0]
theorem StrBack.of {w w' : World} {W H N M b bk : Nat} {a : Option Addr} {cap : Nat} {ps : List Pa} (hp : ps.map pv = (List.range N).map (strV W H N b)) (hb : vf .f32 bk = backV N M) (hl : ps.length = N) (hN : N ≤ 48) (ho : POw w' w.heap.size a cap ps) (hw : Below w.heap.size w w') (ok : Bool) (hok : okCl W H ps 0 bk = ok) :
    StrBack w w' (.returned (giveV ok W H (.slice a N cap) 0 bk)) W H N M b := by
  have e := okCl_str hp hb
  rw [hok] at e
  unfold StrBack
  rw [← e]
  cases ok
  · simpa [giveV] using BackC.none hw
  · have h2 : ps.all okPa = true := by
      simp only [okCl, Bool.and_eq_true] at hok
      exact hok.2
    simp only [if_true, giveV]
    exact ⟨a, cap, ps, bk, by rw [hl], ho, hp, hb, by omega, h2, hw⟩
theorem pv_str (xr xi vr b k W H N : Nat) (h1 : vf .f32 xr = (strV W H N b k).1) (h2 : vf .f32 xi = (strV W H N b k).2.1) (h3 : vr = ownB b k) : pv ⟨xr, xi, vr, 0, 3212836864, 1065353216⟩ = strV W H N b k := by
  subst h3
  show (vf .f32 xr, vf .f32 xi, _) = _
  rw [h1, h2]
  rfl
theorem map_snoc {ps : List Pa} {p : Pa} {k : Nat} {f : Nat → PV} (h : ps.map pv = (List.range k).map f) (h2 : pv p = f k) : (ps ++ [p]).map pv = (List.range (k + 1)).map f := by
  rw [List.map_append, h, List.range_succ, List.map_append]
  simp [h2]
theorem vf_half : vf .f32 1056964608 = some 1056964608 := by decide

/-- The five cells of a box, written. -/
def sets5 (w : World) (g : Nat) (A B C D E : Value) : World := ((((w.setCell ⟨g, 0, none⟩ A).setCell ⟨g, 1, none⟩ B).setCell ⟨g, 2, none⟩ C).setCell ⟨g, 3, none⟩ D).setCell ⟨g, 4, none⟩ E
theorem Below.sets5 {B : Nat} {v w : World} (h : Below B v w) {g : Nat} (hg : B ≤ g) (a b c d e : Value) : Below B v (sets5 w g a b c d e) :=
  ((((h.setCell (p := ⟨g, 0, none⟩) hg _).setCell (p := ⟨g, 1, none⟩) hg _).setCell (p := ⟨g, 2, none⟩) hg _).setCell (p := ⟨g, 3, none⟩) hg _).setCell (p := ⟨g, 4, none⟩) hg _
theorem POw.sets5 {w : World} {base : Nat} {x : Option Addr} {cap : Nat} {ps : List Pa} (h : POw w base x cap ps) {g : Nat} (hg : g < base) (a b c d e : Value) : POw (sets5 w g a b c d e) base x cap ps := by
  refine h.gb (gb_set (gb_set (gb_set (gb_set (gb_set (gb_refl _ (some g)) _) _) _) _) _) (fun y hy e => ?_)
  have := (h.lt y hy).1
  have e2 := Option.some.inj e
  omega

/-- A particle in a new block. -/
theorem four (w : World) (m : Nat) (A B C D E F G I : Value) (t : TypeId) : ∃ T, (((((w.drewN m).alloc (.cells #[A, B, C, D] t)).setCell ⟨w.heap.size, 0, none⟩ E).setCell ⟨w.heap.size, 1, none⟩ F).setCell ⟨w.heap.size, 2, none⟩ G).setCell ⟨w.heap.size, 3, none⟩ I = T ∧
    Below w.heap.size w T ∧ T.heap.size = w.heap.size + 1 ∧ T.cell? ⟨w.heap.size, 0, none⟩ = some E ∧ T.cell? ⟨w.heap.size, 1, none⟩ = some F ∧ T.cell? ⟨w.heap.size, 2, none⟩ = some G ∧ T.cell? ⟨w.heap.size, 3, none⟩ = some I := by
  refine ⟨_, rfl, ?_, by simp, by simp [go_sem], by simp [go_sem], by simp [go_sem], by simp [go_sem]⟩
  exact (((((below_drewN (Below.refl _ w) m).alloc (Nat.le_refl _) _).setCell (p := ⟨w.heap.size, 0, none⟩) (Nat.le_refl _) _).setCell (p := ⟨w.heap.size, 1, none⟩) (Nat.le_refl _) _).setCell (p := ⟨w.heap.size, 2, none⟩) (Nat.le_refl _) _).setCell (p := ⟨w.heap.size, 3, none⟩) (Nat.le_refl _) _

set_option maxHeartbeats 2000000 in
set_option maxRecDepth 100000 in
theorem spec_in (W H N M x : Nat) (eN : Hid (N = 2 * x)) (eM : Hid (M = W * H)) (_h1 : 4 ≤ W) (h2 : W ≤ 16) (_h3 : 4 ≤ H) (h4 : H ≤ 16) (hx1 : 1 ≤ x) (hx2 : x ≤ 24) (hvg : vgB W H = true) (hin : inB x 1 24 = true) (b : Nat) (w : World) :
    Calls Try.prog 28 #[.agg #[.int .i64 (W : Nat), .int .i64 (H : Nat)], .int .i64 (x : Nat), .float .f32 b] w fun e w' => StrBack w w' e W H N M b := by
  have hM : M ≤ 256 := by rw [eM.out]; exact Nat.mul_le_mul h2 h4
  have hN : N ≤ 48 := by rw [eN.out]; omega
  have hWH : IntKind.i64.wrap ((W : Int) * (H : Int)) = (M : Int) := by
    have e : ((W : Int) * (H : Int)) = (M : Int) := by rw [eM.out]; push_cast; rfl
    rw [e]; exact IntWalk.i64_in _ (by omega)
  have h2x : IntKind.i64.wrap (2 * (x : Int)) = (N : Int) := by
    have e : (2 * (x : Int)) = (N : Int) := by rw [eN.out]; push_cast; rfl
    rw [e]; exact IntWalk.i64_in _ (by omega)
  have hH0 := Hm.start w W H
  go_enter Try.func28, Try.ntmps28
  go_wp2_with fail
  refine (l02Is_any w.heap.size W H _ (by simp) (by simp)).mono ?_
  rw [hvg]
  rintro e w1 ⟨rfl, rfl⟩
  go_wp2_with fail
  refine (l00In_any (x : Nat) 1 24 _).mono ?_
  rw [hin]
  rintro e w1 ⟨rfl, rfl⟩
  clear hvg hin
  go_wp2_with (refine wpList_flt rfl rfl rfl rfl rfl (fun r n hr => ?_))
  have hbk : Hid (vf .f32 r = backV N M) := by
    have a1 := hr.out
    rw [vf_ofInt, vf_ofInt] at a1
    exact a1
  have sA : ((w.alloc (.cells #[.int .i64 (W : Nat), .int .i64 (H : Nat)] 34)).alloc (.cells #[.int .i64 0, .int .i64 0, .slice none 0 0, .float .f32 0, .float .f32 0] 50)).heap.size = w.heap.size + 1 + 1 := by simp
  generalize hwA : (w.alloc (.cells #[.int .i64 (W : Nat), .int .i64 (H : Nat)] 34)).alloc (.cells #[.int .i64 0, .int .i64 0, .slice none 0 0, .float .f32 0, .float .f32 0] 50) = wA at *
  have sB : ((wA.drewN n).alloc (.cells #[.int .i64 (W : Nat), .int .i64 (H : Nat), .slice none 0 0, .float .f32 0, .float .f32 r] 50)).heap.size = w.heap.size + 1 + 1 + 1 := by simp [sA]
  have cB := Bc.new (wA.drewN n) (W : Nat) (H : Nat) (.slice none 0 0) 0 r 50
  have fB := Fz.new (wA.drewN n) #[.int .i64 (W : Nat), .int .i64 (H : Nat), .slice none 0 0, .float .f32 0, .float .f32 r] 50
  have sA' : (wA.drewN n).heap.size = w.heap.size + 1 + 1 := sA
  rw [sA'] at cB fB
  have hHB := hH0.step (B := w.heap.size + 1 + 1) (Nat.le_refl _) ((below_drewN (Below.refl _ wA) n).alloc (by show _ ≤ wA.heap.size; omega) (.cells #[.int .i64 (W : Nat), .int .i64 (H : Nat), .slice none 0 0, .float .f32 0, .float .f32 r] 50))
  generalize hwB : (wA.drewN n).alloc (.cells #[.int .i64 (W : Nat), .int .i64 (H : Nat), .slice none 0 0, .float .f32 0, .float .f32 r] 50) = wB at *
  clear hwA hwB hH0 hr sA'
  go_loopw [9] (fun i wr => ∃ (k : Nat) (a : Option Addr) (cap : Nat) (ps : List Pa), k ≤ N ∧ i = .int .i64 k ∧ Hm w W H wr ∧ Bc wr (w.heap.size + 1 + 1) (W : Nat) (H : Nat) (.slice a k cap) 0 r ∧ Fz wr (w.heap.size + 1 + 1) ∧ POw wr (w.heap.size + 1 + 1 + 1) a cap ps ∧ ps.length = k ∧ ps.map pv = (List.range k).map (strV W H N b) ∧ w.heap.size + 1 + 1 + 1 ≤ wr.heap.size) (fun i _ => N - (intOf i).toNat)
  case atStart => exact ⟨0, none, 0, [], Nat.zero_le _, rfl, hHB, cB, fB, POw.nil _ _, rfl, rfl, by omega⟩
  case round =>
    clear hHB cB fB sB
    obtain ⟨k, a, cap, ps, hk, rfl, hH, hc, hf, ho, hlen, hpv, hsz⟩ := hrel
    have HL : Hid (ps.length = k) := hlen
    clear hlen
    by_cases hlt : k < N
    · have hHb := hH
      obtain ⟨_, k0, k1, _⟩ := hHb
      have hc0 := hc
      obtain ⟨c0, c1, c2, c3, c4⟩ := hc0
      obtain ⟨u, hu, q1⟩ : ∃ u, Hid (u = ownB b k) ∧ (((k : Int).tmod 2 = 0 ∧ u = b) ∨ ((k : Int).tmod 2 = 1 ∧ u = Op.negFloat .f32 b)) := by
        refine ⟨_, rfl, ?_⟩
        rw [Int.tmod_eq_emod_of_nonneg (by omega)]
        unfold ownB
        rcases Nat.mod_two_eq_zero_or_one k with h | h
        · left; exact ⟨by omega, by rw [if_pos h]⟩
        · right; exact ⟨by omega, by rw [if_neg (by omega)]⟩
      rcases q1 with ⟨q1, hub⟩ | ⟨q1, hub⟩
      · rw [hub] at hu
        clear hub
        go_upto_region 11 with (first | (refine wpList_flt (op := .quo) rfl rfl rfl rfl rfl (fun rq nq hq => ?_)) | (refine wpList_flt (op := .mul) rfl rfl rfl rfl rfl (fun rx nx hx => ?_)))
        go_upto_region 12 with (refine wpList_flt rfl rfl rfl rfl rfl (fun r n hr => ?_))
        have hpp : Hid (pv ⟨rx, r, b, 0, 3212836864, 1065353216⟩ = strV W H N b k) := by
          refine pv_str _ _ _ _ _ _ _ _ ?_ ?_ hu.out
          · have a1 := hx.out
            rw [hq.out, vf_ofInt, vf_ofInt, vf_ofInt] at a1
            exact a1
          · have a1 := hr.out
            rw [vf_half, vf_ofInt] at a1
            exact a1
        clear hq hx hr k0 k1 q1
        obtain ⟨T, hT, bT, -, t0, t1, t2, t3⟩ := four wr (nq + nx + n) (.complex .f32 0 0) (.complex .f32 0 0) (.float .f32 0) (.float .f32 0) (.complex .f32 rx r) (.complex .f32 b 0) (.float .f32 3212836864) (.float .f32 1065353216) 70
        simp only [hT]
        clear hT
        have oT := ho.below bT
        have szT := Nat.le_trans hsz bT.size
        have cT := hc.below bT
        have fT := hf.below hc.lt bT
        have cT' := cT
        obtain ⟨c0, c1, c2, c3, c4⟩ := cT'
        have la := oT.lt
        go_wp2_with (at_builtin; refine wpList_papp (r := ⟨rx, r, b, 0, 3212836864, 1065353216⟩) rfl rfl rfl rfl rfl oT HL.out.symm (by have := HL.out; omega) szT (fun p' cap' w4 o4 hg4 hp4 => ?_); have b4 := below_of_gb hg4 (fun x hx => (la x hx).1) szT; clear c0 c1 c2 c3 c4; have c4' := Bc.upTo cT (by omega) b4; have f4' := Fz.upTo fT (by omega) b4; have c5' := c4'; obtain ⟨c0, c1, c2, c3, c4⟩ := c5'; have f5' := f4'; obtain ⟨f0, f1, f2, f3, f4⟩ := f5')
        go_roundw
        case rel =>
          refine ⟨k + 1, _, _, _, by omega, by go_num, hH.step (B := w.heap.size + 1 + 1) (Nat.le_refl _) ?_, Bc.set2 c4' _, Fz.set f4' _, o4.gb (gb_set (gb_refl _ (some (w.heap.size + 1 + 1))) _) (fun x hx e => ?_), ?_, map_snoc hpv hpp.out, ?_⟩
          · exact (show Below (w.heap.size + 1 + 1) wr w4 from (bT.mono (by omega)).trans (b4.mono (by omega))).setCell (p := ⟨w.heap.size + 1 + 1, 2, none⟩) (Nat.le_refl _) _
          · have := (o4.lt x hx).1
            have e2 := Option.some.inj e
            omega
          · rw [List.length_append, HL.out]; rfl
          · have := b4.size; simp; omega
        case measure => simp [intOf]; omega
      · rw [hub] at hu
        clear hub
        go_upto_region 11 with (first | (refine wpList_flt (op := .quo) rfl rfl rfl rfl rfl (fun rq nq hq => ?_)) | (refine wpList_flt (op := .mul) rfl rfl rfl rfl rfl (fun rx nx hx => ?_)))
        go_upto_region 12 with (refine wpList_flt rfl rfl rfl rfl rfl (fun r n hr => ?_))
        have hpp : Hid (pv ⟨rx, r, (Op.negFloat .f32 b), 0, 3212836864, 1065353216⟩ = strV W H N b k) := by
          refine pv_str _ _ _ _ _ _ _ _ ?_ ?_ hu.out
          · have a1 := hx.out
            rw [hq.out, vf_ofInt, vf_ofInt, vf_ofInt] at a1
            exact a1
          · have a1 := hr.out
            rw [vf_half, vf_ofInt] at a1
            exact a1
        clear hq hx hr k0 k1 q1
        obtain ⟨T, hT, bT, -, t0, t1, t2, t3⟩ := four wr (nq + nx + n) (.complex .f32 0 0) (.complex .f32 0 0) (.float .f32 0) (.float .f32 0) (.complex .f32 rx r) (.complex .f32 (Op.negFloat .f32 b) 0) (.float .f32 3212836864) (.float .f32 1065353216) 70
        simp only [hT]
        clear hT
        have oT := ho.below bT
        have szT := Nat.le_trans hsz bT.size
        have cT := hc.below bT
        have fT := hf.below hc.lt bT
        have cT' := cT
        obtain ⟨c0, c1, c2, c3, c4⟩ := cT'
        have la := oT.lt
        go_wp2_with (at_builtin; refine wpList_papp (r := ⟨rx, r, (Op.negFloat .f32 b), 0, 3212836864, 1065353216⟩) rfl rfl rfl rfl rfl oT HL.out.symm (by have := HL.out; omega) szT (fun p' cap' w4 o4 hg4 hp4 => ?_); have b4 := below_of_gb hg4 (fun x hx => (la x hx).1) szT; clear c0 c1 c2 c3 c4; have c4' := Bc.upTo cT (by omega) b4; have f4' := Fz.upTo fT (by omega) b4; have c5' := c4'; obtain ⟨c0, c1, c2, c3, c4⟩ := c5'; have f5' := f4'; obtain ⟨f0, f1, f2, f3, f4⟩ := f5')
        go_roundw
        case rel =>
          refine ⟨k + 1, _, _, _, by omega, by go_num, hH.step (B := w.heap.size + 1 + 1) (Nat.le_refl _) ?_, Bc.set2 c4' _, Fz.set f4' _, o4.gb (gb_set (gb_refl _ (some (w.heap.size + 1 + 1))) _) (fun x hx e => ?_), ?_, map_snoc hpv hpp.out, ?_⟩
          · exact (show Below (w.heap.size + 1 + 1) wr w4 from (bT.mono (by omega)).trans (b4.mono (by omega))).setCell (p := ⟨w.heap.size + 1 + 1, 2, none⟩) (Nat.le_refl _) _
          · have := (o4.lt x hx).1
            have e2 := Option.some.inj e
            omega
          · rw [List.length_append, HL.out]; rfl
          · have := b4.size; simp; omega
        case measure => simp [intOf]; omega
    · obtain rfl : k = N := by omega
      have hc0 := hc
      obtain ⟨c0, c1, c2, c3, c4⟩ := hc0
      go_wp2_with fail
      refine (l05Give_any W H a cap ps 0 r k HL hN _ ho.rd).mono ?_
      clear c0 c1 c2 c3 c4
      cases hok : okCl W H ps 0 r
      · rintro e w1 ⟨rfl, hb1⟩
        have hH1 := hH.step (Nat.le_trans (Nat.le_succ _) hsz) hb1
        have bH := hH1.2.2.2.2.2
        have o1 := POw.sets5 (ho.below hb1) (g := w.heap.size + 1) (by omega) (.int .i64 0) (.int .i64 0) (.slice none 0 0) (.float .f32 0) (.float .f32 0)
        have bb := StrBack.of hpv hbk.out HL.out hN (o1.mono (by omega)) (Below.sets5 bH (g := w.heap.size + 1) (Nat.le_succ _) (.int .i64 0) (.int .i64 0) (.slice none 0 0) (.float .f32 0) (.float .f32 0)) false hok
        have bb' := bb
        obtain ⟨-, -, -, ⟨z0, z1, z2, z3, z4⟩, ⟨f0, f1, f2, f3, f4⟩, -⟩ := hH1
        simp only [giveV, zeroCl]
        clear hok hc hf hH bH o1 bb
        have BB : Hid (StrBack w _ _ W H k M b) := bb'
        clear bb'
        go_wp2
        refine bodyPost_ret (v := .tuple #[zeroCl, .bool false]) (by simp [results, Try.results28, go_sem, z0, z1, z2, z3, z4, zeroCl]) rfl BB.out
      · rintro e w1 ⟨rfl, hb1⟩
        have hH1 := hH.step (Nat.le_trans (Nat.le_succ _) hsz) hb1
        have bH := hH1.2.2.2.2.2
        have o1 := POw.sets5 (ho.below hb1) (g := w.heap.size + 1) (by omega) (.int .i64 (W : Nat)) (.int .i64 (H : Nat)) (.slice a k cap) (.float .f32 0) (.float .f32 r)
        have bb := StrBack.of hpv hbk.out HL.out hN (o1.mono (by omega)) (Below.sets5 bH (g := w.heap.size + 1) (Nat.le_succ _) (.int .i64 (W : Nat)) (.int .i64 (H : Nat)) (.slice a k cap) (.float .f32 0) (.float .f32 r)) true hok
        have bb' := bb
        obtain ⟨-, -, -, ⟨z0, z1, z2, z3, z4⟩, ⟨f0, f1, f2, f3, f4⟩, -⟩ := hH1
        simp only [giveV, clV]
        clear hok hc hf hH bH o1 bb
        have BB : Hid (StrBack w _ _ W H k M b) := bb'
        clear bb'
        go_wp2
        refine bodyPost_ret (v := .tuple #[clV W H (.slice a k cap) 0 r, .bool true]) (by simp [results, Try.results28, go_sem, z0, z1, z2, z3, z4, clV]) rfl BB.out
end Go.Proofs.Ytkkcjpldldhcgaa.Str
