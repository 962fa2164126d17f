/-
  Fields on a grid of half the size and of twice the size: contracts of the program's.
  Conditions: none.
-/
import Derived.Test.YtdafcgimkiepnaaHalf
namespace Go.Proofs.Ytdafcgimkiepnaa.Half
open Go Go.RowKit Go.Proofs.Ytdafcgimkiepnaa.Fl Go.Proofs.Ytdafcgimkiepnaa.Reg Go.Proofs.Ytdafcgimkiepnaa.Step Go.Proofs.Ytdafcgimkiepnaa.Mem Go.Proofs.Ytdafcgimkiepnaa.Help Go.Proofs.Ytdafcgimkiepnaa.Grid Go.Proofs.Ytdafcgimkiepnaa.Index Go.Proofs.Ytdafcgimkiepnaa.Near Go.Proofs.Ytdafcgimkiepnaa.Mean Go.Proofs.Ytdafcgimkiepnaa.App Go.Proofs.Ytdafcgimkiepnaa.Level Go.Proofs.Ytdafcgimkiepnaa.Lap Go.Proofs.Ytdafcgimkiepnaa.Law

def aggAt (v : Value) (i : Nat) : Int := match v with | .agg a => intOf (a.getD i undef) | _ => 0
def calG : FuncId → Array Value → Value → Prop := fun _ args v => v = .int .i64 (ixF (aggAt (args.getD 0 undef) 0) (aggAt (args.getD 0 undef) 1) (intOf (args.getD 1 undef)) (intOf (args.getD 2 undef)))
attribute [local go_sem] intOf aggAt calG

theorem size_at (W H N : Nat) (h1 : 4 ≤ W) (h2 : W ≤ 16) (h3 : 4 ≤ H) (h4 : H ≤ 16) (hN : Hid (N = W * H)) (w : World) :
    Calls Try.prog 85 #[.agg #[.int .i64 (W : Nat), .int .i64 (H : Nat)]] w fun e w' => e = .returned (.int .i64 (N : Nat)) ∧ Below w.heap.size w w' := by
  refine (size_any W H (by omega) (by omega) (by omega) (by omega) w).mono ?_
  rintro e w' ⟨rfl, hb⟩
  refine ⟨?_, hb⟩
  rw [hN.out]
  push_cast
  rfl
theorem ixF_at {W H x y i : Nat} (hx : x < W) (hy : y < H) (hi : i = x + W * y) : ixF (W : Int) (H : Int) (x : Int) (y : Int) = (i : Int) := by
  rw [ixF_in (by omega) (by omega), hi]
  push_cast
  rfl

theorem blk2 {w : World} {g : Nat} {x y : Value} {t : TypeId} (h : w.heap[g]? = some (.cells #[x, y] t (0, 0))) : w.cell? ⟨g, 0, none⟩ = some x ∧ w.cell? ⟨g, 1, none⟩ = some y ∧ w.frozen? ⟨g, 0, none⟩ = false ∧ w.frozen? ⟨g, 1, none⟩ = false := by
  simp [World.cell?, World.frozen?, h]
/-- Three boxes, one behind the other. -/
def B3 (w wA : World) (A B C : Obj) : Prop := wA.heap.size = w.heap.size + 3 ∧ wA.heap[w.heap.size]? = some A ∧ wA.heap[w.heap.size + 1]? = some B ∧ wA.heap[w.heap.size + 2]? = some C ∧ Below w.heap.size w wA
theorem b3 (w : World) (A B C : Obj) : B3 w (((w.alloc A).alloc B).alloc C) A B C := by
  have a1 := heap_alloc_new w A
  have a2 := heap_alloc_new (w.alloc A) B
  have a3 := heap_alloc_new ((w.alloc A).alloc B) C
  simp only [World.size_alloc] at a2 a3
  have p1 := ((Below.refl (w.alloc A).heap.size (w.alloc A)).alloc (Nat.le_refl _) B).block
  have p2 := ((Below.refl ((w.alloc A).alloc B).heap.size ((w.alloc A).alloc B)).alloc (Nat.le_refl _) C).block
  simp only [World.size_alloc] at p1 p2
  exact ⟨by simp, (p2 _ (by omega)).trans ((p1 _ (by omega)).trans a1), (p2 _ (by omega)).trans a2, a3, (((Below.refl _ _).alloc (Nat.le_refl _) _).alloc (by simp) _).alloc (by simp; omega) _⟩
/-- What three boxes hold, in a later world. -/
theorem B3.get {w wA wr : World} {a0 a1 x0 x1 c0 c1 : Value} {t : TypeId} (h : B3 w wA (.cells #[a0, a1] t) (.cells #[x0, x1] t) (.cells #[c0, c1] t)) (hb : Below wA.heap.size wA wr) :
    w.heap.size + 3 ≤ wr.heap.size ∧ wr.cell? ⟨w.heap.size, 0, none⟩ = some a0 ∧ wr.cell? ⟨w.heap.size, 1, none⟩ = some a1 ∧ wr.cell? ⟨w.heap.size + 1, 0, none⟩ = some x0 ∧ wr.cell? ⟨w.heap.size + 1, 1, none⟩ = some x1 ∧ wr.frozen? ⟨w.heap.size + 1, 0, none⟩ = false ∧ wr.frozen? ⟨w.heap.size + 1, 1, none⟩ = false ∧ wr.cell? ⟨w.heap.size + 1 + 1, 0, none⟩ = some c0 ∧ wr.cell? ⟨w.heap.size + 1 + 1, 1, none⟩ = some c1 := by
  obtain ⟨h0, h1, h2, h3, _⟩ := h
  have e1 := blk2 ((hb.block w.heap.size (by omega)).trans h1)
  have e2 := blk2 ((hb.block (w.heap.size + 1) (by omega)).trans h2)
  have e3 := blk2 ((hb.block (w.heap.size + 2) (by omega)).trans h3)
  exact ⟨by have := hb.size; omega, e1.1, e1.2.1, e2.1, e2.2.1, e2.2.2.1, e2.2.2.2, e3.1, e3.2.1⟩

set_option maxHeartbeats 4000000 in
set_option maxRecDepth 100000 in
theorem coarse_any (W H hw hh : Nat) (eW : Hid (W = 2 * hw)) (eH : Hid (H = 2 * hh)) (h1 : 4 ≤ hw) (h2 : hw ≤ 8) (h3 : 4 ≤ hh) (h4 : hh ≤ 8) (p : Option Addr) (c : Nat) (rs : List Nat) (n : Nat) (hn : Hid (n = W * H)) (hl : Hid (rs.length = n)) (w : World) (hr : Rd w p rs) :
    Calls Try.prog 60 #[.agg #[.int .i64 (W : Nat), .int .i64 (H : Nat)], .slice p n c] w fun e w' => BackG w w' e hw hh (hw * hh) (coarseF hw hh (rs.map (vf .f32))) := by
  have hW16 : W ≤ 16 := by have := eW.out; omega
  have hH16 : H ≤ 16 := by have := eH.out; omega
  have hW8 : 8 ≤ W := by have := eW.out; omega
  have hH8 : 8 ≤ H := by have := eH.out; omega
  have hnn : n ≤ 256 := by rw [hn.out]; exact Nat.mul_le_mul hW16 hH16
  have hn0 : 0 < n := by rw [hn.out]; exact Nat.mul_pos (by omega) (by omega)
  obtain ⟨b, o, rfl, hbw, HC⟩ := hr.open_ (by rw [hl.out]; exact hn0)
  obtain ⟨N, eN⟩ : ∃ N, Hid (N = hw * hh) := ⟨_, rfl⟩
  have hN : N ≤ 64 := by rw [eN.out]; exact Nat.mul_le_mul h2 h4
  have q1 : (W : Int) / 2 = (hw : Int) := by have := eW.out; omega
  have q2 : (H : Int) / 2 = (hh : Int) := by have := eH.out; omega
  have K := b3 w (.cells #[.int .i64 (W : Nat), .int .i64 (H : Nat)] 27) (.cells #[.int .i64 0, .int .i64 0] 27) (.cells #[.int .i64 (hw : Nat), .int .i64 (hh : Nat)] 27)
  obtain ⟨kz, ka, kb, kx, ky, kf, kg, kc, kd⟩ := K.get (Below.refl _ _)
  go_enter Try.func60, Try.ntmps60
  go_upto_region 2 with fail
  generalize hwA : ((w.alloc (.cells #[.int .i64 (W : Nat), .int .i64 (H : Nat)] 27)).alloc (.cells #[.int .i64 0, .int .i64 0] 27)).alloc (.cells #[.int .i64 (hw : Nat), .int .i64 (hh : Nat)] 27) = wA at *
  clear hwA q1 q2
  have bA := K.2.2.2.2
  have hmk := fun w => make_f32 w N (by omega)
  go_wp2_with fail
  refine (size_at hw hh N h1 (by omega) h3 (by omega) eN _).mono ?_
  rintro e wB ⟨rfl, hAB⟩
  have oN := Ow.made wB N (by unfold maxLen; omega)
  have bN := (Below.refl wB.heap.size wB).alloc (Nat.le_refl _) (.cells (madeCells #[.float .f32 0] N) 38)
  clear ka kb kx ky kf kg kc kd
  obtain ⟨_, ka, kb, kx, ky, kf, kg, kc, kd⟩ := K.get (hAB.trans (bN.mono hAB.size))
  go_upto_region 4 with fail
  clear ka kb kx ky kf kg kc kd hmk
  generalize hwN : wB.alloc (.cells (madeCells #[.float .f32 0] N) 38) = wN at *
  clear hwN
  go_loopw [25] (fun i wr => ∃ (y : Nat) (cs : List Nat), y ≤ hh ∧ i = .int .i64 y ∧ Ow wr wB.heap.size (some ⟨wB.heap.size, 0, none⟩) N cs ∧ Pt N 0 (hw * y) (coarseAt hw (rs.map (vf .f32))) cs ∧ Below wB.heap.size wB wr) (fun i _ => hh - (intOf i).toNat)
  case atStart => exact ⟨0, _, Nat.zero_le _, rfl, by simpa using oN, Pt.none (by simp) (by simp), bN⟩
  case round =>
    clear oN bN
    obtain ⟨y, cs, hy, rfl, ho, pt, hb⟩ := hrel
    obtain ⟨_, ka, kb, kx, ky, kf, kg, kc, kd⟩ := K.get (hAB.trans (hb.mono hAB.size))
    by_cases hlt : y < hh
    · go_wp2
      clear ka kb kx ky kf kg kc kd
      go_loopw [30] (fun i wr => ∃ (x : Nat) (cs : List Nat), x ≤ hw ∧ i = .int .i64 x ∧ Ow wr wB.heap.size (some ⟨wB.heap.size, 0, none⟩) N cs ∧ Pt N 0 (x + hw * y) (coarseAt hw (rs.map (vf .f32))) cs ∧ Below wB.heap.size wB wr) (fun i _ => hw - (intOf i).toNat)
      case atStart => exact ⟨0, cs, Nat.zero_le _, rfl, ho, by simpa using pt, hb⟩
      case round =>
        clear ho pt hb cs
        obtain ⟨x, cs, hx, rfl, ho, pt, hb⟩ := hrel
        by_cases hltx : x < hw
        · have bAr := hAB.trans (hb.mono hAB.size)
          have bT := bA.trans (bAr.mono bA.size)
          obtain ⟨kz, ka, kb, kx, ky, kf, kg, kc, kd⟩ := K.get bAr
          have hz0 : w.heap.size < wr.heap.size := by omega
          have hz2 : w.heap.size + 1 + 1 < wr.heap.size := by omega
          have zb : b < wr.heap.size := Nat.lt_of_lt_of_le hbw bT.size
          have gx : 2 * x + 1 < W := by have := eW.out; omega
          have gy : 2 * y + 1 < H := by have := eH.out; omega
          have hi3 : 2 * x + 1 + W * (2 * y + 1) < n := row_lt hn.out gx gy
          have hy2 : W * (2 * y) = 2 * hw * (2 * y) := by rw [eW.out]
          have hs : W * (2 * y + 1) = W * (2 * y) + W := by rw [Nat.mul_add, Nat.mul_one]
          obtain ⟨m, em⟩ : ∃ m, Hid (m = x + hw * y) := ⟨_, rfl⟩
          have hmN : m < N := by rw [em.out]; exact row_lt eN.out hltx hlt
          have hmI : Hid ((m : Int) = x + (hw : Int) * y) := by show _ = _; rw [em.out]; push_cast; rfl
          have f0 : ixF (hw : Int) (hh : Int) (x : Int) (y : Int) = (m : Int) := ixF_at hltx hlt em.out
          obtain ⟨i, hi⟩ : ∃ i, i = 2 * x + W * (2 * y) := ⟨_, rfl⟩
          have hiH : Hid (i = 2 * x + W * (2 * y)) := hi
          have f1 : ixF (W : Int) (H : Int) (2 * (x : Int)) (2 * (y : Int)) = (i : Int) := by
            have := ixF_at (W := W) (H := H) (x := 2 * x) (y := 2 * y) (i := i) (by omega) (by omega) hi
            simpa using this
          obtain ⟨i1, g1, f2, j1⟩ : ∃ j : Nat, j < n ∧ ixF (W : Int) (H : Int) (2 * (x : Int) + 1) (2 * (y : Int)) = (j : Int) ∧ Hid (j = i + 1) := ⟨i + 1, by omega, by
            have := ixF_at (W := W) (H := H) (x := 2 * x + 1) (y := 2 * y) (i := i + 1) (by omega) (by omega) (by omega)
            simpa using this, rfl⟩
          obtain ⟨i2, g2, f3, j2⟩ : ∃ j : Nat, j < n ∧ ixF (W : Int) (H : Int) (2 * (x : Int)) (2 * (y : Int) + 1) = (j : Int) ∧ Hid (j = i + W) := ⟨i + W, by omega, by
            have := ixF_at (W := W) (H := H) (x := 2 * x) (y := 2 * y + 1) (i := i + W) (by omega) (by omega) (by omega)
            simpa using this, rfl⟩
          obtain ⟨i3, g3, f4, j3⟩ : ∃ j : Nat, j < n ∧ ixF (W : Int) (H : Int) (2 * (x : Int) + 1) (2 * (y : Int) + 1) = (j : Int) ∧ Hid (j = i + W + 1) := ⟨i + W + 1, by omega, by
            have := ixF_at (W := W) (H := H) (x := 2 * x + 1) (y := 2 * y + 1) (i := i + W + 1) (by omega) (by omega) (by omega)
            simpa using this, rfl⟩
          have g0 : i < n := by omega
          have e1 : IntKind.i64.wrap (2 * (x : Int) + 1) = 2 * (x : Int) + 1 := IntWalk.i64_in _ (by omega)
          have e2 : IntKind.i64.wrap (2 * (y : Int) + 1) = 2 * (y : Int) + 1 := IntWalk.i64_in _ (by omega)
          obtain ⟨x0, v0, l0⟩ := HC.get hbw bT (k := i) (by rw [hl.out]; exact g0)
          obtain ⟨x1, v1, l1⟩ := HC.get hbw bT (k := i1) (by rw [hl.out]; exact g1)
          obtain ⟨x2, v2, l2⟩ := HC.get hbw bT (k := i2) (by rw [hl.out]; exact g2)
          obtain ⟨x3, v3, l3⟩ := HC.get hbw bT (k := i3) (by rw [hl.out]; exact g3)
          have dm := divmod_row (y := y) hltx
          have hval : Hid (coarseAt hw (rs.map (vf .f32)) m = fop .mul .f32 (some 1048576000) (fop .add .f32 (fop .add .f32 (fop .add .f32 ((rs.map (vf .f32)).getD i none) ((rs.map (vf .f32)).getD i1 none)) ((rs.map (vf .f32)).getD i2 none)) ((rs.map (vf .f32)).getD i3 none))) := by
            show _ = _
            rw [coarseAt, em.out, dm.1, dm.2, j1.out, j2.out, j3.out, hi, hy2, eW.out]
          rw [← em.out] at pt
          clear hi hy2 hs hi3 dm j1 j2 j3 kx ky kf kg hiH
          have hkc : Hid (wr.cell? ⟨w.heap.size + 1 + 1, 0, none⟩ = some (.int .i64 (hw : Nat)) ∧ wr.cell? ⟨w.heap.size + 1 + 1, 1, none⟩ = some (.int .i64 (hh : Nat))) := ⟨kc, kd⟩
          go_wp2
          refine wp_region_dem 35 (Below (wr.heap.size) wr) (calG) (by kernel_rfl) (by kernel_rfl) (Below.refl _ _).drew ?_
          simp only [List.take_succ_cons, List.take_zero, List.drop_succ_cons, List.drop_zero]
          repeat (first
            | (refine wpDem_flt rfl rfl rfl rfl rfl (fun _ n h => (below_drewN_iff _ _ _ n).2 h) (fun r hr => ?_); simp only [Act.put, List.setIfInBounds_toArray, List.set_cons_succ, List.set_cons_zero])
            | (refine wpDem_want rfl (fun K hK => ?_); intro w' hw'; obtain ⟨hc', hf'⟩ := bcellB hw'; go_simp; first | (refine hK _ ?_; clear hK K hc' hf' hw' w') | ((refine ⟨(index_any _ _ _ _ (by omega) (by omega) (by omega) (by omega) (by omega) (by omega) (by omega) (by omega) _).mono (by rintro e w'' ⟨rfl, hq⟩; exact ⟨_, rfl, by simp only [f1, f2, f3, f4], hw'.trans (hq.mono hw'.size)⟩), ?_⟩); refine hK _ ?_; clear hK K hc' hf' hw' w')))
          refine wpDem_nil ?_
          intro w2 hb2
          rename_i rA hA rB hB
          obtain ⟨sm, hsm⟩ : ∃ sm, sm = r := ⟨_, rfl⟩
          have hv3 : Hid (vf .f32 sm = fop .add .f32 (fop .add .f32 (fop .add .f32 ((rs.map (vf .f32)).getD i none) ((rs.map (vf .f32)).getD i1 none)) ((rs.map (vf .f32)).getD i2 none)) ((rs.map (vf .f32)).getD i3 none)) := by
            have a1 := hr.out
            rw [hB.out, hA.out, v0.out, v1.out, v2.out, v3.out] at a1
            show _ = _
            rw [hsm, a1]
          subst hsm
          clear hr hA hB v0 v1 v2 v3 l0 l1 l2 l3 e1 e2 ka kb kc kd
          have kc := (hb2.cell (p := ⟨w.heap.size + 1 + 1, 0, none⟩) hz2).trans hkc.out.1
          have kd := (hb2.cell (p := ⟨w.heap.size + 1 + 1, 1, none⟩) hz2).trans hkc.out.2
          have hz3 : w.heap.size + 1 + 1 < w2.heap.size := Nat.lt_of_lt_of_le hz2 hb2.size
          have o2 := ho.below hb2
          go_wp2_with (first
            | (go_at_call 50; refine (index_at (hw : Int) (hh : Int) m x y (by omega) (by omega) (by omega) (by omega) (by omega) (by omega) hmI.out _).mono ?_; rintro e w3 ⟨rfl, hb3⟩; obtain ⟨⟨y0, s0⟩, z0⟩ := (o2.below hb3).slot (k := m) (by rw [pt.len]; exact hmN))
            | (refine wpList_flt rfl rfl rfl rfl rfl (fun r n1 hr => ?_)))
          have hv : Hid (vf .f32 r = coarseAt hw (rs.map (vf .f32)) m) := by
            have a1 := hr.out
            rw [hv3.out, vf_quarter] at a1
            show _ = _
            rw [a1, hval.out]
          have o3 := (o2.below hb3).drewN n1
          go_roundw
          case rel => exact ⟨x + 1, _, by omega, by go_num, o3.set (by rw [pt.len]; exact hmN) r, by rw [show x + 1 + hw * y = m + 1 by have := em.out; omega]; exact pt.up hmN hv.out, (below_drewN ((hb.trans (hb2.mono hb.size)).trans (hb3.mono (Nat.le_trans hb.size hb2.size))) n1).setCell (p := ⟨wB.heap.size, m, none⟩) (Nat.le_refl _) _⟩
          case measure => simp [intOf]; omega
        · go_wp2
          obtain rfl : x = hw := by omega
          go_roundw
          case rel => exact ⟨y + 1, cs, by omega, by go_num, ho, by simpa [Nat.mul_succ, Nat.add_comm] using pt, hb⟩
          case measure => simp [intOf]; omega
    · obtain rfl : y = hh := by omega
      have r0 := kx
      have r1 := ky
      go_wp2
      have hge : w.heap.size + 3 ≤ wB.heap.size := by have := K.1; have := hAB.size; omega
      have hrow : ∀ b o s, some (⟨wB.heap.size, 0, none⟩ : Addr) = some ⟨b, o, s⟩ → b ≠ w.heap.size + 1 := fun b o s e => by cases e; omega
      rw [← eN.out] at pt
      exact bodyPost_ret (v := .tuple #[.agg #[.int .i64 (hw : Nat), .int .i64 (y : Nat)], .slice (some ⟨wB.heap.size, 0, none⟩) N N]) (by simp [results, Try.results60, go_sem, r0, r1]) rfl
        ⟨_, _, cs, by rw [eN.out], ((ho.mono (base' := w.heap.size) (by omega)).set_other (i := 0) hrow (.int .i64 (hw : Nat))).set_other (i := 1) hrow (.int .i64 (y : Nat)), by rw [pt.all, eN.out]; rfl,
          ((bA.trans ((hAB.trans (hb.mono hAB.size)).mono bA.size)).setCell (p := ⟨w.heap.size + 1, 0, none⟩) (by simp) (.int .i64 (hw : Nat))).setCell (p := ⟨w.heap.size + 1, 1, none⟩) (by simp) (.int .i64 (y : Nat))⟩

set_option maxHeartbeats 4000000 in
set_option maxRecDepth 100000 in
theorem fine_any (W H W2 H2 : Nat) (eW : Hid (W2 = 2 * W)) (eH : Hid (H2 = 2 * H)) (h1 : 4 ≤ W) (h2 : W ≤ 8) (h3 : 4 ≤ H) (h4 : H ≤ 8) (p : Option Addr) (c : Nat) (rs : List Nat) (n : Nat) (hn : Hid (n = W * H)) (hl : Hid (rs.length = n)) (w : World) (hr : Rd w p rs) :
    Calls Try.prog 52 #[.agg #[.int .i64 (W : Nat), .int .i64 (H : Nat)], .slice p n c] w fun e w' => BackG w w' e W2 H2 (W2 * H2) (fineF W H (rs.map (vf .f32))) := by
  have hW16 : W2 ≤ 16 := by have := eW.out; omega
  have hH16 : H2 ≤ 16 := by have := eH.out; omega
  have hW8 : 8 ≤ W2 := by have := eW.out; omega
  have hH8 : 8 ≤ H2 := by have := eH.out; omega
  have hnn : n ≤ 256 := by rw [hn.out]; exact Nat.le_trans (Nat.mul_le_mul h2 h4) (by omega)
  have hn0 : 0 < n := by rw [hn.out]; exact Nat.mul_pos (by omega) (by omega)
  obtain ⟨b, o, rfl, hbw, HC⟩ := hr.open_ (by rw [hl.out]; exact hn0)
  obtain ⟨N, eN⟩ : ∃ N, Hid (N = W2 * H2) := ⟨_, rfl⟩
  have hN : N ≤ 256 := by rw [eN.out]; exact Nat.mul_le_mul hW16 hH16
  have q1 : 2 * (W : Int) = (W2 : Int) := by have := eW.out; omega
  have q2 : 2 * (H : Int) = (H2 : Int) := by have := eH.out; omega
  have K := b3 w (.cells #[.int .i64 (W : Nat), .int .i64 (H : Nat)] 27) (.cells #[.int .i64 0, .int .i64 0] 27) (.cells #[.int .i64 (W2 : Nat), .int .i64 (H2 : Nat)] 27)
  obtain ⟨kz, ka, kb, kx, ky, kf, kg, kc, kd⟩ := K.get (Below.refl _ _)
  go_enter Try.func52, Try.ntmps52
  go_upto_region 2 with fail
  generalize hwA : ((w.alloc (.cells #[.int .i64 (W : Nat), .int .i64 (H : Nat)] 27)).alloc (.cells #[.int .i64 0, .int .i64 0] 27)).alloc (.cells #[.int .i64 (W2 : Nat), .int .i64 (H2 : Nat)] 27) = wA at *
  clear hwA q1 q2
  have bA := K.2.2.2.2
  have hmk := fun w => make_f32 w N (by omega)
  go_wp2_with fail
  refine (size_at W2 H2 N (by omega) hW16 (by omega) hH16 eN _).mono ?_
  rintro e wB ⟨rfl, hAB⟩
  have oN := Ow.made wB N (by unfold maxLen; omega)
  have bN := (Below.refl wB.heap.size wB).alloc (Nat.le_refl _) (.cells (madeCells #[.float .f32 0] N) 38)
  clear ka kb kx ky kf kg kc kd
  obtain ⟨_, ka, kb, kx, ky, kf, kg, kc, kd⟩ := K.get (hAB.trans (bN.mono hAB.size))
  go_upto_region 4 with fail
  clear ka kb kx ky kf kg kc kd hmk
  generalize hwN : wB.alloc (.cells (madeCells #[.float .f32 0] N) 38) = wN at *
  clear hwN
  go_loopw [22] (fun i wr => ∃ (y : Nat) (cs : List Nat), y ≤ H2 ∧ i = .int .i64 y ∧ Ow wr wB.heap.size (some ⟨wB.heap.size, 0, none⟩) N cs ∧ Pt N 0 (W2 * y) (fineAt W (rs.map (vf .f32))) cs ∧ Below wB.heap.size wB wr) (fun i _ => H2 - (intOf i).toNat)
  case atStart => exact ⟨0, _, Nat.zero_le _, rfl, by simpa using oN, Pt.none (by simp) (by simp), bN⟩
  case round =>
    clear oN bN
    obtain ⟨y, cs, hy, rfl, ho, pt, hb⟩ := hrel
    obtain ⟨_, ka, kb, kx, ky, kf, kg, kc, kd⟩ := K.get (hAB.trans (hb.mono hAB.size))
    by_cases hlt : y < H2
    · go_wp2
      clear ka kb kx ky kf kg kc kd
      go_loopw [27] (fun i wr => ∃ (x : Nat) (cs : List Nat), x ≤ W2 ∧ i = .int .i64 x ∧ Ow wr wB.heap.size (some ⟨wB.heap.size, 0, none⟩) N cs ∧ Pt N 0 (x + W2 * y) (fineAt W (rs.map (vf .f32))) cs ∧ Below wB.heap.size wB wr) (fun i _ => W2 - (intOf i).toNat)
      case atStart => exact ⟨0, cs, Nat.zero_le _, rfl, ho, by simpa using pt, hb⟩
      case round =>
        clear ho pt hb cs
        obtain ⟨x, cs, hx, rfl, ho, pt, hb⟩ := hrel
        by_cases hltx : x < W2
        · have bAr := hAB.trans (hb.mono hAB.size)
          have bT := bA.trans (bAr.mono bA.size)
          obtain ⟨kz, ka, kb, kx, ky, kf, kg, kc, kd⟩ := K.get bAr
          have hz0 : w.heap.size < wr.heap.size := by omega
          have hz2 : w.heap.size + 1 + 1 < wr.heap.size := by omega
          have zb : b < wr.heap.size := Nat.lt_of_lt_of_le hbw bT.size
          obtain ⟨m, em⟩ : ∃ m, Hid (m = x + W2 * y) := ⟨_, rfl⟩
          have hmN : m < N := by rw [em.out]; exact row_lt eN.out hltx hlt
          have f0 : ixF (W2 : Int) (H2 : Int) (x : Int) (y : Int) = (m : Int) := ixF_at hltx hlt em.out
          obtain ⟨xh, t1, s1, u1, d1⟩ : ∃ j : Nat, (x : Int).tdiv 2 = (j : Int) ∧ IntKind.i64.wrap (j : Int) = (j : Int) ∧ j < W ∧ Hid (j = x / 2) := ⟨x / 2, by rw [Int.tdiv_eq_ediv_of_nonneg (by omega)]; rfl, IntWalk.i64_in _ (by omega), by have := eW.out; omega, rfl⟩
          obtain ⟨yh, t2, s2, u2, d2⟩ : ∃ j : Nat, (y : Int).tdiv 2 = (j : Int) ∧ IntKind.i64.wrap (j : Int) = (j : Int) ∧ j < H ∧ Hid (j = y / 2) := ⟨y / 2, by rw [Int.tdiv_eq_ediv_of_nonneg (by omega)]; rfl, IntWalk.i64_in _ (by omega), by have := eH.out; omega, rfl⟩
          obtain ⟨i, hi⟩ : ∃ i, Hid (i = xh + W * yh) := ⟨_, rfl⟩
          have g0 : i < n := by rw [hi.out]; exact row_lt hn.out u1 u2
          have f1 : ixF (W : Int) (H : Int) (xh : Int) (yh : Int) = (i : Int) := ixF_at u1 u2 hi.out
          obtain ⟨x0, v0, l0⟩ := HC.get hbw bT (k := i) (by rw [hl.out]; exact g0)
          have dm := divmod_row (y := y) hltx
          have hv : Hid (vf .f32 x0 = fineAt W (rs.map (vf .f32)) m) := by
            show _ = _
            rw [fineAt, ← eW.out, em.out, dm.1, dm.2, v0.out, hi.out, d1.out, d2.out]
          rw [← em.out] at pt
          clear dm v0 kx ky kf kg
          go_wp2
          refine wp_region_dem 14 (Below (wr.heap.size) wr) (calG) (by kernel_rfl) (by kernel_rfl) (Below.refl _ _).drew ?_
          simp only [List.take_succ_cons, List.take_zero, List.drop_succ_cons, List.drop_zero]
          repeat (first
            | (refine wpDem_want rfl (fun K hK => ?_); intro w' hw'; obtain ⟨hc', hf'⟩ := bcellB hw'; go_simp; first | (refine hK _ ?_; clear hK K hc' hf' hw' w') | ((refine ⟨(index_any _ _ _ _ (by omega) (by omega) (by omega) (by omega) (by omega) (by omega) (by omega) (by omega) _).mono (by rintro e w'' ⟨rfl, hq⟩; exact ⟨_, rfl, by simp only [f0, f1], hw'.trans (hq.mono hw'.size)⟩), ?_⟩); refine hK _ ?_; clear hK K hc' hf' hw' w')))
          refine wpDem_nil ?_
          intro w2 hb2
          have o3 := ho.below hb2
          obtain ⟨⟨y0, s0⟩, z0⟩ := o3.slot (k := m) (by rw [pt.len]; exact hmN)
          clear ka kb kc kd l0 t1 t2 s1 s2
          go_wp2
          go_roundw
          case rel => exact ⟨x + 1, _, by omega, by go_num, o3.set (by rw [pt.len]; exact hmN) x0, by rw [show x + 1 + W2 * y = m + 1 by have := em.out; omega]; exact pt.up hmN hv.out, (hb.trans (hb2.mono hb.size)).setCell (p := ⟨wB.heap.size, m, none⟩) (Nat.le_refl _) _⟩
          case measure => simp [intOf]; omega
        · go_wp2
          obtain rfl : x = W2 := by omega
          go_roundw
          case rel => exact ⟨y + 1, cs, by omega, by go_num, ho, by simpa [Nat.mul_succ, Nat.add_comm] using pt, hb⟩
          case measure => simp [intOf]; omega
    · obtain rfl : y = H2 := by omega
      have r0 := kx
      have r1 := ky
      go_wp2
      have hge : w.heap.size + 3 ≤ wB.heap.size := by have := K.1; have := hAB.size; omega
      have hrow : ∀ b o s, some (⟨wB.heap.size, 0, none⟩ : Addr) = some ⟨b, o, s⟩ → b ≠ w.heap.size + 1 := fun b o s e => by cases e; omega
      rw [← eN.out] at pt
      exact bodyPost_ret (v := .tuple #[.agg #[.int .i64 (W2 : Nat), .int .i64 (y : Nat)], .slice (some ⟨wB.heap.size, 0, none⟩) N N]) (by simp [results, Try.results52, go_sem, r0, r1]) rfl
        ⟨_, _, cs, by rw [eN.out], ((ho.mono (base' := w.heap.size) (by omega)).set_other (i := 0) hrow (.int .i64 (W2 : Nat))).set_other (i := 1) hrow (.int .i64 (y : Nat)), by rw [pt.all, eN.out, fineF, ← eW.out, ← eH.out],
          ((bA.trans ((hAB.trans (hb.mono hAB.size)).mono bA.size)).setCell (p := ⟨w.heap.size + 1, 0, none⟩) (by simp) (.int .i64 (W2 : Nat))).setCell (p := ⟨w.heap.size + 1, 1, none⟩) (by simp) (.int .i64 (y : Nat))⟩
end Go.Proofs.Ytdafcgimkiepnaa.Half
