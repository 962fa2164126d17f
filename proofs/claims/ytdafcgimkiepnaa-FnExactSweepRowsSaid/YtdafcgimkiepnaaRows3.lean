/-
  All rows solved, one after another: contract of the program's.
  Conditions: none.
-/
import Derived.Test.YtdafcgimkiepnaaRows2
namespace Go.Proofs.Ytdafcgimkiepnaa.SRows
open Go Go.RowKit Go.Proofs.Ytdafcgimkiepnaa.Fl Go.Proofs.Ytdafcgimkiepnaa.Reg Go.Proofs.Ytdafcgimkiepnaa.Step Go.Proofs.Ytdafcgimkiepnaa.Mem Go.Proofs.Ytdafcgimkiepnaa.Help Go.Proofs.Ytdafcgimkiepnaa.Grid Go.Proofs.Ytdafcgimkiepnaa.Index Go.Proofs.Ytdafcgimkiepnaa.Near Go.Proofs.Ytdafcgimkiepnaa.Mean Go.Proofs.Ytdafcgimkiepnaa.App Go.Proofs.Ytdafcgimkiepnaa.Level Go.Proofs.Ytdafcgimkiepnaa.Lap Go.Proofs.Ytdafcgimkiepnaa.Law Go.Proofs.Ytdafcgimkiepnaa.Two Go.Proofs.Ytdafcgimkiepnaa.Row Go.Proofs.Ytdafcgimkiepnaa.Rep Go.Proofs.Ytdafcgimkiepnaa.Ring

def aggAt (v : Value) (i : Nat) : Int := match v with | .agg a => intOf (a.getD i undef) | _ => 0
def calG : FuncId → Array Value → Value → Prop := fun _ args v => v = .int .i64 (ixF (aggAt (args.getD 0 undef) 0) (aggAt (args.getD 0 undef) 1) (intOf (args.getD 1 undef)) (intOf (args.getD 2 undef)))
attribute [local go_sem] intOf aggAt calG

set_option maxHeartbeats 4000000 in
set_option maxRecDepth 100000 in
theorem impl_in (W H : Nat) (bv bc : Nat) (c1 c2 : Nat) (rs ss : List Nat) (n : Nat) (h1 : 4 ≤ W) (h2 : W ≤ 16) (h3 : 4 ≤ H) (h4 : H ≤ 16) (hn : Hid (n = W * H)) (l1 : Hid (rs.length = n)) (l2 : Hid (ss.length = n)) (hfit : fitB W H n = true) (w : World) (hr : Rd w (some ⟨bv, 0, none⟩) rs) (hs : Rd w (some ⟨bc, 0, none⟩) ss) :
    Calls Try.prog 43 #[.agg #[.int .i64 (W : Nat), .int .i64 (H : Nat)], .slice (some ⟨bv, 0, none⟩) n c1, .slice (some ⟨bc, 0, none⟩) n c2] w fun e w' => BackT w w' e true (rowsTo W H (levelF (ss.map (vf .f32))) (rs.map (vf .f32)) H) := by
  have hnn : n ≤ 256 := by rw [hn.out]; exact Nat.mul_le_mul h2 h4
  have hn0 : 0 < n := by rw [hn.out]; exact Nat.mul_pos (by omega) (by omega)
  have hG0 := GI.start w W H
  obtain ⟨X, hX⟩ : ∃ X, Hid (rs.map (vf .f32) = X) := ⟨_, rfl⟩
  obtain ⟨L, hL⟩ : ∃ L, Hid (levelF (ss.map (vf .f32)) = L) := ⟨_, rfl⟩
  rw [hX.out, hL.out]
  have lX : Hid (X.length = n) := by show _ = _; rw [← hX.out]; simpa using l1.out
  have lL : Hid (L.length = n) := by show _ = _; rw [← hL.out]; simpa [levelF] using l2.out
  go_enter Try.func43, Try.ntmps43
  go_wp2_with fail
  refine (areFields_any W H _ _ n n c1 c2 (by omega) (by omega) _).mono ?_
  rw [show fit2 W H n n = true by simp [fit2, hfit]]
  rintro e w2 ⟨rfl, hb2⟩
  have hG2 := hG0.step hb2
  clear hfit
  go_wp2_with fail
  have hc := Clone_any bv c1 rs w2 (by rw [l1.out]; exact hn0) (by rw [l1.out]; omega) (hr.below hG2.below)
  rw [l1.out] at hc
  refine hc.mono ?_
  rintro e w3 ⟨q, cap, rfl, ho, hb3⟩
  have hG3 := hG2.step hb3
  go_wp2_with fail
  have hc2 := withoutMean_any bc c2 ss w3 (by rw [l2.out]; exact hn0) (by rw [l2.out]; omega) (hs.below hG3.below)
  rw [l2.out] at hc2
  refine hc2.mono ?_
  rintro e w4 ⟨q2, cap2, ls, rfl, ol, vl, hb4⟩
  have hG4 := hG3.step hb4
  rw [hL.out] at vl
  have pl := Pt.of_eq vl lL.out
  obtain ⟨g, rfl⟩ : ∃ g, q = some ⟨g, 0, none⟩ := by obtain ⟨g, hg, _⟩ := ho.cells (by rw [l1.out]; exact hn0); exact ⟨g, hg⟩
  obtain ⟨gl, rfl⟩ : ∃ g, q2 = some ⟨g, 0, none⟩ := by obtain ⟨g, hg, _⟩ := ol.cells (by rw [pl.len]; exact hn0); exact ⟨g, hg⟩
  have hg1 : w2.heap.size ≤ g ∧ g < w3.heap.size := ho.lt _ rfl
  have hg2 : w3.heap.size ≤ gl := (ol.lt _ rfl).1
  have hgl : gl ≠ g := by omega
  have hgw : w.heap.size + 1 ≤ g := by have := hG2.size; omega
  have hcap : n ≤ cap := by have := ho.length_le; rw [l1.out] at this; exact this
  have ho := (ho.mono (base' := w.heap.size + 1) hG2.size).below hb4
  have ol := ol.mono (base' := w.heap.size + 1) hG3.size
  have HX0 : Hid (rs.map (vf .f32) = rowsTo W H L X 0) := by show _ = _; rw [hX.out]; rfl
  have k0 := hG4.c0
  have k1 := hG4.c1
  clear hc hc2 vl hb2 hb3 hb4 hG0 hG2 hG3 hg1 hg2
  go_wp2
  clear k0 k1
  go_loopw [26] (fun i wr => ∃ (y : Nat) (os : List Nat), y ≤ H ∧ i = .int .i64 y ∧ Ow wr (w.heap.size + 1) (some ⟨g, 0, none⟩) cap os ∧ Hid (os.map (vf .f32) = rowsTo W H L X y) ∧ Ow wr (w.heap.size + 1) (some ⟨gl, 0, none⟩) cap2 ls ∧ GI w W H wr) (fun i _ => H - (intOf i).toNat)
  case atStart => exact ⟨0, rs, Nat.zero_le _, rfl, ho, HX0, ol, hG4⟩
  case round =>
    clear ho ol hG4 HX0
    obtain ⟨y, os, hy, rfl, ho, hv, ol, hG⟩ := hrel
    obtain ⟨A, hA⟩ : ∃ A, Hid (rowsTo W H L X y = A) := ⟨_, rfl⟩
    have lA : Hid (A.length = n) := by show _ = _; rw [← hA.out]; simpa using lX.out
    have pA := Pt.of_eq (hv.out.trans hA.out) lA.out
    have k0 := hG.c0
    have k1 := hG.c1
    by_cases hlt : y < H
    · obtain ⟨wo, rfl⟩ : ∃ wo : World, wo = wr := ⟨_, rfl⟩
      have hmk := fun w => make_f32 w W (by omega)
      have oS := Ow.made wo W (by unfold maxLen; omega)
      have bS := (Below.refl wo.heap.size wo).alloc (Nat.le_refl _) (.cells (madeCells #[.float .f32 0] W) 38)
      have kA := (hG.step bS).c0
      go_wp2
      clear k0 k1 hmk kA
      go_loopw [34] (fun i wr => ∃ (x : Nat) (qs : List Nat), x ≤ W ∧ i = .int .i64 x ∧ Ow wr wo.heap.size (some ⟨wo.heap.size, 0, none⟩) W qs ∧ Pt W 0 x (rowRAt W H L A y) qs ∧ Below wo.heap.size wo wr) (fun i _ => W - (intOf i).toNat)
      case atStart => exact ⟨0, _, Nat.zero_le _, rfl, by simpa using oS, Pt.none (by simp) (Nat.le_refl _), bS⟩
      case round =>
        clear oS bS
        obtain ⟨x, qs, hx, rfl, oq, pq, hb⟩ := hrel
        have hGr := hG.step hb
        by_cases hltx : x < W
        · have hin : x + W * y < n := row_lt hn.out hltx hlt
          obtain ⟨i, hi⟩ : ∃ i, i = x + W * y := ⟨_, rfl⟩
          rw [← hi] at hin
          have hI : Hid (i = x + W * y) := hi
          have f1 : ixF (W : Int) (H : Int) (x : Int) (y : Int) = (i : Int) := by rw [ixF_in (by omega) (by omega), hi]; push_cast; rfl
          obtain ⟨f2, f3⟩ := nb_up h1 h2 h3 h4 hltx hi
          have m2 : nbN W H i 2 < n := nbN_lt (by omega) (by omega) (by omega) (by omega) (by rw [hn.out]; push_cast; rfl) i 2
          have m3 : nbN W H i 3 < n := nbN_lt (by omega) (by omega) (by omega) (by omega) (by rw [hn.out]; push_cast; rfl) i 3
          obtain ⟨i2, j2⟩ : ∃ k, Hid (nbN W H i 2 = k) := ⟨_, rfl⟩
          obtain ⟨i3, j3⟩ : ∃ k, Hid (nbN W H i 3 = k) := ⟨_, rfl⟩
          rw [j2.out] at m2 f2
          rw [j3.out] at m3 f3
          have e1 : IntKind.i64.wrap ((y : Int) - 1) = (y : Int) - 1 := IntWalk.i64_in _ (by omega)
          have e2 : IntKind.i64.wrap ((y : Int) + 1) = (y : Int) + 1 := IntWalk.i64_in _ (by omega)
          have k0 := hGr.c0
          have k1 := hGr.c1
          have zw : w.heap.size < wr.heap.size := by have := hGr.size; omega
          have o5 := ho.below hb
          have ol5 := ol.below hb
          obtain ⟨xa, va, ca⟩ := ol5.get pl (k := i) (by omega) hin hin
          obtain ⟨xb, vb, cb⟩ := o5.get pA (k := i2) (by omega) m2 m2
          obtain ⟨xc, vc, cc⟩ := o5.get pA (k := i3) (by omega) m3 m3
          have zl : gl < wr.heap.size := (ol5.lt _ rfl).2
          have zg : g < wr.heap.size := (o5.lt _ rfl).2
          clear hi
          go_wp2
          refine wp_region_dem 27 (Below (wr.heap.size) wr) (calG) (by kernel_rfl) (by kernel_rfl) (Below.refl _ _).drew ?_
          simp only [List.take_succ_cons, List.take_zero, List.drop_succ_cons, List.drop_zero]
          repeat (first
            | (refine wpDem_flt rfl rfl rfl rfl rfl (fun _ n h => (below_drewN_iff _ _ _ n).2 h) (fun r hr => ?_); simp only [Act.put, List.setIfInBounds_toArray, List.set_cons_succ, List.set_cons_zero])
            | (refine wpDem_want rfl (fun K hK => ?_); intro w' hw'; obtain ⟨hc', hf'⟩ := bcellB hw'; go_simp; first | (refine hK _ ?_; clear hK K hc' hf' hw' w') | ((refine ⟨(index_any _ _ _ _ (by omega) (by omega) (by omega) (by omega) (by omega) (by omega) (by omega) (by omega) _).mono (by rintro e w'' ⟨rfl, hq⟩; exact ⟨_, rfl, by simp only [f1, f2, f3], hw'.trans (hq.mono hw'.size)⟩), ?_⟩); refine hK _ ?_; clear hK K hc' hf' hw' w')))
          refine wpDem_nil ?_
          intro w2 hb2
          rename_i rA hA1
          have hval : Hid (vf .f32 r = rowRAt W H L A y x) := by
            have a1 := hr.out
            rw [hA1.out, va.out, vb.out, vc.out] at a1
            show _ = _
            rw [a1, rowRAt, ← hI.out, j2.out, j3.out]
          clear hr hA1 ca cb cc va vb vc f1 f2 f3 e1 e2 k0 k1
          have oq2 := oq.below hb2
          obtain ⟨⟨y0, s0⟩, z0⟩ := oq2.slot (k := x) (by rw [pq.len]; exact hltx)
          go_wp2
          go_roundw
          case rel => exact ⟨x + 1, _, by omega, by go_num, oq2.set (by rw [pq.len]; exact hltx) r, pq.up hltx hval.out, (hb.trans (hb2.mono hb.size)).setCell (p := ⟨wo.heap.size, x, none⟩) (Nat.le_refl _) _⟩
          case measure => simp [intOf]; omega
        · obtain rfl : W = x := by omega
          have hgo : g < wr.heap.size := Nat.lt_of_lt_of_le (ho.lt _ rfl).2 hb.size
          have ho := ho.below hb
          have ol := ol.below hb
          go_wp2_with fail
          refine (solveRing_in (some ⟨wo.heap.size, 0, none⟩) W qs W (rowR W H L A y) (by omega) (by omega) pq.len (by show _ = _; rw [pq.all]; rfl) _ oq.rd).mono ?_
          rintro e w5 ⟨q5, cap5, rw5, rfl, o5, v5, _, b5⟩
          have p5 := Pt.of_eq v5 (length_ringF _ _)
          have l5 : Hid (rw5.length = W) := p5.len
          have V5 : Hid (rw5.map (vf .f32) = ringF W (rowR W H L A y)) := v5
          obtain ⟨gr, rfl⟩ : ∃ g, q5 = some ⟨g, 0, none⟩ := by obtain ⟨g, hg, _⟩ := o5.cells (by rw [p5.len]; omega); exact ⟨g, hg⟩
          have ho := ho.below b5
          have ol := ol.below b5
          have hG5 := hGr.step b5
          have HA : Hid (putRow W A y (ringF W (rowR W H L A y)) = rowsTo W H L X (y + 1)) := by show _ = _; rw [rowsTo, hA.out]
          have hrow : W * y + W ≤ n := by
            have e1 : W * (y + 1) ≤ W * H := Nat.mul_le_mul_left _ hlt
            rw [Nat.mul_succ] at e1
            have := hn.out
            omega
          obtain ⟨m, hm⟩ : ∃ m, m = W * y := ⟨_, rfl⟩
          rw [← hm] at hrow
          have HM : Hid (m = W * y) := hm
          have hmI : Hid ((m : Int) = ((0 : Nat) : Int) + (W : Int) * y) := by show _ = _; rw [hm]; push_cast; omega
          clear hm
          have k0 := hG5.c0
          have k1 := hG5.c1
          have hcm : ¬ cap = m := by omega
          clear oq pq hb hGr b5 v5
          rw [l5.out]
          go_wp2_with (first
            | (go_at_call 50; refine (index_at (W : Int) (H : Int) m 0 y (by omega) (by omega) (by omega) (by omega) (by omega) (by omega) hmI.out _).mono ?_; rintro e w6 ⟨rfl, hb6⟩; have ho6 := ho.below hb6; have hsp : ∃ b o, (some ⟨gr, 0, none⟩ : Option Addr) = some ⟨b, o, none⟩ ∧ Cells w6 b o rw5 := (by obtain ⟨b, o, e1, _, e2⟩ := (o5.below hb6).rd.open_ (by have := l5.out; omega); exact ⟨b, o, e1, e2⟩))
            | (refine wpList_copyG (ns := rw5) (off := m) (dLen := n - m) (sLen := W) (by rfl) (by rfl) (by rfl) (by rfl) ho6 (by have := l5.out; simp only [Nat.min_def]; split <;> omega) hsp (by have := l5.out; have := pA.len; omega) (fun w7 ho7 hg7 => ?_)))
          have hz7 : w.heap.size + 1 ≤ w6.heap.size := (hG5.step hb6).size
          have hfin : Hid ((os.take m ++ (rw5 ++ os.drop (m + rw5.length))).map (vf .f32) = rowsTo W H L X (y + 1)) := by
            show _ = _
            rw [← HA.out, ← put_copy (by omega) hlt hn.out lA.out (length_ringF _ _), ← HM.out, List.map_append, List.map_append, List.map_take, List.map_drop, hv.out, hA.out, V5.out, l5.out]
          go_roundw
          case rel => exact ⟨y + 1, _, by omega, by go_num, ho7, hfin.out, (ol.below hb6).gb hg7 (fun a e => by cases e; simpa using hgl), Below.trans (hG5.step hb6) (below_gb_some hg7 hgw hz7)⟩
          case measure => simp [intOf]; omega
    · obtain rfl : y = H := by omega
      go_wp2
      go_ret2
      exact BackT.of (ho.mono (by omega)) hv.out pA.len (by omega) hG.below
end Go.Proofs.Ytdafcgimkiepnaa.SRows
