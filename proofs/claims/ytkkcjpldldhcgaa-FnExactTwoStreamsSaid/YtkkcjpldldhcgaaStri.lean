/-
  A cloud of two streams: the contract of the program's.
  Conditions: none.
-/
import Derived.Test.YtkkcjpldldhcgaaStr
namespace Go.Proofs.Ytkkcjpldldhcgaa.Str
open Go Go.RowKit Go.Proofs.Ytkkcjpldldhcgaa.Fl Go.Proofs.Ytkkcjpldldhcgaa.Reg Go.Proofs.Ytkkcjpldldhcgaa.Step Go.Proofs.Ytkkcjpldldhcgaa.Mem Go.Proofs.Ytkkcjpldldhcgaa.Help Go.Proofs.Ytkkcjpldldhcgaa.Grid Go.Proofs.Ytkkcjpldldhcgaa.App Go.Proofs.Ytkkcjpldldhcgaa.Level Go.Proofs.Ytkkcjpldldhcgaa.Law Go.Proofs.Ytkkcjpldldhcgaa.Fin Go.Proofs.Ytkkcjpldldhcgaa.Spring Go.Proofs.Ytkkcjpldldhcgaa.Part Go.Proofs.Ytkkcjpldldhcgaa.Pok Go.Proofs.Ytkkcjpldldhcgaa.Pow

def bkOf (args : Array Value) : Nat := match args.getD 0 undef with
  | .agg cs => (match cs.getD 4 undef with | .float _ b => b | _ => 0)
  | _ => 0
/-- What the calls of the last region hand back. -/
def calT (W H : Int) (g : Nat → Value) : FuncId → Array Value → Value → Prop := fun f args v => (f = 54 → v = .int .i64 (W * H)) ∧ (f = 55 → v = g (bkOf args))
attribute [local go_sem] calT bkOf

set_option maxHeartbeats 4000000 in
set_option maxRecDepth 100000 in
theorem impl_in (W H N M x : Nat) (eN : Hid (N = 2 * x)) (eM : Hid (M = W * H)) (h1 : 4 ≤ W) (h2 : W ≤ 16) (h3 : 4 ≤ H) (h4 : H ≤ 16) (hx1 : 1 ≤ x) (hx2 : x ≤ 24) (hvg : vgB W H = true) (hin : inB x 1 24 = true) (b : Nat) (w : World) :
    Calls Try.prog 29 #[.agg #[.int .i64 (W : Nat), .int .i64 (H : Nat)], .int .i64 (x : Nat), .float .f32 b] w fun e w' => StrBack w w' e W H N M b := by
  have hN : N ≤ 48 := by rw [eN.out]; omega
  have h2x : IntKind.i64.wrap (2 * (x : Int)) = (N : Int) := by
    have e : (2 * (x : Int)) = (N : Int) := by rw [eN.out]; push_cast; rfl
    rw [e]; exact IntWalk.i64_in _ (by omega)
  have hH0 := Hm.start w W H
  go_enter Try.func29, Try.ntmps29
  have hHc := hH0
  obtain ⟨_, k0, k1, _⟩ := hHc
  go_wp2_with fail
  generalize hwA : (w.alloc (.cells #[.int .i64 (W : Nat), .int .i64 (H : Nat)] 34)).alloc (.cells #[.int .i64 0, .int .i64 0, .slice none 0 0, .float .f32 0, .float .f32 0] 50) = wA at *
  clear hwA
  refine (ValidGrid_any W H _).mono ?_
  rw [hvg]
  rintro e w1 ⟨rfl, hb1⟩
  have hH1 := hH0.step (B := wA.heap.size) hH0.1 hb1
  clear k0 k1
  go_wp2_with fail
  refine (within_any (x : Nat) 1 24 _).mono ?_
  rw [hin]
  rintro e w9 ⟨rfl, rfl⟩
  clear hvg hin
  go_wp2
  go_loopw [9, 27] (fun l i wr => ∃ (k : Nat) (a : Option Addr) (cap : Nat) (ps : List Pa), k ≤ N ∧ i = .int .i64 k ∧ l = .slice a k cap ∧ Hm w W H wr ∧ POw wr (w.heap.size + 1 + 1) a cap ps ∧ ps.length = k ∧ ps.map pv = (List.range k).map (strV W H N b)) (fun _ i _ => N - (intOf i).toNat)
  case atStart => exact ⟨0, none, 0, [], Nat.zero_le _, rfl, rfl, hH1, POw.nil _ _, rfl, rfl⟩
  case round =>
    clear hH0 hH1 hb1
    obtain ⟨k, a, cap, ps, hk, rfl, rfl, hH, ho, hlen, hpv⟩ := hrel
    have HL : Hid (ps.length = k) := hlen
    clear hlen
    have hHb := hH
    obtain ⟨hsz, k0, k1, _⟩ := hHb
    by_cases hlt : k < N
    · obtain ⟨u, hu, q1⟩ : ∃ u, Hid (u = ownB b k) ∧ (((k : Int).tmod 2 = 0 ∧ u = b) ∨ ((k : Int).tmod 2 = 1 ∧ u = Op.negFloat .f32 b)) := by
        refine ⟨_, rfl, ?_⟩
        rw [Int.tmod_eq_emod_of_nonneg (by omega)]
        unfold ownB
        rcases Nat.mod_two_eq_zero_or_one k with h | h
        · left; exact ⟨by omega, by rw [if_pos h]⟩
        · right; exact ⟨by omega, by rw [if_neg (by omega)]⟩
      rcases q1 with ⟨q1, hub⟩ | ⟨q1, hub⟩
      · rw [hub] at hu
        clear hub
        go_upto_region 12 with (first | (refine wpList_flt (op := .quo) rfl rfl rfl rfl rfl (fun rq nq hq => ?_)) | (refine wpList_flt (op := .mul) (X := Operand.const (Value.float FloatKind.f32 1056964608)) rfl rfl rfl rfl rfl (fun r n hr => ?_)) | (refine wpList_flt (op := .mul) rfl rfl rfl rfl rfl (fun rx nx hx => ?_)))
        have hpp : Hid (pv ⟨rx, r, b, 0, 3212836864, 1065353216⟩ = strV W H N b k) := by
          refine pv_str _ _ _ _ _ _ _ _ ?_ ?_ hu.out
          · have a1 := hx.out
            rw [hq.out, vf_ofInt, vf_ofInt, vf_ofInt] at a1
            exact a1
          · have a1 := hr.out
            rw [vf_half, vf_ofInt] at a1
            exact a1
        clear hq hx hr k0 k1 q1
        have bD := below_drewN (Below.refl wr.heap.size wr) (nq + nx + n)
        generalize wr.drewN (nq + nx + n) = wD at *
        have oD := ho.below bD
        have szD := Nat.le_trans hsz bD.size
        have la := oD.lt
        go_wp2_with (at_builtin; refine wpList_papp (r := ⟨rx, r, b, 0, 3212836864, 1065353216⟩) rfl rfl rfl rfl rfl oD HL.out.symm (by have := HL.out; omega) szD (fun p' cap' w4 o4 hg4 hp4 => ?_); have b4 := below_of_gb hg4 (fun x hx => (la x hx).1) szD)
        go_roundw
        case rel =>
          refine ⟨k + 1, _, _, _, by omega, by go_num, rfl, hH.step (B := w.heap.size + 1 + 1) (Nat.le_refl _) ((bD.mono (by omega)).trans b4), o4, ?_, map_snoc hpv hpp.out⟩
          rw [List.length_append, HL.out]; rfl
        case measure => simp [intOf]; omega
      · rw [hub] at hu
        clear hub
        go_upto_region 12 with (first | (refine wpList_flt (op := .quo) rfl rfl rfl rfl rfl (fun rq nq hq => ?_)) | (refine wpList_flt (op := .mul) (X := Operand.const (Value.float FloatKind.f32 1056964608)) rfl rfl rfl rfl rfl (fun r n hr => ?_)) | (refine wpList_flt (op := .mul) rfl rfl rfl rfl rfl (fun rx nx hx => ?_)))
        have hpp : Hid (pv ⟨rx, r, (Op.negFloat .f32 b), 0, 3212836864, 1065353216⟩ = strV W H N b k) := by
          refine pv_str _ _ _ _ _ _ _ _ ?_ ?_ hu.out
          · have a1 := hx.out
            rw [hq.out, vf_ofInt, vf_ofInt, vf_ofInt] at a1
            exact a1
          · have a1 := hr.out
            rw [vf_half, vf_ofInt] at a1
            exact a1
        clear hq hx hr k0 k1 q1
        have bD := below_drewN (Below.refl wr.heap.size wr) (nq + nx + n)
        generalize wr.drewN (nq + nx + n) = wD at *
        have oD := ho.below bD
        have szD := Nat.le_trans hsz bD.size
        have la := oD.lt
        go_wp2_with (at_builtin; refine wpList_papp (r := ⟨rx, r, (Op.negFloat .f32 b), 0, 3212836864, 1065353216⟩) rfl rfl rfl rfl rfl oD HL.out.symm (by have := HL.out; omega) szD (fun p' cap' w4 o4 hg4 hp4 => ?_); have b4 := below_of_gb hg4 (fun x hx => (la x hx).1) szD)
        go_roundw
        case rel =>
          refine ⟨k + 1, _, _, _, by omega, by go_num, rfl, hH.step (B := w.heap.size + 1 + 1) (Nat.le_refl _) ((bD.mono (by omega)).trans b4), o4, ?_, map_snoc hpv hpp.out⟩
          rw [List.length_append, HL.out]; rfl
        case measure => simp [intOf]; omega
    · obtain rfl : k = N := by omega
      have hbr : ∀ {r : Nat}, Hid (vf .f32 r = fop .quo .f32 (vf .f32 (floatOfInt .f32 (k : Nat))) (vf .f32 (floatOfInt .f32 ((W : Int) * (H : Int))))) → vf .f32 r = backV k M := by
        intro r hr
        have e : ((W : Int) * (H : Int)) = (M : Int) := by rw [eM.out]; push_cast; rfl
        rw [hr.out, vf_ofInt, vf_ofInt, e]
        rfl
      have zz : w.heap.size < wr.heap.size := by omega
      cases hok : okStr W H k M b
      · go_upto_region 14 with fail
        refine wp_region_dem 11 (Below (wr.heap.size) wr) (calT W H (fun _ => .tuple #[.agg #[.int .i64 0, .int .i64 0, .slice none 0 0, .float .f32 0, .float .f32 0], .bool false])) (by kernel_rfl) (by kernel_rfl) (Below.refl _ _).drew ?_
        simp only [List.take_succ_cons, List.take_zero, List.drop_succ_cons, List.drop_zero]
        repeat (first
          | (refine wpDem_flt rfl rfl rfl rfl rfl (fun _ n h => (below_drewN_iff _ _ _ n).2 h) (fun r hr => ?_); simp only [Act.put, List.setIfInBounds_toArray, List.set_cons_succ, List.set_cons_zero])
          | (refine wpDem_want rfl (fun K hK => ?_); intro w' hw'; obtain ⟨hc', hf'⟩ := bcellB hw'; go_simp; first | (refine hK _ ?_; clear hK K hc' hf' hw' w') | ((first | (refine ⟨(size_any W H (by omega) (by omega) (by omega) (by omega) _).mono (by rintro e w'' ⟨rfl, hq⟩; exact ⟨_, rfl, by simp, hw'.trans (hq.mono hw'.size)⟩), ?_⟩) | (refine ⟨(with_any W H _ a cap ps 0 r k rfl HL hN _ (ho.rd.below hw')).mono (by rintro e w'' ⟨rfl, hq⟩; rw [okCl_str hpv (hbr hr), hok]; exact ⟨_, rfl, by simp [giveV, zeroCl], hw'.trans (hq.mono hw'.size)⟩), ?_⟩)); refine hK _ ?_; clear hK K hc' hf' hw' w')))
        refine wpDem_nil ?_
        intro w2 hb2
        have hH1 := hH.step hsz hb2
        have bH := hH1.2.2.2.2.2
        have o1 := POw.sets5 (ho.below hb2) (g := w.heap.size + 1) (by omega) (.int .i64 0) (.int .i64 0) (.slice none 0 0) (.float .f32 0) (.float .f32 0)
        have bb := StrBack.of hpv (hbr hr) HL.out hN (o1.mono (by omega)) (Below.sets5 bH (g := w.heap.size + 1) (Nat.le_succ _) (.int .i64 0) (.int .i64 0) (.slice none 0 0) (.float .f32 0) (.float .f32 0)) false (by rw [okCl_str hpv (hbr hr), hok])
        obtain ⟨-, -, -, ⟨z0, z1, z2, z3, z4⟩, ⟨f0, f1, f2, f3, f4⟩, -⟩ := hH1
        simp only [giveV, zeroCl] at bb
        have BB : Hid (StrBack w _ _ W H k M b) := bb
        clear hok hH bH o1 bb k0 k1 hr hbr
        go_wp2
        refine bodyPost_ret (v := .tuple #[zeroCl, .bool false]) (by simp [results, Try.results29, go_sem, z0, z1, z2, z3, z4, zeroCl]) rfl BB.out
      · go_upto_region 14 with fail
        refine wp_region_dem 11 (Below (wr.heap.size) wr) (calT W H (fun bk => .tuple #[.agg #[.int .i64 (W : Nat), .int .i64 (H : Nat), .slice a k cap, .float .f32 0, .float .f32 bk], .bool true])) (by kernel_rfl) (by kernel_rfl) (Below.refl _ _).drew ?_
        simp only [List.take_succ_cons, List.take_zero, List.drop_succ_cons, List.drop_zero]
        repeat (first
          | (refine wpDem_flt rfl rfl rfl rfl rfl (fun _ n h => (below_drewN_iff _ _ _ n).2 h) (fun r hr => ?_); simp only [Act.put, List.setIfInBounds_toArray, List.set_cons_succ, List.set_cons_zero])
          | (refine wpDem_want rfl (fun K hK => ?_); intro w' hw'; obtain ⟨hc', hf'⟩ := bcellB hw'; go_simp; first | (refine hK _ ?_; clear hK K hc' hf' hw' w') | ((first | (refine ⟨(size_any W H (by omega) (by omega) (by omega) (by omega) _).mono (by rintro e w'' ⟨rfl, hq⟩; exact ⟨_, rfl, by simp, hw'.trans (hq.mono hw'.size)⟩), ?_⟩) | (refine ⟨(with_any W H _ a cap ps 0 r k rfl HL hN _ (ho.rd.below hw')).mono (by rintro e w'' ⟨rfl, hq⟩; rw [okCl_str hpv (hbr hr), hok]; exact ⟨_, rfl, by simp [giveV, clV], hw'.trans (hq.mono hw'.size)⟩), ?_⟩)); refine hK _ ?_; clear hK K hc' hf' hw' w')))
        refine wpDem_nil ?_
        intro w2 hb2
        have hH1 := hH.step hsz hb2
        have bH := hH1.2.2.2.2.2
        have o1 := POw.sets5 (ho.below hb2) (g := w.heap.size + 1) (by omega) (.int .i64 (W : Nat)) (.int .i64 (H : Nat)) (.slice a k cap) (.float .f32 0) (.float .f32 r)
        have bb := StrBack.of hpv (hbr hr) HL.out hN (o1.mono (by omega)) (Below.sets5 bH (g := w.heap.size + 1) (Nat.le_succ _) (.int .i64 (W : Nat)) (.int .i64 (H : Nat)) (.slice a k cap) (.float .f32 0) (.float .f32 r)) true (by rw [okCl_str hpv (hbr hr), hok])
        obtain ⟨-, -, -, ⟨z0, z1, z2, z3, z4⟩, ⟨f0, f1, f2, f3, f4⟩, -⟩ := hH1
        simp only [giveV, clV] at bb
        have BB : Hid (StrBack w _ _ W H k M b) := bb
        clear hok hH bH o1 bb k0 k1 hr hbr
        go_wp2
        refine bodyPost_ret (v := .tuple #[clV W H (.slice a k cap) 0 r, .bool true]) (by simp [results, Try.results29, go_sem, z0, z1, z2, z3, z4, clV]) rfl BB.out
end Go.Proofs.Ytkkcjpldldhcgaa.Str
