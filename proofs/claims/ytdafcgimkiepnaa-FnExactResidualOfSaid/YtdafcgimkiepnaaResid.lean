/-
  The greatest absolute value of what is missing: contracts of the reference's and of the program's.
  Conditions: none.
-/
import Derived.Test.YtdafcgimkiepnaaRest
import Derived.Test.YtdafcgimkiepnaaAbs
import Derived.Test.YtdafcgimkiepnaaSame
import Derived.Laws.BitsAllLaws
namespace Go.Proofs.Ytdafcgimkiepnaa.Resid
open Go Go.RowKit Go.Proofs.Ytdafcgimkiepnaa.Fl Go.Proofs.Ytdafcgimkiepnaa.Reg Go.Proofs.Ytdafcgimkiepnaa.Step Go.Proofs.Ytdafcgimkiepnaa.Mem Go.Proofs.Ytdafcgimkiepnaa.Help Go.Proofs.Ytdafcgimkiepnaa.Grid Go.Proofs.Ytdafcgimkiepnaa.Mean Go.Proofs.Ytdafcgimkiepnaa.App Go.Proofs.Ytdafcgimkiepnaa.Level Go.Proofs.Ytdafcgimkiepnaa.Lap Go.Proofs.Ytdafcgimkiepnaa.Two Go.Proofs.Ytdafcgimkiepnaa.Rest Go.Proofs.Ytdafcgimkiepnaa.Abs Go.Proofs.Ytdafcgimkiepnaa.Same

theorem bits_x : Extern.findNext Try.f90 = none := by kernel_rfl
theorem bits_f : Extern.find Try.f90 = some Extern.MathFloatBits.float64bits := by kernel_rfl
theorem from_x : Extern.findNext Try.f89 = none := by kernel_rfl
theorem from_f : Extern.find Try.f89 = some Extern.MathFloatBits.float64frombits := by kernel_rfl
theorem run_bits (b : Nat) (w : World) : (callFunc 90 #[.float .f64 b]).run Try.prog w = .ok (.value (.int .u64 b)) w := by
  have hn : (Try.f90.name == "runtime.NumGoroutine") = false := by kernel_rfl
  have hb : Try.f90.body = none := by kernel_rfl
  have hn' : ¬ Try.f90.name = "runtime.NumGoroutine" := by simpa using hn
  have e : Extern.MathFloatBits.float64bits #[.float .f64 b] = pure (.int .u64 b) := rfl
  simp [callFunc, go_sem, Try.func90, hn', hb, bits_x, bits_f, e]
theorem run_from (n : Nat) (w : World) : (callFunc 89 #[.int .u64 (n : Nat)]).run Try.prog w = .ok (.value (.float .f64 n)) w := by
  have hn : (Try.f89.name == "runtime.NumGoroutine") = false := by kernel_rfl
  have hb : Try.f89.body = none := by kernel_rfl
  have hn' : ¬ Try.f89.name = "runtime.NumGoroutine" := by simpa using hn
  have e : Extern.MathFloatBits.float64frombits #[.int .u64 (n : Nat)] = pure (.float .f64 n) := rfl
  simp [callFunc, go_sem, Try.func89, hn', hb, from_x, from_f, e]
theorem Abs_any (b : Nat) (hb : b < 18446744073709551616) (w : World) :
    Calls Try.prog 75 #[.float .f64 b] w fun e w' => e = .returned (.float .f64 (b % 9223372036854775808)) ∧ w = w' := by
  have h1 := u64_andNot_nat b 9223372036854775808 hb (by omega)
  rw [show b &&& (18446744073709551615 - 9223372036854775808) = b % 9223372036854775808 from Nat.and_two_pow_sub_one_eq_mod b 63] at h1
  have h2 : bits .andNot .u64 (b : Int) 9223372036854775808 = ((b % 9223372036854775808 : Nat) : Int) := h1
  clear h1
  obtain ⟨m, hm⟩ : ∃ m, m = b % 9223372036854775808 := ⟨_, rfl⟩
  rw [← hm] at h2 ⊢
  clear hm
  have r1 := run_bits
  have r2 := run_from
  go_enter Try.func75, Try.ntmps75
  go_wp2
  go_ret
  exact ⟨rfl, rfl⟩

def resTo : Nat → List (Option Nat) → Option Nat
  | out, [] => some out
  | _, none :: _ => none
  | out, some x :: xs => resTo (stepV out x) xs
/-- The numbers are words of 32 bits. -/
def Bd (L : List (Option Nat)) : Prop := ∀ k x, L.getD k none = some x → x < 4294967296
theorem write_lt (d : Ieee.Datum) : FloatKind.f32.format.write d < 4294967296 := by
  have e2 : FloatKind.f32.format.signWeight = 2147483648 := by decide
  have e3 : FloatKind.f32.format.infRung = 2139095040 := by decide
  have e4 : FloatKind.f32.format.binade = 8388608 := by decide
  have hw : ∀ s r, r < 2147483648 → FloatKind.f32.format.word s r < 4294967296 := by
    intro s r h
    unfold Ieee.Format.word
    rw [e2]
    split <;> omega
  unfold Ieee.Format.write
  split
  · unfold Ieee.Format.nearest
    dsimp only
    rw [e3]
    split
    · exact hw _ _ (by omega)
    · exact hw _ _ (by omega)
  · exact hw _ _ (by rw [e3]; omega)
  · exact hw _ _ (by rw [e3, e4]; omega)
theorem enc64_lt (d : Ieee.Datum) : FloatKind.f64.encode d < 18446744073709551616 := by
  have e2 : FloatKind.f64.format.signWeight = 9223372036854775808 := by decide
  have e3 : FloatKind.f64.format.infRung = 9218868437227405312 := by decide
  have e4 : FloatKind.f64.format.binade = 4503599627370496 := by decide
  have hw : ∀ s r, r < 9223372036854775808 → FloatKind.f64.format.word s r < 18446744073709551616 := by
    intro s r h
    unfold Ieee.Format.word
    rw [e2]
    split <;> omega
  show FloatKind.f64.format.write d < _
  unfold Ieee.Format.write
  split
  · unfold Ieee.Format.nearest
    dsimp only
    rw [e3]
    split
    · exact hw _ _ (by omega)
    · exact hw _ _ (by omega)
  · exact hw _ _ (by rw [e3]; omega)
  · exact hw _ _ (by rw [e3, e4]; omega)
theorem u64s : (Try.prog.underlying 42).isSome = true := by rw [Try.underlying42]; rfl
theorem fop_lt {op : BinOp} {a b : Option Nat} {x : Nat} (h : fop op .f32 a b = some x) : x < 4294967296 := by
  unfold fop at h
  cases a with
  | none => cases h
  | some a =>
    cases b with
    | none => cases h
    | some b =>
      simp only [Option.bind_some] at h
      unfold floatBits at h
      have key : ∀ o : Option Ieee.Datum, o.map FloatKind.f32.format.write = some x → x < 4294967296 := by
        intro o ho
        cases o with
        | none => cases ho
        | some d => cases ho; exact write_lt d
      split at h
      · exact key _ h
      · exact key _ h
      · exact key _ h
      · exact key _ h
      · cases h
theorem rest_bd (W H : Int) (vs cs : List (Option Nat)) : Bd (restF W H vs cs) := by
  intro k x h
  by_cases hk : k < cs.length
  · have : (restF W H vs cs).getD k none = restAt W H vs cs k := by simp [restF, List.getD, hk]
    rw [this] at h
    exact fop_lt h
  · have : (restF W H vs cs).getD k none = none := by simp [restF, List.getD, hk]
    rw [this] at h; cases h
theorem drop_get {L : List (Option Nat)} {k : Nat} (h : k < L.length) : L.drop k = L.getD k none :: L.drop (k + 1) := by
  rw [List.drop_eq_getElem_cons h]
  simp [List.getD, h]

theorem wpList_neg {P : Program} {ops : Array Oper} {Q : Exit → Act → World → Prop} {a : Act} {w : World} {rest : List Oper} {o : Oper} {t : TypeId} {X : Operand} {x z : Nat} (hg : o.guard = none) (ho : o.op = .unOp .neg t X) (hX : a.eval X = .float .f32 x) (hz : Op.negFloat .f32 x = z)
    (h : wpList P ops Q rest (a.put o.dst (.float .f32 z)) w) : wpList P ops Q (o :: rest) a w := by
  refine wpList_plain hg fun K hK => ?_
  unfold Oper.wp
  have e : (execOp a.eval o).run P w = .ok (.value (.float .f32 z)) w := by
    unfold execOp
    simp [ho, hX, Op.unary, hz]
  rw [e]
  exact hK _ _ h
/-- What the greatest absolute value is told by. -/
def ResBack (w w' : World) (e : Ending) (L : List (Option Nat)) : Prop := ∃ r, e = .returned (.tuple #[.float .f32 r, .bool true]) ∧ vf .f32 r = resTo 0 L ∧ Below w.heap.size w w'

set_option maxHeartbeats 2000000 in
theorem spec_in (W H : Nat) (p1 p2 : Option Addr) (c1 c2 : Nat) (rs ss : List Nat) (n : Nat) (h1 : 4 ≤ W) (h2 : W ≤ 16) (h3 : 4 ≤ H) (h4 : H ≤ 16) (hn : Hid (n = W * H)) (l1 : Hid (rs.length = n)) (l2 : Hid (ss.length = n)) (hfit : fitB W H n = true) (w : World) (hr : Rd w p1 rs) (hs : Rd w p2 ss) :
    Calls Try.prog 40 #[.agg #[.int .i64 (W : Nat), .int .i64 (H : Nat)], .slice p1 n c1, .slice p2 n c2] w fun e w' => ResBack w w' e (restF W H (rs.map (vf .f32)) (ss.map (vf .f32))) := by
  have hnn : n ≤ 256 := by rw [hn.out]; exact Nat.mul_le_mul h2 h4
  have hn0 : 0 < n := by rw [hn.out]; exact Nat.mul_pos (by omega) (by omega)
  have hG0 := GI.start w W H
  have hlen : (restF W H (rs.map (vf .f32)) (ss.map (vf .f32))).length = n := by simp [restF, l2.out]
  have hbd := rest_bd W H (rs.map (vf .f32)) (ss.map (vf .f32))
  obtain ⟨L, hL⟩ : ∃ L, Hid (restF W H (rs.map (vf .f32)) (ss.map (vf .f32)) = L) := ⟨_, rfl⟩
  rw [hL.out] at hlen hbd ⊢
  have HL : Hid (L.length = n) := hlen
  clear hlen
  go_enter Try.func40, Try.ntmps40
  go_wp2_with fail
  refine (l03Fits_any w.heap.size W H p1 n c1 (by omega) _ (by simp) (by simp) (by simp)).mono ?_
  rw [hfit]
  rintro e w1 ⟨rfl, hb1⟩
  have hG1 := hG0.step hb1
  go_wp2_with fail
  refine (l03Fits_any w.heap.size W H p2 n c2 (by omega) _ (by have := hG1.size; omega) hG1.c0 hG1.c1).mono ?_
  rw [hfit]
  rintro e w2 ⟨rfl, hb2⟩
  have hG2 := hG1.step hb2
  go_wp2_with fail
  refine (l03Rest_any w.heap.size W H p1 p2 c1 c2 rs ss n h1 h2 h3 h4 hn l1 l2 _ (by have := hG2.size; omega) hG2.c0 hG2.c1 (hr.below hG2.below) (hs.below hG2.below)).mono ?_
  rintro e w3 ⟨q, cap, xs, rfl, ho, hv, hb3⟩
  rw [hL.out] at hv
  have pt := Pt.of_eq hv HL.out
  have hB := (hG2.step hb3).below
  have ho := ho.mono hG2.below.size
  clear hv hfit hG0 hG1 hG2 hb1 hb2 hb3
  go_wp2
  go_loopw [8, 25] (fun s i wr => ∃ (k out : Nat), k ≤ n ∧ i = .int .i64 k ∧ s = .float .f32 out ∧ Pos out ∧ Hid (resTo out (L.drop k) = resTo 0 L) ∧ Ow wr w.heap.size q cap xs ∧ Below w.heap.size w wr) (fun _ i _ => n - (intOf i).toNat)
  case atStart => exact ⟨0, 0, Nat.zero_le _, rfl, rfl, Pos.zero, rfl, ho, hB⟩
  case round =>
    clear ho hB
    obtain ⟨k, out, hk, rfl, rfl, hp, hres, ho, hb⟩ := hrel
    by_cases hlt : k < n
    · obtain ⟨g, rfl⟩ : ∃ g, q = some ⟨g, 0, none⟩ := by obtain ⟨g, hg, _⟩ := ho.cells (by rw [pt.len]; exact hn0); exact ⟨g, hg⟩
      obtain ⟨x, v, c0⟩ := ho.get pt (k := k) (by omega) hlt hlt
      have hdr := drop_get (L := L) (k := k) (by rw [HL.out]; exact hlt)
      cases hz : L.getD k none with
      | none =>
        have hx : (FloatKind.f32.decode x).isNaN = true := by
          have := v.out
          rw [hz] at this
          unfold vf at this
          split at this
          · assumption
          · cases this
        have t1 : (FloatKind.f32.format.order x 0 == some .lt) = false := by rw [order_none hx]; rfl
        have t2 : (FloatKind.f32.format.order x x != some .eq) = true := by rw [order_none hx]; rfl
        have hfin : Hid (resTo 0 L = none) := by
          show _ = _
          rw [← hres.out, hdr, hz]; rfl
        have hvx : Hid (vf .f32 x = none) := by show _ = _; rw [v.out, hz]
        clear hx hdr hz v
        go_wp2
        go_ret2
        exact ⟨x, rfl, by rw [hvx.out, hfin.out], hb⟩
      | some y =>
        have hx : (FloatKind.f32.decode x).isNaN = false ∧ y = x := by
          have := v.out
          rw [hz] at this
          unfold vf at this
          split at this
          · cases this
          · rename_i h
            exact ⟨by simpa using h, by cases this; rfl⟩
        obtain ⟨hx, rfl⟩ := hx
        have hlt32 := hbd k y hz
        have hstep : Hid (resTo (stepV out y) (L.drop (k + 1)) = resTo 0 L) := by
          show _ = _
          rw [← hres.out, hdr, hz]; rfl
        have hps := hp.step hx
        have hss := spec_step hp hlt32 hx
        clear hdr hz v hres hlt32
        cases t1 : (FloatKind.f32.format.order y 0 == some .lt)
        · obtain ⟨hzn, hst⟩ := hss y (by rw [t1]; simp)
          have t2 : (FloatKind.f32.format.order y y != some .eq) = false := by rw [order_self hzn]; rfl
          cases t3 : (FloatKind.f32.format.order y out == some .gt)
          · have hnew : Hid (stepV out y = out) := by show _ = _; rw [← hst, t3]; simp
            rw [hnew.out] at hstep
            clear hss hst hzn hx hps
            go_wp2
            go_roundw
            case rel => exact ⟨k + 1, out, by omega, by go_num, rfl, hp, hstep, ho, hb⟩
            case measure => simp [intOf]; omega
          · have hnew : Hid (stepV out y = y) := by show _ = _; rw [← hst, t3]; simp
            rw [hnew.out] at hstep hps
            clear hss hst hzn hx
            go_wp2
            go_roundw
            case rel => exact ⟨k + 1, y, by omega, by go_num, rfl, hps, hstep, ho, hb⟩
            case measure => simp [intOf]; omega
        · obtain ⟨z, hz⟩ : ∃ z, z = y ^^^ 2 ^ 31 := ⟨_, rfl⟩
          obtain ⟨hzn, hst⟩ := hss z (by rw [t1, hz]; simp)
          have eN : Op.negFloat .f32 y = z := by rw [hz]; rfl
          have t2 : (FloatKind.f32.format.order z z != some .eq) = false := by rw [order_self hzn]; rfl
          cases t3 : (FloatKind.f32.format.order z out == some .gt)
          · have hnew : Hid (stepV out y = out) := by show _ = _; rw [← hst, t3]; simp
            rw [hnew.out] at hstep
            clear hss hst hzn hx hps hz
            go_wp2_with (refine wpList_neg rfl rfl rfl eN ?_)
            go_roundw
            case rel => exact ⟨k + 1, out, by omega, by go_num, rfl, hp, hstep, ho, hb⟩
            case measure => simp [intOf]; omega
          · have hnew : Hid (stepV out y = z) := by show _ = _; rw [← hst, t3]; simp
            rw [hnew.out] at hstep hps
            clear hss hst hzn hx hz
            go_wp2_with (refine wpList_neg rfl rfl rfl eN ?_)
            go_roundw
            case rel => exact ⟨k + 1, z, by omega, by go_num, rfl, hps, hstep, ho, hb⟩
            case measure => simp [intOf]; omega
    · obtain rfl : k = n := by omega
      have hfin : Hid (resTo 0 L = some out) := by
        show _ = _
        rw [← hres.out, List.drop_of_length_le (by rw [HL.out]; exact Nat.le_refl _)]; rfl
      have hvo : Hid (vf .f32 out = some out) := by show _ = _; unfold vf; rw [hp.2]; rfl
      go_wp2
      go_ret2
      exact ⟨out, rfl, by rw [hvo.out, hfin.out], hb⟩

set_option maxHeartbeats 2000000 in
theorem impl_in (W H : Nat) (p1 : Option Addr) (bc : Nat) (c1 c2 : Nat) (rs ss : List Nat) (n : Nat) (h1 : 4 ≤ W) (h2 : W ≤ 16) (h3 : 4 ≤ H) (h4 : H ≤ 16) (hn : Hid (n = W * H)) (l1 : Hid (rs.length = n)) (l2 : Hid (ss.length = n)) (hfit : fitB W H n = true) (w : World) (hr : Rd w p1 rs) (hs : Rd w (some ⟨bc, 0, none⟩) ss) :
    Calls Try.prog 41 #[.agg #[.int .i64 (W : Nat), .int .i64 (H : Nat)], .slice p1 n c1, .slice (some ⟨bc, 0, none⟩) n c2] w fun e w' => ResBack w w' e (restF W H (rs.map (vf .f32)) (ss.map (vf .f32))) := by
  have hnn : n ≤ 256 := by rw [hn.out]; exact Nat.mul_le_mul h2 h4
  have hn0 : 0 < n := by rw [hn.out]; exact Nat.mul_pos (by omega) (by omega)
  have hG0 := GI.start w W H
  have hlen : (restF W H (rs.map (vf .f32)) (ss.map (vf .f32))).length = n := by simp [restF, l2.out]
  have hbd := rest_bd W H (rs.map (vf .f32)) (ss.map (vf .f32))
  obtain ⟨L, hL⟩ : ∃ L, Hid (restF W H (rs.map (vf .f32)) (ss.map (vf .f32)) = L) := ⟨_, rfl⟩
  rw [hL.out] at hlen hbd ⊢
  have HL : Hid (L.length = n) := hlen
  clear hlen
  go_enter Try.func41, Try.ntmps41
  go_wp2_with fail
  refine (areFields_any W H p1 (some ⟨bc, 0, none⟩) n n c1 c2 (by omega) (by omega) _).mono ?_
  rw [show fit2 W H n n = true by simp [fit2, hfit]]
  rintro e w1 ⟨rfl, hb1⟩
  have hG1 := hG0.step hb1
  have k0 := hG1.c0
  have k1 := hG1.c1
  clear hfit
  go_wp2_with fail
  clear k0 k1
  refine (rest_any W H p1 bc c1 c2 rs ss n h1 h2 h3 h4 hn l1 l2 _ (hr.below hG1.below) (hs.below hG1.below)).mono ?_
  rintro e w3 ⟨q, cap, xs, rfl, ho, hv, hb3⟩
  rw [hL.out] at hv
  have pt := Pt.of_eq hv HL.out
  have hB := (hG1.step hb3).below
  have ho := ho.mono hG1.below.size
  clear hv hG0 hG1 hb1 hb3
  go_wp2
  go_loopw [8, 21] (fun s i wr => ∃ (k out : Nat), k ≤ n ∧ i = .int .i64 k ∧ s = .float .f32 out ∧ Pos out ∧ Hid (resTo out (L.drop k) = resTo 0 L) ∧ Ow wr w.heap.size q cap xs ∧ Below w.heap.size w wr) (fun _ i _ => n - (intOf i).toNat)
  case atStart => exact ⟨0, 0, Nat.zero_le _, rfl, rfl, Pos.zero, rfl, ho, hB⟩
  case round =>
    clear ho hB
    obtain ⟨k, out, hk, rfl, rfl, hp, hres, ho, hb⟩ := hrel
    by_cases hlt : k < n
    · obtain ⟨g, rfl⟩ : ∃ g, q = some ⟨g, 0, none⟩ := by obtain ⟨g, hg, _⟩ := ho.cells (by rw [pt.len]; exact hn0); exact ⟨g, hg⟩
      obtain ⟨x, v, c0⟩ := ho.get pt (k := k) (by omega) hlt hlt
      have hdr := drop_get (L := L) (k := k) (by rw [HL.out]; exact hlt)
      cases hz : L.getD k none with
      | none =>
        have hx : (FloatKind.f32.decode x).isNaN = true := by
          have := v.out
          rw [hz] at this
          unfold vf at this
          split at this
          · assumption
          · cases this
        have t2 : (FloatKind.f32.format.order x x != some .eq) = true := by rw [order_none hx]; rfl
        have hfin : Hid (resTo 0 L = none) := by
          show _ = _
          rw [← hres.out, hdr, hz]; rfl
        have hvx : Hid (vf .f32 x = none) := by show _ = _; rw [v.out, hz]
        clear hx hdr hz v
        go_wp2
        go_ret2
        exact ⟨x, rfl, by rw [hvx.out, hfin.out], hb⟩
      | some y =>
        have hx : (FloatKind.f32.decode x).isNaN = false ∧ y = x := by
          have := v.out
          rw [hz] at this
          unfold vf at this
          split at this
          · cases this
          · rename_i h
            exact ⟨by simpa using h, by cases this; rfl⟩
        obtain ⟨hx, rfl⟩ := hx
        have hstep : Hid (resTo (stepV out y) (L.drop (k + 1)) = resTo 0 L) := by
          show _ = _
          rw [← hres.out, hdr, hz]; rfl
        have hps := hp.step hx
        have t2 : (FloatKind.f32.format.order y y != some .eq) = false := by rw [order_self hx]; rfl
        have hwid : Hid (wid (vf .f32 y) = some (FloatKind.f64.encode (FloatKind.f32.decode y))) := by
          show _ = _
          rw [v.out, hz]; rfl
        have hE : FloatKind.f64.encode (FloatKind.f32.decode y) < 18446744073709551616 := enc64_lt _
        clear hdr hz v hres
        go_wp2_with (refine wpList_widen (src := 38) (dst := 42) rfl rfl rfl u32s Try.underlying42 (fun r n1 hv => ?_))
        obtain rfl : r = FloatKind.f64.encode (FloatKind.f32.decode y) := by
          have := hv.out
          rw [hwid.out] at this
          unfold vf at this
          split at this
          · cases this
          · cases this; rfl
        obtain ⟨E, hEE⟩ : ∃ E, E = FloatKind.f64.encode (FloatKind.f32.decode y) := ⟨_, rfl⟩
        have hnar := fun w => run_narrow (P := Try.prog) w 42 38 u64s Try.underlying38 hx
        have hmax := fun w => run_max (P := Try.prog) w #[38, 38] 38 hp hx
        rw [← hEE] at hnar hE ⊢
        clear hEE
        obtain ⟨M, hM⟩ : ∃ M, M = E % 9223372036854775808 := ⟨_, rfl⟩
        have hab := Abs_any E hE (wr.drewN n1)
        rw [← hM] at hnar hab
        obtain ⟨A, hA⟩ : ∃ A, A = y % 2147483648 := ⟨_, rfl⟩
        rw [← hA] at hnar hmax
        obtain ⟨Z, hZ⟩ : ∃ Z, Z = stepV out y := ⟨_, rfl⟩
        rw [← hZ] at hmax hps hstep
        clear hM hA hZ
        refine hab.mono ?_
        rintro e w5 ⟨rfl, rfl⟩
        clear hab
        go_wp2
        go_roundw
        case rel => exact ⟨k + 1, Z, by omega, by go_num, rfl, hps, hstep, ho.drewN n1, below_drewN hb n1⟩
        case measure => simp [intOf]; omega
    · obtain rfl : k = n := by omega
      have hfin : Hid (resTo 0 L = some out) := by
        show _ = _
        rw [← hres.out, List.drop_of_length_le (by rw [HL.out]; exact Nat.le_refl _)]; rfl
      have hvo : Hid (vf .f32 out = some out) := by show _ = _; unfold vf; rw [hp.2]; rfl
      go_wp2
      go_ret2
      exact ⟨out, rfl, by rw [hvo.out, hfin.out], hb⟩
end Go.Proofs.Ytdafcgimkiepnaa.Resid
