/-
  float32(math.Abs(float64(x))) is x without its sign. Plain lemmas, for every program.
  Conditions: none.
-/
import Derived.Test.YtdafcgimkiepnaaFl
namespace Go.Proofs.Ytdafcgimkiepnaa.Abs
open Go Go.RowKit Go.Proofs.Ytdafcgimkiepnaa.Fl

/-- A float32 number without its sign: its bits. -/
theorem decode32_parts {x : Nat} {s : Bool} {m : Nat} {p : Int} (h : FloatKind.f32.decode x = .number s m p) :
    m < 16777216 ∧ -149 ≤ p ∧ p ≤ 104 ∧ ((p = -149 ∧ m = x % 2147483648 ∧ m < 8388608) ∨ (8388608 ≤ m ∧ ((p + 149).toNat + 1) * 8388608 + (m - 8388608) = x % 2147483648)) := by
  unfold FloatKind.decode Ieee.Format.read at h
  have e1 : FloatKind.f32.format.binade = 8388608 := by decide
  have e2 : FloatKind.f32.format.signWeight = 2147483648 := by decide
  have e3 : FloatKind.f32.format.infRung = 2139095040 := by decide
  have e4 : FloatKind.f32.format.leastPlace = -149 := by decide
  rw [e1, e2, e3, e4] at h
  dsimp only at h
  split at h
  · simp only [Ieee.Datum.number.injEq] at h
    obtain ⟨_, h1, h2⟩ := h
    refine ⟨by omega, by omega, by omega, Or.inl ⟨by omega, by omega, by omega⟩⟩
  · split at h
    · simp only [Ieee.Datum.number.injEq] at h
      obtain ⟨_, h1, h2⟩ := h
      refine ⟨by omega, by omega, by omega, Or.inr ⟨by omega, by omega⟩⟩
    · split at h <;> cases h

theorem cut_exact (way : Ieee.Toward) (neg : Bool) (m t : Nat) : way.cut neg (m * 2 ^ t) t = m := by
  unfold Ieee.Toward.cut
  by_cases hm : m = 0
  · subst hm
    cases way <;> simp
  have hlog : min t ((m * 2 ^ t).log2 + 2) = t := by
    have h1 : t ≤ (m * 2 ^ t).log2 := by
      rw [Nat.le_log2 (Nat.mul_ne_zero hm (by have := Nat.two_pow_pos t; omega))]
      exact Nat.le_mul_of_pos_left _ (by omega)
    omega
  have hg : (1 : Nat) <<< t = 2 ^ t := by rw [Nat.shiftLeft_eq, Nat.one_mul]
  have hp : 0 < 2 ^ t := Nat.two_pow_pos t
  simp only [hlog, hg, Nat.mul_mod_left, Nat.mul_div_cancel _ hp]
  cases way <;> simp <;> omega

theorem decode64_of {q M : Nat} (h1 : 2 ^ 52 ≤ M) (h2 : M < 2 ^ 53) (hq : q ≤ 1149) : FloatKind.f64.decode (q * 4503599627370496 + M) = .number false M (-1074 + q) := by
  unfold FloatKind.decode Ieee.Format.read
  have e1 : FloatKind.f64.format.binade = 4503599627370496 := by decide
  have e2 : FloatKind.f64.format.signWeight = 9223372036854775808 := by decide
  have e3 : FloatKind.f64.format.infRung = 9218868437227405312 := by decide
  have e4 : FloatKind.f64.format.leastPlace = -1074 := by decide
  rw [e1, e2, e3, e4]
  have h3 : (2 : Nat) ^ 52 = 4503599627370496 := by decide
  have h4 : (2 : Nat) ^ 53 = 9007199254740992 := by decide
  rw [h3] at h1
  rw [h4] at h2
  have a1 : (q * 4503599627370496 + M) / 9223372036854775808 % 2 = 0 := by omega
  have a2 : (q * 4503599627370496 + M) % 9223372036854775808 = q * 4503599627370496 + M := by omega
  dsimp only
  rw [a1, a2, if_neg (by omega), if_pos (by omega)]
  have a3 : 4503599627370496 + (q * 4503599627370496 + M) % 4503599627370496 = M := by omega
  have a4 : (q * 4503599627370496 + M) / 4503599627370496 - 1 = q := by omega
  rw [a3, a4]
  rfl

theorem alg (B t m X : Nat) (c1 : B ≤ m) (c2 : (t + 1) * B + (m - B) = X) : t * B + m = X := by
  rw [Nat.succ_mul] at c2
  omega
theorem narrow_number {x : Nat} {s : Bool} {m : Nat} {p : Int} (h : FloatKind.f32.decode x = .number s m p) :
    ∃ m' p', FloatKind.f64.decode (FloatKind.f64.encode (.number s m p) % 9223372036854775808) = .number false m' p' ∧ FloatKind.f32.encode (.number false m' p') = x % 2147483648 := by
  obtain ⟨b1, b2, b3, b4⟩ := decode32_parts h
  have e : FloatKind.f64.encode (.number s m p) = FloatKind.f64.format.nearest s m p := rfl
  have e4 : FloatKind.f64.format.signWeight = 9223372036854775808 := by decide
  rw [e, ← e4]
  by_cases hm : m = 0
  · subst hm
    have : FloatKind.f64.format.nearest s 0 p = FloatKind.f64.format.word s 0 := rfl
    rw [this, word_mod _ _ (by decide)]
    refine ⟨0, -1074, by decide, ?_⟩
    have : FloatKind.f32.encode (.number false 0 (-1074)) = 0 := by decide
    rw [this]
    omega
  · obtain ⟨h4, h5⟩ := nearest64 s hm b1 b2 b3
    have hlog := log2_lt24 hm b1
    have h6 : (2 : Nat) ^ 53 = 9007199254740992 := by decide
    have h7 : (p + (m.log2 : Int) - 52 + 1074).toNat ≤ 1149 := by omega
    have hlo : 2 ^ m.log2 ≤ m := Nat.log2_self_le hm
    have hM : m <<< (52 - m.log2) = m * 2 ^ (52 - m.log2) := Nat.shiftLeft_eq _ _
    have hge : 2 ^ 52 ≤ m <<< (52 - m.log2) := by
      rw [hM]
      calc 2 ^ 52 = 2 ^ m.log2 * 2 ^ (52 - m.log2) := by rw [← Nat.pow_add]; congr 1; omega
        _ ≤ m * 2 ^ (52 - m.log2) := Nat.mul_le_mul_right _ hlo
    have hword : FloatKind.f64.format.word s ((p + m.log2 - 52 + 1074).toNat * 4503599627370496 + m <<< (52 - m.log2)) % FloatKind.f64.format.signWeight = (p + m.log2 - 52 + 1074).toNat * 4503599627370496 + m <<< (52 - m.log2) := word_mod _ _ (by rw [e4]; omega)
    rw [h4, hword]
    refine ⟨_, _, decode64_of hge h5 h7, ?_⟩
    have e5 : FloatKind.f32.encode (.number false (m <<< (52 - m.log2)) (-1074 + ((p + (m.log2 : Int) - 52 + 1074).toNat : Int))) = FloatKind.f32.format.nearest false (m <<< (52 - m.log2)) (-1074 + ((p + (m.log2 : Int) - 52 + 1074).toNat : Int)) := rfl
    rw [e5]
    have hP : -1074 + ((p + (m.log2 : Int) - 52 + 1074).toNat : Int) = p + m.log2 - 52 := by omega
    rw [hP]
    unfold Ieee.Format.nearest
    have hMn : m <<< (52 - m.log2) ≠ 0 := by have : (0 : Nat) < 2 ^ 52 := by decide
                                             omega
    have hL : (m <<< (52 - m.log2)).log2 = 52 := (Nat.log2_eq_iff hMn).2 ⟨hge, h5⟩
    rw [if_neg hMn]
    have f0 : FloatKind.f32.format.fractionBits = 23 := by decide
    have f1 : FloatKind.f32.format.binade = 8388608 := by decide
    have f3 : FloatKind.f32.format.infRung = 2139095040 := by decide
    have f5 : FloatKind.f32.format.leastPlace = -149 := by decide
    dsimp only
    rw [hL, f0, f1, f3, f5]
    have hlast : max (p + (m.log2 : Int) - 52 + (52 : Nat) - (23 : Nat)) (-149) = p := by
      rcases b4 with ⟨c1, _, c3⟩ | ⟨c1, _⟩
      · have : m.log2 < 23 := (Nat.log2_lt hm).2 (by omega)
        omega
      · have : ¬ m.log2 < 23 := fun hh => by have := (Nat.log2_lt hm).1 hh; omega
        omega
    rw [hlast]
    have d1 : (p + (m.log2 : Int) - 52 - p).toNat = 0 := by omega
    have d2 : (p - (p + (m.log2 : Int) - 52)).toNat = 52 - m.log2 := by omega
    rw [d1, d2, Nat.shiftLeft_zero, hM, cut_exact]
    have d3 : (p - -149).toNat = (p + 149).toNat := by omega
    rw [d3]
    have hle : (p + 149).toNat * 8388608 + m ≤ 2139095040 := by omega
    rw [Nat.min_eq_left hle]
    have hw : ∀ r, FloatKind.f32.format.word false r = r := fun r => by simp [Ieee.Format.word]
    rw [hw]
    rcases b4 with ⟨c1, c2, c3⟩ | ⟨c1, c2⟩
    · rw [← c2, c1]; simp
    · exact alg 8388608 _ _ _ c1 c2

/-! ### the greatest absolute value -/
def absD : Ieee.Datum → Ieee.Datum
  | .number _ m p => .number false m p
  | .infinity _ => .infinity false
  | .nan _ t => .nan false t
theorem decode_abs (x : Nat) : FloatKind.f32.decode (x % 2147483648) = absD (FloatKind.f32.decode x) := by
  unfold FloatKind.decode Ieee.Format.read
  have e2 : FloatKind.f32.format.signWeight = 2147483648 := by decide
  rw [e2]
  have h1 : x % 2147483648 % 2147483648 = x % 2147483648 := Nat.mod_mod _ _
  have h2 : x % 2147483648 / 2147483648 % 2 = 0 := by omega
  dsimp only
  rw [h1, h2]
  split
  · rfl
  · split
    · rfl
    · split <;> rfl
theorem decode_sign {x : Nat} (hx : x < 4294967296) : (∀ m p s, FloatKind.f32.decode x = .number s m p → s = decide (2147483648 ≤ x)) ∧ (∀ s, FloatKind.f32.decode x = .infinity s → s = decide (2147483648 ≤ x)) := by
  unfold FloatKind.decode Ieee.Format.read
  have e2 : FloatKind.f32.format.signWeight = 2147483648 := by decide
  rw [e2]
  have h2 : (x / 2147483648 % 2 == 1) = decide (2147483648 ≤ x) := by
    rw [Bool.eq_iff_iff]
    simp only [beq_iff_eq, decide_eq_true_eq]
    omega
  dsimp only
  rw [h2]
  constructor
  · intro m p s h
    split at h
    · cases h; rfl
    · split at h
      · cases h; rfl
      · split at h <;> cases h
  · intro s h
    split at h
    · cases h
    · split at h
      · cases h
      · split at h
        · cases h; rfl
        · cases h
theorem xor_top {x : Nat} (h1 : 2147483648 ≤ x) (h2 : x < 4294967296) : x ^^^ 2 ^ 31 = x % 2147483648 := by
  obtain ⟨y, hy, rfl⟩ : ∃ y, y < 2 ^ 31 ∧ x = 2 ^ 31 + y := ⟨x - 2147483648, by omega, by omega⟩
  have e : (2 ^ 31 + y) % 2147483648 = y := by
    have : (2 : Nat) ^ 31 = 2147483648 := by decide
    omega
  rw [e]
  apply Nat.eq_of_testBit_eq
  intro i
  rw [Nat.testBit_xor, Nat.testBit_two_pow]
  rcases Nat.lt_trichotomy i 31 with hi | hi | hi
  · rw [Nat.testBit_two_pow_add_gt hi]
    have : decide (31 = i) = false := by simp; omega
    rw [this, Bool.xor_false]
  · subst hi
    rw [Nat.testBit_two_pow_add_eq, Nat.testBit_lt_two_pow hy]
    rfl
  · have h3 : (2 : Nat) ^ 32 ≤ 2 ^ i := Nat.pow_le_pow_right (by decide) hi
    have h4 : (2 : Nat) ^ 31 + y < 2 ^ i := by
      have : (2 : Nat) ^ 32 = 4294967296 := by decide
      have : (2 : Nat) ^ 31 = 2147483648 := by decide
      omega
    have h5 : y < 2 ^ i := by omega
    rw [Nat.testBit_lt_two_pow h4, Nat.testBit_lt_two_pow h5]
    have : decide (31 = i) = false := by simp; omega
    rw [this]; rfl

/-- A number of no sign, or infinity. -/
def Pos (y : Nat) : Prop := y < 2147483648 ∧ (FloatKind.f32.decode y).isNaN = false
theorem Pos.cases {y : Nat} (h : Pos y) : (∃ n j, FloatKind.f32.decode y = .number false n j) ∨ FloatKind.f32.decode y = .infinity false := by
  have hs := decode_sign (x := y) (by have := h.1; omega)
  have h1 : decide (2147483648 ≤ y) = false := by have := h.1; simp; omega
  cases hd : FloatKind.f32.decode y with
  | number s m p => rw [hs.1 m p s hd, h1]; exact Or.inl ⟨m, p, rfl⟩
  | infinity s => rw [hs.2 s hd, h1]; exact Or.inr rfl
  | nan s t => have := h.2; rw [hd] at this; cases this
theorem Pos.zero : Pos 0 := ⟨by decide, by decide⟩
theorem Pos.abs {x : Nat} (h : (FloatKind.f32.decode x).isNaN = false) : Pos (x % 2147483648) := by
  refine ⟨Nat.mod_lt _ (by decide), ?_⟩
  rw [decode_abs]
  cases hd : FloatKind.f32.decode x <;> first | rfl | (rw [hd] at h; cases h)

def stepV (out x : Nat) : Nat := if (FloatKind.f32.format.order (x % 2147483648) out == some .gt) = true then x % 2147483648 else out
theorem Pos.step {out x : Nat} (h : Pos out) (hx : (FloatKind.f32.decode x).isNaN = false) : Pos (stepV out x) := by
  unfold stepV
  split
  · exact Pos.abs hx
  · exact h
theorem order_def (x y : Nat) : FloatKind.f32.format.order x y = (FloatKind.f32.decode x).order (FloatKind.f32.decode y) := rfl
theorem signed_nonneg (m k : Nat) : 0 ≤ Ieee.signed false m k := by
  simp only [Ieee.signed, Bool.false_eq_true, if_false]
  exact Int.natCast_nonneg _
theorem zero_not_gt {s : Bool} {p : Int} {out : Nat} (h : Pos out) : ((Ieee.Datum.number s 0 p).order (FloatKind.f32.decode out) == some .gt) = false := by
  rcases h.cases with ⟨n, j, hd⟩ | hd
  · rw [hd]
    have hz : ∀ k, Ieee.signed s 0 k = 0 := fun k => by cases s <;> simp [Ieee.signed]
    simp only [Ieee.Datum.order, hz]
    have := signed_nonneg n (j - min p j).toNat
    rcases Int.lt_or_eq_of_le this with h1 | h1
    · have : compare (0 : Int) (Ieee.signed false n (j - min p j).toNat) = .lt := by simp [compare, compareOfLessAndEq, h1]
      rw [this]; rfl
    · rw [← h1]; rfl
  · rw [hd]; rfl
/-- The reference's step. -/
theorem spec_step {out x : Nat} (ho : Pos out) (hx : x < 4294967296) (hn : (FloatKind.f32.decode x).isNaN = false) :
    (∀ y, y = (if (FloatKind.f32.format.order x 0 == some .lt) = true then x ^^^ 2 ^ 31 else x) → (FloatKind.f32.decode y).isNaN = false ∧ (if (FloatKind.f32.format.order y out == some .gt) = true then y else out) = stepV out x) := by
  intro y hy
  have hs := decode_sign hx
  have h0 : FloatKind.f32.decode 0 = .number false 0 (-149) := by decide
  have pa := Pos.abs hn
  have big : decide (2147483648 ≤ x) = true → (FloatKind.f32.format.order x 0 == some .lt) = true → y = x % 2147483648 := by
    intro h1 h2
    rw [hy, if_pos h2]
    exact xor_top (by simpa using h1) hx
  have small : decide (2147483648 ≤ x) = false → (FloatKind.f32.format.order x 0 == some .lt) = false → y = x % 2147483648 := by
    intro h1 h2
    rw [hy, if_neg (by rw [h2]; simp)]
    have : ¬ 2147483648 ≤ x := by simpa using h1
    omega
  have fin : y = x % 2147483648 → (FloatKind.f32.decode y).isNaN = false ∧ (if (FloatKind.f32.format.order y out == some .gt) = true then y else out) = stepV out x := by
    intro e
    rw [e]
    exact ⟨pa.2, rfl⟩
  cases hd : FloatKind.f32.decode x with
  | nan s t => rw [hd] at hn; cases hn
  | infinity s =>
    have e1 := hs.2 s hd
    cases s with
    | true => exact fin (big e1.symm (by rw [order_def, hd, h0]; rfl))
    | false => exact fin (small e1.symm (by rw [order_def, hd, h0]; rfl))
  | number s m p =>
    have e1 := hs.1 m p s hd
    have ez : ∀ k, Ieee.signed false 0 k = 0 := fun k => by simp [Ieee.signed]
    cases s with
    | true =>
      by_cases hm : m = 0
      · subst hm
        have ez' : ∀ k, Ieee.signed true 0 k = 0 := fun k => by simp [Ieee.signed]
        have hlt : (FloatKind.f32.format.order x 0 == some .lt) = false := by
          rw [order_def, hd, h0]
          simp only [Ieee.Datum.order, ez, ez']
          rfl
        have hyx : y = x := by rw [hy, if_neg (by rw [hlt]; simp)]
        subst hyx
        refine ⟨hn, ?_⟩
        have g1 : (FloatKind.f32.format.order y out == some .gt) = false := by rw [order_def, hd]; exact zero_not_gt ho
        have g2 : (FloatKind.f32.format.order (y % 2147483648) out == some .gt) = false := by rw [order_def, decode_abs, hd]; exact zero_not_gt ho
        unfold stepV
        rw [g1, g2]
        simp
      · refine fin (big e1.symm ?_)
        rw [order_def, hd, h0]
        simp only [Ieee.Datum.order, ez]
        have hneg : Ieee.signed true m (p - min p (-149)).toNat < 0 := by
          simp only [Ieee.signed, if_true]
          have : 0 < m <<< (p - min p (-149)).toNat := by rw [Nat.shiftLeft_eq]; exact Nat.mul_pos (by omega) (Nat.two_pow_pos _)
          omega
        have : compare (Ieee.signed true m (p - min p (-149)).toNat) 0 = .lt := by simp [compare, compareOfLessAndEq, hneg]
        rw [this]; rfl
    | false =>
      refine fin (small e1.symm ?_)
      rw [order_def, hd, h0]
      simp only [Ieee.Datum.order, ez]
      have := signed_nonneg m (p - min p (-149)).toNat
      rcases Int.lt_or_eq_of_le this with h1 | h1
      · have h2 : ¬ Ieee.signed false m (p - min p (-149)).toNat < 0 := by omega
        have h3 : ¬ Ieee.signed false m (p - min p (-149)).toNat = 0 := by omega
        have : compare (Ieee.signed false m (p - min p (-149)).toNat) 0 = .gt := by simp [compare, compareOfLessAndEq, h2, h3]
        rw [this]; rfl
      · rw [← h1]; rfl

theorem cmp_swap (a b : Int) : compare a b = (compare b a).swap := by
  simp only [compare, compareOfLessAndEq]
  by_cases h1 : a < b
  · have : ¬ b < a := by omega
    have h3 : ¬ b = a := by omega
    simp [h1, this, h3]
  · by_cases h2 : b < a
    · have h3 : ¬ a = b := by omega
      simp [h1, h2, h3]
    · have : a = b := by omega
      subst this
      simp
theorem order_swap (d e : Ieee.Datum) : d.order e = (e.order d).map Ordering.swap := by
  cases d <;> cases e <;> simp only [Ieee.Datum.order, Option.map_none, Option.map_some]
  · rename_i s m i t n j
    rw [cmp_swap, Int.min_comm]
  · rename_i s m i t; cases t <;> rfl
  · rename_i s t n j; cases s <;> rfl
  · rename_i s t; cases s <;> cases t <;> rfl
theorem run_max {P : Program} (w : World) (ts : Array TypeId) (t : TypeId) {out x : Nat} (ho : Pos out) (hx : (FloatKind.f32.decode x).isNaN = false) :
    (Builtin.max_ ts t #[.float .f32 out, .float .f32 (x % 2147483648)]).run P w = .ok (.float .f32 (stepV out x)) w := by
  have ha := Pos.abs hx
  have hsw := order_swap (FloatKind.f32.decode (x % 2147483648)) (FloatKind.f32.decode out)
  rw [← order_def, ← order_def] at hsw
  have hng : (FloatKind.f32.decode out).neg = false := by rcases ho.cases with ⟨n, j, hd⟩ | hd <;> rw [hd] <;> rfl
  cases ho2 : FloatKind.f32.format.order out (x % 2147483648) with
  | none =>
    exfalso
    rw [order_def] at ho2
    rcases ho.cases with ⟨n, j, hd⟩ | hd <;> rcases ha.cases with ⟨n', j', hd'⟩ | hd' <;> rw [hd, hd'] at ho2 <;> cases ho2
  | some c =>
    rw [ho2] at hsw
    unfold stepV
    rw [hsw]
    cases c <;> simp [Builtin.max_, Builtin.max2, ho2, hng]
theorem run_narrow {P : Program} (w : World) (src dst : TypeId) (hs : (P.underlying src).isSome = true) (hd : P.underlying dst = some (.float .f32)) {x : Nat} (hx : (FloatKind.f32.decode x).isNaN = false) :
    (convert src dst (.float .f64 (FloatKind.f64.encode (FloatKind.f32.decode x) % 9223372036854775808))).run P w = .ok (.float .f32 (x % 2147483648)) w := by
  obtain ⟨u, hs'⟩ := Option.isSome_iff_exists.1 hs
  have key : (Conv.floatToFloat .f64 (FloatKind.f64.encode (FloatKind.f32.decode x) % 9223372036854775808) .f32).run P w = .ok (.float .f32 (x % 2147483648)) w := by
    unfold Conv.floatToFloat
    cases hdx : FloatKind.f32.decode x with
    | nan s t => rw [hdx] at hx; cases hx
    | infinity s =>
      have h1 : FloatKind.f64.decode (FloatKind.f64.encode (.infinity s) % 9223372036854775808) = .infinity false := by cases s <;> decide
      have h2 : FloatKind.f32.encode (.infinity false) = x % 2147483648 := by
        have h3 : (FloatKind.f32.decode x).isInfinity = true := by rw [hdx]; rfl
        rw [read_isInf] at h3
        have e2 : FloatKind.f32.format.signWeight = 2147483648 := by decide
        have e3 : FloatKind.f32.format.infRung = 2139095040 := by decide
        rw [e2, e3] at h3
        have h4 : x % 2147483648 = 2139095040 := by simpa using h3
        rw [h4]; decide
      simp [h1, h2]
    | number s m p =>
      obtain ⟨m', p', h1, h2⟩ := narrow_number hdx
      have h3 : (FloatKind.f32.decode (x % 2147483648)).isInfinity = false := by rw [decode_abs, hdx]; rfl
      simp [h1, h2, h3]
  cases u <;> simp [convert, run_underlying hs', run_underlying hd, key]
end Go.Proofs.Ytdafcgimkiepnaa.Abs
