/-
  Floats up to the bits of a NaN: 'vf' is a float's value ('none' for every NaN); the operations of the model, read so, are functions of the values. Plain lemmas, for every program.
  Conditions: none.
-/
import Derived.WalkKit
import Derived.WalkLawsBesides
import Derived.Laws.FloatArith
import Derived.Deep.Draws
namespace Go.Proofs.Ytdafcgimkiepnaa.Fl
open Go Go.RowKit

/-- The value of a float's bits: none for a NaN. -/
def vf (k : FloatKind) (r : Nat) : Option Nat := if (k.decode r).isNaN then none else some r

/-- The four operations on values. -/
def fop (op : BinOp) (k : FloatKind) (x y : Option Nat) : Option Nat := x.bind fun a => y.bind fun b => floatBits op k a b

def ford (k : FloatKind) (x y : Option Nat) : Option Ordering := x.bind fun a => y.bind fun b => k.format.order a b

theorem word_mod (f : Ieee.Format) (neg : Bool) {rung : Nat} (h : rung < f.signWeight) : f.word neg rung % f.signWeight = rung := by
  unfold Ieee.Format.word
  split
  · rw [Nat.add_mod_left]; exact Nat.mod_eq_of_lt h
  · exact Nat.mod_eq_of_lt h

theorem binade_le (k : FloatKind) : k.format.binade ≤ k.format.infRung := by
  cases k <;> decide

theorem read_isNaN (k : FloatKind) (x : Nat) : (k.decode x).isNaN = decide (k.format.infRung < x % k.format.signWeight) := by
  have hb := binade_le k
  unfold FloatKind.decode Ieee.Format.read
  generalize k.format = f at *
  dsimp only
  split
  · rename_i h
    have : ¬ f.infRung < x % f.signWeight := by omega
    simp [Ieee.Datum.isNaN, this]
  · split
    · rename_i h
      have : ¬ f.infRung < x % f.signWeight := by omega
      simp [Ieee.Datum.isNaN, this]
    · split
      · rename_i h
        have : ¬ f.infRung < x % f.signWeight := by omega
        simp [Ieee.Datum.isNaN, this]
      · rename_i h1 h2
        have : f.infRung < x % f.signWeight := by omega
        simp [Ieee.Datum.isNaN, this]

theorem nearest_mod (f : Ieee.Format) (neg : Bool) (mag : Nat) (place : Int) : f.nearest neg mag place % f.signWeight ≤ f.infRung := by
  have hlt := f.infRung_lt
  unfold Ieee.Format.nearest
  dsimp only
  split
  · rw [word_mod f neg (by omega)]; omega
  · rw [word_mod f neg (by omega)]; omega

theorem encode_notNaN (k : FloatKind) (d : Ieee.Datum) (h : d.isNaN = false) : (k.decode (k.encode d)).isNaN = false := by
  rw [read_isNaN]
  refine decide_eq_false ?_
  cases d with
  | number s m p =>
    have h1 : k.encode (.number s m p) = k.format.nearest s m p := rfl
    have := nearest_mod k.format s m p
    rw [h1]
    omega
  | infinity s =>
    have h1 : k.encode (.infinity s) = k.format.word s k.format.infRung := rfl
    rw [h1, word_mod _ _ k.format.infRung_lt]
    omega
  | nan s t => cases h

theorem sum_notNaN {x y r : Ieee.Datum} (h : x.sum y = some r) : r.isNaN = false := by
  cases x <;> cases y <;> simp only [Ieee.Datum.sum] at h <;> first | (cases h; done) | skip
  · cases h; rfl
  · cases h; rfl
  · cases h; rfl
  · split at h
    · cases h; rfl
    · cases h

theorem product_notNaN {x y r : Ieee.Datum} (h : x.product y = some r) : r.isNaN = false := by
  cases x <;> cases y <;> simp only [Ieee.Datum.product] at h <;> first | (cases h; done) | skip
  · cases h; rfl
  · split at h
    · cases h
    · cases h; rfl
  · split at h
    · cases h
    · cases h; rfl
  · cases h; rfl

theorem quotient_notNaN {n : Nat} {x y r : Ieee.Datum} (h : x.quotient n y = some r) : r.isNaN = false := by
  cases x <;> cases y <;> simp only [Ieee.Datum.quotient] at h <;> first | (cases h; done) | skip
  · split at h
    · split at h
      · cases h
      · cases h; rfl
    · cases h; rfl
  · cases h; rfl
  · cases h; rfl

theorem map_write_notNaN {k : FloatKind} {o : Option Ieee.Datum} {r : Nat} (ho : ∀ d, o = some d → d.isNaN = false) (h : o.map k.format.write = some r) : (k.decode r).isNaN = false := by
  cases o with
  | none => cases h
  | some d => cases h; exact encode_notNaN k d (ho d rfl)

/-- What an operation gives is no NaN. -/
theorem floatBits_notNaN {op : BinOp} {k : FloatKind} {x y r : Nat} (h : floatBits op k x y = some r) : (k.decode r).isNaN = false := by
  unfold floatBits at h
  split at h
  · exact map_write_notNaN (fun d hd => sum_notNaN hd) h
  · exact map_write_notNaN (fun d hd => sum_notNaN hd) h
  · exact map_write_notNaN (fun d hd => product_notNaN hd) h
  · exact map_write_notNaN (fun d hd => quotient_notNaN hd) h
  · cases h

theorem opposite_isNaN (d : Ieee.Datum) : d.opposite.isNaN = d.isNaN := by cases d <;> rfl

theorem sum_nan {x y : Ieee.Datum} (h : x.isNaN = true ∨ y.isNaN = true) : x.sum y = none := by
  cases x <;> cases y <;> simp_all [Ieee.Datum.isNaN, Ieee.Datum.sum]
theorem product_nan {x y : Ieee.Datum} (h : x.isNaN = true ∨ y.isNaN = true) : x.product y = none := by
  cases x <;> cases y <;> simp_all [Ieee.Datum.isNaN, Ieee.Datum.product]
theorem quotient_nan {n : Nat} {x y : Ieee.Datum} (h : x.isNaN = true ∨ y.isNaN = true) : x.quotient n y = none := by
  cases x <;> cases y <;> simp_all [Ieee.Datum.isNaN, Ieee.Datum.quotient]
theorem order_nan {x y : Ieee.Datum} (h : x.isNaN = true ∨ y.isNaN = true) : x.order y = none := by
  cases x <;> cases y <;> simp_all [Ieee.Datum.isNaN, Ieee.Datum.order]

theorem floatBits_nan {op : BinOp} {k : FloatKind} {x y : Nat} (h : (k.decode x).isNaN = true ∨ (k.decode y).isNaN = true) : floatBits op k x y = none := by
  unfold floatBits
  unfold FloatKind.decode at h
  split
  · simp [Ieee.Format.add, sum_nan h]
  · have h' : (k.format.read x).isNaN = true ∨ (k.format.read y).opposite.isNaN = true := by rw [opposite_isNaN]; exact h
    simp [Ieee.Format.sub, sum_nan h']
  · simp [Ieee.Format.mul, product_nan h]
  · simp [Ieee.Format.div, quotient_nan h]
  · rfl

theorem fop_vf (op : BinOp) (k : FloatKind) (x y : Nat) : fop op k (vf k x) (vf k y) = floatBits op k x y := by
  unfold fop vf
  by_cases hx : (k.decode x).isNaN = true
  · simp [hx, floatBits_nan (op := op) (y := y) (Or.inl hx)]
  · by_cases hy : (k.decode y).isNaN = true
    · simp [hx, hy, floatBits_nan (op := op) (x := x) (Or.inr hy)]
    · simp [hx, hy]

theorem order_vf (k : FloatKind) (x y : Nat) : k.format.order x y = ford k (vf k x) (vf k y) := by
  unfold ford vf
  by_cases hx : (k.decode x).isNaN = true
  · have : k.format.order x y = none := order_nan (Or.inl hx)
    simp [hx, this]
  · by_cases hy : (k.decode y).isNaN = true
    · have : k.format.order x y = none := order_nan (Or.inr hy)
      simp [hx, hy, this]
    · simp [hx, hy]

/-- The bits that the model gives: of a NaN, those that the tape has. -/
def fr (op : BinOp) (k : FloatKind) (x y : Nat) (τ : Nat → Question → Nat) (d : Nat) : Nat :=
  match floatBits op k x y with
  | some r => r
  | none => (Question.nanBits k x y).cut (τ d (.nanBits k x y))
def fc (op : BinOp) (k : FloatKind) (x y : Nat) : Nat := if (floatBits op k x y).isSome then 0 else 1

theorem nan_bits32 (t : Nat) : (FloatKind.f32.decode ((t % 2) * 2 ^ 31 + 0x7f800000 + 1 + (t / 2) % (2 ^ 23 - 1))).isNaN = true := by
  rw [read_isNaN]
  have e1 : FloatKind.f32.format.infRung = 2139095040 := by decide
  have e2 : FloatKind.f32.format.signWeight = 2147483648 := by decide
  rw [e1, e2]
  refine decide_eq_true ?_
  have h1 : (t / 2) % (2 ^ 23 - 1) < 8388607 := Nat.mod_lt _ (by decide)
  generalize (t / 2) % (2 ^ 23 - 1) = s at *
  rcases Nat.mod_two_eq_zero_or_one t with h2 | h2 <;> rw [h2] <;> omega
theorem nan_bits64 (t : Nat) : (FloatKind.f64.decode ((t % 2) * 2 ^ 63 + 0x7ff0000000000000 + 1 + (t / 2) % (2 ^ 52 - 1))).isNaN = true := by
  rw [read_isNaN]
  have e1 : FloatKind.f64.format.infRung = 9218868437227405312 := by decide
  have e2 : FloatKind.f64.format.signWeight = 9223372036854775808 := by decide
  rw [e1, e2]
  refine decide_eq_true ?_
  have h1 : (t / 2) % (2 ^ 52 - 1) < 4503599627370495 := Nat.mod_lt _ (by decide)
  generalize (t / 2) % (2 ^ 52 - 1) = s at *
  rcases Nat.mod_two_eq_zero_or_one t with h2 | h2 <;> rw [h2] <;> omega

theorem cut_nanBits (k : FloatKind) (x y t : Nat) : vf k ((Question.nanBits k x y).cut t) = none := by
  unfold vf
  cases k
  · rw [show (Question.nanBits .f32 x y).cut t = (t % 2) * 2 ^ 31 + 0x7f800000 + 1 + (t / 2) % (2 ^ 23 - 1) from rfl, nan_bits32]; rfl
  · rw [show (Question.nanBits .f64 x y).cut t = (t % 2) * 2 ^ 63 + 0x7ff0000000000000 + 1 + (t / 2) % (2 ^ 52 - 1) from rfl, nan_bits64]; rfl
theorem cut_nanConv (k : FloatKind) (x t : Nat) : vf k ((Question.nanConv k x).cut t) = none := by
  unfold vf
  cases k
  · rw [show (Question.nanConv .f32 x).cut t = (t % 2) * 2 ^ 31 + 0x7f800000 + 1 + (t / 2) % (2 ^ 23 - 1) from rfl, nan_bits32]; rfl
  · rw [show (Question.nanConv .f64 x).cut t = (t % 2) * 2 ^ 63 + 0x7ff0000000000000 + 1 + (t / 2) % (2 ^ 52 - 1) from rfl, nan_bits64]; rfl

theorem vf_fr (op : BinOp) (k : FloatKind) (x y : Nat) (τ : Nat → Question → Nat) (d : Nat) : vf k (fr op k x y τ d) = fop op k (vf k x) (vf k y) := by
  rw [fop_vf]
  unfold fr
  cases h : floatBits op k x y with
  | some r => simp only; unfold vf; rw [floatBits_notNaN h]; rfl
  | none => exact cut_nanBits k x y _

theorem run_fbin {P : Program} (w : World) (op : BinOp) (hop : op = .add ∨ op = .sub ∨ op = .mul ∨ op = .quo) (t : TypeId) (k : FloatKind) (x y : Nat) :
    (binOp op t (.float k x) (.float k y)).run P w = .ok (.float k (fr op k x y w.tape w.drawn)) (w.drewN (fc op k x y)) := by
  have e : ∀ (o : Option Nat), floatBits op k x y = o → (binOp op t (.float k x) (.float k y)).run P w = .ok (.float k (match o with | some r => r | none => (Question.nanBits k x y).cut (w.tape w.drawn (.nanBits k x y)))) (w.drewN (if o.isSome then 0 else 1)) := by
    intro o ho
    rcases hop with rfl | rfl | rfl | rfl <;> cases o <;> simp only [floatBits] at ho <;> simp [binOp, Op.floatArith, ho, choose, Sem.run, Question.forced, World.drewN_zero, World.drew_is_drewN]
  exact e _ rfl

/-- The bits of an integer's float are no NaN. -/
theorem vf_ofInt (k : FloatKind) (n : Int) : vf k (floatOfInt k n) = some (floatOfInt k n) := by
  unfold vf floatOfInt FloatKind.nearest
  rw [encode_notNaN k _ rfl]; rfl

/-! ### float64 of a float32 -/
theorem read_isInf (k : FloatKind) (x : Nat) : (k.decode x).isInfinity = decide (x % k.format.signWeight = k.format.infRung) := by
  have hb := binade_le k
  have hl := k.format.infRung_lt
  unfold FloatKind.decode Ieee.Format.read
  generalize k.format = f at *
  dsimp only
  split
  · rename_i h
    have : ¬ x % f.signWeight = f.infRung := by omega
    simp [Ieee.Datum.isInfinity, this]
  · split
    · rename_i h
      have : ¬ x % f.signWeight = f.infRung := by omega
      simp [Ieee.Datum.isInfinity, this]
    · split
      · rename_i h
        simp [Ieee.Datum.isInfinity, h]
      · rename_i h1 h2
        simp [Ieee.Datum.isInfinity, h2]

theorem cut_zero (way : Ieee.Toward) (neg : Bool) (n : Nat) : way.cut neg n 0 = n := by
  unfold Ieee.Toward.cut
  cases way <;> simp [Nat.mod_one]

/-- What a float32 that is a number stands for. -/
theorem read32 {x : Nat} {s : Bool} {m : Nat} {p : Int} (h : FloatKind.f32.decode x = .number s m p) : m < 16777216 ∧ -149 ≤ p ∧ p ≤ 104 := by
  unfold FloatKind.decode Ieee.Format.read at h
  have e1 : FloatKind.f32.format.binade = 8388608 := by decide
  have e2 : FloatKind.f32.format.signWeight = 2147483648 := by decide
  have e3 : FloatKind.f32.format.infRung = 2139095040 := by decide
  have e4 : FloatKind.f32.format.leastPlace = -149 := by decide
  rw [e1, e2, e3, e4] at h
  dsimp only at h
  split at h
  · simp only [Ieee.Datum.number.injEq] at h
    obtain ⟨_, h1, h2⟩ := h
    omega
  · split at h
    · simp only [Ieee.Datum.number.injEq] at h
      obtain ⟨_, h1, h2⟩ := h
      omega
    · split at h <;> cases h

theorem shl_lt {m b : Nat} (s : Nat) (_hm : m ≠ 0) (h : m.log2 + s ≤ b) : m <<< s < 2 ^ (b + 1) := by
  rw [Nat.shiftLeft_eq]
  have h1 : m < 2 ^ (m.log2 + 1) := Nat.lt_log2_self
  calc m * 2 ^ s < 2 ^ (m.log2 + 1) * 2 ^ s := Nat.mul_lt_mul_of_pos_right h1 (Nat.two_pow_pos _)
    _ = 2 ^ (m.log2 + 1 + s) := by rw [← Nat.pow_add]
    _ ≤ 2 ^ (b + 1) := Nat.pow_le_pow_right (by decide) (by omega)

theorem log2_lt24 {m : Nat} (hm : m ≠ 0) (h : m < 16777216) : m.log2 < 24 := by
  rw [Nat.log2_lt hm]; exact h

/-- A float32's number is written in 64 bits as it is. -/
theorem nearest64 (s : Bool) {m : Nat} {p : Int} (hm : m ≠ 0) (h : m < 16777216) (h1 : -149 ≤ p) (h2 : p ≤ 104) :
    FloatKind.f64.format.nearest s m p = FloatKind.f64.format.word s ((p + m.log2 - 52 + 1074).toNat * 4503599627370496 + m <<< (52 - m.log2)) ∧ m <<< (52 - m.log2) < 2 ^ 53 := by
  have hlog := log2_lt24 hm h
  have e0 : FloatKind.f64.format.leastPlace = -1074 := by decide
  have e1 : FloatKind.f64.format.fractionBits = 52 := rfl
  have e2 : FloatKind.f64.format.binade = 4503599627370496 := by decide
  have e3 : FloatKind.f64.format.infRung = 9218868437227405312 := by decide
  have hk := shl_lt (b := 52) (52 - m.log2) hm (by omega)
  have h6 : (2 : Nat) ^ (52 + 1) = 2 ^ 53 := rfl
  rw [h6] at hk
  refine ⟨?_, hk⟩
  unfold Ieee.Format.nearest
  rw [if_neg hm]
  dsimp only
  rw [e0, e1, e2, e3]
  have hmax : max (p + (m.log2 : Int) - (52 : Nat)) (-1074) = p + m.log2 - 52 := by omega
  rw [hmax]
  have hp : (p - (p + (m.log2 : Int) - 52)).toNat = 52 - m.log2 := by omega
  have hd : (p + (m.log2 : Int) - 52 - p).toNat = 0 := by omega
  rw [hp, hd, cut_zero]
  have hq : p + (m.log2 : Int) - 52 - -1074 = p + m.log2 - 52 + 1074 := by omega
  rw [hq]
  have h5 : (p + (m.log2 : Int) - 52 + 1074).toNat ≤ 1149 := by omega
  have h7 : (2 : Nat) ^ 53 = 9007199254740992 := by decide
  rw [h7] at hk
  rw [Nat.min_eq_left (by omega)]

theorem widen_fits {x : Nat} {s : Bool} {m : Nat} {p : Int} (h : FloatKind.f32.decode x = .number s m p) : (FloatKind.f64.decode (FloatKind.f64.encode (.number s m p))).isInfinity = false := by
  obtain ⟨h1, h2, h3⟩ := read32 h
  rw [read_isInf]
  refine decide_eq_false ?_
  have e : FloatKind.f64.encode (.number s m p) = FloatKind.f64.format.nearest s m p := rfl
  have e3 : FloatKind.f64.format.infRung = 9218868437227405312 := by decide
  have e4 : FloatKind.f64.format.signWeight = 9223372036854775808 := by decide
  rw [e]
  by_cases hm : m = 0
  · subst hm
    have : FloatKind.f64.format.nearest s 0 p = FloatKind.f64.format.word s 0 := rfl
    rw [this, word_mod _ _ (by decide), e3]
    decide
  · obtain ⟨h4, h5⟩ := nearest64 s hm h1 h2 h3
    have hlog := log2_lt24 hm h1
    have h6 : (2 : Nat) ^ 53 = 9007199254740992 := by decide
    rw [h6] at h5
    have h7 : (p + (m.log2 : Int) - 52 + 1074).toNat ≤ 1149 := by omega
    rw [h4, word_mod _ _ (by rw [e4]; omega), e3]
    omega

/-- float64 of a float32, on values. -/
def wid (x : Option Nat) : Option Nat := x.map fun b => FloatKind.f64.encode (FloatKind.f32.decode b)
def wr (x : Nat) (τ : Nat → Question → Nat) (d : Nat) : Nat :=
  if (FloatKind.f32.decode x).isNaN then (Question.nanConv .f64 x).cut (τ d (.nanConv .f64 x)) else FloatKind.f64.encode (FloatKind.f32.decode x)
def wc (x : Nat) : Nat := if (FloatKind.f32.decode x).isNaN then 1 else 0

theorem vf_wr (x : Nat) (τ : Nat → Question → Nat) (d : Nat) : vf .f64 (wr x τ d) = wid (vf .f32 x) := by
  unfold wr wid
  by_cases h : (FloatKind.f32.decode x).isNaN = true
  · rw [if_pos h, cut_nanConv]
    simp [vf, h]
  · rw [if_neg h]
    have h' : (FloatKind.f32.decode x).isNaN = false := by simpa using h
    have e1 : vf .f32 x = some x := by simp [vf, h']
    rw [e1]
    simp [vf, encode_notNaN .f64 _ h']

theorem run_widen {P : Program} (w : World) (src dst : TypeId) (hs : (P.underlying src).isSome = true) (hd : P.underlying dst = some (.float .f64)) (x : Nat) :
    (convert src dst (.float .f32 x)).run P w = .ok (.float .f64 (wr x w.tape w.drawn)) (w.drewN (wc x)) := by
  obtain ⟨u, hs'⟩ := Option.isSome_iff_exists.1 hs
  have key : (Conv.floatToFloat .f32 x .f64).run P w = .ok (.float .f64 (wr x w.tape w.drawn)) (w.drewN (wc x)) := by
    unfold Conv.floatToFloat wr wc
    cases hx : FloatKind.f32.decode x with
    | nan s t => simp [Ieee.Datum.isNaN, choose, Sem.run, Question.forced, World.drew_is_drewN]
    | infinity s => simp [Ieee.Datum.isNaN, World.drewN_zero]
    | number s m p => simp [Ieee.Datum.isNaN, World.drewN_zero, widen_fits hx]
  cases u <;> simp [convert, run_underlying hs', run_underlying hd, key]

end Go.Proofs.Ytdafcgimkiepnaa.Fl
