/-
  Two fields of a valid grid: contracts of the checks of the program.
  Conditions: none.
-/
import Derived.Test.YtdafcgimkiepnaaLap
namespace Go.Proofs.Ytdafcgimkiepnaa.Two
open Go Go.RowKit Go.Proofs.Ytdafcgimkiepnaa.Fl Go.Proofs.Ytdafcgimkiepnaa.Reg Go.Proofs.Ytdafcgimkiepnaa.Step Go.Proofs.Ytdafcgimkiepnaa.Mem Go.Proofs.Ytdafcgimkiepnaa.Help Go.Proofs.Ytdafcgimkiepnaa.Grid Go.Proofs.Ytdafcgimkiepnaa.Mean Go.Proofs.Ytdafcgimkiepnaa.App Go.Proofs.Ytdafcgimkiepnaa.Level Go.Proofs.Ytdafcgimkiepnaa.Lap

def fit2 (W H : Int) (n m : Nat) : Bool := fitB W H n && fitB W H m

set_option maxHeartbeats 400000 in
theorem areFields_any (W H : Int) (p q : Option Addr) (n m c d : Nat) (hn : n ≤ 1048576) (hm : m ≤ 1048576) (w : World) :
    Calls Try.prog 62 #[.agg #[.int .i64 W, .int .i64 H], .slice p n c, .slice q m d] w fun e w' => e = .returned (.bool (fit2 W H n m)) ∧ Below w.heap.size w w' := by
  unfold fit2
  cases h : fitB W H n
  · go_enter Try.func62, Try.ntmps62
    go_wp2_with (go_at_call 48; refine (IsField_any W H p n c hn _).mono ?_; rintro e w1 ⟨rfl, hb0⟩)
    go_ret
    exact ⟨rfl, ((GI.start w W H).step hb0).below⟩
  · go_enter Try.func62, Try.ntmps62
    go_wp2_with fail
    refine (IsField_any W H p n c hn _).mono ?_
    rintro e w1 ⟨rfl, hb0⟩
    have hG := (GI.start w W H).step hb0
    have hc0 := hG.c0
    have hc1 := hG.c1
    go_wp2_with fail
    refine (IsField_any W H q m d hm _).mono ?_
    rintro e w2 ⟨rfl, hb1⟩
    go_wp2
    go_ret
    exact ⟨by simp, (hG.step hb1).below⟩
end Go.Proofs.Ytdafcgimkiepnaa.Two
