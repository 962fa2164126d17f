/-
  copy into a row of the call's own; slices.Repeat of one number.
  Conditions: none.
-/
import Derived.Test.YtdafcgimkiepnaaBack
import Derived.Test.YtdafcgimkiepnaaReg1
import Derived.Laws.CopyOwn
import Derived.Laws.Bits64b
import Derived.Deep.DeepCutAuto
namespace Go.Proofs.Ytdafcgimkiepnaa.Rep
open Go Go.RowKit Go.Proofs.Ytdafcgimkiepnaa.Fl Go.Proofs.Ytdafcgimkiepnaa.Reg Go.Proofs.Ytdafcgimkiepnaa.Step Go.Proofs.Ytdafcgimkiepnaa.Mem Go.Proofs.Ytdafcgimkiepnaa.Help Go.Proofs.Ytdafcgimkiepnaa.Grid Go.Proofs.Ytdafcgimkiepnaa.App Go.Proofs.Ytdafcgimkiepnaa.Level

/-- The block of a row that fills it. -/
theorem own_heap {w : World} {base g cap : Nat} {rs : List Nat} (h : Ow w base (some ⟨g, 0, none⟩) cap rs) (hc : rs.length = cap) : w.heap[g]? = some (.cells (rs.map (Value.float .f32)).toArray 38 (0, 0)) := by
  rcases h.block with ⟨h, _⟩ | ⟨g', cur, hp, hb', hlt, hg, hn, hm, hs, ht⟩
  · cases h
  · cases hp
    rw [hg]
    have e : cur.toList = rs.map (Value.float .f32) := by
      rw [← ht, List.take_of_length_le (by simp; omega)]
    rw [← e]
theorem size_f32 : (Try.prog.info? 38).map (·.size) = some 1 := by kernel_rfl

/-- copy into a row of the call's own. -/
theorem wpList_copyF {ops : Array Oper} {Q : Exit → Act → World → Prop} {a : Act} {w : World} {rest : List Oper} {o : Oper} (hgd : o.guard = none) {d s : Operand}
    (ho : o.op = .call { callee := .builtin .copy, args := #[d, s], argTypes := #[24, 24] })
    {g off dLen dCap sLen sCap : Nat} {sp : Option Addr} (hd : a.eval d = .slice (some ⟨g, off, none⟩) dLen dCap) (hs : a.eval s = .slice sp sLen sCap)
    {base cap : Nat} {rs ns : List Nat} (how : Ow w base (some ⟨g, 0, none⟩) cap rs) (hcap : rs.length = cap) (hn : ns.length = Nat.min sLen dLen)
    (hsp : ∃ b o, sp = some ⟨b, o, none⟩ ∧ ∀ j, j < ns.length → w.cell? ⟨b, o + j, none⟩ = some (.float .f32 (ns.getD j 0))) (hfit : off + ns.length ≤ rs.length)
    (h : ∀ w', Ow w' base (some ⟨g, 0, none⟩) cap (rs.take off ++ (ns ++ rs.drop (off + ns.length))) → w.grownBy w' (some g) → wpList Try.prog ops Q rest (a.put o.dst (.int .i64 ns.length)) w') :
    wpList Try.prog ops Q (o :: rest) a w := by
  obtain ⟨b, off2, rfl, hc⟩ := hsp
  have hl := how.length_le
  have hbl := how.lt _ rfl
  have hmx : cap ≤ maxLen := by
    rcases how.block with ⟨h, _⟩ | ⟨g', cur, hp, hb', hlt, hg, hn, hm, hs, ht⟩
    · cases h
    · exact hm
  have hg := own_heap how hcap
  refine wpList_copy_own hgd d s 24 24 ho 38 Try.underlying24 size_f32 g off dLen dCap ⟨b, off2, none⟩ sLen sCap hd hs _ 38 hg (ns.map (Value.float .f32)) (by simpa using hn) ?_ (by simpa using hfit) (by intro v hv; obtain ⟨x, _, rfl⟩ := List.mem_map.1 hv; rfl) ?_
  · intro j v hj
    rw [List.getElem?_map] at hj
    rcases Nat.lt_or_ge j ns.length with h1 | h1
    · rw [List.getElem?_eq_getElem h1] at hj
      simp only [Option.map_some, Option.some.injEq] at hj
      rw [add_lit, hc j h1, ← hj]
      simp [List.getD, List.getElem?_eq_getElem h1]
    · rw [List.getElem?_eq_none h1] at hj; cases hj
  · have := h (w.setRow g (((rs.map (Value.float .f32)).toArray.toList.take off) ++ ((ns.map (Value.float .f32)) ++ ((rs.map (Value.float .f32)).toArray.toList.drop (off + (ns.map (Value.float .f32)).length)))).toArray) ?_ ?_
    · simpa [goInt] using this
    · refine Ow.of_block hbl.1 (setRow_heap w g _ _ 38 _ hg) (by simp; omega) hmx (by simp; omega) ?_
      rw [List.take_of_length_le (by simp)]
      simp
    · exact ⟨rfl, rfl, rfl, by simp [World.setRow], fun k hk hne => setRow_other w g k _ (fun e => hne (by rw [e]))⟩

theorem and_mask (n : Nat) (h : n ≤ 256) : bits .and .u64 (n : Int) 4294967295 = (n : Int) := by
  have h1 := bits_and_u64_nat n 4294967295 (by omega) (by omega)
  rw [show n &&& 4294967295 = n % 4294967296 from Nat.and_two_pow_sub_one_eq_mod n 32, Nat.mod_eq_of_lt (by omega)] at h1
  exact h1

set_option maxHeartbeats 1000000 in
theorem Mul64_one (n : Nat) (hn : n ≤ 256) (w : World) :
    Calls Try.prog 97 #[.int .u64 1, .int .u64 n] w fun e w' => e = .returned (.tuple #[.int .u64 0, .int .u64 n]) ∧ w = w' := by
  have e0 := and_mask n hn
  have e1 : bits .and .u64 1 4294967295 = 1 := and_mask 1 (by omega)
  have e2 : bits .and .u64 0 4294967295 = 0 := and_mask 0 (by omega)
  have e3 : (n : Int) / 4294967296 = 0 := by omega
  have e4 : IntKind.u64.wrap (n : Int) = (n : Int) := by rw [IntKind.wrap_u64]; omega
  go_enter Try.func97, Try.ntmps97
  go_wp2
  go_ret2
  exact ⟨rfl, rfl⟩

set_option maxHeartbeats 1000000 in
theorem Mul_one (n : Nat) (hn : n ≤ 256) (w : World) :
    Calls Try.prog 95 #[.int .u64 1, .int .u64 n] w fun e w' => e = .returned (.tuple #[.int .u64 0, .int .u64 n]) ∧ w = w' := by
  go_enter Try.func95, Try.ntmps95
  go_wp2_with (go_at_call 97; refine (Mul64_one n hn _).mono ?_; rintro e w' ⟨rfl, rfl⟩)
  go_ret2
  exact ⟨rfl, rfl⟩

theorem rep_step (n k m b : Nat) (h : k + m ≤ n) : ((List.replicate k b ++ List.replicate (n - k) 0).take k ++ (List.replicate m b ++ (List.replicate k b ++ List.replicate (n - k) 0).drop (k + m))) = List.replicate (k + m) b ++ List.replicate (n - (k + m)) 0 := by
  rw [List.take_append_of_le_length (by simp), List.take_of_length_le (by simp), List.drop_append, List.drop_of_length_le (by simp), List.nil_append, ← List.append_assoc, List.replicate_append_replicate]
  simp only [List.drop_replicate, List.length_replicate]
  rw [show n - k - (k + m - k) = n - (k + m) by omega]

set_option maxHeartbeats 2000000 in
set_option maxRecDepth 100000 in
theorem Repeat_any (g b n c : Nat) (h1 : 1 ≤ n) (hn : n ≤ 256) (w : World) (hg : g < w.heap.size) (hx : w.cell? ⟨g, 0, none⟩ = some (.float .f32 b)) :
    Calls Try.prog 92 #[.slice (some ⟨g, 0, none⟩) 1 c, .int .i64 n] w fun e w' => ∃ q, e = .returned (.slice (some ⟨q, 0, none⟩) n n) ∧ Ow w' w.heap.size (some ⟨q, 0, none⟩) n (List.replicate n b) ∧ Below w.heap.size w w' := by
  have hmk := fun w => make_f32 w n (by omega)
  have ho := Ow.made w n (by unfold maxLen; omega)
  have hal : Below w.heap.size w (w.alloc (.cells (madeCells #[.float .f32 0] n) 38)) := (Below.refl _ _).alloc (Nat.le_refl _) _
  have hx2 := (hal.cell (p := ⟨g, 0, none⟩) hg).trans hx
  have e4 : IntKind.u64.wrap (n : Int) = (n : Int) := by rw [IntKind.wrap_u64]; omega
  have hlt0 : decide ((n : Int) < 0) = false := by simp
  have hgt : decide ((n : Int) > 9223372036854775807) = false := by simp; omega
  go_enter Try.func92, Try.ntmps92
  go_upto_region 7 with (go_at_call 95; refine (Mul_one n hn _).mono ?_; rintro e w' ⟨rfl, rfl⟩)
  clear hmk
  have hsp : ∃ b' o', (some ⟨g, 0, none⟩ : Option Addr) = some ⟨b', o', none⟩ ∧ ∀ j, j < [b].length → (w.alloc (.cells (madeCells #[.float .f32 0] n) 38)).cell? ⟨b', o' + j, none⟩ = some (.float .f32 ([b].getD j 0)) :=
    ⟨g, 0, rfl, by intro j hj; obtain rfl : j = 0 := by simpa using hj
                   simpa using hx2⟩
  go_wp2_with (refine wpList_copyF (ns := [b]) (off := 0) (dLen := n) (sLen := 1) (by rfl) (by rfl) (by rfl) (by rfl) ho (by simp) (by simp [Nat.min_def]; omega) hsp (by simp; omega) (fun w1 ho1 hg1 => ?_))
  have ho2 : Ow w1 w.heap.size (some ⟨w.heap.size, 0, none⟩) n (List.replicate 1 b ++ List.replicate (n - 1) 0) := by simpa using ho1
  have hb1 : Below w.heap.size w w1 := hal.trans (below_gb_some hg1 (Nat.le_refl _) hal.size)
  clear ho ho1 hg1 hx2 hal
  go_loopw [8] (fun i wr => ∃ k : Nat, 1 ≤ k ∧ k ≤ n ∧ i = .int .i64 k ∧ Ow wr w.heap.size (some ⟨w.heap.size, 0, none⟩) n (List.replicate k b ++ List.replicate (n - k) 0) ∧ Below w.heap.size w wr) (fun i _ => n - (intOf i).toNat)
  case atStart => exact ⟨1, Nat.le_refl _, h1, by simp, ho2, hb1⟩
  case round =>
    clear ho2 hb1
    obtain ⟨k, hk1, hk, rfl, ho, hb⟩ := hrel
    by_cases hlt : k < n
    · obtain ⟨m, hm1, hm2, hm3⟩ : ∃ m, Hid (m = Nat.min k (n - k)) ∧ 1 ≤ m ∧ k + m ≤ n := ⟨Nat.min k (n - k), rfl, by simp only [Nat.min_def]; split <;> omega, by simp only [Nat.min_def]; split <;> omega⟩
      have hmk : m ≤ k := by have := hm1.out; simp only [Nat.min_def] at this; split at this <;> omega
      have hnk : ¬ n = k := by omega
      go_wp2
      refine wp_region_dem1 6 (Below (wr.heap.size) wr) (fun _ _ _ => False) (by kernel_rfl) (by kernel_rfl) rfl rfl (fun _ _ _ h => h) (Below.refl _ _).drew ?_
      simp only [List.take_succ_cons, List.take_zero, List.drop_succ_cons, List.drop_zero]
      repeat (first
        | (refine wpDem_want rfl (fun K hK => ?_); intro w' hw'; obtain ⟨hc', hf'⟩ := bcellB hw'; go_simp; first | (refine hK _ ?_; clear hK K hc' hf' hw' w')))
      refine wpDem_nil ?_
      intro w2 hb2
      have o2 := ho.below hb2
      have hsp : ∃ b' o', (some ⟨w.heap.size, 0, none⟩ : Option Addr) = some ⟨b', o', none⟩ ∧ ∀ j, j < (List.replicate m b).length → w2.cell? ⟨b', o' + j, none⟩ = some (.float .f32 ((List.replicate m b).getD j 0)) := by
        refine ⟨w.heap.size, 0, rfl, fun j hj => ?_⟩
        have hj' : j < m := by simpa using hj
        obtain ⟨g', hg', _, _, hc, _⟩ := o2.cells (by simp; omega)
        cases hg'
        have := hc j (by simp; omega)
        rw [Nat.zero_add, this]
        simp [List.getD, List.getElem?_append, show j < k by omega, hj']
      go_wp2_with (refine wpList_copyF (ns := List.replicate m b) (off := k) (dLen := n - k) (sLen := k) (by rfl) (by rfl) (by rfl) (by rfl) o2 (by simp; omega) (by rw [List.length_replicate]; exact hm1.out) hsp (by simp; omega) (fun w3 o3 hg3 => ?_))
      rw [List.length_replicate, rep_step _ _ _ _ hm3] at o3
      go_roundw
      case rel => exact ⟨k + m, by omega, hm3, by simp, o3, (hb.trans (hb2.mono hb.size)).trans (below_gb_some hg3 (Nat.le_refl _) (Nat.le_trans hb.size hb2.size))⟩
      case measure => simp [intOf]; omega
    · obtain rfl : k = n := by omega
      go_wp2
      go_ret
      exact ⟨w.heap.size, rfl, by simpa using ho, hb⟩
end Go.Proofs.Ytdafcgimkiepnaa.Rep
