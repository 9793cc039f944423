/-
  Other numbers: a row of ones.
-/
import Derived.Test.YtpladpmkpchndaaHeld
import Derived.WalkSpells
import Derived.WalkLawsBesides
import Derived.Outline
import Derived.Deep.QuietTactic
import Derived.BigQuiet
import Derived.Deep.DeepMust
import Derived.Laws.OwnMore
import Derived.Laws.MakeOwn
import Derived.Laws.CopyOwn
import Derived.IntWalk
namespace Go.Proofs.Ytpladpmkpchndaa
open Go.RowKit
set_option linter.unusedSimpArgs false
set_option linter.unusedVariables false

theorem and_mask (m : Nat) (h : m < 4294967296) : bits .and .u64 (m : Int) 4294967295 = (m : Int) := by
  have e : m &&& 4294967295 = m := by
    have := Nat.and_two_pow_sub_one_eq_mod m 32
    rw [show (2 ^ 32 - 1 : Nat) = 4294967295 from rfl] at this
    rw [this]
    exact Nat.mod_eq_of_lt h
  show IntKind.u64.wrap ((BitVec.ofInt 64 (m : Int) &&& BitVec.ofInt 64 4294967295).toNat : Int) = _
  rw [BitVec.toNat_and, BitVec.ofInt_natCast, BitVec.toNat_ofNat, show (BitVec.ofInt 64 4294967295).toNat = 4294967295 from by decide, show m % 2 ^ 64 = m from Nat.mod_eq_of_lt (by omega), e, IntKind.wrap_u64]
  omega
set_option maxRecDepth 100000 in
theorem mul64_one (m : Nat) (h : m ≤ 1000) (w : World) : Calls Try.prog 116 #[.int .u64 1, .int .u64 (m : Int)] w fun e w' => e = .returned (.tuple #[.int .u64 0, .int .u64 (m : Int)]) ∧ w = w' := by
  have h0 : (0 : Int) ≤ (m : Int) := by omega
  have h1 : (m : Int) ≤ 1000 := by omega
  have e1 := and_mask m (by omega)
  have e2 : bits .and .u64 1 4294967295 = 1 := by simpa using and_mask 1 (by omega)
  have e3 : bits .and .u64 0 4294967295 = 0 := by simpa using and_mask 0 (by omega)
  have e4 : (m : Int) / 4294967296 = 0 := by omega
  have e5 : IntKind.u64.wrap (m : Int) = (m : Int) := by rw [IntKind.wrap_u64]; omega
  have e6 : IntKind.u64.wrap 0 = 0 := by rw [IntKind.wrap_u64]; rfl
  go_enter Try.func116, Try.ntmps116
  go_wp2
  go_ret2
  exact ⟨rfl, rfl⟩
set_option maxRecDepth 100000 in
theorem mul_one (m : Nat) (h : m ≤ 1000) (w : World) : Calls Try.prog 112 #[.int .u64 1, .int .u64 (m : Int)] w fun e w' => e = .returned (.tuple #[.int .u64 0, .int .u64 (m : Int)]) ∧ w = w' := by
  have c1 : ∀ w : World, Hid (Calls Try.prog 116 #[.int .u64 1, .int .u64 (m : Int)] w fun e w' => e = .returned (.tuple #[.int .u64 0, .int .u64 (m : Int)]) ∧ w = w') := fun w => mul64_one m h w
  have h0 : (0 : Int) ≤ (m : Int) := by omega
  have h1 : (m : Int) ≤ 1000 := by omega
  have e5 : IntKind.u64.wrap (m : Int) = (m : Int) := by rw [IntKind.wrap_u64]; omega
  go_enter Try.func112, Try.ntmps112
  go_wp2_with fail
  refine Calls.mono (c1 _).out ?_
  rintro e w' ⟨rfl, rfl⟩
  go_wp2_with fail
  go_ret2
  exact ⟨rfl, rfl⟩

theorem info_int : (Try.prog.info? 3).map (fun i => (i.zero, i.size, i.bytes)) = some (some (.int .i64 0), 1, 8) := by kernel_rfl
/-- A row of integers that the call made. -/
def rowI (l : List Int) : List Value := l.map (Value.int .i64)
theorem rowI_len (l : List Int) : (rowI l).length = l.length := by simp [rowI]
theorem rowI_one (l : List Int) : ∀ u ∈ rowI l, u.oneCell' = true := by
  intro u hu
  obtain ⟨b, _, rfl⟩ := List.mem_map.1 hu
  rfl
theorem splice_ones {cur : List Value} {m k d : Nat} (hl : cur.length = m) (hk : k + d ≤ m) (ht : cur.take k = List.replicate k (Value.int .i64 1)) : (splice cur k (List.replicate d (Value.int .i64 1))).length = m ∧ (splice cur k (List.replicate d (Value.int .i64 1))).take (k + d) = List.replicate (k + d) (Value.int .i64 1) := by
  unfold splice
  rw [ht, List.length_replicate]
  constructor
  · simp [hl]
    omega
  · rw [← List.append_assoc, List.replicate_append_replicate]
    rw [List.take_append_of_le_length (by simp)]
    rw [List.take_of_length_le (by simp)]
theorem ones_cells {W : World} {g k m d : Nat} {cur : List Value} (hg : W.heap[g]? = some (.cells cur.toArray 3 (0, 0))) (hl : cur.length = m) (ht : cur.take k = List.replicate k (Value.int .i64 1)) (hd : d ≤ k) : ∀ j v, (List.replicate d (Value.int .i64 1))[j]? = some v → W.cell? (Addr.add ⟨g, 0, none⟩ j) = some v := by
  intro j v hj
  have hlt := (List.getElem?_eq_some_iff.1 hj).1
  rw [List.length_replicate] at hlt
  rw [addr_add, Nat.zero_add, cell_of_row _ g j cur.toArray 3 (0, 0) hg]
  have e : cur[j]? = (cur.take k)[j]? := by rw [List.getElem?_take_of_lt (by omega)]
  rw [List.getElem?_toArray, e, ht]
  rw [List.getElem?_replicate, if_pos (by omega)]
  rw [List.getElem?_replicate, if_pos hlt] at hj
  exact hj
theorem ones_own {W : World} {base g m : Nat} {cur : List Value} (hb : base ≤ g) (hg : W.heap[g]? = some (.cells cur.toArray 3 (0, 0))) (hl : cur.length = m) (ht : cur.take m = List.replicate m (Value.int .i64 1)) (hm : m ≤ 1000) : W.ownsRow base 3 1 (.slice (some ⟨g, 0, none⟩) m m) m (rowI (List.replicate m 1)) :=
  ⟨by simp [rowI], .inr ⟨g, m, cur.toArray, rfl, hb, hg, Nat.le_refl _, by unfold maxLen; omega, by simp [hl], by rw [Nat.mul_one]; show cur.take m = _; rw [ht]; simp [rowI]⟩⟩
def IsOnes (m : Nat) (w : World) (e : Ending) (w' : World) : Prop := ∃ g, e = .returned (.slice (some ⟨g, 0, none⟩) m m) ∧ w'.ownsRow w.heap.size 3 1 (.slice (some ⟨g, 0, none⟩) m m) m (rowI (List.replicate m 1)) ∧ Below w.heap.size w w'
set_option maxRecDepth 100000 in
set_option maxHeartbeats 1000000 in
theorem repeat_none (b c : Nat) (w : World) : Calls Try.prog 102 #[.slice (some ⟨b, 0, none⟩) 1 c, .int .i64 0] w (IsOnes 0 w) := by
  obtain ⟨i0, hi, hz0, hz1, hz2⟩ := info_parts info_int
  have c1 : ∀ w : World, Hid (Calls Try.prog 112 #[.int .u64 1, .int .u64 0] w fun e w' => e = .returned (.tuple #[.int .u64 0, .int .u64 0]) ∧ w = w') := fun w => mul_one 0 (by omega) w
  have hMC : ∀ W, (Instr.makeSlice 50 (.int .i64 0) (.int .i64 0)).run Try.prog W = .ok (.slice (some ⟨W.heap.size, 0, none⟩) 0 0) (W.alloc (.cells #[] 3)) := fun W => by
    have := run_make (P := Try.prog) W 50 3 i0 _ Try.underlying50 hi hz0 .i64 .i64 0 0 (by omega) (by omega) (by rw [hz2]; omega) (by omega)
    have e : madeCells (Value.int .i64 0).cells ((0 : Int).toNat * i0.size) = #[] := Array.eq_empty_of_size_eq_zero (by rw [size_madeCells]; simp)
    rw [e] at this
    exact this
  have hsz1 : (Try.prog.info? 3).map (·.size) = some 1 := by rw [hi]; simp [hz1]
  have HS := Lib.hid hsz1
  clear hi hz0 hz1 hz2 hsz1
  go_enter Try.func102, Try.ntmps102
  go_wp2_with fail
  refine Calls.mono (c1 _).out ?_
  rintro e w' ⟨rfl, rfl⟩
  go_wp2_with (refine wpList_copy_nothing rfl (.tmp 31) (.tmp 32) 50 50 rfl 3 Try.underlying50 HS.out (some ⟨w.heap.size, 0, none⟩) (some ⟨b, 0, none⟩) 0 0 1 c rfl rfl rfl ?_)
  refine wp_loop_rounds 1 ?_
  rw [rounds_succ]
  go_wp2_with fail
  go_ret
  exact ⟨w.heap.size, rfl, World.ownsRow_lit w #[] 0 (Nat.le_refl _) (by unfold maxLen; omega) rfl, (Below.refl _ _).alloc (Nat.le_refl _) _⟩
set_option maxRecDepth 100000 in
set_option maxHeartbeats 1000000 in
theorem repeat_some (b m c : Nat) (w : World) (h : m ≤ 1000) (hc : 1 ≤ c) (hpos : 1 ≤ m) (h1 : w.cell? ⟨b, 0, none⟩ = some (.int .i64 1)) :
    Calls Try.prog 102 #[.slice (some ⟨b, 0, none⟩) 1 c, .int .i64 (m : Int)] w (IsOnes m w) := by
  obtain ⟨i0, hi, hz0, hz1, hz2⟩ := info_parts info_int
  have c1 : ∀ w : World, Hid (Calls Try.prog 112 #[.int .u64 1, .int .u64 (m : Int)] w fun e w' => e = .returned (.tuple #[.int .u64 0, .int .u64 (m : Int)]) ∧ w = w') := fun w => mul_one m h w
  obtain ⟨MC, hMC, hsz⟩ : ∃ MC : List Value, (∀ W, (Instr.makeSlice 50 (.int .i64 (m : Int)) (.int .i64 (m : Int))).run Try.prog W = .ok (.slice (some ⟨W.heap.size, 0, none⟩) m m) (W.alloc (.cells MC.toArray 3))) ∧ MC.length = m := by
    refine ⟨(madeCells (Value.int .i64 0).cells (m * i0.size)).toList, fun W => ?_, by rw [Array.length_toList, size_madeCells, hz1, Nat.mul_one]⟩
    have := run_make (P := Try.prog) W 50 3 i0 _ Try.underlying50 hi hz0 .i64 .i64 (m : Int) (m : Int) (by omega) (by omega) (by rw [hz2]; omega) (by omega)
    simpa using this
  have h0 : (0 : Int) ≤ (m : Int) := by omega
  have hm : (m : Int) ≤ 1000 := by omega
  have e5 : IntKind.u64.wrap (m : Int) = (m : Int) := by rw [IntKind.wrap_u64]; omega
  have hsz1 : (Try.prog.info? 3).map (·.size) = some 1 := by rw [hi]; simp [hz1]
  have HS := Lib.hid hsz1
  have hbl : b < w.heap.size := World.block_lt_of_cell? _ _ h1
  have hcell : (w.alloc (.cells MC.toArray 3)).cell? ⟨b, 0, none⟩ = some (.int .i64 1) := (World.cell?_alloc_lt _ _ _ hbl).trans h1
  have hc1 : Hid (∀ j v, [Value.int .i64 1][j]? = some v → (w.alloc (.cells MC.toArray 3)).cell? (Addr.add ⟨b, 0, none⟩ j) = some v) := Lib.hid (fun j v hj => by
    have : j = 0 := by have := (List.getElem?_eq_some_iff.1 hj).1; simpa using this
    subst this
    simp at hj
    subst hj
    exact hcell)
  have hnew : Hid ((w.alloc (.cells MC.toArray 3)).heap[w.heap.size]? = some (.cells MC.toArray 3 (0, 0))) := Lib.hid (heap_alloc_new w _)
  have hbw : Hid (Below w.heap.size w (w.alloc (.cells MC.toArray 3))) := Lib.hid ((Below.refl _ _).alloc (Nat.le_refl _) _)
  have hmin : Hid ([Value.int .i64 1].length = Nat.min 1 m) := Lib.hid (by show 1 = min 1 m; omega)
  have hfit : Hid (0 + [Value.int .i64 1].length ≤ MC.length) := Lib.hid (by rw [hsz]; simpa using hpos)
  have hone : Hid (∀ v ∈ [Value.int .i64 1], v.oneCell' = true) := Lib.hid (by intro v hv; simp at hv; subst hv; rfl)
  have hst : Hid ((splice MC 0 [Value.int .i64 1]).length = m ∧ (splice MC 0 [Value.int .i64 1]).take 1 = List.replicate 1 (Value.int .i64 1)) := Lib.hid (by
    have := splice_ones (cur := MC) (k := 0) (d := 1) hsz (by omega) (by simp)
    simpa using this)
  clear hi hz0 hz1 hz2 hsz hsz1 hcell h1 hbl
  go_enter Try.func102, Try.ntmps102
  go_wp2_with fail
  refine Calls.mono (c1 _).out ?_
  rintro e w' ⟨rfl, rfl⟩
  go_wp2_with ((refine wpList_copy_splice rfl (.tmp 31) (.tmp 32) 50 50 rfl 3 Try.underlying50 HS.out (some ⟨w.heap.size, 0, none⟩) (some ⟨b, 0, none⟩) m m 1 c rfl rfl w.heap.size 0 MC 3 hnew.out [.int .i64 1] hmin.out (fun _ => ⟨rfl, _, rfl, hc1.out⟩) hfit.out hone.out w.heap.size w hbw.out (Nat.le_refl _) ?_; intro w4 hg4 hb4))
  have HB4 := Lib.hid hb4
  clear hb4
  go_loopw [8] (fun nn wr => ∃ (k : Nat) (cur : List Value), nn = .int .i64 k ∧ 1 ≤ k ∧ k ≤ m ∧ Hid (wr.heap[w.heap.size]? = some (.cells cur.toArray 3 (0, 0))) ∧ Hid (cur.length = m) ∧ Hid (cur.take k = List.replicate k (Value.int .i64 1)) ∧ Hid (Below w.heap.size w wr)) (fun nn _ => m - (intOf nn).toNat)
  case atStart => exact ⟨1, _, rfl, Nat.le_refl _, hpos, hg4, hst.out.1, hst.out.2, HB4⟩
  case round =>
    obtain ⟨k, cur, rfl, hk1, hkm, hg, hl, ht, hb⟩ := hrel
    by_cases hlt : k < m
    · have hk0 : (0 : Int) ≤ (k : Int) := by omega
      have hkm' : (k : Int) < (m : Int) := by omega
      have hkm2 : (k : Int) ≤ (m : Int) := by omega
      have hmk : ¬ m = k := by omega
      obtain ⟨d, hd, hd1, hdk⟩ : ∃ d, Nat.min k (m - k) = d ∧ 1 ≤ d ∧ d ≤ k ∧ k + d ≤ m := ⟨min k (m - k), rfl, by omega, by omega, by omega⟩
      have HD := Lib.hid hd
      have hcs := Lib.hid (ones_cells (d := d) hg.out hl.out ht.out hdk.1)
      have hst2 := Lib.hid (splice_ones (d := d) hl.out hdk.2 ht.out)
      have hfit2 : Hid (k + (List.replicate d (Value.int .i64 1)).length ≤ cur.length) := Lib.hid (by rw [hl.out, List.length_replicate]; exact hdk.2)
      have hone2 : Hid (∀ v ∈ List.replicate d (Value.int .i64 1), v.oneCell' = true) := Lib.hid (by intro v hv; rw [List.eq_of_mem_replicate hv]; rfl)
      have hmin2 : Hid ((List.replicate d (Value.int .i64 1)).length = Nat.min k (m - k)) := Lib.hid (by rw [List.length_replicate]; exact hd.symm)
      have hb2 : Hid (Below w.heap.size w wr.drew) := Lib.hid (hb.out.drew)
      clear hd
      have ew : IntKind.i64.wrap ((k : Int) + (d : Int)) = (k : Int) + (d : Int) := IntWalk.i64_in _ (by omega)
      go_wp2_with fail
      refine wp_region_held (S := fun W => Below w.heap.size w W) (by kernel_rfl) ?_
      change wpAnyH _ _ _ _ _ _ _ _ (World.drew _)
      have hS0 := hb2.out
      refine wpAnyH_take (i := 0) (v := .int .i64 (k : Int)) rfl (by kernel_rfl) (by kernel_rfl) (by kernel_rfl) (fun _ _ _ h => h) (Or.inl ⟨by rfl, by intro W hW; go_simp; try (with_reducible rfl)⟩) hS0 ?_
      refine wpAnyH_take (i := 1) (v := .slice (some ⟨w.heap.size, 0, none⟩) m m) rfl (by kernel_rfl) (by kernel_rfl) (by kernel_rfl) (fun _ _ _ h => h) (Or.inl ⟨by rfl, by intro W hW; go_simp; try (with_reducible rfl)⟩) hS0 ?_
      refine wpAnyH_take (i := 2) (v := .int .i64 (k : Int)) rfl (by kernel_rfl) (by kernel_rfl) (by kernel_rfl) (fun _ _ _ h => h) (Or.inl ⟨by rfl, by intro W hW; go_simp; try (with_reducible rfl)⟩) hS0 ?_
      refine wpAnyH_take (i := 3) (v := .slice (some ⟨w.heap.size, k, none⟩) (m - k) (m - k)) rfl (by kernel_rfl) (by kernel_rfl) (by kernel_rfl) (fun _ _ _ h => h) (Or.inl ⟨by rfl, by intro W hW; go_simp; try (with_reducible rfl)⟩) hS0 ?_
      refine wpAnyH_take (i := 4) (v := .slice (some ⟨w.heap.size, 0, none⟩) m m) rfl (by kernel_rfl) (by kernel_rfl) (by kernel_rfl) (fun _ _ _ h => h) (Or.inl ⟨by rfl, by intro W hW; go_simp; try (with_reducible rfl)⟩) hS0 ?_
      refine wpAnyH_take (i := 5) (v := .int .i64 (k : Int)) rfl (by kernel_rfl) (by kernel_rfl) (by kernel_rfl) (fun _ _ _ h => h) (Or.inl ⟨by rfl, by intro W hW; go_simp; try (with_reducible rfl)⟩) hS0 ?_
      refine wpAnyH_take (i := 6) (v := .slice (some ⟨w.heap.size, 0, none⟩) k m) rfl (by kernel_rfl) (by kernel_rfl) (by kernel_rfl) (fun _ _ _ h => h) (Or.inl ⟨by rfl, by intro W hW; go_simp; try (with_reducible rfl)⟩) hS0 ?_
      refine wpAnyH_one (i := 7) (by kernel_rfl) rfl (fun K hK => ?_)
      refine step_copy_splice rfl (.tmp 41) (.tmp 44) 50 50 rfl 3 Try.underlying50 HS.out (some ⟨w.heap.size, k, none⟩) (some ⟨w.heap.size, 0, none⟩) (m - k) (m - k) k m ?qq1 ?qq2 w.heap.size k cur 3 hg.out (List.replicate d (Value.int .i64 1)) hmin2.out (fun _ => ⟨rfl, _, rfl, hcs.out⟩) hfit2.out hone2.out w.heap.size w hb2.out (Nat.le_refl _) ?_
      case qq1 => go_simp
      case qq2 => go_simp
      intro w5 hg5 hb5
      rw [List.length_replicate]
      refine hK _ _ ⟨hb5, ?_⟩; clear hK K
      refine wpAnyH_one (i := 8) (by kernel_rfl) rfl (fun K hK => ?_)
      go_simp
      refine hK _ _ ⟨hb5, ?_⟩; clear hK K
      refine wpAnyH_one (i := 9) (by kernel_rfl) rfl (fun K hK => ?_)
      go_simp
      refine hK _ _ ⟨hb5, ?_⟩; clear hK K
      have HB5 := Lib.hid hb5
      clear hb5 hS0 ew
      refine wpAnyH_done (by kernel_rfl) ?_ _
      go_wp2_with fail
      go_roundw
      case rel => exact ⟨k + d, _, by go_num, by omega, hdk.2, hg5, hst2.out.1, hst2.out.2, HB5⟩
      case measure => simp [intOf]; omega
    · have hkn : k = m := by omega
      subst hkn
      have X := Lib.hid (ones_own (base := w.heap.size) (Nat.le_refl _) hg.out hl.out ht.out h)
      go_wp2_with fail
      go_ret
      exact ⟨w.heap.size, rfl, X.out, hb.out⟩
theorem repeat_any (b m c : Nat) (w : World) (h : m ≤ 1000) (hc : 1 ≤ c) (h1 : w.cell? ⟨b, 0, none⟩ = some (.int .i64 1)) :
    Calls Try.prog 102 #[.slice (some ⟨b, 0, none⟩) 1 c, .int .i64 (m : Int)] w (IsOnes m w) := by
  rcases Nat.eq_zero_or_pos m with h0 | h0
  · subst h0
    exact repeat_none b c w
  · exact repeat_some b m c w h hc h0 h1
end Go.Proofs.Ytpladpmkpchndaa
