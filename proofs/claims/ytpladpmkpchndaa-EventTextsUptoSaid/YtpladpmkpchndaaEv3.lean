/-
  The digits of a number: plain, by the document, and by the program.
-/
import Derived.Test.YtpladpmkpchndaaEv2
import Derived.IntWalk
import Derived.Lib.SlBytesRow
namespace Go.Proofs.Ytpladpmkpchndaa
open Go.RowKit
set_option linter.unusedSimpArgs false
set_option linter.unusedVariables false

def dg (n : Nat) : List UInt8 := if n < 10 then [UInt8.ofNat (48 + n)] else dg (n / 10) ++ [UInt8.ofNat (48 + n % 10)]
termination_by n
decreasing_by omega
theorem dg_lt {n : Nat} (h : n < 10) : dg n = [UInt8.ofNat (48 + n)] := by rw [dg, if_pos h]
theorem dg_ge {n : Nat} (h : 10 ≤ n) : dg n = dg (n / 10) ++ [UInt8.ofNat (48 + n % 10)] := by rw [dg, if_neg (by omega)]
theorem dg_len : ∀ (k n : Nat), n < 10 ^ (k + 1) → (dg n).length ≤ k + 1
  | 0, n, h => by rw [dg_lt (by simpa using h)]; simp
  | k + 1, n, h => by
    by_cases h9 : n < 10
    · rw [dg_lt h9]; simp
    · rw [dg_ge (by omega), List.length_append]
      have := dg_len k (n / 10) (by rw [Nat.pow_succ] at h; omega)
      simp only [List.length_cons, List.length_nil]
      omega
theorem dg_le19 {n : Nat} (h : n < 9999999999999999999) : (dg n).length ≤ 19 := dg_len 18 n (by omega)
def digM (n : Int) : List UInt8 := if 0 ≤ n then dg n.natAbs else 45 :: dg n.natAbs
def strU (l : List UInt8) : ByteArray := ⟨l.toArray⟩
theorem strU_app (l m : List UInt8) : strU (l ++ m) = strU l ++ strU m := by
  apply ByteArray.ext
  unfold strU
  rw [ByteArray.data_append]
  simp
theorem strU_size (l : List UInt8) : (strU l).size = l.length := by simp [strU, ByteArray.size]
def rowU (l : List UInt8) : List Value := l.map fun b : UInt8 => Value.int .u8 (b.toNat : Int)
theorem rowU_app (l m : List UInt8) : rowU (l ++ m) = rowU l ++ rowU m := List.map_append
theorem conv_row (W : World) (base : Nat) (A : Option Addr) (n c : Nat) (l : List UInt8) (h : W.ownsRow base 5 1 (.slice A n c) n (rowU l)) :
    (convert 132 9 (.slice A n c)).run Try.prog W = .ok (.string (strU l)) W := by
  have hl : l.length = n := by have := h.1; simpa [rowU] using this
  have h' := h
  rcases h.2 with ⟨hv, h0⟩ | ⟨g, cap, cur, hv, _⟩
  · simp only [Value.slice.injEq] at hv
    obtain ⟨rfl, rfl, rfl⟩ := hv
    have : l = [] := List.eq_nil_of_length_eq_zero hl
    subst this
    rw [run_convert_bytes_string W 132 9 5 _ 0 0 Try.underlying132 Try.underlying5 Try.underlying9]
    simp [Conv.bytesToString, loadCells, strU]
    all_goals rfl
  · simp only [Value.slice.injEq, true_and] at hv
    obtain ⟨rfl, rfl⟩ := hv
    have hs : (strU l).size = n := by rw [strU_size, hl]
    have := Lib.run_convert_whole (P := Try.prog) W 132 5 9 Try.underlying132 Try.underlying5 Try.underlying9 g 0 (strU l) (fun i hi => by
      rw [hs] at hi
      have hc := h'.cellAt i (by omega)
      rw [Nat.zero_add, hc]
      unfold rowU
      rw [List.getElem?_map, List.getElem?_eq_getElem (by omega)]
      have hx : (strU l)[i]'(by rw [hs]; exact hi) = l[i]'(by omega) := by simp [strU, ByteArray.getElem_eq_getElem_data]
      rw [hx]
      rfl) c
    rw [hs] at this
    exact this
theorem info_byte : (Try.prog.info? 5).map (fun i => (i.zero, i.size, i.bytes)) = some (some (.int .u8 0), 1, 1) := by kernel_rfl
theorem conv_lit (w : World) (l : List UInt8) (n : Nat) (hl : l.length = n) (hn : n ≤ 100) :
    (convert 132 9 (.slice (some ⟨w.heap.size, 0, none⟩) n n)).run Try.prog (w.alloc (.cells (rowU l).toArray 5)) = .ok (.string (strU l)) (w.alloc (.cells (rowU l).toArray 5)) :=
  conv_row _ w.heap.size _ n n l (World.ownsRow_lit (base := w.heap.size) (e := 5) (size := 1) w (rowU l).toArray n (Nat.le_refl _) (by unfold maxLen; omega) (by simp [rowU, hl]))
theorem u8_dig (k : Nat) (h : k < 10) : ((UInt8.ofNat (48 + k)).toNat : Int) = 48 + (k : Int) := by
  rw [UInt8.toNat_ofNat']
  omega

set_option maxRecDepth 100000 in
set_option maxHeartbeats 1000000 in
theorem digits_any : ∀ (n : Nat) (hn : n < 9223372036854775808) (w : World),
    Calls Try.prog 109 #[.int .i64 (n : Int)] w fun e w' => e = .returned (.string (strU (dg n))) ∧ Below w.heap.size w w' := by
  intro n
  induction n using Nat.strongRecOn with
  | _ n ih =>
    intro hn w
    by_cases h : n < 10
    · rw [dg_lt h]
      have h1 : (n : Int) < 10 := by omega
      have hc := conv_lit w [UInt8.ofNat (48 + n)] 1 rfl (by omega)
      have e1 : rowU [UInt8.ofNat (48 + n)] = [.int .u8 (48 + (n : Int))] := by simp [rowU, u8_dig n h]; omega
      rw [e1] at hc
      have e2 : IntKind.u8.wrap (48 + (n : Int)) = 48 + (n : Int) := by rw [IntKind.wrap_u8]; omega
      clear ih e1
      obtain ⟨s, hs⟩ : ∃ s, strU [UInt8.ofNat (48 + n)] = s := ⟨_, rfl⟩
      rw [hs] at hc ⊢
      clear hs
      go_enter Try.func109, Try.ntmps109
      go_wp2_with fail
      go_ret
      exact ⟨rfl, (Below.refl _ _).alloc (Nat.le_refl _) _⟩
    · have h1 : ¬ (n : Int) < 10 := by omega
      have c1 : ∀ w : World, Hid (Calls Try.prog 109 #[.int .i64 ((n : Int) / 10)] w fun e w' => e = .returned (.string (strU (dg (n / 10)))) ∧ Below w.heap.size w w') := fun w => by
        have := ih (n / 10) (by omega) (by omega) w
        rw [show ((n / 10 : Nat) : Int) = (n : Int) / 10 by omega] at this
        exact this
      have c2 : ∀ w : World, Hid (Calls Try.prog 109 #[.int .i64 ((n : Int) % 10)] w fun e w' => e = .returned (.string (strU [UInt8.ofNat (48 + n % 10)])) ∧ Below w.heap.size w w') := fun w => by
        have := ih (n % 10) (by omega) (by omega) w
        rw [show ((n % 10 : Nat) : Int) = (n : Int) % 10 by omega, dg_lt (by omega)] at this
        exact this
      rw [dg_ge (by omega), strU_app]
      have h0 : (0 : Int) ≤ (n : Int) := by omega
      clear ih
      have hq : (strU (dg (n / 10))).size + (strU [UInt8.ofNat (48 + n % 10)]).size ≤ 9223372036854775807 := by
        have := dg_le19 (n := n / 10) (by omega)
        rw [strU_size, strU_size]
        simp only [List.length_cons, List.length_nil]
        omega
      obtain ⟨s, hs⟩ : ∃ s, strU (dg (n / 10)) = s := ⟨_, rfl⟩
      obtain ⟨t, ht⟩ : ∃ s, strU [UInt8.ofNat (48 + n % 10)] = s := ⟨_, rfl⟩
      rw [hs] at c1 hq ⊢
      rw [ht] at c2 hq ⊢
      clear hs ht
      go_enter Try.func109, Try.ntmps109
      go_wp2_with fail
      refine Calls.mono (c1 _).out ?_
      rintro e w1 ⟨rfl, hb1⟩
      go_wp2_with fail
      refine Calls.mono (c2 _).out ?_
      rintro e w2 ⟨rfl, hb2⟩
      go_wp2_with fail
      go_ret
      exact ⟨rfl, bl_trans hb1 hb1.size hb2⟩

theorem digM_neg {n : Int} (h : n < 0) : digM n = 45 :: dg n.natAbs := by unfold digM; rw [if_neg (by omega)]
theorem digM_len {n : Int} (h0 : -9223372036854775808 ≤ n) (h1 : n ≤ 9223372036854775807) : (digM n).length ≤ 20 := by
  unfold digM
  have := dg_le19 (n := n.natAbs) (by omega)
  split <;> simp <;> omega
set_option maxRecDepth 100000 in
set_option maxHeartbeats 1000000 in
theorem refDigits_any (n : Int) (hn0 : -9223372036854775808 ≤ n) (hn1 : n ≤ 9223372036854775807) (w : World) :
    Calls Try.prog 95 #[.int .i64 n] w fun e w' => e = .returned (.string (strU (digM n))) ∧ Below w.heap.size w w' := by
  by_cases h : 0 ≤ n
  · have e : digM n = dg n.natAbs := by unfold digM; rw [if_pos h]
    rw [e]
    have c1 : ∀ w : World, Hid (Calls Try.prog 109 #[.int .i64 n] w fun e w' => e = .returned (.string (strU (dg n.natAbs))) ∧ Below w.heap.size w w') := fun w => by
      have := digits_any n.natAbs (by omega) w
      rw [show ((n.natAbs : Nat) : Int) = n by omega] at this
      exact this
    clear e
    obtain ⟨s, hs⟩ : ∃ s, strU (dg n.natAbs) = s := ⟨_, rfl⟩
    rw [hs] at c1 ⊢
    clear hs
    go_enter Try.func95, Try.ntmps95
    go_wp2_with fail
    refine Calls.mono (c1 _).out ?_
    rintro e w1 ⟨rfl, hb1⟩
    go_wp2_with fail
    go_ret
    exact ⟨rfl, hb1⟩
  · rw [digM_neg (by omega)]
    obtain ⟨m, hm⟩ : ∃ m : Nat, n = -(m : Int) := ⟨n.natAbs, by omega⟩
    have q0 : Int.tdiv n 10 = -((m / 10 : Nat) : Int) := by rw [hm, Int.neg_tdiv, Int.tdiv_eq_ediv_of_nonneg (by omega)]; omega
    have q1 : Int.tmod n 10 = -((m % 10 : Nat) : Int) := by rw [hm, Int.neg_tmod, Int.tmod_eq_emod_of_nonneg (by omega)]; omega
    rw [show n.natAbs = m by omega]
    have hm0 : 0 < m := by omega
    have hm1 : m ≤ 9223372036854775808 := by omega
    have hstr : strU (45 :: dg m) = strU [45] ++ strU (dg m) := strU_app [45] (dg m)
    have e45 : (strU [45]) = { data := #[45] } := rfl
    have hlen := dg_le19 (n := m) (by omega)
    by_cases h10 : m < 10
    · have c1 : ∀ w : World, Hid (Calls Try.prog 109 #[.int .i64 (-n)] w fun e w' => e = .returned (.string (strU (dg m))) ∧ Below w.heap.size w w') := fun w => by
        have := digits_any m (by omega) w
        rw [show (m : Int) = -n by omega] at this
        exact this
      rw [show ((m / 10 : Nat) : Int) = 0 by omega] at q0
      have hz : (strU [45]).size + (strU (dg m)).size ≤ 9223372036854775807 := by rw [strU_size, strU_size]; simp; omega
      rw [e45] at hstr hz
      rw [hstr]
      clear hstr q1 e45
      have hn2 : n < 0 := by omega
      have hn3 : -10 < n := by omega
      obtain ⟨s, hs⟩ : ∃ s, strU (dg m) = s := ⟨_, rfl⟩
      rw [hs] at c1 hz ⊢
      clear hs hm hm0 hm1 h10 hlen hn1 hn0
      go_enter Try.func95, Try.ntmps95
      go_wp2_with fail
      refine Calls.mono (c1 _).out ?_
      rintro e w1 ⟨rfl, hb1⟩
      go_wp2_with fail
      go_ret
      exact ⟨rfl, hb1⟩
    · have c1 : ∀ w : World, Hid (Calls Try.prog 109 #[.int .i64 ((m / 10 : Nat) : Int)] w fun e w' => e = .returned (.string (strU (dg (m / 10)))) ∧ Below w.heap.size w w') := fun w => digits_any (m / 10) (by omega) w
      have c2 : ∀ w : World, Hid (Calls Try.prog 109 #[.int .i64 ((m % 10 : Nat) : Int)] w fun e w' => e = .returned (.string (strU [UInt8.ofNat (48 + m % 10)])) ∧ Below w.heap.size w w') := fun w => by
        have := digits_any (m % 10) (by omega) w
        rw [dg_lt (by omega)] at this
        exact this
      rw [dg_ge (by omega), strU_app] at hstr
      have hl2 := dg_le19 (n := m / 10) (by omega)
      have hz : (strU [45]).size + (strU (dg (m / 10))).size ≤ 9223372036854775807 := by rw [strU_size, strU_size]; simp; omega
      have hz2 : (strU [45] ++ strU (dg (m / 10))).size + (strU [UInt8.ofNat (48 + m % 10)]).size ≤ 9223372036854775807 := by rw [← strU_app, strU_size, strU_size]; simp; omega
      rw [e45] at hstr hz hz2
      rw [← ByteArray.append_assoc] at hstr
      rw [dg_ge (by omega), hstr]
      clear hstr e45
      have hn2 : n < 0 := by omega
      obtain ⟨x, hx⟩ : ∃ x, m / 10 = x := ⟨_, rfl⟩
      obtain ⟨y, hy⟩ : ∃ x, m % 10 = x := ⟨_, rfl⟩
      have hx0 : 0 < x := by omega
      have hx1 : x ≤ 922337203685477580 := by omega
      have hy0 : y < 10 := by omega
      rw [hx] at c1 q0 hz hz2 ⊢
      rw [hy] at c2 q1 hz2 ⊢
      have t0 : (-(x : Int) == 0) = false := by rw [beq_eq_false_iff_ne]; omega
      obtain ⟨s, hs⟩ : ∃ s, strU (dg x) = s := ⟨_, rfl⟩
      obtain ⟨t, ht⟩ : ∃ s, strU [UInt8.ofNat (48 + y)] = s := ⟨_, rfl⟩
      rw [hs] at c1 hz hz2 ⊢
      rw [ht] at c2 hz2 ⊢
      clear hs ht hm hm0 hm1 h10 hlen hn1 hn0 hx hy hl2
      go_enter Try.func95, Try.ntmps95
      go_wp2_with fail
      refine Calls.mono (c1 _).out ?_
      rintro e w1 ⟨rfl, hb1⟩
      go_wp2_with fail
      refine Calls.mono (c2 _).out ?_
      rintro e w2 ⟨rfl, hb2⟩
      go_wp2_with fail
      go_ret
      exact ⟨rfl, bl_trans hb1 hb1.size hb2⟩
end Go.Proofs.Ytpladpmkpchndaa
