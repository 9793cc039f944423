/-
  The digits of a number: plain, by the document, and by the program.
-/
import Derived.Test.YtjalphlhooojoaaHeld
import Derived.IntWalk
import Derived.Lib.SlBytesRow
namespace Go.Proofs.Ytjalphlhooojoaa
open Go.RowKit
set_option linter.unusedSimpArgs false
set_option linter.unusedVariables false

def dg (n : Nat) : List UInt8 := if n < 10 then [UInt8.ofNat (48 + n)] else dg (n / 10) ++ [UInt8.ofNat (48 + n % 10)]
termination_by n
decreasing_by omega
theorem dg_lt {n : Nat} (h : n < 10) : dg n = [UInt8.ofNat (48 + n)] := by rw [dg, if_pos h]
theorem dg_ge {n : Nat} (h : 10 ≤ n) : dg n = dg (n / 10) ++ [UInt8.ofNat (48 + n % 10)] := by rw [dg, if_neg (by omega)]
theorem dg_len : ∀ (k n : Nat), n < 10 ^ (k + 1) → (dg n).length ≤ k + 1
  | 0, n, h => by rw [dg_lt (by simpa using h)]; simp
  | k + 1, n, h => by
    by_cases h9 : n < 10
    · rw [dg_lt h9]; simp
    · rw [dg_ge (by omega), List.length_append]
      have := dg_len k (n / 10) (by rw [Nat.pow_succ] at h; omega)
      simp only [List.length_cons, List.length_nil]
      omega
theorem dg_le19 {n : Nat} (h : n < 9999999999999999999) : (dg n).length ≤ 19 := dg_len 18 n (by omega)
def digM (n : Int) : List UInt8 := if 0 ≤ n then dg n.natAbs else 45 :: dg n.natAbs
def strU (l : List UInt8) : ByteArray := ⟨l.toArray⟩
theorem strU_app (l m : List UInt8) : strU (l ++ m) = strU l ++ strU m := by
  apply ByteArray.ext
  unfold strU
  rw [ByteArray.data_append]
  simp
theorem strU_size (l : List UInt8) : (strU l).size = l.length := by simp [strU, ByteArray.size]
def rowU (l : List UInt8) : List Value := l.map fun b : UInt8 => Value.int .u8 (b.toNat : Int)
theorem rowU_app (l m : List UInt8) : rowU (l ++ m) = rowU l ++ rowU m := List.map_append
theorem conv_row (W : World) (base : Nat) (A : Option Addr) (n c : Nat) (l : List UInt8) (h : W.ownsRow base 5 1 (.slice A n c) n (rowU l)) :
    (convert 66 9 (.slice A n c)).run Try.prog W = .ok (.string (strU l)) W := by
  have hl : l.length = n := by have := h.1; simpa [rowU] using this
  have h' := h
  rcases h.2 with ⟨hv, h0⟩ | ⟨g, cap, cur, hv, _⟩
  · simp only [Value.slice.injEq] at hv
    obtain ⟨rfl, rfl, rfl⟩ := hv
    have : l = [] := List.eq_nil_of_length_eq_zero hl
    subst this
    rw [run_convert_bytes_string W 66 9 5 _ 0 0 Try.underlying66 Try.underlying5 Try.underlying9]
    simp [Conv.bytesToString, loadCells, strU]
    all_goals rfl
  · simp only [Value.slice.injEq, true_and] at hv
    obtain ⟨rfl, rfl⟩ := hv
    have hs : (strU l).size = n := by rw [strU_size, hl]
    have := Lib.run_convert_whole (P := Try.prog) W 66 5 9 Try.underlying66 Try.underlying5 Try.underlying9 g 0 (strU l) (fun i hi => by
      rw [hs] at hi
      have hc := h'.cellAt i (by omega)
      rw [Nat.zero_add, hc]
      unfold rowU
      rw [List.getElem?_map, List.getElem?_eq_getElem (by omega)]
      have hx : (strU l)[i]'(by rw [hs]; exact hi) = l[i]'(by omega) := by simp [strU, ByteArray.getElem_eq_getElem_data]
      rw [hx]
      rfl) c
    rw [hs] at this
    exact this
theorem info_byte : (Try.prog.info? 5).map (fun i => (i.zero, i.size, i.bytes)) = some (some (.int .u8 0), 1, 1) := by kernel_rfl
theorem conv_lit (w : World) (l : List UInt8) (n : Nat) (hl : l.length = n) (hn : n ≤ 100) :
    (convert 66 9 (.slice (some ⟨w.heap.size, 0, none⟩) n n)).run Try.prog (w.alloc (.cells (rowU l).toArray 5)) = .ok (.string (strU l)) (w.alloc (.cells (rowU l).toArray 5)) :=
  conv_row _ w.heap.size _ n n l (World.ownsRow_lit (base := w.heap.size) (e := 5) (size := 1) w (rowU l).toArray n (Nat.le_refl _) (by unfold maxLen; omega) (by simp [rowU, hl]))
theorem u8_dig (k : Nat) (h : k < 10) : ((UInt8.ofNat (48 + k)).toNat : Int) = 48 + (k : Int) := by
  rw [UInt8.toNat_ofNat']
  omega

theorem digM_neg {n : Int} (h : n < 0) : digM n = 45 :: dg n.natAbs := by unfold digM; rw [if_neg (by omega)]
theorem digM_len {n : Int} (h0 : -9223372036854775808 ≤ n) (h1 : n ≤ 9223372036854775807) : (digM n).length ≤ 20 := by
  unfold digM
  have := dg_le19 (n := n.natAbs) (by omega)
  split <;> simp <;> omega
end Go.Proofs.Ytjalphlhooojoaa
