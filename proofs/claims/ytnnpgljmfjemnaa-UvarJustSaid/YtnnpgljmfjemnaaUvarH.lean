/-
  Numbers as few bytes: a region that draws its order, walked with what stood before it held; bytes as strings.
-/
import Derived.Test.YtnnpgljmfjemnaaUvarB
import Derived.OrdersHeld
namespace Go.Proofs.Ytnnpgljmfjemnaa
open Go.RowKit
set_option linter.unusedSimpArgs false
set_option linter.unusedVariables false

theorem wpAnyH_one {P : Program} {ops : Array Oper} {Q : Exit → Act → World → Prop} {md : Region.Mode} {S : World → Prop} {i fuel : Nat} {o : Oper} {listed : Array Bool} {a : Act} {w : World}
    (hr : Region.ready md ops listed = [i]) (ho : ops[i]? = some o)
    (h : ∀ K' : Act → World → Prop, (∀ a w, S w ∧ wpAnyH P md ops Q S fuel (listed.setIfInBounds i true) a w → K' a w) → if Region.wanted o (yielded ops a.tmps) = true then Oper.wp P o a w K' Q else K' (a.put o.dst undef) w) :
    wpAnyH P md ops Q S (fuel + 1) listed a w :=
  wpAnyH_all hr (by simp) (fun j hj => by
    rcases List.mem_singleton.1 hj with rfl
    exact wpOp_step ho h)

def strB (l : List Nat) : ByteArray := ⟨(l.map UInt8.ofNat).toArray⟩
theorem strB_app (l m : List Nat) : strB (l ++ m) = strB l ++ strB m := by
  apply ByteArray.ext
  unfold strB
  rw [ByteArray.data_append]
  simp
theorem conv_zero (W : World) (A : Option Addr) (c : Nat) : (convert 61 9 (.slice A 0 c)).run Try.prog W = .ok (.string (strB [])) W := by
  rw [run_convert_bytes_string W 61 9 5 _ 0 c Try.underlying61 Try.underlying5 Try.underlying9]
  cases A <;> simp [Conv.bytesToString, loadCells, strB]
  all_goals rfl
theorem conv_slb {W : World} {B : Nat} {A : Option Addr} {n c : Nat} {l : List Nat} (h : SlB W B A n c l) : (convert 61 9 (.slice A n c)).run Try.prog W = .ok (.string (strB l)) W := by
  obtain ⟨⟨h1, h2, h3, h4, h5⟩, hb⟩ := h
  rcases Nat.eq_zero_or_pos n with h0 | h0
  · subst h0
    rw [List.eq_nil_of_length_eq_zero h1]
    exact conv_zero W A c
  · obtain ⟨b, off, rfl, _, hx⟩ := h5 h0
    have hs : (strB l).size = n := by simp [strB, ByteArray.size, h1]
    have := Lib.run_convert_whole (P := Try.prog) W 61 5 9 Try.underlying61 Try.underlying5 Try.underlying9 b off (strB l) (fun i hi => by
      rw [hs] at hi
      have hi' : i < l.length := by omega
      obtain ⟨cs, hl, hc, hr⟩ := hx i l[i] (List.getElem?_eq_getElem hi')
      unfold RC at hr
      subst hr
      have := hc 0 _ rfl
      rw [show off + (i * 1 + 0) = off + i by omega] at this
      rw [this]
      have hbi := hb l[i] (List.getElem_mem hi')
      have hx : (strB l)[i]'(by rw [hs]; exact hi) = UInt8.ofNat l[i] := by simp [strB, ByteArray.getElem_eq_getElem_data]
      rw [hx]
      simp
      omega) c
    rw [hs] at this
    exact this
end Go.Proofs.Ytnnpgljmfjemnaa
