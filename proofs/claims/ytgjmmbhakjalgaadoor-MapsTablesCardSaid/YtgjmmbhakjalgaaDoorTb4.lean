/-
  Numbers as few bytes: the program's Put behind a row that is owned; what stays is told by blocks.
-/
import Derived.Test.YtgjmmbhakjalgaaDoorTb0
namespace Go.Proofs.YtgjmmbhakjalgaaDoor
open Go.RowKit
set_option linter.unusedSimpArgs false
set_option linter.unusedVariables false
structure PutS (base : Nat) (A : Option Addr) (w : World) (A' : Option Addr) (k c : Nat) (l : List Nat) (W : World) : Prop where
  own : W.ownsRow base 5 1 (.slice A' k c) k (rowB l)
  kp : Kp (fun j => A = some ⟨j, 0, none⟩) w W
  at_ : A' = A ∨ ∃ j, A' = some ⟨j, 0, none⟩ ∧ w.heap.size ≤ j
  sz : base ≤ W.heap.size
def IsPut (base : Nat) (A : Option Addr) (k : Nat) (l : List Nat) (w : World) (e : Ending) (w' : World) : Prop := ∃ A' c', e = .returned (.slice A' k c') ∧ w'.ownsRow base 5 1 (.slice A' k c') k (rowB l) ∧ Kp (fun j => A = some ⟨j, 0, none⟩) w w' ∧ (A' = A ∨ ∃ j, A' = some ⟨j, 0, none⟩ ∧ w.heap.size ≤ j)
theorem PutS.row {base : Nat} {A : Option Addr} {w : World} {A' : Option Addr} {k c : Nat} {l : List Nat} {W : World} (h : PutS base A w A' k c l W) (o : Obj) : RowF (W.alloc o) base 5 1 A' k c (rowB l) :=
  RowF.ofOwn (h.own.alloc o)
theorem PutS.step {base : Nat} {A : Option Addr} {w : World} {A' : Option Addr} {k c : Nat} {l : List Nat} {W : World} (h : PutS base A w A' k c l W) {o : Obj} {w3 : World} {A3 : Option Addr} {c3 b : Nat} {news : List Value} (hb : rowB [b] = news)
    (hown : w3.ownsRow base 5 1 (.slice A3 (k + 1) c3) (k + 1) (rowB l ++ news)) (hk : Kp (fun j => A' = some ⟨j, 0, none⟩) (W.alloc o) w3) (hA : A3 = A' ∨ ∃ j, A3 = some ⟨j, 0, none⟩ ∧ (W.alloc o).heap.size ≤ j) :
    PutS base A w A3 (k + 1) c3 (l ++ [b]) w3 := by
  have hsz : w.heap.size ≤ W.heap.size := h.kp.size
  refine ⟨by rw [rowB_app, hb]; exact hown, (h.kp.alloc o).trans' hk fun j hj hs => ?_, ?_, ?_⟩
  · rcases hs with hs | hs
    · exact hs
    · rcases h.at_ with e | ⟨j', e, hj'⟩
      · rw [← e]; exact hs
      · rw [e] at hs
        injection hs with hs
        injection hs with hs
        omega
  · rcases hA with e | ⟨j, e, hj⟩
    · rw [e]; exact h.at_
    · exact .inr ⟨j, e, by simp at hj; omega⟩
  · have := hk.size
    have := h.sz
    simp at *
    omega
theorem one_src (w : World) (v : Value) : SrcCells (w.alloc (.cells #[v] 5)) (some ⟨w.heap.size, 0, none⟩) 1 1 [v] :=
  own_src (World.ownsRow_lit (base := w.heap.size) (e := 5) (size := 1) w #[v] 1 (Nat.le_refl _) (by unfold maxLen; omega) rfl)
set_option maxRecDepth 100000 in
set_option maxHeartbeats 1000000 in
theorem uvar_Put_kp (base m : Nat) (A : Option Addr) (c : Nat) (ys : List Nat) (n : Nat) (w : World) (hn : n < 18446744073709551616) (hm : m ≤ 100000) (hbase : base ≤ w.heap.size)
    (hown : w.ownsRow base 5 1 (.slice A m c) m (rowB ys)) :
    Calls Tryd.prog 21 #[.slice A m c, .int .u64 (n : Int)] w fun e w' => IsPut base A (m + (putM n).length) (ys ++ putM n) w e w' := by
  obtain ⟨i0, hi, hz0, hz1, hz2⟩ := info_parts info_byte
  have hys : ys.length = m := by have := hown.1; simpa [rowB] using this
  have HM := Lib.hid hys
  clear hys
  go_enter Tryd.func21, Tryd.ntmps21
  go_wp2
  go_loopw [0, 1] (fun b x wr => ∃ (f k p : Nat) (l : List Nat) (Ab : Option Addr) (cb : Nat), b = .slice Ab k cb ∧ k = l.length ∧ x = .int .u64 (p : Int) ∧ p < 18446744073709551616 ∧ Hid (p < 2 * 128 ^ f) ∧ Hid (l ++ putF f p = ys ++ putM n) ∧ k + f ≤ m + 9 ∧ Hid (PutS base A w Ab k cb l wr)) (fun _ x _ => (intOf x).toNat)
  case atStart => exact ⟨9, m, n, ys, A, c, rfl, HM.out.symm, rfl, hn, (by show n < 2 * 128 ^ 9; rw [lim9]; exact hn), rfl, by omega, Lib.hid ⟨hown, Kp.refl _ _, .inl rfl, hbase⟩⟩
  case round =>
    clear hown
    obtain ⟨f, k, p, l, Ab, cb, rfl, hk, rfl, hp, hpf, hput, hkf, HS⟩ := hrel
    have HK := Lib.hid hk
    clear hk
    by_cases hlt : p < 128
    · have hlt' : (p : Int) < 128 := by omega
      have hwb := wrap_byte p hlt
      have hfin : Hid (putF f p = [p]) := by
        show putF f p = [p]
        cases f with
        | zero => rfl
        | succ f => unfold putF; rw [if_pos hlt]
      go_wp2_with (first
        | (at_builtin; go_must (refine wpList_append_rowF _ rfl _ _ 31 rfl base 5 i0 (.int .u8 0) 1 1 Tryd.underlying31 hi hz0 hz1 hz2 rfl (by decide) Ab k cb (rowB l) rfl (HS.out.row _) ⟨wr.heap.size, 0, none⟩ 1 1 (by decide) [.int .u8 (p : Int)] rfl (one_src wr (.int .u8 (p : Int))) (fun x hx => by simp at hx; subst hx; rfl) (by unfold maxLen; omega) (by omega) (by have := HS.out.sz; simp; omega) ?_); intro A' c' w3 hown' hk3 hA3
           have X : Hid (PutS base A w A' (m + (putM n).length) c' (ys ++ putM n) w3) := Lib.hid (by
               have h1 : k + 1 = m + (putM n).length := by
                 have := congrArg List.length hput.out
                 rw [hfin.out] at this
                 simp only [List.length_append, List.length_cons, List.length_nil] at this
                 have := HM.out
                 have := HK.out
                 omega
               rw [← hput.out, hfin.out, ← h1]
               exact HS.out.step (show rowB [p] = [.int .u8 (p : Int)] from rfl) hown' hk3 hA3)
           have hlen : Hid (k + 1 = m + (putM n).length) := Lib.hid (by
                 have := congrArg List.length hput.out
                 rw [hfin.out] at this
                 simp only [List.length_append, List.length_cons, List.length_nil] at this
                 have := HM.out
                 have := HK.out
                 omega)
           clear hown' hk3 hA3))
      go_ret
      exact ⟨A', c', by rw [← hlen.out]; rfl, X.out.1, X.out.2, X.out.3⟩
    · have hge : (128 : Int) ≤ (p : Int) := by omega
      have hob := or_byte p hp
      have hf : ∃ f', f = f' + 1 := by
        cases f with
        | zero =>
          have := hpf.out
          simp at this
          omega
        | succ f => exact ⟨f, rfl⟩
      obtain ⟨f', rfl⟩ := hf
      have hfin : Hid (putF (f' + 1) p = (p % 128 + 128) :: putF f' (p / 128)) := by
        show putF (f' + 1) p = _
        rw [putF, if_neg hlt]
      have HOB := Lib.hid hob
      clear hob
      obtain ⟨q, hq⟩ : ∃ q : Nat, p % 128 + 128 = q := ⟨_, rfl⟩
      rw [hq] at HOB hfin
      have hdiv : (p : Int) / 128 = ((p / 128 : Nat) : Int) := by omega
      have HD := Lib.hid hdiv
      clear hdiv hq
      go_wp2_with (first
        | (at_builtin; go_must (refine wpList_append_rowF _ rfl _ _ 31 rfl base 5 i0 (.int .u8 0) 1 1 Tryd.underlying31 hi hz0 hz1 hz2 rfl (by decide) Ab k cb (rowB l) rfl (HS.out.row _) ⟨wr.heap.size, 0, none⟩ 1 1 (by decide) [.int .u8 (bits .or .u8 ((p : Int) % 256) 128)] rfl (one_src wr (.int .u8 (bits .or .u8 ((p : Int) % 256) 128))) (fun x hx => by simp at hx; subst hx; rfl) (by unfold maxLen; omega) (by omega) (by have := HS.out.sz; simp; omega) ?_); intro A' c' w3 hown' hk3 hA3
           have X : Hid (PutS base A w A' (k + 1) c' (l ++ [q]) w3) := Lib.hid (by
               rw [HOB.out] at hown'
               exact HS.out.step (show rowB [q] = [.int .u8 (q : Int)] from rfl) hown' hk3 hA3)
           clear hown' hk3 hA3))
      go_roundw
      case rel =>
        refine ⟨f', k + 1, p / 128, l ++ [q], A', c', rfl, by simp [HK.out], by rw [HD.out], by omega, ?_, ?_, by omega, X⟩
        · have := hpf.out
          have h2 : p < 128 * (2 * 128 ^ f') := by rw [Nat.pow_succ] at this; omega
          exact Nat.div_lt_of_lt_mul h2
        · have := hput.out
          rw [hfin.out] at this
          show l ++ [q] ++ putF f' (p / 128) = _
          rw [← this]
          simp
      case measure => simp only [intOf]; omega
end Go.Proofs.YtgjmmbhakjalgaaDoor
