/-
  Numbers as few bytes: GetInt; Put, Size, the document's Put.
-/
import Derived.Test.YtnnpgljmfjemnaaUvar2
import Derived.Lib.SlBytesConst
namespace Go.Proofs.Ytnnpgljmfjemnaa
open Go.RowKit
set_option linter.unusedSimpArgs false
set_option linter.unusedVariables false

def getIV (l : List Nat) : Value := if (getM l).2.2 = 0 then .tuple #[.int .i64 (unfoldM (getM l).1), .int .i64 ((getM l).2.1 : Int), .int .i64 0] else .tuple #[.int .i64 0, .int .i64 0, .int .i64 ((getM l).2.2 : Int)]

set_option maxHeartbeats 400000 in
theorem uvar_GetInt_any (B : Nat) (A : Option Addr) (n c : Nat) (l : List Nat) (w : World) (hs : SlB w B A n c l) :
    Calls Try.prog 58 #[.slice A n c] w fun e w' => e = .returned (getIV l) ∧ w = w' := by
  have hlt := getM_lt hs.2
  have c1 : Hid (Calls Try.prog 56 #[.slice A n c] w fun e w' => e = .returned (getV l) ∧ w = w') := uvar_Get_any B A n c l w hs
  unfold getV at c1
  unfold getIV
  obtain ⟨⟨u, k, e⟩, hg⟩ : ∃ g, getM l = g := ⟨_, rfl⟩
  rw [hg] at c1 hlt ⊢
  simp only at c1 hlt ⊢
  clear hg hs
  by_cases he : e = 0
  · subst he
    rw [if_pos rfl]
    go_enter Try.func58, Try.ntmps58
    go_wp2_with fail
    refine Calls.mono c1.out ?_
    rintro e w' ⟨rfl, rfl⟩
    go_wp2_with fail
    refine (uvar_Unfold_any u hlt _).mono ?_
    rintro e w' ⟨rfl, rfl⟩
    go_wp2_with fail
    go_ret3
    exact ⟨rfl, rfl⟩
  · rw [if_neg he]
    have ht : ((e : Int) != 0) = true := by rw [bne_iff_ne]; omega
    clear he
    go_enter Try.func58, Try.ntmps58
    go_wp2_with fail
    refine Calls.mono c1.out ?_
    rintro e w' ⟨rfl, rfl⟩
    go_wp2_with fail
    go_ret3
    exact ⟨rfl, rfl⟩

set_option maxHeartbeats 400000 in
theorem ref_GetInt_any (B : Nat) (A : Option Addr) (n c : Nat) (l : List Nat) (w : World) (hs : SlB w B A n c l) :
    Calls Try.prog 59 #[.slice A n c] w fun e w' => e = .returned (getIV l) ∧ w = w' := by
  have hlt := getM_lt hs.2
  have c1 : Hid (Calls Try.prog 57 #[.slice A n c] w fun e w' => e = .returned (getV l) ∧ w = w') := ref_Get_any B A n c l w hs
  unfold getV at c1
  unfold getIV
  obtain ⟨⟨u, k, e⟩, hg⟩ : ∃ g, getM l = g := ⟨_, rfl⟩
  rw [hg] at c1 hlt ⊢
  simp only at c1 hlt ⊢
  clear hg hs
  by_cases he : e = 0
  · subst he
    rw [if_pos rfl]
    go_enter Try.func59, Try.ntmps59
    go_wp2_with fail
    refine Calls.mono c1.out ?_
    rintro e w' ⟨rfl, rfl⟩
    go_wp2_with fail
    refine (ref_Unfold_any u hlt _).mono ?_
    rintro e w' ⟨rfl, rfl⟩
    go_wp2_with fail
    go_ret3
    exact ⟨rfl, rfl⟩
  · rw [if_neg he]
    have ht : ((e : Int) != 0) = true := by rw [bne_iff_ne]; omega
    clear he
    go_enter Try.func59, Try.ntmps59
    go_wp2_with fail
    refine Calls.mono c1.out ?_
    rintro e w' ⟨rfl, rfl⟩
    go_wp2_with fail
    go_ret3
    exact ⟨rfl, rfl⟩

/-! Put. -/
theorem info_byte : (Try.prog.info? 5).map (fun i => (i.zero, i.size, i.bytes)) = some (some (.int .u8 0), 1, 1) := by kernel_rfl
def rowB (l : List Nat) : List Value := l.map fun b : Nat => .int .u8 (b : Int)
theorem rowB_app (l m : List Nat) : rowB (l ++ m) = rowB l ++ rowB m := List.map_append
theorem or_byte (n : Nat) (h : n < 18446744073709551616) : bits .or .u8 ((n : Int) % 256) 128 = ((n % 128 + 128 : Nat) : Int) := by
  have e : (n : Int) % 256 = ((n % 256 : Nat) : Int) := by omega
  have h1 := u8_or_nat (n % 256) 128 (by omega) (by omega)
  rw [e]
  refine Eq.trans h1 ?_
  congr 1
  have hd : n % 256 = 128 * (n % 256 / 128) + n % 128 := by omega
  have hb : n % 256 / 128 = 0 ∨ n % 256 / 128 = 1 := by omega
  rw [Nat.or_comm]
  rcases hb with hb | hb
  · have : n % 256 = n % 128 := by omega
    rw [this, nat_join 7 128 (n % 128) (by omega) (by omega)]
    omega
  · have : n % 256 = 128 + n % 128 := by omega
    have hj := nat_join 7 128 (n % 128) (by omega) (by omega)
    rw [this, ← hj, ← Nat.or_assoc, Nat.or_self, hj]
    omega
theorem wrap_byte (n : Nat) (h : n < 128) : IntKind.u8.wrap (n : Int) = (n : Int) := by rw [IntKind.wrap_u8]; omega

set_option maxRecDepth 100000 in
set_option maxHeartbeats 1000000 in
theorem uvar_Put_any (base m : Nat) (v : Value) (ys : List Nat) (n : Nat) (w : World) (hn : n < 18446744073709551616) (hm : m ≤ 1000) (hbase : base ≤ w.heap.size)
    (hown : w.ownsRow base 5 1 v m (rowB ys)) :
    Calls Try.prog 65 #[v, .int .u64 (n : Int)] w fun e w' => ∃ v', e = .returned v' ∧ w'.ownsRow base 5 1 v' (m + (putM n).length) (rowB (ys ++ putM n)) ∧ Below base w w' := by
  obtain ⟨i0, hi, hz0, hz1, hz2⟩ := info_parts info_byte
  have hys : ys.length = m := by have := hown.1; simpa [rowB] using this
  have HM := Lib.hid hys
  clear hys
  go_enter Try.func65, Try.ntmps65
  go_wp2
  go_loopw [0, 1] (fun b x wr => ∃ (f k p : Nat) (l : List Nat), k = l.length ∧ x = .int .u64 (p : Int) ∧ p < 18446744073709551616 ∧ Hid (p < 2 * 128 ^ f) ∧ Hid (l ++ putF f p = ys ++ putM n) ∧ k + f ≤ m + 9 ∧ wr.ownsRow base 5 1 b k (rowB l) ∧ Below base w wr ∧ base ≤ wr.heap.size) (fun _ x _ => (intOf x).toNat)
  case atStart => exact ⟨9, m, n, ys, HM.out.symm, rfl, hn, (by show n < 2 * 128 ^ 9; rw [lim9]; exact hn), rfl, by omega, hown, Below.refl _ _, hbase⟩
  case round =>
    clear hown
    obtain ⟨f, k, p, l, hk, rfl, hp, hpf, hput, hkf, hown, hbw, hsz⟩ := hrel
    have HK := Lib.hid hk
    clear hk
    by_cases hlt : p < 128
    · have hlt' : (p : Int) < 128 := by omega
      have hwb := wrap_byte p hlt
      have hfin : Hid (putF f p = [p]) := by
        show putF f p = [p]
        cases f with
        | zero => rfl
        | succ f => unfold putF; rw [if_pos hlt]
      go_wp2_with (first
        | (at_builtin; go_must (refine wpList_append_own _ rfl _ _ 61 rfl base 5 i0 (.int .u8 0) 1 1 Try.underlying61 hi hz0 hz1 hz2 rfl (by decide) _ _ _ rfl (hown.alloc _) ⟨wr.heap.size, 0, none⟩ 1 1 [.int .u8 (p : Int)] rfl rfl (cell_one_new _ _ _) (fun x hx => by simp at hx; subst hx; rfl) (by unfold maxLen; omega) (by omega) (by simp; omega) ?_); intro v' w3 hown' hgrow3 hnil3
           have X : Hid (w3.ownsRow base 5 1 v' (m + (putM n).length) (rowB (ys ++ putM n)) ∧ Below base w w3) := ⟨by
               have h1 : k + 1 = m + (putM n).length := by
                 have := congrArg List.length hput.out
                 rw [hfin.out] at this
                 simp only [List.length_append, List.length_cons, List.length_nil] at this
                 have := HM.out
                 have := HK.out
                 omega
               rw [← hput.out, hfin.out, rowB_app, ← h1]
               exact hown', Below.grown (hbw.alloc hsz _) hgrow3 (by simp; omega) (fun j hj => (hown.lt _ hj).1)⟩
           clear hown' hgrow3 hnil3))
      go_ret
      exact ⟨_, rfl, X.out.1, X.out.2⟩
    · have hge : (128 : Int) ≤ (p : Int) := by omega
      have hob := or_byte p hp
      have hf : ∃ f', f = f' + 1 := by
        cases f with
        | zero =>
          have := hpf.out
          simp at this
          omega
        | succ f => exact ⟨f, rfl⟩
      obtain ⟨f', rfl⟩ := hf
      have hfin : Hid (putF (f' + 1) p = (p % 128 + 128) :: putF f' (p / 128)) := by
        show putF (f' + 1) p = _
        rw [putF, if_neg hlt]
      have HOB := Lib.hid hob
      clear hob
      obtain ⟨q, hq⟩ : ∃ q : Nat, p % 128 + 128 = q := ⟨_, rfl⟩
      rw [hq] at HOB hfin
      have hdiv : (p : Int) / 128 = ((p / 128 : Nat) : Int) := by omega
      have HD := Lib.hid hdiv
      clear hdiv hq
      go_wp2_with (first
        | (at_builtin; go_must (refine wpList_append_own _ rfl _ _ 61 rfl base 5 i0 (.int .u8 0) 1 1 Try.underlying61 hi hz0 hz1 hz2 rfl (by decide) _ _ _ rfl (hown.alloc _) ⟨wr.heap.size, 0, none⟩ 1 1 [.int .u8 (bits .or .u8 ((p : Int) % 256) 128)] rfl rfl (cell_one_new _ _ _) (fun x hx => by simp at hx; subst hx; rfl) (by unfold maxLen; omega) (by omega) (by simp; omega) ?_); intro v' w3 hown' hgrow3 hnil3
           have X : Hid (w3.ownsRow base 5 1 v' (k + 1) (rowB (l ++ [q])) ∧ Below base w w3) := ⟨by
               rw [rowB_app]
               rw [HOB.out] at hown'
               exact hown', Below.grown (hbw.alloc hsz _) hgrow3 (by simp; omega) (fun j hj => (hown.lt _ hj).1)⟩
           have hsz3 : base ≤ w3.heap.size := Nat.le_trans hsz (Nat.le_trans (by simp) hgrow3.size)
           clear hown' hgrow3 hnil3))
      go_roundw
      case rel =>
        refine ⟨f', k + 1, p / 128, l ++ [q], by simp [HK.out], by rw [HD.out], by omega, ?_, ?_, by omega, X.out.1, X.out.2, hsz3⟩
        · have := hpf.out
          have h2 : p < 128 * (2 * 128 ^ f') := by rw [Nat.pow_succ] at this; omega
          exact Nat.div_lt_of_lt_mul h2
        · have := hput.out
          rw [hfin.out] at this
          show l ++ [q] ++ putF f' (p / 128) = _
          rw [← this]
          simp
      case measure => simp only [intOf]; omega
end Go.Proofs.Ytnnpgljmfjemnaa
