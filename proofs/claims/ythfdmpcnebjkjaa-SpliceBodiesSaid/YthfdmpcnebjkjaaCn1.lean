/-
  Whether a function can be laid: names, types, lines, instructions.
-/
import Derived.Test.YthfdmpcnebjkjaaRn9
namespace Go.Proofs.Ythfdmpcnebjkjaa
open Go.RowKit
set_option linter.unusedSimpArgs false
set_option linter.unusedVariables false
def IsB (w : World) (e : Ending) (w' : World) : Prop := (∃ b : Bool, e = .returned (.bool b)) ∧ w = w'
def IsBool (w : World) (e : Ending) (w' : World) : Prop := (∃ b : Bool, e = .returned (.bool b)) ∧ Below w.heap.size w w'
set_option maxRecDepth 100000 in
set_option maxHeartbeats 4000000 in
theorem tmay_any (t : Int) (w : World) : Calls Try.prog 35 #[.int .i64 t] w (IsB w) := by
  by_cases h1 : t = 1
  · subst h1
    go_enter Try.func35, Try.ntmps35
    go_wp2_with fail
    go_ret
    exact ⟨⟨_, rfl⟩, rfl⟩
  · have e1 : (t == 1) = false := by simpa using h1
    go_enter Try.func35, Try.ntmps35
    go_wp2_with fail
    go_ret
    exact ⟨⟨_, rfl⟩, rfl⟩
set_option maxRecDepth 100000 in
set_option maxHeartbeats 4000000 in
theorem tright_any (A : Option Addr) (n c B : Nat) (xs : List Int) (m : Int) (w : World) (h : SlI w B A n c xs) (hn : n ≤ 100000000000000) :
    Calls Try.prog 19 #[.slice A n c, .int .i64 m] w (IsB w) := by
  have H := Lib.hid h
  clear h
  go_enter Try.func19, Try.ntmps19
  go_wp2_with fail
  go_loop [5] (fun i => ∃ k : Nat, i = .int .i64 k ∧ k ≤ n) (fun i => n - (intOf i).toNat)
  case atStart => exact ⟨0, rfl, Nat.zero_le _⟩
  case round =>
    obtain ⟨k, rfl, hk⟩ := hrel
    have hk0 : (0 : Int) ≤ (k : Int) := by omega
    have hkb : (k : Int) ≤ 100000000000000 := by omega
    by_cases hlt : k < n
    · have hkn : (k : Int) < (n : Int) := by omega
      obtain ⟨b, off, v, rfl, hb, hv, hc⟩ := SlR.cell1 (f := Value.int .i64) H.out hlt
      have cT := Lib.hid (tmay_any v w)
      clear hb hv
      go_wp2_with fail
      refine cT.out.mono ?_
      rintro e w2 ⟨⟨r, rfl⟩, rfl⟩
      cases r with
      | true =>
        go_wp2_with fail
        go_round
        case rel => exact ⟨k + 1, by go_num, by omega⟩
        case measure => simp [intOf]; omega
      | false =>
        go_wp2_with fail
        go_ret
        exact ⟨⟨_, rfl⟩, rfl⟩
    · obtain rfl : k = n := by omega
      go_wp2_with fail
      go_ret
      exact ⟨⟨_, rfl⟩, rfl⟩
set_option maxRecDepth 100000 in
set_option maxHeartbeats 4000000 in
theorem lright_any (A : Option Addr) (n c B : Nat) (xs : List Int) (w : World) (h : SlI w B A n c xs) (hn : n ≤ 100000) :
    Calls Try.prog 21 #[.slice A n c] w (IsB w) := by
  have H := Lib.hid h
  clear h
  go_enter Try.func21, Try.ntmps21
  go_wp2_with fail
  go_loop [3] (fun i => ∃ k : Nat, i = .int .i64 k ∧ k ≤ n) (fun i => n - (intOf i).toNat)
  case atStart => exact ⟨0, rfl, Nat.zero_le _⟩
  case round =>
    obtain ⟨k, rfl, hk⟩ := hrel
    have hk0 : (0 : Int) ≤ (k : Int) := by omega
    have hkb : (k : Int) ≤ 100000 := by omega
    by_cases hlt : k < n
    · have hkn : (k : Int) < (n : Int) := by omega
      obtain ⟨b, off, v, rfl, hb, hv, hc⟩ := SlR.cell1 (f := Value.int .i64) H.out hlt
      clear hb hv
      by_cases h0 : v < 0
      · have t0 : decide (v < 0) = true := by simpa using h0
        go_wp2_with fail
        go_ret
        exact ⟨⟨_, rfl⟩, rfl⟩
      · have t0 : decide (v < 0) = false := by simpa using h0
        by_cases h1 : v > 65535
        · have t1 : decide (v > 65535) = true := by simpa using h1
          go_wp2_with fail
          go_ret
          exact ⟨⟨_, rfl⟩, rfl⟩
        · have t1 : decide (v > 65535) = false := by simpa using h1
          go_wp2_with fail
          go_round
          case rel => exact ⟨k + 1, by go_num, by omega⟩
          case measure => simp [intOf]; omega
    · obtain rfl : k = n := by omega
      go_wp2_with fail
      go_ret
      exact ⟨⟨_, rfl⟩, rfl⟩

/-! ### instructions -/
def opndM (o : Int) : Int := if o = 1 then 1 else if o = 2 ∨ o = 3 then 2 else if o = 21 ∨ o = 22 then 3 else if o = 23 ∨ o = 24 then 4 else if o = 28 ∨ o = 29 then 5 else if o = 33 ∨ o = 34 then 6 else 0
def mostM (k : Int) : Int := if k = 2 then 255 else if k = 3 then 1999 else if k = 4 then 39 else if k = 5 then 3 else if k = 6 then 119 else 0
def instrOk (x : DInstr) : Prop := 0 ≤ x.op ∧ x.op < 35 ∧ (opndM x.op = 1 ∨ (0 ≤ x.a ∧ x.a ≤ mostM (opndM x.op)))
set_option maxRecDepth 100000 in
set_option maxHeartbeats 4000000 in
theorem opnd_any (o : Int) (w : World) : Calls Try.prog 36 #[.int .i64 o] w fun e w' => e = .returned (.int .i64 (opndM o)) ∧ w = w' := by
  have key : ∀ k : Int, opndM o = k → Calls Try.prog 36 #[.int .i64 o] w fun e w' => e = .returned (.int .i64 k) ∧ w = w' := by
    intro k hk
    unfold opndM at hk
    by_cases h1 : o = 1
    · subst h1
      obtain rfl : (1 : Int) = k := by simpa using hk
      go_enter Try.func36, Try.ntmps36
      go_wp2_with fail
      go_ret
      exact ⟨rfl, rfl⟩
    have e1 : (o == 1) = false := by simpa using h1
    rw [if_neg h1] at hk
    by_cases h2 : o = 2
    · subst h2
      obtain rfl : (2 : Int) = k := by simpa using hk
      go_enter Try.func36, Try.ntmps36
      go_wp2_with fail
      go_ret
      exact ⟨rfl, rfl⟩
    have e2 : (o == 2) = false := by simpa using h2
    by_cases h3 : o = 3
    · subst h3
      obtain rfl : (2 : Int) = k := by simpa using hk
      go_enter Try.func36, Try.ntmps36
      go_wp2_with fail
      go_ret
      exact ⟨rfl, rfl⟩
    have e3 : (o == 3) = false := by simpa using h3
    rw [if_neg (by omega)] at hk
    by_cases h4 : o = 21
    · subst h4
      obtain rfl : (3 : Int) = k := by simpa using hk
      go_enter Try.func36, Try.ntmps36
      go_wp2_with fail
      go_ret
      exact ⟨rfl, rfl⟩
    have e4 : (o == 21) = false := by simpa using h4
    by_cases h5 : o = 22
    · subst h5
      obtain rfl : (3 : Int) = k := by simpa using hk
      go_enter Try.func36, Try.ntmps36
      go_wp2_with fail
      go_ret
      exact ⟨rfl, rfl⟩
    have e5 : (o == 22) = false := by simpa using h5
    rw [if_neg (by omega)] at hk
    by_cases h6 : o = 23
    · subst h6
      obtain rfl : (4 : Int) = k := by simpa using hk
      go_enter Try.func36, Try.ntmps36
      go_wp2_with fail
      go_ret
      exact ⟨rfl, rfl⟩
    have e6 : (o == 23) = false := by simpa using h6
    by_cases h7 : o = 24
    · subst h7
      obtain rfl : (4 : Int) = k := by simpa using hk
      go_enter Try.func36, Try.ntmps36
      go_wp2_with fail
      go_ret
      exact ⟨rfl, rfl⟩
    have e7 : (o == 24) = false := by simpa using h7
    rw [if_neg (by omega)] at hk
    by_cases h8 : o = 28
    · subst h8
      obtain rfl : (5 : Int) = k := by simpa using hk
      go_enter Try.func36, Try.ntmps36
      go_wp2_with fail
      go_ret
      exact ⟨rfl, rfl⟩
    have e8 : (o == 28) = false := by simpa using h8
    by_cases h9 : o = 29
    · subst h9
      obtain rfl : (5 : Int) = k := by simpa using hk
      go_enter Try.func36, Try.ntmps36
      go_wp2_with fail
      go_ret
      exact ⟨rfl, rfl⟩
    have e9 : (o == 29) = false := by simpa using h9
    rw [if_neg (by omega)] at hk
    by_cases h10 : o = 33
    · subst h10
      obtain rfl : (6 : Int) = k := by simpa using hk
      go_enter Try.func36, Try.ntmps36
      go_wp2_with fail
      go_ret
      exact ⟨rfl, rfl⟩
    have e10 : (o == 33) = false := by simpa using h10
    by_cases h11 : o = 34
    · subst h11
      obtain rfl : (6 : Int) = k := by simpa using hk
      go_enter Try.func36, Try.ntmps36
      go_wp2_with fail
      go_ret
      exact ⟨rfl, rfl⟩
    have e11 : (o == 34) = false := by simpa using h11
    rw [if_neg (by omega)] at hk
    subst hk
    go_enter Try.func36, Try.ntmps36
    go_wp2_with fail
    go_ret
    exact ⟨rfl, rfl⟩
  exact key _ rfl
set_option maxRecDepth 100000 in
set_option maxHeartbeats 4000000 in
theorem most_any (k : Int) (w : World) (hk : k = 0 ∨ k = 2 ∨ k = 3 ∨ k = 4 ∨ k = 5 ∨ k = 6) : Calls Try.prog 37 #[.int .i64 k] w fun e w' => e = .returned (.int .i64 (mostM k)) ∧ w = w' := by
  have hi : ∀ W, (Instr.index 77 (.agg #[.int .i64 0, .int .i64 0, .int .i64 255, .int .i64 1999, .int .i64 39, .int .i64 3, .int .i64 119]) (.int .i64 k)).run Try.prog W = .ok (.int .i64 (mostM k)) W := by
    rcases hk with rfl | rfl | rfl | rfl | rfl | rfl
    all_goals intro W; kernel_rfl
  generalize mostM k = v at *
  go_enter Try.func37, Try.ntmps37
  go_wp2_with fail
  go_ret
  exact ⟨rfl, rfl⟩
theorem opnd_ways (o : Int) : opndM o = 0 ∨ opndM o = 1 ∨ opndM o = 2 ∨ opndM o = 3 ∨ opndM o = 4 ∨ opndM o = 5 ∨ opndM o = 6 := by
  unfold opndM
  repeat' split
  all_goals omega
def IsRi (x : DInstr) (w : World) (e : Ending) (w' : World) : Prop := ∃ b : Bool, e = .returned (.bool b) ∧ (b = true → instrOk x) ∧ Below w.heap.size w w'
set_option maxRecDepth 100000 in
set_option maxHeartbeats 8000000 in
theorem iright_any (o a : Int) (w : World) : Calls Try.prog 20 #[.agg #[.int .i64 o, .int .i64 a]] w (IsRi ⟨o, a⟩ w) := by
  obtain ⟨w1, hw1⟩ : ∃ X, w.alloc (.cells #[.int .i64 o, .int .i64 a] 49) = X := ⟨_, rfl⟩
  obtain ⟨g, hg⟩ : ∃ g, w.heap.size = g := ⟨_, rfl⟩
  have hc : Cells w1 g [.int .i64 o, .int .i64 a] := by rw [← hw1, ← hg]; exact Cells.new w [.int .i64 o, .int .i64 a] _
  have HB : Hid (Below w.heap.size w w1) := Lib.hid (by rw [← hw1]; exact bl_one _)
  have q0 := hc.at_ 0 _ rfl
  have q1 := hc.at_ 1 _ rfl
  clear hc
  by_cases h0 : o < 0
  · have t0 : decide (o < 0) = true := by simpa using h0
    go_enter Try.func20, Try.ntmps20
    go_wp2_with fail
    go_ret
    exact ⟨_, rfl, (fun h => by cases h), HB.out⟩
  have t0 : decide (o < 0) = false := by simpa using h0
  by_cases h1 : o ≥ 35
  · have t1 : decide (o ≥ 35) = true := by simpa using h1
    go_enter Try.func20, Try.ntmps20
    go_wp2_with fail
    go_ret
    exact ⟨_, rfl, (fun h => by cases h), HB.out⟩
  have t1 : decide (o ≥ 35) = false := by simpa using h1
  have HR : Hid (0 ≤ o ∧ o < 35) := Lib.hid (by omega)
  obtain ⟨k, hk⟩ : ∃ k, opndM o = k := ⟨_, rfl⟩
  have cO := Lib.hid (opnd_any o w1)
  have hw := opnd_ways o
  rw [hk] at cO hw
  have HK := Lib.hid hk
  by_cases h2 : k = 1
  · subst h2
    clear h0 h1 hk hw
    go_enter Try.func20, Try.ntmps20
    go_wp2_with fail
    refine cO.out.mono ?_
    rintro e w2 ⟨rfl, rfl⟩
    go_wp2_with fail
    go_quiet (fail)
    go_wp2_with fail
    go_ret
    exact ⟨_, rfl, fun _ => ⟨HR.out.1, HR.out.2, .inl HK.out⟩, below_drewN' HB.out _⟩
  · have e2 : (k == 1) = false := by simpa using h2
    have cM := Lib.hid (fun W => most_any k W (by omega))
    by_cases h3 : a ≥ 0
    · have t2 : decide (a ≥ 0) = true := by simpa using h3
      have HA : Hid (0 ≤ a) := Lib.hid h3
      obtain ⟨v, hv⟩ : ∃ v, mostM k = v := ⟨_, rfl⟩
      rw [hv] at cM
      have HV := Lib.hid hv
      clear h0 h1 h2 h3 hk hw hv
      go_enter Try.func20, Try.ntmps20
      go_wp2_with fail
      refine cO.out.mono ?_
      rintro e w2 ⟨rfl, rfl⟩
      go_wp2_with fail
      go_quiet (exact quiet_left (cM.out _))
      go_wp2_with fail
      go_ret
      exact ⟨_, rfl, (fun h => ⟨HR.out.1, HR.out.2, .inr ⟨HA.out, by rw [HK.out, HV.out]; simpa using h⟩⟩), below_drewN' HB.out _⟩
    · have t2 : decide (a ≥ 0) = false := by simpa using h3
      clear h0 h1 h2 h3 hk hw cM
      go_enter Try.func20, Try.ntmps20
      go_wp2_with fail
      refine cO.out.mono ?_
      rintro e w2 ⟨rfl, rfl⟩
      go_wp2_with fail
      go_quiet (fail)
      go_wp2_with fail
      go_ret
      exact ⟨_, rfl, (fun h => by cases h), below_drewN' HB.out _⟩

/-! ### names -/
set_option maxRecDepth 100000 in
set_option maxHeartbeats 8000000 in
theorem nmay_any (s : ByteArray) (hs : s.size ≤ 1000000000000000) (w : World) : Calls Try.prog 18 #[.string s] w (IsB w) := by
  have hsi : (s.size : Int) ≤ 1000000000000000 := by omega
  go_enter Try.func18, Try.ntmps18
  go_wp2_with fail
  go_loop [3] (fun i => ∃ k : Nat, i = .int .i64 k ∧ k ≤ s.size) (fun i => s.size - (intOf i).toNat)
  case atStart => exact ⟨0, rfl, Nat.zero_le _⟩
  case round =>
    obtain ⟨k, rfl, hk⟩ := hrel
    have hk0 : (0 : Int) ≤ (k : Int) := by omega
    have hkb : (k : Int) ≤ 1000000000000000 := by omega
    by_cases hlt : k < s.size
    · have hkn : (k : Int) < (s.size : Int) := by omega
      go_wp2_with fail
      all_goals first
        | exact ⟨⟨k + 1, by go_num, by omega⟩, by simp [intOf]; omega⟩
        | exact ⟨⟨1, rfl, by omega⟩, by simp [intOf]; omega⟩
        | (go_ret; exact ⟨⟨_, rfl⟩, rfl⟩)
    · obtain rfl : k = s.size := by omega
      by_cases h1 : s.size ≥ 1
      · have t1 : decide (s.size ≥ 1) = true := by simpa using h1
        go_wp2_with fail
        go_ret
        exact ⟨⟨_, rfl⟩, rfl⟩
      · have t1 : decide (s.size ≥ 1) = false := by simpa using h1
        go_wp2_with fail
        go_ret
        exact ⟨⟨_, rfl⟩, rfl⟩
end Go.Proofs.Ythfdmpcnebjkjaa
