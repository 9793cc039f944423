/-
  Sets of slots: how many there are (at the example's set); the chapter's example.
-/
import Derived.Test.YtaffndecknhhnaaDoorSl12
import Derived.Laws.StructEq
import Derived.Test.YtaffndecknhhnaaDoorMp1
namespace Go.Proofs.YtaffndecknhhnaaDoor
open Go.RowKit
set_option linter.unusedSimpArgs false
set_option linter.unusedVariables false
def pop1 (x : Nat) : Nat := (x / 2 &&& 6148914691236517205) + (x &&& 6148914691236517205)
def pop2 (x : Nat) : Nat := (x / 4 &&& 3689348814741910323) + (x &&& 3689348814741910323)
def pop3 (x : Nat) : Nat := (x / 16 + x) &&& 1085102592571150095
def pop4 (x : Nat) : Nat := x + x / 256
def pop5 (x : Nat) : Nat := x + x / 65536
def pop6 (x : Nat) : Nat := x + x / 4294967296
def popF (x : Nat) : Nat := pop6 (pop5 (pop4 (pop3 (pop2 (pop1 x))))) % 128
theorem nat_wrap64 {a : Nat} (h : a < 18446744073709551616) : IntKind.u64.wrap (a : Int) = (a : Int) := by
  rw [IntKind.wrap_u64]
  exact Int.emod_eq_of_lt (Int.natCast_nonneg _) (Int.ofNat_lt.2 h)
theorem add_wrap2 {a b : Nat} (h : a + b < 18446744073709551616) : IntKind.u64.wrap ((a : Int) + (b : Int)) = ((a + b : Nat) : Int) := by
  rw [← Int.natCast_add]
  exact nat_wrap64 h
theorem and_le (a m : Nat) : a &&& m ≤ m := Nat.and_le_right
theorem and127 (p : Nat) (h : p < 9223372036854775808) : bits .and .i64 (p : Int) 127 = ((p % 128 : Nat) : Int) := by
  have h1 : (BitVec.ofInt 64 (p : Int)).toNat = p := by
    rw [BitVec.ofInt_natCast, BitVec.toNat_ofNat]; exact Nat.mod_eq_of_lt (by omega)
  have h2 : (BitVec.ofInt 64 (127 : Int)).toNat = 127 := by decide
  show IntKind.i64.wrap ((BitVec.ofInt 64 (p : Int) &&& BitVec.ofInt 64 127).toNat : Int) = _
  rw [BitVec.toNat_and, h1, h2, show (127 : Nat) = 2 ^ 7 - 1 from rfl, Nat.and_two_pow_sub_one_eq_mod, IntKind.wrap_i64]
  omega
set_option maxRecDepth 100000 in
set_option maxHeartbeats 1000000 in
theorem ones_any (x : Nat) (hx : x < 18446744073709551616) (w : World) : Calls Tryd.prog 32 #[.int .u64 (x : Int)] w fun e w' => e = .returned (.int .i64 (popF x : Int)) ∧ w = w' := by
  have d1 : ((x : Int) / 2) = ((x / 2 : Nat) : Int) := by omega
  have a1 : bits .and .u64 ((x / 2 : Nat) : Int) 6148914691236517205 = ((x / 2 &&& 6148914691236517205 : Nat) : Int) := bits_and_u64_nat (x / 2) 6148914691236517205 (by omega) (by omega)
  have a2 : bits .and .u64 (x : Int) 6148914691236517205 = ((x &&& 6148914691236517205 : Nat) : Int) := bits_and_u64_nat x 6148914691236517205 hx (by omega)
  have l1 := and_le (x / 2) 6148914691236517205
  have l2 := and_le x 6148914691236517205
  have w1 := add_wrap2 (a := x / 2 &&& 6148914691236517205) (b := x &&& 6148914691236517205) (by omega)
  obtain ⟨p1, hp1⟩ : ∃ p, (x / 2 &&& 6148914691236517205) + (x &&& 6148914691236517205) = p := ⟨_, rfl⟩
  rw [hp1] at w1
  have b1 : p1 < 18446744073709551616 := by omega
  have d2 : ((p1 : Int) / 4) = ((p1 / 4 : Nat) : Int) := by omega
  have a3 : bits .and .u64 ((p1 / 4 : Nat) : Int) 3689348814741910323 = ((p1 / 4 &&& 3689348814741910323 : Nat) : Int) := bits_and_u64_nat (p1 / 4) 3689348814741910323 (by omega) (by omega)
  have a4 : bits .and .u64 (p1 : Int) 3689348814741910323 = ((p1 &&& 3689348814741910323 : Nat) : Int) := bits_and_u64_nat p1 3689348814741910323 b1 (by omega)
  have l3 := and_le (p1 / 4) 3689348814741910323
  have l4 := and_le p1 3689348814741910323
  have w2 := add_wrap2 (a := p1 / 4 &&& 3689348814741910323) (b := p1 &&& 3689348814741910323) (by omega)
  obtain ⟨p2, hp2⟩ : ∃ p, (p1 / 4 &&& 3689348814741910323) + (p1 &&& 3689348814741910323) = p := ⟨_, rfl⟩
  rw [hp2] at w2
  have b2 : p2 ≤ 7378697629483820646 := by omega
  have d3 : ((p2 : Int) / 16) = ((p2 / 16 : Nat) : Int) := by omega
  have w3 := add_wrap2 (a := p2 / 16) (b := p2) (by omega)
  have a5 : bits .and .u64 ((p2 / 16 + p2 : Nat) : Int) 1085102592571150095 = ((p2 / 16 + p2 &&& 1085102592571150095 : Nat) : Int) := bits_and_u64_nat (p2 / 16 + p2) 1085102592571150095 (by omega) (by omega)
  have l5 := and_le (p2 / 16 + p2) 1085102592571150095
  obtain ⟨p3, hp3⟩ : ∃ p, (p2 / 16 + p2) &&& 1085102592571150095 = p := ⟨_, rfl⟩
  rw [hp3] at a5 l5
  have d4 : ((p3 : Int) / 256) = ((p3 / 256 : Nat) : Int) := by omega
  have w4 := add_wrap2 (a := p3) (b := p3 / 256) (by omega)
  obtain ⟨p4, hp4⟩ : ∃ p, p3 + p3 / 256 = p := ⟨_, rfl⟩
  rw [hp4] at w4
  have d5 : ((p4 : Int) / 65536) = ((p4 / 65536 : Nat) : Int) := by omega
  have w5 := add_wrap2 (a := p4) (b := p4 / 65536) (by omega)
  obtain ⟨p5, hp5⟩ : ∃ p, p4 + p4 / 65536 = p := ⟨_, rfl⟩
  rw [hp5] at w5
  have d6 : ((p5 : Int) / 4294967296) = ((p5 / 4294967296 : Nat) : Int) := by omega
  have w6 := add_wrap2 (a := p5) (b := p5 / 4294967296) (by omega)
  obtain ⟨p6, hp6⟩ : ∃ p, p5 + p5 / 4294967296 = p := ⟨_, rfl⟩
  rw [hp6] at w6
  have hr : popF x = p6 % 128 := by
    unfold popF pop1 pop2 pop3 pop4 pop5 pop6
    rw [hp1, hp2, hp3, hp4, hp5, hp6]
  have b6 : p6 < 9223372036854775808 := by omega
  have c6 : IntKind.i64.wrap (p6 : Int) = (p6 : Int) := by rw [IntKind.wrap_i64]; omega
  rw [hr]
  generalize x / 2 &&& 6148914691236517205 = A1 at *
  generalize x &&& 6148914691236517205 = A2 at *
  generalize p1 / 4 &&& 3689348814741910323 = A3 at *
  generalize p1 &&& 3689348814741910323 = A4 at *
  clear hr hp1 hp2 hp3 hp4 hp5 hp6 l1 l2 l3 l4 l5
  generalize x / 2 = y1 at *
  generalize p1 / 4 = y2 at *
  generalize p2 / 16 = y3 at *
  generalize p3 / 256 = y4 at *
  generalize p4 / 65536 = y5 at *
  generalize p5 / 4294967296 = y6 at *
  obtain ⟨z, hz⟩ : ∃ z, y3 + p2 = z := ⟨_, rfl⟩
  rw [hz] at w3 a5
  clear hz
  go_enter Tryd.func32, Tryd.ntmps32
  go_wp2
  go_ret
  exact ⟨by show Ending.returned (.int .i64 (bits .and .i64 (p6 : Int) 127)) = _; rw [and127 p6 b6], rfl⟩
theorem pop_8 : popF 8 = 1 := by decide +kernel
theorem pop_64 : popF 64 = 1 := by decide +kernel
theorem pop_0 : popF 0 = 0 := by decide +kernel
set_option maxRecDepth 100000 in
set_option maxHeartbeats 1000000 in
theorem count_any (s : W4) (hok : s.Ok) (w : World) : Calls Tryd.prog 20 #[aggW s] w fun e w' => e = .returned (.int .i64 ((popF s.a0 + popF s.a1 + popF s.a2 + popF s.a3 : Nat) : Int)) ∧ Below w.heap.size w w' := by
  have c0 := ones_any s.a0 hok.h0
  have c1 := ones_any s.a1 hok.h1
  have c2 := ones_any s.a2 hok.h2
  have c3 := ones_any s.a3 hok.h3
  have l : ∀ x, popF x < 128 := fun x => Nat.mod_lt _ (by decide)
  have l0 := l s.a0
  have l1 := l s.a1
  have l2 := l s.a2
  have l3 := l s.a3
  have HN := Lib.hid (bl_one (w := w) (.cells #[.int .u64 (s.a0 : Int), .int .u64 (s.a1 : Int), .int .u64 (s.a2 : Int), .int .u64 (s.a3 : Int)] 24))
  generalize popF s.a0 = n0 at *
  generalize popF s.a1 = n1 at *
  generalize popF s.a2 = n2 at *
  generalize popF s.a3 = n3 at *
  clear l
  have i0 : ∀ w, (Instr.index 24 (.agg #[.int .u64 (s.a0 : Int), .int .u64 (s.a1 : Int), .int .u64 (s.a2 : Int), .int .u64 (s.a3 : Int)]) (.int .i64 0)).run Tryd.prog w = .ok (.int .u64 (s.a0 : Int)) w := fun w => by kernel_rfl
  have i1 : ∀ w, (Instr.index 24 (.agg #[.int .u64 (s.a0 : Int), .int .u64 (s.a1 : Int), .int .u64 (s.a2 : Int), .int .u64 (s.a3 : Int)]) (.int .i64 1)).run Tryd.prog w = .ok (.int .u64 (s.a1 : Int)) w := fun w => by kernel_rfl
  have i2 : ∀ w, (Instr.index 24 (.agg #[.int .u64 (s.a0 : Int), .int .u64 (s.a1 : Int), .int .u64 (s.a2 : Int), .int .u64 (s.a3 : Int)]) (.int .i64 2)).run Tryd.prog w = .ok (.int .u64 (s.a2 : Int)) w := fun w => by kernel_rfl
  have i3 : ∀ w, (Instr.index 24 (.agg #[.int .u64 (s.a0 : Int), .int .u64 (s.a1 : Int), .int .u64 (s.a2 : Int), .int .u64 (s.a3 : Int)]) (.int .i64 3)).run Tryd.prog w = .ok (.int .u64 (s.a3 : Int)) w := fun w => by kernel_rfl
  go_enter Tryd.func20, Tryd.ntmps20
  go_wp2_with fail
  refine wp_loop_rounds 5 ?_
  rw [rounds_succ]
  go_wp2_with fail
  refine (c0 _).mono ?_
  rintro e w' ⟨rfl, rfl⟩
  go_wp2_with fail
  rw [rounds_succ]
  go_wp2_with fail
  refine (c1 _).mono ?_
  rintro e w' ⟨rfl, rfl⟩
  go_wp2_with fail
  rw [rounds_succ]
  go_wp2_with fail
  refine (c2 _).mono ?_
  rintro e w' ⟨rfl, rfl⟩
  go_wp2_with fail
  rw [rounds_succ]
  go_wp2_with fail
  refine (c3 _).mono ?_
  rintro e w' ⟨rfl, rfl⟩
  go_wp2_with fail
  rw [rounds_succ]
  go_wp2_with fail
  go_ret
  exact ⟨by congr 2 <;> simp, HN.out⟩
end Go.Proofs.YtaffndecknhhnaaDoor
