/-
  Sets of slots: how many bits are set, in plain Lean: what math/bits reckons is the length of the list of bits.
-/
import Derived.Test.YtaffndecknhhnaaDoorSl13
namespace Go.Proofs.YtaffndecknhhnaaDoor
open Go.RowKit
set_option linter.unusedSimpArgs false
set_option linter.unusedVariables false
/-- A number out of its bytes, the least one first. -/
def val : List Nat → Nat
  | [] => 0
  | b :: bs => b + 256 * val bs
def maskL (m : Nat) : Nat → Nat
  | 0 => 0
  | n + 1 => m + 256 * maskL m n
theorem byte_and {b q m M : Nat} (hb : b < 256) (hm : m < 256) : (b + 256 * q) &&& (m + 256 * M) = (b &&& m) + 256 * (q &&& M) := by
  have h1 : ((b + 256 * q) &&& (m + 256 * M)) / 2 ^ 8 = q &&& M := by
    rw [Nat.and_div_two_pow]
    congr 1 <;> omega
  have h2 : ((b + 256 * q) &&& (m + 256 * M)) % 2 ^ 8 = b &&& m := by
    rw [Nat.and_mod_two_pow]
    congr 1 <;> omega
  omega
theorem val_and (m : Nat) (hm : m < 256) : ∀ bs : List Nat, (∀ b ∈ bs, b < 256) → val bs &&& maskL m bs.length = val (bs.map fun b => b &&& m)
  | [], _ => by simp [val, maskL]
  | b :: bs, h => by
    show (b + 256 * val bs) &&& (m + 256 * maskL m bs.length) = (b &&& m) + 256 * val (bs.map fun b => b &&& m)
    rw [byte_and (h b (by simp)) hm, val_and m hm bs fun c hc => h c (by simp [hc])]
theorem dec1 : ∀ b, b < 256 → ∀ r, r < 2 → (b / 2 + 128 * r) &&& 85 = b / 2 &&& 85 := by decide +kernel
theorem dec2 : ∀ b, b < 256 → ∀ r, r < 4 → (b / 4 + 64 * r) &&& 51 = b / 4 &&& 51 := by decide +kernel
theorem val_and2 : ∀ bs : List Nat, (∀ b ∈ bs, b < 256) → val bs / 2 &&& maskL 85 bs.length = val (bs.map fun b => b / 2 &&& 85)
  | [], _ => by simp [val, maskL]
  | b :: bs, h => by
    have hb := h b (by simp)
    have e : (b + 256 * val bs) / 2 = (b / 2 + 128 * (val bs % 2)) + 256 * (val bs / 2) := by omega
    show (b + 256 * val bs) / 2 &&& (85 + 256 * maskL 85 bs.length) = (b / 2 &&& 85) + 256 * val (bs.map fun b => b / 2 &&& 85)
    rw [e, byte_and (by omega) (by omega), dec1 b hb _ (by omega), val_and2 bs fun c hc => h c (by simp [hc])]
theorem val_and4 : ∀ bs : List Nat, (∀ b ∈ bs, b < 256) → val bs / 4 &&& maskL 51 bs.length = val (bs.map fun b => b / 4 &&& 51)
  | [], _ => by simp [val, maskL]
  | b :: bs, h => by
    have hb := h b (by simp)
    have e : (b + 256 * val bs) / 4 = (b / 4 + 64 * (val bs % 4)) + 256 * (val bs / 4) := by omega
    show (b + 256 * val bs) / 4 &&& (51 + 256 * maskL 51 bs.length) = (b / 4 &&& 51) + 256 * val (bs.map fun b => b / 4 &&& 51)
    rw [e, byte_and (by omega) (by omega), dec2 b hb _ (by omega), val_and4 bs fun c hc => h c (by simp [hc])]
theorem val_add (f g : Nat → Nat) : ∀ bs : List Nat, val (bs.map f) + val (bs.map g) = val (bs.map fun b => f b + g b)
  | [] => rfl
  | b :: bs => by
    have := val_add f g bs
    show (f b + 256 * val (bs.map f)) + (g b + 256 * val (bs.map g)) = (f b + g b) + 256 * val (bs.map fun b => f b + g b)
    omega
/-- Bytes of two half bytes of at most 4. -/
def Nib (c : Nat) : Prop := c % 16 ≤ 4 ∧ c / 16 ≤ 4
theorem and15 (x : Nat) (h : x < 256) : x &&& 15 = x % 16 := by
  rw [show (15 : Nat) = 2 ^ 4 - 1 from rfl, Nat.and_two_pow_sub_one_eq_mod]
theorem val_mod16 : ∀ cs : List Nat, (∀ c ∈ cs, Nib c) → val cs % 16 ≤ 4
  | [], _ => by simp [val]
  | c :: cs, h => by
    have := (h c (by simp)).1
    show (c + 256 * val cs) % 16 ≤ 4
    omega
theorem val_and16 : ∀ cs : List Nat, (∀ c ∈ cs, Nib c) → (val cs / 16 + val cs) &&& maskL 15 cs.length = val (cs.map fun c => (c + c / 16) % 16)
  | [], _ => by simp [val, maskL]
  | c :: cs, h => by
    have hc := h c (by simp)
    have hm := val_mod16 cs fun d hd => h d (by simp [hd])
    unfold Nib at hc
    have e : (c + 256 * val cs) / 16 + (c + 256 * val cs) = (c + c / 16 + 16 * (val cs % 16)) + 256 * (val cs / 16 + val cs) := by omega
    show ((c + 256 * val cs) / 16 + (c + 256 * val cs)) &&& (15 + 256 * maskL 15 cs.length) = (c + c / 16) % 16 + 256 * val (cs.map fun c => (c + c / 16) % 16)
    rw [e, byte_and (by omega) (by omega), and15 _ (by omega), val_and16 cs fun d hd => h d (by simp [hd])]
    omega
def b1 (b : Nat) : Nat := (b / 2 &&& 85) + (b &&& 85)
def b2 (b : Nat) : Nat := (b / 4 &&& 51) + (b &&& 51)
def b3 (c : Nat) : Nat := (c + c / 16) % 16
def bpop (b : Nat) : Nat := b3 (b2 (b1 b))
theorem b1_lt : ∀ b, b < 256 → b1 b < 256 := by decide +kernel
theorem b2_nib : ∀ b, b < 256 → (b2 (b1 b) % 16 ≤ 4 ∧ b2 (b1 b) / 16 ≤ 4) := by decide +kernel
theorem bpop_le : ∀ b, b < 256 → bpop b ≤ 8 := by decide +kernel
theorem bpop_len : ∀ b, b < 256 → bpop b = ((List.range 8).filter fun (j : Nat) => b.testBit j).length := by decide +kernel
theorem popF_val (x0 x1 x2 x3 x4 x5 x6 x7 : Nat) (h0 : x0 < 256) (h1 : x1 < 256) (h2 : x2 < 256) (h3 : x3 < 256) (h4 : x4 < 256) (h5 : x5 < 256) (h6 : x6 < 256) (h7 : x7 < 256) :
    popF (val [x0, x1, x2, x3, x4, x5, x6, x7]) = bpop x0 + bpop x1 + bpop x2 + bpop x3 + bpop x4 + bpop x5 + bpop x6 + bpop x7 := by
  obtain ⟨bs, hbs⟩ : ∃ bs, [x0, x1, x2, x3, x4, x5, x6, x7] = bs := ⟨_, rfl⟩
  have hl : bs.length = 8 := by rw [← hbs]; rfl
  have hlt : ∀ b ∈ bs, b < 256 := by
    rw [← hbs]
    intro b hb
    simp at hb
    omega
  have m1 : (6148914691236517205 : Nat) = maskL 85 bs.length := by rw [hl]; rfl
  have m2 : (3689348814741910323 : Nat) = maskL 51 bs.length := by rw [hl]; rfl
  have m3 : (1085102592571150095 : Nat) = maskL 15 bs.length := by rw [hl]; rfl
  have p1 : pop1 (val bs) = val (bs.map b1) := by
    unfold pop1
    rw [m1, val_and2 bs hlt, val_and 85 (by omega) bs hlt, val_add]
    rfl
  have hlt1 : ∀ b ∈ bs.map b1, b < 256 := by
    intro b hb
    obtain ⟨c, hc, rfl⟩ := List.mem_map.1 hb
    exact b1_lt c (hlt c hc)
  have p2 : pop2 (val (bs.map b1)) = val (bs.map fun b => b2 (b1 b)) := by
    unfold pop2
    have ml : (3689348814741910323 : Nat) = maskL 51 (bs.map b1).length := by rw [List.length_map]; exact m2
    rw [ml, val_and4 _ hlt1, val_and 51 (by omega) _ hlt1, val_add, List.map_map]
    rfl
  have p3 : pop3 (val (bs.map fun b => b2 (b1 b))) = val (bs.map bpop) := by
    unfold pop3
    have ml : (1085102592571150095 : Nat) = maskL 15 (bs.map fun b => b2 (b1 b)).length := by rw [List.length_map]; exact m3
    rw [ml, val_and16 _ (by
      intro c hc
      obtain ⟨b, hb, rfl⟩ := List.mem_map.1 hc
      exact b2_nib b (hlt b hb)), List.map_map]
    rfl
  unfold popF
  rw [hbs, p1, p2, p3, ← hbs]
  have q0 := bpop_le x0 h0
  have q1 := bpop_le x1 h1
  have q2 := bpop_le x2 h2
  have q3 := bpop_le x3 h3
  have q4 := bpop_le x4 h4
  have q5 := bpop_le x5 h5
  have q6 := bpop_le x6 h6
  have q7 := bpop_le x7 h7
  simp only [List.map_cons, List.map_nil, val]
  generalize bpop x0 = y0 at *
  generalize bpop x1 = y1 at *
  generalize bpop x2 = y2 at *
  generalize bpop x3 = y3 at *
  generalize bpop x4 = y4 at *
  generalize bpop x5 = y5 at *
  generalize bpop x6 = y6 at *
  generalize bpop x7 = y7 at *
  have e4 : pop4 (y0 + 256 * (y1 + 256 * (y2 + 256 * (y3 + 256 * (y4 + 256 * (y5 + 256 * (y6 + 256 * (y7 + 256 * 0)))))))) = (y0 + y1) + 256 * ((y1 + y2) + 256 * ((y2 + y3) + 256 * ((y3 + y4) + 256 * ((y4 + y5) + 256 * ((y5 + y6) + 256 * ((y6 + y7) + 256 * y7)))))) := by
    unfold pop4
    omega
  rw [e4]
  have e5 : pop5 ((y0 + y1) + 256 * ((y1 + y2) + 256 * ((y2 + y3) + 256 * ((y3 + y4) + 256 * ((y4 + y5) + 256 * ((y5 + y6) + 256 * ((y6 + y7) + 256 * y7))))))) = (y0 + y1 + y2 + y3) + 256 * ((y1 + y2 + y3 + y4) + 256 * ((y2 + y3 + y4 + y5) + 256 * ((y3 + y4 + y5 + y6) + 256 * ((y4 + y5 + y6 + y7) + 256 * ((y5 + y6 + y7) + 256 * ((y6 + y7) + 256 * y7)))))) := by
    unfold pop5
    omega
  rw [e5]
  have fin : ∀ S0 S4 a b : Nat, S0 ≤ 32 → S4 ≤ 32 → S0 + 256 * a < 4294967296 → pop6 ((S0 + 256 * a) + 4294967296 * (S4 + 256 * b)) % 128 = S0 + S4 := by
    intro S0 S4 a b h0 h4 hL
    unfold pop6
    have : ((S0 + 256 * a) + 4294967296 * (S4 + 256 * b)) / 4294967296 = S4 + 256 * b := by omega
    rw [this]
    omega
  have hz : (y0 + y1 + y2 + y3) + 256 * ((y1 + y2 + y3 + y4) + 256 * ((y2 + y3 + y4 + y5) + 256 * ((y3 + y4 + y5 + y6) + 256 * ((y4 + y5 + y6 + y7) + 256 * ((y5 + y6 + y7) + 256 * ((y6 + y7) + 256 * y7)))))) = ((y0 + y1 + y2 + y3) + 256 * ((y1 + y2 + y3 + y4) + 256 * ((y2 + y3 + y4 + y5) + 256 * (y3 + y4 + y5 + y6)))) + 4294967296 * ((y4 + y5 + y6 + y7) + 256 * ((y5 + y6 + y7) + 256 * ((y6 + y7) + 256 * y7))) := by omega
  rw [hz, fin _ _ _ _ (by omega) (by omega) (by omega)]
  omega
theorem chunk (x c : Nat) : (((List.range 8).map (8 * c + ·)).filter fun (j : Nat) => x.testBit j).length = ((List.range 8).filter fun (j : Nat) => (x / 256 ^ c % 256).testBit j).length := by
  rw [List.filter_map, List.length_map]
  congr 1
  apply List.filter_congr
  intro j hj
  have hj8 : j < 8 := by simpa using hj
  show x.testBit (8 * c + j) = (x / 256 ^ c % 256).testBit j
  rw [show (256 : Nat) = 2 ^ 8 from rfl, ← Nat.pow_mul, Nat.testBit_mod_two_pow, Nat.testBit_div_two_pow]
  simp [hj8, Nat.add_comm]
set_option maxRecDepth 100000 in
theorem popF_len (x : Nat) (hx : x < 18446744073709551616) : popF x = ((List.range 64).filter fun (j : Nat) => x.testBit j).length := by
  have e : List.range 64 = (List.range 8).map (8 * 0 + ·) ++ ((List.range 8).map (8 * 1 + ·) ++ ((List.range 8).map (8 * 2 + ·) ++ ((List.range 8).map (8 * 3 + ·) ++ ((List.range 8).map (8 * 4 + ·) ++ ((List.range 8).map (8 * 5 + ·) ++ ((List.range 8).map (8 * 6 + ·) ++ (List.range 8).map (8 * 7 + ·))))))) := by decide +kernel
  rw [e]
  simp only [List.filter_append, List.length_append, chunk]
  have l : ∀ c, x / 256 ^ c % 256 < 256 := fun c => Nat.mod_lt _ (by decide)
  rw [← bpop_len _ (l 0), ← bpop_len _ (l 1), ← bpop_len _ (l 2), ← bpop_len _ (l 3), ← bpop_len _ (l 4), ← bpop_len _ (l 5), ← bpop_len _ (l 6), ← bpop_len _ (l 7)]
  have hv : x = val [x / 256 ^ 0 % 256, x / 256 ^ 1 % 256, x / 256 ^ 2 % 256, x / 256 ^ 3 % 256, x / 256 ^ 4 % 256, x / 256 ^ 5 % 256, x / 256 ^ 6 % 256, x / 256 ^ 7 % 256] := by
    simp only [val, Nat.reducePow]
    omega
  have := popF_val _ _ _ _ _ _ _ _ (l 0) (l 1) (l 2) (l 3) (l 4) (l 5) (l 6) (l 7)
  rw [← hv] at this
  rw [this]
  omega
theorem count_list (s : W4) (h : s.Ok) : popF s.a0 + popF s.a1 + popF s.a2 + popF s.a3 = (listM s).length := by
  rw [listM_eq, List.length_append, List.length_append, List.length_append, popF_len _ h.h0, popF_len _ h.h1, popF_len _ h.h2, popF_len _ h.h3]
  unfold bitsL
  simp only [List.length_map]
  omega
end Go.Proofs.YtaffndecknhhnaaDoor
