import Derived.Test.YtobmjnmcjddhcaaGreatRg3
import Derived.Test.YtobmjnmcjddhcaaGreatRg1
import Derived.Test.YtobmjnmcjddhcaaGreatRg2
import Derived.Laws.BitsAllLaws
set_option linter.unusedSimpArgs false
set_option linter.unusedVariables false
namespace Go.Proofs.YtobmjnmcjddhcaaGreat
section
open Go.RowKit
structure canOk (x : DFunc) : Prop where
 some_ : 1 ≤ x.code.length
 ins : ∀ i ∈ x.code, instrOk i
 lines : x.lines.length = x.code.length
 tab : tabOk x.nodes x.at_ x.live x.code.length
end
section
set_option maxRecDepth 100000
set_option maxHeartbeats 4000000
open Go.RowKit
def smallF (x : DFunc) : Bool := smallB x.outer.length x.params.length x.results.length x.locals.length x.code.length x.lines.length x.nodes.length x.at_.length x.live.length
def IsSm (fs : List DFunc) (w : World) (e : Ending) (w' : World) : Prop := ∃ r : Bool, e = .returned (.bool r) ∧ (r = true → fs.length ≤ 50 ∧ ∀ x ∈ fs, smallF x = true) ∧ Below w.heap.size w w'
theorem bound_of {w : World} {B : Nat} {A0 A1 A2 A3 : Option Addr} {n0 n1 n2 n3 c0 c1 c2 c3 : Nat} {a b c d : List Int} (h0 : SlR 1 8 (RInt .i64) w B A0 n0 c0 a) (h1 : SlR 1 8 (RInt .i64) w B A1 n1 c1 b) (h2 : SlR 1 8 (RInt .i64) w B A2 n2 c2 c) (h3 : SlR 1 8 (RInt .i64) w B A3 n3 c3 d) (n4 n5 n6 n7 n8 : Nat) : BoundL n0 n1 n2 n3 n4 n5 n6 n7 n8 := by
 have e0 := h0.2.2.2.1
 have e1 := h1.2.2.2.1
 have e2 := h2.2.2.2.1
 have e3 := h3.2.2.2.1
 unfold reachBytes at e0 e1 e2 e3
 unfold BoundL
 omega
theorem small16_any (B : Nat) (FA : Option Addr) (fn fc : Nat) (fs : List DFunc) (w : World) (h : SlR 11 240 RFunc w B FA fn fc fs) (hB : B ≤ w.heap.size) :
  Calls Tryz.prog 8 #[.agg #[.slice FA fn fc]] w (IsSm fs w) := by
 obtain ⟨w1, hw1⟩ : ∃ X, w.alloc (.cells #[.slice FA fn fc] 24) = X := ⟨_, rfl⟩
 obtain ⟨g, hg⟩ : ∃ g, w.heap.size = g := ⟨_, rfl⟩
 have hb1 : Below g w w1 := by rw [← hw1, ← hg]; exact bl_one _
 have EQ : Hid (∀ W, Below w1.heap.size w1 W → W.cell? ⟨g, 0, none⟩ = some (.slice FA fn fc)) := Hd fun W hW => (hW.cell (p := ⟨g, 0, none⟩) (by rw [← hw1]; simp; omega)).trans (by rw [← hw1, ← hg]; exact (Cells.new w [.slice FA fn fc] _).at_ 0 _ rfl)
 have H := Hd h
 have HBW : Hid (∀ W, Below w1.heap.size w1 W → Below g w W) := Hd fun W hW => hb1.trans (hW.mono (by have := hb1.size; omega))
 have hgE : Hid (w.heap.size = g ∧ B ≤ g) := Hd ⟨hg, by omega⟩
 have HLN : Hid (fs.length = fn) := Hd h.1
 have HFN : Hid (fn * 240 ≤ reachBytes) := Hd h.2.2.2.1
 clear h hb1 hB
 go_in
 go_wp2_with fail
 clear hw1
 go_loopw [3] (fun i' wr => ∃ k : Nat, i' = .int .i64 k ∧ k ≤ fn ∧ k ≤ 50 ∧ Hid ((∀ x ∈ fs.take k, smallF x = true) ∧ Below w1.heap.size w1 wr)) (fun i' _ => 50 - (intOf i').toNat)
 case atStart => exact ⟨0, rfl, Nat.zero_le _, Nat.zero_le _, Hd ⟨by simp, Below.refl _ _⟩⟩
 case round =>
  obtain ⟨k, rfl, hk, hk50, HK⟩ := hrel
  have q0 := EQ.out wr HK.out.2
  have hk0 : (0 : Int) ≤ (k : Int) := by omega
  have HBg := Hd (HBW.out wr HK.out.2)
  by_cases hlt : k < fn
  ·have hkn : (k : Int) < (fn : Int) := by omega
   by_cases h50 : k < 50
   ·have hk5 : (k : Int) < 50 := by omega
    obtain ⟨b, off, x, cs, rfl, hb, hx, hl, hc, hr⟩ := SlR.at_ H.out hlt
    obtain ⟨A0, n0, c0, A1, n1, c1, A2, n2, c2, A3, n3, c3, A4, n4, c4, A5, n5, c5, A6, n6, c6, A7, n7, c7, A8, n8, c8, rfl, z, r0, r1, r2, r3, r4, r5, r6, r7, r8⟩ := hr
    have hcell : ∀ j u, [Value.string x.name, .bool x.inner, .slice A0 n0 c0, .slice A1 n1 c1, .slice A2 n2 c2, .slice A3 n3 c3, .slice A4 n4 c4, .slice A5 n5 c5, .slice A6 n6 c6, .slice A7 n7 c7, .slice A8 n8 c8][j]? = some u → wr.cell? ⟨b, off + (k * 11 + j), none⟩ = some u := fun j u hj => (HBg.out.cell (p := ⟨b, off + (k * 11 + j), none⟩) (by have := hgE.out; show b < g; omega)).trans (hc j u hj)
    have y0 := hcell 0 _ rfl
    have y1 := hcell 1 _ rfl
    have y2 := hcell 2 _ rfl
    have y3 := hcell 3 _ rfl
    have y4 := hcell 4 _ rfl
    have y5 := hcell 5 _ rfl
    have y6 := hcell 6 _ rfl
    have y7 := hcell 7 _ rfl
    have y8 := hcell 8 _ rfl
    have y9 := hcell 9 _ rfl
    have y10 := hcell 10 _ rfl
    simp only [Nat.add_zero, ← Nat.add_assoc] at y0 y1 y2 y3 y4 y5 y6 y7 y8 y9 y10
    have cS := Hd (small15_any x.name x.inner A0 n0 c0 A1 n1 c1 A2 n2 c2 A3 n3 c3 A4 n4 c4 A5 n5 c5 A6 n6 c6 A7 n7 c7 A8 n8 c8 wr (bound_of r0 r1 r2 r3 n4 n5 n6 n7 n8))
    have HX : Hid (smallB n0 n1 n2 n3 n4 n5 n6 n7 n8 = smallF x) := Hd (by unfold smallF; rw [r0.1, r1.1, r2.1, r3.1, r4.1, r5.1, r6.1, r7.1, r8.1])
    have HT : Hid (smallF x = true → ∀ y ∈ fs.take (k + 1), smallF y = true) := Hd (fun hs y hy => by
     rw [← take_snoc' fs k x hx] at hy
     rcases List.mem_append.1 hy with hy | hy
     ·exact HK.out.1 y hy
     ·rw [List.mem_singleton] at hy; subst hy; exact hs)
    rw [HX.out] at cS
    obtain ⟨r, hrr⟩ : ∃ r, smallF x = r := ⟨_, rfl⟩
    obtain ⟨nm, hnm⟩ : ∃ r, x.name = r := ⟨_, rfl⟩
    obtain ⟨inn, hin⟩ : ∃ r, x.inner = r := ⟨_, rfl⟩
    rw [hrr, hnm, hin] at cS
    rw [hrr] at HT
    rw [hnm] at y0
    rw [hin] at y1
    clear hcell hc hx hb hl r0 r1 r2 r3 r4 r5 r6 r7 r8 z HX hrr hnm hin
    go_wp2_with fail
    refine cS.out.mono ?_
    rintro e w2 ⟨rfl, hb2⟩
    have HB2 : Hid (Below w1.heap.size w1 w2) := Hd (HK.out.2.trans (hb2.mono HK.out.2.size))
    clear hb2 cS q0 y0 y1 y2 y3 y4 y5 y6 y7 y8 y9 y10
    cases r with
    | true =>
     have HT2 := Hd (HT.out rfl)
     clear HT
     go_wp2_with fail
     go_roundw
     case rel => exact ⟨k + 1, by go_num, by omega, by omega, Hd ⟨HT2.out, HB2.out⟩⟩
     case measure => simp [intOf]; omega
    | false =>
     clear HT
     go_wp2_with fail
     go_ret
     exact ⟨false, rfl, (fun h => by cases h), by rw [hgE.out.1]; exact HBW.out w2 HB2.out⟩
   ·obtain rfl : k = 50 := by omega
    have hk5 : ¬ ((50 : Nat) : Int) < 50 := by omega
    by_cases hf : fn ≤ 50
    ·omega
    ·have h51 : (50 : Int) < (fn : Int) := by omega
     have hd : decide ((fn : Int) ≤ 50) = false := by simp; omega
     go_wp2_with fail
     go_ret
     exact ⟨false, rfl, (fun h => by cases h), by rw [hgE.out.1]; exact HBg.out⟩
  ·obtain rfl : k = fn := by omega
   have h50' : (k : Int) ≤ 50 := by omega
   have HALL : Hid (fs.length ≤ 50 ∧ ∀ x ∈ fs, smallF x = true) := Hd ⟨by have := HLN.out; omega, by have h1 := HK.out.1; rw [List.take_of_length_le (by have := HLN.out; omega)] at h1; exact h1⟩
   go_wp2_with fail
   go_ret
   exact ⟨true, rfl, fun _ => HALL.out, by rw [hgE.out.1]; exact HBg.out⟩
end
section
open Go.RowKit
structure FR where
 s : ByteArray
 b : Bool
 A0 : Option Addr
 n0 : Nat
 c0 : Nat
 A1 : Option Addr
 n1 : Nat
 c1 : Nat
 A2 : Option Addr
 n2 : Nat
 c2 : Nat
 A3 : Option Addr
 n3 : Nat
 c3 : Nat
 A4 : Option Addr
 n4 : Nat
 c4 : Nat
 A5 : Option Addr
 n5 : Nat
 c5 : Nat
 A6 : Option Addr
 n6 : Nat
 c6 : Nat
 A7 : Option Addr
 n7 : Nat
 c7 : Nat
 A8 : Option Addr
 n8 : Nat
 c8 : Nat
abbrev FnV (w : World) (B : Nat) (V : FR) (x : DFunc) : Prop := FnW w B V.s V.b V.A0 V.n0 V.c0 V.A1 V.n1 V.c1 V.A2 V.n2 V.c2 V.A3 V.n3 V.c3 V.A4 V.n4 V.c4 V.A5 V.n5 V.c5 V.A6 V.n6 V.c6 V.A7 V.n7 V.c7 V.A8 V.n8 V.c8 x
structure QE (W : World) (b o : Nat) (V : FR) : Prop where
 e0 : W.cell? ⟨b, o, none⟩ = some (.string V.s)
 e1 : W.cell? ⟨b, o + 1, none⟩ = some (.bool V.b)
 e2 : W.cell? ⟨b, o + 2, none⟩ = some (.slice V.A0 V.n0 V.c0)
 e3 : W.cell? ⟨b, o + 3, none⟩ = some (.slice V.A1 V.n1 V.c1)
 e4 : W.cell? ⟨b, o + 4, none⟩ = some (.slice V.A2 V.n2 V.c2)
 e5 : W.cell? ⟨b, o + 5, none⟩ = some (.slice V.A3 V.n3 V.c3)
 e6 : W.cell? ⟨b, o + 6, none⟩ = some (.slice V.A4 V.n4 V.c4)
 e7 : W.cell? ⟨b, o + 7, none⟩ = some (.slice V.A5 V.n5 V.c5)
 e8 : W.cell? ⟨b, o + 8, none⟩ = some (.slice V.A6 V.n6 V.c6)
 e9 : W.cell? ⟨b, o + 9, none⟩ = some (.slice V.A7 V.n7 V.c7)
 e10 : W.cell? ⟨b, o + 10, none⟩ = some (.slice V.A8 V.n8 V.c8)
structure PgO (w : World) (FA : Option Addr) (fn fc : Nat) (fs : List DFunc) : Prop where
 ex : ∃ B, B ≤ w.heap.size ∧ SlR 11 240 RFunc w B FA fn fc fs
 sm : ∀ x ∈ fs, smallF x = true
 le : fn ≤ 50
theorem PgO.on {w w' : World} {FA : Option Addr} {fn fc : Nat} {fs : List DFunc} (h : PgO w FA fn fc fs) (hb : Below w.heap.size w w') : PgO w' FA fn fc fs := by
 obtain ⟨B, hB, hr⟩ := h.ex
 exact ⟨⟨B, Nat.le_trans hB hb.size, SlR.keep stable_Func hr fun p hp => hb.cell (Nat.lt_of_lt_of_le hp hB)⟩, h.sm, h.le⟩
theorem PgO.len {w : World} {FA : Option Addr} {fn fc : Nat} {fs : List DFunc} (h : PgO w FA fn fc fs) : fs.length = fn := h.ex.elim fun _ hr => hr.2.1
theorem PgO.at_ {w : World} {FA : Option Addr} {fn fc : Nat} {fs : List DFunc} (h : PgO w FA fn fc fs) {i : Nat} (hi : i < fn) :
  ∃ b off V x, FA = some ⟨b, off, none⟩ ∧ b < w.heap.size ∧ fs[i]? = some x ∧ QE w b (off + i * 11) V ∧ FnV w w.heap.size V x ∧ V.s = x.name ∧ V.b = x.inner := by
 obtain ⟨B, hB, hrd⟩ := h.ex
 obtain ⟨b, off, x, cs, hA, hb, hx, hl, hc, hr⟩ := SlR.at_ hrd hi
 obtain ⟨A0, n0, c0, A1, n1, c1, A2, n2, c2, A3, n3, c3, A4, n4, c4, A5, n5, c5, A6, n6, c6, A7, n7, c7, A8, n8, c8, rfl, z, r0, r1, r2, r3, r4, r5, r6, r7, r8⟩ := hr
 have hcell : ∀ (j : Nat) (u : Value), [Value.string x.name, .bool x.inner, .slice A0 n0 c0, .slice A1 n1 c1, .slice A2 n2 c2, .slice A3 n3 c3, .slice A4 n4 c4, .slice A5 n5 c5, .slice A6 n6 c6, .slice A7 n7 c7, .slice A8 n8 c8][j]? = some u → w.cell? ⟨b, off + i * 11 + j, none⟩ = some u := fun j u hj => by
  have := hc j u hj
  simpa [Nat.add_assoc] using this
 have hsm := h.sm x (List.mem_of_getElem? hx)
 unfold smallF smallB at hsm
 rw [r0.1, r1.1, r2.1, r3.1, r4.1, r5.1, r6.1, r7.1, r8.1] at hsm
 simp only [Bool.and_eq_true, decide_eq_true_eq] at hsm
 refine ⟨b, off, ⟨x.name, x.inner, A0, n0, c0, A1, n1, c1, A2, n2, c2, A3, n3, c3, A4, n4, c4, A5, n5, c5, A6, n6, c6, A7, n7, c7, A8, n8, c8⟩, x, hA, Nat.lt_of_lt_of_le hb hB, hx, ⟨hcell 0 _ rfl, hcell 1 _ rfl, hcell 2 _ rfl, hcell 3 _ rfl, hcell 4 _ rfl, hcell 5 _ rfl, hcell 6 _ rfl, hcell 7 _ rfl, hcell 8 _ rfl, hcell 9 _ rfl, hcell 10 _ rfl⟩, FnW.more ⟨by show x.name.size ≤ _; unfold reachBytes at z; omega, sli_of r0, sli_of r1, sli_of r2, sli_of r3, slc_of r4, sli_of r5, sln_of r6, sli_of r7, sls4_of r8, hsm⟩ hB, rfl, rfl⟩
end
section
open Go.RowKit
theorem countP_lt {α : Type} (p q : α → Bool) : ∀ l : List α, (∀ x ∈ l, p x = true → q x = true) → (∃ x ∈ l, p x = false ∧ q x = true) → l.countP p < l.countP q
 | [], _, h => by obtain ⟨x, hx, _⟩ := h; cases hx
 | a :: l, h, hx => by
  have hm : l.countP p ≤ l.countP q := List.countP_mono_left fun x hx => h x (List.mem_cons_of_mem _ hx)
  rw [List.countP_cons, List.countP_cons]
  by_cases hl : ∃ x ∈ l, p x = false ∧ q x = true
  ·have h1 := countP_lt p q l (fun x hx => h x (List.mem_cons_of_mem _ hx)) hl
   have h2 := h a (List.mem_cons_self ..)
   cases hp : p a <;> cases hq : q a <;> simp_all <;> omega
  ·obtain ⟨x, hx, hp, hq⟩ := hx
   rcases List.mem_cons.1 hx with rfl | hx
   ·simp [hp, hq]; omega
   ·exact absurd ⟨x, hx, hp, hq⟩ hl
structure Ru where
 nx : Nat → List Int
 ct : Nat → List Int
 df : Nat → W4
 us : Nat → W4
 hd : Nat → W4
end
section
set_option maxRecDepth 100000
set_option maxHeartbeats 16000000
open Go.RowKit
def zN : DNode := ⟨0, 0, 0, 0, 0, 0, 0⟩
def upM (xs : List DNode) : Nat → Int → List Int
 | 0, _ => []
 | k + 1, n => if 0 ≤ n ∧ n < (xs.length : Int) then n :: upM xs k (xs.getD n.toNat zN).parent else []
theorem upM_in (xs : List DNode) : ∀ (k : Nat) (n : Int), ∀ u ∈ upM xs k n, 0 ≤ u ∧ u < (xs.length : Int)
 | 0, n, u, h => by simp [upM] at h
 | k + 1, n, u, h => by
  unfold upM at h
  split at h
  ·rename_i hc
   rcases List.mem_cons.1 h with rfl | h
   ·exact hc
   ·exact upM_in xs k _ u h
  ·cases h
theorem upM_len (xs : List DNode) : ∀ (k : Nat) (n : Int), (upM xs k n).length ≤ k
 | 0, n => by simp [upM]
 | k + 1, n => by
  unfold upM
  split
  ·have := upM_len xs k (xs.getD n.toNat zN).parent
   simp only [List.length_cons]; omega
  ·simp
def IsRow (l : List Int) (w : World) (e : Ending) (w' : World) : Prop := ∃ A k c, e = .returned (.slice A k c) ∧ w'.ownsRow w.heap.size 3 1 (.slice A k c) k (rowI l) ∧ Below w.heap.size w w'
theorem row_len {w : World} {base k : Nat} {v : Value} {l : List Int} (h : w.ownsRow base 3 1 v k (rowI l)) : l.length = k := by
 have := h.1
 simpa [rowI] using this
theorem rup_any (A : Option Addr) (n c : Nat) (xs : List DNode) (m : Int) (w : World) (h : SlN w w.heap.size A n c xs) (hn : n ≤ 20) :
  Calls Tryz.prog 172 #[.slice A n c, .int .i64 m] w (IsRow (upM xs (n + 1) m) w) := by
 obtain ⟨i0, hi, hz0, hz1, hz2⟩ := info_parts info_int
 have H := Hd h
 have hl := Hd h.1
 have hn1 : (n : Int) ≤ 20 := by omega
 have hn0 : (0 : Int) ≤ (n : Int) := by omega
 clear h
 go_in
 go_wp2_with fail
 go_loopw [1, 5, 6] (fun nv ov iv wr => ∃ (k : Nat) (y : Int) (A' : Option Addr) (c' : Nat), nv = .int .i64 y ∧ ov = .slice A' k c' ∧ iv = .int .i64 (k : Int) ∧ k ≤ n + 1 ∧ Hid (∃ l, wr.ownsRow w.heap.size 3 1 (.slice A' k c') k (rowI l) ∧ upM xs (n + 1) m = l ++ upM xs (n + 1 - k) y ∧ Below w.heap.size w wr)) (fun _ _ iv _ => n + 2 - (intOf iv).toNat)
 case atStart => exact ⟨0, m, none, 0, rfl, rfl, rfl, by omega, Hd ⟨[], ⟨rfl, .inl ⟨rfl, rfl⟩⟩, rfl, Below.refl _ _⟩⟩
 case round =>
  obtain ⟨k, y, A', c', rfl, rfl, rfl, hk, HK⟩ := hrel
  obtain ⟨l, hown, hup, hbw⟩ := HK.out
  have HO := Hd hown
  have HU := Hd hup
  have HB := Hd hbw
  have hk0 : (0 : Int) ≤ (k : Int) := by omega
  have hk1 : (k : Int) ≤ 21 := by omega
  clear hown hup hbw HK
  by_cases hlt : k ≤ n
  ·have t0 : decide ((k : Int) ≤ (n : Int)) = true := dcT (by omega)
   have t0' : decide (k ≤ n) = true := dcT (by omega)
   by_cases hy0 : 0 ≤ y
   ·have t1 : decide (y ≥ 0) = true := dcT (by omega)
    by_cases hy1 : y < (n : Int)
    ·have t2 : decide (y < (n : Int)) = true := dcT (by omega)
     obtain ⟨q, rfl⟩ := Int.eq_ofNat_of_zero_le hy0
     obtain ⟨b, off, z, rfl, hbq, hz, hc0, _⟩ := sln_at H.out (k := q) (by omega)
     have HE : Hid (upM xs (n + 1 - k) (q : Int) = (q : Int) :: upM xs (n + 1 - (k + 1)) z.parent) := Hd (by
      have e : n + 1 - k = (n + 1 - (k + 1)) + 1 := by omega
      have hll := hl.out
      rw [e, upM, if_pos ⟨by omega, by omega⟩]
      have : xs.getD (q : Int).toNat zN = z := by rw [List.getD_eq_getElem?_getD, show ((q : Int).toNat) = q from rfl, hz]; rfl
      rw [this])
     obtain ⟨zp, hzp⟩ : ∃ v, z.parent = v := ⟨_, rfl⟩
     rw [hzp] at hc0 HE
     have hZ : Hid (w.heap.size ≤ wr.heap.size) := Hd HB.out.size
     have hsrc := Hd (src_int wr (q : Int))
     have HC0 := Hd hc0
     have hq : (q : Int) < (n : Int) := hy1
     have t2' : decide (q < n) = true := dcT (by omega)
     clear hz hzp hc0
     go_wp2_with (first
       | (at_builtin; go_must (refine wpList_append_src _ rfl _ _ 34 rfl w.heap.size 3 i0 (.int .i64 0) 1 8 Tryz.underlying34 hi hz0 hz1 hz2 rfl (by decide) _ _ _ rfl (HO.out.alloc _) (some ⟨wr.heap.size, 0, none⟩) 1 1 [.int .i64 (q : Int)] rfl hsrc.out (one_int _) (by unfold maxLen; omega) (by omega) (by have := hZ.out; simp; omega) ?_)
          intro v' w7 hown' hgrow3 hat3
          obtain ⟨A', c', rfl, X1, X2, _⟩ := app_int HB.out hZ.out HO.out hown' hgrow3
          have yq := (X2.cell (p := ⟨b, off + q * 7, none⟩) hbq).trans HC0.out
          have XR := Hd X1
          have XB := Hd X2
          clear X1 X2 hown' hgrow3 hat3)
       | fail)
     go_roundw
     case rel => exact ⟨k + 1, zp, A', c', rfl, rfl, by go_num, by omega, Hd ⟨l ++ [(q : Int)], XR.out, by rw [HU.out, HE.out]; simp, XB.out⟩⟩
     case measure => simp [intOf]; omega
    ·have t2 : decide (y < (n : Int)) = false := dcF (by omega)
     have HE : Hid (upM xs (n + 1) m = l) := Hd (by
      have e : n + 1 - k = (n - k) + 1 := by omega
      have hll := hl.out
      rw [HU.out, e, upM, if_neg (by omega), List.append_nil])
     go_wp2_with fail
     go_ret
     exact ⟨A', k, c', rfl, by rw [HE.out]; exact HO.out, HB.out⟩
   ·have t1 : decide (y ≥ 0) = false := dcF (by omega)
    have HE : Hid (upM xs (n + 1) m = l) := Hd (by
     have e : n + 1 - k = (n - k) + 1 := by omega
     rw [HU.out, e, upM, if_neg (by omega), List.append_nil])
    go_wp2_with fail
    go_ret
    exact ⟨A', k, c', rfl, by rw [HE.out]; exact HO.out, HB.out⟩
  ·obtain rfl : k = n + 1 := by omega
   have t0 : decide (((n + 1 : Nat) : Int) ≤ (n : Int)) = false := dcF (by omega)
   have t0' : decide (n + 1 ≤ n) = false := dcF (by omega)
   have t0'' : decide ((n : Int) + 1 ≤ (n : Int)) = false := dcF (by omega)
   have HE : Hid (upM xs (n + 1) m = l) := Hd (by rw [HU.out, Nat.sub_self, upM, List.append_nil])
   go_wp2_with fail
   go_ret
   exact ⟨A', n + 1, c', rfl, by rw [HE.out]; exact HO.out, HB.out⟩
end
section
set_option maxRecDepth 100000
set_option maxHeartbeats 8000000
open Go.RowKit
def ndM (x : DFunc) (pc : Nat) : Int := if x.nodes.length + x.at_.length + x.live.length = 0 then 0 else x.at_.getD pc 0
theorem rnode_any (s : ByteArray) (b : Bool) (A0 : Option Addr) (n0 c0 : Nat) (A1 : Option Addr) (n1 c1 : Nat) (A2 : Option Addr) (n2 c2 : Nat) (A3 : Option Addr) (n3 c3 : Nat) (A4 : Option Addr) (n4 c4 : Nat) (A5 : Option Addr) (n5 c5 : Nat) (A6 : Option Addr) (n6 c6 : Nat) (A7 : Option Addr) (n7 c7 : Nat) (A8 : Option Addr) (n8 c8 : Nat) (x : DFunc) (pc : Nat) (w : World) (h : FnW w w.heap.size s b A0 n0 c0 A1 n1 c1 A2 n2 c2 A3 n3 c3 A4 n4 c4 A5 n5 c5 A6 n6 c6 A7 n7 c7 A8 n8 c8 x) (hpc : pc ≤ 100000) : Calls Tryz.prog 149 #[.agg #[.string s, .bool b, .slice A0 n0 c0, .slice A1 n1 c1, .slice A2 n2 c2, .slice A3 n3 c3, .slice A4 n4 c4, .slice A5 n5 c5, .slice A6 n6 c6, .slice A7 n7 c7, .slice A8 n8 c8], .int .i64 (pc : Int)] w fun e w' => e = .returned (.int .i64 (ndM x pc)) ∧ Below w.heap.size w w' := by
 obtain ⟨w2, hw2⟩ : ∃ X, w.alloc (.cells #[.string s, .bool b, .slice A0 n0 c0, .slice A1 n1 c1, .slice A2 n2 c2, .slice A3 n3 c3, .slice A4 n4 c4, .slice A5 n5 c5, .slice A6 n6 c6, .slice A7 n7 c7, .slice A8 n8 c8] 38) = X := ⟨_, rfl⟩
 obtain ⟨g, hg⟩ : ∃ g, w.heap.size = g := ⟨_, rfl⟩
 have hc : Cells w2 g #[.string s, .bool b, .slice A0 n0 c0, .slice A1 n1 c1, .slice A2 n2 c2, .slice A3 n3 c3, .slice A4 n4 c4, .slice A5 n5 c5, .slice A6 n6 c6, .slice A7 n7 c7, .slice A8 n8 c8].toList := by rw [← hw2, ← hg]; exact Cells.new w #[.string s, .bool b, .slice A0 n0 c0, .slice A1 n1 c1, .slice A2 n2 c2, .slice A3 n3 c3, .slice A4 n4 c4, .slice A5 n5 c5, .slice A6 n6 c6, .slice A7 n7 c7, .slice A8 n8 c8].toList _
 have hb2 : Below w.heap.size w w2 := by rw [← hw2]; exact bl_one _
 have HB := Hd hb2
 have EQ : Hid (∀ W, Below w2.heap.size w2 W → W.cell? ⟨g, 0, none⟩ = some (.string s) ∧ W.cell? ⟨g, 1, none⟩ = some (.bool b) ∧ W.cell? ⟨g, 2, none⟩ = some (.slice A0 n0 c0) ∧ W.cell? ⟨g, 3, none⟩ = some (.slice A1 n1 c1) ∧ W.cell? ⟨g, 4, none⟩ = some (.slice A2 n2 c2) ∧ W.cell? ⟨g, 5, none⟩ = some (.slice A3 n3 c3) ∧ W.cell? ⟨g, 6, none⟩ = some (.slice A4 n4 c4) ∧ W.cell? ⟨g, 7, none⟩ = some (.slice A5 n5 c5) ∧ W.cell? ⟨g, 8, none⟩ = some (.slice A6 n6 c6) ∧ W.cell? ⟨g, 9, none⟩ = some (.slice A7 n7 c7) ∧ W.cell? ⟨g, 10, none⟩ = some (.slice A8 n8 c8)) := Hd fun W hW => ⟨(hc.on hW).at_ 0 _ rfl, (hc.on hW).at_ 1 _ rfl, (hc.on hW).at_ 2 _ rfl, (hc.on hW).at_ 3 _ rfl, (hc.on hW).at_ 4 _ rfl, (hc.on hW).at_ 5 _ rfl, (hc.on hW).at_ 6 _ rfl, (hc.on hW).at_ 7 _ rfl, (hc.on hW).at_ 8 _ rfl, (hc.on hW).at_ 9 _ rfl, (hc.on hW).at_ 10 _ rfl⟩
 obtain ⟨e0, e1, e2, e3, e4, e5, e6, e7, e8, e9, e10⟩ := EQ.out w2 (Below.refl _ _)
 obtain ⟨s4, s5, s6, s7, s8, _⟩ := h.sm
 have hl6 := h.r6.1
 have hl7 := h.r7.1
 have hl8 := h.r8.1
 have cB := Hd (rbare_any s b A0 n0 c0 A1 n1 c1 A2 n2 c2 A3 n3 c3 A4 n4 c4 A5 n5 c5 A6 n6 c6 A7 n7 c7 A8 n8 c8 w2 (by omega) (by omega) (by omega) _ rfl)
 have HS7 : Hid (∀ W, Below w2.heap.size w2 W → SlI W W.heap.size A7 n7 c7 x.at_) := Hd fun W hW => by
  have h2 : Below w.heap.size w W := hb2.trans (hW.mono hb2.size)
  exact SlR.more (f := fun x => [Value.int .i64 x]) (h.r7.keep h2 (Nat.le_refl _)) h2.size
 have p0 : (0 : Int) ≤ (pc : Int) := by omega
 have d0 : decide ((pc : Int) < 0) = false := by simp
 have k7 : (n7 : Int) ≤ 150 := by omega
 have kp : (pc : Int) ≤ 100000 := by omega
 clear hc h hb2
 by_cases hb : n6 + n7 + n8 = 0
 ·have hr : decide (n6 + n7 + n8 = 0) = true := by simpa using hb
  have HV : Hid (ndM x pc = 0) := Hd (by unfold ndM; rw [if_pos (by omega)])
  rw [hr] at cB
  clear hr hb
  go_in
  go_wp2_with fail
  refine cB.out.mono ?_
  rintro e w3 ⟨rfl, hb3⟩
  have HB3 : Hid (Below w.heap.size w w3) := Hd (HB.out.trans (hb3.mono HB.out.size))
  clear hb3 cB
  go_wp2_with fail
  go_ret
  exact ⟨by rw [HV.out]; rfl, HB3.out⟩
 ·have hr : decide (n6 + n7 + n8 = 0) = false := by simpa using hb
  have HV : Hid (ndM x pc = x.at_.getD pc 0) := Hd (by unfold ndM; rw [if_neg (by omega)])
  rw [hr] at cB
  clear hr hb
  go_in
  go_wp2_with fail
  refine cB.out.mono ?_
  rintro e w3 ⟨rfl, hb3⟩
  have HB3 : Hid (Below w.heap.size w w3) := Hd (HB.out.trans (hb3.mono HB.out.size))
  have hS := HS7.out w3 hb3
  clear e0 e1 e2 e3 e4 e5 e6 e7 e8 e9 e10
  obtain ⟨e0, e1, e2, e3, e4, e5, e6, e7, e8, e9, e10⟩ := EQ.out w3 hb3
  clear hb3 cB
  by_cases hlt : pc < n7
  ·have d1 : decide (n7 ≤ pc) = false := by simp; omega
   have hkn : (pc : Int) < (n7 : Int) := by omega
   obtain ⟨b', off, rfl, hb', hcc⟩ := hS.getD hlt 0
   obtain ⟨v, hv⟩ : ∃ v, x.at_.getD pc 0 = v := ⟨_, rfl⟩
   rw [hv] at hcc HV
   clear hb' hS hlt hv
   go_wp2_with fail
   go_ret
   exact ⟨by rw [HV.out]; rfl, HB3.out⟩
  ·have d1 : decide (n7 ≤ pc) = true := by simp; omega
   have HV2 : Hid (ndM x pc = 0) := Hd (by rw [HV.out, List.getD_eq_getElem?_getD, List.getElem?_eq_none (by omega)]; rfl)
   clear hS HV
   go_wp2_with fail
   go_ret
   exact ⟨by rw [HV2.out]; rfl, HB3.out⟩
end
end Go.Proofs.YtobmjnmcjddhcaaGreat
