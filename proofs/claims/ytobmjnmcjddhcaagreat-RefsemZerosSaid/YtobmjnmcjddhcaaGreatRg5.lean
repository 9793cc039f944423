import Derived.Test.YtobmjnmcjddhcaaGreatRg4
set_option linter.unusedSimpArgs false
set_option linter.unusedVariables false
namespace Go.Proofs.YtobmjnmcjddhcaaGreat
section
set_option maxRecDepth 100000
set_option maxHeartbeats 16000000
open Go.RowKit
def raisesM (o : Int) : Bool := decide (o = 9) || decide (o = 10) || decide (o = 23) || decide (o = 25) || decide (o = 26) || decide (o = 33) || decide (o = 34)
theorem rraises_any (o : Int) (w : World) : Calls Tryz.prog 171 #[.int .i64 o] w fun e w' => e = .returned (.bool (raisesM o)) ∧ w = w' := by
 by_cases h0 : o = 9
 ·subst h0
  go_in
  go_wp2_with fail
  go_ret
  exact ⟨rfl, rfl⟩
 have e0 : (o == 9) = false := by simpa using h0
 by_cases h1 : o = 10
 ·subst h1
  go_in
  go_wp2_with fail
  go_ret
  exact ⟨rfl, rfl⟩
 have e1 : (o == 10) = false := by simpa using h1
 by_cases h2 : o = 23
 ·subst h2
  go_in
  go_wp2_with fail
  go_ret
  exact ⟨rfl, rfl⟩
 have e2 : (o == 23) = false := by simpa using h2
 by_cases h3 : o = 25
 ·subst h3
  go_in
  go_wp2_with fail
  go_ret
  exact ⟨rfl, rfl⟩
 have e3 : (o == 25) = false := by simpa using h3
 by_cases h4 : o = 26
 ·subst h4
  go_in
  go_wp2_with fail
  go_ret
  exact ⟨rfl, rfl⟩
 have e4 : (o == 26) = false := by simpa using h4
 by_cases h5 : o = 33
 ·subst h5
  go_in
  go_wp2_with fail
  go_ret
  exact ⟨rfl, rfl⟩
 have e5 : (o == 33) = false := by simpa using h5
 by_cases h6 : o = 34
 ·subst h6
  go_in
  go_wp2_with fail
  go_ret
  exact ⟨rfl, rfl⟩
 have e6 : (o == 34) = false := by simpa using h6
 have hr : raisesM o = false := by simp [raisesM, h0, h1, h2, h3, h4, h5, h6]
 rw [hr]
 clear h0 h1 h2 h3 h4 h5 h6 hr
 go_in
 go_wp2_with fail
 go_ret
 exact ⟨rfl, rfl⟩
def codeAt (x : DFunc) (k : Nat) : DInstr := x.code.getD k ⟨0, 0⟩
def resM (x : DFunc) (a : Int) : Int := (x.nodes.getD a.toNat zN).resume
def nextM (x : DFunc) (k : Nat) : List Int :=
 if (codeAt x k).op = 21 then [(codeAt x k).a] else if (codeAt x k).op = 22 ∧ (codeAt x k).a ≠ (k : Int) + 1 then [(k : Int) + 1, (codeAt x k).a] else if (codeAt x k).op = 25 ∨ (codeAt x k).op = 26 then []
 else if (codeAt x k).op = 34 then (if 1 ≤ (codeAt x k).a ∧ (codeAt x k).a < (x.nodes.length : Int) then [resM x (codeAt x k).a] else []) else [(k : Int) + 1]
def opensM (x : DFunc) (k : Nat) : List Int := if (codeAt x k).op = 33 ∧ 0 < (codeAt x k).a ∧ (codeAt x k).a < (x.nodes.length : Int) then [resM x (codeAt x k).a] else []
theorem nextM_len (x : DFunc) (k : Nat) : (nextM x k).length ≤ 2 := by
 unfold nextM
 repeat' split
 all_goals simp
theorem opensM_len (x : DFunc) (k : Nat) : (opensM x k).length ≤ 1 := by
 unfold opensM
 repeat' split
 all_goals simp
theorem row_one {W : World} {w : World} (hb : Below w.heap.size w W) (v : Int) : (W.alloc (.cells #[.int .i64 v] 3)).ownsRow w.heap.size 3 1 (.slice (some ⟨W.heap.size, 0, none⟩) 1 1) 1 (rowI [v]) :=
 own_at rfl w.heap.size hb.size [.int .i64 v] _ 1 1 (by unfold maxLen; omega) rfl
theorem row_two {W : World} {w : World} (hb : Below w.heap.size w W) (u v : Int) : (W.alloc (.cells #[.int .i64 u, .int .i64 v] 3)).ownsRow w.heap.size 3 1 (.slice (some ⟨W.heap.size, 0, none⟩) 2 2) 2 (rowI [u, v]) :=
 own_at rfl w.heap.size hb.size [.int .i64 u, .int .i64 v] _ 1 2 (by unfold maxLen; omega) rfl
theorem row_one1 {W : World} {w : World} (hb : Below w.heap.size w W) (o : Obj) (v : Int) : ((W.alloc o).alloc (.cells #[.int .i64 v] 3)).ownsRow w.heap.size 3 1 (.slice (some ⟨W.heap.size + 1, 0, none⟩) 1 1) 1 (rowI [v]) :=
 own_at (by simp) w.heap.size (by have := hb.size; omega) [.int .i64 v] _ 1 1 (by unfold maxLen; omega) rfl
theorem row_two1 {W : World} {w : World} (hb : Below w.heap.size w W) (o : Obj) (u v : Int) : ((W.alloc o).alloc (.cells #[.int .i64 u, .int .i64 v] 3)).ownsRow w.heap.size 3 1 (.slice (some ⟨W.heap.size + 1, 0, none⟩) 2 2) 2 (rowI [u, v]) :=
 own_at (by simp) w.heap.size (by have := hb.size; omega) [.int .i64 u, .int .i64 v] _ 1 2 (by unfold maxLen; omega) rfl
theorem row_nil (W : World) (b : Nat) : W.ownsRow b 3 1 (.slice none 0 0) 0 (rowI []) := ⟨rfl, .inl ⟨rfl, rfl⟩⟩
theorem code_get {w : World} {B : Nat} {A4 : Option Addr} {n4 c4 : Nat} {x : DFunc} (h : SlC w B A4 n4 c4 x.code) {k : Nat} (hk : k < n4) : ∃ b off yo ya, A4 = some ⟨b, off, none⟩ ∧ b < B ∧ codeAt x k = ⟨yo, ya⟩ ∧ x.code[k]? = some ⟨yo, ya⟩ ∧ w.cell? ⟨b, off + k * 2, none⟩ = some (.int .i64 yo) ∧ w.cell? ⟨b, off + k * 2 + 1, none⟩ = some (.int .i64 ya) := by
 obtain ⟨b, off, y, hA, hb, hy, y0, y1⟩ := slc_at h hk
 exact ⟨b, off, y.op, y.a, hA, hb, by unfold codeAt; rw [List.getD_eq_getElem?_getD, hy]; rfl, hy, y0, y1⟩
theorem node_get {w : World} {B : Nat} {A6 : Option Addr} {n6 c6 : Nat} {x : DFunc} (h : SlN w B A6 n6 c6 x.nodes) {a : Int} (h0 : 0 ≤ a) (h1 : a < (n6 : Int)) : ∃ b off q z, A6 = some ⟨b, off, none⟩ ∧ b < B ∧ a = ((q : Nat) : Int) ∧ q < n6 ∧ x.nodes[q]? = some z ∧ resM x a = z.resume ∧ (∀ j u, (cellsN z)[j]? = some u → w.cell? ⟨b, off + q * 7 + j, none⟩ = some u) := by
 obtain ⟨q, rfl⟩ := Int.eq_ofNat_of_zero_le h0
 obtain ⟨b, off, z, cs, hA, hb, hz, hl, hc, hr⟩ := SlR.at_ h (i := q) (by omega)
 unfold RC at hr
 subst hr
 exact ⟨b, off, q, z, hA, hb, rfl, by omega, hz, by unfold resM; rw [List.getD_eq_getElem?_getD, show ((q : Int).toNat) = q from rfl, hz]; rfl, fun j u hj => by have := hc j u hj; simpa [Nat.add_assoc] using this⟩
theorem rnext_any (s : ByteArray) (b : Bool) (A0 : Option Addr) (n0 c0 : Nat) (A1 : Option Addr) (n1 c1 : Nat) (A2 : Option Addr) (n2 c2 : Nat) (A3 : Option Addr) (n3 c3 : Nat) (A4 : Option Addr) (n4 c4 : Nat) (A5 : Option Addr) (n5 c5 : Nat) (A6 : Option Addr) (n6 c6 : Nat) (A7 : Option Addr) (n7 c7 : Nat) (A8 : Option Addr) (n8 c8 : Nat) (x : DFunc) (k : Nat) (w : World) (h : FnW w w.heap.size s b A0 n0 c0 A1 n1 c1 A2 n2 c2 A3 n3 c3 A4 n4 c4 A5 n5 c5 A6 n6 c6 A7 n7 c7 A8 n8 c8 x) (hk : k < n4) : Calls Tryz.prog 123 #[.agg #[.string s, .bool b, .slice A0 n0 c0, .slice A1 n1 c1, .slice A2 n2 c2, .slice A3 n3 c3, .slice A4 n4 c4, .slice A5 n5 c5, .slice A6 n6 c6, .slice A7 n7 c7, .slice A8 n8 c8], .int .i64 (k : Int)] w (IsRow (nextM x k) w) := by
 obtain ⟨w1, hw1⟩ : ∃ X, w.alloc (.cells #[.string s, .bool b, .slice A0 n0 c0, .slice A1 n1 c1, .slice A2 n2 c2, .slice A3 n3 c3, .slice A4 n4 c4, .slice A5 n5 c5, .slice A6 n6 c6, .slice A7 n7 c7, .slice A8 n8 c8] 38) = X := ⟨_, rfl⟩
 obtain ⟨g, hg⟩ : ∃ g, w.heap.size = g := ⟨_, rfl⟩
 have hb1 : Below w.heap.size w w1 := by rw [← hw1]; exact bl_one _
 have hc1 : Cells w1 g [.string s, .bool b, .slice A0 n0 c0, .slice A1 n1 c1, .slice A2 n2 c2, .slice A3 n3 c3, .slice A4 n4 c4, .slice A5 n5 c5, .slice A6 n6 c6, .slice A7 n7 c7, .slice A8 n8 c8] := by rw [← hw1, ← hg]; exact Cells.new w [.string s, .bool b, .slice A0 n0 c0, .slice A1 n1 c1, .slice A2 n2 c2, .slice A3 n3 c3, .slice A4 n4 c4, .slice A5 n5 c5, .slice A6 n6 c6, .slice A7 n7 c7, .slice A8 n8 c8] _
 have h1 := (h.keep hb1).more hb1.size
 have HB1 := Hd hb1
 obtain ⟨s4, s5, s6, s7, s8, s0⟩ := h.sm
 obtain ⟨bb, off, yo, ya, rfl, hbb, hca, hcd, y0, y1⟩ := code_get h1.r4 hk
 have e0 := hc1.at_ 0 _ rfl
 have e1 := hc1.at_ 1 _ rfl
 have e2 := hc1.at_ 2 _ rfl
 have e3 := hc1.at_ 3 _ rfl
 have e4 := hc1.at_ 4 _ rfl
 have e5 := hc1.at_ 5 _ rfl
 have e6 := hc1.at_ 6 _ rfl
 have e7 := hc1.at_ 7 _ rfl
 have e8 := hc1.at_ 8 _ rfl
 have e9 := hc1.at_ 9 _ rfl
 have e10 := hc1.at_ 10 _ rfl
 have hk0 : (0 : Int) ≤ (k : Int) := by omega
 have hk1 : (k : Int) ≤ 150 := by omega
 have hkn : (k : Int) < (n4 : Int) := by omega
 have hnx : nextM x k = if yo = 21 then [ya] else if yo = 22 ∧ ya ≠ (k : Int) + 1 then [(k : Int) + 1, ya] else if yo = 25 ∨ yo = 26 then [] else if yo = 34 then (if 1 ≤ ya ∧ ya < (x.nodes.length : Int) then [resM x ya] else []) else [(k : Int) + 1] := by unfold nextM; rw [hca]
 have hnl : x.nodes.length = n6 := h1.r6.1
 have HN6 := Hd h1.r6
 rw [hnl] at hnx
 rw [hnx]
 have e8b : ∀ o, (w1.alloc o).cell? ⟨g, 8, none⟩ = some (.slice A6 n6 c6) := fun o => (hc1.on (bl_one o)).at_ 8 _ rfl
 clear hnx hnl hca hcd h h1 hb1 hc1
 have f0 : decide ((k : Int) < 0) = false := dcF (by omega)
 have f1 : decide ((k : Int) ≥ (n4 : Int)) = false := dcF (by omega)
 have f1b : decide (n4 ≤ k) = false := dcF (by omega)
 by_cases o21 : yo = 21
 ·subst o21
  rw [if_pos rfl]
  go_in
  go_wp2_with fail
  go_ret
  exact ⟨_, 1, 1, rfl, row_one1 HB1.out _ _, ((HB1.out.alloc HB1.out.size _)).alloc ((HB1.out.alloc HB1.out.size _)).size _⟩
 have e21 : (yo == 21) = false := by simpa using o21
 rw [if_neg o21]
 by_cases o22 : yo = 22
 ·subst o22
  by_cases hya : ya = (k : Int) + 1
  ·subst hya
   rw [if_neg (fun h => h.2 rfl), if_neg (by omega), if_neg (by omega)]
   go_in
   go_wp2_with fail
   go_ret
   exact ⟨_, 1, 1, rfl, row_one1 HB1.out _ _, ((HB1.out.alloc HB1.out.size _)).alloc ((HB1.out.alloc HB1.out.size _)).size _⟩
  ·rw [if_pos ⟨rfl, hya⟩]
   have d1 : (ya != (k : Int) + 1) = true := by simpa using hya
   go_in
   go_wp2_with fail
   go_ret
   exact ⟨_, 2, 2, rfl, row_two1 HB1.out _ _ _, ((HB1.out.alloc HB1.out.size _)).alloc ((HB1.out.alloc HB1.out.size _)).size _⟩
 have e22 : (yo == 22) = false := by simpa using o22
 rw [if_neg (fun h => o22 h.1)]
 by_cases o25 : yo = 25
 ·subst o25
  rw [if_pos (.inl rfl)]
  go_in
  go_wp2_with fail
  go_ret
  exact ⟨_, 0, 0, rfl, row_nil _ _, (HB1.out.alloc HB1.out.size _)⟩
 have e25 : (yo == 25) = false := by simpa using o25
 by_cases o26 : yo = 26
 ·subst o26
  rw [if_pos (.inr rfl)]
  go_in
  go_wp2_with fail
  go_ret
  exact ⟨_, 0, 0, rfl, row_nil _ _, (HB1.out.alloc HB1.out.size _)⟩
 have e26 : (yo == 26) = false := by simpa using o26
 rw [if_neg (by omega)]
 by_cases o34 : yo = 34
 ·subst o34
  rw [if_pos rfl]
  by_cases a1 : 1 ≤ ya
  ·by_cases a2 : ya < (n6 : Int)
   ·rw [if_pos ⟨a1, a2⟩]
    obtain ⟨nb, noff, q, z, rfl, hnb, rfl, hq, _, hz, hzc⟩ := node_get HN6.out (by omega) a2
    have z6 := hzc 6 _ rfl
    rw [hz]
    obtain ⟨zr, hzr⟩ : ∃ v, z.resume = v := ⟨_, rfl⟩
    rw [hzr] at z6 ⊢
    have z6b : ∀ o, (w1.alloc o).cell? ⟨nb, noff + q * 7 + 6, none⟩ = some (.int .i64 zr) := fun o => ((bl_one o).cell (p := ⟨nb, noff + q * 7 + 6, none⟩) hnb).trans z6
    have q1 : (q : Int) < (n6 : Int) := a2
    have q0 : (0 : Int) ≤ (q : Int) := by omega
    clear hz hzc hzr HN6
    have d1 : decide (q < 1) = false := dcF (by omega)
    have d1b : decide ((q : Int) < 1) = false := dcF (by omega)
    have d2 : decide (n6 ≤ q) = false := dcF (by omega)
    have d2b : decide ((q : Int) ≥ (n6 : Int)) = false := dcF (by omega)
    go_in
    go_wp2_with fail
    go_ret
    exact ⟨_, 1, 1, rfl, row_one1 HB1.out _ _, ((HB1.out.alloc HB1.out.size _)).alloc ((HB1.out.alloc HB1.out.size _)).size _⟩
   ·rw [if_neg (fun h => a2 h.2)]
    have d1 : decide (ya < 1) = false := dcF (by omega)
    have d2 : decide (ya ≥ (n6 : Int)) = true := dcT (by omega)
    have d2b : decide ((n6 : Int) ≤ ya) = true := dcT (by omega)
    go_in
    go_wp2_with fail
    go_ret
    exact ⟨_, 0, 0, rfl, row_nil _ _, (HB1.out.alloc HB1.out.size _)⟩
  ·rw [if_neg (fun h => a1 h.1)]
   have d1 : decide (ya < 1) = true := dcT (by omega)
   go_in
   go_wp2_with fail
   go_ret
   exact ⟨_, 0, 0, rfl, row_nil _ _, (HB1.out.alloc HB1.out.size _)⟩
 have e34 : (yo == 34) = false := by simpa using o34
 rw [if_neg o34]
 go_in
 go_wp2_with fail
 go_ret
 exact ⟨_, 1, 1, rfl, row_one1 HB1.out _ _, ((HB1.out.alloc HB1.out.size _)).alloc ((HB1.out.alloc HB1.out.size _)).size _⟩
theorem ropens_any (s : ByteArray) (b : Bool) (A0 : Option Addr) (n0 c0 : Nat) (A1 : Option Addr) (n1 c1 : Nat) (A2 : Option Addr) (n2 c2 : Nat) (A3 : Option Addr) (n3 c3 : Nat) (A4 : Option Addr) (n4 c4 : Nat) (A5 : Option Addr) (n5 c5 : Nat) (A6 : Option Addr) (n6 c6 : Nat) (A7 : Option Addr) (n7 c7 : Nat) (A8 : Option Addr) (n8 c8 : Nat) (x : DFunc) (k : Nat) (w : World) (h : FnW w w.heap.size s b A0 n0 c0 A1 n1 c1 A2 n2 c2 A3 n3 c3 A4 n4 c4 A5 n5 c5 A6 n6 c6 A7 n7 c7 A8 n8 c8 x) (hk : k < n4) : Calls Tryz.prog 124 #[.agg #[.string s, .bool b, .slice A0 n0 c0, .slice A1 n1 c1, .slice A2 n2 c2, .slice A3 n3 c3, .slice A4 n4 c4, .slice A5 n5 c5, .slice A6 n6 c6, .slice A7 n7 c7, .slice A8 n8 c8], .int .i64 (k : Int)] w (IsRow (opensM x k) w) := by
 obtain ⟨w1, hw1⟩ : ∃ X, w.alloc (.cells #[.string s, .bool b, .slice A0 n0 c0, .slice A1 n1 c1, .slice A2 n2 c2, .slice A3 n3 c3, .slice A4 n4 c4, .slice A5 n5 c5, .slice A6 n6 c6, .slice A7 n7 c7, .slice A8 n8 c8] 38) = X := ⟨_, rfl⟩
 obtain ⟨g, hg⟩ : ∃ g, w.heap.size = g := ⟨_, rfl⟩
 have hb1 : Below w.heap.size w w1 := by rw [← hw1]; exact bl_one _
 have hc1 : Cells w1 g [.string s, .bool b, .slice A0 n0 c0, .slice A1 n1 c1, .slice A2 n2 c2, .slice A3 n3 c3, .slice A4 n4 c4, .slice A5 n5 c5, .slice A6 n6 c6, .slice A7 n7 c7, .slice A8 n8 c8] := by rw [← hw1, ← hg]; exact Cells.new w [.string s, .bool b, .slice A0 n0 c0, .slice A1 n1 c1, .slice A2 n2 c2, .slice A3 n3 c3, .slice A4 n4 c4, .slice A5 n5 c5, .slice A6 n6 c6, .slice A7 n7 c7, .slice A8 n8 c8] _
 have h1 := (h.keep hb1).more hb1.size
 have HB1 := Hd hb1
 obtain ⟨s4, s5, s6, s7, s8, s0⟩ := h.sm
 obtain ⟨bb, off, yo, ya, rfl, hbb, hca, hcd, y0, y1⟩ := code_get h1.r4 hk
 have e0 := hc1.at_ 0 _ rfl
 have e1 := hc1.at_ 1 _ rfl
 have e2 := hc1.at_ 2 _ rfl
 have e3 := hc1.at_ 3 _ rfl
 have e4 := hc1.at_ 4 _ rfl
 have e5 := hc1.at_ 5 _ rfl
 have e6 := hc1.at_ 6 _ rfl
 have e7 := hc1.at_ 7 _ rfl
 have e8 := hc1.at_ 8 _ rfl
 have e9 := hc1.at_ 9 _ rfl
 have e10 := hc1.at_ 10 _ rfl
 have hk0 : (0 : Int) ≤ (k : Int) := by omega
 have hk1 : (k : Int) ≤ 150 := by omega
 have hkn : (k : Int) < (n4 : Int) := by omega
 have hnx : opensM x k = if yo = 33 ∧ 0 < ya ∧ ya < (x.nodes.length : Int) then [resM x ya] else [] := by unfold opensM; rw [hca]
 have hnl : x.nodes.length = n6 := h1.r6.1
 have HN6 := Hd h1.r6
 rw [hnl] at hnx
 rw [hnx]
 have e8b : ∀ o, (w1.alloc o).cell? ⟨g, 8, none⟩ = some (.slice A6 n6 c6) := fun o => (hc1.on (bl_one o)).at_ 8 _ rfl
 clear hnx hnl hca hcd h h1 hb1 hc1
 by_cases o33 : yo = 33
 ·subst o33
  by_cases a1 : 0 < ya
  ·by_cases a2 : ya < (n6 : Int)
   ·rw [if_pos ⟨rfl, a1, a2⟩]
    obtain ⟨nb, noff, q, z, rfl, hnb, rfl, hq, _, hz, hzc⟩ := node_get HN6.out (by omega) a2
    have z6 := hzc 6 _ rfl
    rw [hz]
    obtain ⟨zr, hzr⟩ : ∃ v, z.resume = v := ⟨_, rfl⟩
    rw [hzr] at z6 ⊢
    have z6b : ∀ o, (w1.alloc o).cell? ⟨nb, noff + q * 7 + 6, none⟩ = some (.int .i64 zr) := fun o => ((bl_one o).cell (p := ⟨nb, noff + q * 7 + 6, none⟩) hnb).trans z6
    have q1 : (q : Int) < (n6 : Int) := a2
    have q0 : (0 : Int) ≤ (q : Int) := by omega
    clear hz hzc hzr HN6
    have d1 : decide (0 < q) = true := dcT (by omega)
    have d1b : decide ((q : Int) > 0) = true := dcT (by omega)
    have d2 : decide (q < n6) = true := dcT (by omega)
    have d2b : decide ((q : Int) < (n6 : Int)) = true := dcT (by omega)
    go_in
    go_wp2_with fail
    go_ret
    exact ⟨_, 1, 1, rfl, row_one1 HB1.out _ _, ((HB1.out.alloc HB1.out.size _)).alloc ((HB1.out.alloc HB1.out.size _)).size _⟩
   ·rw [if_neg (fun h => a2 h.2.2)]
    have d1 : decide (ya > 0) = true := dcT (by omega)
    have d1b : decide (0 < ya) = true := dcT (by omega)
    have d2 : decide (ya < (n6 : Int)) = false := dcF (by omega)
    go_in
    go_wp2_with fail
    go_ret
    exact ⟨_, 0, 0, rfl, row_nil _ _, (HB1.out.alloc HB1.out.size _)⟩
  ·rw [if_neg (fun h => a1 h.2.1)]
   have d1 : decide (ya > 0) = false := dcF (by omega)
   have d1b : decide (0 < ya) = false := dcF (by omega)
   go_in
   go_wp2_with fail
   go_ret
   exact ⟨_, 0, 0, rfl, row_nil _ _, (HB1.out.alloc HB1.out.size _)⟩
 have e33 : (yo == 33) = false := by simpa using o33
 rw [if_neg (fun h => o33 h.1)]
 go_in
 go_wp2_with fail
 go_ret
 exact ⟨_, 0, 0, rfl, row_nil _ _, (HB1.out.alloc HB1.out.size _)⟩
end
section
set_option maxRecDepth 100000
set_option maxHeartbeats 4000000
open Go.RowKit
theorem info_ty : (Tryz.prog.info? 40).map (fun i => (i.zero, i.size, i.bytes)) = some (some (.int .i64 0), 1, 8) := by kernel_rfl
def iC (x : Int) : List Value := [.int .i64 x]
def IsTRow (n : Nat) (cells : List Value) (w : World) (e : Ending) (w' : World) : Prop := ∃ A c, e = .returned (.slice A n c) ∧ w'.ownsRow w.heap.size 40 1 (.slice A n c) n cells ∧ Below w.heap.size w w'
theorem app2 {w w1 w3 : World} {k N c : Nat} {A : Option Addr} {ys : List Value} {v' : Value} (hb : Below w.heap.size w w1) (hown' : w3.ownsRow w.heap.size 40 1 v' N ys) (hgrow : w1.grownBy w3 (Value.slice A k c).ownBlock) (hlt : ∀ j, (Value.slice A k c).ownBlock = some j → w.heap.size ≤ j) :
  ∃ A' c', v' = .slice A' N c' ∧ w3.ownsRow w.heap.size 40 1 (.slice A' N c') N ys ∧ Below w.heap.size w w3 := by
 obtain ⟨A', c', hv, _⟩ := own_form hown'
 subst hv
 exact ⟨A', c', rfl, hown', Below.grown hb hgrow hb.size hlt⟩
theorem src_sl {w : World} {B : Nat} {A : Option Addr} {n c : Nat} {xs : List Int} (h : SlI w B A n c xs) (hB : B ≤ w.heap.size) : Hid (∀ W, Below w.heap.size w W → SrcCells W A n 1 (xs.flatMap iC)) :=
 Hd fun W hW => SlR.src (f := iC) (fun _ => rfl) (h.keep hW hB)
theorem one_ty (xs : List Int) : ∀ u ∈ xs.flatMap iC, u.oneCell' = true := fun u hu => by
 obtain ⟨x, _, hx⟩ := List.mem_flatMap.1 hu
 simp [iC] at hx
 subst hx
 rfl
def slotsM (x : DFunc) : List Value := (x.params.flatMap iC ++ x.results.flatMap iC) ++ x.locals.flatMap iC
theorem rslots_any (s : ByteArray) (b : Bool) (A0 : Option Addr) (n0 c0 : Nat) (A1 : Option Addr) (n1 c1 : Nat) (A2 : Option Addr) (n2 c2 : Nat) (A3 : Option Addr) (n3 c3 : Nat) (A4 : Option Addr) (n4 c4 : Nat) (A5 : Option Addr) (n5 c5 : Nat) (A6 : Option Addr) (n6 c6 : Nat) (A7 : Option Addr) (n7 c7 : Nat) (A8 : Option Addr) (n8 c8 : Nat) (x : DFunc) (w : World) (h : FnW w w.heap.size s b A0 n0 c0 A1 n1 c1 A2 n2 c2 A3 n3 c3 A4 n4 c4 A5 n5 c5 A6 n6 c6 A7 n7 c7 A8 n8 c8 x) : Calls Tryz.prog 106 #[.agg #[.string s, .bool b, .slice A0 n0 c0, .slice A1 n1 c1, .slice A2 n2 c2, .slice A3 n3 c3, .slice A4 n4 c4, .slice A5 n5 c5, .slice A6 n6 c6, .slice A7 n7 c7, .slice A8 n8 c8]] w (IsTRow (n1 + n2 + n3) (slotsM x) w) := by
 obtain ⟨i0, hi, hz0, hz1, hz2⟩ := info_parts info_ty
 obtain ⟨w1, hw1⟩ : ∃ w1, w.alloc (.cells #[.string s, .bool b, .slice A0 n0 c0, .slice A1 n1 c1, .slice A2 n2 c2, .slice A3 n3 c3, .slice A4 n4 c4, .slice A5 n5 c5, .slice A6 n6 c6, .slice A7 n7 c7, .slice A8 n8 c8] 38) = w1 := ⟨_, rfl⟩
 obtain ⟨g, hg⟩ : ∃ g, w.heap.size = g := ⟨_, rfl⟩
 have b1 : Below w.heap.size w w1 := by rw [← hw1]; exact bl_one _
 have hc : Cells w1 g #[.string s, .bool b, .slice A0 n0 c0, .slice A1 n1 c1, .slice A2 n2 c2, .slice A3 n3 c3, .slice A4 n4 c4, .slice A5 n5 c5, .slice A6 n6 c6, .slice A7 n7 c7, .slice A8 n8 c8].toList := by rw [← hw1, ← hg]; exact Cells.new w #[.string s, .bool b, .slice A0 n0 c0, .slice A1 n1 c1, .slice A2 n2 c2, .slice A3 n3 c3, .slice A4 n4 c4, .slice A5 n5 c5, .slice A6 n6 c6, .slice A7 n7 c7, .slice A8 n8 c8].toList _
 have h1 := (h.keep b1).more b1.size
 obtain ⟨_, _, _, _, _, hsm⟩ := h.sm
 have S1 := src_sl h1.r1 (Nat.le_refl _)
 have S2 := src_sl h1.r2 (Nat.le_refl _)
 have S3 := src_sl h1.r3 (Nat.le_refl _)
 have HB := Hd b1
 have hx : Hid (slotsM x = (x.params.flatMap iC ++ x.results.flatMap iC) ++ x.locals.flatMap iC) := Hd rfl
 rw [hx.out]
 have O1 := Hd (one_ty x.params)
 have O2 := Hd (one_ty x.results)
 have O3 := Hd (one_ty x.locals)
 generalize x.params.flatMap iC = xs at *
 generalize x.results.flatMap iC = ys at *
 generalize x.locals.flatMap iC = zs at *
 have y3 := hc.at_ 3 _ rfl
 have HC := Hd hc
 have HZ : Hid (w.heap.size ≤ w1.heap.size) := Hd b1.size
 clear b1 hc h1 h hx
 go_in
 go_wp2_with (first
   | (at_builtin; (refine wpList_append_src _ rfl _ _ 32 rfl w1.heap.size 40 i0 (.int .i64 0) 1 8 Tryz.underlying32 hi hz0 hz1 hz2 rfl (by decide) _ _ _ rfl (World.ownsRow_nil _ _ _ _) A1 n1 c1 xs rfl (S1.out _ (Below.refl _ _)) O1.out (by unfold maxLen; omega) (by omega) (Nat.le_refl _) ?_)
      intro v1 w2 hown1 hgrow1 hat1
      rw [List.nil_append, Nat.zero_add] at hown1
      obtain ⟨B1, d1, rfl, o1, b1⟩ := app2 (Below.refl _ _) hown1 hgrow1 (fun j hj => by cases hj)
      have P1 := Hd o1
      have B1' := Hd b1
      have hs1 := B1'.out.size
      have y4 := (HC.out.on b1).at_ 4 _ rfl
      clear hown1 hgrow1 hat1 o1 b1)
   | (at_builtin; (refine wpList_append_src _ rfl _ _ 32 rfl w1.heap.size 40 i0 (.int .i64 0) 1 8 Tryz.underlying32 hi hz0 hz1 hz2 rfl (by decide) _ _ _ rfl P1.out A2 n2 c2 ys rfl (S2.out _ B1'.out) O2.out (by unfold maxLen; omega) (by omega) hs1 ?_)
      intro v2 w3 hown2 hgrow2 hat2
      obtain ⟨B2, d2, rfl, o2, b2⟩ := app2 B1'.out hown2 hgrow2 (fun j hj => (P1.out.lt j hj).1)
      have P2 := Hd o2
      have B2' := Hd b2
      have hs2 := B2'.out.size
      have y5 := (HC.out.on b2).at_ 5 _ rfl
      clear hown2 hgrow2 hat2 o2 b2)
   | (at_builtin; (refine wpList_append_src _ rfl _ _ 32 rfl w1.heap.size 40 i0 (.int .i64 0) 1 8 Tryz.underlying32 hi hz0 hz1 hz2 rfl (by decide) _ _ _ rfl P2.out A3 n3 c3 zs rfl (S3.out _ B2'.out) O3.out (by unfold maxLen; omega) (by omega) hs2 ?_)
      intro v3 w4 hown3 hgrow3 hat3
      obtain ⟨B3, d3, rfl, o3, b3⟩ := app2 B2'.out hown3 hgrow3 (fun j hj => (P2.out.lt j hj).1)
      have P3 := Hd o3
      have B3' := Hd b3
      clear hown3 hgrow3 hat3 o3 b3)
   | fail)
 go_ret
 exact ⟨_, _, rfl, by have h3 := own_less P3.out HZ.out; rw [List.append_assoc] at h3; exact h3, bl_trans HB.out HB.out.size B3'.out⟩
theorem sli_types {w : World} {base : Nat} {A : Option Addr} {n c : Nat} {x : DFunc} (h : w.ownsRow base 40 1 (.slice A n c) n (slotsM x)) (hb : n ≤ 100000) : SlI w w.heap.size A n c (x.params ++ x.results ++ x.locals) := by
 have e : slotsM x = (x.params ++ x.results ++ x.locals).flatMap fun x => [Value.int .i64 x] := by
  unfold slotsM
  rw [List.flatMap_append, List.flatMap_append]
  rfl
 rw [e] at h
 exact SlR.of_ownN (sz := 1) (bytes := 8) (f := fun x => [Value.int .i64 x]) (fun _ => rfl) (by omega) h (by unfold reachBytes; omega)
end
end Go.Proofs.YtobmjnmcjddhcaaGreat
