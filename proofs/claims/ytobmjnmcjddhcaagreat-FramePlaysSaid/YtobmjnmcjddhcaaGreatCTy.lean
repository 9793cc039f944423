import Derived.Test.YtobmjnmcjddhcaaGreatCFi3
set_option linter.unusedSimpArgs false
set_option linter.unusedVariables false
set_option maxRecDepth 100000
set_option maxHeartbeats 4000000
namespace Go.Proofs.YtobmjnmcjddhcaaGreat
open Go.RowKit
theorem info_ty : (Tryz.prog.info? 40).map (fun i => (i.zero, i.size, i.bytes)) = some (some (.int .i64 0), 1, 8) := by kernel_rfl
def iC (x : Int) : List Value := [.int .i64 x]
def IsTRow (n : Nat) (cells : List Value) (w : World) (e : Ending) (w' : World) : Prop := ∃ A c, e = .returned (.slice A n c) ∧ w'.ownsRow w.heap.size 40 1 (.slice A n c) n cells ∧ Below w.heap.size w w'
theorem app2 {w w1 w3 : World} {k N c : Nat} {A : Option Addr} {ys : List Value} {v' : Value} (hb : Below w.heap.size w w1) (hown' : w3.ownsRow w.heap.size 40 1 v' N ys) (hgrow : w1.grownBy w3 (Value.slice A k c).ownBlock) (hlt : ∀ j, (Value.slice A k c).ownBlock = some j → w.heap.size ≤ j) :
  ∃ A' c', v' = .slice A' N c' ∧ w3.ownsRow w.heap.size 40 1 (.slice A' N c') N ys ∧ Below w.heap.size w w3 := by
 obtain ⟨A', c', hv, _⟩ := own_form hown'
 subst hv
 exact ⟨A', c', rfl, hown', Below.grown hb hgrow hb.size hlt⟩
theorem src_sl {w : World} {B : Nat} {A : Option Addr} {n c : Nat} {xs : List Int} (h : SlI w B A n c xs) (hB : B ≤ w.heap.size) : Hid (∀ W, Below w.heap.size w W → SrcCells W A n 1 (xs.flatMap iC)) :=
 Lib.hid fun W hW => SlR.src (f := iC) (fun _ => rfl) (h.keep hW hB)
theorem one_ty (xs : List Int) : ∀ u ∈ xs.flatMap iC, u.oneCell' = true := fun u hu => by
 obtain ⟨x, _, hx⟩ := List.mem_flatMap.1 hu
 simp [iC] at hx
 subst hx
 rfl
def slotsM (x : DFunc) : List Value := (x.params.flatMap iC ++ x.results.flatMap iC) ++ x.locals.flatMap iC
theorem rslots_any (s : ByteArray) (b : Bool) (A0 : Option Addr) (n0 c0 : Nat) (A1 : Option Addr) (n1 c1 : Nat) (A2 : Option Addr) (n2 c2 : Nat) (A3 : Option Addr) (n3 c3 : Nat) (A4 : Option Addr) (n4 c4 : Nat) (A5 : Option Addr) (n5 c5 : Nat) (A6 : Option Addr) (n6 c6 : Nat) (A7 : Option Addr) (n7 c7 : Nat) (A8 : Option Addr) (n8 c8 : Nat) (x : DFunc) (w : World) (h : FnW w w.heap.size s b A0 n0 c0 A1 n1 c1 A2 n2 c2 A3 n3 c3 A4 n4 c4 A5 n5 c5 A6 n6 c6 A7 n7 c7 A8 n8 c8 x) : Calls Tryz.prog 106 #[.agg #[.string s, .bool b, .slice A0 n0 c0, .slice A1 n1 c1, .slice A2 n2 c2, .slice A3 n3 c3, .slice A4 n4 c4, .slice A5 n5 c5, .slice A6 n6 c6, .slice A7 n7 c7, .slice A8 n8 c8]] w (IsTRow (n1 + n2 + n3) (slotsM x) w) := by
 obtain ⟨i0, hi, hz0, hz1, hz2⟩ := info_parts info_ty
 obtain ⟨w1, hw1⟩ : ∃ w1, w.alloc (.cells #[.string s, .bool b, .slice A0 n0 c0, .slice A1 n1 c1, .slice A2 n2 c2, .slice A3 n3 c3, .slice A4 n4 c4, .slice A5 n5 c5, .slice A6 n6 c6, .slice A7 n7 c7, .slice A8 n8 c8] 38) = w1 := ⟨_, rfl⟩
 obtain ⟨g, hg⟩ : ∃ g, w.heap.size = g := ⟨_, rfl⟩
 have b1 : Below w.heap.size w w1 := by rw [← hw1]; exact bl_one _
 have hc : Cells w1 g #[.string s, .bool b, .slice A0 n0 c0, .slice A1 n1 c1, .slice A2 n2 c2, .slice A3 n3 c3, .slice A4 n4 c4, .slice A5 n5 c5, .slice A6 n6 c6, .slice A7 n7 c7, .slice A8 n8 c8].toList := by rw [← hw1, ← hg]; exact Cells.new w #[.string s, .bool b, .slice A0 n0 c0, .slice A1 n1 c1, .slice A2 n2 c2, .slice A3 n3 c3, .slice A4 n4 c4, .slice A5 n5 c5, .slice A6 n6 c6, .slice A7 n7 c7, .slice A8 n8 c8].toList _
 have h1 := (h.keep b1).more b1.size
 obtain ⟨_, _, _, _, _, hsm⟩ := h.sm
 have S1 := src_sl h1.r1 (Nat.le_refl _)
 have S2 := src_sl h1.r2 (Nat.le_refl _)
 have S3 := src_sl h1.r3 (Nat.le_refl _)
 have HB := Lib.hid b1
 have hx : Hid (slotsM x = (x.params.flatMap iC ++ x.results.flatMap iC) ++ x.locals.flatMap iC) := Lib.hid rfl
 rw [hx.out]
 have O1 := Lib.hid (one_ty x.params)
 have O2 := Lib.hid (one_ty x.results)
 have O3 := Lib.hid (one_ty x.locals)
 generalize x.params.flatMap iC = xs at *
 generalize x.results.flatMap iC = ys at *
 generalize x.locals.flatMap iC = zs at *
 have y3 := hc.at_ 3 _ rfl
 have HC := Lib.hid hc
 have HZ : Hid (w.heap.size ≤ w1.heap.size) := Lib.hid b1.size
 clear b1 hc h1 h hx
 go_enter Tryz.func106, Tryz.ntmps106
 go_wp2_with (first
   | (at_builtin; (refine wpList_append_src _ rfl _ _ 32 rfl w1.heap.size 40 i0 (.int .i64 0) 1 8 Tryz.underlying32 hi hz0 hz1 hz2 rfl (by decide) _ _ _ rfl (World.ownsRow_nil _ _ _ _) A1 n1 c1 xs rfl (S1.out _ (Below.refl _ _)) O1.out (by unfold maxLen; omega) (by omega) (Nat.le_refl _) ?_)
      intro v1 w2 hown1 hgrow1 hat1
      rw [List.nil_append, Nat.zero_add] at hown1
      obtain ⟨B1, d1, rfl, o1, b1⟩ := app2 (Below.refl _ _) hown1 hgrow1 (fun j hj => by cases hj)
      have P1 := Lib.hid o1
      have B1' := Lib.hid b1
      have hs1 := B1'.out.size
      have y4 := (HC.out.on b1).at_ 4 _ rfl
      clear hown1 hgrow1 hat1 o1 b1)
   | (at_builtin; (refine wpList_append_src _ rfl _ _ 32 rfl w1.heap.size 40 i0 (.int .i64 0) 1 8 Tryz.underlying32 hi hz0 hz1 hz2 rfl (by decide) _ _ _ rfl P1.out A2 n2 c2 ys rfl (S2.out _ B1'.out) O2.out (by unfold maxLen; omega) (by omega) hs1 ?_)
      intro v2 w3 hown2 hgrow2 hat2
      obtain ⟨B2, d2, rfl, o2, b2⟩ := app2 B1'.out hown2 hgrow2 (fun j hj => (P1.out.lt j hj).1)
      have P2 := Lib.hid o2
      have B2' := Lib.hid b2
      have hs2 := B2'.out.size
      have y5 := (HC.out.on b2).at_ 5 _ rfl
      clear hown2 hgrow2 hat2 o2 b2)
   | (at_builtin; (refine wpList_append_src _ rfl _ _ 32 rfl w1.heap.size 40 i0 (.int .i64 0) 1 8 Tryz.underlying32 hi hz0 hz1 hz2 rfl (by decide) _ _ _ rfl P2.out A3 n3 c3 zs rfl (S3.out _ B2'.out) O3.out (by unfold maxLen; omega) (by omega) hs2 ?_)
      intro v3 w4 hown3 hgrow3 hat3
      obtain ⟨B3, d3, rfl, o3, b3⟩ := app2 B2'.out hown3 hgrow3 (fun j hj => (P2.out.lt j hj).1)
      have P3 := Lib.hid o3
      have B3' := Lib.hid b3
      clear hown3 hgrow3 hat3 o3 b3)
   | fail)
 go_ret
 exact ⟨_, _, rfl, by have h3 := own_less P3.out HZ.out; rw [List.append_assoc] at h3; exact h3, bl_trans HB.out HB.out.size B3'.out⟩
theorem sli_types {w : World} {base : Nat} {A : Option Addr} {n c : Nat} {x : DFunc} (h : w.ownsRow base 40 1 (.slice A n c) n (slotsM x)) (hb : n ≤ 100000) : SlI w w.heap.size A n c (x.params ++ x.results ++ x.locals) := by
 have e : slotsM x = (x.params ++ x.results ++ x.locals).flatMap fun x => [Value.int .i64 x] := by
  unfold slotsM
  rw [List.flatMap_append, List.flatMap_append]
  rfl
 rw [e] at h
 exact SlR.of_ownN (sz := 1) (bytes := 8) (f := fun x => [Value.int .i64 x]) (fun _ => rfl) (by omega) h (by unfold reachBytes; omega)
end Go.Proofs.YtobmjnmcjddhcaaGreat
