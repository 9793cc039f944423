/-
  Pieces of bodies: the beginning, the end.
-/
import Derived.Test.YthfdmpcnebjkjaaPc1
import Derived.Test.YthfdmpcnebjkjaaCn4
namespace Go.Proofs.Ythfdmpcnebjkjaa
open Go.RowKit
set_option linter.unusedSimpArgs false
set_option linter.unusedVariables false
def begC (np : Nat) (ss : Int) (j : Nat) : List DInstr := (List.range j).map fun i : Nat => ⟨3, wrap64 (ss + ((np : Int) - 1 - (i : Int)))⟩
theorem begC_next (np : Nat) (ss : Int) (j : Nat) {x : Int} (hx : x = (np : Int) - 1 - (j : Int)) : begC np ss j ++ [⟨3, wrap64 (ss + x)⟩] = begC np ss (j + 1) := by
  unfold begC
  rw [List.range_succ, List.map_append, hx]
  rfl
theorem rep_next (v : Int) (j : Nat) : List.replicate j v ++ [v] = List.replicate (j + 1) v := List.replicate_succ'.symm
/-- The two boxes. -/
structure TwoB (w : World) (g : Nat) (s : ByteArray) (b : Bool) (A0 : Option Addr) (n0 c0 : Nat) (A1 : Option Addr) (n1 c1 : Nat) (A2 : Option Addr) (n2 c2 : Nat) (A3 : Option Addr) (n3 c3 : Nat) (A4 : Option Addr) (n4 c4 : Nat) (A5 : Option Addr) (n5 c5 : Nat) (A6 : Option Addr) (n6 c6 : Nat) (A7 : Option Addr) (n7 c7 : Nat) (A8 : Option Addr) (n8 c8 : Nat) (sa sn ss sp sl : Int) (W : World) : Prop where
  a : Cells W g #[.string s, .bool b, .slice A0 n0 c0, .slice A1 n1 c1, .slice A2 n2 c2, .slice A3 n3 c3, .slice A4 n4 c4, .slice A5 n5 c5, .slice A6 n6 c6, .slice A7 n7 c7, .slice A8 n8 c8].toList
  b : Cells W (g + 1) #[.int .i64 sa, .int .i64 sn, .int .i64 ss, .int .i64 sp, .int .i64 sl].toList
theorem TwoB.new (w : World) (s : ByteArray) (b : Bool) (A0 : Option Addr) (n0 c0 : Nat) (A1 : Option Addr) (n1 c1 : Nat) (A2 : Option Addr) (n2 c2 : Nat) (A3 : Option Addr) (n3 c3 : Nat) (A4 : Option Addr) (n4 c4 : Nat) (A5 : Option Addr) (n5 c5 : Nat) (A6 : Option Addr) (n6 c6 : Nat) (A7 : Option Addr) (n7 c7 : Nat) (A8 : Option Addr) (n8 c8 : Nat) (sa sn ss sp sl : Int) : TwoB w w.heap.size s b A0 n0 c0 A1 n1 c1 A2 n2 c2 A3 n3 c3 A4 n4 c4 A5 n5 c5 A6 n6 c6 A7 n7 c7 A8 n8 c8 sa sn ss sp sl ((w.alloc (.cells #[.string s, .bool b, .slice A0 n0 c0, .slice A1 n1 c1, .slice A2 n2 c2, .slice A3 n3 c3, .slice A4 n4 c4, .slice A5 n5 c5, .slice A6 n6 c6, .slice A7 n7 c7, .slice A8 n8 c8] 28)).alloc (.cells #[.int .i64 sa, .int .i64 sn, .int .i64 ss, .int .i64 sp, .int .i64 sl] 30)) := by
  have h1 := Cells.new w #[.string s, .bool b, .slice A0 n0 c0, .slice A1 n1 c1, .slice A2 n2 c2, .slice A3 n3 c3, .slice A4 n4 c4, .slice A5 n5 c5, .slice A6 n6 c6, .slice A7 n7 c7, .slice A8 n8 c8].toList 28
  have h2 := Cells.new (w.alloc (.cells #[.string s, .bool b, .slice A0 n0 c0, .slice A1 n1 c1, .slice A2 n2 c2, .slice A3 n3 c3, .slice A4 n4 c4, .slice A5 n5 c5, .slice A6 n6 c6, .slice A7 n7 c7, .slice A8 n8 c8] 28)) #[.int .i64 sa, .int .i64 sn, .int .i64 ss, .int .i64 sp, .int .i64 sl].toList 30
  have e : (w.alloc (.cells #[.string s, .bool b, .slice A0 n0 c0, .slice A1 n1 c1, .slice A2 n2 c2, .slice A3 n3 c3, .slice A4 n4 c4, .slice A5 n5 c5, .slice A6 n6 c6, .slice A7 n7 c7, .slice A8 n8 c8] 28)).heap.size = w.heap.size + 1 := by simp
  rw [e] at h2
  exact ⟨h1.on (bl_one _), h2⟩
theorem TwoB.kp {w W W' : World} {g : Nat} {s : ByteArray} {b : Bool} {A0 : Option Addr} {n0 c0 : Nat} {A1 : Option Addr} {n1 c1 : Nat} {A2 : Option Addr} {n2 c2 : Nat} {A3 : Option Addr} {n3 c3 : Nat} {A4 : Option Addr} {n4 c4 : Nat} {A5 : Option Addr} {n5 c5 : Nat} {A6 : Option Addr} {n6 c6 : Nat} {A7 : Option Addr} {n7 c7 : Nat} {A8 : Option Addr} {n8 c8 : Nat} {sa sn ss sp sl : Int} (h : TwoB w g s b A0 n0 c0 A1 n1 c1 A2 n2 c2 A3 n3 c3 A4 n4 c4 A5 n5 c5 A6 n6 c6 A7 n7 c7 A8 n8 c8 sa sn ss sp sl W) {S : Nat → Prop} (hk : Kp S W W') (h1 : ¬ S g) (h2 : ¬ S (g + 1)) : TwoB w g s b A0 n0 c0 A1 n1 c1 A2 n2 c2 A3 n3 c3 A4 n4 c4 A5 n5 c5 A6 n6 c6 A7 n7 c7 A8 n8 c8 sa sn ss sp sl W' := ⟨h.a.kp hk h1, h.b.kp hk h2⟩
theorem two_below {w : World} {o o' : Obj} : Below w.heap.size w ((w.alloc o).alloc o') := ((Below.refl _ _).alloc (Nat.le_refl _) _).alloc (by simp) _
abbrev FG2 (F : Nat → Prop) (w w2 : World) : Nat → Prop := fun j => F j ∨ (w.heap.size ≤ j ∧ j < w2.heap.size)
set_option maxRecDepth 100000 in
set_option maxHeartbeats 16000000 in
theorem begin_any (base : Nat) (F : Nat → Prop) (pb : Nat) (v3 v4 : Value) (s : ByteArray) (b : Bool) (A0 : Option Addr) (n0 c0 : Nat) (A1 : Option Addr) (n1 c1 : Nat) (A2 : Option Addr) (n2 c2 : Nat) (A3 : Option Addr) (n3 c3 : Nat) (A4 : Option Addr) (n4 c4 : Nat) (A5 : Option Addr) (n5 c5 : Nat) (A6 : Option Addr) (n6 c6 : Nat) (A7 : Option Addr) (n7 c7 : Nat) (A8 : Option Addr) (n8 c8 : Nat) (sa sn ss sp sl : Int) (w : World) (h : PcW base F pb 0 [] [] [] v3 v4 w) (hF : ∀ j, F j → j < w.heap.size) (hn : n1 ≤ 300) :
    Calls Try.prog 23 #[.pointer (some ⟨pb, 0, none⟩), .agg #[.string s, .bool b, .slice A0 n0 c0, .slice A1 n1 c1, .slice A2 n2 c2, .slice A3 n3 c3, .slice A4 n4 c4, .slice A5 n5 c5, .slice A6 n6 c6, .slice A7 n7 c7, .slice A8 n8 c8], .agg #[.int .i64 sa, .int .i64 sn, .int .i64 ss, .int .i64 sp, .int .i64 sl]] w (IsPc base F pb (n1 + 1) (begC n1 ss n1 ++ [⟨33, sn⟩]) (List.replicate (n1 + 1) sl) (List.replicate (n1 + 1) sp) v3 v4 w) := by
  obtain ⟨w2, hw2⟩ : ∃ X, (w.alloc (.cells #[.string s, .bool b, .slice A0 n0 c0, .slice A1 n1 c1, .slice A2 n2 c2, .slice A3 n3 c3, .slice A4 n4 c4, .slice A5 n5 c5, .slice A6 n6 c6, .slice A7 n7 c7, .slice A8 n8 c8] 28)).alloc (.cells #[.int .i64 sa, .int .i64 sn, .int .i64 ss, .int .i64 sp, .int .i64 sl] 30) = X := ⟨_, rfl⟩
  obtain ⟨g, hg⟩ : ∃ g, w.heap.size = g := ⟨_, rfl⟩
  have hb2 : Below w.heap.size w w2 := by rw [← hw2]; exact two_below
  have ht : TwoB w g s b A0 n0 c0 A1 n1 c1 A2 n2 c2 A3 n3 c3 A4 n4 c4 A5 n5 c5 A6 n6 c6 A7 n7 c7 A8 n8 c8 sa sn ss sp sl w2 := by rw [← hw2, ← hg]; exact TwoB.new w s b A0 n0 c0 A1 n1 c1 A2 n2 c2 A3 n3 c3 A4 n4 c4 A5 n5 c5 A6 n6 c6 A7 n7 c7 A8 n8 c8 sa sn ss sp sl
  have hz2 : w2.heap.size = g + 2 := by rw [← hw2]; simp; omega
  have HP2 : Hid (PcW base (FG2 F w w2) pb 0 [] [] [] v3 v4 w2) := Lib.hid (h.widen hb2)
  have HKW : Hid (Kp (fun j => ¬ F j) w w2) := Lib.hid ((Kp.refl _ w).ofBelow hb2)
  have HQ : Hid (∀ W, Kp (fun j => ¬ FG2 F w w2 j) w2 W → W.cell? ⟨g, 3, none⟩ = some (.slice A1 n1 c1) ∧ W.cell? ⟨g, 4, none⟩ = some (.slice A2 n2 c2) ∧ W.cell? ⟨g + 1, 1, none⟩ = some (.int .i64 sn) ∧ W.cell? ⟨g + 1, 2, none⟩ = some (.int .i64 ss) ∧ W.cell? ⟨g + 1, 3, none⟩ = some (.int .i64 sp) ∧ W.cell? ⟨g + 1, 4, none⟩ = some (.int .i64 sl)) := Lib.hid fun W hW => by
    have h3 := ht.kp hW (fun h => h (.inr ⟨by omega, by omega⟩)) (fun h => h (.inr ⟨by omega, by omega⟩))
    exact ⟨h3.a.at_ 3 _ rfl, h3.a.at_ 4 _ rfl, h3.b.at_ 1 _ rfl, h3.b.at_ 2 _ rfl, h3.b.at_ 3 _ rfl, h3.b.at_ 4 _ rfl⟩
  obtain ⟨a3, a4, b1, b2, b3, b4⟩ := HQ.out w2 (Kp.refl _ _)
  clear h hb2 ht hz2 hF
  have k1 : (n1 : Int) ≤ 300 := by omega
  have p1 : (0 : Int) ≤ (n1 : Int) := by omega
  go_enter Try.func23, Try.ntmps23
  go_wp2_with fail
  clear a3 a4 b1 b2 b3 b4 hw2 hg
  go_loopw [6] (fun iv wr => ∃ (j : Nat) (x : Int), iv = .int .i64 x ∧ x = (n1 : Int) - 1 - (j : Int) ∧ j ≤ n1 ∧ Hid (PcW base (FG2 F w w2) pb j (begC n1 ss j) (List.replicate j sl) (List.replicate j sp) v3 v4 wr ∧ Kp (fun j => ¬ FG2 F w w2 j) w2 wr)) (fun iv _ => (intOf iv + 1).toNat)
  case atStart => exact ⟨0, (n1 : Int) - 1, rfl, by omega, Nat.zero_le _, Lib.hid ⟨HP2.out, Kp.refl _ _⟩⟩
  case round =>
    obtain ⟨j, x, rfl, hx, hj, HK⟩ := hrel
    have HX := Lib.hid hx
    have hx0 : -1 ≤ x := by omega
    have hx1 : x ≤ 300 := by omega
    obtain ⟨a3, a4, b1, b2, b3, b4⟩ := HQ.out wr HK.out.2
    by_cases hlt : j < n1
    · have hge : 0 ≤ x := by omega
      obtain ⟨lb, hlb⟩ : ∃ X, wr.heap.size = X := ⟨_, rfl⟩
      obtain ⟨wa, hwa⟩ : ∃ X, wr.alloc (.cells #[.int .i64 3, .int .i64 (wrap64 (ss + x))] 49) = X := ⟨_, rfl⟩
      have cL := Lib.hid (line_new sl sp 3 (wrap64 (ss + x)) wr HK.out.1 (by omega))
      rw [hlb, hwa] at cL
      clear hx
      go_wp2_with fail
      refine cL.out.mono ?_
      rintro e w3 ⟨⟨v, rfl⟩, hp3, hk3⟩
      have HN : Hid (PcW base (FG2 F w w2) pb (j + 1) (begC n1 ss (j + 1)) (List.replicate (j + 1) sl) (List.replicate (j + 1) sp) v3 v4 w3 ∧ Kp (fun j => ¬ FG2 F w w2 j) w2 w3) := Lib.hid ⟨by
        rw [begC_next _ _ _ HX.out, rep_next, rep_next] at hp3
        exact hp3, HK.out.2.trans hk3⟩
      clear hp3 hk3 cL HK hwa hlb a3 a4 b1 b2 b3 b4
      go_wp2_with fail
      go_roundw
      case rel => exact ⟨j + 1, x - 1, by go_num, by have := HX.out; omega, by omega, HN⟩
      case measure => simp [intOf]; omega
    · obtain rfl : j = n1 := by omega
      have hge : ¬ 0 ≤ x := by omega
      obtain ⟨lb, hlb⟩ : ∃ X, wr.heap.size = X := ⟨_, rfl⟩
      obtain ⟨wa, hwa⟩ : ∃ X, wr.alloc (.cells #[.int .i64 33, .int .i64 sn] 49) = X := ⟨_, rfl⟩
      have cL := Lib.hid (line_new sl sp 33 sn wr HK.out.1 (by omega))
      rw [hlb, hwa, rep_next, rep_next] at cL
      clear hx
      go_wp2_with fail
      refine cL.out.mono ?_
      rintro e w3 ⟨⟨v, rfl⟩, hp3, hk3⟩
      have HN : Hid (IsPc base F pb (j + 1) (begC j ss j ++ [⟨33, sn⟩]) (List.replicate (j + 1) sl) (List.replicate (j + 1) sp) v3 v4 w (.returned (.tuple #[])) w3) := Lib.hid ⟨⟨_, rfl⟩, hp3.less fun j hj => .inl hj, HKW.out.trans ((HK.out.2.trans hk3).less fun j hj => .inl hj)⟩
      clear hp3 hk3 cL HK hwa hlb a3 a4 b1 b2 b3 b4
      go_wp2_with fail
      go_end0
      exact HN.out
end Go.Proofs.Ythfdmpcnebjkjaa
