/-
  Pieces of bodies: the piece of a function.
-/
import Derived.Test.YthfdmpcnebjkjaaPc5
import Derived.Test.YthfdmpcnebjkjaaPc6
namespace Go.Proofs.Ythfdmpcnebjkjaa
open Go.RowKit
set_option linter.unusedSimpArgs false
set_option linter.unusedVariables false
def codeL (x : DFunc) (sa sn ss : Int) (n1 n2 : Nat) : List DInstr := begC n1 ss n1 ++ [⟨33, sn⟩] ++ bodyC (placeM (fromM sa n1) 2000) ss sn x.code ++ endC n1 ss n2
def lineL (x : DFunc) (sl : Int) (n1 n2 n4 : Nat) : List Int := List.replicate (n1 + 1) sl ++ lnU x.lines n4 ++ List.replicate n2 sl
def atL (x : DFunc) (sn sp : Int) (n1 n2 n4 : Nat) : List Int := List.replicate (n1 + 1) sp ++ atU x sn n4 ++ List.replicate n2 sp
def firstM (x : DFunc) (gi sa ss sp sl : Int) (n1 n2 n3 n4 : Nat) : DNode := ⟨sp, gi, sl, ss, (n1 : Int), wrap64 (ss + ownM x (n1 + n2 + n3)), wrap64 (sa + ((n1 + 1 + n4 : Nat) : Int))⟩
def nodeL (x : DFunc) (gi sa sn ss sp sl : Int) (n1 n2 n3 n4 : Nat) : List DNode := firstM x gi sa ss sp sl n1 n2 n3 n4 :: treeM sn ss (fromM sa n1) x.nodes
def IsBd (x : DFunc) (gi sa sn ss sp sl : Int) (n1 n2 n3 n4 n6 : Nat) (w : World) (e : Ending) (w' : World) : Prop :=
  ∃ A0 c0 A1 c1 A2 c2 A3 c3 A4 c4, e = .returned (.agg #[.slice A0 (n1 + 1 + n4 + n2) c0, .slice A1 (n1 + 1 + n4 + n2) c1, .slice A2 (n1 + 1 + n4 + n2) c2, .slice A3 (1 + (n6 - 1)) c3, .slice A4 (n1 + n2 + n3) c4]) ∧
    w'.ownsRow w.heap.size 49 2 (.slice A0 (n1 + 1 + n4 + n2) c0) (n1 + 1 + n4 + n2) ((codeL x sa sn ss n1 n2).flatMap cellsI) ∧ w'.ownsRow w.heap.size 3 1 (.slice A1 (n1 + 1 + n4 + n2) c1) (n1 + 1 + n4 + n2) (rowI (lineL x sl n1 n2 n4)) ∧ w'.ownsRow w.heap.size 3 1 (.slice A2 (n1 + 1 + n4 + n2) c2) (n1 + 1 + n4 + n2) (rowI (atL x sn sp n1 n2 n4)) ∧
    w'.ownsRow w.heap.size 58 7 (.slice A3 (1 + (n6 - 1)) c3) (1 + (n6 - 1)) ((nodeL x gi sa sn ss sp sl n1 n2 n3 n4).flatMap cellsN) ∧ w'.ownsRow w.heap.size 56 1 (.slice A4 (n1 + n2 + n3) c4) (n1 + n2 + n3) (slotsM x) ∧ Below w.heap.size w w'
abbrev FB (g : Nat) : Nat → Prop := fun j => j < g + 3
theorem oneN (xs : List DNode) : ∀ u ∈ xs.flatMap cellsN, u.oneCell' = true := fun u hu => by
  obtain ⟨x, _, hx⟩ := List.mem_flatMap.1 hu
  simp [cellsN] at hx
  rcases hx with rfl | rfl | rfl | rfl | rfl | rfl | rfl <;> rfl
def S5 (nb : Nat) (w7 W : World) : Prop := Kp (fun j => j = nb) w7 W
set_option maxRecDepth 100000 in
set_option maxHeartbeats 64000000 in
theorem bd_any (gi : Int) (s : ByteArray) (b : Bool) (A0 : Option Addr) (n0 c0 : Nat) (A1 : Option Addr) (n1 c1 : Nat) (A2 : Option Addr) (n2 c2 : Nat) (A3 : Option Addr) (n3 c3 : Nat) (A4 : Option Addr) (n4 c4 : Nat) (A5 : Option Addr) (n5 c5 : Nat) (A6 : Option Addr) (n6 c6 : Nat) (A7 : Option Addr) (n7 c7 : Nat) (A8 : Option Addr) (n8 c8 : Nat) (sa sn ss sp sl : Int) (x : DFunc) (w : World) (hfn : FnW w w.heap.size s b A0 n0 c0 A1 n1 c1 A2 n2 c2 A3 n3 c3 A4 n4 c4 A5 n5 c5 A6 n6 c6 A7 n7 c7 A8 n8 c8 x) :
    Calls Try.prog 8 #[.int .i64 gi, .agg #[.string s, .bool b, .slice A0 n0 c0, .slice A1 n1 c1, .slice A2 n2 c2, .slice A3 n3 c3, .slice A4 n4 c4, .slice A5 n5 c5, .slice A6 n6 c6, .slice A7 n7 c7, .slice A8 n8 c8], .agg #[.int .i64 sa, .int .i64 sn, .int .i64 ss, .int .i64 sp, .int .i64 sl]] w (IsBd x gi sa sn ss sp sl n1 n2 n3 n4 n6 w) := by
  obtain ⟨s4, s5, s6, s7, s8, s0⟩ := hfn.sm
  obtain ⟨w4, hw4⟩ : ∃ X, ((((w.alloc (.cells #[.string s, .bool b, .slice A0 n0 c0, .slice A1 n1 c1, .slice A2 n2 c2, .slice A3 n3 c3, .slice A4 n4 c4, .slice A5 n5 c5, .slice A6 n6 c6, .slice A7 n7 c7, .slice A8 n8 c8] 28)).alloc (.cells #[.int .i64 sa, .int .i64 sn, .int .i64 ss, .int .i64 sp, .int .i64 sl] 30)).alloc (.cells #[.slice none 0 0, .slice none 0 0, .slice none 0 0, .slice none 0 0, .slice none 0 0] 36)).alloc (.cells #[.slice none 0 0, .slice none 0 0, .slice none 0 0, .slice none 0 0, .slice none 0 0] 36)) = X := ⟨_, rfl⟩
  obtain ⟨g, hg⟩ : ∃ g, w.heap.size = g := ⟨_, rfl⟩
  have ht2 : TwoB w g s b A0 n0 c0 A1 n1 c1 A2 n2 c2 A3 n3 c3 A4 n4 c4 A5 n5 c5 A6 n6 c6 A7 n7 c7 A8 n8 c8 sa sn ss sp sl ((w.alloc (.cells #[.string s, .bool b, .slice A0 n0 c0, .slice A1 n1 c1, .slice A2 n2 c2, .slice A3 n3 c3, .slice A4 n4 c4, .slice A5 n5 c5, .slice A6 n6 c6, .slice A7 n7 c7, .slice A8 n8 c8] 28)).alloc (.cells #[.int .i64 sa, .int .i64 sn, .int .i64 ss, .int .i64 sp, .int .i64 sl] 30)) := by rw [← hg]; exact TwoB.new w s b A0 n0 c0 A1 n1 c1 A2 n2 c2 A3 n3 c3 A4 n4 c4 A5 n5 c5 A6 n6 c6 A7 n7 c7 A8 n8 c8 sa sn ss sp sl
  have hb24 : Below ((w.alloc (.cells #[.string s, .bool b, .slice A0 n0 c0, .slice A1 n1 c1, .slice A2 n2 c2, .slice A3 n3 c3, .slice A4 n4 c4, .slice A5 n5 c5, .slice A6 n6 c6, .slice A7 n7 c7, .slice A8 n8 c8] 28)).alloc (.cells #[.int .i64 sa, .int .i64 sn, .int .i64 ss, .int .i64 sp, .int .i64 sl] 30)).heap.size ((w.alloc (.cells #[.string s, .bool b, .slice A0 n0 c0, .slice A1 n1 c1, .slice A2 n2 c2, .slice A3 n3 c3, .slice A4 n4 c4, .slice A5 n5 c5, .slice A6 n6 c6, .slice A7 n7 c7, .slice A8 n8 c8] 28)).alloc (.cells #[.int .i64 sa, .int .i64 sn, .int .i64 ss, .int .i64 sp, .int .i64 sl] 30)) w4 := by rw [← hw4]; exact two_below
  have ht4 : TwoB w g s b A0 n0 c0 A1 n1 c1 A2 n2 c2 A3 n3 c3 A4 n4 c4 A5 n5 c5 A6 n6 c6 A7 n7 c7 A8 n8 c8 sa sn ss sp sl w4 := ht2.kp ((Kp.refl (fun _ => False) _).ofBelow hb24) id id
  have hb4 : Below w.heap.size w w4 := by rw [← hw4]; exact two_below.trans (two_below.mono (by simp; omega))
  have hz4 : w4.heap.size = g + 4 := by rw [← hw4]; simp; omega
  have hc3 : Cells w4 (g + 3) #[.slice none 0 0, .slice none 0 0, .slice none 0 0, .slice none 0 0, .slice none 0 0].toList := by
    have h2 := Cells.new (((w.alloc (.cells #[.string s, .bool b, .slice A0 n0 c0, .slice A1 n1 c1, .slice A2 n2 c2, .slice A3 n3 c3, .slice A4 n4 c4, .slice A5 n5 c5, .slice A6 n6 c6, .slice A7 n7 c7, .slice A8 n8 c8] 28)).alloc (.cells #[.int .i64 sa, .int .i64 sn, .int .i64 ss, .int .i64 sp, .int .i64 sl] 30)).alloc (.cells #[.slice none 0 0, .slice none 0 0, .slice none 0 0, .slice none 0 0, .slice none 0 0] 36)) #[.slice none 0 0, .slice none 0 0, .slice none 0 0, .slice none 0 0, .slice none 0 0].toList 36
    have e : (((w.alloc (.cells #[.string s, .bool b, .slice A0 n0 c0, .slice A1 n1 c1, .slice A2 n2 c2, .slice A3 n3 c3, .slice A4 n4 c4, .slice A5 n5 c5, .slice A6 n6 c6, .slice A7 n7 c7, .slice A8 n8 c8] 28)).alloc (.cells #[.int .i64 sa, .int .i64 sn, .int .i64 ss, .int .i64 sp, .int .i64 sl] 30)).alloc (.cells #[.slice none 0 0, .slice none 0 0, .slice none 0 0, .slice none 0 0, .slice none 0 0] 36)).heap.size = g + 3 := by simp; omega
    rw [e] at h2
    rw [← hw4]
    exact h2
  have hc2 : Cells w4 (g + 2) #[.slice none 0 0, .slice none 0 0, .slice none 0 0, .slice none 0 0, .slice none 0 0].toList := by
    have h2 := Cells.new ((w.alloc (.cells #[.string s, .bool b, .slice A0 n0 c0, .slice A1 n1 c1, .slice A2 n2 c2, .slice A3 n3 c3, .slice A4 n4 c4, .slice A5 n5 c5, .slice A6 n6 c6, .slice A7 n7 c7, .slice A8 n8 c8] 28)).alloc (.cells #[.int .i64 sa, .int .i64 sn, .int .i64 ss, .int .i64 sp, .int .i64 sl] 30)) #[.slice none 0 0, .slice none 0 0, .slice none 0 0, .slice none 0 0, .slice none 0 0].toList 36
    have e : ((w.alloc (.cells #[.string s, .bool b, .slice A0 n0 c0, .slice A1 n1 c1, .slice A2 n2 c2, .slice A3 n3 c3, .slice A4 n4 c4, .slice A5 n5 c5, .slice A6 n6 c6, .slice A7 n7 c7, .slice A8 n8 c8] 28)).alloc (.cells #[.int .i64 sa, .int .i64 sn, .int .i64 ss, .int .i64 sp, .int .i64 sl] 30)).heap.size = g + 2 := by simp; omega
    rw [e] at h2
    rw [← hw4]
    exact h2.on (bl_one _)
  have HP4 : Hid (PcW (g + 4) (FB g) (g + 3) 0 [] [] [] (.slice none 0 0) (.slice none 0 0) w4) := Lib.hid ⟨none, 0, none, 0, none, 0, hc3, Rw.start (fun j hj => by rcases hj with hj | hj <;> (simp only [FB] at *; omega)) (by omega), by simp [FB]⟩
  have HRC := Lib.hid hc2
  have HB4 := Lib.hid hb4
  have HZ4 := Lib.hid hz4
  have HG := Lib.hid hg
  have EQ : Hid (∀ W, BK (FB g) w4 W → (W.cell? ⟨g, 0, none⟩ = some (.string s) ∧ W.cell? ⟨g, 1, none⟩ = some (.bool b) ∧ W.cell? ⟨g, 2, none⟩ = some (.slice A0 n0 c0) ∧ W.cell? ⟨g, 3, none⟩ = some (.slice A1 n1 c1) ∧ W.cell? ⟨g, 4, none⟩ = some (.slice A2 n2 c2) ∧ W.cell? ⟨g, 5, none⟩ = some (.slice A3 n3 c3) ∧ W.cell? ⟨g, 6, none⟩ = some (.slice A4 n4 c4) ∧ W.cell? ⟨g, 7, none⟩ = some (.slice A5 n5 c5) ∧ W.cell? ⟨g, 8, none⟩ = some (.slice A6 n6 c6) ∧ W.cell? ⟨g, 9, none⟩ = some (.slice A7 n7 c7) ∧ W.cell? ⟨g, 10, none⟩ = some (.slice A8 n8 c8)) ∧ W.cell? ⟨g + 1, 0, none⟩ = some (.int .i64 sa) ∧ W.cell? ⟨g + 1, 1, none⟩ = some (.int .i64 sn) ∧ W.cell? ⟨g + 1, 2, none⟩ = some (.int .i64 ss) ∧ W.cell? ⟨g + 1, 3, none⟩ = some (.int .i64 sp) ∧ W.cell? ⟨g + 1, 4, none⟩ = some (.int .i64 sl)) := Lib.hid fun W hW => by
    have h3 := ht4.kp hW (fun h => h (by simp only [FB]; omega)) (fun h => h (by simp only [FB]; omega))
    exact ⟨⟨h3.a.at_ 0 _ rfl, h3.a.at_ 1 _ rfl, h3.a.at_ 2 _ rfl, h3.a.at_ 3 _ rfl, h3.a.at_ 4 _ rfl, h3.a.at_ 5 _ rfl, h3.a.at_ 6 _ rfl, h3.a.at_ 7 _ rfl, h3.a.at_ 8 _ rfl, h3.a.at_ 9 _ rfl, h3.a.at_ 10 _ rfl⟩, h3.b.at_ 0 _ rfl, h3.b.at_ 1 _ rfl, h3.b.at_ 2 _ rfl, h3.b.at_ 3 _ rfl, h3.b.at_ 4 _ rfl⟩
  have HFN : Hid (∀ W, BK (FB g) w4 W → FnW W g s b A0 n0 c0 A1 n1 c1 A2 n2 c2 A3 n3 c3 A4 n4 c4 A5 n5 c5 A6 n6 c6 A7 n7 c7 A8 n8 c8 x ∧ g ≤ W.heap.size) := Lib.hid fun W hW => by
    have h1 := hfn.keep hb4
    rw [hg] at h1
    have hz := hW.size
    exact ⟨h1.bk (fun j hj => by simp only [FB]; omega) (by omega) hW, by omega⟩
  have HFM : Hid (∀ W, BK (FB g) w4 W → FnW W W.heap.size s b A0 n0 c0 A1 n1 c1 A2 n2 c2 A3 n3 c3 A4 n4 c4 A5 n5 c5 A6 n6 c6 A7 n7 c7 A8 n8 c8 x) := Lib.hid fun W hW => (HFN.out W hW).1.more (HFN.out W hW).2
  have k1 : (n1 : Int) ≤ 300 := by omega
  have p1 : (0 : Int) ≤ (n1 : Int) := by omega
  have k4 : (n4 : Int) ≤ 150 := by omega
  have cBg := Lib.hid (begin_any (g + 4) (FB g) (g + 3) (.slice none 0 0) (.slice none 0 0) s b A0 n0 c0 A1 n1 c1 A2 n2 c2 A3 n3 c3 A4 n4 c4 A5 n5 c5 A6 n6 c6 A7 n7 c7 A8 n8 c8 sa sn ss sp sl w4 HP4.out (fun j hj => by simp only [FB] at hj; omega) (by omega))
  obtain ⟨⟨e0, e1, e2, e3, e4, e5, e6, e7, e8, e9, e10⟩, b0, b1, b2, b3, b4⟩ := EQ.out w4 (Kp.refl _ _)
  clear ht2 hb24 ht4 hb4 hc3 hc2 hfn hz4
  go_enter Try.func8, Try.ntmps8
  go_wp2_with fail
  refine cBg.out.mono ?_
  rintro e w5 ⟨⟨v5, rfl⟩, hp5, hk5⟩
  have HK5 : Hid (BK (FB g) w4 w5) := Lib.hid hk5
  have cBd := Lib.hid (body_any (g + 4) (FB g) (g + 3) (n1 + 1) _ _ _ (.slice none 0 0) (.slice none 0 0) s b A0 n0 c0 A1 n1 c1 A2 n2 c2 A3 n3 c3 A4 n4 c4 A5 n5 c5 A6 n6 c6 A7 n7 c7 A8 n8 c8 sa sn ss sp sl x g w5 hp5 (fun j hj => by have := hk5.size; have := HZ4.out; simp only [FB] at hj; omega) (HFN.out w5 HK5.out).1 (HFN.out w5 HK5.out).2 (fun j hj => by simp only [FB]; omega) (by omega))
  clear e0 e1 e2 e3 e4 e5 e6 e7 e8 e9 e10 b0 b1 b2 b3 b4
  obtain ⟨⟨e0, e1, e2, e3, e4, e5, e6, e7, e8, e9, e10⟩, b0, b1, b2, b3, b4⟩ := EQ.out w5 HK5.out
  clear hp5 hk5 cBg
  go_wp2_with fail
  refine cBd.out.mono ?_
  rintro e w6 ⟨⟨v6, rfl⟩, hp6, hk6⟩
  have HK6 : Hid (BK (FB g) w4 w6) := Lib.hid (HK5.out.trans hk6)
  have HP6 := Lib.hid hp6
  clear e0 e1 e2 e3 e4 e5 e6 e7 e8 e9 e10 b0 b1 b2 b3 b4 hp6 hk6 cBd
  obtain ⟨⟨e0, e1, e2, e3, e4, e5, e6, e7, e8, e9, e10⟩, b0, b1, b2, b3, b4⟩ := EQ.out w6 HK6.out
  obtain ⟨nb, hnb⟩ : ∃ X, w6.heap.size = X := ⟨_, rfl⟩
  go_wp2_with fail
  obtain ⟨w7, hw7⟩ : ∃ X, w6.alloc (.cells #[.int .i64 sp, .int .i64 gi, .int .i64 sl, .int .i64 ss, .int .i64 (n1 : Int), .int .i64 0, .int .i64 0] 58) = X := ⟨_, rfl⟩
  have hb7 : Below w6.heap.size w6 w7 := by rw [← hw7]; exact bl_one _
  have HN7 : Hid (Cells w7 nb [.int .i64 sp, .int .i64 gi, .int .i64 sl, .int .i64 ss, .int .i64 (n1 : Int), .int .i64 0, .int .i64 0]) := Lib.hid (by rw [← hw7, ← hnb]; exact Cells.new w6 [.int .i64 sp, .int .i64 gi, .int .i64 sl, .int .i64 ss, .int .i64 (n1 : Int), .int .i64 0, .int .i64 0] _)
  have HZ7 : Hid (w6.heap.size = nb ∧ w7.heap.size = nb + 1) := Lib.hid ⟨hnb, by rw [← hw7]; simp; omega⟩
  have HK7 : Hid (BK (FB g) w4 w7) := Lib.hid (HK6.out.bel hb7)
  have HP7 := Lib.hid (HP6.out.widen hb7)
  clear hb7
  rw [hw7]
  clear e0 e1 e2 e3 e4 e5 e6 e7 e8 e9 e10 b0 b1 b2 b3 b4 hw7 hnb
  obtain ⟨kk, hkk⟩ : ∃ k, n1 + 1 + n4 = k := ⟨_, rfl⟩
  have HKK : Hid (n1 + 1 + n4 = kk) := Lib.hid hkk
  have hkb : (kk : Int) ≤ 500 := by omega
  have hk0 : (0 : Int) ≤ (kk : Int) := by omega
  clear hkk
  have HPX : Hid (∃ A0 c0 A1 c1 A2 c2, PcAt (g + 4) (FG3 (FB g) w6.heap.size w7.heap.size) (g + 3) kk (begC n1 ss n1 ++ [⟨33, sn⟩] ++ bodyC (placeM (fromM sa n1) 2000) ss sn x.code) (List.replicate (n1 + 1) sl ++ lnU x.lines n4) (List.replicate (n1 + 1) sp ++ atU x sn n4) (.slice none 0 0) (.slice none 0 0) A0 c0 A1 c1 A2 c2 w7) := Lib.hid (by rw [← HKK.out]; exact HP7.out)
  obtain ⟨C0, d0, C1, d1, C2, d2, hpx⟩ := HPX.out
  have HQ5 := Lib.hid hpx
  clear HPX hpx
  have HS5 : Hid (∀ W, Kp (fun j => j = nb) w7 W → BK (FB g) w4 W ∧ W.cell? ⟨g + 3, 0, none⟩ = some (.slice C0 kk d0)) := Lib.hid fun W hW => ⟨HK7.out.trans (hW.mono fun j _ e hj => by
    have h1 := HZ7.out
    have h2 := HK6.out.size
    have h3 := HZ4.out
    simp only [FB] at hj
    omega), (HQ5.out.hd.kp hW (fun e => by
    have h1 := HZ7.out
    have h2 := HK6.out.size
    have h3 := HZ4.out
    omega)).at_ 0 _ rfl⟩
  have cOw : Hid (∀ W, BK (FB g) w4 W → Calls Try.prog 16 #[.agg #[.string s, .bool b, .slice A0 n0 c0, .slice A1 n1 c1, .slice A2 n2 c2, .slice A3 n3 c3, .slice A4 n4 c4, .slice A5 n5 c5, .slice A6 n6 c6, .slice A7 n7 c7, .slice A8 n8 c8]] W fun e w' => e = .returned (.int .i64 (ownM x (n1 + n2 + n3))) ∧ Below W.heap.size W w') := Lib.hid fun W hW => own_any s b A0 n0 c0 A1 n1 c1 A2 n2 c2 A3 n3 c3 A4 n4 c4 A5 n5 c5 A6 n6 c6 A7 n7 c7 A8 n8 c8 x W (HFM.out W hW)
  obtain ⟨ow, how⟩ : ∃ v, ownM x (n1 + n2 + n3) = v := ⟨_, rfl⟩
  rw [how] at cOw
  have HOW := Lib.hid how
  clear how
  refine wp_region_held (S := fun W => S5 nb w7 W) (by kernel_rfl) ?_
  change wpAnyH _ _ _ _ _ _ _ _ (World.drew _)
  have hS0 : S5 nb w7 w7.drew := (Kp.refl _ _).drew
  refine wpAnyH_take (i := 0) (v := .pointer (some ⟨g + 1, 2, none⟩)) rfl (by kernel_rfl) (by kernel_rfl) (by kernel_rfl) (fun _ _ _ h => h) (Or.inl ⟨by rfl, by intro W hW; go_simp; try (first | (with_reducible rfl) | omega)⟩) hS0 ?_
  refine wpAnyH_take (i := 2) (v := .agg #[.string s, .bool b, .slice A0 n0 c0, .slice A1 n1 c1, .slice A2 n2 c2, .slice A3 n3 c3, .slice A4 n4 c4, .slice A5 n5 c5, .slice A6 n6 c6, .slice A7 n7 c7, .slice A8 n8 c8]) rfl (by kernel_rfl) (by kernel_rfl) (by kernel_rfl) (fun _ _ _ h => h) (Or.inl ⟨by rfl, by intro W hW; obtain ⟨hbk, z0⟩ := HS5.out W hW; obtain ⟨⟨e0, e1, e2, e3, e4, e5, e6, e7, e8, e9, e10⟩, b0, b1, b2, b3, b4⟩ := EQ.out W hbk; go_simp; try (first | (with_reducible rfl) | omega)⟩) hS0 ?_
  refine wpAnyH_take (i := 5) (v := .pointer (some ⟨g + 1, 0, none⟩)) rfl (by kernel_rfl) (by kernel_rfl) (by kernel_rfl) (fun _ _ _ h => h) (Or.inl ⟨by rfl, by intro W hW; go_simp; try (first | (with_reducible rfl) | omega)⟩) hS0 ?_
  refine wpAnyH_take (i := 7) (v := .pointer (some ⟨g + 3, 0, none⟩)) rfl (by kernel_rfl) (by kernel_rfl) (by kernel_rfl) (fun _ _ _ h => h) (Or.inl ⟨by rfl, by intro W hW; go_simp; try (first | (with_reducible rfl) | omega)⟩) hS0 ?_
  try go_simp
  refine wpAnyH_take (i := 1) (v := .int .i64 ss) rfl (by kernel_rfl) (by kernel_rfl) (by kernel_rfl) (fun _ _ _ h => h) (Or.inl ⟨by rfl, by intro W hW; obtain ⟨hbk, z0⟩ := HS5.out W hW; obtain ⟨⟨e0, e1, e2, e3, e4, e5, e6, e7, e8, e9, e10⟩, b0, b1, b2, b3, b4⟩ := EQ.out W hbk; go_simp; try (first | (with_reducible rfl) | omega)⟩) hS0 ?_
  refine wpAnyH_take (i := 6) (v := .int .i64 sa) rfl (by kernel_rfl) (by kernel_rfl) (by kernel_rfl) (fun _ _ _ h => h) (Or.inl ⟨by rfl, by intro W hW; obtain ⟨hbk, z0⟩ := HS5.out W hW; obtain ⟨⟨e0, e1, e2, e3, e4, e5, e6, e7, e8, e9, e10⟩, b0, b1, b2, b3, b4⟩ := EQ.out W hbk; go_simp; try (first | (with_reducible rfl) | omega)⟩) hS0 ?_
  refine wpAnyH_take (i := 8) (v := .pointer (some ⟨g + 3, 0, none⟩)) rfl (by kernel_rfl) (by kernel_rfl) (by kernel_rfl) (fun _ _ _ h => h) (Or.inl ⟨by rfl, by intro W hW; go_simp; try (first | (with_reducible rfl) | omega)⟩) hS0 ?_
  try go_simp
  refine wpAnyH_take (i := 9) (v := .pointer (some ⟨g + 3, 0, none⟩)) rfl (by kernel_rfl) (by kernel_rfl) (by kernel_rfl) (fun _ _ _ h => h) (Or.inl ⟨by rfl, by intro W hW; go_simp; try (first | (with_reducible rfl) | omega)⟩) hS0 ?_
  try go_simp
  refine wpAnyH_take (i := 10) (v := .slice C0 kk d0) rfl (by kernel_rfl) (by kernel_rfl) (by kernel_rfl) (fun _ _ _ h => h) (Or.inl ⟨by rfl, by intro W hW; obtain ⟨hbk, z0⟩ := HS5.out W hW; obtain ⟨⟨e0, e1, e2, e3, e4, e5, e6, e7, e8, e9, e10⟩, b0, b1, b2, b3, b4⟩ := EQ.out W hbk; go_simp; try (first | (with_reducible rfl) | omega)⟩) hS0 ?_
  try go_simp
  refine wpAnyH_take (i := 11) (v := .int .i64 (kk : Int)) rfl (by kernel_rfl) (by kernel_rfl) (by kernel_rfl) (fun _ _ _ h => h) (Or.inl ⟨by rfl, by intro W hW; go_simp; try (first | (with_reducible rfl) | omega)⟩) hS0 ?_
  try go_simp
  refine wpAnyH_take (i := 12) (v := .int .i64 (IntKind.i64.wrap (sa + (kk : Int)))) rfl (by kernel_rfl) (by kernel_rfl) (by kernel_rfl) (fun _ _ _ h => h) (Or.inl ⟨by rfl, by intro W hW; go_simp; try (first | (with_reducible rfl) | omega)⟩) hS0 ?_
  try go_simp
  refine wpAnyH_one (i := 3) (by kernel_rfl) rfl (fun K hK => ?_)
  go_simp
  refine (cOw.out _ (HS5.out _ hS0).1).mono ?_
  rintro e w8 ⟨rfl, hb8⟩
  have hS8 : S5 nb w7 w8 := Kp.trans hS0 ((Kp.refl _ _).ofBelow hb8)
  go_simp
  refine hK _ _ ⟨hS8, ?_⟩; clear hK K
  refine wpAnyH_take (i := 4) (v := .int .i64 (IntKind.i64.wrap (ss + ow))) rfl (by kernel_rfl) (by kernel_rfl) (by kernel_rfl) (fun _ _ _ h => h) (Or.inl ⟨by rfl, by intro W hW; go_simp; try (first | (with_reducible rfl) | omega)⟩) hS8 ?_
  try go_simp
  have hn8 := HN7.out.on (below_drew_of hb8)
  have x5 := hn8.at_ 5 _ rfl
  have x6 := hn8.at_ 6 _ rfl
  have f5 := hn8.fz 5 (by simp)
  have f6 := hn8.fz 6 (by simp)
  have HN8 := Lib.hid hn8
  have HB8 := Lib.hid (below_drew_of hb8)
  clear hn8 hb8
  refine wpAnyH_one (i := 13) (by kernel_rfl) rfl (fun K hK => ?_)
  go_simp
  refine hK _ _ ⟨hS8, ?_⟩; clear hK K
  refine wpAnyH_one (i := 14) (by kernel_rfl) rfl (fun K hK => ?_)
  go_simp
  refine hK _ _ ⟨Kp.setCell hS8 (p := ⟨nb, 5, none⟩) (fun _ => rfl) _, ?_⟩; clear hK K
  refine wpAnyH_one (i := 15) (by kernel_rfl) rfl (fun K hK => ?_)
  go_simp
  refine hK _ _ ⟨Kp.setCell hS8 (p := ⟨nb, 5, none⟩) (fun _ => rfl) _, ?_⟩; clear hK K
  refine wpAnyH_one (i := 16) (by kernel_rfl) rfl (fun K hK => ?_)
  go_simp
  refine hK _ _ ⟨Kp.setCell (Kp.setCell hS8 (p := ⟨nb, 5, none⟩) (fun _ => rfl) _) (p := ⟨nb, 6, none⟩) (fun _ => rfl) _, ?_⟩; clear hK K
  try go_simp
  refine wpAnyH_done (by kernel_rfl) ?_ _
  try go_simp
  clear x5 x6 f5 f6
  obtain ⟨w9, hw9⟩ : ∃ X, (w8.setCell ⟨nb, 5, none⟩ (.int .i64 (IntKind.i64.wrap (ss + ow)))).setCell ⟨nb, 6, none⟩ (.int .i64 (IntKind.i64.wrap (sa + (kk : Int)))) = X := ⟨_, rfl⟩
  have hk89 : Kp (fun j => j = nb) w8 w9 := by rw [← hw9]; exact Kp.setCell (Kp.setCell (Kp.refl (fun j => j = nb) w8) (p := ⟨nb, 5, none⟩) (fun _ => rfl) _) (p := ⟨nb, 6, none⟩) (fun _ => rfl) _
  have HN9 : Hid (Cells w9 nb (cellsN (firstM x gi sa ss sp sl n1 n2 n3 n4))) := Lib.hid (by
    have h1 := (HN8.out.put 5 (by simp) (.int .i64 (IntKind.i64.wrap (ss + ow)))).put 6 (by simp) (.int .i64 (IntKind.i64.wrap (sa + (kk : Int))))
    rw [hw9, wr64, wr64, ← HOW.out, ← HKK.out] at h1
    exact h1)
  rw [hw9]
  have HK9 : Hid (BK (FB g) w4 w9) := Lib.hid (HS5.out w9 (Kp.trans hS8 hk89)).1
  have HP9 : Hid (PcW (g + 4) (FG3 (FB g) w6.heap.size w7.heap.size) (g + 3) kk (begC n1 ss n1 ++ [⟨33, sn⟩] ++ bodyC (placeM (fromM sa n1) 2000) ss sn x.code) (List.replicate (n1 + 1) sl ++ lnU x.lines n4) (List.replicate (n1 + 1) sp ++ atU x sn n4) (.slice none 0 0) (.slice none 0 0) w9) := Lib.hid (by
    have h1 : PcW (g + 4) (FG3 (FB g) w6.heap.size w7.heap.size) (g + 3) kk (begC n1 ss n1 ++ [⟨33, sn⟩] ++ bodyC (placeM (fromM sa n1) 2000) ss sn x.code) (List.replicate (n1 + 1) sl ++ lnU x.lines n4) (List.replicate (n1 + 1) sp ++ atU x sn n4) (.slice none 0 0) (.slice none 0 0) w7 := ⟨_, _, _, _, _, _, HQ5.out⟩
    have h2 : PcW (g + 4) (FG3 (FB g) w6.heap.size w7.heap.size) (g + 3) kk (begC n1 ss n1 ++ [⟨33, sn⟩] ++ bodyC (placeM (fromM sa n1) 2000) ss sn x.code) (List.replicate (n1 + 1) sl ++ lnU x.lines n4) (List.replicate (n1 + 1) sp ++ atU x sn n4) (.slice none 0 0) (.slice none 0 0) w8 := h1.on HB8.out
    exact h2.far hk89 (.inr ⟨by have := HZ7.out; omega, by have := HZ7.out; omega⟩))
  have HZ9 : Hid (w7.heap.size ≤ w9.heap.size) := Lib.hid (by have h1 := HB8.out.size; have h2 := hk89.size; omega)
  clear hS0 hS8 hk89 hw9 HQ5 HS5 cOw HN8 HB8 HN7 HP7 HP6 HP4
  have cEn := Lib.hid (end_any (g + 4) (FG3 (FB g) w6.heap.size w7.heap.size) (g + 3) kk _ _ _ (.slice none 0 0) (.slice none 0 0) s b A0 n0 c0 A1 n1 c1 A2 n2 c2 A3 n3 c3 A4 n4 c4 A5 n5 c5 A6 n6 c6 A7 n7 c7 A8 n8 c8 sa sn ss sp sl w9 HP9.out (fun j hj => by
    have h1 := HZ9.out
    have h2 := HZ7.out
    have h3 := HK6.out.size
    have h4 := HZ4.out
    rcases hj with hj | hj
    · simp only [FB] at hj; omega
    · omega) (by omega) (by omega) (by omega))
  obtain ⟨⟨e0, e1, e2, e3, e4, e5, e6, e7, e8, e9, e10⟩, b0, b1, b2, b3, b4⟩ := EQ.out w9 HK9.out
  go_wp2_with fail
  refine cEn.out.mono ?_
  rintro e w10 ⟨⟨v10, rfl⟩, hp10, hk10⟩
  have HK10 : Hid (BK (FB g) w4 w10) := Lib.hid (HK9.out.trans (Kp.less hk10 fun j hj => .inl hj))
  have HN10 : Hid (Cells w10 nb (cellsN (firstM x gi sa ss sp sl n1 n2 n3 n4))) := Lib.hid (HN9.out.kp hk10 (fun hn => hn (.inr ⟨by have := HZ7.out; omega, by have := HZ7.out; omega⟩)))
  obtain ⟨C0, d0, C1, d1, C2, d2, hpx⟩ := hp10
  have HQ7 := Lib.hid hpx
  have HZ10 : Hid (w9.heap.size ≤ w10.heap.size) := Lib.hid hk10.size
  clear hpx hk10 cEn HP9 HN9 e0 e1 e2 e3 e4 e5 e6 e7 e8 e9 e10 b0 b1 b2 b3 b4
  obtain ⟨fx, hfx⟩ : ∃ y, firstM x gi sa ss sp sl n1 n2 n3 n4 = y := ⟨_, rfl⟩
  have HFX := Lib.hid hfx
  rw [hfx] at HN10
  clear hfx
  obtain ⟨yp, yf, yl, yo, yg, yt, yr⟩ := fx
  have HS7 : Hid (∀ W, S5 (g + 3) w10 W → BK (FB g) w4 W ∧ Cells W nb [.int .i64 yp, .int .i64 yf, .int .i64 yl, .int .i64 yo, .int .i64 yg, .int .i64 yt, .int .i64 yr]) := Lib.hid fun W hW => ⟨HK10.out.trans (hW.mono fun j _ e hj => by simp only [FB] at hj; omega), HN10.out.kp hW (fun e => by
    have h1 := HZ7.out
    have h2 := HK6.out.size
    have h3 := HZ4.out
    omega)⟩
  have cFr : Hid (∀ W, Calls Try.prog 27 #[.agg #[.int .i64 sa, .int .i64 sn, .int .i64 ss, .int .i64 sp, .int .i64 sl], .agg #[.string s, .bool b, .slice A0 n0 c0, .slice A1 n1 c1, .slice A2 n2 c2, .slice A3 n3 c3, .slice A4 n4 c4, .slice A5 n5 c5, .slice A6 n6 c6, .slice A7 n7 c7, .slice A8 n8 c8]] W fun e w' => e = .returned (.int .i64 (fromM sa n1)) ∧ Below W.heap.size W w') := Lib.hid fun W => from_any s b A0 n0 c0 A1 n1 c1 A2 n2 c2 A3 n3 c3 A4 n4 c4 A5 n5 c5 A6 n6 c6 A7 n7 c7 A8 n8 c8 sa sn ss sp sl W (by omega)
  have cTr : Hid (∀ W, BK (FB g) w4 W → Calls Try.prog 26 #[.slice A6 n6 c6, .int .i64 sn, .int .i64 ss, .int .i64 (fromM sa n1)] W (IsN (n6 - 1) (treeM sn ss (fromM sa n1) x.nodes) W)) := Lib.hid fun W hW => tree_any n6 c6 A6 x.nodes sn ss (fromM sa n1) W (HFM.out W hW).r6 (by omega)
  obtain ⟨fr, hfr⟩ : ∃ v, fromM sa n1 = v := ⟨_, rfl⟩
  rw [hfr] at cFr cTr
  obtain ⟨tr, htr⟩ : ∃ v, treeM sn ss fr x.nodes = v := ⟨_, rfl⟩
  rw [htr] at cTr
  have HTR : Hid (treeM sn ss (fromM sa n1) x.nodes = tr) := Lib.hid (by rw [hfr]; exact htr)
  clear hfr htr
  obtain ⟨j7, hj7, hy0, hy1, hy2⟩ := info_parts info_node
  obtain ⟨tn, htn⟩ : ∃ t, n6 - 1 = t := ⟨_, rfl⟩
  have HTN := Lib.hid htn
  have htb : tn ≤ 20 := by omega
  rw [htn] at cTr
  clear htn
  go_wp2_with fail
  refine wp_region_held (S := fun W => S5 (g + 3) w10 W) (by kernel_rfl) ?_
  change wpAnyH _ _ _ _ _ _ _ _ (World.drew _)
  have hS0 : S5 (g + 3) w10 w10.drew := (Kp.refl _ _).drew
  refine wpAnyH_take (i := 0) (v := .pointer (some ⟨g + 3, 0, none⟩)) rfl (by kernel_rfl) (by kernel_rfl) (by kernel_rfl) (fun _ _ _ h => h) (Or.inl ⟨by rfl, by intro W hW; go_simp; try (first | (with_reducible rfl) | omega)⟩) hS0 ?_
  refine wpAnyH_take (i := 1) (v := .agg #[.int .i64 yp, .int .i64 yf, .int .i64 yl, .int .i64 yo, .int .i64 yg, .int .i64 yt, .int .i64 yr]) rfl (by kernel_rfl) (by kernel_rfl) (by kernel_rfl) (fun _ _ _ h => h) (Or.inl ⟨by rfl, by intro W hW; obtain ⟨hbk, hnc⟩ := HS7.out W hW; obtain ⟨⟨e0, e1, e2, e3, e4, e5, e6, e7, e8, e9, e10⟩, b0, b1, b2, b3, b4⟩ := EQ.out W hbk; have z0 := hnc.at_ 0 _ rfl; have z1 := hnc.at_ 1 _ rfl; have z2 := hnc.at_ 2 _ rfl; have z3 := hnc.at_ 3 _ rfl; have z4 := hnc.at_ 4 _ rfl; have z5 := hnc.at_ 5 _ rfl; have z6 := hnc.at_ 6 _ rfl; go_simp; try (first | (with_reducible rfl) | omega)⟩) hS0 ?_
  refine wpAnyH_take (i := 3) (v := .pointer (some ⟨g, 8, none⟩)) rfl (by kernel_rfl) (by kernel_rfl) (by kernel_rfl) (fun _ _ _ h => h) (Or.inl ⟨by rfl, by intro W hW; go_simp; try (first | (with_reducible rfl) | omega)⟩) hS0 ?_
  refine wpAnyH_take (i := 5) (v := .pointer (some ⟨g + 1, 1, none⟩)) rfl (by kernel_rfl) (by kernel_rfl) (by kernel_rfl) (fun _ _ _ h => h) (Or.inl ⟨by rfl, by intro W hW; go_simp; try (first | (with_reducible rfl) | omega)⟩) hS0 ?_
  refine wpAnyH_take (i := 7) (v := .pointer (some ⟨g + 1, 2, none⟩)) rfl (by kernel_rfl) (by kernel_rfl) (by kernel_rfl) (fun _ _ _ h => h) (Or.inl ⟨by rfl, by intro W hW; go_simp; try (first | (with_reducible rfl) | omega)⟩) hS0 ?_
  refine wpAnyH_take (i := 9) (v := .agg #[.int .i64 sa, .int .i64 sn, .int .i64 ss, .int .i64 sp, .int .i64 sl]) rfl (by kernel_rfl) (by kernel_rfl) (by kernel_rfl) (fun _ _ _ h => h) (Or.inl ⟨by rfl, by intro W hW; obtain ⟨hbk, hnc⟩ := HS7.out W hW; obtain ⟨⟨e0, e1, e2, e3, e4, e5, e6, e7, e8, e9, e10⟩, b0, b1, b2, b3, b4⟩ := EQ.out W hbk; have z0 := hnc.at_ 0 _ rfl; have z1 := hnc.at_ 1 _ rfl; have z2 := hnc.at_ 2 _ rfl; have z3 := hnc.at_ 3 _ rfl; have z4 := hnc.at_ 4 _ rfl; have z5 := hnc.at_ 5 _ rfl; have z6 := hnc.at_ 6 _ rfl; go_simp; try (first | (with_reducible rfl) | omega)⟩) hS0 ?_
  refine wpAnyH_take (i := 10) (v := .agg #[.string s, .bool b, .slice A0 n0 c0, .slice A1 n1 c1, .slice A2 n2 c2, .slice A3 n3 c3, .slice A4 n4 c4, .slice A5 n5 c5, .slice A6 n6 c6, .slice A7 n7 c7, .slice A8 n8 c8]) rfl (by kernel_rfl) (by kernel_rfl) (by kernel_rfl) (fun _ _ _ h => h) (Or.inl ⟨by rfl, by intro W hW; obtain ⟨hbk, hnc⟩ := HS7.out W hW; obtain ⟨⟨e0, e1, e2, e3, e4, e5, e6, e7, e8, e9, e10⟩, b0, b1, b2, b3, b4⟩ := EQ.out W hbk; have z0 := hnc.at_ 0 _ rfl; have z1 := hnc.at_ 1 _ rfl; have z2 := hnc.at_ 2 _ rfl; have z3 := hnc.at_ 3 _ rfl; have z4 := hnc.at_ 4 _ rfl; have z5 := hnc.at_ 5 _ rfl; have z6 := hnc.at_ 6 _ rfl; go_simp; try (first | (with_reducible rfl) | omega)⟩) hS0 ?_
  try go_simp
  refine wpAnyH_take (i := 4) (v := .slice A6 n6 c6) rfl (by kernel_rfl) (by kernel_rfl) (by kernel_rfl) (fun _ _ _ h => h) (Or.inl ⟨by rfl, by intro W hW; obtain ⟨hbk, hnc⟩ := HS7.out W hW; obtain ⟨⟨e0, e1, e2, e3, e4, e5, e6, e7, e8, e9, e10⟩, b0, b1, b2, b3, b4⟩ := EQ.out W hbk; have z0 := hnc.at_ 0 _ rfl; have z1 := hnc.at_ 1 _ rfl; have z2 := hnc.at_ 2 _ rfl; have z3 := hnc.at_ 3 _ rfl; have z4 := hnc.at_ 4 _ rfl; have z5 := hnc.at_ 5 _ rfl; have z6 := hnc.at_ 6 _ rfl; go_simp; try (first | (with_reducible rfl) | omega)⟩) hS0 ?_
  refine wpAnyH_take (i := 6) (v := .int .i64 sn) rfl (by kernel_rfl) (by kernel_rfl) (by kernel_rfl) (fun _ _ _ h => h) (Or.inl ⟨by rfl, by intro W hW; obtain ⟨hbk, hnc⟩ := HS7.out W hW; obtain ⟨⟨e0, e1, e2, e3, e4, e5, e6, e7, e8, e9, e10⟩, b0, b1, b2, b3, b4⟩ := EQ.out W hbk; have z0 := hnc.at_ 0 _ rfl; have z1 := hnc.at_ 1 _ rfl; have z2 := hnc.at_ 2 _ rfl; have z3 := hnc.at_ 3 _ rfl; have z4 := hnc.at_ 4 _ rfl; have z5 := hnc.at_ 5 _ rfl; have z6 := hnc.at_ 6 _ rfl; go_simp; try (first | (with_reducible rfl) | omega)⟩) hS0 ?_
  refine wpAnyH_take (i := 8) (v := .int .i64 ss) rfl (by kernel_rfl) (by kernel_rfl) (by kernel_rfl) (fun _ _ _ h => h) (Or.inl ⟨by rfl, by intro W hW; obtain ⟨hbk, hnc⟩ := HS7.out W hW; obtain ⟨⟨e0, e1, e2, e3, e4, e5, e6, e7, e8, e9, e10⟩, b0, b1, b2, b3, b4⟩ := EQ.out W hbk; have z0 := hnc.at_ 0 _ rfl; have z1 := hnc.at_ 1 _ rfl; have z2 := hnc.at_ 2 _ rfl; have z3 := hnc.at_ 3 _ rfl; have z4 := hnc.at_ 4 _ rfl; have z5 := hnc.at_ 5 _ rfl; have z6 := hnc.at_ 6 _ rfl; go_simp; try (first | (with_reducible rfl) | omega)⟩) hS0 ?_
  try go_simp
  obtain ⟨wd, hwd⟩ : ∃ X, w10.drew = X := ⟨_, rfl⟩
  have hE0 : Below w10.heap.size w10 wd := by rw [← hwd]; exact (Below.refl _ _).drew
  rw [hwd] at hS0
  rw [hwd]
  clear hwd hS0
  have HSE : Hid (∀ W, Below w10.heap.size w10 W → S5 (g + 3) w10 W) := Lib.hid fun W hW => (Kp.refl _ w10).ofBelow hW
  refine (fun (hT : ∀ (lb : Nat) (TA : Option Addr) (tc : Nat) (C3 : Option Addr) (d3 : Nat) (w30 : World), Hid (w30.ownsRow w10.heap.size 58 7 (.slice C3 (1 + tn) d3) (1 + tn) (cellsN ⟨yp, yf, yl, yo, yg, yt, yr⟩ ++ tr.flatMap cellsN) ∧ Below w10.heap.size w10 w30) → (?T : Nat → Option Addr → Nat → Option Addr → Nat → World → Prop) lb TA tc C3 d3 w30) => ?main) ?tail
  case main =>
    refine wpAnyH_two (i := 2) (j := 11) (by kernel_rfl) rfl rfl (fun K hK => ?_) (fun K hK => ?_)
    · obtain ⟨lb, hlb⟩ : ∃ X, (World.heap wd).size = X := ⟨_, rfl⟩
      obtain ⟨w20, hw20⟩ : ∃ X, World.alloc wd (.cells #[.int .i64 yp, .int .i64 yf, .int .i64 yl, .int .i64 yo, .int .i64 yg, .int .i64 yt, .int .i64 yr] 58) = X := ⟨_, rfl⟩
      have hb20 : Below (World.heap wd).size wd w20 := by rw [← hw20]; exact bl_one _
      have hE20 : Below w10.heap.size w10 w20 := hE0.trans (hb20.mono hE0.size)
      have HL20 : Hid (w20.ownsRow w10.heap.size 58 7 (.slice (some ⟨lb, 0, none⟩) 1 1) 1 (cellsN ⟨yp, yf, yl, yo, yg, yt, yr⟩)) := Lib.hid (by rw [← hw20]; exact own_at hlb w10.heap.size (by have := hE0.size; omega) (cellsN ⟨yp, yf, yl, yo, yg, yt, yr⟩) _ 7 1 (by unfold maxLen; omega) rfl)
      go_simp
      refine hK _ _ ⟨HSE.out _ hE20, ?_⟩; clear hK K hb20 hw20 hlb
      refine wpAnyH_one (i := 11) (by kernel_rfl) rfl (fun K hK => ?_)
      go_simp
      refine (cFr.out _).mono ?_
      rintro e w21 ⟨rfl, hb21⟩
      have hE21 : Below w10.heap.size w10 w21 := hE20.trans (hb21.mono hE20.size)
      have HL21 : Hid (w21.ownsRow w10.heap.size 58 7 (.slice (some ⟨lb, 0, none⟩) 1 1) 1 (cellsN ⟨yp, yf, yl, yo, yg, yt, yr⟩)) := Lib.hid (own_keep HL20.out hb21)
      clear hb21
      go_simp
      refine hK _ _ ⟨HSE.out _ hE21, ?_⟩; clear hK K
      refine wpAnyH_one (i := 12) (by kernel_rfl) rfl (fun K hK => ?_)
      go_simp
      refine (cTr.out _ (HS7.out _ (HSE.out _ hE21)).1).mono ?_
      rintro e w22 ⟨TA, tc, rfl, ht22, hb22⟩
      have hE22 : Below w10.heap.size w10 w22 := hE21.trans (hb22.mono hE21.size)
      have HT22 := Lib.hid ht22
      have HL22 : Hid (w22.ownsRow w10.heap.size 58 7 (.slice (some ⟨lb, 0, none⟩) 1 1) 1 (cellsN ⟨yp, yf, yl, yo, yg, yt, yr⟩)) := Lib.hid (own_keep HL21.out hb22)
      clear hb22 ht22
      go_simp
      refine hK _ _ ⟨HSE.out _ hE22, ?_⟩; clear hK K
      have hsrc := Lib.hid (SlR.src (f := cellsN) (fun _ => rfl) HT22.out)
      refine wpAnyH_one (i := 13) (by kernel_rfl) rfl (fun K hK => ?_)
      refine step_append_src _ rfl _ _ 25 rfl w10.heap.size 58 j7 (.agg #[.int .i64 0, .int .i64 0, .int .i64 0, .int .i64 0, .int .i64 0, .int .i64 0, .int .i64 0]) 7 56 Try.underlying25 hj7 hy0 hy1 hy2 rfl (by decide) (.slice (some ⟨lb, 0, none⟩) 1 1) 1 (cellsN ⟨yp, yf, yl, yo, yg, yt, yr⟩) ?qq1 HL22.out TA tn tc (tr.flatMap cellsN) ?qq2 hsrc.out (oneN tr) (by unfold maxLen; omega) (by omega) hE22.size ?_
      case qq1 => go_simp
      case qq2 => go_simp
      intro v' w30 hown' hgrow hat
      obtain ⟨C3, d3, rfl, _⟩ := own_form hown'
      have HO30 := Lib.hid hown'
      have hE30 : Below w10.heap.size w10 w30 := hE22.trans (Below.grown (Below.refl _ _) hgrow hE22.size (fun j hj => (HL22.out.lt j hj).1))
      clear hown' hgrow hat hsrc
      try go_simp
      refine hK _ _ ⟨HSE.out _ hE30, ?_⟩; clear hK K
      have hc30 := HQ7.out.hd.on hE30
      have x3 := hc30.at_ 3 _ rfl
      have f3 := hc30.fz 3 (by simp)
      have HC30 := Lib.hid hc30
      clear hc30
      refine wpAnyH_one (i := 14) (by kernel_rfl) rfl (fun K hK => ?_)
      go_simp
      refine hK _ _ ⟨HSE.out _ hE30, ?_⟩; clear hK K
      refine wpAnyH_one (i := 15) (by kernel_rfl) rfl (fun K hK => ?_)
      go_simp
      refine hK _ _ ⟨HSE.out _ hE30, ?_⟩; clear hK K
      refine wpAnyH_one (i := 16) (by kernel_rfl) rfl (fun K hK => ?_)
      go_simp
      refine hK _ _ ⟨(Kp.setCell (HSE.out _ hE30) (p := ⟨g + 3, 3, none⟩) (fun _ => rfl) _), ?_⟩; clear hK K
      try go_simp
      refine wpAnyH_done (by kernel_rfl) ?_ _
      try go_simp
      clear x3 f3
      exact hT lb TA tc C3 d3 w30 (Lib.hid ⟨HO30.out, hE30⟩)
    · go_simp
      refine (cFr.out _).mono ?_
      rintro e w23 ⟨rfl, hb23⟩
      have hE23 : Below w10.heap.size w10 w23 := hE0.trans (hb23.mono hE0.size)
      clear hb23
      go_simp
      refine hK _ _ ⟨HSE.out _ hE23, ?_⟩; clear hK K
      refine wpAnyH_two (i := 2) (j := 12) (by kernel_rfl) rfl rfl (fun K hK => ?_) (fun K hK => ?_)
      · obtain ⟨lb, hlb⟩ : ∃ X, (World.heap w23).size = X := ⟨_, rfl⟩
        obtain ⟨w24, hw24⟩ : ∃ X, World.alloc w23 (.cells #[.int .i64 yp, .int .i64 yf, .int .i64 yl, .int .i64 yo, .int .i64 yg, .int .i64 yt, .int .i64 yr] 58) = X := ⟨_, rfl⟩
        have hb24 : Below (World.heap w23).size w23 w24 := by rw [← hw24]; exact bl_one _
        have hE24 : Below w10.heap.size w10 w24 := hE23.trans (hb24.mono hE23.size)
        have HL24 : Hid (w24.ownsRow w10.heap.size 58 7 (.slice (some ⟨lb, 0, none⟩) 1 1) 1 (cellsN ⟨yp, yf, yl, yo, yg, yt, yr⟩)) := Lib.hid (by rw [← hw24]; exact own_at hlb w10.heap.size (by have := hE23.size; omega) (cellsN ⟨yp, yf, yl, yo, yg, yt, yr⟩) _ 7 1 (by unfold maxLen; omega) rfl)
        go_simp
        refine hK _ _ ⟨HSE.out _ hE24, ?_⟩; clear hK K hb24 hw24 hlb
        refine wpAnyH_one (i := 12) (by kernel_rfl) rfl (fun K hK => ?_)
        go_simp
        refine (cTr.out _ (HS7.out _ (HSE.out _ hE24)).1).mono ?_
        rintro e w25 ⟨TA, tc, rfl, ht25, hb25⟩
        have hE25 : Below w10.heap.size w10 w25 := hE24.trans (hb25.mono hE24.size)
        have HT25 := Lib.hid ht25
        have HL25 : Hid (w25.ownsRow w10.heap.size 58 7 (.slice (some ⟨lb, 0, none⟩) 1 1) 1 (cellsN ⟨yp, yf, yl, yo, yg, yt, yr⟩)) := Lib.hid (own_keep HL24.out hb25)
        clear hb25 ht25
        go_simp
        refine hK _ _ ⟨HSE.out _ hE25, ?_⟩; clear hK K
        have hsrc := Lib.hid (SlR.src (f := cellsN) (fun _ => rfl) HT25.out)
        refine wpAnyH_one (i := 13) (by kernel_rfl) rfl (fun K hK => ?_)
        refine step_append_src _ rfl _ _ 25 rfl w10.heap.size 58 j7 (.agg #[.int .i64 0, .int .i64 0, .int .i64 0, .int .i64 0, .int .i64 0, .int .i64 0, .int .i64 0]) 7 56 Try.underlying25 hj7 hy0 hy1 hy2 rfl (by decide) (.slice (some ⟨lb, 0, none⟩) 1 1) 1 (cellsN ⟨yp, yf, yl, yo, yg, yt, yr⟩) ?qq1 HL25.out TA tn tc (tr.flatMap cellsN) ?qq2 hsrc.out (oneN tr) (by unfold maxLen; omega) (by omega) hE25.size ?_
        case qq1 => go_simp
        case qq2 => go_simp
        intro v' w30 hown' hgrow hat
        obtain ⟨C3, d3, rfl, _⟩ := own_form hown'
        have HO30 := Lib.hid hown'
        have hE30 : Below w10.heap.size w10 w30 := hE25.trans (Below.grown (Below.refl _ _) hgrow hE25.size (fun j hj => (HL25.out.lt j hj).1))
        clear hown' hgrow hat hsrc
        try go_simp
        refine hK _ _ ⟨HSE.out _ hE30, ?_⟩; clear hK K
        have hc30 := HQ7.out.hd.on hE30
        have x3 := hc30.at_ 3 _ rfl
        have f3 := hc30.fz 3 (by simp)
        have HC30 := Lib.hid hc30
        clear hc30
        refine wpAnyH_one (i := 14) (by kernel_rfl) rfl (fun K hK => ?_)
        go_simp
        refine hK _ _ ⟨HSE.out _ hE30, ?_⟩; clear hK K
        refine wpAnyH_one (i := 15) (by kernel_rfl) rfl (fun K hK => ?_)
        go_simp
        refine hK _ _ ⟨HSE.out _ hE30, ?_⟩; clear hK K
        refine wpAnyH_one (i := 16) (by kernel_rfl) rfl (fun K hK => ?_)
        go_simp
        refine hK _ _ ⟨(Kp.setCell (HSE.out _ hE30) (p := ⟨g + 3, 3, none⟩) (fun _ => rfl) _), ?_⟩; clear hK K
        try go_simp
        refine wpAnyH_done (by kernel_rfl) ?_ _
        try go_simp
        clear x3 f3
        exact hT lb TA tc C3 d3 w30 (Lib.hid ⟨HO30.out, hE30⟩)
      · go_simp
        refine (cTr.out _ (HS7.out _ (HSE.out _ hE23)).1).mono ?_
        rintro e w26 ⟨TA, tc, rfl, ht26, hb26⟩
        have hE26 : Below w10.heap.size w10 w26 := hE23.trans (hb26.mono hE23.size)
        have HT26 := Lib.hid ht26
        clear hb26 ht26
        go_simp
        refine hK _ _ ⟨HSE.out _ hE26, ?_⟩; clear hK K
        refine wpAnyH_one (i := 2) (by kernel_rfl) rfl (fun K hK => ?_)
        obtain ⟨lb, hlb⟩ : ∃ X, (World.heap w26).size = X := ⟨_, rfl⟩
        obtain ⟨w27, hw27⟩ : ∃ X, World.alloc w26 (.cells #[.int .i64 yp, .int .i64 yf, .int .i64 yl, .int .i64 yo, .int .i64 yg, .int .i64 yt, .int .i64 yr] 58) = X := ⟨_, rfl⟩
        have hb27 : Below (World.heap w26).size w26 w27 := by rw [← hw27]; exact bl_one _
        have hE27 : Below w10.heap.size w10 w27 := hE26.trans (hb27.mono hE26.size)
        have HL27 : Hid (w27.ownsRow w10.heap.size 58 7 (.slice (some ⟨lb, 0, none⟩) 1 1) 1 (cellsN ⟨yp, yf, yl, yo, yg, yt, yr⟩)) := Lib.hid (by rw [← hw27]; exact own_at hlb w10.heap.size (by have := hE26.size; omega) (cellsN ⟨yp, yf, yl, yo, yg, yt, yr⟩) _ 7 1 (by unfold maxLen; omega) rfl)
        have HT27 : Hid (SlN w27 w27.heap.size TA tn tc tr) := Lib.hid (HT26.out.on hb27)
        go_simp
        refine hK _ _ ⟨HSE.out _ hE27, ?_⟩; clear hK K hb27 hw27 hlb
        have hsrc := Lib.hid (SlR.src (f := cellsN) (fun _ => rfl) HT27.out)
        refine wpAnyH_one (i := 13) (by kernel_rfl) rfl (fun K hK => ?_)
        refine step_append_src _ rfl _ _ 25 rfl w10.heap.size 58 j7 (.agg #[.int .i64 0, .int .i64 0, .int .i64 0, .int .i64 0, .int .i64 0, .int .i64 0, .int .i64 0]) 7 56 Try.underlying25 hj7 hy0 hy1 hy2 rfl (by decide) (.slice (some ⟨lb, 0, none⟩) 1 1) 1 (cellsN ⟨yp, yf, yl, yo, yg, yt, yr⟩) ?qq1 HL27.out TA tn tc (tr.flatMap cellsN) ?qq2 hsrc.out (oneN tr) (by unfold maxLen; omega) (by omega) hE27.size ?_
        case qq1 => go_simp
        case qq2 => go_simp
        intro v' w30 hown' hgrow hat
        obtain ⟨C3, d3, rfl, _⟩ := own_form hown'
        have HO30 := Lib.hid hown'
        have hE30 : Below w10.heap.size w10 w30 := hE27.trans (Below.grown (Below.refl _ _) hgrow hE27.size (fun j hj => (HL27.out.lt j hj).1))
        clear hown' hgrow hat hsrc
        try go_simp
        refine hK _ _ ⟨HSE.out _ hE30, ?_⟩; clear hK K
        have hc30 := HQ7.out.hd.on hE30
        have x3 := hc30.at_ 3 _ rfl
        have f3 := hc30.fz 3 (by simp)
        have HC30 := Lib.hid hc30
        clear hc30
        refine wpAnyH_one (i := 14) (by kernel_rfl) rfl (fun K hK => ?_)
        go_simp
        refine hK _ _ ⟨HSE.out _ hE30, ?_⟩; clear hK K
        refine wpAnyH_one (i := 15) (by kernel_rfl) rfl (fun K hK => ?_)
        go_simp
        refine hK _ _ ⟨HSE.out _ hE30, ?_⟩; clear hK K
        refine wpAnyH_one (i := 16) (by kernel_rfl) rfl (fun K hK => ?_)
        go_simp
        refine hK _ _ ⟨(Kp.setCell (HSE.out _ hE30) (p := ⟨g + 3, 3, none⟩) (fun _ => rfl) _), ?_⟩; clear hK K
        try go_simp
        refine wpAnyH_done (by kernel_rfl) ?_ _
        try go_simp
        clear x3 f3
        exact hT lb TA tc C3 d3 w30 (Lib.hid ⟨HO30.out, hE30⟩)
  case tail =>
    intro lb TA tc C3 d3 w30 H30
    clear cFr cTr
    have hE30 := H30.out.2
    have hk31 := kp_set w30 (g + 3) 3 (.slice C3 (1 + tn) d3)
    obtain ⟨w31, hw31⟩ : ∃ X, w30.setCell ⟨g + 3, 3, none⟩ (.slice C3 (1 + tn) d3) = X := ⟨_, rfl⟩
    rw [hw31] at hk31
    rw [hw31]
    have HPB : Hid (g + 3 < w10.heap.size) := Lib.hid HQ7.out.hd.lt
    have HC31 : Hid (Cells w31 (g + 3) [.slice C0 (kk + n2) d0, .slice C1 (kk + n2) d1, .slice C2 (kk + n2) d2, .slice C3 (1 + tn) d3, .slice none 0 0]) := Lib.hid (by rw [← hw31]; exact (HQ7.out.hd.on hE30).put 3 (by simp) _)
    have HK31 : Hid (BK (FB g) w4 w31) := Lib.hid (HS7.out w31 (Kp.trans ((Kp.refl _ w10).ofBelow hE30) hk31)).1
    have HR31 : Hid (Cells w31 (g + 2) #[.slice none 0 0, .slice none 0 0, .slice none 0 0, .slice none 0 0, .slice none 0 0].toList) := Lib.hid (HRC.out.kp HK31.out (fun hn => hn (by simp only [FB]; omega)))
    have HO31 : Hid (w31.ownsRow w10.heap.size 58 7 (.slice C3 (1 + tn) d3) (1 + tn) (cellsN ⟨yp, yf, yl, yo, yg, yt, yr⟩ ++ tr.flatMap cellsN)) := Lib.hid (hk31.own H30.out.1 (fun j hj e => by have := (H30.out.1.lt j hj).1; have := HPB.out; omega))
    have HW31 : Hid (Rw (g + 4) (fun j => FG3 (FB g) w6.heap.size w7.heap.size j ∨ j = g + 3) (.slice C0 (kk + n2) d0) (.slice C1 (kk + n2) d1) (.slice C2 (kk + n2) d2) (kk + n2) (kk + n2) (kk + n2) (codeL x sa sn ss n1 n2) (lineL x sl n1 n2 n4) (atL x sn sp n1 n2 n4) w31) := Lib.hid ((HQ7.out.ro.on hE30).kp hk31 (fun j hj e => HQ7.out.ro.f0 j (.inr e) hj) (fun j hj e => HQ7.out.ro.f1 j (.inr e) hj) (fun j hj e => HQ7.out.ro.f2 j (.inr e) hj))
    have HZ31 : Hid (w10.heap.size ≤ w31.heap.size) := Lib.hid (Nat.le_trans hE30.size hk31.size)
    have cSl := Lib.hid (fslots_any s b A0 n0 c0 A1 n1 c1 A2 n2 c2 A3 n3 c3 A4 n4 c4 A5 n5 c5 A6 n6 c6 A7 n7 c7 A8 n8 c8 x w31 (HFM.out w31 HK31.out))
    obtain ⟨⟨e0, e1, e2, e3, e4, e5, e6, e7, e8, e9, e10⟩, b0, b1, b2, b3, b4⟩ := EQ.out w31 HK31.out
    clear hk31 hw31 hE30 HQ7 HS7 HSE H30
    go_wp2_with fail
    refine cSl.out.mono ?_
    rintro e w32 ⟨C4, d4, rfl, ho4, hb4⟩
    clear e0 e1 e2 e3 e4 e5 e6 e7 e8 e9 e10 b0 b1 b2 b3 b4
    have hc32 := HC31.out.on hb4
    have y0 := hc32.at_ 0 _ rfl
    have y1 := hc32.at_ 1 _ rfl
    have y2 := hc32.at_ 2 _ rfl
    have y3 := hc32.at_ 3 _ rfl
    have y4 := hc32.at_ 4 _ rfl
    have fy := hc32.fz 4 (by simp)
    have hr32 := HR31.out.on hb4
    have r0 := hr32.at_ 0 _ rfl
    have r1 := hr32.at_ 1 _ rfl
    have r2 := hr32.at_ 2 _ rfl
    have r3 := hr32.at_ 3 _ rfl
    have r4 := hr32.at_ 4 _ rfl
    have fr0 := hr32.fz 0 (by simp)
    have fr1 := hr32.fz 1 (by simp)
    have fr2 := hr32.fz 2 (by simp)
    have fr3 := hr32.fz 3 (by simp)
    have fr4 := hr32.fz 4 (by simp)
    have HR32 := Lib.hid hr32
    have HO4 := Lib.hid ho4
    have HO32 := Lib.hid (own_keep HO31.out hb4)
    have HW32 := Lib.hid (HW31.out.on hb4)
    have HZ32 : Hid (w31.heap.size ≤ w32.heap.size) := Lib.hid hb4.size
    have HB32 : Hid (Below w.heap.size w w32) := Lib.hid (by
      have h1 : Kp (fun j => ¬ FB g j) w4 w32 := HK31.out.bel hb4
      have h2 : Below g w4 w32 := h1.below (by have := HZ4.out; omega) (fun k hk => by simp only [FB] at hk; omega)
      rw [HG.out]
      have h3 := HB4.out
      rw [HG.out] at h3
      exact h3.trans h2)
    clear hc32 hr32 ho4 hb4 cSl HC31 HR31 HO31 HW31
    go_wp2_with fail
    clear y0 y1 y2 y3 y4 fy r0 r1 r2 r3 r4 fr0 fr1 fr2 fr3 fr4
    obtain ⟨w33, hw33⟩ : ∃ X, (((((w32.setCell ⟨g + 1 + 1 + 1, 4, none⟩ (.slice C4 (n1 + n2 + n3) d4)).setCell ⟨g + 1 + 1, 0, none⟩ (.slice C0 (kk + n2) d0)).setCell ⟨g + 1 + 1, 1, none⟩ (.slice C1 (kk + n2) d1)).setCell ⟨g + 1 + 1, 2, none⟩ (.slice C2 (kk + n2) d2)).setCell ⟨g + 1 + 1, 3, none⟩ (.slice C3 (1 + tn) d3)).setCell ⟨g + 1 + 1, 4, none⟩ (.slice C4 (n1 + n2 + n3) d4) = X := ⟨_, rfl⟩
    have hk33 : Kp (fun j => j = g + 3 ∨ j = g + 2) w32 w33 := by
      rw [← hw33]
      exact ((((((Kp.refl (fun j => j = g + 3 ∨ j = g + 2) w32).setCell (p := ⟨g + 1 + 1 + 1, 4, none⟩) (fun _ => .inl rfl) _).setCell (p := ⟨g + 1 + 1, 0, none⟩) (fun _ => .inr rfl) _).setCell (p := ⟨g + 1 + 1, 1, none⟩) (fun _ => .inr rfl) _).setCell (p := ⟨g + 1 + 1, 2, none⟩) (fun _ => .inr rfl) _).setCell (p := ⟨g + 1 + 1, 3, none⟩) (fun _ => .inr rfl) _).setCell (p := ⟨g + 1 + 1, 4, none⟩) (fun _ => .inr rfl) _
    have hc33 : Cells w33 (g + 2) [.slice C0 (kk + n2) d0, .slice C1 (kk + n2) d1, .slice C2 (kk + n2) d2, .slice C3 (1 + tn) d3, .slice C4 (n1 + n2 + n3) d4] := by
      rw [← hw33]
      exact ((((((HR32.out.far (g := g + 3) (q := 4) (by omega) (.slice C4 (n1 + n2 + n3) d4)).put 0 (by simp) _).put 1 (by simp) _).put 2 (by simp) _).put 3 (by simp) _).put 4 (by simp) _)
    rw [hw33]
    have x0 : w33.cell? ⟨g + 1 + 1, 0, none⟩ = _ := hc33.at_ 0 _ rfl
    have x1 : w33.cell? ⟨g + 1 + 1, 1, none⟩ = _ := hc33.at_ 1 _ rfl
    have x2 : w33.cell? ⟨g + 1 + 1, 2, none⟩ = _ := hc33.at_ 2 _ rfl
    have x3 : w33.cell? ⟨g + 1 + 1, 3, none⟩ = _ := hc33.at_ 3 _ rfl
    have x4 : w33.cell? ⟨g + 1 + 1, 4, none⟩ = _ := hc33.at_ 4 _ rfl
    have hro := HW32.out.kp hk33 (fun j hj e => by rcases e with e | e; { exact HW32.out.f0 j (.inr e) hj }; { exact HW32.out.f0 j (.inl (.inl (by simp only [FB]; omega))) hj }) (fun j hj e => by rcases e with e | e; { exact HW32.out.f1 j (.inr e) hj }; { exact HW32.out.f1 j (.inl (.inl (by simp only [FB]; omega))) hj }) (fun j hj e => by rcases e with e | e; { exact HW32.out.f2 j (.inr e) hj }; { exact HW32.out.f2 j (.inl (.inl (by simp only [FB]; omega))) hj })
    have hon := hk33.own HO32.out (fun j hj e => by have := (HO32.out.lt j hj).1; have := HPB.out; omega)
    have hot := hk33.own HO4.out (fun j hj e => by have := (HO4.out.lt j hj).1; have := HPB.out; have := HZ31.out; omega)
    have hbw : Below w.heap.size w w33 := HB32.out.trans (hk33.below HB32.out.size (fun k hk => by have := HG.out; omega))
    have HFIN : Hid (IsBd x gi sa sn ss sp sl n1 n2 n3 n4 n6 w (.returned (.agg #[.slice C0 (kk + n2) d0, .slice C1 (kk + n2) d1, .slice C2 (kk + n2) d2, .slice C3 (1 + tn) d3, .slice C4 (n1 + n2 + n3) d4])) w33) := Lib.hid (by
      have e1 := HKK.out
      have e2 := HTN.out
      have e3 := HTR.out
      have e4 := HFX.out
      subst e1
      subst e2
      subst e3
      rw [← e4] at hon
      have h1 := HG.out
      have h2 := HPB.out
      have h3 := HZ31.out
      exact ⟨C0, d0, C1, d1, C2, d2, C3, d3, C4, d4, rfl, own_less hro.r0 (by omega), own_less hro.r1 (by omega), own_less hro.r2 (by omega), own_less (by simpa [nodeL] using hon) (by omega), own_less hot (by omega), hbw⟩)
    clear hk33 hc33 hro hon hot hbw hw33
    exact bodyPost_ret (v := .agg #[.slice C0 (kk + n2) d0, .slice C1 (kk + n2) d1, .slice C2 (kk + n2) d2, .slice C3 (1 + tn) d3, .slice C4 (n1 + n2 + n3) d4]) (by simp [results, Try.results8, go_sem, x0, x1, x2, x3, x4]) rfl HFIN.out
end Go.Proofs.Ythfdmpcnebjkjaa
