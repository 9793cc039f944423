/-
  Pieces of bodies, the document's: the piece of a function.
-/
import Derived.Test.YthfdmpcnebjkjaaPd2
import Derived.Test.YthfdmpcnebjkjaaPc7
namespace Go.Proofs.Ythfdmpcnebjkjaa
open Go.RowKit
set_option linter.unusedSimpArgs false
set_option linter.unusedVariables false
abbrev set5 (w : World) (pb : Nat) (u0 u1 u2 u3 u4 : Value) : World := ((((w.setCell ⟨pb, 0, none⟩ u0).setCell ⟨pb, 1, none⟩ u1).setCell ⟨pb, 2, none⟩ u2).setCell ⟨pb, 3, none⟩ u3).setCell ⟨pb, 4, none⟩ u4
def IsA2 (base : Nat) (F : Nat → Prop) (pb k : Nat) (A0 : Option Addr) (c0 : Nat) (A1 : Option Addr) (c1 : Nat) (A2 : Option Addr) (c2 : Nat) (l0 : List DInstr) (l1 l2 : List Int) (w : World) (e : Ending) (w' : World) : Prop :=
  ∃ B0 d0 B1 d1 B2 d2, e = .returned (.agg #[.slice B0 (k + 1) d0, .slice B1 (k + 1) d1, .slice B2 (k + 1) d2, .slice none 0 0, .slice none 0 0]) ∧ Cells w' pb [.slice A0 k c0, .slice A1 k c1, .slice A2 k c2, .slice none 0 0, .slice none 0 0] ∧ Kp (fun j => ¬ F j) w w' ∧
    PcW base F pb (k + 1) l0 l1 l2 (.slice none 0 0) (.slice none 0 0) (set5 w' pb (.slice B0 (k + 1) d0) (.slice B1 (k + 1) d1) (.slice B2 (k + 1) d2) (.slice none 0 0) (.slice none 0 0)) ∧ Kp (fun j => ¬ F j) w (set5 w' pb (.slice B0 (k + 1) d0) (.slice B1 (k + 1) d1) (.slice B2 (k + 1) d2) (.slice none 0 0) (.slice none 0 0))
theorem add_pc {base : Nat} {F : Nat → Prop} {pb k : Nat} {A0 : Option Addr} {c0 : Nat} {A1 : Option Addr} {c1 : Nat} {A2 : Option Addr} {c2 : Nat} {l0 : List DInstr} {l1 l2 : List Int} {w : World} (li nd xo xa : Int)
    (h : PcAt base F pb k l0 l1 l2 (.slice none 0 0) (.slice none 0 0) A0 c0 A1 c1 A2 c2 w) (hk : k ≤ 100000) :
    Calls Try.prog 29 #[.agg #[.slice A0 k c0, .slice A1 k c1, .slice A2 k c2, .slice none 0 0, .slice none 0 0], .agg #[.int .i64 xo, .int .i64 xa], .int .i64 li, .int .i64 nd] w (IsA2 base F pb k A0 c0 A1 c1 A2 c2 (l0 ++ [⟨xo, xa⟩]) (l1 ++ [li]) (l2 ++ [nd]) w) := by
  refine (add_any base (fun j => F j ∨ j = pb) k A0 A1 A2 none none c0 c1 c2 0 0 0 0 l0 l1 l2 li nd xo xa w h.ro hk).mono ?_
  rintro e w' ⟨B0, d0, B1, d1, B2, d2, rfl, hr, hkp⟩
  have hc := h.hd.kp hkp (fun hn => hn (.inr rfl))
  have hkF : Kp (fun j => ¬ F j) w w' := Kp.less hkp (fun j hj => .inl hj)
  refine ⟨B0, d0, B1, d1, B2, d2, rfl, hc, hkF, ⟨B0, d0, B1, d1, B2, d2, ((((hc.put 0 (by simp) _).put 1 (by simp) _).put 2 (by simp) _).put 3 (by simp) _).put 4 (by simp) _, ((((hr.set (q := 0) (.inr rfl) _).set (q := 1) (.inr rfl) _).set (q := 2) (.inr rfl) _).set (q := 3) (.inr rfl) _).set (q := 4) (.inr rfl) _, h.nf⟩, ((((hkF.setCell (p := ⟨pb, 0, none⟩) (fun _ => h.nf) _).setCell (p := ⟨pb, 1, none⟩) (fun _ => h.nf) _).setCell (p := ⟨pb, 2, none⟩) (fun _ => h.nf) _).setCell (p := ⟨pb, 3, none⟩) (fun _ => h.nf) _).setCell (p := ⟨pb, 4, none⟩) (fun _ => h.nf) _⟩
def rfirstM (x : DFunc) (gi sa ss sp sl : Int) (n1 n2 n3 n4 : Nat) : DNode := ⟨sp, gi, sl, ss, (n1 : Int), wrap64 (ss + ownM x (n1 + n2 + n3)), wrap64 (fromM sa n1 + (n4 : Int))⟩
theorem PcAt.on {base : Nat} {F : Nat → Prop} {pb k : Nat} {A0 : Option Addr} {c0 : Nat} {A1 : Option Addr} {c1 : Nat} {A2 : Option Addr} {c2 : Nat} {l0 : List DInstr} {l1 l2 : List Int} {v3 v4 : Value} {W W' : World} (h : PcAt base F pb k l0 l1 l2 v3 v4 A0 c0 A1 c1 A2 c2 W) (hb : Below W.heap.size W W') : PcAt base F pb k l0 l1 l2 v3 v4 A0 c0 A1 c1 A2 c2 W' := ⟨h.hd.on hb, h.ro.on hb, h.nf⟩
theorem resume_same (sa : Int) (a b : Nat) : wrap64 (fromM sa a + (b : Int)) = wrap64 (sa + ((a + 1 + b : Nat) : Int)) := by
  unfold fromM wrap64
  omega
def S9 (pb : Nat) (wr w31 W : World) : Prop := Kp (fun j => j = pb ∨ wr.heap.size ≤ j) w31 W
set_option maxRecDepth 100000 in
set_option maxHeartbeats 64000000 in
theorem rbd_any (gi : Int) (s : ByteArray) (b : Bool) (A0 : Option Addr) (n0 c0 : Nat) (A1 : Option Addr) (n1 c1 : Nat) (A2 : Option Addr) (n2 c2 : Nat) (A3 : Option Addr) (n3 c3 : Nat) (A4 : Option Addr) (n4 c4 : Nat) (A5 : Option Addr) (n5 c5 : Nat) (A6 : Option Addr) (n6 c6 : Nat) (A7 : Option Addr) (n7 c7 : Nat) (A8 : Option Addr) (n8 c8 : Nat) (sa sn ss sp sl : Int) (x : DFunc) (w : World) (hfn : FnW w w.heap.size s b A0 n0 c0 A1 n1 c1 A2 n2 c2 A3 n3 c3 A4 n4 c4 A5 n5 c5 A6 n6 c6 A7 n7 c7 A8 n8 c8 x) (hok : n6 + n7 + n8 = 0 ∨ 1 ≤ n6) (hln : n5 = n4) :
    Calls Try.prog 9 #[.int .i64 gi, .agg #[.string s, .bool b, .slice A0 n0 c0, .slice A1 n1 c1, .slice A2 n2 c2, .slice A3 n3 c3, .slice A4 n4 c4, .slice A5 n5 c5, .slice A6 n6 c6, .slice A7 n7 c7, .slice A8 n8 c8], .agg #[.int .i64 sa, .int .i64 sn, .int .i64 ss, .int .i64 sp, .int .i64 sl]] w (IsBd x gi sa sn ss sp sl n1 n2 n3 n4 n6 w) := by
  obtain ⟨i0, hi, hz0, hz1, hz2⟩ := info_parts info_int
  obtain ⟨s4, s5, s6, s7, s8, s0⟩ := hfn.sm
  obtain ⟨w4, hw4⟩ : ∃ X, ((((w.alloc (.cells #[.string s, .bool b, .slice A0 n0 c0, .slice A1 n1 c1, .slice A2 n2 c2, .slice A3 n3 c3, .slice A4 n4 c4, .slice A5 n5 c5, .slice A6 n6 c6, .slice A7 n7 c7, .slice A8 n8 c8] 28)).alloc (.cells #[.int .i64 sa, .int .i64 sn, .int .i64 ss, .int .i64 sp, .int .i64 sl] 40)).alloc (.cells #[.slice none 0 0, .slice none 0 0, .slice none 0 0, .slice none 0 0, .slice none 0 0] 38)).alloc (.cells #[.slice none 0 0, .slice none 0 0, .slice none 0 0, .slice none 0 0, .slice none 0 0] 38)) = X := ⟨_, rfl⟩
  obtain ⟨g, hg⟩ : ∃ g, w.heap.size = g := ⟨_, rfl⟩
  have hb24 : Below ((w.alloc (.cells #[.string s, .bool b, .slice A0 n0 c0, .slice A1 n1 c1, .slice A2 n2 c2, .slice A3 n3 c3, .slice A4 n4 c4, .slice A5 n5 c5, .slice A6 n6 c6, .slice A7 n7 c7, .slice A8 n8 c8] 28)).alloc (.cells #[.int .i64 sa, .int .i64 sn, .int .i64 ss, .int .i64 sp, .int .i64 sl] 40)).heap.size ((w.alloc (.cells #[.string s, .bool b, .slice A0 n0 c0, .slice A1 n1 c1, .slice A2 n2 c2, .slice A3 n3 c3, .slice A4 n4 c4, .slice A5 n5 c5, .slice A6 n6 c6, .slice A7 n7 c7, .slice A8 n8 c8] 28)).alloc (.cells #[.int .i64 sa, .int .i64 sn, .int .i64 ss, .int .i64 sp, .int .i64 sl] 40)) w4 := by rw [← hw4]; exact two_below
  have hca : Cells w4 g #[.string s, .bool b, .slice A0 n0 c0, .slice A1 n1 c1, .slice A2 n2 c2, .slice A3 n3 c3, .slice A4 n4 c4, .slice A5 n5 c5, .slice A6 n6 c6, .slice A7 n7 c7, .slice A8 n8 c8].toList := by
    have h2 := (Cells.new w #[.string s, .bool b, .slice A0 n0 c0, .slice A1 n1 c1, .slice A2 n2 c2, .slice A3 n3 c3, .slice A4 n4 c4, .slice A5 n5 c5, .slice A6 n6 c6, .slice A7 n7 c7, .slice A8 n8 c8].toList 28).on (bl_one (.cells #[.int .i64 sa, .int .i64 sn, .int .i64 ss, .int .i64 sp, .int .i64 sl] 40))
    rw [hg] at h2
    exact h2.on hb24
  have hcb : Cells w4 (g + 1) #[.int .i64 sa, .int .i64 sn, .int .i64 ss, .int .i64 sp, .int .i64 sl].toList := by
    have h2 := Cells.new (w.alloc (.cells #[.string s, .bool b, .slice A0 n0 c0, .slice A1 n1 c1, .slice A2 n2 c2, .slice A3 n3 c3, .slice A4 n4 c4, .slice A5 n5 c5, .slice A6 n6 c6, .slice A7 n7 c7, .slice A8 n8 c8] 28)) #[.int .i64 sa, .int .i64 sn, .int .i64 ss, .int .i64 sp, .int .i64 sl].toList 40
    have e : (w.alloc (.cells #[.string s, .bool b, .slice A0 n0 c0, .slice A1 n1 c1, .slice A2 n2 c2, .slice A3 n3 c3, .slice A4 n4 c4, .slice A5 n5 c5, .slice A6 n6 c6, .slice A7 n7 c7, .slice A8 n8 c8] 28)).heap.size = g + 1 := by simp; omega
    rw [e] at h2
    exact h2.on hb24
  have hb4 : Below w.heap.size w w4 := by rw [← hw4]; exact two_below.trans (two_below.mono (by simp; omega))
  have hz4 : w4.heap.size = g + 4 := by rw [← hw4]; simp; omega
  have hc3 : Cells w4 (g + 3) #[.slice none 0 0, .slice none 0 0, .slice none 0 0, .slice none 0 0, .slice none 0 0].toList := by
    have h2 := Cells.new (((w.alloc (.cells #[.string s, .bool b, .slice A0 n0 c0, .slice A1 n1 c1, .slice A2 n2 c2, .slice A3 n3 c3, .slice A4 n4 c4, .slice A5 n5 c5, .slice A6 n6 c6, .slice A7 n7 c7, .slice A8 n8 c8] 28)).alloc (.cells #[.int .i64 sa, .int .i64 sn, .int .i64 ss, .int .i64 sp, .int .i64 sl] 40)).alloc (.cells #[.slice none 0 0, .slice none 0 0, .slice none 0 0, .slice none 0 0, .slice none 0 0] 38)) #[.slice none 0 0, .slice none 0 0, .slice none 0 0, .slice none 0 0, .slice none 0 0].toList 38
    have e : (((w.alloc (.cells #[.string s, .bool b, .slice A0 n0 c0, .slice A1 n1 c1, .slice A2 n2 c2, .slice A3 n3 c3, .slice A4 n4 c4, .slice A5 n5 c5, .slice A6 n6 c6, .slice A7 n7 c7, .slice A8 n8 c8] 28)).alloc (.cells #[.int .i64 sa, .int .i64 sn, .int .i64 ss, .int .i64 sp, .int .i64 sl] 40)).alloc (.cells #[.slice none 0 0, .slice none 0 0, .slice none 0 0, .slice none 0 0, .slice none 0 0] 38)).heap.size = g + 3 := by simp; omega
    rw [e] at h2
    rw [← hw4]
    exact h2
  have hc2 : Cells w4 (g + 2) #[.slice none 0 0, .slice none 0 0, .slice none 0 0, .slice none 0 0, .slice none 0 0].toList := by
    have h2 := Cells.new ((w.alloc (.cells #[.string s, .bool b, .slice A0 n0 c0, .slice A1 n1 c1, .slice A2 n2 c2, .slice A3 n3 c3, .slice A4 n4 c4, .slice A5 n5 c5, .slice A6 n6 c6, .slice A7 n7 c7, .slice A8 n8 c8] 28)).alloc (.cells #[.int .i64 sa, .int .i64 sn, .int .i64 ss, .int .i64 sp, .int .i64 sl] 40)) #[.slice none 0 0, .slice none 0 0, .slice none 0 0, .slice none 0 0, .slice none 0 0].toList 38
    have e : ((w.alloc (.cells #[.string s, .bool b, .slice A0 n0 c0, .slice A1 n1 c1, .slice A2 n2 c2, .slice A3 n3 c3, .slice A4 n4 c4, .slice A5 n5 c5, .slice A6 n6 c6, .slice A7 n7 c7, .slice A8 n8 c8] 28)).alloc (.cells #[.int .i64 sa, .int .i64 sn, .int .i64 ss, .int .i64 sp, .int .i64 sl] 40)).heap.size = g + 2 := by simp; omega
    rw [e] at h2
    rw [← hw4]
    exact h2.on (bl_one _)
  have HP4 : Hid (PcW (g + 4) (FB g) (g + 3) 0 [] [] [] (.slice none 0 0) (.slice none 0 0) w4) := Lib.hid ⟨none, 0, none, 0, none, 0, hc3, Rw.start (fun j hj => by rcases hj with hj | hj <;> (simp only [FB] at *; omega)) (by omega), by simp [FB]⟩
  have HRC := Lib.hid hc2
  have HB4 := Lib.hid hb4
  have HZ4 := Lib.hid hz4
  have HG := Lib.hid hg
  have EQ : Hid (∀ W, BK (FB g) w4 W → (W.cell? ⟨g, 0, none⟩ = some (.string s) ∧ W.cell? ⟨g, 1, none⟩ = some (.bool b) ∧ W.cell? ⟨g, 2, none⟩ = some (.slice A0 n0 c0) ∧ W.cell? ⟨g, 3, none⟩ = some (.slice A1 n1 c1) ∧ W.cell? ⟨g, 4, none⟩ = some (.slice A2 n2 c2) ∧ W.cell? ⟨g, 5, none⟩ = some (.slice A3 n3 c3) ∧ W.cell? ⟨g, 6, none⟩ = some (.slice A4 n4 c4) ∧ W.cell? ⟨g, 7, none⟩ = some (.slice A5 n5 c5) ∧ W.cell? ⟨g, 8, none⟩ = some (.slice A6 n6 c6) ∧ W.cell? ⟨g, 9, none⟩ = some (.slice A7 n7 c7) ∧ W.cell? ⟨g, 10, none⟩ = some (.slice A8 n8 c8)) ∧ W.cell? ⟨g + 1, 0, none⟩ = some (.int .i64 sa) ∧ W.cell? ⟨g + 1, 1, none⟩ = some (.int .i64 sn) ∧ W.cell? ⟨g + 1, 2, none⟩ = some (.int .i64 ss) ∧ W.cell? ⟨g + 1, 3, none⟩ = some (.int .i64 sp) ∧ W.cell? ⟨g + 1, 4, none⟩ = some (.int .i64 sl)) := Lib.hid fun W hW => by
    have h3 := hca.kp hW (fun h => h (by simp only [FB]; omega))
    have h5 := hcb.kp hW (fun h => h (by simp only [FB]; omega))
    exact ⟨⟨h3.at_ 0 _ rfl, h3.at_ 1 _ rfl, h3.at_ 2 _ rfl, h3.at_ 3 _ rfl, h3.at_ 4 _ rfl, h3.at_ 5 _ rfl, h3.at_ 6 _ rfl, h3.at_ 7 _ rfl, h3.at_ 8 _ rfl, h3.at_ 9 _ rfl, h3.at_ 10 _ rfl⟩, h5.at_ 0 _ rfl, h5.at_ 1 _ rfl, h5.at_ 2 _ rfl, h5.at_ 3 _ rfl, h5.at_ 4 _ rfl⟩
  have HFN : Hid (∀ W, BK (FB g) w4 W → FnW W g s b A0 n0 c0 A1 n1 c1 A2 n2 c2 A3 n3 c3 A4 n4 c4 A5 n5 c5 A6 n6 c6 A7 n7 c7 A8 n8 c8 x ∧ g ≤ W.heap.size) := Lib.hid fun W hW => by
    have h1 := hfn.keep hb4
    rw [hg] at h1
    have hz := hW.size
    exact ⟨h1.bk (fun j hj => by simp only [FB]; omega) (by omega) hW, by omega⟩
  have HFM : Hid (∀ W, BK (FB g) w4 W → FnW W W.heap.size s b A0 n0 c0 A1 n1 c1 A2 n2 c2 A3 n3 c3 A4 n4 c4 A5 n5 c5 A6 n6 c6 A7 n7 c7 A8 n8 c8 x) := Lib.hid fun W hW => (HFN.out W hW).1.more (HFN.out W hW).2
  have HLEN : Hid (x.code.length = n4) := Lib.hid hfn.r4.1
  have k1 : (n1 : Int) ≤ 300 := by omega
  have p1 : (0 : Int) ≤ (n1 : Int) := by omega
  have k2 : (n2 : Int) ≤ 300 := by omega
  have p2 : (0 : Int) ≤ (n2 : Int) := by omega
  have k4 : (n4 : Int) ≤ 150 := by omega
  have p4 : (0 : Int) ≤ (n4 : Int) := by omega
  have k5 : (n5 : Int) ≤ 150 := by omega
  have p5 : (0 : Int) ≤ (n5 : Int) := by omega
  have HOK := Lib.hid hok
  have HLN := Lib.hid hln
  obtain ⟨⟨e0, e1, e2, e3, e4, e5, e6, e7, e8, e9, e10⟩, b0, b1, b2, b3, b4⟩ := EQ.out w4 (Kp.refl _ _)
  clear hb24 hca hcb hb4 hc3 hc2 hfn hz4 hok hln
  go_enter Try.func9, Try.ntmps9
  go_wp2_with fail
  clear e0 e1 e2 e3 e4 e5 e6 e7 e8 e9 e10 b0 b1 b2 b3 b4 hw4 hg
  go_loopw [8] (fun iv wr => ∃ (j : Nat) (y : Int), iv = .int .i64 y ∧ y = (n1 : Int) - 1 - (j : Int) ∧ j ≤ n1 ∧ Hid (PcW (g + 4) (FB g) (g + 3) j (begC n1 ss j) (List.replicate j sl) (List.replicate j sp) (.slice none 0 0) (.slice none 0 0) wr ∧ BK (FB g) w4 wr)) (fun iv _ => (intOf iv + 1).toNat)
  case atStart => exact ⟨0, (n1 : Int) - 1, rfl, by omega, Nat.zero_le _, Lib.hid ⟨HP4.out, Kp.refl _ _⟩⟩
  case round =>
    obtain ⟨j, y, rfl, hy, hj, HK⟩ := hrel
    have HX := Lib.hid hy
    have hy0 : -1 ≤ y := by omega
    have hy1 : y ≤ 300 := by omega
    obtain ⟨⟨e0, e1, e2, e3, e4, e5, e6, e7, e8, e9, e10⟩, b0, b1, b2, b3, b4⟩ := EQ.out wr HK.out.2
    obtain ⟨C0, d0, C1, d1, C2, d2, hpa⟩ := HK.out.1
    have q0 := hpa.hd.at_ 0 _ rfl
    have q1 := hpa.hd.at_ 1 _ rfl
    have q2 := hpa.hd.at_ 2 _ rfl
    have q3 := hpa.hd.at_ 3 _ rfl
    have q4 := hpa.hd.at_ 4 _ rfl
    by_cases hlt : j < n1
    · have hge : 0 ≤ y := by omega
      have cL := Lib.hid (add_pc sl sp 3 (wrap64 (ss + y)) hpa (by omega))
      clear hy hpa
      go_wp2_with fail
      refine cL.out.mono ?_
      rintro e w3 ⟨B0, d0, B1, d1, B2, d2, rfl, hc3, hk3, hp3, hq3⟩
      clear e0 e1 e2 e3 e4 e5 e6 e7 e8 e9 e10 b0 b1 b2 b3 b4 q0 q1 q2 q3 q4
      have r0 := hc3.at_ 0 _ rfl
      have r1 := hc3.at_ 1 _ rfl
      have r2 := hc3.at_ 2 _ rfl
      have r3 := hc3.at_ 3 _ rfl
      have r4 := hc3.at_ 4 _ rfl
      have f0 := hc3.fz 0 (by simp)
      have f1 := hc3.fz 1 (by simp)
      have f2 := hc3.fz 2 (by simp)
      have f3 := hc3.fz 3 (by simp)
      have f4 := hc3.fz 4 (by simp)
      obtain ⟨wn, hwn⟩ : ∃ X, set5 w3 (g + 3) (.slice B0 (j + 1) d0) (.slice B1 (j + 1) d1) (.slice B2 (j + 1) d2) (.slice none 0 0) (.slice none 0 0) = X := ⟨_, rfl⟩
      rw [hwn] at hp3 hq3
      have HN : Hid (PcW (g + 4) (FB g) (g + 3) (j + 1) (begC n1 ss (j + 1)) (List.replicate (j + 1) sl) (List.replicate (j + 1) sp) (.slice none 0 0) (.slice none 0 0) wn ∧ BK (FB g) w4 wn) := Lib.hid ⟨by
        rw [begC_next _ _ _ HX.out, rep_next, rep_next] at hp3
        exact hp3, HK.out.2.trans hq3⟩
      clear hp3 hq3 hc3 hk3 cL HK
      go_wp2_with fail
      go_roundw
      case rel => exact ⟨j + 1, y - 1, by go_num, by have := HX.out; omega, by omega, HN⟩
      case measure => simp [intOf]; omega
    · obtain rfl : j = n1 := by omega
      have hge : ¬ 0 ≤ y := by omega
      have cL := Lib.hid (add_pc sl sp 33 sn hpa (by omega))
      clear hy hpa
      go_wp2_with fail
      refine cL.out.mono ?_
      rintro e w3 ⟨B0, d0, B1, d1, B2, d2, rfl, hc3, hk3, hp3, hq3⟩
      clear q0 q1 q2 q3 q4 e0 e1 e2 e3 e4 e5 e6 e7 e8 e9 e10 b0 b1 b2 b3 b4
      have r0 := hc3.at_ 0 _ rfl
      have r1 := hc3.at_ 1 _ rfl
      have r2 := hc3.at_ 2 _ rfl
      have r3 := hc3.at_ 3 _ rfl
      have r4 := hc3.at_ 4 _ rfl
      have f0 := hc3.fz 0 (by simp)
      have f1 := hc3.fz 1 (by simp)
      have f2 := hc3.fz 2 (by simp)
      have f3 := hc3.fz 3 (by simp)
      have f4 := hc3.fz 4 (by simp)
      obtain ⟨⟨e0, e1, e2, e3, e4, e5, e6, e7, e8, e9, e10⟩, b0, b1, b2, b3, b4⟩ := EQ.out w3 (HK.out.2.trans hk3)
      obtain ⟨w5, hw5⟩ : ∃ X, set5 w3 (g + 3) (.slice B0 (j + 1) d0) (.slice B1 (j + 1) d1) (.slice B2 (j + 1) d2) (.slice none 0 0) (.slice none 0 0) = X := ⟨_, rfl⟩
      rw [hw5] at hp3 hq3
      have HP5 : Hid (PcW (g + 4) (FB g) (g + 3) (j + 1) (begC j ss j ++ [⟨33, sn⟩]) (List.replicate (j + 1) sl) (List.replicate (j + 1) sp) (.slice none 0 0) (.slice none 0 0) w5) := Lib.hid (by
        rw [rep_next, rep_next] at hp3
        exact hp3)
      have HK5 : Hid (BK (FB g) w4 w5) := Lib.hid (HK.out.2.trans hq3)
      clear e0 e1 e2 e3 e4 e5 e6 e7 e8 e9 e10 b0 b1 b2 b3 b4
      obtain ⟨⟨e0, e1, e2, e3, e4, e5, e6, e7, e8, e9, e10⟩, b0, b1, b2, b3, b4⟩ := EQ.out w5 HK5.out
      clear hp3 hq3 hc3 hk3 cL HK
      go_wp2_with fail
      clear e0 e1 e2 e3 e4 e5 e6 e7 e8 e9 e10 b0 b1 b2 b3 b4 r0 r1 r2 r3 r4 f0 f1 f2 f3 f4 hw5
      obtain ⟨pb, hpb⟩ : ∃ p, fromM sa j = p := ⟨_, rfl⟩
      rw [show wrap64 (wrap64 (sa + (j : Int)) + 1) = pb from hpb]
      go_loopw [10, 11] (fun ov iv wr => ∃ (k : Nat) (A : Option Addr) (c : Nat), ov = .slice A k c ∧ iv = .int .i64 (k : Int) ∧ k ≤ 2000 ∧ Hid (wr.ownsRow w5.heap.size 3 1 (.slice A k c) k (rowI (placeM pb k)) ∧ Below w5.heap.size w5 wr)) (fun _ iv _ => 2000 - (intOf iv).toNat)
      case atStart => exact ⟨0, none, 0, rfl, rfl, Nat.zero_le _, Lib.hid ⟨⟨rfl, .inl ⟨rfl, rfl⟩⟩, Below.refl _ _⟩⟩
      case round =>
        obtain ⟨k, A, c, rfl, rfl, hk, HK⟩ := hrel
        have hk0 : (0 : Int) ≤ (k : Int) := by omega
        have hkb : (k : Int) ≤ 2000 := by omega
        by_cases hlt : k < 2000
        · have hkn : (k : Int) < 2000 := by omega
          have HZr : Hid (w5.heap.size ≤ wr.heap.size) := Lib.hid HK.out.2.size
          have hsrc := Lib.hid (src_int wr (wrap64 (pb + (k : Int))))
          have HE := Lib.hid (placeM_next pb k)
          go_wp2_with (first
            | (at_builtin; go_must (refine wpList_append_src _ rfl _ _ 24 rfl w5.heap.size 3 i0 (.int .i64 0) 1 8 Try.underlying24 hi hz0 hz1 hz2 rfl (by decide) _ _ _ rfl (HK.out.1.alloc _) (some ⟨wr.heap.size, 0, none⟩) 1 1 [.int .i64 (wrap64 (pb + (k : Int)))] rfl hsrc.out (one_int _) (by unfold maxLen; omega) (by omega) (by have := HZr.out; simp; omega) ?_)
               intro v' w7 hown' hgrow3 hat3
               obtain ⟨A', c', rfl, X1, X2, _⟩ := app_int HK.out.2 HZr.out HK.out.1 hown' hgrow3
               rw [HE.out] at X1
               have XR := Lib.hid X1
               have XB := Lib.hid X2
               clear X1 X2 hown' hgrow3 hat3)
            | fail)
          go_roundw
          case rel => exact ⟨k + 1, A', c', rfl, by go_num, by omega, Lib.hid ⟨XR.out, XB.out⟩⟩
          case measure => simp [intOf]; omega
        · obtain rfl : k = 2000 := by omega
          have HKr : Hid (BK (FB g) w4 wr) := Lib.hid (HK5.out.bel HK.out.2)
          obtain ⟨⟨e0, e1, e2, e3, e4, e5, e6, e7, e8, e9, e10⟩, b0, b1, b2, b3, b4⟩ := EQ.out wr HKr.out
          obtain ⟨pl, hpl⟩ : ∃ p, placeM pb 2000 = p := ⟨_, rfl⟩
          have cC := Lib.hid (refCode_any n4 c4 2000 c A4 A x.code pl ss sn wr (HFM.out wr HKr.out).r4 (by have := SlI.own HK.out.1 (by omega); rw [hpl] at this; exact this) (by omega) (by omega))
          go_wp2_with fail
          refine cC.out.mono ?_
          rintro e w6 ⟨AC, cc, rfl, _, hb6, ho6⟩
          have HW6 : Hid (Below w5.heap.size w5 w6) := Lib.hid (HK.out.2.trans (hb6.mono HK.out.2.size))
          have HYO : Hid (w6.ownsRow w5.heap.size 49 2 (.slice AC n4 cc) n4 ((x.code.map (instrM pl ss sn)).flatMap cellsI)) := Lib.hid (own_less ho6 HK.out.2.size)
          obtain ⟨ys, hys⟩ : ∃ y, x.code.map (instrM pl ss sn) = y := ⟨_, rfl⟩
          have HRT : Hid (bodyC (placeM (fromM sa j) 2000) ss sn x.code = ys.map (retM sn) ∧ ys.length = n4) := Lib.hid ⟨by rw [hpb, hpl, ← hys]; unfold bodyC; rw [List.map_map]; rfl, by rw [← hys, List.length_map]; exact HLEN.out⟩
          rw [hys] at HYO
          have HPB := Lib.hid hpb
          have HZ5 : Hid (w4.heap.size ≤ w5.heap.size ∧ w5.heap.size ≤ w6.heap.size) := Lib.hid ⟨HK5.out.size, HW6.out.size⟩
          have HP6 : Hid (PcW (g + 4) (FG3 (FB g) w5.heap.size w6.heap.size) (g + 3) (j + 1) (begC j ss j ++ [⟨33, sn⟩]) (List.replicate (j + 1) sl) (List.replicate (j + 1) sp) (.slice none 0 0) (.slice none 0 0) w6) := Lib.hid (HP5.out.widen HW6.out)
          have HSW6 : Hid (∀ W, BK (FG3 (FB g) w5.heap.size w6.heap.size) w6 W → BK (FB g) w4 W) := Lib.hid fun W hW => (HK5.out.bel HW6.out).trans (Kp.less hW fun j hj => .inl hj)
          have HYR : Hid (∀ W, BK (FG3 (FB g) w5.heap.size w6.heap.size) w6 W → ∀ j, j < n4 → ∃ r y, AC = some ⟨r, 0, none⟩ ∧ ys[j]? = some y ∧ W.cell? ⟨r, j * 2, none⟩ = some (.int .i64 y.op) ∧ W.cell? ⟨r, j * 2 + 1, none⟩ = some (.int .i64 y.a)) := Lib.hid fun W hW j hj => by
            obtain ⟨y, hy⟩ : ∃ y, ys[j]? = some y := ⟨_, List.getElem?_eq_getElem (by have := HRT.out.2; omega)⟩
            obtain ⟨A2, c2, hv, hA0, hA1⟩ := own_form HYO.out
            simp only [Value.slice.injEq, true_and] at hv
            obtain ⟨rfl, rfl⟩ := hv
            obtain ⟨ad, rfl⟩ : ∃ ad, AC = some ad := by
              cases AC with
              | none => exact absurd (hA0 rfl) (by omega)
              | some ad => exact ⟨ad, rfl⟩
            obtain ⟨r, rfl, hr1, hr2⟩ := hA1 ad rfl
            have hc : Cells W r (ys.flatMap cellsI) := (Cells.own HYO.out).kp hW (fun hn => hn (.inr ⟨hr1, hr2⟩))
            exact ⟨r, y, rfl, hy, by simpa using hc.at_ (j * 2) _ (by have := flatMap_at cellsI (sz := 2) (fun _ => rfl) ys j 0 y _ (by omega) hy rfl; exact this), hc.at_ (j * 2 + 1) _ (flatMap_at cellsI (sz := 2) (fun _ => rfl) ys j 1 y _ (by omega) hy rfl)⟩
          clear e0 e1 e2 e3 e4 e5 e6 e7 e8 e9 e10 b0 b1 b2 b3 b4 hb6 ho6 cC HK hys hpl hpb
          go_wp2_with fail
          go_loopw [13] (fun iv wr => ∃ (m : Nat), iv = .int .i64 (m : Int) ∧ m ≤ n4 ∧ Hid (PcW (g + 4) (FG3 (FB g) w5.heap.size w6.heap.size) (g + 3) (j + 1 + m) (begC j ss j ++ [⟨33, sn⟩] ++ (ys.take m).map (retM sn)) (List.replicate (j + 1) sl ++ lnU x.lines m) (List.replicate (j + 1) sp ++ atU x sn m) (.slice none 0 0) (.slice none 0 0) wr ∧ BK (FG3 (FB g) w5.heap.size w6.heap.size) w6 wr)) (fun iv _ => n4 - (intOf iv).toNat)
          case atStart => exact ⟨0, rfl, Nat.zero_le _, Lib.hid ⟨by simpa [lnU, atU] using HP6.out, Kp.refl _ _⟩⟩
          case round =>
            obtain ⟨m, rfl, hm, HK⟩ := hrel
            have hm0 : (0 : Int) ≤ (m : Int) := by omega
            have hm1 : (m : Int) ≤ 150 := by omega
            by_cases hlt : m < n4
            · have hmn : (m : Int) < (n4 : Int) := by omega
              have hm5 : (m : Int) < (n5 : Int) := by have := HLN.out; omega
              obtain ⟨r, y, rfl, hy, y0, y1⟩ := HYR.out wr HK.out.2 m hlt
              obtain ⟨yo, ya⟩ := y
              dsimp only at y0 y1
              obtain ⟨ib, hib⟩ : ∃ X, wr.heap.size = X := ⟨_, rfl⟩
              obtain ⟨wi, hwi⟩ : ∃ X, wr.alloc (.cells #[.int .i64 yo, .int .i64 ya] 49) = X := ⟨_, rfl⟩
              have hbi : Below wr.heap.size wr wi := by rw [← hwi]; exact bl_one _
              have hci : Cells wi ib [.int .i64 yo, .int .i64 ya] := by rw [← hwi, ← hib]; exact Cells.new wr [.int .i64 yo, .int .i64 ya] _
              have hzi : wi.heap.size = ib + 1 := by rw [← hwi]; simp; omega
              have HPi : Hid (PcW (g + 4) (FG3 (FG3 (FB g) w5.heap.size w6.heap.size) wr.heap.size wi.heap.size) (g + 3) (j + 1 + m) (begC j ss j ++ [⟨33, sn⟩] ++ (ys.take m).map (retM sn)) (List.replicate (j + 1) sl ++ lnU x.lines m) (List.replicate (j + 1) sp ++ atU x sn m) (.slice none 0 0) (.slice none 0 0) wi) := Lib.hid (HK.out.1.widen hbi)
              have HBi : Hid (BK (FG3 (FB g) w5.heap.size w6.heap.size) w6 wi) := Lib.hid (HK.out.2.bel hbi)
              have HSR : Hid (w6.heap.size ≤ wr.heap.size) := Lib.hid HK.out.2.size
              have HIB : Hid (wr.heap.size = ib ∧ wi.heap.size = ib + 1) := Lib.hid ⟨hib, hzi⟩
              have HY := Lib.hid hy
              clear hbi hzi hy HK
              obtain ⟨⟨e0, e1, e2, e3, e4, e5, e6, e7, e8, e9, e10⟩, b0, b1, b2, b3, b4⟩ := EQ.out wi (HSW6.out wi HBi.out)
              have x0 := hci.at_ 0 _ rfl
              have x1 := hci.at_ 1 _ rfl
              have f0 := hci.fz 0 (by simp)
              have f1 := hci.fz 1 (by simp)
              by_cases h25 : yo = 25
              · have t25 : (yo == 25) = true := by simpa using h25
                have HRN : Hid (retM sn ⟨yo, ya⟩ = ⟨34, sn⟩) := Lib.hid (by unfold retM; rw [if_pos h25])
                obtain ⟨wj, hwj⟩ : ∃ X, (wi.setCell ⟨ib, 0, none⟩ (.int .i64 34)).setCell ⟨ib, 1, none⟩ (.int .i64 sn) = X := ⟨_, rfl⟩
                have HCJ : Hid (Cells wj ib [.int .i64 34, .int .i64 sn]) := Lib.hid (by rw [← hwj]; exact (hci.put 0 (by simp) _).put 1 (by simp) _)
                have hkj : Kp (fun j => j = ib) wi wj := by rw [← hwj]; exact ((Kp.refl (fun j => j = ib) wi).setCell (p := ⟨ib, 0, none⟩) (fun _ => rfl) _).setCell (p := ⟨ib, 1, none⟩) (fun _ => rfl) _
                have HPj : Hid (PcW (g + 4) (FG3 (FG3 (FB g) w5.heap.size w6.heap.size) wr.heap.size wi.heap.size) (g + 3) (j + 1 + m) (begC j ss j ++ [⟨33, sn⟩] ++ (ys.take m).map (retM sn)) (List.replicate (j + 1) sl ++ lnU x.lines m) (List.replicate (j + 1) sp ++ atU x sn m) (.slice none 0 0) (.slice none 0 0) wj) := Lib.hid (HPi.out.far hkj (.inr ⟨by have := HIB.out; omega, by have := HIB.out; omega⟩))
                have HBj : Hid (BK (FG3 (FB g) w5.heap.size w6.heap.size) w6 wj) := Lib.hid (HBi.out.trans (hkj.mono fun j _ e hG => by
                  have h1 := HIB.out
                  have h2 := HSR.out
                  have h3 := HZ5.out
                  have h4 := HZ4.out
                  rw [e] at hG
                  rcases hG with hG | hG
                  · simp only [FB] at hG; omega
                  · omega))
                obtain ⟨bl, ol, rfl, _, l0⟩ := (HFM.out wj (HSW6.out wj HBj.out)).r5.getD (show m < n5 by have := HLN.out; omega) 0
                obtain ⟨lv, hlv⟩ : ∃ v, x.lines.getD m 0 = v := ⟨_, rfl⟩
                rw [hlv] at l0
                have HLV : Hid (lineM x.lines m = lv) := Lib.hid hlv
                obtain ⟨⟨_, _, _, _, _, _, _, i7, _, _, _⟩, _, _, _, _, _⟩ := EQ.out wj (HSW6.out wj HBj.out)
                clear h25 hci hkj
                go_wp2_with fail
                clear x0 x1 f0 f1 hwi hib hwj e0 e1 e2 e3 e4 e5 e6 e7 e8 e9 e10 b0 b1 b2 b3 b4 l0 i7 y0 y1
                have HSW : Hid (∀ W, BK (FG3 (FG3 (FB g) w5.heap.size w6.heap.size) wr.heap.size wi.heap.size) wj W → BK (FG3 (FB g) w5.heap.size w6.heap.size) w6 W) := Lib.hid fun W hW => HBj.out.trans (Kp.less hW fun j hj => .inl hj)
                have HCI : Hid (∀ W, BK (FG3 (FG3 (FB g) w5.heap.size w6.heap.size) wr.heap.size wi.heap.size) wj W → W.cell? ⟨ib, 0, none⟩ = some (.int .i64 34) ∧ W.cell? ⟨ib, 1, none⟩ = some (.int .i64 sn)) := Lib.hid fun W hW => by
                  have h1 := HCJ.out.kp hW (fun hn => hn (.inr ⟨by have := HIB.out; omega, by have := HIB.out; omega⟩))
                  exact ⟨h1.at_ 0 _ rfl, h1.at_ 1 _ rfl⟩
                obtain ⟨nd, hnd⟩ : ∃ v, ndM x m = v := ⟨_, rfl⟩
                have cNd : Hid (∀ W, BK (FG3 (FG3 (FB g) w5.heap.size w6.heap.size) wr.heap.size wi.heap.size) wj W → Calls Try.prog 31 #[.agg #[.string s, .bool b, .slice A0 n0 c0, .slice A1 j c1, .slice A2 n2 c2, .slice A3 n3 c3, .slice A4 n4 c4, .slice (some ⟨bl, ol, none⟩) n5 c5, .slice A6 n6 c6, .slice A7 n7 c7, .slice A8 n8 c8], .int .i64 (m : Int)] W fun e w' => e = .returned (.int .i64 nd) ∧ Below W.heap.size W w') := Lib.hid fun W hW => by rw [← hnd]; exact rnode_any s b A0 n0 c0 A1 j c1 A2 n2 c2 A3 n3 c3 A4 n4 c4 (some ⟨bl, ol, none⟩) n5 c5 A6 n6 c6 A7 n7 c7 A8 n8 c8 x m W (HFM.out W (HSW6.out W (HSW.out W hW))) (by omega)
                have HND : Hid (ndM x m = nd) := Lib.hid hnd
                clear hnd
                obtain ⟨C0, d0, C1, d1, C2, d2, hpa⟩ := HPj.out
                have HP0 : Hid (PcAt (g + 4) (FG3 (FG3 (FB g) w5.heap.size w6.heap.size) wr.heap.size wi.heap.size) (g + 3) (j + 1 + m) (begC j ss j ++ [⟨33, sn⟩] ++ (ys.take m).map (retM sn)) (List.replicate (j + 1) sl ++ lnU x.lines m) (List.replicate (j + 1) sp ++ atU x sn m) (.slice none 0 0) (.slice none 0 0) C0 d0 C1 d1 C2 d2 wj.drew) := Lib.hid (hpa.on ((Below.refl _ _).drew))
                clear hpa
                refine wp_region_held (S := fun W => BK (FG3 (FG3 (FB g) w5.heap.size w6.heap.size) wr.heap.size wi.heap.size) wj W) (by kernel_rfl) ?_
                change wpAnyH _ _ _ _ _ _ _ _ (World.drew _)
                have hS0 : BK (FG3 (FG3 (FB g) w5.heap.size w6.heap.size) wr.heap.size wi.heap.size) wj wj.drew := (Kp.refl _ _).drew
                refine wpAnyH_take (i := 1) (v := .agg #[.int .i64 34, .int .i64 sn]) rfl (by kernel_rfl) (by kernel_rfl) (by kernel_rfl) (fun _ _ _ h => h) (Or.inl ⟨by rfl, by intro W hW; obtain ⟨z0, z1⟩ := HCI.out W hW; go_simp; try (first | (with_reducible rfl) | omega)⟩) hS0 ?_
                refine wpAnyH_take (i := 2) (v := .int .i64 lv) rfl (by kernel_rfl) (by kernel_rfl) (by kernel_rfl) (fun _ _ _ h => h) (Or.inl ⟨by rfl, by intro W hW; go_simp; try (first | (with_reducible rfl) | omega)⟩) hS0 ?_
                refine wpAnyH_take (i := 3) (v := .pointer (some ⟨g + 1, 1, none⟩)) rfl (by kernel_rfl) (by kernel_rfl) (by kernel_rfl) (fun _ _ _ h => h) (Or.inl ⟨by rfl, by intro W hW; go_simp; try (first | (with_reducible rfl) | omega)⟩) hS0 ?_
                refine wpAnyH_take (i := 5) (v := .agg #[.string s, .bool b, .slice A0 n0 c0, .slice A1 j c1, .slice A2 n2 c2, .slice A3 n3 c3, .slice A4 n4 c4, .slice (some ⟨bl, ol, none⟩) n5 c5, .slice A6 n6 c6, .slice A7 n7 c7, .slice A8 n8 c8]) rfl (by kernel_rfl) (by kernel_rfl) (by kernel_rfl) (fun _ _ _ h => h) (Or.inl ⟨by rfl, by intro W hW; obtain ⟨⟨e0, e1, e2, e3, e4, e5, e6, e7, e8, e9, e10⟩, b0, b1, b2, b3, b4⟩ := EQ.out W (HSW6.out W (HSW.out W hW)); go_simp; try (first | (with_reducible rfl) | omega)⟩) hS0 ?_
                refine wpAnyH_take (i := 6) (v := .int .i64 (m : Int)) rfl (by kernel_rfl) (by kernel_rfl) (by kernel_rfl) (fun _ _ _ h => h) (Or.inl ⟨by rfl, by intro W hW; go_simp; try (first | (with_reducible rfl) | omega)⟩) hS0 ?_
                try go_simp
                refine wpAnyH_take (i := 4) (v := .int .i64 sn) rfl (by kernel_rfl) (by kernel_rfl) (by kernel_rfl) (fun _ _ _ h => h) (Or.inl ⟨by rfl, by intro W hW; obtain ⟨⟨e0, e1, e2, e3, e4, e5, e6, e7, e8, e9, e10⟩, b0, b1, b2, b3, b4⟩ := EQ.out W (HSW6.out W (HSW.out W hW)); go_simp; try (first | (with_reducible rfl) | omega)⟩) hS0 ?_
                try go_simp
                obtain ⟨wd, hwd⟩ : ∃ X, wj.drew = X := ⟨_, rfl⟩
                rw [hwd] at HP0 hS0
                rw [hwd]
                clear hwd
                refine wpAnyH_two (i := 0) (j := 7) (by kernel_rfl) rfl rfl (fun K hK => ?_) (fun K hK => ?_)
                · have q0 := HP0.out.hd.at_ 0 _ rfl
                  have q1 := HP0.out.hd.at_ 1 _ rfl
                  have q2 := HP0.out.hd.at_ 2 _ rfl
                  have q3 := HP0.out.hd.at_ 3 _ rfl
                  have q4 := HP0.out.hd.at_ 4 _ rfl
                  go_simp
                  refine hK _ _ ⟨hS0, ?_⟩; clear hK K q0 q1 q2 q3 q4
                  refine wpAnyH_one (i := 7) (by kernel_rfl) rfl (fun K hK => ?_)
                  go_simp
                  refine (cNd.out _ hS0).mono ?_
                  rintro e w11 ⟨rfl, hb11⟩
                  have hS11 : BK (FG3 (FG3 (FB g) w5.heap.size w6.heap.size) wr.heap.size wi.heap.size) wj w11 := hS0.bel hb11
                  have HP11 : Hid (PcAt (g + 4) (FG3 (FG3 (FB g) w5.heap.size w6.heap.size) wr.heap.size wi.heap.size) (g + 3) (j + 1 + m) (begC j ss j ++ [⟨33, sn⟩] ++ (ys.take m).map (retM sn)) (List.replicate (j + 1) sl ++ lnU x.lines m) (List.replicate (j + 1) sp ++ atU x sn m) (.slice none 0 0) (.slice none 0 0) C0 d0 C1 d1 C2 d2 w11) := Lib.hid (HP0.out.on hb11)
                  clear hb11
                  go_simp
                  refine hK _ _ ⟨hS11, ?_⟩; clear hK K
                  try go_simp
                  refine wpAnyH_take (i := 8) (v := .int .i64 (IntKind.i64.wrap (sn + nd))) rfl (by kernel_rfl) (by kernel_rfl) (by kernel_rfl) (fun _ _ _ h => h) (Or.inl ⟨by rfl, by intro W hW; go_simp; try (first | (with_reducible rfl) | omega)⟩) hS11 ?_
                  try go_simp
                  have cL := Lib.hid (add_pc lv (IntKind.i64.wrap (sn + nd)) 34 sn HP11.out (by omega))
                  refine wpAnyH_one (i := 9) (by kernel_rfl) rfl (fun K hK => ?_)
                  go_simp
                  refine (cL.out).mono ?_
                  rintro e w99 ⟨B0, t0, B1, t1, B2, t2, rfl, hc3, hk3, hp3, hq3⟩
                  have hS99 : BK (FG3 (FG3 (FB g) w5.heap.size w6.heap.size) wr.heap.size wi.heap.size) wj w99 := hS11.trans hk3
                  obtain ⟨wn, hwn⟩ : ∃ X, set5 w99 (g + 3) (.slice B0 (j + 1 + m + 1) t0) (.slice B1 (j + 1 + m + 1) t1) (.slice B2 (j + 1 + m + 1) t2) (.slice none 0 0) (.slice none 0 0) = X := ⟨_, rfl⟩
                  rw [hwn] at hp3 hq3
                  have hSn : BK (FG3 (FG3 (FB g) w5.heap.size w6.heap.size) wr.heap.size wi.heap.size) wj wn := hS11.trans hq3
                  have HN : Hid (PcW (g + 4) (FG3 (FB g) w5.heap.size w6.heap.size) (g + 3) (j + 1 + (m + 1)) (begC j ss j ++ [⟨33, sn⟩] ++ (ys.take (m + 1)).map (retM sn)) (List.replicate (j + 1) sl ++ lnU x.lines (m + 1)) (List.replicate (j + 1) sp ++ atU x sn (m + 1)) (.slice none 0 0) (.slice none 0 0) wn ∧ BK (FG3 (FB g) w5.heap.size w6.heap.size) w6 wn) := Lib.hid ⟨by
                    have h5 := hp3.less (G := (FG3 (FB g) w5.heap.size w6.heap.size)) (fun j hj => .inl hj)
                    have e0 : (begC j ss j ++ [⟨33, sn⟩] ++ (ys.take m).map (retM sn)) ++ [⟨34, sn⟩] = (begC j ss j ++ [⟨33, sn⟩] ++ (ys.take (m + 1)).map (retM sn)) := by rw [List.append_assoc, ← HRN.out, ret_next sn HY.out]
                    have e1 : (List.replicate (j + 1) sl ++ lnU x.lines m) ++ [lv] = (List.replicate (j + 1) sl ++ lnU x.lines (m + 1)) := by rw [List.append_assoc, ← HLV.out, lnU_next]
                    have e2 : (List.replicate (j + 1) sp ++ atU x sn m) ++ [wrap64 (sn + nd)] = (List.replicate (j + 1) sp ++ atU x sn (m + 1)) := by rw [List.append_assoc, ← HND.out, atU_next]
                    rw [wr64, e0, e1, e2, Nat.add_assoc] at h5
                    exact h5, HSW.out wn hSn⟩
                  have r0 := hc3.at_ 0 _ rfl
                  have r1 := hc3.at_ 1 _ rfl
                  have r2 := hc3.at_ 2 _ rfl
                  have r3 := hc3.at_ 3 _ rfl
                  have r4 := hc3.at_ 4 _ rfl
                  have f0 := hc3.fz 0 (by simp)
                  have f1 := hc3.fz 1 (by simp)
                  have f2 := hc3.fz 2 (by simp)
                  have f3 := hc3.fz 3 (by simp)
                  have f4 := hc3.fz 4 (by simp)
                  clear hp3 hk3 hq3 hc3 cL
                  go_simp
                  refine hK _ _ ⟨hS99, ?_⟩; clear hK K
                  refine wpAnyH_one (i := 10) (by kernel_rfl) rfl (fun K hK => ?_)
                  go_simp
                  refine hK _ _ ⟨hSn, ?_⟩; clear hK K
                  try go_simp
                  refine wpAnyH_done (by kernel_rfl) ?_ _
                  try go_simp
                  go_wp2_with fail
                  go_roundw
                  case rel => exact ⟨m + 1, by go_num, by omega, HN⟩
                  case measure => simp [intOf]; omega
                · go_simp
                  refine (cNd.out _ hS0).mono ?_
                  rintro e w12 ⟨rfl, hb12⟩
                  have hS12 : BK (FG3 (FG3 (FB g) w5.heap.size w6.heap.size) wr.heap.size wi.heap.size) wj w12 := hS0.bel hb12
                  have HP12 : Hid (PcAt (g + 4) (FG3 (FG3 (FB g) w5.heap.size w6.heap.size) wr.heap.size wi.heap.size) (g + 3) (j + 1 + m) (begC j ss j ++ [⟨33, sn⟩] ++ (ys.take m).map (retM sn)) (List.replicate (j + 1) sl ++ lnU x.lines m) (List.replicate (j + 1) sp ++ atU x sn m) (.slice none 0 0) (.slice none 0 0) C0 d0 C1 d1 C2 d2 w12) := Lib.hid (HP0.out.on hb12)
                  clear hb12
                  go_simp
                  refine hK _ _ ⟨hS12, ?_⟩; clear hK K
                  try go_simp
                  refine wpAnyH_take (i := 8) (v := .int .i64 (IntKind.i64.wrap (sn + nd))) rfl (by kernel_rfl) (by kernel_rfl) (by kernel_rfl) (fun _ _ _ h => h) (Or.inl ⟨by rfl, by intro W hW; go_simp; try (first | (with_reducible rfl) | omega)⟩) hS12 ?_
                  try go_simp
                  refine wpAnyH_one (i := 0) (by kernel_rfl) rfl (fun K hK => ?_)
                  have q0 := HP12.out.hd.at_ 0 _ rfl
                  have q1 := HP12.out.hd.at_ 1 _ rfl
                  have q2 := HP12.out.hd.at_ 2 _ rfl
                  have q3 := HP12.out.hd.at_ 3 _ rfl
                  have q4 := HP12.out.hd.at_ 4 _ rfl
                  go_simp
                  refine hK _ _ ⟨hS12, ?_⟩; clear hK K q0 q1 q2 q3 q4
                  have cL := Lib.hid (add_pc lv (IntKind.i64.wrap (sn + nd)) 34 sn HP12.out (by omega))
                  refine wpAnyH_one (i := 9) (by kernel_rfl) rfl (fun K hK => ?_)
                  go_simp
                  refine (cL.out).mono ?_
                  rintro e w99 ⟨B0, t0, B1, t1, B2, t2, rfl, hc3, hk3, hp3, hq3⟩
                  have hS99 : BK (FG3 (FG3 (FB g) w5.heap.size w6.heap.size) wr.heap.size wi.heap.size) wj w99 := hS12.trans hk3
                  obtain ⟨wn, hwn⟩ : ∃ X, set5 w99 (g + 3) (.slice B0 (j + 1 + m + 1) t0) (.slice B1 (j + 1 + m + 1) t1) (.slice B2 (j + 1 + m + 1) t2) (.slice none 0 0) (.slice none 0 0) = X := ⟨_, rfl⟩
                  rw [hwn] at hp3 hq3
                  have hSn : BK (FG3 (FG3 (FB g) w5.heap.size w6.heap.size) wr.heap.size wi.heap.size) wj wn := hS12.trans hq3
                  have HN : Hid (PcW (g + 4) (FG3 (FB g) w5.heap.size w6.heap.size) (g + 3) (j + 1 + (m + 1)) (begC j ss j ++ [⟨33, sn⟩] ++ (ys.take (m + 1)).map (retM sn)) (List.replicate (j + 1) sl ++ lnU x.lines (m + 1)) (List.replicate (j + 1) sp ++ atU x sn (m + 1)) (.slice none 0 0) (.slice none 0 0) wn ∧ BK (FG3 (FB g) w5.heap.size w6.heap.size) w6 wn) := Lib.hid ⟨by
                    have h5 := hp3.less (G := (FG3 (FB g) w5.heap.size w6.heap.size)) (fun j hj => .inl hj)
                    have e0 : (begC j ss j ++ [⟨33, sn⟩] ++ (ys.take m).map (retM sn)) ++ [⟨34, sn⟩] = (begC j ss j ++ [⟨33, sn⟩] ++ (ys.take (m + 1)).map (retM sn)) := by rw [List.append_assoc, ← HRN.out, ret_next sn HY.out]
                    have e1 : (List.replicate (j + 1) sl ++ lnU x.lines m) ++ [lv] = (List.replicate (j + 1) sl ++ lnU x.lines (m + 1)) := by rw [List.append_assoc, ← HLV.out, lnU_next]
                    have e2 : (List.replicate (j + 1) sp ++ atU x sn m) ++ [wrap64 (sn + nd)] = (List.replicate (j + 1) sp ++ atU x sn (m + 1)) := by rw [List.append_assoc, ← HND.out, atU_next]
                    rw [wr64, e0, e1, e2, Nat.add_assoc] at h5
                    exact h5, HSW.out wn hSn⟩
                  have r0 := hc3.at_ 0 _ rfl
                  have r1 := hc3.at_ 1 _ rfl
                  have r2 := hc3.at_ 2 _ rfl
                  have r3 := hc3.at_ 3 _ rfl
                  have r4 := hc3.at_ 4 _ rfl
                  have f0 := hc3.fz 0 (by simp)
                  have f1 := hc3.fz 1 (by simp)
                  have f2 := hc3.fz 2 (by simp)
                  have f3 := hc3.fz 3 (by simp)
                  have f4 := hc3.fz 4 (by simp)
                  clear hp3 hk3 hq3 hc3 cL
                  go_simp
                  refine hK _ _ ⟨hS99, ?_⟩; clear hK K
                  refine wpAnyH_one (i := 10) (by kernel_rfl) rfl (fun K hK => ?_)
                  go_simp
                  refine hK _ _ ⟨hSn, ?_⟩; clear hK K
                  try go_simp
                  refine wpAnyH_done (by kernel_rfl) ?_ _
                  try go_simp
                  go_wp2_with fail
                  go_roundw
                  case rel => exact ⟨m + 1, by go_num, by omega, HN⟩
                  case measure => simp [intOf]; omega
              · have t25 : (yo == 25) = false := by simpa using h25
                have HRN : Hid (retM sn ⟨yo, ya⟩ = ⟨yo, ya⟩) := Lib.hid (by unfold retM; rw [if_neg h25])
                have HCJ := Lib.hid hci
                obtain ⟨bl, ol, rfl, _, l0⟩ := (HFM.out wi (HSW6.out wi HBi.out)).r5.getD (show m < n5 by have := HLN.out; omega) 0
                obtain ⟨lv, hlv⟩ : ∃ v, x.lines.getD m 0 = v := ⟨_, rfl⟩
                rw [hlv] at l0
                have HLV : Hid (lineM x.lines m = lv) := Lib.hid hlv
                clear h25 hci
                go_wp2_with fail
                clear x0 x1 f0 f1 hwi hib e0 e1 e2 e3 e4 e5 e6 e7 e8 e9 e10 b0 b1 b2 b3 b4 l0 y0 y1
                have HSW : Hid (∀ W, BK (FG3 (FG3 (FB g) w5.heap.size w6.heap.size) wr.heap.size wi.heap.size) wi W → BK (FG3 (FB g) w5.heap.size w6.heap.size) w6 W) := Lib.hid fun W hW => HBi.out.trans (Kp.less hW fun j hj => .inl hj)
                have HCI : Hid (∀ W, BK (FG3 (FG3 (FB g) w5.heap.size w6.heap.size) wr.heap.size wi.heap.size) wi W → W.cell? ⟨ib, 0, none⟩ = some (.int .i64 yo) ∧ W.cell? ⟨ib, 1, none⟩ = some (.int .i64 ya)) := Lib.hid fun W hW => by
                  have h1 := HCJ.out.kp hW (fun hn => hn (.inr ⟨by have := HIB.out; omega, by have := HIB.out; omega⟩))
                  exact ⟨h1.at_ 0 _ rfl, h1.at_ 1 _ rfl⟩
                obtain ⟨nd, hnd⟩ : ∃ v, ndM x m = v := ⟨_, rfl⟩
                have cNd : Hid (∀ W, BK (FG3 (FG3 (FB g) w5.heap.size w6.heap.size) wr.heap.size wi.heap.size) wi W → Calls Try.prog 31 #[.agg #[.string s, .bool b, .slice A0 n0 c0, .slice A1 j c1, .slice A2 n2 c2, .slice A3 n3 c3, .slice A4 n4 c4, .slice (some ⟨bl, ol, none⟩) n5 c5, .slice A6 n6 c6, .slice A7 n7 c7, .slice A8 n8 c8], .int .i64 (m : Int)] W fun e w' => e = .returned (.int .i64 nd) ∧ Below W.heap.size W w') := Lib.hid fun W hW => by rw [← hnd]; exact rnode_any s b A0 n0 c0 A1 j c1 A2 n2 c2 A3 n3 c3 A4 n4 c4 (some ⟨bl, ol, none⟩) n5 c5 A6 n6 c6 A7 n7 c7 A8 n8 c8 x m W (HFM.out W (HSW6.out W (HSW.out W hW))) (by omega)
                have HND : Hid (ndM x m = nd) := Lib.hid hnd
                clear hnd
                obtain ⟨C0, d0, C1, d1, C2, d2, hpa⟩ := HPi.out
                have HP0 : Hid (PcAt (g + 4) (FG3 (FG3 (FB g) w5.heap.size w6.heap.size) wr.heap.size wi.heap.size) (g + 3) (j + 1 + m) (begC j ss j ++ [⟨33, sn⟩] ++ (ys.take m).map (retM sn)) (List.replicate (j + 1) sl ++ lnU x.lines m) (List.replicate (j + 1) sp ++ atU x sn m) (.slice none 0 0) (.slice none 0 0) C0 d0 C1 d1 C2 d2 wi.drew) := Lib.hid (hpa.on ((Below.refl _ _).drew))
                clear hpa
                refine wp_region_held (S := fun W => BK (FG3 (FG3 (FB g) w5.heap.size w6.heap.size) wr.heap.size wi.heap.size) wi W) (by kernel_rfl) ?_
                change wpAnyH _ _ _ _ _ _ _ _ (World.drew _)
                have hS0 : BK (FG3 (FG3 (FB g) w5.heap.size w6.heap.size) wr.heap.size wi.heap.size) wi wi.drew := (Kp.refl _ _).drew
                refine wpAnyH_take (i := 1) (v := .agg #[.int .i64 yo, .int .i64 ya]) rfl (by kernel_rfl) (by kernel_rfl) (by kernel_rfl) (fun _ _ _ h => h) (Or.inl ⟨by rfl, by intro W hW; obtain ⟨z0, z1⟩ := HCI.out W hW; go_simp; try (first | (with_reducible rfl) | omega)⟩) hS0 ?_
                refine wpAnyH_take (i := 2) (v := .int .i64 lv) rfl (by kernel_rfl) (by kernel_rfl) (by kernel_rfl) (fun _ _ _ h => h) (Or.inl ⟨by rfl, by intro W hW; go_simp; try (first | (with_reducible rfl) | omega)⟩) hS0 ?_
                refine wpAnyH_take (i := 3) (v := .pointer (some ⟨g + 1, 1, none⟩)) rfl (by kernel_rfl) (by kernel_rfl) (by kernel_rfl) (fun _ _ _ h => h) (Or.inl ⟨by rfl, by intro W hW; go_simp; try (first | (with_reducible rfl) | omega)⟩) hS0 ?_
                refine wpAnyH_take (i := 5) (v := .agg #[.string s, .bool b, .slice A0 n0 c0, .slice A1 j c1, .slice A2 n2 c2, .slice A3 n3 c3, .slice A4 n4 c4, .slice (some ⟨bl, ol, none⟩) n5 c5, .slice A6 n6 c6, .slice A7 n7 c7, .slice A8 n8 c8]) rfl (by kernel_rfl) (by kernel_rfl) (by kernel_rfl) (fun _ _ _ h => h) (Or.inl ⟨by rfl, by intro W hW; obtain ⟨⟨e0, e1, e2, e3, e4, e5, e6, e7, e8, e9, e10⟩, b0, b1, b2, b3, b4⟩ := EQ.out W (HSW6.out W (HSW.out W hW)); go_simp; try (first | (with_reducible rfl) | omega)⟩) hS0 ?_
                refine wpAnyH_take (i := 6) (v := .int .i64 (m : Int)) rfl (by kernel_rfl) (by kernel_rfl) (by kernel_rfl) (fun _ _ _ h => h) (Or.inl ⟨by rfl, by intro W hW; go_simp; try (first | (with_reducible rfl) | omega)⟩) hS0 ?_
                try go_simp
                refine wpAnyH_take (i := 4) (v := .int .i64 sn) rfl (by kernel_rfl) (by kernel_rfl) (by kernel_rfl) (fun _ _ _ h => h) (Or.inl ⟨by rfl, by intro W hW; obtain ⟨⟨e0, e1, e2, e3, e4, e5, e6, e7, e8, e9, e10⟩, b0, b1, b2, b3, b4⟩ := EQ.out W (HSW6.out W (HSW.out W hW)); go_simp; try (first | (with_reducible rfl) | omega)⟩) hS0 ?_
                try go_simp
                obtain ⟨wd, hwd⟩ : ∃ X, wi.drew = X := ⟨_, rfl⟩
                rw [hwd] at HP0 hS0
                rw [hwd]
                clear hwd
                refine wpAnyH_two (i := 0) (j := 7) (by kernel_rfl) rfl rfl (fun K hK => ?_) (fun K hK => ?_)
                · have q0 := HP0.out.hd.at_ 0 _ rfl
                  have q1 := HP0.out.hd.at_ 1 _ rfl
                  have q2 := HP0.out.hd.at_ 2 _ rfl
                  have q3 := HP0.out.hd.at_ 3 _ rfl
                  have q4 := HP0.out.hd.at_ 4 _ rfl
                  go_simp
                  refine hK _ _ ⟨hS0, ?_⟩; clear hK K q0 q1 q2 q3 q4
                  refine wpAnyH_one (i := 7) (by kernel_rfl) rfl (fun K hK => ?_)
                  go_simp
                  refine (cNd.out _ hS0).mono ?_
                  rintro e w11 ⟨rfl, hb11⟩
                  have hS11 : BK (FG3 (FG3 (FB g) w5.heap.size w6.heap.size) wr.heap.size wi.heap.size) wi w11 := hS0.bel hb11
                  have HP11 : Hid (PcAt (g + 4) (FG3 (FG3 (FB g) w5.heap.size w6.heap.size) wr.heap.size wi.heap.size) (g + 3) (j + 1 + m) (begC j ss j ++ [⟨33, sn⟩] ++ (ys.take m).map (retM sn)) (List.replicate (j + 1) sl ++ lnU x.lines m) (List.replicate (j + 1) sp ++ atU x sn m) (.slice none 0 0) (.slice none 0 0) C0 d0 C1 d1 C2 d2 w11) := Lib.hid (HP0.out.on hb11)
                  clear hb11
                  go_simp
                  refine hK _ _ ⟨hS11, ?_⟩; clear hK K
                  try go_simp
                  refine wpAnyH_take (i := 8) (v := .int .i64 (IntKind.i64.wrap (sn + nd))) rfl (by kernel_rfl) (by kernel_rfl) (by kernel_rfl) (fun _ _ _ h => h) (Or.inl ⟨by rfl, by intro W hW; go_simp; try (first | (with_reducible rfl) | omega)⟩) hS11 ?_
                  try go_simp
                  have cL := Lib.hid (add_pc lv (IntKind.i64.wrap (sn + nd)) yo ya HP11.out (by omega))
                  refine wpAnyH_one (i := 9) (by kernel_rfl) rfl (fun K hK => ?_)
                  go_simp
                  refine (cL.out).mono ?_
                  rintro e w99 ⟨B0, t0, B1, t1, B2, t2, rfl, hc3, hk3, hp3, hq3⟩
                  have hS99 : BK (FG3 (FG3 (FB g) w5.heap.size w6.heap.size) wr.heap.size wi.heap.size) wi w99 := hS11.trans hk3
                  obtain ⟨wn, hwn⟩ : ∃ X, set5 w99 (g + 3) (.slice B0 (j + 1 + m + 1) t0) (.slice B1 (j + 1 + m + 1) t1) (.slice B2 (j + 1 + m + 1) t2) (.slice none 0 0) (.slice none 0 0) = X := ⟨_, rfl⟩
                  rw [hwn] at hp3 hq3
                  have hSn : BK (FG3 (FG3 (FB g) w5.heap.size w6.heap.size) wr.heap.size wi.heap.size) wi wn := hS11.trans hq3
                  have HN : Hid (PcW (g + 4) (FG3 (FB g) w5.heap.size w6.heap.size) (g + 3) (j + 1 + (m + 1)) (begC j ss j ++ [⟨33, sn⟩] ++ (ys.take (m + 1)).map (retM sn)) (List.replicate (j + 1) sl ++ lnU x.lines (m + 1)) (List.replicate (j + 1) sp ++ atU x sn (m + 1)) (.slice none 0 0) (.slice none 0 0) wn ∧ BK (FG3 (FB g) w5.heap.size w6.heap.size) w6 wn) := Lib.hid ⟨by
                    have h5 := hp3.less (G := (FG3 (FB g) w5.heap.size w6.heap.size)) (fun j hj => .inl hj)
                    have e0 : (begC j ss j ++ [⟨33, sn⟩] ++ (ys.take m).map (retM sn)) ++ [⟨yo, ya⟩] = (begC j ss j ++ [⟨33, sn⟩] ++ (ys.take (m + 1)).map (retM sn)) := by rw [List.append_assoc, ← HRN.out, ret_next sn HY.out]
                    have e1 : (List.replicate (j + 1) sl ++ lnU x.lines m) ++ [lv] = (List.replicate (j + 1) sl ++ lnU x.lines (m + 1)) := by rw [List.append_assoc, ← HLV.out, lnU_next]
                    have e2 : (List.replicate (j + 1) sp ++ atU x sn m) ++ [wrap64 (sn + nd)] = (List.replicate (j + 1) sp ++ atU x sn (m + 1)) := by rw [List.append_assoc, ← HND.out, atU_next]
                    rw [wr64, e0, e1, e2, Nat.add_assoc] at h5
                    exact h5, HSW.out wn hSn⟩
                  have r0 := hc3.at_ 0 _ rfl
                  have r1 := hc3.at_ 1 _ rfl
                  have r2 := hc3.at_ 2 _ rfl
                  have r3 := hc3.at_ 3 _ rfl
                  have r4 := hc3.at_ 4 _ rfl
                  have f0 := hc3.fz 0 (by simp)
                  have f1 := hc3.fz 1 (by simp)
                  have f2 := hc3.fz 2 (by simp)
                  have f3 := hc3.fz 3 (by simp)
                  have f4 := hc3.fz 4 (by simp)
                  clear hp3 hk3 hq3 hc3 cL
                  go_simp
                  refine hK _ _ ⟨hS99, ?_⟩; clear hK K
                  refine wpAnyH_one (i := 10) (by kernel_rfl) rfl (fun K hK => ?_)
                  go_simp
                  refine hK _ _ ⟨hSn, ?_⟩; clear hK K
                  try go_simp
                  refine wpAnyH_done (by kernel_rfl) ?_ _
                  try go_simp
                  go_wp2_with fail
                  go_roundw
                  case rel => exact ⟨m + 1, by go_num, by omega, HN⟩
                  case measure => simp [intOf]; omega
                · go_simp
                  refine (cNd.out _ hS0).mono ?_
                  rintro e w12 ⟨rfl, hb12⟩
                  have hS12 : BK (FG3 (FG3 (FB g) w5.heap.size w6.heap.size) wr.heap.size wi.heap.size) wi w12 := hS0.bel hb12
                  have HP12 : Hid (PcAt (g + 4) (FG3 (FG3 (FB g) w5.heap.size w6.heap.size) wr.heap.size wi.heap.size) (g + 3) (j + 1 + m) (begC j ss j ++ [⟨33, sn⟩] ++ (ys.take m).map (retM sn)) (List.replicate (j + 1) sl ++ lnU x.lines m) (List.replicate (j + 1) sp ++ atU x sn m) (.slice none 0 0) (.slice none 0 0) C0 d0 C1 d1 C2 d2 w12) := Lib.hid (HP0.out.on hb12)
                  clear hb12
                  go_simp
                  refine hK _ _ ⟨hS12, ?_⟩; clear hK K
                  try go_simp
                  refine wpAnyH_take (i := 8) (v := .int .i64 (IntKind.i64.wrap (sn + nd))) rfl (by kernel_rfl) (by kernel_rfl) (by kernel_rfl) (fun _ _ _ h => h) (Or.inl ⟨by rfl, by intro W hW; go_simp; try (first | (with_reducible rfl) | omega)⟩) hS12 ?_
                  try go_simp
                  refine wpAnyH_one (i := 0) (by kernel_rfl) rfl (fun K hK => ?_)
                  have q0 := HP12.out.hd.at_ 0 _ rfl
                  have q1 := HP12.out.hd.at_ 1 _ rfl
                  have q2 := HP12.out.hd.at_ 2 _ rfl
                  have q3 := HP12.out.hd.at_ 3 _ rfl
                  have q4 := HP12.out.hd.at_ 4 _ rfl
                  go_simp
                  refine hK _ _ ⟨hS12, ?_⟩; clear hK K q0 q1 q2 q3 q4
                  have cL := Lib.hid (add_pc lv (IntKind.i64.wrap (sn + nd)) yo ya HP12.out (by omega))
                  refine wpAnyH_one (i := 9) (by kernel_rfl) rfl (fun K hK => ?_)
                  go_simp
                  refine (cL.out).mono ?_
                  rintro e w99 ⟨B0, t0, B1, t1, B2, t2, rfl, hc3, hk3, hp3, hq3⟩
                  have hS99 : BK (FG3 (FG3 (FB g) w5.heap.size w6.heap.size) wr.heap.size wi.heap.size) wi w99 := hS12.trans hk3
                  obtain ⟨wn, hwn⟩ : ∃ X, set5 w99 (g + 3) (.slice B0 (j + 1 + m + 1) t0) (.slice B1 (j + 1 + m + 1) t1) (.slice B2 (j + 1 + m + 1) t2) (.slice none 0 0) (.slice none 0 0) = X := ⟨_, rfl⟩
                  rw [hwn] at hp3 hq3
                  have hSn : BK (FG3 (FG3 (FB g) w5.heap.size w6.heap.size) wr.heap.size wi.heap.size) wi wn := hS12.trans hq3
                  have HN : Hid (PcW (g + 4) (FG3 (FB g) w5.heap.size w6.heap.size) (g + 3) (j + 1 + (m + 1)) (begC j ss j ++ [⟨33, sn⟩] ++ (ys.take (m + 1)).map (retM sn)) (List.replicate (j + 1) sl ++ lnU x.lines (m + 1)) (List.replicate (j + 1) sp ++ atU x sn (m + 1)) (.slice none 0 0) (.slice none 0 0) wn ∧ BK (FG3 (FB g) w5.heap.size w6.heap.size) w6 wn) := Lib.hid ⟨by
                    have h5 := hp3.less (G := (FG3 (FB g) w5.heap.size w6.heap.size)) (fun j hj => .inl hj)
                    have e0 : (begC j ss j ++ [⟨33, sn⟩] ++ (ys.take m).map (retM sn)) ++ [⟨yo, ya⟩] = (begC j ss j ++ [⟨33, sn⟩] ++ (ys.take (m + 1)).map (retM sn)) := by rw [List.append_assoc, ← HRN.out, ret_next sn HY.out]
                    have e1 : (List.replicate (j + 1) sl ++ lnU x.lines m) ++ [lv] = (List.replicate (j + 1) sl ++ lnU x.lines (m + 1)) := by rw [List.append_assoc, ← HLV.out, lnU_next]
                    have e2 : (List.replicate (j + 1) sp ++ atU x sn m) ++ [wrap64 (sn + nd)] = (List.replicate (j + 1) sp ++ atU x sn (m + 1)) := by rw [List.append_assoc, ← HND.out, atU_next]
                    rw [wr64, e0, e1, e2, Nat.add_assoc] at h5
                    exact h5, HSW.out wn hSn⟩
                  have r0 := hc3.at_ 0 _ rfl
                  have r1 := hc3.at_ 1 _ rfl
                  have r2 := hc3.at_ 2 _ rfl
                  have r3 := hc3.at_ 3 _ rfl
                  have r4 := hc3.at_ 4 _ rfl
                  have f0 := hc3.fz 0 (by simp)
                  have f1 := hc3.fz 1 (by simp)
                  have f2 := hc3.fz 2 (by simp)
                  have f3 := hc3.fz 3 (by simp)
                  have f4 := hc3.fz 4 (by simp)
                  clear hp3 hk3 hq3 hc3 cL
                  go_simp
                  refine hK _ _ ⟨hS99, ?_⟩; clear hK K
                  refine wpAnyH_one (i := 10) (by kernel_rfl) rfl (fun K hK => ?_)
                  go_simp
                  refine hK _ _ ⟨hSn, ?_⟩; clear hK K
                  try go_simp
                  refine wpAnyH_done (by kernel_rfl) ?_ _
                  try go_simp
                  go_wp2_with fail
                  go_roundw
                  case rel => exact ⟨m + 1, by go_num, by omega, HN⟩
                  case measure => simp [intOf]; omega
            · obtain rfl : n4 = m := by omega
              obtain ⟨CL, hCL⟩ : ∃ X, begC j ss j ++ [⟨33, sn⟩] ++ bodyC (placeM (fromM sa j) 2000) ss sn x.code = X := ⟨_, rfl⟩
              obtain ⟨LL, hLL⟩ : ∃ X, List.replicate (j + 1) sl ++ lnU x.lines n4 = X := ⟨_, rfl⟩
              obtain ⟨AL, hAL⟩ : ∃ X, List.replicate (j + 1) sp ++ atU x sn n4 = X := ⟨_, rfl⟩
              have HLS : Hid (codeL x sa sn ss j n2 = CL ++ endC j ss n2 ∧ lineL x sl j n2 n4 = LL ++ List.replicate n2 sl ∧ atL x sn sp j n2 n4 = AL ++ List.replicate n2 sp) := Lib.hid ⟨by rw [← hCL]; rfl, by rw [← hLL]; rfl, by rw [← hAL]; rfl⟩
              have HP8 : Hid (PcW (g + 4) (FG3 (FB g) w5.heap.size w6.heap.size) (g + 3) (j + 1 + n4) CL LL AL (.slice none 0 0) (.slice none 0 0) wr ∧ BK (FG3 (FB g) w5.heap.size w6.heap.size) w6 wr) := Lib.hid ⟨by
                have h1 := HK.out.1
                rw [List.take_of_length_le (by have := HRT.out.2; omega), ← HRT.out.1, hCL, hLL, hAL] at h1
                exact h1, HK.out.2⟩
              clear HK HYR HYO hCL hLL hAL
              obtain ⟨w8, hw8⟩ : ∃ X, wr = X := ⟨_, rfl⟩
              rw [hw8] at HP8
              rw [hw8]
              clear hw8
              obtain ⟨⟨e0, e1, e2, e3, e4, e5, e6, e7, e8, e9, e10⟩, b0, b1, b2, b3, b4⟩ := EQ.out w8 (HSW6.out w8 HP8.out.2)
              go_wp2_with fail
              clear e0 e1 e2 e3 e4 e5 e6 e7 e8 e9 e10 b0 b1 b2 b3 b4
              go_loopw [17] (fun iv wr => ∃ (r : Nat), iv = .int .i64 (r : Int) ∧ r ≤ n2 ∧ Hid (PcW (g + 4) (FG3 (FB g) w5.heap.size w6.heap.size) (g + 3) (j + 1 + n4 + r) (CL ++ endC j ss r) (LL ++ List.replicate r sl) (AL ++ List.replicate r sp) (.slice none 0 0) (.slice none 0 0) wr ∧ BK (FG3 (FB g) w5.heap.size w6.heap.size) w6 wr)) (fun iv _ => n2 - (intOf iv).toNat)
              case atStart => exact ⟨0, rfl, Nat.zero_le _, Lib.hid ⟨by simpa [endC] using HP8.out.1, HP8.out.2⟩⟩
              case round =>
                obtain ⟨r, rfl, hr, HK⟩ := hrel
                have hr0 : (0 : Int) ≤ (r : Int) := by omega
                have hr1 : (r : Int) ≤ 300 := by omega
                obtain ⟨⟨e0, e1, e2, e3, e4, e5, e6, e7, e8, e9, e10⟩, b0, b1, b2, b3, b4⟩ := EQ.out wr (HSW6.out wr HK.out.2)
                obtain ⟨C0, d0, C1, d1, C2, d2, hpa⟩ := HK.out.1
                have q0 := hpa.hd.at_ 0 _ rfl
                have q1 := hpa.hd.at_ 1 _ rfl
                have q2 := hpa.hd.at_ 2 _ rfl
                have q3 := hpa.hd.at_ 3 _ rfl
                have q4 := hpa.hd.at_ 4 _ rfl
                by_cases hlt : r < n2
                · have hrn : (r : Int) < (n2 : Int) := by omega
                  have cL := Lib.hid (add_pc sl sp 2 (wrap64 (wrap64 (ss + (j : Int)) + (r : Int))) hpa (by omega))
                  clear hpa
                  go_wp2_with fail
                  refine cL.out.mono ?_
                  rintro e w3 ⟨B0, d0, B1, d1, B2, d2, rfl, hc3, hk3, hp3, hq3⟩
                  clear e0 e1 e2 e3 e4 e5 e6 e7 e8 e9 e10 b0 b1 b2 b3 b4 q0 q1 q2 q3 q4
                  have r0 := hc3.at_ 0 _ rfl
                  have r1 := hc3.at_ 1 _ rfl
                  have r2 := hc3.at_ 2 _ rfl
                  have r3 := hc3.at_ 3 _ rfl
                  have r4 := hc3.at_ 4 _ rfl
                  have f0 := hc3.fz 0 (by simp)
                  have f1 := hc3.fz 1 (by simp)
                  have f2 := hc3.fz 2 (by simp)
                  have f3 := hc3.fz 3 (by simp)
                  have f4 := hc3.fz 4 (by simp)
                  obtain ⟨wn, hwn⟩ : ∃ X, set5 w3 (g + 3) (.slice B0 (j + 1 + n4 + r + 1) d0) (.slice B1 (j + 1 + n4 + r + 1) d1) (.slice B2 (j + 1 + n4 + r + 1) d2) (.slice none 0 0) (.slice none 0 0) = X := ⟨_, rfl⟩
                  rw [hwn] at hp3 hq3
                  have HN : Hid (PcW (g + 4) (FG3 (FB g) w5.heap.size w6.heap.size) (g + 3) (j + 1 + n4 + (r + 1)) (CL ++ endC j ss (r + 1)) (LL ++ List.replicate (r + 1) sl) (AL ++ List.replicate (r + 1) sp) (.slice none 0 0) (.slice none 0 0) wn ∧ BK (FG3 (FB g) w5.heap.size w6.heap.size) w6 wn) := Lib.hid ⟨by
                    rw [List.append_assoc CL, endC_next, List.append_assoc LL, rep_next, List.append_assoc AL, rep_next] at hp3
                    exact hp3, HK.out.2.trans hq3⟩
                  clear hp3 hq3 hc3 hk3 cL HK
                  go_wp2_with fail
                  go_roundw
                  case rel => exact ⟨r + 1, by go_num, by omega, HN⟩
                  case measure => simp [intOf]; omega
                · obtain rfl : n2 = r := by omega
                  have HP9 : Hid (PcAt (g + 4) (FG3 (FB g) w5.heap.size w6.heap.size) (g + 3) (j + 1 + n4 + n2) (codeL x sa sn ss j n2) (lineL x sl j n2 n4) (atL x sn sp j n2 n4) (.slice none 0 0) (.slice none 0 0) C0 d0 C1 d1 C2 d2 wr) := Lib.hid (by rw [HLS.out.1, HLS.out.2.1, HLS.out.2.2]; exact hpa)
                  clear hpa
                  go_wp2_with fail
                  have HKB : Hid (BK (FB g) w4 wr) := Lib.hid (HSW6.out wr HK.out.2)
                  have HS9 : Hid (∀ W, S5 (g + 3) wr W → BK (FB g) w4 W) := Lib.hid fun W hW => HKB.out.trans (hW.mono fun j _ e hj => by simp only [FB] at hj; omega)
                  have HZ9 : Hid (g + 3 < wr.heap.size) := Lib.hid HP9.out.hd.lt
                  have cOw : Hid (∀ W, BK (FB g) w4 W → Calls Try.prog 17 #[.agg #[.string s, .bool b, .slice A0 n0 c0, .slice A1 j c1, .slice A2 n2 c2, .slice A3 n3 c3, .slice A4 n4 c4, .slice A5 n5 c5, .slice A6 n6 c6, .slice A7 n7 c7, .slice A8 n8 c8]] W fun e w' => e = .returned (.int .i64 (ownM x (j + n2 + n3))) ∧ Below W.heap.size W w') := Lib.hid fun W hW => rown_any s b A0 n0 c0 A1 j c1 A2 n2 c2 A3 n3 c3 A4 n4 c4 A5 n5 c5 A6 n6 c6 A7 n7 c7 A8 n8 c8 x W (HFM.out W hW) HOK.out
                  obtain ⟨ow, how⟩ : ∃ v, ownM x (j + n2 + n3) = v := ⟨_, rfl⟩
                  rw [how] at cOw
                  have HOW := Lib.hid how
                  clear how HK q0 q1 q2 q3 q4 e0 e1 e2 e3 e4 e5 e6 e7 e8 e9 e10 b0 b1 b2 b3 b4
                  obtain ⟨j7, hj7, hy0, hy1, hy2⟩ := info_parts info_node
                  refine wp_region_held (S := fun W => S5 (g + 3) wr W) (by kernel_rfl) ?_
                  change wpAnyH _ _ _ _ _ _ _ _ (World.drew _)
                  have hS0 : S5 (g + 3) wr wr.drew := (Kp.refl _ _).drew
                  refine wpAnyH_take (i := 0) (v := .pointer (some ⟨g + 3, 3, none⟩)) rfl (by kernel_rfl) (by kernel_rfl) (by kernel_rfl) (fun _ _ _ h => h) (Or.inl ⟨by rfl, by intro W hW; go_simp; try (first | (with_reducible rfl) | omega)⟩) hS0 ?_
                  refine wpAnyH_take (i := 2) (v := .pointer (some ⟨g + 1, 3, none⟩)) rfl (by kernel_rfl) (by kernel_rfl) (by kernel_rfl) (fun _ _ _ h => h) (Or.inl ⟨by rfl, by intro W hW; go_simp; try (first | (with_reducible rfl) | omega)⟩) hS0 ?_
                  refine wpAnyH_take (i := 4) (v := .int .i64 gi) rfl (by kernel_rfl) (by kernel_rfl) (by kernel_rfl) (fun _ _ _ h => h) (Or.inl ⟨by rfl, by intro W hW; go_simp; try (first | (with_reducible rfl) | omega)⟩) hS0 ?_
                  refine wpAnyH_take (i := 5) (v := .pointer (some ⟨g + 1, 4, none⟩)) rfl (by kernel_rfl) (by kernel_rfl) (by kernel_rfl) (fun _ _ _ h => h) (Or.inl ⟨by rfl, by intro W hW; go_simp; try (first | (with_reducible rfl) | omega)⟩) hS0 ?_
                  refine wpAnyH_take (i := 7) (v := .pointer (some ⟨g + 1, 2, none⟩)) rfl (by kernel_rfl) (by kernel_rfl) (by kernel_rfl) (fun _ _ _ h => h) (Or.inl ⟨by rfl, by intro W hW; go_simp; try (first | (with_reducible rfl) | omega)⟩) hS0 ?_
                  refine wpAnyH_take (i := 9) (v := .pointer (some ⟨g, 3, none⟩)) rfl (by kernel_rfl) (by kernel_rfl) (by kernel_rfl) (fun _ _ _ h => h) (Or.inl ⟨by rfl, by intro W hW; go_simp; try (first | (with_reducible rfl) | omega)⟩) hS0 ?_
                  refine wpAnyH_take (i := 12) (v := .pointer (some ⟨g + 1, 2, none⟩)) rfl (by kernel_rfl) (by kernel_rfl) (by kernel_rfl) (fun _ _ _ h => h) (Or.inl ⟨by rfl, by intro W hW; go_simp; try (first | (with_reducible rfl) | omega)⟩) hS0 ?_
                  refine wpAnyH_take (i := 14) (v := .agg #[.string s, .bool b, .slice A0 n0 c0, .slice A1 j c1, .slice A2 n2 c2, .slice A3 n3 c3, .slice A4 n4 c4, .slice A5 n5 c5, .slice A6 n6 c6, .slice A7 n7 c7, .slice A8 n8 c8]) rfl (by kernel_rfl) (by kernel_rfl) (by kernel_rfl) (fun _ _ _ h => h) (Or.inl ⟨by rfl, by intro W hW; obtain ⟨⟨e0, e1, e2, e3, e4, e5, e6, e7, e8, e9, e10⟩, b0, b1, b2, b3, b4⟩ := EQ.out W (HS9.out W hW); go_simp; try (first | (with_reducible rfl) | omega)⟩) hS0 ?_
                  refine wpAnyH_take (i := 17) (v := .int .i64 (wrap64 (pb + (n4 : Int)))) rfl (by kernel_rfl) (by kernel_rfl) (by kernel_rfl) (fun _ _ _ h => h) (Or.inl ⟨by rfl, by intro W hW; go_simp; try (first | (with_reducible rfl) | omega)⟩) hS0 ?_
                  try go_simp
                  refine wpAnyH_take (i := 3) (v := .int .i64 sp) rfl (by kernel_rfl) (by kernel_rfl) (by kernel_rfl) (fun _ _ _ h => h) (Or.inl ⟨by rfl, by intro W hW; obtain ⟨⟨e0, e1, e2, e3, e4, e5, e6, e7, e8, e9, e10⟩, b0, b1, b2, b3, b4⟩ := EQ.out W (HS9.out W hW); go_simp; try (first | (with_reducible rfl) | omega)⟩) hS0 ?_
                  refine wpAnyH_take (i := 6) (v := .int .i64 sl) rfl (by kernel_rfl) (by kernel_rfl) (by kernel_rfl) (fun _ _ _ h => h) (Or.inl ⟨by rfl, by intro W hW; obtain ⟨⟨e0, e1, e2, e3, e4, e5, e6, e7, e8, e9, e10⟩, b0, b1, b2, b3, b4⟩ := EQ.out W (HS9.out W hW); go_simp; try (first | (with_reducible rfl) | omega)⟩) hS0 ?_
                  refine wpAnyH_take (i := 8) (v := .int .i64 ss) rfl (by kernel_rfl) (by kernel_rfl) (by kernel_rfl) (fun _ _ _ h => h) (Or.inl ⟨by rfl, by intro W hW; obtain ⟨⟨e0, e1, e2, e3, e4, e5, e6, e7, e8, e9, e10⟩, b0, b1, b2, b3, b4⟩ := EQ.out W (HS9.out W hW); go_simp; try (first | (with_reducible rfl) | omega)⟩) hS0 ?_
                  refine wpAnyH_take (i := 10) (v := .slice A1 j c1) rfl (by kernel_rfl) (by kernel_rfl) (by kernel_rfl) (fun _ _ _ h => h) (Or.inl ⟨by rfl, by intro W hW; obtain ⟨⟨e0, e1, e2, e3, e4, e5, e6, e7, e8, e9, e10⟩, b0, b1, b2, b3, b4⟩ := EQ.out W (HS9.out W hW); go_simp; try (first | (with_reducible rfl) | omega)⟩) hS0 ?_
                  refine wpAnyH_take (i := 13) (v := .int .i64 ss) rfl (by kernel_rfl) (by kernel_rfl) (by kernel_rfl) (fun _ _ _ h => h) (Or.inl ⟨by rfl, by intro W hW; obtain ⟨⟨e0, e1, e2, e3, e4, e5, e6, e7, e8, e9, e10⟩, b0, b1, b2, b3, b4⟩ := EQ.out W (HS9.out W hW); go_simp; try (first | (with_reducible rfl) | omega)⟩) hS0 ?_
                  try go_simp
                  refine wpAnyH_take (i := 11) (v := .int .i64 (j : Int)) rfl (by kernel_rfl) (by kernel_rfl) (by kernel_rfl) (fun _ _ _ h => h) (Or.inl ⟨by rfl, by intro W hW; go_simp; try (first | (with_reducible rfl) | omega)⟩) hS0 ?_
                  try go_simp
                  obtain ⟨wd, hwd⟩ : ∃ X, wr.drew = X := ⟨_, rfl⟩
                  have hE0 : Below wr.heap.size wr wd := by rw [← hwd]; exact (Below.refl _ _).drew
                  rw [hwd] at hS0
                  rw [hwd]
                  clear hwd hS0
                  have HSE : Hid (∀ W, Below wr.heap.size wr W → S5 (g + 3) wr W) := Lib.hid fun W hW => (Kp.refl _ wr).ofBelow hW
                  refine (fun (hT : ∀ (lb : Nat) (w12 : World), Hid (w12.ownsRow wr.heap.size 58 7 (.slice (some ⟨lb, 0, none⟩) 1 1) 1 (cellsN ⟨sp, gi, sl, ss, (j : Int), IntKind.i64.wrap (ss + ow), wrap64 (pb + (n4 : Int))⟩) ∧ Below wr.heap.size wr w12) → (?T : Nat → World → Prop) lb w12) => ?main) ?tail
                  case main =>
                    refine wpAnyH_two (i := 1) (j := 15) (by kernel_rfl) rfl rfl (fun K hK => ?_) (fun K hK => ?_)
                    · have hcc := HP9.out.hd.on hE0
                      have q3 := hcc.at_ 3 _ rfl
                      go_simp
                      refine hK _ _ ⟨HSE.out _ hE0, ?_⟩; clear hK K q3 hcc
                      refine wpAnyH_one (i := 15) (by kernel_rfl) rfl (fun K hK => ?_)
                      go_simp
                      refine (cOw.out _ (HS9.out _ (HSE.out _ hE0))).mono ?_
                      rintro e w11 ⟨rfl, hb11⟩
                      have hE11 : Below wr.heap.size wr w11 := hE0.trans (hb11.mono hE0.size)
                      clear hb11
                      go_simp
                      refine hK _ _ ⟨HSE.out _ hE11, ?_⟩; clear hK K
                      try go_simp
                      refine wpAnyH_take (i := 16) (v := .int .i64 (IntKind.i64.wrap (ss + ow))) rfl (by kernel_rfl) (by kernel_rfl) (by kernel_rfl) (fun _ _ _ h => h) (Or.inl ⟨by rfl, by intro W hW; go_simp; try (first | (with_reducible rfl) | omega)⟩) (HSE.out _ hE11) ?_
                      try go_simp
                      refine wpAnyH_take (i := 18) (v := .agg #[.int .i64 sp, .int .i64 gi, .int .i64 sl, .int .i64 ss, .int .i64 (j : Int), .int .i64 (IntKind.i64.wrap (ss + ow)), .int .i64 (wrap64 (pb + (n4 : Int)))]) rfl (by kernel_rfl) (by kernel_rfl) (by kernel_rfl) (fun _ _ _ h => h) (Or.inl ⟨by rfl, by intro W hW; go_simp; try (first | (with_reducible rfl) | omega)⟩) (HSE.out _ hE11) ?_
                      try go_simp
                      refine wpAnyH_one (i := 19) (by kernel_rfl) rfl (fun K hK => ?_)
                      obtain ⟨lb, hlb⟩ : ∃ X, (World.heap w11).size = X := ⟨_, rfl⟩
                      obtain ⟨w12, hw12⟩ : ∃ X, World.alloc w11 (.cells #[.int .i64 sp, .int .i64 gi, .int .i64 sl, .int .i64 ss, .int .i64 (j : Int), .int .i64 (IntKind.i64.wrap (ss + ow)), .int .i64 (wrap64 (pb + (n4 : Int)))] 58) = X := ⟨_, rfl⟩
                      have hb12 : Below (World.heap w11).size w11 w12 := by rw [← hw12]; exact bl_one _
                      have hE12 : Below wr.heap.size wr w12 := hE11.trans (hb12.mono hE11.size)
                      have HL12 : Hid (w12.ownsRow wr.heap.size 58 7 (.slice (some ⟨lb, 0, none⟩) 1 1) 1 (cellsN ⟨sp, gi, sl, ss, (j : Int), IntKind.i64.wrap (ss + ow), wrap64 (pb + (n4 : Int))⟩)) := Lib.hid (by rw [← hw12]; exact own_at hlb wr.heap.size (by have := hE11.size; omega) (cellsN ⟨sp, gi, sl, ss, (j : Int), IntKind.i64.wrap (ss + ow), wrap64 (pb + (n4 : Int))⟩) _ 7 1 (by unfold maxLen; omega) rfl)
                      go_simp
                      refine hK _ _ ⟨HSE.out _ hE12, ?_⟩; clear hK K hb12 hw12 hlb
                      exact hT lb w12 (Lib.hid ⟨HL12.out, hE12⟩)
                    · go_simp
                      refine (cOw.out _ (HS9.out _ (HSE.out _ hE0))).mono ?_
                      rintro e w13 ⟨rfl, hb13⟩
                      have hE13 : Below wr.heap.size wr w13 := hE0.trans (hb13.mono hE0.size)
                      clear hb13
                      go_simp
                      refine hK _ _ ⟨HSE.out _ hE13, ?_⟩; clear hK K
                      try go_simp
                      refine wpAnyH_take (i := 16) (v := .int .i64 (IntKind.i64.wrap (ss + ow))) rfl (by kernel_rfl) (by kernel_rfl) (by kernel_rfl) (fun _ _ _ h => h) (Or.inl ⟨by rfl, by intro W hW; go_simp; try (first | (with_reducible rfl) | omega)⟩) (HSE.out _ hE13) ?_
                      try go_simp
                      refine wpAnyH_take (i := 18) (v := .agg #[.int .i64 sp, .int .i64 gi, .int .i64 sl, .int .i64 ss, .int .i64 (j : Int), .int .i64 (IntKind.i64.wrap (ss + ow)), .int .i64 (wrap64 (pb + (n4 : Int)))]) rfl (by kernel_rfl) (by kernel_rfl) (by kernel_rfl) (fun _ _ _ h => h) (Or.inl ⟨by rfl, by intro W hW; go_simp; try (first | (with_reducible rfl) | omega)⟩) (HSE.out _ hE13) ?_
                      try go_simp
                      refine wpAnyH_two (i := 1) (j := 19) (by kernel_rfl) rfl rfl (fun K hK => ?_) (fun K hK => ?_)
                      · have hcc := HP9.out.hd.on hE13
                        have q3 := hcc.at_ 3 _ rfl
                        go_simp
                        refine hK _ _ ⟨HSE.out _ hE13, ?_⟩; clear hK K q3 hcc
                        refine wpAnyH_one (i := 19) (by kernel_rfl) rfl (fun K hK => ?_)
                        obtain ⟨lb, hlb⟩ : ∃ X, (World.heap w13).size = X := ⟨_, rfl⟩
                        obtain ⟨w14, hw14⟩ : ∃ X, World.alloc w13 (.cells #[.int .i64 sp, .int .i64 gi, .int .i64 sl, .int .i64 ss, .int .i64 (j : Int), .int .i64 (IntKind.i64.wrap (ss + ow)), .int .i64 (wrap64 (pb + (n4 : Int)))] 58) = X := ⟨_, rfl⟩
                        have hb14 : Below (World.heap w13).size w13 w14 := by rw [← hw14]; exact bl_one _
                        have hE14 : Below wr.heap.size wr w14 := hE13.trans (hb14.mono hE13.size)
                        have HL14 : Hid (w14.ownsRow wr.heap.size 58 7 (.slice (some ⟨lb, 0, none⟩) 1 1) 1 (cellsN ⟨sp, gi, sl, ss, (j : Int), IntKind.i64.wrap (ss + ow), wrap64 (pb + (n4 : Int))⟩)) := Lib.hid (by rw [← hw14]; exact own_at hlb wr.heap.size (by have := hE13.size; omega) (cellsN ⟨sp, gi, sl, ss, (j : Int), IntKind.i64.wrap (ss + ow), wrap64 (pb + (n4 : Int))⟩) _ 7 1 (by unfold maxLen; omega) rfl)
                        go_simp
                        refine hK _ _ ⟨HSE.out _ hE14, ?_⟩; clear hK K hb14 hw14 hlb
                        exact hT lb w14 (Lib.hid ⟨HL14.out, hE14⟩)
                      · obtain ⟨lb, hlb⟩ : ∃ X, (World.heap w13).size = X := ⟨_, rfl⟩
                        obtain ⟨w15, hw15⟩ : ∃ X, World.alloc w13 (.cells #[.int .i64 sp, .int .i64 gi, .int .i64 sl, .int .i64 ss, .int .i64 (j : Int), .int .i64 (IntKind.i64.wrap (ss + ow)), .int .i64 (wrap64 (pb + (n4 : Int)))] 58) = X := ⟨_, rfl⟩
                        have hb15 : Below (World.heap w13).size w13 w15 := by rw [← hw15]; exact bl_one _
                        have hE15 : Below wr.heap.size wr w15 := hE13.trans (hb15.mono hE13.size)
                        have HL15 : Hid (w15.ownsRow wr.heap.size 58 7 (.slice (some ⟨lb, 0, none⟩) 1 1) 1 (cellsN ⟨sp, gi, sl, ss, (j : Int), IntKind.i64.wrap (ss + ow), wrap64 (pb + (n4 : Int))⟩)) := Lib.hid (by rw [← hw15]; exact own_at hlb wr.heap.size (by have := hE13.size; omega) (cellsN ⟨sp, gi, sl, ss, (j : Int), IntKind.i64.wrap (ss + ow), wrap64 (pb + (n4 : Int))⟩) _ 7 1 (by unfold maxLen; omega) rfl)
                        go_simp
                        refine hK _ _ ⟨HSE.out _ hE15, ?_⟩; clear hK K hb15 hw15 hlb
                        refine wpAnyH_one (i := 1) (by kernel_rfl) rfl (fun K hK => ?_)
                        have hcc := HP9.out.hd.on hE15
                        have q3 := hcc.at_ 3 _ rfl
                        go_simp
                        refine hK _ _ ⟨HSE.out _ hE15, ?_⟩; clear hK K q3 hcc
                        exact hT lb w15 (Lib.hid ⟨HL15.out, hE15⟩)
                  case tail =>
                    intro lb w12 H12
                    clear cOw
                    have hsrc := Lib.hid (own_src H12.out.1)
                    have HE12 := Lib.hid H12.out.2
                    clear H12
                    refine wpAnyH_one (i := 20) (by kernel_rfl) rfl (fun K hK => ?_)
                    refine step_append_src _ rfl _ _ 25 rfl wr.heap.size 58 j7 (.agg #[.int .i64 0, .int .i64 0, .int .i64 0, .int .i64 0, .int .i64 0, .int .i64 0, .int .i64 0]) 7 56 Try.underlying25 hj7 hy0 hy1 hy2 rfl (by decide) (.slice none 0 0) 0 [] ?qq1 (World.ownsRow_nil _ _ _ _) (some ⟨lb, 0, none⟩) 1 1 (cellsN ⟨sp, gi, sl, ss, (j : Int), IntKind.i64.wrap (ss + ow), wrap64 (pb + (n4 : Int))⟩) ?qq2 hsrc.out (by have := oneN [⟨sp, gi, sl, ss, (j : Int), IntKind.i64.wrap (ss + ow), wrap64 (pb + (n4 : Int))⟩]; simpa using this) (by unfold maxLen; omega) (by omega) HE12.out.size ?_
                    case qq1 => go_simp
                    case qq2 => go_simp
                    intro v' w30 hown' hgrow hat
                    obtain ⟨C3, d3, rfl, _⟩ := own_form hown'
                    have HO30 := Lib.hid hown'
                    have hE30 : Below wr.heap.size wr w30 := HE12.out.trans (Below.grown (Below.refl _ _) hgrow HE12.out.size (fun j hj => by cases hj))
                    clear hown' hgrow hat hsrc
                    try go_simp
                    refine hK _ _ ⟨HSE.out _ hE30, ?_⟩; clear hK K
                    have hc30 := HP9.out.hd.on hE30
                    have x3 := hc30.at_ 3 _ rfl
                    have f3 := hc30.fz 3 (by simp)
                    have HC30 := Lib.hid hc30
                    clear hc30
                    refine wpAnyH_one (i := 21) (by kernel_rfl) rfl (fun K hK => ?_)
                    go_simp
                    refine hK _ _ ⟨HSE.out _ hE30, ?_⟩; clear hK K
                    refine wpAnyH_one (i := 22) (by kernel_rfl) rfl (fun K hK => ?_)
                    go_simp
                    refine hK _ _ ⟨(Kp.setCell (HSE.out _ hE30) (p := ⟨g + 3, 3, none⟩) (fun _ => rfl) _), ?_⟩; clear hK K
                    try go_simp
                    refine wpAnyH_done (by kernel_rfl) ?_ _
                    try go_simp
                    clear x3 f3
                    have hk31 := kp_set w30 (g + 3) 3 (.slice C3 1 d3)
                    obtain ⟨w31, hw31⟩ : ∃ X, w30.setCell ⟨g + 3, 3, none⟩ (.slice C3 1 d3) = X := ⟨_, rfl⟩
                    rw [hw31] at hk31
                    rw [hw31]
                    obtain ⟨fx, hfx⟩ : ∃ y, (⟨sp, gi, sl, ss, (j : Int), IntKind.i64.wrap (ss + ow), wrap64 (pb + (n4 : Int))⟩ : DNode) = y := ⟨_, rfl⟩
                    have HFX := Lib.hid hfx
                    have HK31 : Hid (BK (FB g) w4 w31) := Lib.hid (HS9.out w31 (Kp.trans ((Kp.refl _ wr).ofBelow hE30) hk31))
                    have HC31 : Hid (Cells w31 (g + 3) [.slice C0 (j + 1 + n4 + n2) d0, .slice C1 (j + 1 + n4 + n2) d1, .slice C2 (j + 1 + n4 + n2) d2, .slice C3 1 d3, .slice none 0 0]) := Lib.hid (by rw [← hw31]; exact HC30.out.put 3 (by simp) _)
                    have HO31 : Hid (w31.ownsRow wr.heap.size 58 7 (.slice C3 1 d3) 1 (cellsN fx)) := Lib.hid (by rw [← hfx]; exact hk31.own (by simpa using HO30.out) (fun j hj e => by have := (HO30.out.lt j hj).1; have := HZ9.out; omega))
                    have HW31 : Hid (Rw (g + 4) (fun j => FG3 (FB g) w5.heap.size w6.heap.size j ∨ j = g + 3) (.slice C0 (j + 1 + n4 + n2) d0) (.slice C1 (j + 1 + n4 + n2) d1) (.slice C2 (j + 1 + n4 + n2) d2) (j + 1 + n4 + n2) (j + 1 + n4 + n2) (j + 1 + n4 + n2) (codeL x sa sn ss j n2) (lineL x sl j n2 n4) (atL x sn sp j n2 n4) w31) := Lib.hid ((HP9.out.ro.on hE30).kp hk31 (fun j hj e => HP9.out.ro.f0 j (.inr e) hj) (fun j hj e => HP9.out.ro.f1 j (.inr e) hj) (fun j hj e => HP9.out.ro.f2 j (.inr e) hj))
                    have HZ31 : Hid (wr.heap.size ≤ w31.heap.size) := Lib.hid (Nat.le_trans hE30.size hk31.size)
                    have HS31 : Hid (∀ W, S9 (g + 3) wr w31 W → BK (FB g) w4 W) := Lib.hid fun W hW => HK31.out.trans (hW.mono fun j _ e hj => by have := HZ9.out; simp only [FB] at hj; omega)
                    have cTr : Hid (∀ W, BK (FB g) w4 W → Calls Try.prog 32 #[.slice A6 n6 c6, .int .i64 sn, .int .i64 ss, .int .i64 pb] W (IsN (n6 - 1) (treeM sn ss pb x.nodes) W)) := Lib.hid fun W hW => refTree_any n6 c6 A6 x.nodes sn ss pb W (HFM.out W hW).r6 (by omega)
                    obtain ⟨tr, htr⟩ : ∃ v, treeM sn ss pb x.nodes = v := ⟨_, rfl⟩
                    rw [htr] at cTr
                    have HTR := Lib.hid htr
                    obtain ⟨tn, htn⟩ : ∃ t, n6 - 1 = t := ⟨_, rfl⟩
                    have HTN := Lib.hid htn
                    have htb : tn ≤ 20 := by omega
                    rw [htn] at cTr
                    clear htr htn hfx hw31 hk31 hE30 HS9 HSE HE12
                    go_wp2_with fail
                    refine wp_region_held (S := fun W => S9 (g + 3) wr w31 W) (by kernel_rfl) ?_
                    change wpAnyH _ _ _ _ _ _ _ _ (World.drew _)
                    have hS0 : S9 (g + 3) wr w31 w31.drew := (Kp.refl _ _).drew
                    refine wpAnyH_take (i := 0) (v := .pointer (some ⟨g + 3, 3, none⟩)) rfl (by kernel_rfl) (by kernel_rfl) (by kernel_rfl) (fun _ _ _ h => h) (Or.inl ⟨by rfl, by intro W hW; go_simp; try (first | (with_reducible rfl) | omega)⟩) hS0 ?_
                    refine wpAnyH_take (i := 2) (v := .pointer (some ⟨g, 8, none⟩)) rfl (by kernel_rfl) (by kernel_rfl) (by kernel_rfl) (fun _ _ _ h => h) (Or.inl ⟨by rfl, by intro W hW; go_simp; try (first | (with_reducible rfl) | omega)⟩) hS0 ?_
                    refine wpAnyH_take (i := 4) (v := .pointer (some ⟨g + 1, 1, none⟩)) rfl (by kernel_rfl) (by kernel_rfl) (by kernel_rfl) (fun _ _ _ h => h) (Or.inl ⟨by rfl, by intro W hW; go_simp; try (first | (with_reducible rfl) | omega)⟩) hS0 ?_
                    refine wpAnyH_take (i := 6) (v := .pointer (some ⟨g + 1, 2, none⟩)) rfl (by kernel_rfl) (by kernel_rfl) (by kernel_rfl) (fun _ _ _ h => h) (Or.inl ⟨by rfl, by intro W hW; go_simp; try (first | (with_reducible rfl) | omega)⟩) hS0 ?_
                    refine wpAnyH_take (i := 8) (v := .int .i64 pb) rfl (by kernel_rfl) (by kernel_rfl) (by kernel_rfl) (fun _ _ _ h => h) (Or.inl ⟨by rfl, by intro W hW; go_simp; try (first | (with_reducible rfl) | omega)⟩) hS0 ?_
                    try go_simp
                    refine wpAnyH_take (i := 3) (v := .slice A6 n6 c6) rfl (by kernel_rfl) (by kernel_rfl) (by kernel_rfl) (fun _ _ _ h => h) (Or.inl ⟨by rfl, by intro W hW; obtain ⟨⟨e0, e1, e2, e3, e4, e5, e6, e7, e8, e9, e10⟩, b0, b1, b2, b3, b4⟩ := EQ.out W (HS31.out W hW); go_simp; try (first | (with_reducible rfl) | omega)⟩) hS0 ?_
                    refine wpAnyH_take (i := 5) (v := .int .i64 sn) rfl (by kernel_rfl) (by kernel_rfl) (by kernel_rfl) (fun _ _ _ h => h) (Or.inl ⟨by rfl, by intro W hW; obtain ⟨⟨e0, e1, e2, e3, e4, e5, e6, e7, e8, e9, e10⟩, b0, b1, b2, b3, b4⟩ := EQ.out W (HS31.out W hW); go_simp; try (first | (with_reducible rfl) | omega)⟩) hS0 ?_
                    refine wpAnyH_take (i := 7) (v := .int .i64 ss) rfl (by kernel_rfl) (by kernel_rfl) (by kernel_rfl) (fun _ _ _ h => h) (Or.inl ⟨by rfl, by intro W hW; obtain ⟨⟨e0, e1, e2, e3, e4, e5, e6, e7, e8, e9, e10⟩, b0, b1, b2, b3, b4⟩ := EQ.out W (HS31.out W hW); go_simp; try (first | (with_reducible rfl) | omega)⟩) hS0 ?_
                    try go_simp
                    obtain ⟨wd, hwd⟩ : ∃ X, w31.drew = X := ⟨_, rfl⟩
                    have hE0 : Below w31.heap.size w31 wd := by rw [← hwd]; exact (Below.refl _ _).drew
                    rw [hwd] at hS0
                    rw [hwd]
                    clear hwd hS0
                    have HSE : Hid (∀ W, Below w31.heap.size w31 W → S9 (g + 3) wr w31 W) := Lib.hid fun W hW => (Kp.refl _ w31).ofBelow hW
                    refine (fun (hT : ∀ (TA : Option Addr) (tc : Nat) (w42 : World), Hid (SlN w42 w42.heap.size TA tn tc tr ∧ Below w31.heap.size w31 w42) → (?T2 : Option Addr → Nat → World → Prop) TA tc w42) => ?main2) ?tail2
                    case main2 =>
                      refine wpAnyH_two (i := 1) (j := 9) (by kernel_rfl) rfl rfl (fun K hK => ?_) (fun K hK => ?_)
                      · have hcc := HC31.out.on hE0
                        have q3 := hcc.at_ 3 _ rfl
                        go_simp
                        refine hK _ _ ⟨HSE.out _ hE0, ?_⟩; clear hK K q3 hcc
                        refine wpAnyH_one (i := 9) (by kernel_rfl) rfl (fun K hK => ?_)
                        go_simp
                        refine (cTr.out _ (HS31.out _ (HSE.out _ hE0))).mono ?_
                        rintro e w41 ⟨TA, tc, rfl, ht41, hb41⟩
                        have hE41 : Below w31.heap.size w31 w41 := hE0.trans (hb41.mono hE0.size)
                        have HT41 := Lib.hid ht41
                        clear hb41 ht41
                        go_simp
                        refine hK _ _ ⟨HSE.out _ hE41, ?_⟩; clear hK K
                        exact hT TA tc w41 (Lib.hid ⟨HT41.out, hE41⟩)
                      · go_simp
                        refine (cTr.out _ (HS31.out _ (HSE.out _ hE0))).mono ?_
                        rintro e w42 ⟨TA, tc, rfl, ht42, hb42⟩
                        have hE42 : Below w31.heap.size w31 w42 := hE0.trans (hb42.mono hE0.size)
                        have HT42 := Lib.hid ht42
                        clear hb42 ht42
                        go_simp
                        refine hK _ _ ⟨HSE.out _ hE42, ?_⟩; clear hK K
                        refine wpAnyH_one (i := 1) (by kernel_rfl) rfl (fun K hK => ?_)
                        have hcc := HC31.out.on hE42
                        have q3 := hcc.at_ 3 _ rfl
                        go_simp
                        refine hK _ _ ⟨HSE.out _ hE42, ?_⟩; clear hK K q3 hcc
                        exact hT TA tc w42 (Lib.hid ⟨HT42.out, hE42⟩)
                    case tail2 =>
                      intro TA tc w42 H42
                      clear cTr
                      have hsrc := Lib.hid (SlR.src (f := cellsN) (fun _ => rfl) H42.out.1)
                      have HE42 := Lib.hid H42.out.2
                      clear H42
                      have HO42 := Lib.hid (own_keep HO31.out HE42.out)
                      have HZ42 : Hid (wr.heap.size ≤ w42.heap.size) := Lib.hid (Nat.le_trans HZ31.out HE42.out.size)
                      refine wpAnyH_one (i := 10) (by kernel_rfl) rfl (fun K hK => ?_)
                      refine step_append_src _ rfl _ _ 25 rfl wr.heap.size 58 j7 (.agg #[.int .i64 0, .int .i64 0, .int .i64 0, .int .i64 0, .int .i64 0, .int .i64 0, .int .i64 0]) 7 56 Try.underlying25 hj7 hy0 hy1 hy2 rfl (by decide) (.slice C3 1 d3) 1 (cellsN fx) ?qq1 HO42.out TA tn tc (tr.flatMap cellsN) ?qq2 hsrc.out (oneN tr) (by unfold maxLen; omega) (by omega) HZ42.out ?_
                      case qq1 => go_simp
                      case qq2 => go_simp
                      intro v' w50 hown' hgrow hat
                      obtain ⟨C5, d5, rfl, _⟩ := own_form hown'
                      have HO50 := Lib.hid hown'
                      have hE50 : Below wr.heap.size w31 w50 := (HE42.out.mono HZ31.out).trans (Below.grown (Below.refl _ _) hgrow HZ42.out (fun j hj => (HO42.out.lt j hj).1))
                      have HC50 : Hid (Cells w50 (g + 3) [.slice C0 (j + 1 + n4 + n2) d0, .slice C1 (j + 1 + n4 + n2) d1, .slice C2 (j + 1 + n4 + n2) d2, .slice C3 1 d3, .slice none 0 0]) := Lib.hid (HC31.out.kp (Kp.belowOf hE50) (by have := HZ9.out; omega))
                      clear hown' hgrow hat hsrc
                      have HS50 : Hid (S9 (g + 3) wr w31 w50) := Lib.hid ((Kp.belowOf hE50).mono fun k _ h => .inr h)
                      try go_simp
                      refine hK _ _ ⟨HS50.out, ?_⟩; clear hK K
                      have x3 := HC50.out.at_ 3 _ rfl
                      have f3 := HC50.out.fz 3 (by simp)
                      refine wpAnyH_one (i := 11) (by kernel_rfl) rfl (fun K hK => ?_)
                      go_simp
                      refine hK _ _ ⟨HS50.out, ?_⟩; clear hK K
                      refine wpAnyH_one (i := 12) (by kernel_rfl) rfl (fun K hK => ?_)
                      go_simp
                      refine hK _ _ ⟨(Kp.setCell HS50.out (p := ⟨g + 3, 3, none⟩) (fun _ => .inl rfl) _), ?_⟩; clear hK K
                      try go_simp
                      refine wpAnyH_done (by kernel_rfl) ?_ _
                      try go_simp
                      clear x3 f3
                      have hk51 := kp_set w50 (g + 3) 3 (.slice C5 (1 + tn) d5)
                      obtain ⟨w51, hw51⟩ : ∃ X, w50.setCell ⟨g + 3, 3, none⟩ (.slice C5 (1 + tn) d5) = X := ⟨_, rfl⟩
                      rw [hw51] at hk51
                      rw [hw51]
                      have HC51 : Hid (Cells w51 (g + 3) [.slice C0 (j + 1 + n4 + n2) d0, .slice C1 (j + 1 + n4 + n2) d1, .slice C2 (j + 1 + n4 + n2) d2, .slice C5 (1 + tn) d5, .slice none 0 0]) := Lib.hid (by rw [← hw51]; exact HC50.out.put 3 (by simp) _)
                      have HS51 : Hid (S9 (g + 3) wr w31 w51) := Lib.hid (Kp.trans HS50.out (hk51.mono fun _ _ h => .inl h))
                      have HK51 : Hid (BK (FB g) w4 w51) := Lib.hid (HS31.out w51 HS51.out)
                      have HR51 : Hid (Cells w51 (g + 2) #[.slice none 0 0, .slice none 0 0, .slice none 0 0, .slice none 0 0, .slice none 0 0].toList) := Lib.hid (HRC.out.kp HK51.out (fun hn => hn (by simp only [FB]; omega)))
                      have HO51 : Hid (w51.ownsRow wr.heap.size 58 7 (.slice C5 (1 + tn) d5) (1 + tn) (cellsN fx ++ tr.flatMap cellsN)) := Lib.hid (hk51.own HO50.out (fun j hj e => by have := (HO50.out.lt j hj).1; have := HZ9.out; omega))
                      have HW51 : Hid (Rw (g + 4) (fun j => FG3 (FB g) w5.heap.size w6.heap.size j ∨ j = g + 3) (.slice C0 (j + 1 + n4 + n2) d0) (.slice C1 (j + 1 + n4 + n2) d1) (.slice C2 (j + 1 + n4 + n2) d2) (j + 1 + n4 + n2) (j + 1 + n4 + n2) (j + 1 + n4 + n2) (codeL x sa sn ss j n2) (lineL x sl j n2 n4) (atL x sn sp j n2 n4) w51) := Lib.hid (HW31.out.kp HS51.out (fun k hk e => by
                        rcases e with e | e
                        · exact HP9.out.ro.f0 k (.inr e) hk
                        · have := (HP9.out.ro.r0.lt k hk).2; omega) (fun k hk e => by
                        rcases e with e | e
                        · exact HP9.out.ro.f1 k (.inr e) hk
                        · have := (HP9.out.ro.r1.lt k hk).2; omega) (fun k hk e => by
                        rcases e with e | e
                        · exact HP9.out.ro.f2 k (.inr e) hk
                        · have := (HP9.out.ro.r2.lt k hk).2; omega))
                      have HZ51 : Hid (wr.heap.size ≤ w51.heap.size) := Lib.hid (Nat.le_trans HZ31.out HS51.out.size)
                      have cSl := Lib.hid (rslots_any s b A0 n0 c0 A1 j c1 A2 n2 c2 A3 n3 c3 A4 n4 c4 A5 n5 c5 A6 n6 c6 A7 n7 c7 A8 n8 c8 x w51 (HFM.out w51 HK51.out))
                      obtain ⟨⟨e0, e1, e2, e3, e4, e5, e6, e7, e8, e9, e10⟩, b0, b1, b2, b3, b4⟩ := EQ.out w51 HK51.out
                      clear hk51 hw51 hE50 HSE HS50 HC50 HO50
                      go_wp2_with fail
                      refine cSl.out.mono ?_
                      rintro e w32 ⟨C4, d4, rfl, ho4, hb4⟩
                      clear e0 e1 e2 e3 e4 e5 e6 e7 e8 e9 e10 b0 b1 b2 b3 b4
                      have hc32 := HC51.out.on hb4
                      have y0 := hc32.at_ 0 _ rfl
                      have y1 := hc32.at_ 1 _ rfl
                      have y2 := hc32.at_ 2 _ rfl
                      have y3 := hc32.at_ 3 _ rfl
                      have y4 := hc32.at_ 4 _ rfl
                      have fy := hc32.fz 4 (by simp)
                      have hr32 := HR51.out.on hb4
                      have r0 := hr32.at_ 0 _ rfl
                      have r1 := hr32.at_ 1 _ rfl
                      have r2 := hr32.at_ 2 _ rfl
                      have r3 := hr32.at_ 3 _ rfl
                      have r4 := hr32.at_ 4 _ rfl
                      have fr0 := hr32.fz 0 (by simp)
                      have fr1 := hr32.fz 1 (by simp)
                      have fr2 := hr32.fz 2 (by simp)
                      have fr3 := hr32.fz 3 (by simp)
                      have fr4 := hr32.fz 4 (by simp)
                      have HR32 := Lib.hid hr32
                      have HO4 := Lib.hid ho4
                      have HO32 := Lib.hid (own_keep HO51.out hb4)
                      have HW32 := Lib.hid (HW51.out.on hb4)
                      have HZ32 : Hid (w51.heap.size ≤ w32.heap.size) := Lib.hid hb4.size
                      have HB32 : Hid (Below w.heap.size w w32) := Lib.hid (by
                        have h1 : Kp (fun j => ¬ FB g j) w4 w32 := HK51.out.bel hb4
                        have h2 : Below g w4 w32 := h1.below (by have := HZ4.out; omega) (fun k hk => by simp only [FB] at hk; omega)
                        rw [HG.out]
                        have h3 := HB4.out
                        rw [HG.out] at h3
                        exact h3.trans h2)
                      clear hc32 hr32 ho4 hb4 cSl HC51 HR51 HO51 HW51
                      go_wp2_with fail
                      clear y0 y1 y2 y3 y4 fy r0 r1 r2 r3 r4 fr0 fr1 fr2 fr3 fr4
                      obtain ⟨w33, hw33⟩ : ∃ X, (((((w32.setCell ⟨g + 1 + 1 + 1, 4, none⟩ (.slice C4 (j + n2 + n3) d4)).setCell ⟨g + 1 + 1, 0, none⟩ (.slice C0 (j + 1 + n4 + n2) d0)).setCell ⟨g + 1 + 1, 1, none⟩ (.slice C1 (j + 1 + n4 + n2) d1)).setCell ⟨g + 1 + 1, 2, none⟩ (.slice C2 (j + 1 + n4 + n2) d2)).setCell ⟨g + 1 + 1, 3, none⟩ (.slice C5 (1 + tn) d5)).setCell ⟨g + 1 + 1, 4, none⟩ (.slice C4 (j + n2 + n3) d4) = X := ⟨_, rfl⟩
                      have hk33 : Kp (fun j => j = g + 3 ∨ j = g + 2) w32 w33 := by
                        rw [← hw33]
                        exact ((((((Kp.refl (fun j => j = g + 3 ∨ j = g + 2) w32).setCell (p := ⟨g + 1 + 1 + 1, 4, none⟩) (fun _ => .inl rfl) _).setCell (p := ⟨g + 1 + 1, 0, none⟩) (fun _ => .inr rfl) _).setCell (p := ⟨g + 1 + 1, 1, none⟩) (fun _ => .inr rfl) _).setCell (p := ⟨g + 1 + 1, 2, none⟩) (fun _ => .inr rfl) _).setCell (p := ⟨g + 1 + 1, 3, none⟩) (fun _ => .inr rfl) _).setCell (p := ⟨g + 1 + 1, 4, none⟩) (fun _ => .inr rfl) _
                      have hc33 : Cells w33 (g + 2) [.slice C0 (j + 1 + n4 + n2) d0, .slice C1 (j + 1 + n4 + n2) d1, .slice C2 (j + 1 + n4 + n2) d2, .slice C5 (1 + tn) d5, .slice C4 (j + n2 + n3) d4] := by
                        rw [← hw33]
                        exact ((((((HR32.out.far (g := g + 3) (q := 4) (by omega) (.slice C4 (j + n2 + n3) d4)).put 0 (by simp) _).put 1 (by simp) _).put 2 (by simp) _).put 3 (by simp) _).put 4 (by simp) _)
                      rw [hw33]
                      have x0 : w33.cell? ⟨g + 1 + 1, 0, none⟩ = _ := hc33.at_ 0 _ rfl
                      have x1 : w33.cell? ⟨g + 1 + 1, 1, none⟩ = _ := hc33.at_ 1 _ rfl
                      have x2 : w33.cell? ⟨g + 1 + 1, 2, none⟩ = _ := hc33.at_ 2 _ rfl
                      have x3 : w33.cell? ⟨g + 1 + 1, 3, none⟩ = _ := hc33.at_ 3 _ rfl
                      have x4 : w33.cell? ⟨g + 1 + 1, 4, none⟩ = _ := hc33.at_ 4 _ rfl
                      have hro := HW32.out.kp hk33 (fun j hj e => by rcases e with e | e; { exact HW32.out.f0 j (.inr e) hj }; { exact HW32.out.f0 j (.inl (.inl (by simp only [FB]; omega))) hj }) (fun j hj e => by rcases e with e | e; { exact HW32.out.f1 j (.inr e) hj }; { exact HW32.out.f1 j (.inl (.inl (by simp only [FB]; omega))) hj }) (fun j hj e => by rcases e with e | e; { exact HW32.out.f2 j (.inr e) hj }; { exact HW32.out.f2 j (.inl (.inl (by simp only [FB]; omega))) hj })
                      have hon := hk33.own HO32.out (fun j hj e => by have := (HO32.out.lt j hj).1; have := HZ9.out; omega)
                      have hot := hk33.own HO4.out (fun j hj e => by have := (HO4.out.lt j hj).1; have := HZ9.out; have := HZ51.out; omega)
                      have hbw : Below w.heap.size w w33 := HB32.out.trans (hk33.below HB32.out.size (fun k hk => by have := HG.out; omega))
                      have HFIN : Hid (IsBd x gi sa sn ss sp sl j n2 n3 n4 n6 w (.returned (.agg #[.slice C0 (j + 1 + n4 + n2) d0, .slice C1 (j + 1 + n4 + n2) d1, .slice C2 (j + 1 + n4 + n2) d2, .slice C5 (1 + tn) d5, .slice C4 (j + n2 + n3) d4])) w33) := Lib.hid (by
                        have e2 := HTN.out
                        have e3 := HTR.out
                        have e4 := HFX.out
                        have e5 := HOW.out
                        have e6 := HPB.out
                        subst e2
                        subst e6
                        rw [← e4, ← e3, ← e5, wr64, resume_same] at hon
                        have h1 := HG.out
                        have h2 := HZ9.out
                        have h3 := HZ51.out
                        exact ⟨C0, d0, C1, d1, C2, d2, C5, d5, C4, d4, rfl, own_less hro.r0 (by omega), own_less hro.r1 (by omega), own_less hro.r2 (by omega), own_less (by simpa [nodeL, firstM] using hon) (by omega), own_less hot (by omega), hbw⟩)
                      clear hk33 hc33 hro hon hot hbw hw33
                      exact bodyPost_ret (v := .agg #[.slice C0 (j + 1 + n4 + n2) d0, .slice C1 (j + 1 + n4 + n2) d1, .slice C2 (j + 1 + n4 + n2) d2, .slice C5 (1 + tn) d5, .slice C4 (j + n2 + n3) d4]) (by simp [results, Try.results9, go_sem, x0, x1, x2, x3, x4]) rfl HFIN.out
end Go.Proofs.Ythfdmpcnebjkjaa
