/-
  Pieces of bodies: the places, the node of an instruction.
-/
import Derived.Test.YthfdmpcnebjkjaaPc3
namespace Go.Proofs.Ythfdmpcnebjkjaa
open Go.RowKit
set_option linter.unusedSimpArgs false
set_option linter.unusedVariables false
def placeM (b : Int) (k : Nat) : List Int := (List.range k).map fun i : Nat => wrap64 (b + (i : Int))
theorem placeM_next (b : Int) (k : Nat) : placeM b k ++ [wrap64 (b + (k : Int))] = placeM b (k + 1) := by
  unfold placeM
  rw [List.range_succ, List.map_append]
  rfl
theorem placeM_len (b : Int) (k : Nat) : (placeM b k).length = k := by simp [placeM]
def fromM (sa : Int) (np : Nat) : Int := wrap64 (wrap64 (sa + (np : Int)) + 1)
def IsPl (n : Nat) (l : List Int) (w : World) (e : Ending) (w' : World) : Prop := ∃ A c, e = .returned (.slice A n c) ∧ w'.ownsRow w.heap.size 3 1 (.slice A n c) n (rowI l) ∧ Below w.heap.size w w'
set_option maxRecDepth 100000 in
set_option maxHeartbeats 8000000 in
theorem places_any (s : ByteArray) (b : Bool) (A0 : Option Addr) (n0 c0 : Nat) (A1 : Option Addr) (n1 c1 : Nat) (A2 : Option Addr) (n2 c2 : Nat) (A3 : Option Addr) (n3 c3 : Nat) (A4 : Option Addr) (n4 c4 : Nat) (A5 : Option Addr) (n5 c5 : Nat) (A6 : Option Addr) (n6 c6 : Nat) (A7 : Option Addr) (n7 c7 : Nat) (A8 : Option Addr) (n8 c8 : Nat) (sa sn ss sp sl : Int) (w : World) (hn : n1 ≤ 300) : Calls Try.prog 42 #[.agg #[.int .i64 sa, .int .i64 sn, .int .i64 ss, .int .i64 sp, .int .i64 sl], .agg #[.string s, .bool b, .slice A0 n0 c0, .slice A1 n1 c1, .slice A2 n2 c2, .slice A3 n3 c3, .slice A4 n4 c4, .slice A5 n5 c5, .slice A6 n6 c6, .slice A7 n7 c7, .slice A8 n8 c8]] w (IsPl 2000 (placeM (fromM sa n1) 2000) w) := by
  obtain ⟨i0, hi, hz0, hz1, hz2⟩ := info_parts info_int
  obtain ⟨w2, hw2⟩ : ∃ X, (w.alloc (.cells #[.int .i64 sa, .int .i64 sn, .int .i64 ss, .int .i64 sp, .int .i64 sl] 30)).alloc (.cells #[.string s, .bool b, .slice A0 n0 c0, .slice A1 n1 c1, .slice A2 n2 c2, .slice A3 n3 c3, .slice A4 n4 c4, .slice A5 n5 c5, .slice A6 n6 c6, .slice A7 n7 c7, .slice A8 n8 c8] 28) = X := ⟨_, rfl⟩
  obtain ⟨g, hg⟩ : ∃ g, w.heap.size = g := ⟨_, rfl⟩
  have hc : Cells w2 (g + 1) #[.string s, .bool b, .slice A0 n0 c0, .slice A1 n1 c1, .slice A2 n2 c2, .slice A3 n3 c3, .slice A4 n4 c4, .slice A5 n5 c5, .slice A6 n6 c6, .slice A7 n7 c7, .slice A8 n8 c8].toList := by
    have h2 := Cells.new (w.alloc (.cells #[.int .i64 sa, .int .i64 sn, .int .i64 ss, .int .i64 sp, .int .i64 sl] 30)) #[.string s, .bool b, .slice A0 n0 c0, .slice A1 n1 c1, .slice A2 n2 c2, .slice A3 n3 c3, .slice A4 n4 c4, .slice A5 n5 c5, .slice A6 n6 c6, .slice A7 n7 c7, .slice A8 n8 c8].toList 28
    have e : (w.alloc (.cells #[.int .i64 sa, .int .i64 sn, .int .i64 ss, .int .i64 sp, .int .i64 sl] 30)).heap.size = w.heap.size + 1 := by simp
    rw [e] at h2
    rw [← hw2, ← hg]
    exact h2
  have hs : Cells w2 g #[.int .i64 sa, .int .i64 sn, .int .i64 ss, .int .i64 sp, .int .i64 sl].toList := by rw [← hw2, ← hg]; exact (Cells.new w #[.int .i64 sa, .int .i64 sn, .int .i64 ss, .int .i64 sp, .int .i64 sl].toList _).on (bl_one _)
  have HB : Hid (Below w.heap.size w w2) := Lib.hid (by rw [← hw2]; exact two_below)
  have EQ : Hid (∀ W, Below w2.heap.size w2 W → (W.cell? ⟨g + 1, 0, none⟩ = some (.string s) ∧ W.cell? ⟨g + 1, 1, none⟩ = some (.bool b) ∧ W.cell? ⟨g + 1, 2, none⟩ = some (.slice A0 n0 c0) ∧ W.cell? ⟨g + 1, 3, none⟩ = some (.slice A1 n1 c1) ∧ W.cell? ⟨g + 1, 4, none⟩ = some (.slice A2 n2 c2) ∧ W.cell? ⟨g + 1, 5, none⟩ = some (.slice A3 n3 c3) ∧ W.cell? ⟨g + 1, 6, none⟩ = some (.slice A4 n4 c4) ∧ W.cell? ⟨g + 1, 7, none⟩ = some (.slice A5 n5 c5) ∧ W.cell? ⟨g + 1, 8, none⟩ = some (.slice A6 n6 c6) ∧ W.cell? ⟨g + 1, 9, none⟩ = some (.slice A7 n7 c7) ∧ W.cell? ⟨g + 1, 10, none⟩ = some (.slice A8 n8 c8)) ∧ W.cell? ⟨g, 0, none⟩ = some (.int .i64 sa) ∧ W.cell? ⟨g, 1, none⟩ = some (.int .i64 sn) ∧ W.cell? ⟨g, 2, none⟩ = some (.int .i64 ss) ∧ W.cell? ⟨g, 3, none⟩ = some (.int .i64 sp) ∧ W.cell? ⟨g, 4, none⟩ = some (.int .i64 sl)) := Lib.hid fun W hW => ⟨⟨(hc.on hW).at_ 0 _ rfl, (hc.on hW).at_ 1 _ rfl, (hc.on hW).at_ 2 _ rfl, (hc.on hW).at_ 3 _ rfl, (hc.on hW).at_ 4 _ rfl, (hc.on hW).at_ 5 _ rfl, (hc.on hW).at_ 6 _ rfl, (hc.on hW).at_ 7 _ rfl, (hc.on hW).at_ 8 _ rfl, (hc.on hW).at_ 9 _ rfl, (hc.on hW).at_ 10 _ rfl⟩, (hs.on hW).at_ 0 _ rfl, (hs.on hW).at_ 1 _ rfl, (hs.on hW).at_ 2 _ rfl, (hs.on hW).at_ 3 _ rfl, (hs.on hW).at_ 4 _ rfl⟩
  have cF : Hid (∀ W, Calls Try.prog 27 #[.agg #[.int .i64 sa, .int .i64 sn, .int .i64 ss, .int .i64 sp, .int .i64 sl], .agg #[.string s, .bool b, .slice A0 n0 c0, .slice A1 n1 c1, .slice A2 n2 c2, .slice A3 n3 c3, .slice A4 n4 c4, .slice A5 n5 c5, .slice A6 n6 c6, .slice A7 n7 c7, .slice A8 n8 c8]] W fun e w' => e = .returned (.int .i64 (fromM sa n1)) ∧ Below W.heap.size W w') := Lib.hid fun W => from_any s b A0 n0 c0 A1 n1 c1 A2 n2 c2 A3 n3 c3 A4 n4 c4 A5 n5 c5 A6 n6 c6 A7 n7 c7 A8 n8 c8 sa sn ss sp sl W hn
  obtain ⟨b0, hb0⟩ : ∃ b, fromM sa n1 = b := ⟨_, rfl⟩
  rw [hb0] at cF ⊢
  clear hc hs
  obtain ⟨⟨e0, e1, e2, e3, e4, e5, e6, e7, e8, e9, e10⟩, s0, s1, s2, s3, s4⟩ := EQ.out w2 (Below.refl _ _)
  go_enter Try.func42, Try.ntmps42
  go_wp2_with fail
  clear e0 e1 e2 e3 e4 e5 e6 e7 e8 e9 e10 s0 s1 s2 s3 s4 hw2 hg
  go_loopw [5, 7] (fun ov iv wr => ∃ (k : Nat) (A : Option Addr) (c : Nat), ov = .slice A k c ∧ iv = .int .i64 (k : Int) ∧ k ≤ 2000 ∧ Hid (wr.ownsRow w2.heap.size 3 1 (.slice A k c) k (rowI (placeM b0 k)) ∧ Below w2.heap.size w2 wr)) (fun _ iv _ => 2000 - (intOf iv).toNat)
  case atStart => exact ⟨0, none, 0, rfl, rfl, Nat.zero_le _, Lib.hid ⟨⟨rfl, .inl ⟨rfl, rfl⟩⟩, Below.refl _ _⟩⟩
  case round =>
    obtain ⟨k, A, c, rfl, rfl, hk, HK⟩ := hrel
    have hk0 : (0 : Int) ≤ (k : Int) := by omega
    have hkb : (k : Int) ≤ 2000 := by omega
    obtain ⟨⟨e0, e1, e2, e3, e4, e5, e6, e7, e8, e9, e10⟩, s0, s1, s2, s3, s4⟩ := EQ.out wr HK.out.2
    by_cases hlt : k < 2000
    · have hkn : (k : Int) < 2000 := by omega
      have cX := Lib.hid (cF.out wr)
      go_wp2_with fail
      refine cX.out.mono ?_
      rintro e w3 ⟨rfl, hb3⟩
      have HO : Hid (w3.ownsRow w2.heap.size 3 1 (.slice A k c) k (rowI (placeM b0 k))) := Lib.hid (own_keep HK.out.1 hb3)
      have HB3 : Hid (Below w2.heap.size w2 w3) := Lib.hid (HK.out.2.trans (hb3.mono HK.out.2.size))
      have HZ3 : Hid (w2.heap.size ≤ w3.heap.size) := Lib.hid HB3.out.size
      have hsrc := Lib.hid (src_int w3 (wrap64 (b0 + (k : Int))))
      have HE := Lib.hid (placeM_next b0 k)
      clear hb3 cX HK e0 e1 e2 e3 e4 e5 e6 e7 e8 e9 e10 s0 s1 s2 s3 s4
      go_wp2_with (first
        | (at_builtin; go_must (refine wpList_append_src _ rfl _ _ 24 rfl w2.heap.size 3 i0 (.int .i64 0) 1 8 Try.underlying24 hi hz0 hz1 hz2 rfl (by decide) _ _ _ rfl (HO.out.alloc _) (some ⟨w3.heap.size, 0, none⟩) 1 1 [.int .i64 (wrap64 (b0 + (k : Int)))] rfl hsrc.out (one_int _) (by unfold maxLen; omega) (by omega) (by have := HZ3.out; simp; omega) ?_)
           intro v' w4 hown' hgrow3 hat3
           obtain ⟨A', c', rfl, X1, X2, _⟩ := app_int HB3.out HZ3.out HO.out hown' hgrow3
           rw [HE.out] at X1
           have XR := Lib.hid X1
           have XB := Lib.hid X2
           clear X1 X2 hown' hgrow3 hat3)
        | fail)
      go_roundw
      case rel => exact ⟨k + 1, A', c', rfl, by go_num, by omega, Lib.hid ⟨XR.out, XB.out⟩⟩
      case measure => simp [intOf]; omega
    · obtain rfl : k = 2000 := by omega
      go_wp2_with fail
      go_ret
      exact ⟨A, c, rfl, own_less HK.out.1 HB.out.size, HB.out.trans (HK.out.2.mono HB.out.size)⟩
/-! ### the node -/
def ndM (x : DFunc) (pc : Nat) : Int := if x.nodes.length + x.at_.length + x.live.length = 0 then 0 else x.at_.getD pc 0
set_option maxRecDepth 100000 in
set_option maxHeartbeats 8000000 in
theorem node_any (s : ByteArray) (b : Bool) (A0 : Option Addr) (n0 c0 : Nat) (A1 : Option Addr) (n1 c1 : Nat) (A2 : Option Addr) (n2 c2 : Nat) (A3 : Option Addr) (n3 c3 : Nat) (A4 : Option Addr) (n4 c4 : Nat) (A5 : Option Addr) (n5 c5 : Nat) (A6 : Option Addr) (n6 c6 : Nat) (A7 : Option Addr) (n7 c7 : Nat) (A8 : Option Addr) (n8 c8 : Nat) (x : DFunc) (pc : Nat) (w : World) (h : FnW w w.heap.size s b A0 n0 c0 A1 n1 c1 A2 n2 c2 A3 n3 c3 A4 n4 c4 A5 n5 c5 A6 n6 c6 A7 n7 c7 A8 n8 c8 x) (hpc : pc ≤ 100000) : Calls Try.prog 46 #[.agg #[.string s, .bool b, .slice A0 n0 c0, .slice A1 n1 c1, .slice A2 n2 c2, .slice A3 n3 c3, .slice A4 n4 c4, .slice A5 n5 c5, .slice A6 n6 c6, .slice A7 n7 c7, .slice A8 n8 c8], .int .i64 (pc : Int)] w fun e w' => e = .returned (.int .i64 (ndM x pc)) ∧ Below w.heap.size w w' := by
  obtain ⟨w2, hw2⟩ : ∃ X, w.alloc (.cells #[.string s, .bool b, .slice A0 n0 c0, .slice A1 n1 c1, .slice A2 n2 c2, .slice A3 n3 c3, .slice A4 n4 c4, .slice A5 n5 c5, .slice A6 n6 c6, .slice A7 n7 c7, .slice A8 n8 c8] 28) = X := ⟨_, rfl⟩
  obtain ⟨g, hg⟩ : ∃ g, w.heap.size = g := ⟨_, rfl⟩
  have hc : Cells w2 g #[.string s, .bool b, .slice A0 n0 c0, .slice A1 n1 c1, .slice A2 n2 c2, .slice A3 n3 c3, .slice A4 n4 c4, .slice A5 n5 c5, .slice A6 n6 c6, .slice A7 n7 c7, .slice A8 n8 c8].toList := by rw [← hw2, ← hg]; exact Cells.new w #[.string s, .bool b, .slice A0 n0 c0, .slice A1 n1 c1, .slice A2 n2 c2, .slice A3 n3 c3, .slice A4 n4 c4, .slice A5 n5 c5, .slice A6 n6 c6, .slice A7 n7 c7, .slice A8 n8 c8].toList _
  have hb2 : Below w.heap.size w w2 := by rw [← hw2]; exact bl_one _
  have HB := Lib.hid hb2
  have EQ : Hid (∀ W, Below w2.heap.size w2 W → W.cell? ⟨g, 0, none⟩ = some (.string s) ∧ W.cell? ⟨g, 1, none⟩ = some (.bool b) ∧ W.cell? ⟨g, 2, none⟩ = some (.slice A0 n0 c0) ∧ W.cell? ⟨g, 3, none⟩ = some (.slice A1 n1 c1) ∧ W.cell? ⟨g, 4, none⟩ = some (.slice A2 n2 c2) ∧ W.cell? ⟨g, 5, none⟩ = some (.slice A3 n3 c3) ∧ W.cell? ⟨g, 6, none⟩ = some (.slice A4 n4 c4) ∧ W.cell? ⟨g, 7, none⟩ = some (.slice A5 n5 c5) ∧ W.cell? ⟨g, 8, none⟩ = some (.slice A6 n6 c6) ∧ W.cell? ⟨g, 9, none⟩ = some (.slice A7 n7 c7) ∧ W.cell? ⟨g, 10, none⟩ = some (.slice A8 n8 c8)) := Lib.hid fun W hW => ⟨(hc.on hW).at_ 0 _ rfl, (hc.on hW).at_ 1 _ rfl, (hc.on hW).at_ 2 _ rfl, (hc.on hW).at_ 3 _ rfl, (hc.on hW).at_ 4 _ rfl, (hc.on hW).at_ 5 _ rfl, (hc.on hW).at_ 6 _ rfl, (hc.on hW).at_ 7 _ rfl, (hc.on hW).at_ 8 _ rfl, (hc.on hW).at_ 9 _ rfl, (hc.on hW).at_ 10 _ rfl⟩
  obtain ⟨e0, e1, e2, e3, e4, e5, e6, e7, e8, e9, e10⟩ := EQ.out w2 (Below.refl _ _)
  obtain ⟨s4, s5, s6, s7, s8, _⟩ := h.sm
  have hl6 := h.r6.1
  have hl7 := h.r7.1
  have hl8 := h.r8.1
  have cB := Lib.hid (pbare_any s b A0 n0 c0 A1 n1 c1 A2 n2 c2 A3 n3 c3 A4 n4 c4 A5 n5 c5 A6 n6 c6 A7 n7 c7 A8 n8 c8 w2 (by omega) (by omega) (by omega) _ rfl)
  have HS7 : Hid (∀ W, Below w2.heap.size w2 W → SlI W W.heap.size A7 n7 c7 x.at_) := Lib.hid fun W hW => by
    have h2 : Below w.heap.size w W := hb2.trans (hW.mono hb2.size)
    exact SlR.more (f := fun x => [Value.int .i64 x]) (h.r7.keep h2 (Nat.le_refl _)) h2.size
  have p0 : (0 : Int) ≤ (pc : Int) := by omega
  have d0 : decide ((pc : Int) < 0) = false := by simp
  have k7 : (n7 : Int) ≤ 150 := by omega
  have kp : (pc : Int) ≤ 100000 := by omega
  clear hc h hb2
  by_cases hb : n6 + n7 + n8 = 0
  · have hr : decide (n6 + n7 + n8 = 0) = true := by simpa using hb
    have HV : Hid (ndM x pc = 0) := Lib.hid (by unfold ndM; rw [if_pos (by omega)])
    rw [hr] at cB
    clear hr hb
    go_enter Try.func46, Try.ntmps46
    go_wp2_with fail
    refine cB.out.mono ?_
    rintro e w3 ⟨rfl, hb3⟩
    have HB3 : Hid (Below w.heap.size w w3) := Lib.hid (HB.out.trans (hb3.mono HB.out.size))
    clear hb3 cB
    go_wp2_with fail
    go_ret
    exact ⟨by rw [HV.out]; rfl, HB3.out⟩
  · have hr : decide (n6 + n7 + n8 = 0) = false := by simpa using hb
    have HV : Hid (ndM x pc = x.at_.getD pc 0) := Lib.hid (by unfold ndM; rw [if_neg (by omega)])
    rw [hr] at cB
    clear hr hb
    go_enter Try.func46, Try.ntmps46
    go_wp2_with fail
    refine cB.out.mono ?_
    rintro e w3 ⟨rfl, hb3⟩
    have HB3 : Hid (Below w.heap.size w w3) := Lib.hid (HB.out.trans (hb3.mono HB.out.size))
    have hS := HS7.out w3 hb3
    clear e0 e1 e2 e3 e4 e5 e6 e7 e8 e9 e10
    obtain ⟨e0, e1, e2, e3, e4, e5, e6, e7, e8, e9, e10⟩ := EQ.out w3 hb3
    clear hb3 cB
    by_cases hlt : pc < n7
    · have d1 : decide (n7 ≤ pc) = false := by simp; omega
      have hkn : (pc : Int) < (n7 : Int) := by omega
      obtain ⟨b', off, rfl, hb', hcc⟩ := hS.getD hlt 0
      obtain ⟨v, hv⟩ : ∃ v, x.at_.getD pc 0 = v := ⟨_, rfl⟩
      rw [hv] at hcc HV
      clear hb' hS hlt hv
      go_wp2_with fail
      go_ret
      exact ⟨by rw [HV.out]; rfl, HB3.out⟩
    · have d1 : decide (n7 ≤ pc) = true := by simp; omega
      have HV2 : Hid (ndM x pc = 0) := Lib.hid (by rw [HV.out, List.getD_eq_getElem?_getD, List.getElem?_eq_none (by omega)]; rfl)
      clear hS HV
      go_wp2_with fail
      go_ret
      exact ⟨by rw [HV2.out]; rfl, HB3.out⟩
set_option maxRecDepth 100000 in
set_option maxHeartbeats 8000000 in
theorem rnode_any (s : ByteArray) (b : Bool) (A0 : Option Addr) (n0 c0 : Nat) (A1 : Option Addr) (n1 c1 : Nat) (A2 : Option Addr) (n2 c2 : Nat) (A3 : Option Addr) (n3 c3 : Nat) (A4 : Option Addr) (n4 c4 : Nat) (A5 : Option Addr) (n5 c5 : Nat) (A6 : Option Addr) (n6 c6 : Nat) (A7 : Option Addr) (n7 c7 : Nat) (A8 : Option Addr) (n8 c8 : Nat) (x : DFunc) (pc : Nat) (w : World) (h : FnW w w.heap.size s b A0 n0 c0 A1 n1 c1 A2 n2 c2 A3 n3 c3 A4 n4 c4 A5 n5 c5 A6 n6 c6 A7 n7 c7 A8 n8 c8 x) (hpc : pc ≤ 100000) : Calls Try.prog 31 #[.agg #[.string s, .bool b, .slice A0 n0 c0, .slice A1 n1 c1, .slice A2 n2 c2, .slice A3 n3 c3, .slice A4 n4 c4, .slice A5 n5 c5, .slice A6 n6 c6, .slice A7 n7 c7, .slice A8 n8 c8], .int .i64 (pc : Int)] w fun e w' => e = .returned (.int .i64 (ndM x pc)) ∧ Below w.heap.size w w' := by
  obtain ⟨w2, hw2⟩ : ∃ X, w.alloc (.cells #[.string s, .bool b, .slice A0 n0 c0, .slice A1 n1 c1, .slice A2 n2 c2, .slice A3 n3 c3, .slice A4 n4 c4, .slice A5 n5 c5, .slice A6 n6 c6, .slice A7 n7 c7, .slice A8 n8 c8] 28) = X := ⟨_, rfl⟩
  obtain ⟨g, hg⟩ : ∃ g, w.heap.size = g := ⟨_, rfl⟩
  have hc : Cells w2 g #[.string s, .bool b, .slice A0 n0 c0, .slice A1 n1 c1, .slice A2 n2 c2, .slice A3 n3 c3, .slice A4 n4 c4, .slice A5 n5 c5, .slice A6 n6 c6, .slice A7 n7 c7, .slice A8 n8 c8].toList := by rw [← hw2, ← hg]; exact Cells.new w #[.string s, .bool b, .slice A0 n0 c0, .slice A1 n1 c1, .slice A2 n2 c2, .slice A3 n3 c3, .slice A4 n4 c4, .slice A5 n5 c5, .slice A6 n6 c6, .slice A7 n7 c7, .slice A8 n8 c8].toList _
  have hb2 : Below w.heap.size w w2 := by rw [← hw2]; exact bl_one _
  have HB := Lib.hid hb2
  have EQ : Hid (∀ W, Below w2.heap.size w2 W → W.cell? ⟨g, 0, none⟩ = some (.string s) ∧ W.cell? ⟨g, 1, none⟩ = some (.bool b) ∧ W.cell? ⟨g, 2, none⟩ = some (.slice A0 n0 c0) ∧ W.cell? ⟨g, 3, none⟩ = some (.slice A1 n1 c1) ∧ W.cell? ⟨g, 4, none⟩ = some (.slice A2 n2 c2) ∧ W.cell? ⟨g, 5, none⟩ = some (.slice A3 n3 c3) ∧ W.cell? ⟨g, 6, none⟩ = some (.slice A4 n4 c4) ∧ W.cell? ⟨g, 7, none⟩ = some (.slice A5 n5 c5) ∧ W.cell? ⟨g, 8, none⟩ = some (.slice A6 n6 c6) ∧ W.cell? ⟨g, 9, none⟩ = some (.slice A7 n7 c7) ∧ W.cell? ⟨g, 10, none⟩ = some (.slice A8 n8 c8)) := Lib.hid fun W hW => ⟨(hc.on hW).at_ 0 _ rfl, (hc.on hW).at_ 1 _ rfl, (hc.on hW).at_ 2 _ rfl, (hc.on hW).at_ 3 _ rfl, (hc.on hW).at_ 4 _ rfl, (hc.on hW).at_ 5 _ rfl, (hc.on hW).at_ 6 _ rfl, (hc.on hW).at_ 7 _ rfl, (hc.on hW).at_ 8 _ rfl, (hc.on hW).at_ 9 _ rfl, (hc.on hW).at_ 10 _ rfl⟩
  obtain ⟨e0, e1, e2, e3, e4, e5, e6, e7, e8, e9, e10⟩ := EQ.out w2 (Below.refl _ _)
  obtain ⟨s4, s5, s6, s7, s8, _⟩ := h.sm
  have hl6 := h.r6.1
  have hl7 := h.r7.1
  have hl8 := h.r8.1
  have cB := Lib.hid (rbare_any s b A0 n0 c0 A1 n1 c1 A2 n2 c2 A3 n3 c3 A4 n4 c4 A5 n5 c5 A6 n6 c6 A7 n7 c7 A8 n8 c8 w2 (by omega) (by omega) (by omega) _ rfl)
  have HS7 : Hid (∀ W, Below w2.heap.size w2 W → SlI W W.heap.size A7 n7 c7 x.at_) := Lib.hid fun W hW => by
    have h2 : Below w.heap.size w W := hb2.trans (hW.mono hb2.size)
    exact SlR.more (f := fun x => [Value.int .i64 x]) (h.r7.keep h2 (Nat.le_refl _)) h2.size
  have p0 : (0 : Int) ≤ (pc : Int) := by omega
  have d0 : decide ((pc : Int) < 0) = false := by simp
  have k7 : (n7 : Int) ≤ 150 := by omega
  have kp : (pc : Int) ≤ 100000 := by omega
  clear hc h hb2
  by_cases hb : n6 + n7 + n8 = 0
  · have hr : decide (n6 + n7 + n8 = 0) = true := by simpa using hb
    have HV : Hid (ndM x pc = 0) := Lib.hid (by unfold ndM; rw [if_pos (by omega)])
    rw [hr] at cB
    clear hr hb
    go_enter Try.func31, Try.ntmps31
    go_wp2_with fail
    refine cB.out.mono ?_
    rintro e w3 ⟨rfl, hb3⟩
    have HB3 : Hid (Below w.heap.size w w3) := Lib.hid (HB.out.trans (hb3.mono HB.out.size))
    clear hb3 cB
    go_wp2_with fail
    go_ret
    exact ⟨by rw [HV.out]; rfl, HB3.out⟩
  · have hr : decide (n6 + n7 + n8 = 0) = false := by simpa using hb
    have HV : Hid (ndM x pc = x.at_.getD pc 0) := Lib.hid (by unfold ndM; rw [if_neg (by omega)])
    rw [hr] at cB
    clear hr hb
    go_enter Try.func31, Try.ntmps31
    go_wp2_with fail
    refine cB.out.mono ?_
    rintro e w3 ⟨rfl, hb3⟩
    have HB3 : Hid (Below w.heap.size w w3) := Lib.hid (HB.out.trans (hb3.mono HB.out.size))
    have hS := HS7.out w3 hb3
    clear e0 e1 e2 e3 e4 e5 e6 e7 e8 e9 e10
    obtain ⟨e0, e1, e2, e3, e4, e5, e6, e7, e8, e9, e10⟩ := EQ.out w3 hb3
    clear hb3 cB
    by_cases hlt : pc < n7
    · have d1 : decide (n7 ≤ pc) = false := by simp; omega
      have hkn : (pc : Int) < (n7 : Int) := by omega
      obtain ⟨b', off, rfl, hb', hcc⟩ := hS.getD hlt 0
      obtain ⟨v, hv⟩ : ∃ v, x.at_.getD pc 0 = v := ⟨_, rfl⟩
      rw [hv] at hcc HV
      clear hb' hS hlt hv
      go_wp2_with fail
      go_ret
      exact ⟨by rw [HV.out]; rfl, HB3.out⟩
    · have d1 : decide (n7 ≤ pc) = true := by simp; omega
      have HV2 : Hid (ndM x pc = 0) := Lib.hid (by rw [HV.out, List.getD_eq_getElem?_getD, List.getElem?_eq_none (by omega)]; rfl)
      clear hS HV
      go_wp2_with fail
      go_ret
      exact ⟨by rw [HV2.out]; rfl, HB3.out⟩
end Go.Proofs.Ythfdmpcnebjkjaa
