import Derived.Test.YtobmjnmcjddhcaaGreatCCn5
set_option linter.unusedSimpArgs false
set_option linter.unusedVariables false
set_option maxRecDepth 100000
set_option maxHeartbeats 8000000
namespace Go.Proofs.YtobmjnmcjddhcaaGreat
open Go.RowKit
def ndM (x : DFunc) (pc : Nat) : Int := if x.nodes.length + x.at_.length + x.live.length = 0 then 0 else x.at_.getD pc 0
theorem rnode_any (s : ByteArray) (b : Bool) (A0 : Option Addr) (n0 c0 : Nat) (A1 : Option Addr) (n1 c1 : Nat) (A2 : Option Addr) (n2 c2 : Nat) (A3 : Option Addr) (n3 c3 : Nat) (A4 : Option Addr) (n4 c4 : Nat) (A5 : Option Addr) (n5 c5 : Nat) (A6 : Option Addr) (n6 c6 : Nat) (A7 : Option Addr) (n7 c7 : Nat) (A8 : Option Addr) (n8 c8 : Nat) (x : DFunc) (pc : Nat) (w : World) (h : FnW w w.heap.size s b A0 n0 c0 A1 n1 c1 A2 n2 c2 A3 n3 c3 A4 n4 c4 A5 n5 c5 A6 n6 c6 A7 n7 c7 A8 n8 c8 x) (hpc : pc ≤ 100000) : Calls Tryz.prog 149 #[.agg #[.string s, .bool b, .slice A0 n0 c0, .slice A1 n1 c1, .slice A2 n2 c2, .slice A3 n3 c3, .slice A4 n4 c4, .slice A5 n5 c5, .slice A6 n6 c6, .slice A7 n7 c7, .slice A8 n8 c8], .int .i64 (pc : Int)] w fun e w' => e = .returned (.int .i64 (ndM x pc)) ∧ Below w.heap.size w w' := by
 obtain ⟨w2, hw2⟩ : ∃ X, w.alloc (.cells #[.string s, .bool b, .slice A0 n0 c0, .slice A1 n1 c1, .slice A2 n2 c2, .slice A3 n3 c3, .slice A4 n4 c4, .slice A5 n5 c5, .slice A6 n6 c6, .slice A7 n7 c7, .slice A8 n8 c8] 38) = X := ⟨_, rfl⟩
 obtain ⟨g, hg⟩ : ∃ g, w.heap.size = g := ⟨_, rfl⟩
 have hc : Cells w2 g #[.string s, .bool b, .slice A0 n0 c0, .slice A1 n1 c1, .slice A2 n2 c2, .slice A3 n3 c3, .slice A4 n4 c4, .slice A5 n5 c5, .slice A6 n6 c6, .slice A7 n7 c7, .slice A8 n8 c8].toList := by rw [← hw2, ← hg]; exact Cells.new w #[.string s, .bool b, .slice A0 n0 c0, .slice A1 n1 c1, .slice A2 n2 c2, .slice A3 n3 c3, .slice A4 n4 c4, .slice A5 n5 c5, .slice A6 n6 c6, .slice A7 n7 c7, .slice A8 n8 c8].toList _
 have hb2 : Below w.heap.size w w2 := by rw [← hw2]; exact bl_one _
 have HB := Lib.hid hb2
 have EQ : Hid (∀ W, Below w2.heap.size w2 W → W.cell? ⟨g, 0, none⟩ = some (.string s) ∧ W.cell? ⟨g, 1, none⟩ = some (.bool b) ∧ W.cell? ⟨g, 2, none⟩ = some (.slice A0 n0 c0) ∧ W.cell? ⟨g, 3, none⟩ = some (.slice A1 n1 c1) ∧ W.cell? ⟨g, 4, none⟩ = some (.slice A2 n2 c2) ∧ W.cell? ⟨g, 5, none⟩ = some (.slice A3 n3 c3) ∧ W.cell? ⟨g, 6, none⟩ = some (.slice A4 n4 c4) ∧ W.cell? ⟨g, 7, none⟩ = some (.slice A5 n5 c5) ∧ W.cell? ⟨g, 8, none⟩ = some (.slice A6 n6 c6) ∧ W.cell? ⟨g, 9, none⟩ = some (.slice A7 n7 c7) ∧ W.cell? ⟨g, 10, none⟩ = some (.slice A8 n8 c8)) := Lib.hid fun W hW => ⟨(hc.on hW).at_ 0 _ rfl, (hc.on hW).at_ 1 _ rfl, (hc.on hW).at_ 2 _ rfl, (hc.on hW).at_ 3 _ rfl, (hc.on hW).at_ 4 _ rfl, (hc.on hW).at_ 5 _ rfl, (hc.on hW).at_ 6 _ rfl, (hc.on hW).at_ 7 _ rfl, (hc.on hW).at_ 8 _ rfl, (hc.on hW).at_ 9 _ rfl, (hc.on hW).at_ 10 _ rfl⟩
 obtain ⟨e0, e1, e2, e3, e4, e5, e6, e7, e8, e9, e10⟩ := EQ.out w2 (Below.refl _ _)
 obtain ⟨s4, s5, s6, s7, s8, _⟩ := h.sm
 have hl6 := h.r6.1
 have hl7 := h.r7.1
 have hl8 := h.r8.1
 have cB := Lib.hid (rbare_any s b A0 n0 c0 A1 n1 c1 A2 n2 c2 A3 n3 c3 A4 n4 c4 A5 n5 c5 A6 n6 c6 A7 n7 c7 A8 n8 c8 w2 (by omega) (by omega) (by omega) _ rfl)
 have HS7 : Hid (∀ W, Below w2.heap.size w2 W → SlI W W.heap.size A7 n7 c7 x.at_) := Lib.hid fun W hW => by
  have h2 : Below w.heap.size w W := hb2.trans (hW.mono hb2.size)
  exact SlR.more (f := fun x => [Value.int .i64 x]) (h.r7.keep h2 (Nat.le_refl _)) h2.size
 have p0 : (0 : Int) ≤ (pc : Int) := by omega
 have d0 : decide ((pc : Int) < 0) = false := by simp
 have k7 : (n7 : Int) ≤ 150 := by omega
 have kp : (pc : Int) ≤ 100000 := by omega
 clear hc h hb2
 by_cases hb : n6 + n7 + n8 = 0
 ·have hr : decide (n6 + n7 + n8 = 0) = true := by simpa using hb
  have HV : Hid (ndM x pc = 0) := Lib.hid (by unfold ndM; rw [if_pos (by omega)])
  rw [hr] at cB
  clear hr hb
  go_enter Tryz.func149, Tryz.ntmps149
  go_wp2_with fail
  refine cB.out.mono ?_
  rintro e w3 ⟨rfl, hb3⟩
  have HB3 : Hid (Below w.heap.size w w3) := Lib.hid (HB.out.trans (hb3.mono HB.out.size))
  clear hb3 cB
  go_wp2_with fail
  go_ret
  exact ⟨by rw [HV.out]; rfl, HB3.out⟩
 ·have hr : decide (n6 + n7 + n8 = 0) = false := by simpa using hb
  have HV : Hid (ndM x pc = x.at_.getD pc 0) := Lib.hid (by unfold ndM; rw [if_neg (by omega)])
  rw [hr] at cB
  clear hr hb
  go_enter Tryz.func149, Tryz.ntmps149
  go_wp2_with fail
  refine cB.out.mono ?_
  rintro e w3 ⟨rfl, hb3⟩
  have HB3 : Hid (Below w.heap.size w w3) := Lib.hid (HB.out.trans (hb3.mono HB.out.size))
  have hS := HS7.out w3 hb3
  clear e0 e1 e2 e3 e4 e5 e6 e7 e8 e9 e10
  obtain ⟨e0, e1, e2, e3, e4, e5, e6, e7, e8, e9, e10⟩ := EQ.out w3 hb3
  clear hb3 cB
  by_cases hlt : pc < n7
  ·have d1 : decide (n7 ≤ pc) = false := by simp; omega
   have hkn : (pc : Int) < (n7 : Int) := by omega
   obtain ⟨b', off, rfl, hb', hcc⟩ := hS.getD hlt 0
   obtain ⟨v, hv⟩ : ∃ v, x.at_.getD pc 0 = v := ⟨_, rfl⟩
   rw [hv] at hcc HV
   clear hb' hS hlt hv
   go_wp2_with fail
   go_ret
   exact ⟨by rw [HV.out]; rfl, HB3.out⟩
  ·have d1 : decide (n7 ≤ pc) = true := by simp; omega
   have HV2 : Hid (ndM x pc = 0) := Lib.hid (by rw [HV.out, List.getD_eq_getElem?_getD, List.getElem?_eq_none (by omega)]; rfl)
   clear hS HV
   go_wp2_with fail
   go_ret
   exact ⟨by rw [HV2.out]; rfl, HB3.out⟩
end Go.Proofs.YtobmjnmcjddhcaaGreat
