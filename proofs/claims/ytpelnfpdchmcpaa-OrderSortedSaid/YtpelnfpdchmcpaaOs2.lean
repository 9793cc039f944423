/-
  Circles, of one thing that leads nowhere: the walk from it.
-/
import Derived.Test.YtpelnfpdchmcpaaOs1
namespace Go.Proofs.Ytpelnfpdchmcpaa
open Go.RowKit
set_option linter.unusedSimpArgs false
set_option linter.unusedVariables false
def IsFrom (B b q s l h : Nat) (W : World) (e : Ending) (W' : World) : Prop := (∃ v, e = .returned v) ∧ ∃ wk hd, WS b q s l h wk hd 1 1 1 0 W' ∧ Below B W W'
set_option maxRecDepth 100000 in
set_option maxHeartbeats 8000000 in
theorem from_one (B b q s l h : Nat) (W : World) (H0 : WS b q s l h (.slice none 0 0) (.slice none 0 0) 0 0 0 (-1) W) (hB : B ≤ q ∧ B ≤ s ∧ B ≤ l ∧ B ≤ h ∧ B ≤ W.heap.size) :
    Calls Try.prog 30 #[.pointer (some ⟨q, 0, none⟩), .int .i64 0] W (IsFrom B b q s l h W) := by
  have cM := Lib.hid (meet_one B b q s l h W H0 hB)
  have HQ : Hid (q < W.heap.size ∧ h < W.heap.size) := Lib.hid ⟨H0.qc.lt, H0.hc.lt⟩
  have HB := Lib.hid hB
  clear H0 hB
  go_enter Try.func30, Try.ntmps30
  go_step3
  go_wp2_with fail
  refine cM.out.mono ?_
  rintro e W1 ⟨⟨_, rfl⟩, u, v, cu, cv, H1, HU, HV, hu, hv, huv, hb1⟩
  have H := Lib.hid H1
  have HUH := Lib.hid HU
  have HVH := Lib.hid HV
  have HB1 := Lib.hid hb1
  have HUV := Lib.hid (And.intro hu (And.intro hv huv))
  have u0 := HU.at_ 0 _ rfl
  have u1 := HU.at_ 1 _ rfl
  clear cM H1 HU HV hb1 hu hv huv
  have c0 := H.out.qc.at_ 0 _ rfl
  have c1 := H.out.qc.at_ 1 _ rfl
  have c2 := H.out.qc.at_ 2 _ rfl
  have c3 := H.out.qc.at_ 3 _ rfl
  have c4 := H.out.qc.at_ 4 _ rfl
  have c5 := H.out.qc.at_ 5 _ rfl
  have c6 := H.out.qc.at_ 6 _ rfl
  have f1 := H.out.qc.fz 1 (by simp)
  have f4 := H.out.qc.fz 4 (by simp)
  have f6 := H.out.qc.fz 6 (by simp)
  have s0 := H.out.sc.at_ 0 _ rfl
  have l0 := H.out.lc.at_ 0 _ rfl
  have h0 := H.out.hc.at_ 0 _ rfl
  have sf := H.out.sc.fz 0 (by simp)
  have lf := H.out.lc.fz 0 (by simp)
  have hf := H.out.hc.fz 0 (by simp)
  have b0 := H.out.bc.at_ 0 _ rfl
  have n1 := H.out.n1
  have n2 := H.out.n2
  have n3 := H.out.n3
  have n4 := H.out.n4
  have n5 := H.out.n5
  have n6 := H.out.n6
  have n7 := H.out.n7
  have n8 := H.out.n8
  have n9 := H.out.n9
  have n0 := H.out.n0
  have m1 : ¬ s = q := fun e => n1 e.symm
  have m2 : ¬ l = q := fun e => n2 e.symm
  have m3 : ¬ h = q := fun e => n3 e.symm
  have m4 : ¬ l = s := fun e => n4 e.symm
  have m5 : ¬ h = s := fun e => n5 e.symm
  have m6 : ¬ h = l := fun e => n6 e.symm
  have m7 : ¬ q = b := fun e => n7 e.symm
  have m8 : ¬ s = b := fun e => n8 e.symm
  have m9 : ¬ l = b := fun e => n9 e.symm
  have m0 : ¬ h = b := fun e => n0 e.symm
  go_wp2_with fail
  go_step3
  go_wp2_with fail
  go_region
  go_simp
  go_wp2_with fail
  go_region
  go_simp
  go_wp2_with fail
  go_region
  go_simp
  go_wp2_with fail
  go_region
  go_simp
  go_wp2_with fail
  obtain ⟨W2, hW2⟩ : ∃ X, (W1.setCell ⟨q, 1, none⟩ (.slice (some ⟨u, 0, none⟩) 0 cu)).drew.drew.drew.drew = X := ⟨_, rfl⟩
  have KK : Kp (fun j => j = q) W1 W2 := by rw [← hW2]; exact (((((kp_set W1 q 1 _).drew).drew).drew).drew)
  have H2 : WS b q s l h (.slice (some ⟨u, 0, none⟩) 0 cu) (.slice (some ⟨v, 0, none⟩) 1 cv) 1 1 1 (-1) W2 := by
    rw [← hW2]
    exact (H.out.setWk _).kp (((((Kp.refl (fun _ => False) _).drew).drew).drew).drew) fun _ h => h.elim
  have hvq : ¬ v = q := by have := HUV.out.2.1; have := HQ.out.1; omega
  have hvh : ¬ v = h := by have := HUV.out.2.1; have := HQ.out.2; omega
  have hsz := KK.size
  have hsz1 := HB1.out.size
  have hBB := HB.out
  have cD := Lib.hid (done_one B b q s l h v cv (.slice (some ⟨u, 0, none⟩) 0 cu) W2 H2 (HVH.out.kp KK hvq) hvq hvh ⟨hBB.1, hBB.2.2.2.1, by omega⟩)
  have HB2 : Hid (Below B W W2) := Lib.hid (HB1.out.trans (KK.below (by omega) fun j hj => by have hj' : j = q := hj; omega))
  rw [hW2]
  clear hW2 KK H2 hvq hvh hsz hsz1 hBB c0 c1 c2 c3 c4 c5 c6 f1 f4 f6 s0 l0 h0 sf lf hf b0 u0 u1
  refine cD.out.mono ?_
  rintro e W3 ⟨⟨_, rfl⟩, H3, hb3⟩
  have c1 := H3.qc.at_ 1 _ rfl
  go_wp2_with fail
  rw [Exit.noGoto_normal]
  go_end0
  exact ⟨⟨_, rfl⟩, _, _, H3, HB2.out.trans hb3⟩
end Go.Proofs.Ytpelnfpdchmcpaa
