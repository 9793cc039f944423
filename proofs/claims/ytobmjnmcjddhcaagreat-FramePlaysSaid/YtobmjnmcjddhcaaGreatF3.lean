import Derived.Test.YtobmjnmcjddhcaaGreatCTk
import Derived.Test.YtobmjnmcjddhcaaGreatF1
set_option linter.unusedSimpArgs false
set_option linter.unusedVariables false
set_option maxRecDepth 100000
set_option maxHeartbeats 8000000
namespace Go.Proofs.YtobmjnmcjddhcaaGreat
open Go.RowKit
attribute [local go_sem] run_store_cplx
theorem fstep_3 (X0 : Nat → Prop) (g : Nat) (fno pc : Int) (s : ByteArray) (b : Bool) (A0 : Option Addr) (n0 c0 : Nat) (A1 : Option Addr) (n1 c1 : Nat) (A2 : Option Addr) (n2 c2 : Nat) (A3 : Option Addr) (n3 c3 : Nat) (A4 : Option Addr) (n4 c4 : Nat) (A5 : Option Addr) (n5 c5 : Nat) (A6 : Option Addr) (n6 c6 : Nat) (A7 : Option Addr) (n7 c7 : Nat) (A8 : Option Addr) (n8 c8 : Nat) (M K : Nat) (A13 : Option Addr) (m13 c13 : Nat) (A14 : Option Addr) (n14 c14 : Nat) (A15 : Option Addr) (n15 c15 : Nat) (B1 : Option Addr) (m1 k1 : Nat) (B2 : Option Addr) (m2 k2 : Nat) (B3 : Option Addr) (m3 k3 : Nat) (sl st : List DV) (cs ms : List CW) (k nn vk vn vre vim : Int) (w : World) (hmx : ∀ j, X0 j → j < w.heap.size) (H : FM X0 w g fno pc s b A0 n0 c0 A1 n1 c1 A2 n2 c2 A3 n3 c3 A4 n4 c4 A5 n5 c5 A6 n6 c6 A7 n7 c7 A8 n8 c8 M K A13 m13 c13 A14 n14 c14 A15 n15 c15 B1 m1 k1 B2 m2 k2 B3 m3 k3 sl st cs ms) (hK : K ≤ 1000) (hM : M ≤ 1000) (hn1 : n1 ≤ 1000 ∧ n2 ≤ 1000 ∧ n1 + n2 ≤ M) (wfk : (Lit.int .i64 k).wf = true) (wfn : (Lit.int .i64 nn).wf = true) (hk : k.tmod 8 = 3) :
  Calls Tryz.prog 15 #[.pointer (some ⟨g, 0, none⟩), mdV fno pc B1 m1 k1 B2 m2 k2 B3 m3 k3, .agg #[.string s, .bool b, .slice A0 n0 c0, .slice A1 n1 c1, .slice A2 n2 c2, .slice A3 n3 c3, .slice A4 n4 c4, .slice A5 n5 c5, .slice A6 n6 c6, .slice A7 n7 c7, .slice A8 n8 c8], .agg #[.int .i64 k, .int .i64 nn, .int .i64 vk, .int .i64 vn, .int .i64 vre, .int .i64 vim]] w (IsStep X0 g fno s b A0 n0 c0 A1 n1 c1 A2 n2 c2 A3 n3 c3 A4 n4 c4 A5 n5 c5 A6 n6 c6 A7 n7 c7 A8 n8 c8 M K (Own g A13 A14 A15) w) := by
 obtain ⟨z, hz⟩ : ∃ z, w.heap.size = z := ⟨_, rfl⟩
 obtain ⟨wa, hwa⟩ : ∃ X, (((w.alloc (.cells #[.int .i64 fno, .int .i64 pc, .slice B1 m1 k1, .slice B2 m2 k2, .slice B3 m3 k3] 51)).alloc (.cells #[.string s, .bool b, .slice A0 n0 c0, .slice A1 n1 c1, .slice A2 n2 c2, .slice A3 n3 c3, .slice A4 n4 c4, .slice A5 n5 c5, .slice A6 n6 c6, .slice A7 n7 c7, .slice A8 n8 c8] 38)).alloc (.cells #[.int .i64 k, .int .i64 nn, .int .i64 vk, .int .i64 vn, .int .i64 vre, .int .i64 vim] 56)).alloc (.cells #[.int .i64 0, .int .i64 0, .slice none 0 0, .slice none 0 0, .slice none 0 0] 51) = X := ⟨_, rfl⟩
 obtain ⟨hcl, hsa, hba⟩ := sb_new hz [.int .i64 fno, .int .i64 pc, .slice B1 m1 k1, .slice B2 m2 k2, .slice B3 m3 k3] [.string s, .bool b, .slice A0 n0 c0, .slice A1 n1 c1, .slice A2 n2 c2, .slice A3 n3 c3, .slice A4 n4 c4, .slice A5 n5 c5, .slice A6 n6 c6, .slice A7 n7 c7, .slice A8 n8 c8] [.int .i64 k, .int .i64 nn, .int .i64 vk, .int .i64 vn, .int .i64 vre, .int .i64 vim] [.int .i64 0, .int .i64 0, .slice none 0 0, .slice none 0 0, .slice none 0 0] _ _ _ _ hwa
 have hgz : g < z := by rw [← hz]; exact H.fs.lt
 have HMZ : Hid (∀ j, X0 j → j < z) := Lib.hid (by rw [← hz]; exact hmx)
 have o2 := hcl.2.2.1.at_ 2 _ rfl
 have o3 := hcl.2.2.1.at_ 3 _ rfl
 have o4 := hcl.2.2.1.at_ 4 _ rfl
 have o5 := hcl.2.2.1.at_ 5 _ rfl
 have cV := Lib.hid (value_any vk vn vre vim wa)
 have HM0 := Lib.hid (H.more hz)
 have HBXS := Lib.hid hcl
 have HSA : Hid (wa.heap.size = z + 4 ∧ Below w.heap.size w wa) := Lib.hid ⟨hsa, hba⟩
 have HE := Lib.hid hwa
 clear hcl hsa hba hwa H
 go_enter Tryz.func15, Tryz.ntmps15
 go_wp2_with fail
 rw [HE.out]
 refine cV.out.mono ?_
 rintro e w1 ⟨rfl, hb1⟩
 obtain ⟨w2, hw2⟩ : ∃ X, w1.alloc (.cells #[.int .i64 vk, .int .i64 vn, .complex .f64 (nr vre) (nr vim)] 43) = X := ⟨_, rfl⟩
 have HSB := Lib.hid (sb_of HBXS.out HSA.out.1 hb1 [.int .i64 vk, .int .i64 vn, .complex .f64 (nr vre) (nr vim)] _ hw2)
 have HB2 : Hid (Below w.heap.size w w2) := Lib.hid (by
  have h1 : Below w.heap.size w w1 := HSA.out.2.trans (hb1.mono HSA.out.2.size)
  rw [← hw2]
  exact h1.trans ((bl_one _).mono h1.size))
 have hs2 : z + 5 ≤ w2.heap.size := by
  have h1 := hb1.size
  have h2 := HSA.out.1
  rw [← hw2]
  simp
  omega
 have HZ2 := Lib.hid hs2
 obtain ⟨y, hy⟩ : ∃ y, w1.heap.size = y := ⟨_, rfl⟩
 rw [hy] at HSB
 have HM2 := Lib.hid (HM0.out.on ((Kp.refl (fun _ => False) w).ofBelow HB2.out))
 have a0 := HSB.out.co.at_ 0 _ rfl
 have a1 := HSB.out.co.at_ 1 _ rfl
 have d3 := HSB.out.cm.at_ 3 _ rfl
 have v0 := HSB.out.cv.at_ 0 _ rfl
 have v1 := HSB.out.cv.at_ 1 _ rfl
 have v2 := HSB.out.cv.at_ 2 _ rfl
 clear o2 o3 o4 o5 cV hb1 HE HBXS hs2
 have t0 : (k.tmod 8 == 0) = false := by simp [hk]
 have t1 : (k.tmod 8 == 1) = false := by simp [hk]
 have t2 : (k.tmod 8 == 2) = false := by simp [hk]
 have t3 : (k.tmod 8 == 3) = true := by simp [hk]
 have F2 := HM2.out.fs
 have hm1 : m1 = m13 := by
  have h1 := HM2.out.mo.r1.len
  have h2 := F2.r13.len
  omega
 subst hm1
 have HMM := Lib.hid HM2.out.hM
 have hm1k : m1 ≤ 1000 := by have := HMM.out; omega
 have hsl : sl.length = m1 := F2.r13.len
 have cP := Lib.hid (fsetslot_any g (g + 1) A13 m1 c13 sl nn ⟨vk, vn, nr vre, nr vim⟩ w2 F2.e13 F2.r13 (by omega))
 rw [show (⟨vk, vn, nr vre, nr vim⟩ : DV).v = .agg #[.int .i64 vk, .int .i64 vn, .complex .f64 (nr vre) (nr vim)] from rfl] at cP
 clear F2
 go_wp2_with fail
 refine cP.out.mono ?_
 rintro e w3 ⟨⟨u, rfl⟩, hrow, hkp⟩
 have HFS3 := Lib.hid (HM2.out.fs.sl hkp hrow)
 have HMS3 := Lib.hid (HM2.out.mo.kp hkp fun j _ hS => .inl (.inr (.inl hS)))
 have HB3 : Hid (Kp (Own g A13 A14 A15) w w3) := Lib.hid (((Kp.refl _ w).ofBelow HB2.out).trans (hkp.mono fun j _ e => .inr (.inl e)))
 have HSB3 := Lib.hid (HSB.out.kp hkp fun j hj hS => by
  have := (row_ge HM0.out.fs.r13 hS).2
  omega)
 have HZ3 : Hid (z + 5 ≤ w3.heap.size) := Lib.hid (by have := HZ2.out; have := hkp.size; omega)
 clear hrow hkp cP d3 v0 v1 v2 a0 a1 hw2 hy
 have a1 := HSB3.out.co.at_ 1 _ rfl
 have d2 := HSB3.out.cm.at_ 2 _ rfl
 have HSTAY : Hid (setM sl nn ⟨vk, vn, nr vre, nr vim⟩ = sl → ∀ wf, Kp (Bx z) w3 wf → IsStep X0 g fno s b A0 n0 c0 A1 n1 c1 A2 n2 c2 A3 n3 c3 A4 n4 c4 A5 n5 c5 A6 n6 c6 A7 n7 c7 A8 n8 c8 M K (Own g A13 A14 A15) w (.returned (.tuple #[mdV fno pc B1 m1 k1 B2 m2 k2 B3 m3 k3, .bool true])) wf) := Lib.hid fun hse wf hk => by
  have F := HM2.out
  have h1 := HFS3.out
  rw [hse] at h1
  exact step_fin hz hgz (fun _ _ h => h) ⟨h1, HMS3.out, F.ab, F.hM, by have := F.hst; omega, by have := F.hcs; omega, F.q1, F.q2, F.q3, F.aw, F.cw, F.z1, F.z2⟩ HB3.out hk
 by_cases h0 : nn < 0
 ·have t8 : decide (0 ≤ nn) = false := by rw [decide_eq_false_iff_not]; omega
  have HSB8 := HSB3
  have HFIN := Lib.hid (HSTAY.out (by unfold setM; rw [if_neg (by omega)]))
  clear a1 d2
  have a1 := HSB8.out.co.at_ 1 _ rfl
  have x0 := HSB8.out.cz.at_ 0 _ rfl
  have f0 := HSB8.out.cz.fz 0 (by simp)
  have x1 := HSB8.out.cz.at_ 1 _ rfl
  have f1 := HSB8.out.cz.fz 1 (by simp)
  have x2 := HSB8.out.cz.at_ 2 _ rfl
  have f2 := HSB8.out.cz.fz 2 (by simp)
  have x3 := HSB8.out.cz.at_ 3 _ rfl
  have f3 := HSB8.out.cz.fz 3 (by simp)
  have x4 := HSB8.out.cz.at_ 4 _ rfl
  have f4 := HSB8.out.cz.fz 4 (by simp)
  have d0 := HSB8.out.cm.at_ 0 _ rfl
  have d1 := HSB8.out.cm.at_ 1 _ rfl
  have d2 := HSB8.out.cm.at_ 2 _ rfl
  have d3 := HSB8.out.cm.at_ 3 _ rfl
  have d4 := HSB8.out.cm.at_ 4 _ rfl
  go_wp2_with fail
  exact bodyPost_ret (v := .tuple #[mdV fno pc B1 m1 k1 B2 m2 k2 B3 m3 k3, .bool true]) (by simp [results, Tryz.results15, go_sem, x0, x1, x2, x3, x4]) rfl (HFIN.out _ (by repeat (first | exact Kp.refl _ _ | (refine Bx.put _ ?_ _) | (refine Bx.put0 _ ?_ _))))
 ·obtain ⟨i, rfl⟩ : ∃ i : Nat, nn = (i : Int) := ⟨nn.toNat, by omega⟩
  have t8 : decide (0 ≤ (i : Int)) = true := by rw [decide_eq_true_eq]; omega
  have p8 : (0 : Int) ≤ (i : Int) := by omega
  by_cases h1 : i < m1
  ·have t9 : decide ((i : Int) < (m1 : Int)) = true := by rw [decide_eq_true_eq]; omega
   have p9 : (i : Int) < (m1 : Int) := by omega
   obtain ⟨j, hj⟩ : ∃ j, i = j := ⟨_, rfl⟩
   subst hj
   have hjm : i < m1 := h1
   have hset : setM sl (i : Int) ⟨vk, vn, nr vre, nr vim⟩ = sl.set i ⟨vk, vn, nr vre, nr vim⟩ := by unfold setM; rw [if_pos (by omega)]; rfl
   have HSRC := HMS3.out.r1.srcB
   have HONE := Lib.hid (one_vl sl)
   obtain ⟨i0, hi, hz0, hz1, hz2⟩ := info_parts info_val
   obtain ⟨p1, hp1⟩ : ∃ X, World.alloc w3 (.cells #[] 43) = X := ⟨_, rfl⟩
   obtain ⟨q1, hq1⟩ : ∃ X, (World.heap w3).size = X := ⟨_, rfl⟩
   have R1 := Lib.hid (ApS.lit (e := 43) (sz := 3) (w0 := w3) (W := w3) (Below.refl _ _))
   rw [hp1] at R1
   have hq1' := hq1
   rw [hq1'] at R1
   have hB1 := R1.out.bl.size
   have d2' := (HSB3.out.on R1.out.bl).cm.at_ 2 _ rfl
   have HW0 : Hid (w3.heap.size = q1) := Lib.hid hq1
   clear hq1'
   go_wp2_with (first
     | (at_builtin; go_must (refine wpList_append_src _ rfl _ _ 39 rfl w3.heap.size 43 i0 zV 3 32 Tryz.underlying39 hi hz0 hz1 hz2 rfl (by decide) (.slice (some ⟨q1, 0, none⟩) 0 0) 0 [] rfl R1.out.own B1 m1 k1 (rowVl sl) rfl (HSRC.out _ R1.out.bl) HONE.out (by unfold maxLen; omega) (by omega) hB1 ?_)
        intro v' p2 hown hgrow hat
        obtain ⟨E2, e2, rfl, hR, hkp⟩ := R1.out.grow hown hgrow
        rw [List.nil_append, Nat.zero_add] at hR
        have R2 := Lib.hid hR
        have HSB4 := Lib.hid (HSB3.out.on R2.out.bl)
        have d2'' := HSB4.out.cm.at_ 2 _ rfl
        have f2'' := HSB4.out.cm.fz 2 (by simp)
        have a1'' := HSB4.out.co.at_ 1 _ rfl
        have l3'' := HSB4.out.cf.at_ 3 _ rfl
        obtain ⟨r, hE2, hrb, hrs, c0', c1', c2', hfr⟩ := RowV.at_ R2.out.row (List.getElem?_eq_getElem (show i < sl.length by omega))
        subst hE2
        have hrz : ¬ r = z := by have := HZ3.out; omega
        have hrz2 : ¬ z = r := fun e => hrz e.symm
        have hrz3 : ¬ r = z + 2 := by have := HZ3.out; omega
        have hrz4 : ¬ z + 2 = r := fun e => hrz3 e.symm
        have hrz5 : ¬ r = z + 3 := by have := HZ3.out; omega
        have hrz6 : ¬ z + 3 = r := fun e => hrz5 e.symm
        have g0' := hfr (i * 3)
        have g1' := hfr (i * 3 + 1)
        have g2' := hfr (i * 3 + 2)
        have y0 := HSB4.out.cv.at_ 0 _ rfl
        have y1 := HSB4.out.cv.at_ 1 _ rfl
        have y2 := HSB4.out.cv.at_ 2 _ rfl
        have hey := HSB4.out.ly
        have hyz : ¬ y = z := by omega
        have hzy : ¬ z = y := by omega
        have c0z := HSB4.out.cm.at_ 0 _ rfl
        have c1z := HSB4.out.cm.at_ 1 _ rfl
        have c3z := HSB4.out.cm.at_ 3 _ rfl
        have c4z := HSB4.out.cm.at_ 4 _ rfl
        have x0 := HSB4.out.cz.at_ 0 _ rfl
        have x1 := HSB4.out.cz.at_ 1 _ rfl
        have x2 := HSB4.out.cz.at_ 2 _ rfl
        have x3 := HSB4.out.cz.at_ 3 _ rfl
        have x4 := HSB4.out.cz.at_ 4 _ rfl
        have f0 := HSB4.out.cz.fz 0 (by simp)
        have f1 := HSB4.out.cz.fz 1 (by simp)
        have f2 := HSB4.out.cz.fz 2 (by simp)
        have f3 := HSB4.out.cz.fz 3 (by simp)
        have f4 := HSB4.out.cz.fz 4 (by simp)
        have HNR : Hid (w3.heap.size ≤ r ∧ r < p2.heap.size ∧ ¬ r = z) := Lib.hid ⟨hrb, hrs, hrz⟩
        clear hown hgrow hat hR hkp hfr hrb hrs))
   have HFIN : Hid (∀ wf, Kp (Bx z) ((((p2.setCell ⟨z, 2, none⟩ (.slice (some ⟨r, 0, none⟩) m1 e2)).setCell ⟨r, i * 3, none⟩ (.int .i64 vk)).setCell ⟨r, i * 3 + 1, none⟩ (.int .i64 vn)).setCell ⟨r, i * 3 + 2, none⟩ (.complex .f64 (nr vre) (nr vim))) wf → IsStep X0 g fno s b A0 n0 c0 A1 n1 c1 A2 n2 c2 A3 n3 c3 A4 n4 c4 A5 n5 c5 A6 n6 c6 A7 n7 c7 A8 n8 c8 M K (Own g A13 A14 A15) w (.returned (.tuple #[mdV fno pc (some ⟨r, 0, none⟩) m1 e2 B2 m2 k2 B3 m3 k3, .bool true])) wf) := Lib.hid fun wf hk => by
    obtain ⟨hrb, hrs, hrz⟩ := HNR.out
    have F := HM2.out
    have hfs := HFS3.out
    rw [hset] at hfs
    have k1' : Kp (fun j => Bx z j ∨ w3.heap.size ≤ j) w3 p2 := (Kp.refl _ w3).ofBelow R2.out.bl
    have k2' := Kp.setCell (S := fun j => Bx z j ∨ w3.heap.size ≤ j) k1' (p := ⟨z, 2, none⟩) (fun _ => .inl ⟨Nat.le_refl _, by show z < z + 4; omega⟩) (.slice (some ⟨r, 0, none⟩) m1 e2)
    have k3' := Kp.setCell (S := fun j => Bx z j ∨ w3.heap.size ≤ j) k2' (p := ⟨r, i * 3, none⟩) (fun _ => .inr hrb) (.int .i64 vk)
    have k4' := Kp.setCell (S := fun j => Bx z j ∨ w3.heap.size ≤ j) k3' (p := ⟨r, i * 3 + 1, none⟩) (fun _ => .inr hrb) (.int .i64 vn)
    have k5' := Kp.setCell (S := fun j => Bx z j ∨ w3.heap.size ≤ j) k4' (p := ⟨r, i * 3 + 2, none⟩) (fun _ => .inr hrb) (.complex .f64 (nr vre) (nr vim))
    have rw1 : RowV (p2.setCell ⟨z, 2, none⟩ (.slice (some ⟨r, 0, none⟩) m1 e2)) w3.heap.size (some ⟨r, 0, none⟩) m1 e2 sl := RowF.set R2.out.row ⟨z, 2, none⟩ (fun q hq => by injection hq with hq; injection hq with hq; rw [← hq]; exact hrz) _
    have rw2 := RowV.put rw1 i hjm ⟨vk, vn, nr vre, nr vim⟩
    have hmo := (HMS3.out.wide.kp k5' fun j _ hS => .inr (hS.elim (fun b => .inl (.inr b)) .inr)).mono (G := fun j => Own g A13 A14 A15 j ∨ XB X0 z j) fun j _ hO => hO.elim .inl fun e => .inr (.inl e)
    have hr1 : Rdv (fun j => Own g A13 A14 A15 j ∨ XB X0 z j) _ (some ⟨r, 0, none⟩) m1 3 (rowVl (sl.set i ⟨vk, vn, nr vre, nr vim⟩)) := Rdv.ofRow rw2 fun j hj _ hO => hO.elim (fun hO => by have := HFS3.out.old hO; omega) fun hb => by have := XB.lt HMZ.out hb; have := HZ3.out; omega
    exact step_fin hz hgz (fun _ _ h => h) ⟨(hfs.wide.far (k5'.mono fun _ _ h => h.elim (fun b => .inl (.inr b)) .inr)).less fun j _ hb => .inl hb, ⟨hr1, hmo.r2, hmo.r3, hmo.args⟩, F.ab, F.hM, by have := F.hst; omega, by have := F.hcs; omega, R2.out.caps, F.q2, F.q3, F.aw, F.cw, (fun h => by cases h), F.z2⟩ (kpo hz HB3.out k5' fun j hj => hj.elim (fun hb => hb.1) fun hb => by have := HZ3.out; omega) hk
   obtain ⟨w8, hw8⟩ : ∃ X, (((p2.setCell ⟨z, 2, none⟩ (.slice (some ⟨r, 0, none⟩) m1 e2)).setCell ⟨r, i * 3, none⟩ (.int .i64 vk)).setCell ⟨r, i * 3 + 1, none⟩ (.int .i64 vn)).setCell ⟨r, i * 3 + 2, none⟩ (.complex .f64 (nr vre) (nr vim)) = X := ⟨_, rfl⟩
   have hcz := (((HSB4.out.cz.far (g := z) (q := 2) (by omega) (.slice (some ⟨r, 0, none⟩) m1 e2)).far (g := r) (q := i * 3) hrz6 (.int .i64 vk)).far (g := r) (q := i * 3 + 1) hrz6 (.int .i64 vn)).far (g := r) (q := i * 3 + 2) hrz6 (.complex .f64 (nr vre) (nr vim))
   rw [hw8] at HFIN hcz ⊢
   clear x0 x1 x2 x3 x4 hw8
   have x0 := hcz.at_ 0 _ rfl
   have x1 := hcz.at_ 1 _ rfl
   have x2 := hcz.at_ 2 _ rfl
   have x3 := hcz.at_ 3 _ rfl
   have x4 := hcz.at_ 4 _ rfl
   exact bodyPost_ret (v := .tuple #[mdV fno pc (some ⟨r, 0, none⟩) m1 e2 B2 m2 k2 B3 m3 k3, .bool true]) (by simp [results, Tryz.results15, go_sem, x0, x1, x2, x3, x4]) rfl (HFIN.out _ (by repeat (first | exact Kp.refl _ _ | (refine Bx.put _ ?_ _) | (refine Bx.put0 _ ?_ _))))
  ·have t9 : decide ((i : Int) < (m1 : Int)) = false := by rw [decide_eq_false_iff_not]; omega
   have t9b : decide (i < m1) = false := by rw [decide_eq_false_iff_not]; omega
   have HSB8 := HSB3
   have HFIN := Lib.hid (HSTAY.out (by unfold setM; rw [if_neg (by omega)]))
   clear a1 d2
   have a1 := HSB8.out.co.at_ 1 _ rfl
   have x0 := HSB8.out.cz.at_ 0 _ rfl
   have f0 := HSB8.out.cz.fz 0 (by simp)
   have x1 := HSB8.out.cz.at_ 1 _ rfl
   have f1 := HSB8.out.cz.fz 1 (by simp)
   have x2 := HSB8.out.cz.at_ 2 _ rfl
   have f2 := HSB8.out.cz.fz 2 (by simp)
   have x3 := HSB8.out.cz.at_ 3 _ rfl
   have f3 := HSB8.out.cz.fz 3 (by simp)
   have x4 := HSB8.out.cz.at_ 4 _ rfl
   have f4 := HSB8.out.cz.fz 4 (by simp)
   have d0 := HSB8.out.cm.at_ 0 _ rfl
   have d1 := HSB8.out.cm.at_ 1 _ rfl
   have d2 := HSB8.out.cm.at_ 2 _ rfl
   have d3 := HSB8.out.cm.at_ 3 _ rfl
   have d4 := HSB8.out.cm.at_ 4 _ rfl
   go_wp2_with fail
   exact bodyPost_ret (v := .tuple #[mdV fno pc B1 m1 k1 B2 m2 k2 B3 m3 k3, .bool true]) (by simp [results, Tryz.results15, go_sem, x0, x1, x2, x3, x4]) rfl (HFIN.out _ (by repeat (first | exact Kp.refl _ _ | (refine Bx.put _ ?_ _) | (refine Bx.put0 _ ?_ _))))
end Go.Proofs.YtobmjnmcjddhcaaGreat

namespace Go.Proofs.YtobmjnmcjddhcaaGreat
open Go.RowKit
attribute [local go_sem] run_store_cplx
theorem fstep_4 (X0 : Nat → Prop) (g : Nat) (fno pc : Int) (s : ByteArray) (b : Bool) (A0 : Option Addr) (n0 c0 : Nat) (A1 : Option Addr) (n1 c1 : Nat) (A2 : Option Addr) (n2 c2 : Nat) (A3 : Option Addr) (n3 c3 : Nat) (A4 : Option Addr) (n4 c4 : Nat) (A5 : Option Addr) (n5 c5 : Nat) (A6 : Option Addr) (n6 c6 : Nat) (A7 : Option Addr) (n7 c7 : Nat) (A8 : Option Addr) (n8 c8 : Nat) (M K : Nat) (A13 : Option Addr) (m13 c13 : Nat) (A14 : Option Addr) (n14 c14 : Nat) (A15 : Option Addr) (n15 c15 : Nat) (B1 : Option Addr) (m1 k1 : Nat) (B2 : Option Addr) (m2 k2 : Nat) (B3 : Option Addr) (m3 k3 : Nat) (sl st : List DV) (cs ms : List CW) (k nn vk vn vre vim : Int) (w : World) (hmx : ∀ j, X0 j → j < w.heap.size) (H : FM X0 w g fno pc s b A0 n0 c0 A1 n1 c1 A2 n2 c2 A3 n3 c3 A4 n4 c4 A5 n5 c5 A6 n6 c6 A7 n7 c7 A8 n8 c8 M K A13 m13 c13 A14 n14 c14 A15 n15 c15 B1 m1 k1 B2 m2 k2 B3 m3 k3 sl st cs ms) (hK : K ≤ 1000) (hM : M ≤ 1000) (hn1 : n1 ≤ 1000 ∧ n2 ≤ 1000 ∧ n1 + n2 ≤ M) (wfk : (Lit.int .i64 k).wf = true) (wfn : (Lit.int .i64 nn).wf = true) (hk : k.tmod 8 = 4) :
  Calls Tryz.prog 15 #[.pointer (some ⟨g, 0, none⟩), mdV fno pc B1 m1 k1 B2 m2 k2 B3 m3 k3, .agg #[.string s, .bool b, .slice A0 n0 c0, .slice A1 n1 c1, .slice A2 n2 c2, .slice A3 n3 c3, .slice A4 n4 c4, .slice A5 n5 c5, .slice A6 n6 c6, .slice A7 n7 c7, .slice A8 n8 c8], .agg #[.int .i64 k, .int .i64 nn, .int .i64 vk, .int .i64 vn, .int .i64 vre, .int .i64 vim]] w (IsStep X0 g fno s b A0 n0 c0 A1 n1 c1 A2 n2 c2 A3 n3 c3 A4 n4 c4 A5 n5 c5 A6 n6 c6 A7 n7 c7 A8 n8 c8 M K (Own g A13 A14 A15) w) := by
 obtain ⟨z, hz⟩ : ∃ z, w.heap.size = z := ⟨_, rfl⟩
 obtain ⟨wa, hwa⟩ : ∃ X, (((w.alloc (.cells #[.int .i64 fno, .int .i64 pc, .slice B1 m1 k1, .slice B2 m2 k2, .slice B3 m3 k3] 51)).alloc (.cells #[.string s, .bool b, .slice A0 n0 c0, .slice A1 n1 c1, .slice A2 n2 c2, .slice A3 n3 c3, .slice A4 n4 c4, .slice A5 n5 c5, .slice A6 n6 c6, .slice A7 n7 c7, .slice A8 n8 c8] 38)).alloc (.cells #[.int .i64 k, .int .i64 nn, .int .i64 vk, .int .i64 vn, .int .i64 vre, .int .i64 vim] 56)).alloc (.cells #[.int .i64 0, .int .i64 0, .slice none 0 0, .slice none 0 0, .slice none 0 0] 51) = X := ⟨_, rfl⟩
 obtain ⟨hcl, hsa, hba⟩ := sb_new hz [.int .i64 fno, .int .i64 pc, .slice B1 m1 k1, .slice B2 m2 k2, .slice B3 m3 k3] [.string s, .bool b, .slice A0 n0 c0, .slice A1 n1 c1, .slice A2 n2 c2, .slice A3 n3 c3, .slice A4 n4 c4, .slice A5 n5 c5, .slice A6 n6 c6, .slice A7 n7 c7, .slice A8 n8 c8] [.int .i64 k, .int .i64 nn, .int .i64 vk, .int .i64 vn, .int .i64 vre, .int .i64 vim] [.int .i64 0, .int .i64 0, .slice none 0 0, .slice none 0 0, .slice none 0 0] _ _ _ _ hwa
 have hgz : g < z := by rw [← hz]; exact H.fs.lt
 have HMZ : Hid (∀ j, X0 j → j < z) := Lib.hid (by rw [← hz]; exact hmx)
 have o2 := hcl.2.2.1.at_ 2 _ rfl
 have o3 := hcl.2.2.1.at_ 3 _ rfl
 have o4 := hcl.2.2.1.at_ 4 _ rfl
 have o5 := hcl.2.2.1.at_ 5 _ rfl
 have cV := Lib.hid (value_any vk vn vre vim wa)
 have HM0 := Lib.hid (H.more hz)
 have HBXS := Lib.hid hcl
 have HSA : Hid (wa.heap.size = z + 4 ∧ Below w.heap.size w wa) := Lib.hid ⟨hsa, hba⟩
 have HE := Lib.hid hwa
 clear hcl hsa hba hwa H
 go_enter Tryz.func15, Tryz.ntmps15
 go_wp2_with fail
 rw [HE.out]
 refine cV.out.mono ?_
 rintro e w1 ⟨rfl, hb1⟩
 obtain ⟨w2, hw2⟩ : ∃ X, w1.alloc (.cells #[.int .i64 vk, .int .i64 vn, .complex .f64 (nr vre) (nr vim)] 43) = X := ⟨_, rfl⟩
 have HSB := Lib.hid (sb_of HBXS.out HSA.out.1 hb1 [.int .i64 vk, .int .i64 vn, .complex .f64 (nr vre) (nr vim)] _ hw2)
 have HB2 : Hid (Below w.heap.size w w2) := Lib.hid (by
  have h1 : Below w.heap.size w w1 := HSA.out.2.trans (hb1.mono HSA.out.2.size)
  rw [← hw2]
  exact h1.trans ((bl_one _).mono h1.size))
 have hs2 : z + 5 ≤ w2.heap.size := by
  have h1 := hb1.size
  have h2 := HSA.out.1
  rw [← hw2]
  simp
  omega
 have HZ2 := Lib.hid hs2
 obtain ⟨y, hy⟩ : ∃ y, w1.heap.size = y := ⟨_, rfl⟩
 rw [hy] at HSB
 have HM2 := Lib.hid (HM0.out.on ((Kp.refl (fun _ => False) w).ofBelow HB2.out))
 have a0 := HSB.out.co.at_ 0 _ rfl
 have a1 := HSB.out.co.at_ 1 _ rfl
 have d3 := HSB.out.cm.at_ 3 _ rfl
 have v0 := HSB.out.cv.at_ 0 _ rfl
 have v1 := HSB.out.cv.at_ 1 _ rfl
 have v2 := HSB.out.cv.at_ 2 _ rfl
 clear o2 o3 o4 o5 cV hb1 HE HBXS hs2
 have t0 : (k.tmod 8 == 0) = false := by simp [hk]
 have t1 : (k.tmod 8 == 1) = false := by simp [hk]
 have t2 : (k.tmod 8 == 2) = false := by simp [hk]
 have t3 : (k.tmod 8 == 3) = false := by simp [hk]
 have t4 : (k.tmod 8 == 4) = true := by simp [hk]
 have F2 := HM2.out.fs
 have hm1 : m1 = m13 := by
  have h1 := HM2.out.mo.r1.len
  have h2 := F2.r13.len
  omega
 subst hm1
 have HMM := Lib.hid HM2.out.hM
 have hm1k : m1 ≤ 1000 := by have := HMM.out; omega
 have hsl : sl.length = m1 := F2.r13.len
 have cP := Lib.hid (fsetresult_any g (g + 1) s b A0 n0 c0 A1 n1 c1 A2 n2 c2 A3 n3 c3 A4 n4 c4 A5 n5 c5 A6 n6 c6 A7 n7 c7 A8 n8 c8 A13 m1 c13 sl nn ⟨vk, vn, nr vre, nr vim⟩ w2 F2.fn F2.e13 F2.r13 (by omega) (by omega) (by omega))
 rw [show (⟨vk, vn, nr vre, nr vim⟩ : DV).v = .agg #[.int .i64 vk, .int .i64 vn, .complex .f64 (nr vre) (nr vim)] from rfl] at cP
 clear F2
 go_wp2_with fail
 refine cP.out.mono ?_
 rintro e w3 ⟨⟨u, rfl⟩, hrow, hkp⟩
 have HFS3 := Lib.hid (HM2.out.fs.sl hkp hrow)
 have HMS3 := Lib.hid (HM2.out.mo.kp hkp fun j _ hS => .inl (.inr (.inl hS)))
 have HB3 : Hid (Kp (Own g A13 A14 A15) w w3) := Lib.hid (((Kp.refl _ w).ofBelow HB2.out).trans (hkp.mono fun j _ e => .inr (.inl e)))
 have HSB3 := Lib.hid (HSB.out.kp hkp fun j hj hS => by
  have := (row_ge HM0.out.fs.r13 hS).2
  omega)
 have HZ3 : Hid (z + 5 ≤ w3.heap.size) := Lib.hid (by have := HZ2.out; have := hkp.size; omega)
 clear hrow hkp cP d3 v0 v1 v2 a0 a1 hw2 hy
 have a1 := HSB3.out.co.at_ 1 _ rfl
 have d2 := HSB3.out.cm.at_ 2 _ rfl
 have l4 := HSB3.out.cf.at_ 4 _ rfl
 have l3 := HSB3.out.cf.at_ 3 _ rfl
 have HSTAY : Hid (setM sl (fresM n1 n2 nn) ⟨vk, vn, nr vre, nr vim⟩ = sl → ∀ wf, Kp (Bx z) w3 wf → IsStep X0 g fno s b A0 n0 c0 A1 n1 c1 A2 n2 c2 A3 n3 c3 A4 n4 c4 A5 n5 c5 A6 n6 c6 A7 n7 c7 A8 n8 c8 M K (Own g A13 A14 A15) w (.returned (.tuple #[mdV fno pc B1 m1 k1 B2 m2 k2 B3 m3 k3, .bool true])) wf) := Lib.hid fun hse wf hk => by
  have F := HM2.out
  have h1 := HFS3.out
  rw [hse] at h1
  exact step_fin hz hgz (fun _ _ h => h) ⟨h1, HMS3.out, F.ab, F.hM, by have := F.hst; omega, by have := F.hcs; omega, F.q1, F.q2, F.q3, F.aw, F.cw, F.z1, F.z2⟩ HB3.out hk
 by_cases h0 : nn < 0
 ·have t8 : decide (0 ≤ nn) = false := by rw [decide_eq_false_iff_not]; omega
  have HSB8 := HSB3
  have HFIN := Lib.hid (HSTAY.out (by unfold setM fresM; rw [if_neg (by split <;> omega)]))
  clear a1 d2
  have a1 := HSB8.out.co.at_ 1 _ rfl
  have x0 := HSB8.out.cz.at_ 0 _ rfl
  have f0 := HSB8.out.cz.fz 0 (by simp)
  have x1 := HSB8.out.cz.at_ 1 _ rfl
  have f1 := HSB8.out.cz.fz 1 (by simp)
  have x2 := HSB8.out.cz.at_ 2 _ rfl
  have f2 := HSB8.out.cz.fz 2 (by simp)
  have x3 := HSB8.out.cz.at_ 3 _ rfl
  have f3 := HSB8.out.cz.fz 3 (by simp)
  have x4 := HSB8.out.cz.at_ 4 _ rfl
  have f4 := HSB8.out.cz.fz 4 (by simp)
  have d0 := HSB8.out.cm.at_ 0 _ rfl
  have d1 := HSB8.out.cm.at_ 1 _ rfl
  have d2 := HSB8.out.cm.at_ 2 _ rfl
  have d3 := HSB8.out.cm.at_ 3 _ rfl
  have d4 := HSB8.out.cm.at_ 4 _ rfl
  go_wp2_with fail
  exact bodyPost_ret (v := .tuple #[mdV fno pc B1 m1 k1 B2 m2 k2 B3 m3 k3, .bool true]) (by simp [results, Tryz.results15, go_sem, x0, x1, x2, x3, x4]) rfl (HFIN.out _ (by repeat (first | exact Kp.refl _ _ | (refine Bx.put _ ?_ _) | (refine Bx.put0 _ ?_ _))))
 ·obtain ⟨i, rfl⟩ : ∃ i : Nat, nn = (i : Int) := ⟨nn.toNat, by omega⟩
  have t8 : decide (0 ≤ (i : Int)) = true := by rw [decide_eq_true_eq]; omega
  have p8 : (0 : Int) ≤ (i : Int) := by omega
  by_cases h1 : i < n2
  ·have t9 : decide ((i : Int) < (n2 : Int)) = true := by rw [decide_eq_true_eq]; omega
   have p9 : (i : Int) < (n2 : Int) := by omega
   obtain ⟨j, hj⟩ : ∃ j, n1 + i = j := ⟨_, rfl⟩
   have hjm : j < m1 := by have := HMM.out; omega
   have wr : IntKind.i64.wrap ((n1 : Int) + (i : Int)) = (j : Int) := by rw [IntKind.wrap_i64]; omega
   have pj : (j : Int) < (m1 : Int) := by omega
   have pj0 : (0 : Int) ≤ (j : Int) := by omega
   have hset : setM sl (fresM n1 n2 (i : Int)) ⟨vk, vn, nr vre, nr vim⟩ = sl.set j ⟨vk, vn, nr vre, nr vim⟩ := by
    have e : fresM n1 n2 (i : Int) = (j : Int) := by unfold fresM; rw [if_pos (by omega)]; omega
    unfold setM; rw [e, if_pos (by omega)]; rfl
   have HSRC := HMS3.out.r1.srcB
   have HONE := Lib.hid (one_vl sl)
   obtain ⟨i0, hi, hz0, hz1, hz2⟩ := info_parts info_val
   obtain ⟨p1, hp1⟩ : ∃ X, World.alloc w3 (.cells #[] 43) = X := ⟨_, rfl⟩
   obtain ⟨q1, hq1⟩ : ∃ X, (World.heap w3).size = X := ⟨_, rfl⟩
   have R1 := Lib.hid (ApS.lit (e := 43) (sz := 3) (w0 := w3) (W := w3) (Below.refl _ _))
   rw [hp1] at R1
   have hq1' := hq1
   rw [hq1'] at R1
   have hB1 := R1.out.bl.size
   have d2' := (HSB3.out.on R1.out.bl).cm.at_ 2 _ rfl
   have HW0 : Hid (w3.heap.size = q1) := Lib.hid hq1
   clear hq1'
   go_wp2_with (first
     | (at_builtin; go_must (refine wpList_append_src _ rfl _ _ 39 rfl w3.heap.size 43 i0 zV 3 32 Tryz.underlying39 hi hz0 hz1 hz2 rfl (by decide) (.slice (some ⟨q1, 0, none⟩) 0 0) 0 [] rfl R1.out.own B1 m1 k1 (rowVl sl) rfl (HSRC.out _ R1.out.bl) HONE.out (by unfold maxLen; omega) (by omega) hB1 ?_)
        intro v' p2 hown hgrow hat
        obtain ⟨E2, e2, rfl, hR, hkp⟩ := R1.out.grow hown hgrow
        rw [List.nil_append, Nat.zero_add] at hR
        have R2 := Lib.hid hR
        have HSB4 := Lib.hid (HSB3.out.on R2.out.bl)
        have d2'' := HSB4.out.cm.at_ 2 _ rfl
        have f2'' := HSB4.out.cm.fz 2 (by simp)
        have a1'' := HSB4.out.co.at_ 1 _ rfl
        have l3'' := HSB4.out.cf.at_ 3 _ rfl
        obtain ⟨r, hE2, hrb, hrs, c0', c1', c2', hfr⟩ := RowV.at_ R2.out.row (List.getElem?_eq_getElem (show j < sl.length by omega))
        subst hE2
        have hrz : ¬ r = z := by have := HZ3.out; omega
        have hrz2 : ¬ z = r := fun e => hrz e.symm
        have hrz3 : ¬ r = z + 2 := by have := HZ3.out; omega
        have hrz4 : ¬ z + 2 = r := fun e => hrz3 e.symm
        have hrz5 : ¬ r = z + 3 := by have := HZ3.out; omega
        have hrz6 : ¬ z + 3 = r := fun e => hrz5 e.symm
        have g0' := hfr (j * 3)
        have g1' := hfr (j * 3 + 1)
        have g2' := hfr (j * 3 + 2)
        have y0 := HSB4.out.cv.at_ 0 _ rfl
        have y1 := HSB4.out.cv.at_ 1 _ rfl
        have y2 := HSB4.out.cv.at_ 2 _ rfl
        have hey := HSB4.out.ly
        have hyz : ¬ y = z := by omega
        have hzy : ¬ z = y := by omega
        have c0z := HSB4.out.cm.at_ 0 _ rfl
        have c1z := HSB4.out.cm.at_ 1 _ rfl
        have c3z := HSB4.out.cm.at_ 3 _ rfl
        have c4z := HSB4.out.cm.at_ 4 _ rfl
        have x0 := HSB4.out.cz.at_ 0 _ rfl
        have x1 := HSB4.out.cz.at_ 1 _ rfl
        have x2 := HSB4.out.cz.at_ 2 _ rfl
        have x3 := HSB4.out.cz.at_ 3 _ rfl
        have x4 := HSB4.out.cz.at_ 4 _ rfl
        have f0 := HSB4.out.cz.fz 0 (by simp)
        have f1 := HSB4.out.cz.fz 1 (by simp)
        have f2 := HSB4.out.cz.fz 2 (by simp)
        have f3 := HSB4.out.cz.fz 3 (by simp)
        have f4 := HSB4.out.cz.fz 4 (by simp)
        have HNR : Hid (w3.heap.size ≤ r ∧ r < p2.heap.size ∧ ¬ r = z) := Lib.hid ⟨hrb, hrs, hrz⟩
        clear hown hgrow hat hR hkp hfr hrb hrs))
   have HFIN : Hid (∀ wf, Kp (Bx z) ((((p2.setCell ⟨z, 2, none⟩ (.slice (some ⟨r, 0, none⟩) m1 e2)).setCell ⟨r, j * 3, none⟩ (.int .i64 vk)).setCell ⟨r, j * 3 + 1, none⟩ (.int .i64 vn)).setCell ⟨r, j * 3 + 2, none⟩ (.complex .f64 (nr vre) (nr vim))) wf → IsStep X0 g fno s b A0 n0 c0 A1 n1 c1 A2 n2 c2 A3 n3 c3 A4 n4 c4 A5 n5 c5 A6 n6 c6 A7 n7 c7 A8 n8 c8 M K (Own g A13 A14 A15) w (.returned (.tuple #[mdV fno pc (some ⟨r, 0, none⟩) m1 e2 B2 m2 k2 B3 m3 k3, .bool true])) wf) := Lib.hid fun wf hk => by
    obtain ⟨hrb, hrs, hrz⟩ := HNR.out
    have F := HM2.out
    have hfs := HFS3.out
    rw [hset] at hfs
    have k1' : Kp (fun j => Bx z j ∨ w3.heap.size ≤ j) w3 p2 := (Kp.refl _ w3).ofBelow R2.out.bl
    have k2' := Kp.setCell (S := fun j => Bx z j ∨ w3.heap.size ≤ j) k1' (p := ⟨z, 2, none⟩) (fun _ => .inl ⟨Nat.le_refl _, by show z < z + 4; omega⟩) (.slice (some ⟨r, 0, none⟩) m1 e2)
    have k3' := Kp.setCell (S := fun j => Bx z j ∨ w3.heap.size ≤ j) k2' (p := ⟨r, j * 3, none⟩) (fun _ => .inr hrb) (.int .i64 vk)
    have k4' := Kp.setCell (S := fun j => Bx z j ∨ w3.heap.size ≤ j) k3' (p := ⟨r, j * 3 + 1, none⟩) (fun _ => .inr hrb) (.int .i64 vn)
    have k5' := Kp.setCell (S := fun j => Bx z j ∨ w3.heap.size ≤ j) k4' (p := ⟨r, j * 3 + 2, none⟩) (fun _ => .inr hrb) (.complex .f64 (nr vre) (nr vim))
    have rw1 : RowV (p2.setCell ⟨z, 2, none⟩ (.slice (some ⟨r, 0, none⟩) m1 e2)) w3.heap.size (some ⟨r, 0, none⟩) m1 e2 sl := RowF.set R2.out.row ⟨z, 2, none⟩ (fun q hq => by injection hq with hq; injection hq with hq; rw [← hq]; exact hrz) _
    have rw2 := RowV.put rw1 j hjm ⟨vk, vn, nr vre, nr vim⟩
    have hmo := (HMS3.out.wide.kp k5' fun j _ hS => .inr (hS.elim (fun b => .inl (.inr b)) .inr)).mono (G := fun j => Own g A13 A14 A15 j ∨ XB X0 z j) fun j _ hO => hO.elim .inl fun e => .inr (.inl e)
    have hr1 : Rdv (fun j => Own g A13 A14 A15 j ∨ XB X0 z j) _ (some ⟨r, 0, none⟩) m1 3 (rowVl (sl.set j ⟨vk, vn, nr vre, nr vim⟩)) := Rdv.ofRow rw2 fun j hj _ hO => hO.elim (fun hO => by have := HFS3.out.old hO; omega) fun hb => by have := XB.lt HMZ.out hb; have := HZ3.out; omega
    exact step_fin hz hgz (fun _ _ h => h) ⟨(hfs.wide.far (k5'.mono fun _ _ h => h.elim (fun b => .inl (.inr b)) .inr)).less fun j _ hb => .inl hb, ⟨hr1, hmo.r2, hmo.r3, hmo.args⟩, F.ab, F.hM, by have := F.hst; omega, by have := F.hcs; omega, R2.out.caps, F.q2, F.q3, F.aw, F.cw, (fun h => by cases h), F.z2⟩ (kpo hz HB3.out k5' fun j hj => hj.elim (fun hb => hb.1) fun hb => by have := HZ3.out; omega) hk
   obtain ⟨w8, hw8⟩ : ∃ X, (((p2.setCell ⟨z, 2, none⟩ (.slice (some ⟨r, 0, none⟩) m1 e2)).setCell ⟨r, j * 3, none⟩ (.int .i64 vk)).setCell ⟨r, j * 3 + 1, none⟩ (.int .i64 vn)).setCell ⟨r, j * 3 + 2, none⟩ (.complex .f64 (nr vre) (nr vim)) = X := ⟨_, rfl⟩
   have hcz := (((HSB4.out.cz.far (g := z) (q := 2) (by omega) (.slice (some ⟨r, 0, none⟩) m1 e2)).far (g := r) (q := j * 3) hrz6 (.int .i64 vk)).far (g := r) (q := j * 3 + 1) hrz6 (.int .i64 vn)).far (g := r) (q := j * 3 + 2) hrz6 (.complex .f64 (nr vre) (nr vim))
   rw [hw8] at HFIN hcz ⊢
   clear x0 x1 x2 x3 x4 hw8
   have x0 := hcz.at_ 0 _ rfl
   have x1 := hcz.at_ 1 _ rfl
   have x2 := hcz.at_ 2 _ rfl
   have x3 := hcz.at_ 3 _ rfl
   have x4 := hcz.at_ 4 _ rfl
   exact bodyPost_ret (v := .tuple #[mdV fno pc (some ⟨r, 0, none⟩) m1 e2 B2 m2 k2 B3 m3 k3, .bool true]) (by simp [results, Tryz.results15, go_sem, x0, x1, x2, x3, x4]) rfl (HFIN.out _ (by repeat (first | exact Kp.refl _ _ | (refine Bx.put _ ?_ _) | (refine Bx.put0 _ ?_ _))))
  ·have t9 : decide ((i : Int) < (n2 : Int)) = false := by rw [decide_eq_false_iff_not]; omega
   have t9b : decide (i < n2) = false := by rw [decide_eq_false_iff_not]; omega
   have HSB8 := HSB3
   have HFIN := Lib.hid (HSTAY.out (by unfold setM fresM; rw [if_neg (by split <;> omega)]))
   clear a1 d2
   have a1 := HSB8.out.co.at_ 1 _ rfl
   have x0 := HSB8.out.cz.at_ 0 _ rfl
   have f0 := HSB8.out.cz.fz 0 (by simp)
   have x1 := HSB8.out.cz.at_ 1 _ rfl
   have f1 := HSB8.out.cz.fz 1 (by simp)
   have x2 := HSB8.out.cz.at_ 2 _ rfl
   have f2 := HSB8.out.cz.fz 2 (by simp)
   have x3 := HSB8.out.cz.at_ 3 _ rfl
   have f3 := HSB8.out.cz.fz 3 (by simp)
   have x4 := HSB8.out.cz.at_ 4 _ rfl
   have f4 := HSB8.out.cz.fz 4 (by simp)
   have d0 := HSB8.out.cm.at_ 0 _ rfl
   have d1 := HSB8.out.cm.at_ 1 _ rfl
   have d2 := HSB8.out.cm.at_ 2 _ rfl
   have d3 := HSB8.out.cm.at_ 3 _ rfl
   have d4 := HSB8.out.cm.at_ 4 _ rfl
   go_wp2_with fail
   exact bodyPost_ret (v := .tuple #[mdV fno pc B1 m1 k1 B2 m2 k2 B3 m3 k3, .bool true]) (by simp [results, Tryz.results15, go_sem, x0, x1, x2, x3, x4]) rfl (HFIN.out _ (by repeat (first | exact Kp.refl _ _ | (refine Bx.put _ ?_ _) | (refine Bx.put0 _ ?_ _))))
end Go.Proofs.YtobmjnmcjddhcaaGreat

namespace Go.Proofs.YtobmjnmcjddhcaaGreat
open Go.RowKit
attribute [local go_sem] run_store_cplx
theorem fstep_1 (X0 : Nat → Prop) (g : Nat) (fno pc : Int) (s : ByteArray) (b : Bool) (A0 : Option Addr) (n0 c0 : Nat) (A1 : Option Addr) (n1 c1 : Nat) (A2 : Option Addr) (n2 c2 : Nat) (A3 : Option Addr) (n3 c3 : Nat) (A4 : Option Addr) (n4 c4 : Nat) (A5 : Option Addr) (n5 c5 : Nat) (A6 : Option Addr) (n6 c6 : Nat) (A7 : Option Addr) (n7 c7 : Nat) (A8 : Option Addr) (n8 c8 : Nat) (M K : Nat) (A13 : Option Addr) (m13 c13 : Nat) (A14 : Option Addr) (n14 c14 : Nat) (A15 : Option Addr) (n15 c15 : Nat) (B1 : Option Addr) (m1 k1 : Nat) (B2 : Option Addr) (m2 k2 : Nat) (B3 : Option Addr) (m3 k3 : Nat) (sl st : List DV) (cs ms : List CW) (k nn vk vn vre vim : Int) (w : World) (hmx : ∀ j, X0 j → j < w.heap.size) (H : FM X0 w g fno pc s b A0 n0 c0 A1 n1 c1 A2 n2 c2 A3 n3 c3 A4 n4 c4 A5 n5 c5 A6 n6 c6 A7 n7 c7 A8 n8 c8 M K A13 m13 c13 A14 n14 c14 A15 n15 c15 B1 m1 k1 B2 m2 k2 B3 m3 k3 sl st cs ms) (hK : K ≤ 1000) (hM : M ≤ 1000) (hn1 : n1 ≤ 1000 ∧ n2 ≤ 1000 ∧ n1 + n2 ≤ M) (wfk : (Lit.int .i64 k).wf = true) (wfn : (Lit.int .i64 nn).wf = true) (hk : k.tmod 8 = 1) :
  Calls Tryz.prog 15 #[.pointer (some ⟨g, 0, none⟩), mdV fno pc B1 m1 k1 B2 m2 k2 B3 m3 k3, .agg #[.string s, .bool b, .slice A0 n0 c0, .slice A1 n1 c1, .slice A2 n2 c2, .slice A3 n3 c3, .slice A4 n4 c4, .slice A5 n5 c5, .slice A6 n6 c6, .slice A7 n7 c7, .slice A8 n8 c8], .agg #[.int .i64 k, .int .i64 nn, .int .i64 vk, .int .i64 vn, .int .i64 vre, .int .i64 vim]] w (IsStep X0 g fno s b A0 n0 c0 A1 n1 c1 A2 n2 c2 A3 n3 c3 A4 n4 c4 A5 n5 c5 A6 n6 c6 A7 n7 c7 A8 n8 c8 M K (Own g A13 A14 A15) w) := by
 obtain ⟨z, hz⟩ : ∃ z, w.heap.size = z := ⟨_, rfl⟩
 obtain ⟨wa, hwa⟩ : ∃ X, (((w.alloc (.cells #[.int .i64 fno, .int .i64 pc, .slice B1 m1 k1, .slice B2 m2 k2, .slice B3 m3 k3] 51)).alloc (.cells #[.string s, .bool b, .slice A0 n0 c0, .slice A1 n1 c1, .slice A2 n2 c2, .slice A3 n3 c3, .slice A4 n4 c4, .slice A5 n5 c5, .slice A6 n6 c6, .slice A7 n7 c7, .slice A8 n8 c8] 38)).alloc (.cells #[.int .i64 k, .int .i64 nn, .int .i64 vk, .int .i64 vn, .int .i64 vre, .int .i64 vim] 56)).alloc (.cells #[.int .i64 0, .int .i64 0, .slice none 0 0, .slice none 0 0, .slice none 0 0] 51) = X := ⟨_, rfl⟩
 obtain ⟨hcl, hsa, hba⟩ := sb_new hz [.int .i64 fno, .int .i64 pc, .slice B1 m1 k1, .slice B2 m2 k2, .slice B3 m3 k3] [.string s, .bool b, .slice A0 n0 c0, .slice A1 n1 c1, .slice A2 n2 c2, .slice A3 n3 c3, .slice A4 n4 c4, .slice A5 n5 c5, .slice A6 n6 c6, .slice A7 n7 c7, .slice A8 n8 c8] [.int .i64 k, .int .i64 nn, .int .i64 vk, .int .i64 vn, .int .i64 vre, .int .i64 vim] [.int .i64 0, .int .i64 0, .slice none 0 0, .slice none 0 0, .slice none 0 0] _ _ _ _ hwa
 have hgz : g < z := by rw [← hz]; exact H.fs.lt
 have HMZ : Hid (∀ j, X0 j → j < z) := Lib.hid (by rw [← hz]; exact hmx)
 have o2 := hcl.2.2.1.at_ 2 _ rfl
 have o3 := hcl.2.2.1.at_ 3 _ rfl
 have o4 := hcl.2.2.1.at_ 4 _ rfl
 have o5 := hcl.2.2.1.at_ 5 _ rfl
 have cV := Lib.hid (value_any vk vn vre vim wa)
 have HM0 := Lib.hid (H.more hz)
 have HBXS := Lib.hid hcl
 have HSA : Hid (wa.heap.size = z + 4 ∧ Below w.heap.size w wa) := Lib.hid ⟨hsa, hba⟩
 have HE := Lib.hid hwa
 clear hcl hsa hba hwa H
 go_enter Tryz.func15, Tryz.ntmps15
 go_wp2_with fail
 rw [HE.out]
 refine cV.out.mono ?_
 rintro e w1 ⟨rfl, hb1⟩
 obtain ⟨w2, hw2⟩ : ∃ X, w1.alloc (.cells #[.int .i64 vk, .int .i64 vn, .complex .f64 (nr vre) (nr vim)] 43) = X := ⟨_, rfl⟩
 have HSB := Lib.hid (sb_of HBXS.out HSA.out.1 hb1 [.int .i64 vk, .int .i64 vn, .complex .f64 (nr vre) (nr vim)] _ hw2)
 have HB2 : Hid (Below w.heap.size w w2) := Lib.hid (by
  have h1 : Below w.heap.size w w1 := HSA.out.2.trans (hb1.mono HSA.out.2.size)
  rw [← hw2]
  exact h1.trans ((bl_one _).mono h1.size))
 have hs2 : z + 5 ≤ w2.heap.size := by
  have h1 := hb1.size
  have h2 := HSA.out.1
  rw [← hw2]
  simp
  omega
 have HZ2 := Lib.hid hs2
 obtain ⟨y, hy⟩ : ∃ y, w1.heap.size = y := ⟨_, rfl⟩
 rw [hy] at HSB
 have HM2 := Lib.hid (HM0.out.on ((Kp.refl (fun _ => False) w).ofBelow HB2.out))
 have a0 := HSB.out.co.at_ 0 _ rfl
 have a1 := HSB.out.co.at_ 1 _ rfl
 have d3 := HSB.out.cm.at_ 3 _ rfl
 have v0 := HSB.out.cv.at_ 0 _ rfl
 have v1 := HSB.out.cv.at_ 1 _ rfl
 have v2 := HSB.out.cv.at_ 2 _ rfl
 clear o2 o3 o4 o5 cV hb1 HE HBXS hs2
 have t0 : (k.tmod 8 == 0) = false := by simp [hk]
 have t1 : (k.tmod 8 == 1) = true := by simp [hk]
 have F2 := HM2.out.fs
 have hm2 : m2 = n14 := by
  have h1 := HM2.out.mo.r2.len
  have h2 := F2.r14.len
  omega
 subst hm2
 have hstl : st.length = m2 := HM2.out.mo.r2.len
 have hmk : m2 ≤ 1000 := by have := HM2.out.hst; omega
 have cP := fpop_any g (g + 1) A14 m2 c14 st w2 F2.e14 (F2.fz 14) F2.r14 (by omega) (by omega)
 have hec : ∀ w, (Op.equalIn 9999 41 (.complex .f64 0 0) (.complex .f64 0 0)).run Tryz.prog w = .ok true w := fun w => by kernel_rfl
 obtain ⟨t, ht⟩ : ∃ t, topV st = t := ⟨_, rfl⟩
 rw [ht] at cP
 have HTOP := Lib.hid ht
 obtain ⟨tk, tn, tx, ty⟩ := t
 rw [show (⟨tk, tn, tx, ty⟩ : DV).v = .agg #[.int .i64 tk, .int .i64 tn, .complex .f64 tx ty] from rfl] at cP
 have cP := Lib.hid cP
 clear F2 ht
 go_wp2_with fail
 refine cP.out.mono ?_
 rintro e w3 ⟨rfl, hp⟩
 have hX : ∀ j, XB X0 z j → j < w2.heap.size := fun j hj => by have := XB.lt HMZ.out hj; have := HZ2.out; omega
 have hkp : Kp (fun j => j = g ∨ A14 = some ⟨j, 0, none⟩) w2 w3 := hp.kp.mono fun _ _ h => .inl h
 have HFS3 := Lib.hid (HM2.out.fs.st hkp hp.ci hp.co hp.fz (RowV.cut (RowF.kp HM2.out.fs.r14 hp.kp fun j hj e => by have := (row_ge HM2.out.fs.r14 hj).1; omega) (Nat.sub_le m2 1)) (Nw.rfl' _ _) hX)
 have HMS3 := Lib.hid (ms_st (F := fun _ => False) (S := fun _ => False) HM2.out.mo hkp (Nw.rfl' _ _) (k1 := k1) (k2 := k2) (k3 := k3) (cs := cs))
 have HB3 : Hid (Kp (Own g A13 A14 A15) w w3) := Lib.hid (((Kp.refl _ w).ofBelow HB2.out).trans (hp.kp.mono fun j _ e => .inl e))
 have HSB3 := Lib.hid (HSB.out.kp hp.kp fun j hj hS => by omega)
 have HZ3 : Hid (z + 5 ≤ w3.heap.size) := Lib.hid (by have := HZ2.out; have := hp.kp.size; omega)
 obtain ⟨w4, hw4⟩ : ∃ X, World.alloc w3 (.cells #[.int .i64 tk, .int .i64 tn, .complex .f64 tx ty] 43) = X := ⟨_, rfl⟩
 obtain ⟨y2, hy2⟩ : ∃ X, (World.heap w3).size = X := ⟨_, rfl⟩
 have hb34 : Below w3.heap.size w3 w4 := by rw [← hw4]; exact bl_one _
 have HC4 : Hid (Cells w4 y2 [.int .i64 tk, .int .i64 tn, .complex .f64 tx ty]) := Lib.hid (by rw [← hw4, ← hy2]; exact Cells.new w3 [.int .i64 tk, .int .i64 tn, .complex .f64 tx ty] _)
 have HSB4 := Lib.hid (HSB3.out.on hb34)
 have HB34 := Lib.hid hb34
 have HY2 : Hid (y2 < w4.heap.size ∧ z + 5 ≤ y2) := Lib.hid ⟨HC4.out.lt, by have := HZ3.out; omega⟩
 clear hp hkp hX cP d3 v0 v1 v2 a0 a1 hw2 hy hb34
 cases m2 with
 | zero =>
  have hst0 : st = [] := List.eq_nil_of_length_eq_zero hstl
  have hzt : (⟨0, 0, 0, 0⟩ : DV) = ⟨tk, tn, tx, ty⟩ := by
   rw [← HTOP.out, hst0]
   rfl
  have HZT := Lib.hid hzt
  clear hzt
  have HSB8 := Lib.hid (HSB4.out.on ((Below.refl _ _).drew))
  have HC8 := HC4.out.on ((Below.refl _ _).drew)
  have u0 := HC8.at_ 0 _ rfl
  have u1 := HC8.at_ 1 _ rfl
  have u2 := HC8.at_ 2 _ rfl
  have uw0 := HC4.out.at_ 0 _ rfl
  have uw1 := HC4.out.at_ 1 _ rfl
  have uw2 := HC4.out.at_ 2 _ rfl
  have hne1 : ¬ y2 = z + 1 + 1 + 1 := by have := HY2.out; omega
  have hne2 : ¬ z + 1 + 1 + 1 = y2 := fun e => hne1 e.symm
  have HFIN : Hid (∀ wf, Kp (Bx z) w4 wf → IsStep X0 g fno s b A0 n0 c0 A1 n1 c1 A2 n2 c2 A3 n3 c3 A4 n4 c4 A5 n5 c5 A6 n6 c6 A7 n7 c7 A8 n8 c8 M K (Own g A13 A14 A15) w (.returned (.tuple #[mdV fno pc B1 m1 k1 B2 0 k2 B3 m3 k3, .bool true])) wf) := Lib.hid fun wf hk => by
   have F := HM2.out
   have hb : Below w3.heap.size w3 w4 := HB34.out
   have h1 := HFS3.out.on hb
   rw [hst0, List.take_nil] at h1
   have hmo := HMS3.out.kp ((Kp.refl (fun _ => False) w3).ofBelow hb) fun _ _ h => h.elim
   rw [hst0] at hmo
   exact step_fin hz hgz (fun _ _ h => h) ⟨h1, hmo, F.ab, F.hM, by have := F.hst; omega, by have := F.hcs; omega, F.q1, F.q2, F.q3, F.aw, F.cw, F.z1, F.z2⟩ (HB3.out.ofBelow hb) hk
  clear HC8
  have x0 := HSB8.out.cz.at_ 0 _ rfl
  have f0 := HSB8.out.cz.fz 0 (by simp)
  have x1 := HSB8.out.cz.at_ 1 _ rfl
  have f1 := HSB8.out.cz.fz 1 (by simp)
  have x2 := HSB8.out.cz.at_ 2 _ rfl
  have f2 := HSB8.out.cz.fz 2 (by simp)
  have x3 := HSB8.out.cz.at_ 3 _ rfl
  have f3 := HSB8.out.cz.fz 3 (by simp)
  have x4 := HSB8.out.cz.at_ 4 _ rfl
  have f4 := HSB8.out.cz.fz 4 (by simp)
  have d0 := HSB8.out.cm.at_ 0 _ rfl
  have d1 := HSB8.out.cm.at_ 1 _ rfl
  have d2 := HSB8.out.cm.at_ 2 _ rfl
  have d3 := HSB8.out.cm.at_ 3 _ rfl
  have d4 := HSB8.out.cm.at_ 4 _ rfl
  go_wp2_with fail
  clear hw4 hy2
  have hzt := HZT.out
  injection hzt with hz1 hz2 hz3 hz4
  subst hz1 hz2 hz3 hz4
  have xw0 := HSB4.out.cz.at_ 0 _ rfl
  have fw0 := HSB4.out.cz.fz 0 (by simp)
  have xw1 := HSB4.out.cz.at_ 1 _ rfl
  have fw1 := HSB4.out.cz.fz 1 (by simp)
  have xw2 := HSB4.out.cz.at_ 2 _ rfl
  have fw2 := HSB4.out.cz.fz 2 (by simp)
  have xw3 := HSB4.out.cz.at_ 3 _ rfl
  have fw3 := HSB4.out.cz.fz 3 (by simp)
  have xw4 := HSB4.out.cz.at_ 4 _ rfl
  have fw4 := HSB4.out.cz.fz 4 (by simp)
  go_region
  all_goals go_wp2_with fail
  all_goals exact bodyPost_ret (v := .tuple #[mdV fno pc B1 m1 k1 B2 0 k2 B3 m3 k3, .bool true]) (by simp [results, Tryz.results15, go_sem, xw0, xw1, xw2, xw3, xw4]) rfl (HFIN.out _ (by repeat (first | exact Kp.refl _ _ | refine Kp.drew ?_ | (refine Bx.put _ ?_ _) | (refine Bx.put0 _ ?_ _))))
 | succ j =>
  obtain ⟨a, ha⟩ : ∃ a, st[j]? = some a := ⟨st[j], List.getElem?_eq_getElem (by omega)⟩
  have hat : a = ⟨tk, tn, tx, ty⟩ := by
   rw [← HTOP.out]
   unfold topV
   rw [hstl, Nat.add_sub_cancel, List.getD_eq_getElem?_getD, ha]
   rfl
  subst hat
  obtain ⟨bb, bo, hB2, hbb, hbf, s0, s1, s2⟩ := Rdv.at3 HMS3.out.r2 ha
  have HBB : Hid (bb < w3.heap.size ∧ B2 = some ⟨bb, bo, none⟩) := Lib.hid ⟨hbb, hB2⟩
  subst hB2
  have wr : IntKind.i64.wrap (((j + 1 : Nat) : Int) - 1) = (j : Int) := by rw [IntKind.wrap_i64]; omega
  have wr2 : IntKind.i64.wrap ((j : Int) + 1 - 1) = (j : Int) := by rw [IntKind.wrap_i64]; omega
  have j1 : (j : Int) < ((j + 1 : Nat) : Int) := by omega
  have j2 : (j : Int) < (j : Int) + 1 := by omega
  have j0 : (0 : Int) ≤ (j : Int) := by omega
  have jk : (j : Int) ≤ (k2 : Int) := by have := HM2.out.q2.1; omega
  have e3 := HSB4.out.cm.at_ 3 _ rfl
  have s0 : w4.cell? ⟨bb, bo + j * 3, none⟩ = some (.int .i64 tk) := (HB34.out.cell (p := ⟨bb, bo + j * 3, none⟩) hbb).trans s0
  have s1 : w4.cell? ⟨bb, bo + j * 3 + 1, none⟩ = some (.int .i64 tn) := (HB34.out.cell (p := ⟨bb, bo + j * 3 + 1, none⟩) hbb).trans s1
  have s2 : w4.cell? ⟨bb, bo + j * 3 + 2, none⟩ = some (.complex .f64 tx ty) := (HB34.out.cell (p := ⟨bb, bo + j * 3 + 2, none⟩) hbb).trans s2
  obtain ⟨w5, hw5⟩ : ∃ X, World.alloc w4 (.cells #[.int .i64 tk, .int .i64 tn, .complex .f64 tx ty] 43) = X := ⟨_, rfl⟩
  obtain ⟨y3, hy3⟩ : ∃ X, (World.heap w4).size = X := ⟨_, rfl⟩
  have hb45 : Below w4.heap.size w4 w5 := by rw [← hw5]; exact bl_one _
  have HSB5 := Lib.hid (HSB4.out.on hb45)
  have g3 := HSB5.out.cm.at_ 3 _ rfl
  have gf3 := HSB5.out.cm.fz 3 (by simp)
  obtain ⟨w6, hw6⟩ : ∃ X, World.setCell w5 ⟨z, 3, none⟩ (.slice (some ⟨bb, bo, none⟩) j k2) = X := ⟨_, rfl⟩
  have HSB8 : Hid (SB w6 z y [.int .i64 fno, .int .i64 pc, .slice B1 m1 k1, .slice (some ⟨bb, bo, none⟩) j k2, .slice B3 m3 k3] [.string s, .bool b, .slice A0 n0 c0, .slice A1 n1 c1, .slice A2 n2 c2, .slice A3 n3 c3, .slice A4 n4 c4, .slice A5 n5 c5, .slice A6 n6 c6, .slice A7 n7 c7, .slice A8 n8 c8] [.int .i64 k, .int .i64 nn, .int .i64 vk, .int .i64 vn, .int .i64 vre, .int .i64 vim] [.int .i64 0, .int .i64 0, .slice none 0 0, .slice none 0 0, .slice none 0 0] [.int .i64 vk, .int .i64 vn, .complex .f64 (nr vre) (nr vim)]) := Lib.hid (by
   have := HSB5.out.put 3 (by simp) (.slice (some ⟨bb, bo, none⟩) j k2)
   rw [hw6] at this
   exact this)
  have HC6 : Hid (Cells w6 y2 [.int .i64 tk, .int .i64 tn, .complex .f64 tx ty] ∧ Cells w6 y3 [.int .i64 tk, .int .i64 tn, .complex .f64 tx ty]) := Lib.hid (by
   have h2 := HY2.out
   rw [← hw6]
   refine ⟨(HC4.out.on hb45).far (by omega) _, Cells.far ?_ (by omega) _⟩
   rw [← hw5, ← hy3]
   exact Cells.new w4 [.int .i64 tk, .int .i64 tn, .complex .f64 tx ty] _)
  have hk36 : Kp (Bx z) w3 w6 := by
   rw [← hw6]
   exact Bx.put0 3 (((Kp.refl _ w3).ofBelow HB34.out).ofBelow hb45) _
  have HFIN : Hid (∀ wf, Kp (Bx z) w6 wf → IsStep X0 g fno s b A0 n0 c0 A1 n1 c1 A2 n2 c2 A3 n3 c3 A4 n4 c4 A5 n5 c5 A6 n6 c6 A7 n7 c7 A8 n8 c8 M K (Own g A13 A14 A15) w (.returned (.tuple #[mdV fno pc B1 m1 k1 (some ⟨bb, bo, none⟩) j k2 B3 m3 k3, .bool true])) wf) := Lib.hid fun wf hk => by
   have F := HM2.out
   have h1 := HFS3.out.far (hk36.mono fun _ _ => .inr)
   have hj : j + 1 - 1 = j := rfl
   rw [hj] at h1
   have hmo := HMS3.out.kp hk36 fun _ _ h => .inr (.inr h)
   have hr2 := (hmo.r2.take (Nat.le_succ j))
   rw [flat_take DV.c 3 DV.len] at hr2
   exact step_fin hz hgz (fun _ _ h => h) ⟨h1, ⟨hmo.r1, hr2, hmo.r3, hmo.args⟩, F.ab, F.hM, by have := F.hst; omega, by have := F.hcs; omega, F.q1, ⟨by have := F.q2.1; omega, F.q2.2⟩, F.q3, F.aw, F.cw, F.z1, F.z2⟩ (kpo hz HB3.out hk36 fun q hq => hq.1) hk
  have cS : Hid (∀ W : World, Calls Tryz.prog 25 #[vV tk tn tx ty, vV tk tn tx ty] W fun e w' => e = .returned (.bool true) ∧ Below W.heap.size W w') := Lib.hid fun W => by
   have := refSameV_any ⟨tk, tn, tx, ty⟩ ⟨tk, tn, tx, ty⟩ W
   rw [sameV_refl] at this
   exact this
  have HQ : Hid (∀ W, Below w6.heap.size w6 W → Cells W z [.int .i64 fno, .int .i64 pc, .slice B1 m1 k1, .slice (some ⟨bb, bo, none⟩) j k2, .slice B3 m3 k3] ∧ Cells W y2 [.int .i64 tk, .int .i64 tn, .complex .f64 tx ty] ∧ Cells W y3 [.int .i64 tk, .int .i64 tn, .complex .f64 tx ty]) := Lib.hid fun W hW => ⟨HSB8.out.cm.on hW, HC6.out.1.on hW, HC6.out.2.on hW⟩
  clear hk36 hb45 HBB hbb hbf ha HC4 HC6
  go_wp2_with fail
  refine wp_region_piv (R := fun W => Below w6.heap.size w6 W) (pv := 4) (by kernel_rfl) ?_
  change wpAnyG _ _ _ _ _ _ _ _ _ (World.drew _)
  try rw [hw6]
  have hS0 : Below w6.heap.size w6 w6.drew := (Below.refl _ _).drew
  refine tkG 0 0 [] rfl (by intro W hW; obtain ⟨h, _, _⟩ := HQ.out W hW; have h0 := h.at_ 0 _ rfl; have h1 := h.at_ 1 _ rfl; have h2 := h.at_ 2 _ rfl; have h3 := h.at_ 3 _ rfl; have h4 := h.at_ 4 _ rfl; go_simp; first | done | rfl) hS0 ?_
  try go_simp
  refine tkG 1 3 [1] rfl (by intro W hW; obtain ⟨_, h, _⟩ := HQ.out W hW; have h0 := h.at_ 0 _ rfl; have h1 := h.at_ 1 _ rfl; have h2 := h.at_ 2 _ rfl; go_simp; first | done | rfl) hS0 ?_
  try go_simp
  refine tkG 2 3 [2] rfl (by intro W hW; obtain ⟨_, _, h⟩ := HQ.out W hW; have h0 := h.at_ 0 _ rfl; have h1 := h.at_ 1 _ rfl; have h2 := h.at_ 2 _ rfl; go_simp; first | done | rfl) hS0 ?_
  try go_simp
  refine wpAnyG_one (i := 3) (by kernel_rfl) rfl (fun K hK => ?_)
  go_simp
  refine (cS.out _).mono ?_
  rintro e w7 ⟨rfl, hb7⟩
  have hS7 : Below w6.heap.size w6 w7 := hS0.trans (hb7.mono hS0.size)
  have HS7 := Lib.hid hS7
  clear hb7
  go_simp
  refine hK _ _ ⟨fun _ => HS7.out, ?_⟩; clear hK K
  try go_simp
  have HSB9 := Lib.hid (HSB8.out.on hS7)
  have HFIN9 : Hid (∀ wf, Kp (Bx z) w7 wf → IsStep X0 g fno s b A0 n0 c0 A1 n1 c1 A2 n2 c2 A3 n3 c3 A4 n4 c4 A5 n5 c5 A6 n6 c6 A7 n7 c7 A8 n8 c8 M K (Own g A13 A14 A15) w (.returned (.tuple #[mdV fno pc B1 m1 k1 (some ⟨bb, bo, none⟩) j k2 B3 m3 k3, .bool true])) wf) := Lib.hid fun wf hk => HFIN.out wf (((Kp.refl (Bx z) w6).ofBelow HS7.out).trans hk)
  clear hS0 hS7 HFIN HQ
  have x0 := HSB9.out.cz.at_ 0 _ rfl
  have f0 := HSB9.out.cz.fz 0 (by simp)
  have x1 := HSB9.out.cz.at_ 1 _ rfl
  have f1 := HSB9.out.cz.fz 1 (by simp)
  have x2 := HSB9.out.cz.at_ 2 _ rfl
  have f2 := HSB9.out.cz.fz 2 (by simp)
  have x3 := HSB9.out.cz.at_ 3 _ rfl
  have f3 := HSB9.out.cz.fz 3 (by simp)
  have x4 := HSB9.out.cz.at_ 4 _ rfl
  have f4 := HSB9.out.cz.fz 4 (by simp)
  refine wpAnyG_oneL (i := 4) (by kernel_rfl) rfl (by kernel_rfl) (fun K hK => ?_)
  go_simp
  refine hK _ _ ?_; clear hK K
  try go_simp
  refine wpAnyG_oneL (i := 5) (by kernel_rfl) rfl (by kernel_rfl) (fun K hK => ?_)
  go_simp
  refine hK _ _ ?_; clear hK K
  try go_simp
  refine wpAnyG_done (by kernel_rfl) ?_ _
  try go_simp
  go_wp2_with fail
  exact bodyPost_ret (v := .tuple #[mdV fno pc B1 m1 k1 (some ⟨bb, bo, none⟩) j k2 B3 m3 k3, .bool true]) (by simp [results, Tryz.results15, go_sem, x0, x1, x2, x3, x4]) rfl (HFIN9.out _ (by repeat (first | exact Kp.refl _ _ | (refine Bx.put _ ?_ _) | (refine Bx.put0 _ ?_ _))))
end Go.Proofs.YtobmjnmcjddhcaaGreat

namespace Go.Proofs.YtobmjnmcjddhcaaGreat
open Go.RowKit
attribute [local go_sem] run_store_cplx
theorem fstep_7 (X0 : Nat → Prop) (g : Nat) (fno pc : Int) (s : ByteArray) (b : Bool) (A0 : Option Addr) (n0 c0 : Nat) (A1 : Option Addr) (n1 c1 : Nat) (A2 : Option Addr) (n2 c2 : Nat) (A3 : Option Addr) (n3 c3 : Nat) (A4 : Option Addr) (n4 c4 : Nat) (A5 : Option Addr) (n5 c5 : Nat) (A6 : Option Addr) (n6 c6 : Nat) (A7 : Option Addr) (n7 c7 : Nat) (A8 : Option Addr) (n8 c8 : Nat) (M K : Nat) (A13 : Option Addr) (m13 c13 : Nat) (A14 : Option Addr) (n14 c14 : Nat) (A15 : Option Addr) (n15 c15 : Nat) (B1 : Option Addr) (m1 k1 : Nat) (B2 : Option Addr) (m2 k2 : Nat) (B3 : Option Addr) (m3 k3 : Nat) (sl st : List DV) (cs ms : List CW) (k nn vk vn vre vim : Int) (w : World) (hmx : ∀ j, X0 j → j < w.heap.size) (H : FM X0 w g fno pc s b A0 n0 c0 A1 n1 c1 A2 n2 c2 A3 n3 c3 A4 n4 c4 A5 n5 c5 A6 n6 c6 A7 n7 c7 A8 n8 c8 M K A13 m13 c13 A14 n14 c14 A15 n15 c15 B1 m1 k1 B2 m2 k2 B3 m3 k3 sl st cs ms) (hK : K ≤ 1000) (hM : M ≤ 1000) (hn1 : n1 ≤ 1000 ∧ n2 ≤ 1000 ∧ n1 + n2 ≤ M) (wfk : (Lit.int .i64 k).wf = true) (wfn : (Lit.int .i64 nn).wf = true) (hk : ¬ (0 ≤ k.tmod 8 ∧ k.tmod 8 ≤ 6)) :
  Calls Tryz.prog 15 #[.pointer (some ⟨g, 0, none⟩), mdV fno pc B1 m1 k1 B2 m2 k2 B3 m3 k3, .agg #[.string s, .bool b, .slice A0 n0 c0, .slice A1 n1 c1, .slice A2 n2 c2, .slice A3 n3 c3, .slice A4 n4 c4, .slice A5 n5 c5, .slice A6 n6 c6, .slice A7 n7 c7, .slice A8 n8 c8], .agg #[.int .i64 k, .int .i64 nn, .int .i64 vk, .int .i64 vn, .int .i64 vre, .int .i64 vim]] w (IsStep X0 g fno s b A0 n0 c0 A1 n1 c1 A2 n2 c2 A3 n3 c3 A4 n4 c4 A5 n5 c5 A6 n6 c6 A7 n7 c7 A8 n8 c8 M K (Own g A13 A14 A15) w) := by
 obtain ⟨z, hz⟩ : ∃ z, w.heap.size = z := ⟨_, rfl⟩
 obtain ⟨wa, hwa⟩ : ∃ X, (((w.alloc (.cells #[.int .i64 fno, .int .i64 pc, .slice B1 m1 k1, .slice B2 m2 k2, .slice B3 m3 k3] 51)).alloc (.cells #[.string s, .bool b, .slice A0 n0 c0, .slice A1 n1 c1, .slice A2 n2 c2, .slice A3 n3 c3, .slice A4 n4 c4, .slice A5 n5 c5, .slice A6 n6 c6, .slice A7 n7 c7, .slice A8 n8 c8] 38)).alloc (.cells #[.int .i64 k, .int .i64 nn, .int .i64 vk, .int .i64 vn, .int .i64 vre, .int .i64 vim] 56)).alloc (.cells #[.int .i64 0, .int .i64 0, .slice none 0 0, .slice none 0 0, .slice none 0 0] 51) = X := ⟨_, rfl⟩
 obtain ⟨hcl, hsa, hba⟩ := sb_new hz [.int .i64 fno, .int .i64 pc, .slice B1 m1 k1, .slice B2 m2 k2, .slice B3 m3 k3] [.string s, .bool b, .slice A0 n0 c0, .slice A1 n1 c1, .slice A2 n2 c2, .slice A3 n3 c3, .slice A4 n4 c4, .slice A5 n5 c5, .slice A6 n6 c6, .slice A7 n7 c7, .slice A8 n8 c8] [.int .i64 k, .int .i64 nn, .int .i64 vk, .int .i64 vn, .int .i64 vre, .int .i64 vim] [.int .i64 0, .int .i64 0, .slice none 0 0, .slice none 0 0, .slice none 0 0] _ _ _ _ hwa
 have hgz : g < z := by rw [← hz]; exact H.fs.lt
 have HMZ : Hid (∀ j, X0 j → j < z) := Lib.hid (by rw [← hz]; exact hmx)
 have o2 := hcl.2.2.1.at_ 2 _ rfl
 have o3 := hcl.2.2.1.at_ 3 _ rfl
 have o4 := hcl.2.2.1.at_ 4 _ rfl
 have o5 := hcl.2.2.1.at_ 5 _ rfl
 have cV := Lib.hid (value_any vk vn vre vim wa)
 have HM0 := Lib.hid (H.more hz)
 have HBXS := Lib.hid hcl
 have HSA : Hid (wa.heap.size = z + 4 ∧ Below w.heap.size w wa) := Lib.hid ⟨hsa, hba⟩
 have HE := Lib.hid hwa
 clear hcl hsa hba hwa H
 go_enter Tryz.func15, Tryz.ntmps15
 go_wp2_with fail
 rw [HE.out]
 refine cV.out.mono ?_
 rintro e w1 ⟨rfl, hb1⟩
 obtain ⟨w2, hw2⟩ : ∃ X, w1.alloc (.cells #[.int .i64 vk, .int .i64 vn, .complex .f64 (nr vre) (nr vim)] 43) = X := ⟨_, rfl⟩
 have HSB := Lib.hid (sb_of HBXS.out HSA.out.1 hb1 [.int .i64 vk, .int .i64 vn, .complex .f64 (nr vre) (nr vim)] _ hw2)
 have HB2 : Hid (Below w.heap.size w w2) := Lib.hid (by
  have h1 : Below w.heap.size w w1 := HSA.out.2.trans (hb1.mono HSA.out.2.size)
  rw [← hw2]
  exact h1.trans ((bl_one _).mono h1.size))
 have hs2 : z + 5 ≤ w2.heap.size := by
  have h1 := hb1.size
  have h2 := HSA.out.1
  rw [← hw2]
  simp
  omega
 have HZ2 := Lib.hid hs2
 obtain ⟨y, hy⟩ : ∃ y, w1.heap.size = y := ⟨_, rfl⟩
 rw [hy] at HSB
 have HM2 := Lib.hid (HM0.out.on ((Kp.refl (fun _ => False) w).ofBelow HB2.out))
 have a0 := HSB.out.co.at_ 0 _ rfl
 have a1 := HSB.out.co.at_ 1 _ rfl
 have d3 := HSB.out.cm.at_ 3 _ rfl
 have v0 := HSB.out.cv.at_ 0 _ rfl
 have v1 := HSB.out.cv.at_ 1 _ rfl
 have v2 := HSB.out.cv.at_ 2 _ rfl
 clear o2 o3 o4 o5 cV hb1 HE HBXS hs2
 have t0 : (k.tmod 8 == 0) = false := by rw [beq_eq_false_iff_ne]; omega
 have t1 : (k.tmod 8 == 1) = false := by rw [beq_eq_false_iff_ne]; omega
 have t2 : (k.tmod 8 == 2) = false := by rw [beq_eq_false_iff_ne]; omega
 have t3 : (k.tmod 8 == 3) = false := by rw [beq_eq_false_iff_ne]; omega
 have t4 : (k.tmod 8 == 4) = false := by rw [beq_eq_false_iff_ne]; omega
 have t5 : (k.tmod 8 == 5) = false := by rw [beq_eq_false_iff_ne]; omega
 have t6 : (k.tmod 8 == 6) = false := by rw [beq_eq_false_iff_ne]; omega
 have F2 := HM2.out.fs
 have hab := HM2.out.ab
 have hmsl : ms.length = m3 := HM2.out.mo.r3.lenc
 have hlen : ms.length = cs.length := by
  have h4 := congrArg List.length hab
  rwa [List.length_map, List.length_map] at h4
 have hm3 : m3 = n15 := by have := F2.r15.len; omega
 subst hm3
 have hmk : m3 ≤ 1000 := by have := HM2.out.hcs; omega
 have cP := fnext_any g (g + 1) A15 m3 c15 cs w2 F2.e15 (F2.fz 15) F2.r15 (by omega) (by omega)
 obtain ⟨t, ht⟩ : ∃ t, topC cs = t := ⟨_, rfl⟩
 rw [ht] at cP
 have HTOP := Lib.hid ht
 obtain ⟨qf, qA, qn, qc, ql⟩ := t
 dsimp only at cP
 have cP := Lib.hid cP
 have d4 := HSB.out.cm.at_ 4 _ rfl
 clear F2 ht
 have HAFT : Hid (∀ (left : Nat) (w3 : World), left = m3 - 1 → Popped 15 g A15 left w2 w3 →
   SB w3 z y [.int .i64 fno, .int .i64 pc, .slice B1 m1 k1, .slice B2 m2 k2, .slice B3 m3 k3] [.string s, .bool b, .slice A0 n0 c0, .slice A1 n1 c1, .slice A2 n2 c2, .slice A3 n3 c3, .slice A4 n4 c4, .slice A5 n5 c5, .slice A6 n6 c6, .slice A7 n7 c7, .slice A8 n8 c8] [.int .i64 k, .int .i64 nn, .int .i64 vk, .int .i64 vn, .int .i64 vre, .int .i64 vim] [.int .i64 0, .int .i64 0, .slice none 0 0, .slice none 0 0, .slice none 0 0] [.int .i64 vk, .int .i64 vn, .complex .f64 (nr vre) (nr vim)] ∧ FS (XB X0 z) w3 g fno pc s b A0 n0 c0 A1 n1 c1 A2 n2 c2 A3 n3 c3 A4 n4 c4 A5 n5 c5 A6 n6 c6 A7 n7 c7 A8 n8 c8 A13 m13 c13 A14 n14 c14 A15 left left sl st (cs.take left) ∧ MS (fun j => Own g A13 A14 A15 j ∨ XB X0 z j) w3 B1 m1 B2 m2 B3 m3 sl st ms ∧ (∀ q ∈ cs, Rdv (fun j => Bx z j) w3 q.A q.n 3 (rowVl q.l)) ∧ Kp (Own g A13 A14 A15) w w3 ∧ z + 5 ≤ w3.heap.size) := Lib.hid fun left w3 hl hp => by
  have hX : ∀ j, XB X0 z j → j < w2.heap.size := fun j hj => by have := XB.lt HMZ.out hj; have := HZ2.out; omega
  have hkp : Kp (fun j => j = g ∨ A15 = some ⟨j, 0, none⟩) w2 w3 := hp.kp.mono fun _ _ h => .inl h
  have hfs := HM2.out.fs.cs hkp hp.ci hp.co hp.fz (RowC.cut (RowF.kp HM2.out.fs.r15 hp.kp fun j hj e => by have := (row_ge HM2.out.fs.r15 hj).1; omega) (by omega : left ≤ m3)) (Nw.rfl' _ _) hX (fun q hq => .inl (List.mem_of_mem_take hq))
  have hms := ms_cs (F := fun _ => False) (S := fun _ => False) HM2.out.mo hkp (Nw.rfl' _ _) (k1 := k1) (k2 := k2) (k3 := k3) (cs := cs)
  have hb3 : Kp (Own g A13 A14 A15) w w3 := ((Kp.refl _ w).ofBelow HB2.out).trans (hp.kp.mono fun j _ e => .inl e)
  have hz3 : z + 5 ≤ w3.heap.size := by have := HZ2.out; have := hp.kp.size; omega
  refine ⟨HSB.out.kp hp.kp fun j hj hS => by omega, hfs, hms, fun q hq => ?_, hb3, hz3⟩
  exact ((HM2.out.fs.args q hq).kp hkp fun j _ hS => .inl (hS.elim .inl fun e => .inr (.inr (.inr e)))).mono fun j _ hb => .inr (.inr hb)
 cases m3 with
 | zero =>
  have hcs0 : cs = [] := List.eq_nil_of_length_eq_zero (by omega)
  have hms0 : ms = [] := List.eq_nil_of_length_eq_zero hmsl
  have hzt : zC = ⟨qf, qA, qn, qc, ql⟩ := by rw [← HTOP.out, hcs0]; rfl
  injection hzt with hz1 hz2 hz3 hz4 hz5
  subst hz1 hz2 hz3 hz4
  have cP := cP.out
  rw [show decide ((0 : Nat) < 0) = false from rfl] at cP
  have cP := Lib.hid cP
  go_wp2_with fail
  refine cP.out.mono ?_
  rintro e w3 ⟨rfl, hp⟩
  clear d4
  obtain ⟨hsb, hfs, hms, _, hb3, hz3⟩ := HAFT.out 0 w3 rfl hp
  have HSB8 := Lib.hid hsb
  have HFIN : Hid (∀ wf, Kp (Bx z) w3 wf → IsStep X0 g fno s b A0 n0 c0 A1 n1 c1 A2 n2 c2 A3 n3 c3 A4 n4 c4 A5 n5 c5 A6 n6 c6 A7 n7 c7 A8 n8 c8 M K (Own g A13 A14 A15) w (.returned (.tuple #[mdV fno pc B1 m1 k1 B2 m2 k2 B3 0 k3, .bool true])) wf) := Lib.hid fun wf hk => by
   have F := HM2.out
   rw [hcs0, List.take_nil] at hfs
   rw [hms0] at hms
   exact step_fin hz hgz (fun _ _ h => h) ⟨hfs, hms, rfl, F.hM, by have := F.hst; omega, Nat.zero_le _, F.q1, F.q2, F.q3, (fun _ h => by cases h), (fun _ h => by cases h), F.z1, F.z2⟩ hb3 hk
  clear hsb hfs hms hb3 hz3 hp cP d3 v0 v1 v2 a0 a1 hw2 hy
  have x0 := HSB8.out.cz.at_ 0 _ rfl
  have f0 := HSB8.out.cz.fz 0 (by simp)
  have x1 := HSB8.out.cz.at_ 1 _ rfl
  have f1 := HSB8.out.cz.fz 1 (by simp)
  have x2 := HSB8.out.cz.at_ 2 _ rfl
  have f2 := HSB8.out.cz.fz 2 (by simp)
  have x3 := HSB8.out.cz.at_ 3 _ rfl
  have f3 := HSB8.out.cz.fz 3 (by simp)
  have x4 := HSB8.out.cz.at_ 4 _ rfl
  have f4 := HSB8.out.cz.fz 4 (by simp)
  have d0 := HSB8.out.cm.at_ 0 _ rfl
  have d1 := HSB8.out.cm.at_ 1 _ rfl
  have d2 := HSB8.out.cm.at_ 2 _ rfl
  have d3 := HSB8.out.cm.at_ 3 _ rfl
  have d4 := HSB8.out.cm.at_ 4 _ rfl
  go_wp2_with fail
  exact bodyPost_ret (v := .tuple #[mdV fno pc B1 m1 k1 B2 m2 k2 B3 0 k3, .bool true]) (by simp [results, Tryz.results15, go_sem, x0, x1, x2, x3, x4]) rfl (HFIN.out _ (by repeat (first | exact Kp.refl _ _ | (refine Bx.put _ ?_ _) | (refine Bx.put0 _ ?_ _))))
 | succ j =>
  obtain ⟨qm, hqm⟩ : ∃ a, ms[j]? = some a := ⟨ms[j], List.getElem?_eq_getElem (by omega)⟩
  obtain ⟨q0, hq0⟩ : ∃ a, cs[j]? = some a := ⟨cs[j], List.getElem?_eq_getElem (by omega)⟩
  have hat : q0 = ⟨qf, qA, qn, qc, ql⟩ := by
   rw [← HTOP.out]
   unfold topC
   rw [← hlen, hmsl, Nat.add_sub_cancel, List.getD_eq_getElem?_getD, hq0]
   rfl
  subst hat
  have habj : qm.ab = (qf, ql) := by
   have h1 : (ms.map CW.ab)[j]? = (cs.map CW.ab)[j]? := by rw [hab]
   rw [List.getElem?_map, List.getElem?_map, hqm, hq0] at h1
   simp only [Option.map_some, Option.some.injEq] at h1
   exact h1
  have HMM := Lib.hid (HM2.out.aw qm (List.mem_of_getElem? hqm))
  have HCC := Lib.hid (HM2.out.cw _ (List.mem_of_getElem? hq0))
  have hmemq := List.mem_of_getElem? hq0
  have hmemm := List.mem_of_getElem? hqm
  obtain ⟨mf, mA, mn, mc, ml⟩ := qm
  obtain ⟨rfl, rfl⟩ : mf = qf ∧ ml = ql := by
   unfold CW.ab at habj
   exact ⟨congrArg Prod.fst habj, congrArg Prod.snd habj⟩
  have cP := cP.out
  rw [show decide (0 < j + 1) = true from by simp, Nat.add_sub_cancel] at cP
  have cP := Lib.hid cP
  have HQM := Lib.hid hqm
  have HMEM := Lib.hid (And.intro hmemq hmemm)
  have HAB := Lib.hid hab
  clear hqm hq0 hmemq hmemm habj hab
  go_wp2_with fail
  refine cP.out.mono ?_
  rintro e w3 ⟨rfl, hp⟩
  clear d4
  obtain ⟨hsb, hfs, hms, hca, hb3, hz3⟩ := HAFT.out j w3 rfl hp
  have HSB3 := Lib.hid hsb
  have HFS3 := Lib.hid hfs
  have HMS3 := Lib.hid hms
  have HCA3 := Lib.hid (hca _ HMEM.out.1)
  have HB3 := Lib.hid hb3
  have HZ3 := Lib.hid hz3
  clear hsb hfs hms hca hb3 hz3 hp cP d3 v0 v1 v2 a0 a1 hw2 hy
  obtain ⟨bb, bo, hB3, hbb, hbf, s0, s1⟩ := Rdv.at2 HMS3.out.r3 HQM.out
  dsimp only at s0 s1
  have e4 := HSB3.out.cm.at_ 4 _ rfl
  subst hB3
  have wr : IntKind.i64.wrap (((j + 1 : Nat) : Int) - 1) = (j : Int) := by rw [IntKind.wrap_i64]; omega
  have wr2 : IntKind.i64.wrap ((j : Int) + 1 - 1) = (j : Int) := by rw [IntKind.wrap_i64]; omega
  have j1 : (j : Int) < ((j + 1 : Nat) : Int) := by omega
  have j2 : (j : Int) < (j : Int) + 1 := by omega
  have j0 : (0 : Int) ≤ (j : Int) := by omega
  have jk : (j : Int) ≤ (k3 : Int) := by have := HM2.out.q3.1; omega
  obtain ⟨w5, hw5⟩ : ∃ X, World.alloc w3 (.cells #[.int .i64 mf, .slice mA mn mc] 104) = X := ⟨_, rfl⟩
  obtain ⟨y3, hy3⟩ : ∃ X, (World.heap w3).size = X := ⟨_, rfl⟩
  have hb45 : Below w3.heap.size w3 w5 := by rw [← hw5]; exact bl_one _
  have HSB5 := Lib.hid (HSB3.out.on hb45)
  have g4 := HSB5.out.cm.at_ 4 _ rfl
  have gf4 := HSB5.out.cm.fz 4 (by simp)
  obtain ⟨w6, hw6⟩ : ∃ X, World.setCell w5 ⟨z, 4, none⟩ (.slice (some ⟨bb, bo, none⟩) j k3) = X := ⟨_, rfl⟩
  have HSB8 : Hid (SB w6 z y [.int .i64 fno, .int .i64 pc, .slice B1 m1 k1, .slice B2 m2 k2, .slice (some ⟨bb, bo, none⟩) j k3] [.string s, .bool b, .slice A0 n0 c0, .slice A1 n1 c1, .slice A2 n2 c2, .slice A3 n3 c3, .slice A4 n4 c4, .slice A5 n5 c5, .slice A6 n6 c6, .slice A7 n7 c7, .slice A8 n8 c8] [.int .i64 k, .int .i64 nn, .int .i64 vk, .int .i64 vn, .int .i64 vre, .int .i64 vim] [.int .i64 0, .int .i64 0, .slice none 0 0, .slice none 0 0, .slice none 0 0] [.int .i64 vk, .int .i64 vn, .complex .f64 (nr vre) (nr vim)]) := Lib.hid (by
   have := HSB5.out.put 4 (by simp) (.slice (some ⟨bb, bo, none⟩) j k3)
   rw [hw6] at this
   exact this)
  have HC6 : Hid (Cells w6 y3 [.int .i64 mf, .slice mA mn mc]) := Lib.hid (by
   have h2 := HZ3.out
   rw [← hw6]
   refine Cells.far ?_ (by omega) _
   rw [← hw5, ← hy3]
   exact Cells.new w3 [.int .i64 mf, .slice mA mn mc] _)
  have hk36 : Kp (Bx z) w3 w6 := by
   rw [← hw6]
   exact Bx.put0 4 ((Kp.refl _ w3).ofBelow hb45) _
  have HFIN : Hid (∀ wf, Kp (Bx z) w6 wf → IsStep X0 g fno s b A0 n0 c0 A1 n1 c1 A2 n2 c2 A3 n3 c3 A4 n4 c4 A5 n5 c5 A6 n6 c6 A7 n7 c7 A8 n8 c8 M K (Own g A13 A14 A15) w (.returned (.tuple #[mdV fno pc B1 m1 k1 B2 m2 k2 (some ⟨bb, bo, none⟩) j k3, .bool true])) wf) := Lib.hid fun wf hk => by
   have F := HM2.out
   have h1 := HFS3.out.far (hk36.mono fun _ _ => .inr)
   have hmo := HMS3.out.kp hk36 fun _ _ h => .inr (.inr h)
   have hr3 := (hmo.r3.take (Nat.le_succ j))
   rw [flat_take CW.c' 2 CW.len] at hr3
   exact step_fin hz hgz (fun _ _ h => h) ⟨h1, ⟨hmo.r1, hmo.r2, hr3, fun q hq => hmo.args q (List.mem_of_mem_take hq)⟩, by rw [List.map_take, List.map_take, HAB.out], F.hM, by have := F.hst; omega, by have := F.hcs; omega, F.q1, F.q2, ⟨by have := F.q3.1; omega, F.q3.2⟩, fun q hq => F.aw q (List.mem_of_mem_take hq), fun q hq => F.cw q (List.mem_of_mem_take hq), F.z1, F.z2⟩ (kpo hz HB3.out hk36 fun q hq => hq.1) hk
  have cV2 : Hid (∀ W, Below w6.heap.size w6 W → Calls Tryz.prog 23 #[.slice qA qn qc, .slice mA mn mc] W fun e w' => e = .returned (.bool true) ∧ Below W.heap.size W w') := Lib.hid fun W hW => by
   have hk : Kp (Bx z) w3 W := hk36.ofBelow hW
   have h1 := (HCA3.out.kp hk fun _ _ h => h).slv HCC.out.1 HCC.out.2.1 (Nat.le_trans HCC.out.2.2 (by omega))
   have h2 := ((HMS3.out.args _ HMEM.out.2).kp hk fun _ _ h => .inr (.inr h)).slv HMM.out.1 HMM.out.2.1 (Nat.le_trans HMM.out.2.2 (by omega))
   have hqn : qn = mn := h1.1.symm.trans h2.1
   subst hqn
   exact refValues_true qA mA qn qc mc W.heap.size ml ml W h1 h2 (Nat.le_refl _) (fun i x y' h1 h2 => by rw [h1] at h2; injection h2 with h2; rw [h2]; exact sameV_refl y')
  have HQ : Hid (∀ W, Below w6.heap.size w6 W → Cells W z [.int .i64 fno, .int .i64 pc, .slice B1 m1 k1, .slice B2 m2 k2, .slice (some ⟨bb, bo, none⟩) j k3] ∧ Cells W y3 [.int .i64 mf, .slice mA mn mc]) := Lib.hid fun W hW => ⟨HSB8.out.cm.on hW, HC6.out.on hW⟩
  have HK36 := Lib.hid hk36
  clear hk36 hb45 hbb hbf HC6
  go_wp2_with fail
  refine wp_region_piv (R := fun W => Below w6.heap.size w6 W) (pv := 14) (by kernel_rfl) ?_
  change wpAnyG _ _ _ _ _ _ _ _ _ (World.drew _)
  try rw [hw6]
  have hS0 : Below w6.heap.size w6 w6.drew := (Below.refl _ _).drew
  refine tkG 0 0 [] rfl (by intro W hW; obtain ⟨h, h9⟩ := HQ.out W hW; have h0 := h.at_ 0 _ rfl; have h1 := h.at_ 1 _ rfl; have h2 := h.at_ 2 _ rfl; have h3 := h.at_ 3 _ rfl; have h4 := h.at_ 4 _ rfl; go_simp; first | done | rfl) hS0 ?_
  try go_simp
  refine tkG 1 12 [8, 7, 2, 1] rfl (by intro W hW; obtain ⟨_, h9⟩ := HQ.out W hW; have i0 := h9.at_ 0 _ rfl; have i1 := h9.at_ 1 _ rfl; go_simp; first | done | rfl) hS0 ?_
  try go_simp
  refine tkG 2 12 [8, 2] rfl (by intro W hW; obtain ⟨_, h9⟩ := HQ.out W hW; have i0 := h9.at_ 0 _ rfl; have i1 := h9.at_ 1 _ rfl; go_simp; first | done | rfl) hS0 ?_
  try go_simp
  refine tkG 3 12 [8, 7, 6, 3] rfl (by intro W hW; obtain ⟨_, h9⟩ := HQ.out W hW; have i0 := h9.at_ 0 _ rfl; have i1 := h9.at_ 1 _ rfl; go_simp; first | done | rfl) hS0 ?_
  try go_simp
  refine tkG 4 12 [8, 7, 6, 5, 4] rfl (by intro W hW; obtain ⟨_, h9⟩ := HQ.out W hW; have i0 := h9.at_ 0 _ rfl; have i1 := h9.at_ 1 _ rfl; go_simp; first | done | rfl) hS0 ?_
  try go_simp
  refine tkG 5 12 [8, 7, 6, 5] rfl (by intro W hW; obtain ⟨_, h9⟩ := HQ.out W hW; have i0 := h9.at_ 0 _ rfl; have i1 := h9.at_ 1 _ rfl; go_simp; first | done | rfl) hS0 ?_
  try go_simp
  refine tkG 6 12 [8, 7, 6] rfl (by intro W hW; obtain ⟨_, h9⟩ := HQ.out W hW; have i0 := h9.at_ 0 _ rfl; have i1 := h9.at_ 1 _ rfl; go_simp; first | done | rfl) hS0 ?_
  try go_simp
  refine tkG 7 12 [8, 7] rfl (by intro W hW; obtain ⟨_, h9⟩ := HQ.out W hW; have i0 := h9.at_ 0 _ rfl; have i1 := h9.at_ 1 _ rfl; go_simp; first | done | rfl) hS0 ?_
  try go_simp
  refine tkG 8 12 [8] rfl (by intro W hW; obtain ⟨_, h9⟩ := HQ.out W hW; have i0 := h9.at_ 0 _ rfl; have i1 := h9.at_ 1 _ rfl; go_simp; first | done | rfl) hS0 ?_
  try go_simp
  refine tkG 9 12 [9] rfl (by intro W hW; obtain ⟨_, h9⟩ := HQ.out W hW; have i0 := h9.at_ 0 _ rfl; have i1 := h9.at_ 1 _ rfl; go_simp; first | done | rfl) hS0 ?_
  try go_simp
  refine tkG 10 12 [11, 10] rfl (by intro W hW; obtain ⟨_, h9⟩ := HQ.out W hW; have i0 := h9.at_ 0 _ rfl; have i1 := h9.at_ 1 _ rfl; go_simp; first | done | rfl) hS0 ?_
  try go_simp
  refine tkG 11 12 [11] rfl (by intro W hW; obtain ⟨_, h9⟩ := HQ.out W hW; have i0 := h9.at_ 0 _ rfl; have i1 := h9.at_ 1 _ rfl; go_simp; first | done | rfl) hS0 ?_
  try go_simp
  refine wpAnyG_one (i := 12) (by kernel_rfl) rfl (fun K hK => ?_)
  go_simp
  refine (cV2.out _ hS0).mono ?_
  rintro e w7 ⟨rfl, hb7⟩
  have hS7 : Below w6.heap.size w6 w7 := hS0.trans (hb7.mono hS0.size)
  have HS7 := Lib.hid hS7
  clear hb7
  go_simp
  refine hK _ _ ⟨fun _ => HS7.out, ?_⟩; clear hK K
  try go_simp
  refine wpAnyG_free (i := 13) (v := .bool true) rfl (by decide) (by kernel_rfl) (by kernel_rfl) (by kernel_rfl) (fun _ _ _ h => h) (Or.inl ⟨by rfl, by intro W hW; go_simp; try (first | (with_reducible rfl) | omega)⟩) (fun _ => hS7) ?_
  try go_simp
  have HSB9 := Lib.hid (HSB8.out.on hS7)
  have HFIN9 : Hid (∀ wf, Kp (Bx z) w7 wf → IsStep X0 g fno s b A0 n0 c0 A1 n1 c1 A2 n2 c2 A3 n3 c3 A4 n4 c4 A5 n5 c5 A6 n6 c6 A7 n7 c7 A8 n8 c8 M K (Own g A13 A14 A15) w (.returned (.tuple #[mdV fno pc B1 m1 k1 B2 m2 k2 (some ⟨bb, bo, none⟩) j k3, .bool true])) wf) := Lib.hid fun wf hk => HFIN.out wf (((Kp.refl (Bx z) w6).ofBelow HS7.out).trans hk)
  clear hS0 hS7 HFIN HQ
  have x0 := HSB9.out.cz.at_ 0 _ rfl
  have f0 := HSB9.out.cz.fz 0 (by simp)
  have x1 := HSB9.out.cz.at_ 1 _ rfl
  have f1 := HSB9.out.cz.fz 1 (by simp)
  have x2 := HSB9.out.cz.at_ 2 _ rfl
  have f2 := HSB9.out.cz.fz 2 (by simp)
  have x3 := HSB9.out.cz.at_ 3 _ rfl
  have f3 := HSB9.out.cz.fz 3 (by simp)
  have x4 := HSB9.out.cz.at_ 4 _ rfl
  have f4 := HSB9.out.cz.fz 4 (by simp)
  refine wpAnyG_oneL (i := 14) (by kernel_rfl) rfl (by kernel_rfl) (fun K hK => ?_)
  go_simp
  refine hK _ _ ?_; clear hK K
  try go_simp
  refine wpAnyG_oneL (i := 15) (by kernel_rfl) rfl (by kernel_rfl) (fun K hK => ?_)
  go_simp
  refine hK _ _ ?_; clear hK K
  try go_simp
  refine wpAnyG_done (by kernel_rfl) ?_ _
  try go_simp
  go_wp2_with fail
  exact bodyPost_ret (v := .tuple #[mdV fno pc B1 m1 k1 B2 m2 k2 (some ⟨bb, bo, none⟩) j k3, .bool true]) (by simp [results, Tryz.results15, go_sem, x0, x1, x2, x3, x4]) rfl (HFIN9.out _ (by repeat (first | exact Kp.refl _ _ | (refine Bx.put _ ?_ _) | (refine Bx.put0 _ ?_ _))))
end Go.Proofs.YtobmjnmcjddhcaaGreat
