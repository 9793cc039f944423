import Derived.Test.YtobmjnmcjddhcaaGreatCTk
import Derived.Test.YtobmjnmcjddhcaaGreatF1
set_option linter.unusedSimpArgs false
set_option linter.unusedVariables false
set_option maxRecDepth 100000
set_option maxHeartbeats 8000000
namespace Go.Proofs.YtobmjnmcjddhcaaGreat
open Go.RowKit
attribute [local go_sem] run_store_cplx
theorem fstep_0 (X0 : Nat → Prop) (g : Nat) (fno pc : Int) (s : ByteArray) (b : Bool) (A0 : Option Addr) (n0 c0 : Nat) (A1 : Option Addr) (n1 c1 : Nat) (A2 : Option Addr) (n2 c2 : Nat) (A3 : Option Addr) (n3 c3 : Nat) (A4 : Option Addr) (n4 c4 : Nat) (A5 : Option Addr) (n5 c5 : Nat) (A6 : Option Addr) (n6 c6 : Nat) (A7 : Option Addr) (n7 c7 : Nat) (A8 : Option Addr) (n8 c8 : Nat) (M K : Nat) (A13 : Option Addr) (m13 c13 : Nat) (A14 : Option Addr) (n14 c14 : Nat) (A15 : Option Addr) (n15 c15 : Nat) (B1 : Option Addr) (m1 k1 : Nat) (B2 : Option Addr) (m2 k2 : Nat) (B3 : Option Addr) (m3 k3 : Nat) (sl st : List DV) (cs ms : List CW) (k nn vk vn vre vim : Int) (w : World) (hmx : ∀ j, X0 j → j < w.heap.size) (H : FM X0 w g fno pc s b A0 n0 c0 A1 n1 c1 A2 n2 c2 A3 n3 c3 A4 n4 c4 A5 n5 c5 A6 n6 c6 A7 n7 c7 A8 n8 c8 M K A13 m13 c13 A14 n14 c14 A15 n15 c15 B1 m1 k1 B2 m2 k2 B3 m3 k3 sl st cs ms) (hK : K ≤ 1000) (hM : M ≤ 1000) (hn1 : n1 ≤ 1000 ∧ n2 ≤ 1000 ∧ n1 + n2 ≤ M) (wfk : (Lit.int .i64 k).wf = true) (wfn : (Lit.int .i64 nn).wf = true) (hk : k.tmod 8 = 0) :
  Calls Tryz.prog 15 #[.pointer (some ⟨g, 0, none⟩), mdV fno pc B1 m1 k1 B2 m2 k2 B3 m3 k3, .agg #[.string s, .bool b, .slice A0 n0 c0, .slice A1 n1 c1, .slice A2 n2 c2, .slice A3 n3 c3, .slice A4 n4 c4, .slice A5 n5 c5, .slice A6 n6 c6, .slice A7 n7 c7, .slice A8 n8 c8], .agg #[.int .i64 k, .int .i64 nn, .int .i64 vk, .int .i64 vn, .int .i64 vre, .int .i64 vim]] w (IsStep X0 g fno s b A0 n0 c0 A1 n1 c1 A2 n2 c2 A3 n3 c3 A4 n4 c4 A5 n5 c5 A6 n6 c6 A7 n7 c7 A8 n8 c8 M K (Own g A13 A14 A15) w) := by
 obtain ⟨z, hz⟩ : ∃ z, w.heap.size = z := ⟨_, rfl⟩
 obtain ⟨wa, hwa⟩ : ∃ X, (((w.alloc (.cells #[.int .i64 fno, .int .i64 pc, .slice B1 m1 k1, .slice B2 m2 k2, .slice B3 m3 k3] 51)).alloc (.cells #[.string s, .bool b, .slice A0 n0 c0, .slice A1 n1 c1, .slice A2 n2 c2, .slice A3 n3 c3, .slice A4 n4 c4, .slice A5 n5 c5, .slice A6 n6 c6, .slice A7 n7 c7, .slice A8 n8 c8] 38)).alloc (.cells #[.int .i64 k, .int .i64 nn, .int .i64 vk, .int .i64 vn, .int .i64 vre, .int .i64 vim] 56)).alloc (.cells #[.int .i64 0, .int .i64 0, .slice none 0 0, .slice none 0 0, .slice none 0 0] 51) = X := ⟨_, rfl⟩
 obtain ⟨hcl, hsa, hba⟩ := sb_new hz [.int .i64 fno, .int .i64 pc, .slice B1 m1 k1, .slice B2 m2 k2, .slice B3 m3 k3] [.string s, .bool b, .slice A0 n0 c0, .slice A1 n1 c1, .slice A2 n2 c2, .slice A3 n3 c3, .slice A4 n4 c4, .slice A5 n5 c5, .slice A6 n6 c6, .slice A7 n7 c7, .slice A8 n8 c8] [.int .i64 k, .int .i64 nn, .int .i64 vk, .int .i64 vn, .int .i64 vre, .int .i64 vim] [.int .i64 0, .int .i64 0, .slice none 0 0, .slice none 0 0, .slice none 0 0] _ _ _ _ hwa
 have hgz : g < z := by rw [← hz]; exact H.fs.lt
 have HMZ : Hid (∀ j, X0 j → j < z) := Lib.hid (by rw [← hz]; exact hmx)
 have o2 := hcl.2.2.1.at_ 2 _ rfl
 have o3 := hcl.2.2.1.at_ 3 _ rfl
 have o4 := hcl.2.2.1.at_ 4 _ rfl
 have o5 := hcl.2.2.1.at_ 5 _ rfl
 have cV := Lib.hid (value_any vk vn vre vim wa)
 have HM0 := Lib.hid (H.more hz)
 have HBXS := Lib.hid hcl
 have HSA : Hid (wa.heap.size = z + 4 ∧ Below w.heap.size w wa) := Lib.hid ⟨hsa, hba⟩
 have HE := Lib.hid hwa
 clear hcl hsa hba hwa H
 go_enter Tryz.func15, Tryz.ntmps15
 go_wp2_with fail
 rw [HE.out]
 refine cV.out.mono ?_
 rintro e w1 ⟨rfl, hb1⟩
 obtain ⟨w2, hw2⟩ : ∃ X, w1.alloc (.cells #[.int .i64 vk, .int .i64 vn, .complex .f64 (nr vre) (nr vim)] 43) = X := ⟨_, rfl⟩
 have HSB := Lib.hid (sb_of HBXS.out HSA.out.1 hb1 [.int .i64 vk, .int .i64 vn, .complex .f64 (nr vre) (nr vim)] _ hw2)
 have HB2 : Hid (Below w.heap.size w w2) := Lib.hid (by
  have h1 : Below w.heap.size w w1 := HSA.out.2.trans (hb1.mono HSA.out.2.size)
  rw [← hw2]
  exact h1.trans ((bl_one _).mono h1.size))
 have hs2 : z + 5 ≤ w2.heap.size := by
  have h1 := hb1.size
  have h2 := HSA.out.1
  rw [← hw2]
  simp
  omega
 have HZ2 := Lib.hid hs2
 obtain ⟨y, hy⟩ : ∃ y, w1.heap.size = y := ⟨_, rfl⟩
 rw [hy] at HSB
 have HM2 := Lib.hid (HM0.out.on ((Kp.refl (fun _ => False) w).ofBelow HB2.out))
 have a0 := HSB.out.co.at_ 0 _ rfl
 have a1 := HSB.out.co.at_ 1 _ rfl
 have d3 := HSB.out.cm.at_ 3 _ rfl
 have v0 := HSB.out.cv.at_ 0 _ rfl
 have v1 := HSB.out.cv.at_ 1 _ rfl
 have v2 := HSB.out.cv.at_ 2 _ rfl
 clear o2 o3 o4 o5 cV hb1 HE HBXS hs2
 have t0 : (k.tmod 8 == 0) = true := by simp [hk]
 have F2 := HM2.out.fs
 have cP := Lib.hid (fpush_any g (g + 1) A14 n14 c14 st ⟨vk, vn, nr vre, nr vim⟩ w2 F2.e14 (F2.fz 14) F2.r14 (by omega) F2.lt (by have := HM2.out.hst; omega))
 rw [show (⟨vk, vn, nr vre, nr vim⟩ : DV).v = .agg #[.int .i64 vk, .int .i64 vn, .complex .f64 (nr vre) (nr vim)] from rfl] at cP
 clear F2
 go_wp2_with fail
 refine cP.out.mono ?_
 rintro e w3 ⟨⟨u, rfl⟩, A', c', hp⟩
 have HP := Lib.hid hp
 have hX : ∀ j, XB X0 z j → j < w2.heap.size := fun j hj => by have := XB.lt HMZ.out hj; have := HZ2.out; omega
 have HFS3 := Lib.hid (HM2.out.fs.st hp.kp hp.ci hp.co hp.fz hp.row hp.nw hX)
 have HMS3 := Lib.hid (ms_st (F := fun _ => False) (S := fun _ => False) HM2.out.mo hp.kp hp.nw (k1 := k1) (k2 := k2) (k3 := k3) (cs := cs))
 have HB3 : Hid (Kp (Own g A13 A14 A15) w w3) := Lib.hid (((Kp.refl _ w).ofBelow HB2.out).trans (hp.kp.mono fun j _ h => h.elim .inl fun e => .inr (.inr (.inl e))))
 have HSB3 := Lib.hid (HSB.out.kp hp.kp fun j hj hS => hS.elim (fun e => by omega) fun e => by
  have := (row_ge HM0.out.fs.r14 e).2
  omega)
 have HZ3 : Hid (z + 5 ≤ w3.heap.size) := Lib.hid (by have := HZ2.out; have := hp.kp.size; omega)
 clear hp hX cP d3 v0 v1 v2 a0 a1 hw2 hy
 have HSRC := HMS3.out.r2.srcB
 have HONE := Lib.hid (one_vl st)
 have HONE1 := Lib.hid (one_v vk vn (nr vre) (nr vim))
 have hm2 : m2 ≤ 1000 := by
  have h1 := HM2.out.mo.r2.len
  have h2 := HM2.out.fs.r14.len
  have h3 := HM2.out.hst
  omega
 obtain ⟨i0, hi, hz0, hz1, hz2⟩ := info_parts info_val
 have HQ : Hid (∀ W, Below w3.heap.size w3 W → W.cell? ⟨z, 3, none⟩ = some (.slice B2 m2 k2) ∧ W.cell? ⟨y, 0, none⟩ = some (.int .i64 vk) ∧ W.cell? ⟨y, 1, none⟩ = some (.int .i64 vn) ∧ W.cell? ⟨y, 2, none⟩ = some (.complex .f64 (nr vre) (nr vim))) := Lib.hid fun W hW => by
  have h := HSB3.out.on hW
  exact ⟨h.cm.at_ 3 _ rfl, h.cv.at_ 0 _ rfl, h.cv.at_ 1 _ rfl, h.cv.at_ 2 _ rfl⟩
 go_wp2_with fail
 refine wp_region_piv (R := fun W => Below w3.heap.size w3 W) (pv := 8) (by kernel_rfl) ?_
 change wpAnyG _ _ _ _ _ _ _ _ _ (World.drew _)
 have hS0 : Below w3.heap.size w3 w3.drew := (Below.refl _ _).drew
 refine tkG 1 6 [3, 2, 1] rfl (by intro W hW; go_simp; first | done | rfl) hS0 ?_
 try go_simp
 refine tkG 2 6 [3, 2] rfl (by intro W hW; obtain ⟨h1, h2, h3, h4⟩ := HQ.out W hW; go_simp; first | done | rfl) hS0 ?_
 try go_simp
 refine tkG 4 6 [5, 4] rfl (by intro W hW; obtain ⟨h1, h2, h3, h4⟩ := HQ.out W hW; go_simp; first | done | rfl) hS0 ?_
 try go_simp
 refine wpAnyG_two (i := 0) (j := 5) (by kernel_rfl) rfl rfl (fun K hK => ?_) (fun K hK => ?_)
 ·obtain ⟨p1, hp1⟩ : ∃ X, World.alloc w3.drew (.cells #[] 43) = X := ⟨_, rfl⟩
  obtain ⟨q1, hq1⟩ : ∃ X, (World.heap w3.drew).size = X := ⟨_, rfl⟩
  have R1 := Lib.hid (ApS.lit (e := 43) (sz := 3) (w0 := w3) (W := w3.drew) hS0)
  rw [hp1, hq1] at R1
  go_simp
  refine hK _ _ ⟨fun _ => R1.out.bl, ?_⟩; clear hK K
  clear hp1 hq1
  refine wpAnyG_two (i := 3) (j := 5) (by kernel_rfl) rfl rfl (fun K hK => ?_) (fun K hK => ?_)
  ·refine step_append_src _ rfl _ _ 39 rfl w3.heap.size 43 i0 (.agg #[.int .i64 0, .int .i64 0, .complex .f64 0 0]) 3 32 Tryz.underlying39 hi hz0 hz1 hz2 rfl (by decide) (.slice (some ⟨q1, 0, none⟩) 0 0) 0 [] ?qq1 R1.out.own B2 m2 k2 (rowVl st) ?qq2 (HSRC.out _ R1.out.bl) HONE.out (by unfold maxLen; omega) (by omega) R1.out.bl.size ?_
   case qq1 => go_simp
   case qq2 => go_simp
   intro v2 p2 hown hgrow hat
   obtain ⟨E2, e2, rfl, hR, hkp⟩ := R1.out.grow hown hgrow
   rw [List.nil_append, Nat.zero_add] at hR
   have R2 := Lib.hid hR
   have KP2 := Lib.hid hkp
   clear hown hgrow hat hR hkp
   try go_simp
   refine hK _ _ ⟨fun _ => R2.out.bl, ?_⟩; clear hK K
   refine wpAnyG_one (i := 5) (by kernel_rfl) rfl (fun K hK => ?_)
   obtain ⟨p3, hp3⟩ : ∃ X, World.alloc p2 (.cells #[.int .i64 vk, .int .i64 vn, .complex .f64 (nr vre) (nr vim)] 43) = X := ⟨_, rfl⟩
   obtain ⟨q3, hq3⟩ : ∃ X, (World.heap p2).size = X := ⟨_, rfl⟩
   have V3 := Lib.hid (ApV.new (e := 43) (sz := 3) (w0 := w3) (W := p2) R2.out.bl [.int .i64 vk, .int .i64 vn, .complex .f64 (nr vre) (nr vim)] rfl E2 (fun j hj => (row_ge R2.out.row hj).2))
   rw [hp3, hq3] at V3
   have R3 := Lib.hid (R2.out.on (bl_one (.cells #[.int .i64 vk, .int .i64 vn, .complex .f64 (nr vre) (nr vim)] 43)))
   rw [hp3] at R3
   go_simp
   refine hK _ _ ⟨fun _ => V3.out.bl, ?_⟩; clear hK K
   clear hp3 hq3
   refine wpAnyG_one (i := 6) (by kernel_rfl) rfl (fun K hK => ?_)
   refine step_append_src _ rfl _ _ 39 rfl w3.heap.size 43 i0 (.agg #[.int .i64 0, .int .i64 0, .complex .f64 0 0]) 3 32 Tryz.underlying39 hi hz0 hz1 hz2 rfl (by decide) _ m2 _ ?qq1 R3.out.own (some ⟨q3, 0, none⟩) 1 1 _ ?qq2 V3.out.src HONE1.out (by unfold maxLen; omega) (by omega) R3.out.bl.size ?_
   case qq1 => go_simp
   case qq2 => go_simp
   intro v4 p4 hown hgrow hat
   obtain ⟨E4, e4, rfl, hR, hkp⟩ := R3.out.grow hown hgrow
   have R4 := Lib.hid hR
   clear hown hgrow hat hR hkp
   try go_simp
   refine hK _ _ ⟨fun _ => R4.out.bl, ?_⟩; clear hK K
   have HSB6 := Lib.hid (HSB3.out.on R4.out.bl)
   have d3 := HSB6.out.cm.at_ 3 _ rfl
   have f3 := HSB6.out.cm.fz 3 (by simp)
   have HFM : Hid (FM (XB X0 z) (p4.setCell ⟨z, 3, none⟩ (.slice E4 (m2 + 1) e4)) g fno pc s b A0 n0 c0 A1 n1 c1 A2 n2 c2 A3 n3 c3 A4 n4 c4 A5 n5 c5 A6 n6 c6 A7 n7 c7 A8 n8 c8 M (K + 1) A13 m13 c13 A' (n14 + 1) c' A15 n15 c15 B1 m1 k1 E4 (m2 + 1) e4 B3 m3 k3 sl (st ++ [⟨vk, vn, nr vre, nr vim⟩]) cs ms) := Lib.hid (by
    have hk : Kp (Bx z) p4 (p4.setCell ⟨z, 3, none⟩ (.slice E4 (m2 + 1) e4)) := Kp.setCell (S := Bx z) (Kp.refl _ _) (p := ⟨z, 3, none⟩) (fun _ => ⟨Nat.le_refl _, by show z < z + 4; omega⟩) _
    have r2 : Rdv (fun j => Own g A13 A' A15 j ∨ XB X0 z j) p4 E4 (m2 + 1) 3 (rowVl (st ++ [⟨vk, vn, nr vre, nr vim⟩])) := by
     rw [rowVl_snoc]
     exact Rdv.ap R4.out fun j hj hO => hO.elim (fun hO => by have := HFS3.out.old hO; omega) fun hb => by have := XB.lt HMZ.out hb; have := HZ3.out; omega
    have hmo := HMS3.out.kp ((Kp.refl (fun _ => False) w3).ofBelow R4.out.bl) fun _ _ h => h.elim
    have hs : ∀ j, j < (World.heap p4).size → Bx z j → Own g A13 A' A15 j ∨ XB X0 z j := fun _ _ h => .inr (.inr h)
    have F := HM2.out
    exact ⟨(HFS3.out.on R4.out.bl).far (hk.mono fun _ _ => .inr), ⟨hmo.r1.kp hk hs, r2.kp hk hs, hmo.r3.kp hk hs, fun q hq => (hmo.args q hq).kp hk hs⟩, F.ab, F.hM, by have := F.hst; omega, by have := F.hcs; omega, F.q1, R4.out.caps, F.q3, F.aw, F.cw, F.z1, R4.out.nil⟩)
   have HB6 : Hid (Kp (Own g A13 A14 A15) w (p4.setCell ⟨z, 3, none⟩ (.slice E4 (m2 + 1) e4))) := Lib.hid (kpo hz HB3.out (Bx.put0 3 ((Kp.refl (Bx z) w3).ofBelow R4.out.bl) (.slice E4 (m2 + 1) e4)) fun j hj => hj.1)
   have HSB8 := Lib.hid (HSB6.out.put 3 (by simp) (.slice E4 (m2 + 1) e4))
   refine wpAnyG_one (i := 7) (by kernel_rfl) rfl (fun K hK => ?_)
   go_simp
   refine hK _ _ ⟨fun _ => R4.out.bl, ?_⟩; clear hK K
   refine wpAnyG_oneL (i := 8) (by kernel_rfl) rfl (by kernel_rfl) (fun K hK => ?_)
   go_simp
   refine hK _ _ ?_; clear hK K
   obtain ⟨w8, hw8⟩ : ∃ X, World.setCell p4 ⟨z, 3, none⟩ (.slice E4 (m2 + 1) e4) = X := ⟨_, rfl⟩
   rw [hw8] at HSB8 HFM HB6 ⊢
   refine wpAnyG_done (by kernel_rfl) ?_ _
   have HFIN : Hid (∀ wf, Kp (Bx z) w8 wf → IsStep X0 g fno s b A0 n0 c0 A1 n1 c1 A2 n2 c2 A3 n3 c3 A4 n4 c4 A5 n5 c5 A6 n6 c6 A7 n7 c7 A8 n8 c8 M K (Own g A13 A14 A15) w (.returned (.tuple #[mdV fno pc B1 m1 k1 E4 (m2 + 1) e4 B3 m3 k3, .bool true])) wf) := Lib.hid fun wf hk => step_fin hz hgz (own_st HP.out.nw (by have := HZ2.out; omega)) HFM.out HB6.out hk
   clear d3 f3 hw8
   have x0 := HSB8.out.cz.at_ 0 _ rfl
   have f0 := HSB8.out.cz.fz 0 (by simp)
   have x1 := HSB8.out.cz.at_ 1 _ rfl
   have f1 := HSB8.out.cz.fz 1 (by simp)
   have x2 := HSB8.out.cz.at_ 2 _ rfl
   have f2 := HSB8.out.cz.fz 2 (by simp)
   have x3 := HSB8.out.cz.at_ 3 _ rfl
   have f3 := HSB8.out.cz.fz 3 (by simp)
   have x4 := HSB8.out.cz.at_ 4 _ rfl
   have f4 := HSB8.out.cz.fz 4 (by simp)
   have d0 := HSB8.out.cm.at_ 0 _ rfl
   have d1 := HSB8.out.cm.at_ 1 _ rfl
   have d2 := HSB8.out.cm.at_ 2 _ rfl
   have d3 := HSB8.out.cm.at_ 3 _ rfl
   have d4 := HSB8.out.cm.at_ 4 _ rfl
   try go_simp
   go_wp2_with fail
   exact bodyPost_ret (v := .tuple #[mdV fno pc B1 m1 k1 E4 (m2 + 1) e4 B3 m3 k3, .bool true]) (by simp [results, Tryz.results15, go_sem, x0, x1, x2, x3, x4]) rfl (HFIN.out _ (by repeat (first | exact Kp.refl _ _ | (refine Bx.put _ ?_ _) | (refine Bx.put0 _ ?_ _))))
  ·obtain ⟨p2, hp2⟩ : ∃ X, World.alloc p1 (.cells #[.int .i64 vk, .int .i64 vn, .complex .f64 (nr vre) (nr vim)] 43) = X := ⟨_, rfl⟩
   obtain ⟨q2, hq2⟩ : ∃ X, (World.heap p1).size = X := ⟨_, rfl⟩
   have V2 := Lib.hid (ApV.new (e := 43) (sz := 3) (w0 := w3) (W := p1) R1.out.bl [.int .i64 vk, .int .i64 vn, .complex .f64 (nr vre) (nr vim)] rfl (some ⟨q1, 0, none⟩) (fun j hj => (row_ge R1.out.row hj).2))
   rw [hp2, hq2] at V2
   have R2 := Lib.hid (R1.out.on (bl_one (.cells #[.int .i64 vk, .int .i64 vn, .complex .f64 (nr vre) (nr vim)] 43)))
   rw [hp2] at R2
   go_simp
   refine hK _ _ ⟨fun _ => V2.out.bl, ?_⟩; clear hK K
   clear hp2 hq2
   refine wpAnyG_one (i := 3) (by kernel_rfl) rfl (fun K hK => ?_)
   refine step_append_src _ rfl _ _ 39 rfl w3.heap.size 43 i0 (.agg #[.int .i64 0, .int .i64 0, .complex .f64 0 0]) 3 32 Tryz.underlying39 hi hz0 hz1 hz2 rfl (by decide) (.slice (some ⟨q1, 0, none⟩) 0 0) 0 [] ?qq1 R2.out.own B2 m2 k2 (rowVl st) ?qq2 (HSRC.out _ R2.out.bl) HONE.out (by unfold maxLen; omega) (by omega) R2.out.bl.size ?_
   case qq1 => go_simp
   case qq2 => go_simp
   intro v3 p3 hown hgrow hat
   obtain ⟨E3, e3, rfl, hR, hkp⟩ := R2.out.grow hown hgrow
   rw [List.nil_append, Nat.zero_add] at hR
   have R3 := Lib.hid hR
   have KP3 := Lib.hid hkp
   clear hown hgrow hat hR hkp
   try go_simp
   refine hK _ _ ⟨fun _ => R3.out.bl, ?_⟩; clear hK K
   have V3 := Lib.hid (V2.out.on KP3.out R2.out.ge)
   refine wpAnyG_one (i := 6) (by kernel_rfl) rfl (fun K hK => ?_)
   refine step_append_src _ rfl _ _ 39 rfl w3.heap.size 43 i0 (.agg #[.int .i64 0, .int .i64 0, .complex .f64 0 0]) 3 32 Tryz.underlying39 hi hz0 hz1 hz2 rfl (by decide) _ m2 _ ?qq1 R3.out.own (some ⟨q2, 0, none⟩) 1 1 _ ?qq2 V3.out.src HONE1.out (by unfold maxLen; omega) (by omega) R3.out.bl.size ?_
   case qq1 => go_simp
   case qq2 => go_simp
   intro v4 p4 hown hgrow hat
   obtain ⟨E4, e4, rfl, hR, hkp⟩ := R3.out.grow hown hgrow
   have R4 := Lib.hid hR
   clear hown hgrow hat hR hkp
   try go_simp
   refine hK _ _ ⟨fun _ => R4.out.bl, ?_⟩; clear hK K
   have HSB6 := Lib.hid (HSB3.out.on R4.out.bl)
   have d3 := HSB6.out.cm.at_ 3 _ rfl
   have f3 := HSB6.out.cm.fz 3 (by simp)
   have HFM : Hid (FM (XB X0 z) (p4.setCell ⟨z, 3, none⟩ (.slice E4 (m2 + 1) e4)) g fno pc s b A0 n0 c0 A1 n1 c1 A2 n2 c2 A3 n3 c3 A4 n4 c4 A5 n5 c5 A6 n6 c6 A7 n7 c7 A8 n8 c8 M (K + 1) A13 m13 c13 A' (n14 + 1) c' A15 n15 c15 B1 m1 k1 E4 (m2 + 1) e4 B3 m3 k3 sl (st ++ [⟨vk, vn, nr vre, nr vim⟩]) cs ms) := Lib.hid (by
    have hk : Kp (Bx z) p4 (p4.setCell ⟨z, 3, none⟩ (.slice E4 (m2 + 1) e4)) := Kp.setCell (S := Bx z) (Kp.refl _ _) (p := ⟨z, 3, none⟩) (fun _ => ⟨Nat.le_refl _, by show z < z + 4; omega⟩) _
    have r2 : Rdv (fun j => Own g A13 A' A15 j ∨ XB X0 z j) p4 E4 (m2 + 1) 3 (rowVl (st ++ [⟨vk, vn, nr vre, nr vim⟩])) := by
     rw [rowVl_snoc]
     exact Rdv.ap R4.out fun j hj hO => hO.elim (fun hO => by have := HFS3.out.old hO; omega) fun hb => by have := XB.lt HMZ.out hb; have := HZ3.out; omega
    have hmo := HMS3.out.kp ((Kp.refl (fun _ => False) w3).ofBelow R4.out.bl) fun _ _ h => h.elim
    have hs : ∀ j, j < (World.heap p4).size → Bx z j → Own g A13 A' A15 j ∨ XB X0 z j := fun _ _ h => .inr (.inr h)
    have F := HM2.out
    exact ⟨(HFS3.out.on R4.out.bl).far (hk.mono fun _ _ => .inr), ⟨hmo.r1.kp hk hs, r2.kp hk hs, hmo.r3.kp hk hs, fun q hq => (hmo.args q hq).kp hk hs⟩, F.ab, F.hM, by have := F.hst; omega, by have := F.hcs; omega, F.q1, R4.out.caps, F.q3, F.aw, F.cw, F.z1, R4.out.nil⟩)
   have HB6 : Hid (Kp (Own g A13 A14 A15) w (p4.setCell ⟨z, 3, none⟩ (.slice E4 (m2 + 1) e4))) := Lib.hid (kpo hz HB3.out (Bx.put0 3 ((Kp.refl (Bx z) w3).ofBelow R4.out.bl) (.slice E4 (m2 + 1) e4)) fun j hj => hj.1)
   have HSB8 := Lib.hid (HSB6.out.put 3 (by simp) (.slice E4 (m2 + 1) e4))
   refine wpAnyG_one (i := 7) (by kernel_rfl) rfl (fun K hK => ?_)
   go_simp
   refine hK _ _ ⟨fun _ => R4.out.bl, ?_⟩; clear hK K
   refine wpAnyG_oneL (i := 8) (by kernel_rfl) rfl (by kernel_rfl) (fun K hK => ?_)
   go_simp
   refine hK _ _ ?_; clear hK K
   obtain ⟨w8, hw8⟩ : ∃ X, World.setCell p4 ⟨z, 3, none⟩ (.slice E4 (m2 + 1) e4) = X := ⟨_, rfl⟩
   rw [hw8] at HSB8 HFM HB6 ⊢
   refine wpAnyG_done (by kernel_rfl) ?_ _
   have HFIN : Hid (∀ wf, Kp (Bx z) w8 wf → IsStep X0 g fno s b A0 n0 c0 A1 n1 c1 A2 n2 c2 A3 n3 c3 A4 n4 c4 A5 n5 c5 A6 n6 c6 A7 n7 c7 A8 n8 c8 M K (Own g A13 A14 A15) w (.returned (.tuple #[mdV fno pc B1 m1 k1 E4 (m2 + 1) e4 B3 m3 k3, .bool true])) wf) := Lib.hid fun wf hk => step_fin hz hgz (own_st HP.out.nw (by have := HZ2.out; omega)) HFM.out HB6.out hk
   clear d3 f3 hw8
   have x0 := HSB8.out.cz.at_ 0 _ rfl
   have f0 := HSB8.out.cz.fz 0 (by simp)
   have x1 := HSB8.out.cz.at_ 1 _ rfl
   have f1 := HSB8.out.cz.fz 1 (by simp)
   have x2 := HSB8.out.cz.at_ 2 _ rfl
   have f2 := HSB8.out.cz.fz 2 (by simp)
   have x3 := HSB8.out.cz.at_ 3 _ rfl
   have f3 := HSB8.out.cz.fz 3 (by simp)
   have x4 := HSB8.out.cz.at_ 4 _ rfl
   have f4 := HSB8.out.cz.fz 4 (by simp)
   have d0 := HSB8.out.cm.at_ 0 _ rfl
   have d1 := HSB8.out.cm.at_ 1 _ rfl
   have d2 := HSB8.out.cm.at_ 2 _ rfl
   have d3 := HSB8.out.cm.at_ 3 _ rfl
   have d4 := HSB8.out.cm.at_ 4 _ rfl
   try go_simp
   go_wp2_with fail
   exact bodyPost_ret (v := .tuple #[mdV fno pc B1 m1 k1 E4 (m2 + 1) e4 B3 m3 k3, .bool true]) (by simp [results, Tryz.results15, go_sem, x0, x1, x2, x3, x4]) rfl (HFIN.out _ (by repeat (first | exact Kp.refl _ _ | (refine Bx.put _ ?_ _) | (refine Bx.put0 _ ?_ _))))
 ·obtain ⟨p1, hp1⟩ : ∃ X, World.alloc w3.drew (.cells #[.int .i64 vk, .int .i64 vn, .complex .f64 (nr vre) (nr vim)] 43) = X := ⟨_, rfl⟩
  obtain ⟨q1, hq1⟩ : ∃ X, (World.heap w3.drew).size = X := ⟨_, rfl⟩
  have V1 := Lib.hid (ApV.new (e := 43) (sz := 3) (w0 := w3) (W := w3.drew) hS0 [.int .i64 vk, .int .i64 vn, .complex .f64 (nr vre) (nr vim)] rfl none (fun j hj => (by cases hj)))
  rw [hp1, hq1] at V1
  go_simp
  refine hK _ _ ⟨fun _ => V1.out.bl, ?_⟩; clear hK K
  clear hp1 hq1
  refine wpAnyG_one (i := 0) (by kernel_rfl) rfl (fun K hK => ?_)
  obtain ⟨p2, hp2⟩ : ∃ X, World.alloc p1 (.cells #[] 43) = X := ⟨_, rfl⟩
  obtain ⟨q2, hq2⟩ : ∃ X, (World.heap p1).size = X := ⟨_, rfl⟩
  have R2 := Lib.hid (ApS.lit (e := 43) (sz := 3) (w0 := w3) (W := p1) V1.out.bl)
  rw [hp2, hq2] at R2
  go_simp
  refine hK _ _ ⟨fun _ => R2.out.bl, ?_⟩; clear hK K
  have V2 := Lib.hid (V1.out.turn (bl_one (.cells #[] 43)) (A' := some ⟨q2, 0, none⟩) (by have h1 := V1.out.lt.2; intro e; injection e with e; injection e with e; omega))
  rw [hp2] at V2
  clear hp2 hq2
  refine wpAnyG_one (i := 3) (by kernel_rfl) rfl (fun K hK => ?_)
  refine step_append_src _ rfl _ _ 39 rfl w3.heap.size 43 i0 (.agg #[.int .i64 0, .int .i64 0, .complex .f64 0 0]) 3 32 Tryz.underlying39 hi hz0 hz1 hz2 rfl (by decide) (.slice (some ⟨q2, 0, none⟩) 0 0) 0 [] ?qq1 R2.out.own B2 m2 k2 (rowVl st) ?qq2 (HSRC.out _ R2.out.bl) HONE.out (by unfold maxLen; omega) (by omega) R2.out.bl.size ?_
  case qq1 => go_simp
  case qq2 => go_simp
  intro v3 p3 hown hgrow hat
  obtain ⟨E3, e3, rfl, hR, hkp⟩ := R2.out.grow hown hgrow
  rw [List.nil_append, Nat.zero_add] at hR
  have R3 := Lib.hid hR
  have KP3 := Lib.hid hkp
  clear hown hgrow hat hR hkp
  try go_simp
  refine hK _ _ ⟨fun _ => R3.out.bl, ?_⟩; clear hK K
  have V3 := Lib.hid (V2.out.on KP3.out R2.out.ge)
  refine wpAnyG_one (i := 6) (by kernel_rfl) rfl (fun K hK => ?_)
  refine step_append_src _ rfl _ _ 39 rfl w3.heap.size 43 i0 (.agg #[.int .i64 0, .int .i64 0, .complex .f64 0 0]) 3 32 Tryz.underlying39 hi hz0 hz1 hz2 rfl (by decide) _ m2 _ ?qq1 R3.out.own (some ⟨q1, 0, none⟩) 1 1 _ ?qq2 V3.out.src HONE1.out (by unfold maxLen; omega) (by omega) R3.out.bl.size ?_
  case qq1 => go_simp
  case qq2 => go_simp
  intro v4 p4 hown hgrow hat
  obtain ⟨E4, e4, rfl, hR, hkp⟩ := R3.out.grow hown hgrow
  have R4 := Lib.hid hR
  clear hown hgrow hat hR hkp
  try go_simp
  refine hK _ _ ⟨fun _ => R4.out.bl, ?_⟩; clear hK K
  have HSB6 := Lib.hid (HSB3.out.on R4.out.bl)
  have d3 := HSB6.out.cm.at_ 3 _ rfl
  have f3 := HSB6.out.cm.fz 3 (by simp)
  have HFM : Hid (FM (XB X0 z) (p4.setCell ⟨z, 3, none⟩ (.slice E4 (m2 + 1) e4)) g fno pc s b A0 n0 c0 A1 n1 c1 A2 n2 c2 A3 n3 c3 A4 n4 c4 A5 n5 c5 A6 n6 c6 A7 n7 c7 A8 n8 c8 M (K + 1) A13 m13 c13 A' (n14 + 1) c' A15 n15 c15 B1 m1 k1 E4 (m2 + 1) e4 B3 m3 k3 sl (st ++ [⟨vk, vn, nr vre, nr vim⟩]) cs ms) := Lib.hid (by
   have hk : Kp (Bx z) p4 (p4.setCell ⟨z, 3, none⟩ (.slice E4 (m2 + 1) e4)) := Kp.setCell (S := Bx z) (Kp.refl _ _) (p := ⟨z, 3, none⟩) (fun _ => ⟨Nat.le_refl _, by show z < z + 4; omega⟩) _
   have r2 : Rdv (fun j => Own g A13 A' A15 j ∨ XB X0 z j) p4 E4 (m2 + 1) 3 (rowVl (st ++ [⟨vk, vn, nr vre, nr vim⟩])) := by
    rw [rowVl_snoc]
    exact Rdv.ap R4.out fun j hj hO => hO.elim (fun hO => by have := HFS3.out.old hO; omega) fun hb => by have := XB.lt HMZ.out hb; have := HZ3.out; omega
   have hmo := HMS3.out.kp ((Kp.refl (fun _ => False) w3).ofBelow R4.out.bl) fun _ _ h => h.elim
   have hs : ∀ j, j < (World.heap p4).size → Bx z j → Own g A13 A' A15 j ∨ XB X0 z j := fun _ _ h => .inr (.inr h)
   have F := HM2.out
   exact ⟨(HFS3.out.on R4.out.bl).far (hk.mono fun _ _ => .inr), ⟨hmo.r1.kp hk hs, r2.kp hk hs, hmo.r3.kp hk hs, fun q hq => (hmo.args q hq).kp hk hs⟩, F.ab, F.hM, by have := F.hst; omega, by have := F.hcs; omega, F.q1, R4.out.caps, F.q3, F.aw, F.cw, F.z1, R4.out.nil⟩)
  have HB6 : Hid (Kp (Own g A13 A14 A15) w (p4.setCell ⟨z, 3, none⟩ (.slice E4 (m2 + 1) e4))) := Lib.hid (kpo hz HB3.out (Bx.put0 3 ((Kp.refl (Bx z) w3).ofBelow R4.out.bl) (.slice E4 (m2 + 1) e4)) fun j hj => hj.1)
  have HSB8 := Lib.hid (HSB6.out.put 3 (by simp) (.slice E4 (m2 + 1) e4))
  refine wpAnyG_one (i := 7) (by kernel_rfl) rfl (fun K hK => ?_)
  go_simp
  refine hK _ _ ⟨fun _ => R4.out.bl, ?_⟩; clear hK K
  refine wpAnyG_oneL (i := 8) (by kernel_rfl) rfl (by kernel_rfl) (fun K hK => ?_)
  go_simp
  refine hK _ _ ?_; clear hK K
  obtain ⟨w8, hw8⟩ : ∃ X, World.setCell p4 ⟨z, 3, none⟩ (.slice E4 (m2 + 1) e4) = X := ⟨_, rfl⟩
  rw [hw8] at HSB8 HFM HB6 ⊢
  refine wpAnyG_done (by kernel_rfl) ?_ _
  have HFIN : Hid (∀ wf, Kp (Bx z) w8 wf → IsStep X0 g fno s b A0 n0 c0 A1 n1 c1 A2 n2 c2 A3 n3 c3 A4 n4 c4 A5 n5 c5 A6 n6 c6 A7 n7 c7 A8 n8 c8 M K (Own g A13 A14 A15) w (.returned (.tuple #[mdV fno pc B1 m1 k1 E4 (m2 + 1) e4 B3 m3 k3, .bool true])) wf) := Lib.hid fun wf hk => step_fin hz hgz (own_st HP.out.nw (by have := HZ2.out; omega)) HFM.out HB6.out hk
  clear d3 f3 hw8
  have x0 := HSB8.out.cz.at_ 0 _ rfl
  have f0 := HSB8.out.cz.fz 0 (by simp)
  have x1 := HSB8.out.cz.at_ 1 _ rfl
  have f1 := HSB8.out.cz.fz 1 (by simp)
  have x2 := HSB8.out.cz.at_ 2 _ rfl
  have f2 := HSB8.out.cz.fz 2 (by simp)
  have x3 := HSB8.out.cz.at_ 3 _ rfl
  have f3 := HSB8.out.cz.fz 3 (by simp)
  have x4 := HSB8.out.cz.at_ 4 _ rfl
  have f4 := HSB8.out.cz.fz 4 (by simp)
  have d0 := HSB8.out.cm.at_ 0 _ rfl
  have d1 := HSB8.out.cm.at_ 1 _ rfl
  have d2 := HSB8.out.cm.at_ 2 _ rfl
  have d3 := HSB8.out.cm.at_ 3 _ rfl
  have d4 := HSB8.out.cm.at_ 4 _ rfl
  try go_simp
  go_wp2_with fail
  exact bodyPost_ret (v := .tuple #[mdV fno pc B1 m1 k1 E4 (m2 + 1) e4 B3 m3 k3, .bool true]) (by simp [results, Tryz.results15, go_sem, x0, x1, x2, x3, x4]) rfl (HFIN.out _ (by repeat (first | exact Kp.refl _ _ | (refine Bx.put _ ?_ _) | (refine Bx.put0 _ ?_ _))))
end Go.Proofs.YtobmjnmcjddhcaaGreat

namespace Go.Proofs.YtobmjnmcjddhcaaGreat
open Go.RowKit
attribute [local go_sem] run_store_cplx
theorem info_wt : (Tryz.prog.info? 104).map (fun i => (i.zero, i.size, i.bytes)) = some (some (.agg #[.int .i64 0, .slice none 0 0]), 2, 32) := by kernel_rfl
theorem one_cw (l : List CW) : ∀ u ∈ rowC l, u.oneCell' = true := by
 intro u hu
 obtain ⟨x, _, hx⟩ := List.mem_flatMap.1 hu
 simp [CW.c'] at hx
 rcases hx with rfl | rfl <;> rfl
theorem fstep_6 (X0 : Nat → Prop) (g : Nat) (fno pc : Int) (s : ByteArray) (b : Bool) (A0 : Option Addr) (n0 c0 : Nat) (A1 : Option Addr) (n1 c1 : Nat) (A2 : Option Addr) (n2 c2 : Nat) (A3 : Option Addr) (n3 c3 : Nat) (A4 : Option Addr) (n4 c4 : Nat) (A5 : Option Addr) (n5 c5 : Nat) (A6 : Option Addr) (n6 c6 : Nat) (A7 : Option Addr) (n7 c7 : Nat) (A8 : Option Addr) (n8 c8 : Nat) (M K : Nat) (A13 : Option Addr) (m13 c13 : Nat) (A14 : Option Addr) (n14 c14 : Nat) (A15 : Option Addr) (n15 c15 : Nat) (B1 : Option Addr) (m1 k1 : Nat) (B2 : Option Addr) (m2 k2 : Nat) (B3 : Option Addr) (m3 k3 : Nat) (sl st : List DV) (cs ms : List CW) (k nn vk vn vre vim : Int) (w : World) (hmx : ∀ j, X0 j → j < w.heap.size) (H : FM X0 w g fno pc s b A0 n0 c0 A1 n1 c1 A2 n2 c2 A3 n3 c3 A4 n4 c4 A5 n5 c5 A6 n6 c6 A7 n7 c7 A8 n8 c8 M K A13 m13 c13 A14 n14 c14 A15 n15 c15 B1 m1 k1 B2 m2 k2 B3 m3 k3 sl st cs ms) (hK : K ≤ 1000) (hM : M ≤ 1000) (hn1 : n1 ≤ 1000 ∧ n2 ≤ 1000 ∧ n1 + n2 ≤ M) (wfk : (Lit.int .i64 k).wf = true) (wfn : (Lit.int .i64 nn).wf = true) (hk : k.tmod 8 = 6) :
  Calls Tryz.prog 15 #[.pointer (some ⟨g, 0, none⟩), mdV fno pc B1 m1 k1 B2 m2 k2 B3 m3 k3, .agg #[.string s, .bool b, .slice A0 n0 c0, .slice A1 n1 c1, .slice A2 n2 c2, .slice A3 n3 c3, .slice A4 n4 c4, .slice A5 n5 c5, .slice A6 n6 c6, .slice A7 n7 c7, .slice A8 n8 c8], .agg #[.int .i64 k, .int .i64 nn, .int .i64 vk, .int .i64 vn, .int .i64 vre, .int .i64 vim]] w (IsStep X0 g fno s b A0 n0 c0 A1 n1 c1 A2 n2 c2 A3 n3 c3 A4 n4 c4 A5 n5 c5 A6 n6 c6 A7 n7 c7 A8 n8 c8 M K (Own g A13 A14 A15) w) := by
 obtain ⟨z, hz⟩ : ∃ z, w.heap.size = z := ⟨_, rfl⟩
 obtain ⟨wa, hwa⟩ : ∃ X, (((w.alloc (.cells #[.int .i64 fno, .int .i64 pc, .slice B1 m1 k1, .slice B2 m2 k2, .slice B3 m3 k3] 51)).alloc (.cells #[.string s, .bool b, .slice A0 n0 c0, .slice A1 n1 c1, .slice A2 n2 c2, .slice A3 n3 c3, .slice A4 n4 c4, .slice A5 n5 c5, .slice A6 n6 c6, .slice A7 n7 c7, .slice A8 n8 c8] 38)).alloc (.cells #[.int .i64 k, .int .i64 nn, .int .i64 vk, .int .i64 vn, .int .i64 vre, .int .i64 vim] 56)).alloc (.cells #[.int .i64 0, .int .i64 0, .slice none 0 0, .slice none 0 0, .slice none 0 0] 51) = X := ⟨_, rfl⟩
 obtain ⟨hcl, hsa, hba⟩ := sb_new hz [.int .i64 fno, .int .i64 pc, .slice B1 m1 k1, .slice B2 m2 k2, .slice B3 m3 k3] [.string s, .bool b, .slice A0 n0 c0, .slice A1 n1 c1, .slice A2 n2 c2, .slice A3 n3 c3, .slice A4 n4 c4, .slice A5 n5 c5, .slice A6 n6 c6, .slice A7 n7 c7, .slice A8 n8 c8] [.int .i64 k, .int .i64 nn, .int .i64 vk, .int .i64 vn, .int .i64 vre, .int .i64 vim] [.int .i64 0, .int .i64 0, .slice none 0 0, .slice none 0 0, .slice none 0 0] _ _ _ _ hwa
 have hgz : g < z := by rw [← hz]; exact H.fs.lt
 have HMZ : Hid (∀ j, X0 j → j < z) := Lib.hid (by rw [← hz]; exact hmx)
 have o2 := hcl.2.2.1.at_ 2 _ rfl
 have o3 := hcl.2.2.1.at_ 3 _ rfl
 have o4 := hcl.2.2.1.at_ 4 _ rfl
 have o5 := hcl.2.2.1.at_ 5 _ rfl
 have cV := Lib.hid (value_any vk vn vre vim wa)
 have HM0 := Lib.hid (H.more hz)
 have HBXS := Lib.hid hcl
 have HSA : Hid (wa.heap.size = z + 4 ∧ Below w.heap.size w wa) := Lib.hid ⟨hsa, hba⟩
 have HE := Lib.hid hwa
 clear hcl hsa hba hwa H
 go_enter Tryz.func15, Tryz.ntmps15
 go_wp2_with fail
 rw [HE.out]
 refine cV.out.mono ?_
 rintro e w1 ⟨rfl, hb1⟩
 obtain ⟨w2, hw2⟩ : ∃ X, w1.alloc (.cells #[.int .i64 vk, .int .i64 vn, .complex .f64 (nr vre) (nr vim)] 43) = X := ⟨_, rfl⟩
 have HSB := Lib.hid (sb_of HBXS.out HSA.out.1 hb1 [.int .i64 vk, .int .i64 vn, .complex .f64 (nr vre) (nr vim)] _ hw2)
 have HB2 : Hid (Below w.heap.size w w2) := Lib.hid (by
  have h1 : Below w.heap.size w w1 := HSA.out.2.trans (hb1.mono HSA.out.2.size)
  rw [← hw2]
  exact h1.trans ((bl_one _).mono h1.size))
 have hs2 : z + 5 ≤ w2.heap.size := by
  have h1 := hb1.size
  have h2 := HSA.out.1
  rw [← hw2]
  simp
  omega
 have HZ2 := Lib.hid hs2
 obtain ⟨y, hy⟩ : ∃ y, w1.heap.size = y := ⟨_, rfl⟩
 rw [hy] at HSB
 have HM2 := Lib.hid (HM0.out.on ((Kp.refl (fun _ => False) w).ofBelow HB2.out))
 have a0 := HSB.out.co.at_ 0 _ rfl
 have a1 := HSB.out.co.at_ 1 _ rfl
 have d3 := HSB.out.cm.at_ 3 _ rfl
 have v0 := HSB.out.cv.at_ 0 _ rfl
 have v1 := HSB.out.cv.at_ 1 _ rfl
 have v2 := HSB.out.cv.at_ 2 _ rfl
 clear o2 o3 o4 o5 cV hb1 HE HBXS hs2
 have t0 : (k.tmod 8 == 0) = false := by simp [hk]
 have t1 : (k.tmod 8 == 1) = false := by simp [hk]
 have t2 : (k.tmod 8 == 2) = false := by simp [hk]
 have t3 : (k.tmod 8 == 3) = false := by simp [hk]
 have t4 : (k.tmod 8 == 4) = false := by simp [hk]
 have t5 : (k.tmod 8 == 5) = false := by simp [hk]
 have t6 : (k.tmod 8 == 6) = true := by simp [hk]
 have F2 := HM2.out.fs
 have hm2 : m2 ≤ 1000 := by
  have h1 := HM2.out.mo.r2.len
  have h2 := HM2.out.fs.r14.len
  have h3 := HM2.out.hst
  omega
 have hm3 : m3 ≤ 1000 := by
  have h1 := HM2.out.mo.r3.lenc
  have h2 := HM2.out.fs.r15.len
  have h3 := HM2.out.hcs
  have h4 := congrArg List.length HM2.out.ab
  rw [List.length_map, List.length_map] at h4
  omega
 have cP := Lib.hid (fdefer_any g (g + 1) A15 n15 c15 cs nn B2 m2 k2 st w2 F2.e15 (F2.fz 15) F2.r15 (by omega) F2.lt (by have := HM2.out.hcs; omega) HM2.out.mo.r2.srcv (by omega))
 clear F2
 go_wp2_with fail
 refine cP.out.mono ?_
 rintro e w3 ⟨⟨u, rfl⟩, q, A', c', hqf, hql, hqc, hqr, hp⟩
 have hX : ∀ j, XB X0 z j → j < w2.heap.size := fun j hj => by have := XB.lt HMZ.out hj; have := HZ2.out; omega
 have hq3 : Rdv (fun j => Own g A13 A14 A' j ∨ XB X0 z j) w3 q.A q.n 3 (rowVl q.l) := hqr.mono fun j hj hO => by
  rcases hO with hO | hO
  ·rcases hO with e | e | e | e
   ·exact .inl (by rw [e]; exact HM2.out.fs.lt)
   ·exact .inl (HM2.out.fs.old (.inr (.inl e)))
   ·exact .inl (HM2.out.fs.old (.inr (.inr (.inl e))))
   ·exact .inr e
  ·exact .inl (hX j hO)
 have hqn : q.n ≤ 1000 := by
  have h1 := hqr.len
  have h2 := HM2.out.mo.r2.len
  rw [hql] at h1
  omega
 have HFS3 := Lib.hid (HM2.out.fs.cs hp.kp hp.ci hp.co hp.fz hp.row hp.nw hX (fun p hp' => by
  rcases List.mem_append.1 hp' with h | h
  ·exact .inl h
  ·rw [List.mem_singleton.1 h]; exact .inr hq3))
 have HMS3 := Lib.hid (ms_cs (F := fun _ => False) (S := fun _ => False) HM2.out.mo hp.kp hp.nw (k1 := k1) (k2 := k2) (k3 := k3) (cs := cs))
 have HPN := Lib.hid hp.nw
 have HQC : Hid ((q.n ≤ q.c ∧ q.c ≤ maxLen ∧ q.n ≤ 1000) ∧ q.ab = (nn, st)) := Lib.hid ⟨⟨hqc.1, hqc.2, hqn⟩, by unfold CW.ab; rw [hqf, hql]⟩
 have HB3 : Hid (Kp (Own g A13 A14 A15) w w3) := Lib.hid (((Kp.refl _ w).ofBelow HB2.out).trans (hp.kp.mono fun j _ h => h.elim .inl fun e => .inr (.inr (.inr e))))
 have HSB3 := Lib.hid (HSB.out.kp hp.kp fun j hj hS => hS.elim (fun e => by omega) fun e => by
  have := (row_ge HM0.out.fs.r15 e).2
  omega)
 have HZ3 : Hid (z + 5 ≤ w3.heap.size) := Lib.hid (by have := HZ2.out; have := hp.kp.size; omega)
 clear hp hX cP d3 v0 v1 v2 a0 a1 hw2 hy hqf hql hqc hqr hq3 hqn
 have HSRC := HMS3.out.r3.srcB
 have HONE := Lib.hid (one_cw ms)
 have HONE1 := Lib.hid (one_c nn B2 m2 k2)
 obtain ⟨i0, hi, hz0, hz1, hz2⟩ := info_parts info_wt
 have HQ : Hid (∀ W, Below w3.heap.size w3 W → W.cell? ⟨z, 4, none⟩ = some (.slice B3 m3 k3) ∧ W.cell? ⟨z + 2, 1, none⟩ = some (.int .i64 nn) ∧ W.cell? ⟨z, 3, none⟩ = some (.slice B2 m2 k2)) := Lib.hid fun W hW => by
  have h := HSB3.out.on hW
  exact ⟨h.cm.at_ 4 _ rfl, h.co.at_ 1 _ rfl, h.cm.at_ 3 _ rfl⟩
 go_wp2_with fail
 refine wp_region_piv (R := fun W => Below w3.heap.size w3 W) (pv := 12) (by kernel_rfl) ?_
 change wpAnyG _ _ _ _ _ _ _ _ _ (World.drew _)
 have hS0 : Below w3.heap.size w3 w3.drew := (Below.refl _ _).drew
 refine tkG 1 10 [3, 2, 1] rfl (by intro W hW; go_simp; first | done | rfl) hS0 ?_
 try go_simp
 refine tkG 2 10 [3, 2] rfl (by intro W hW; obtain ⟨h1, h2, h3⟩ := HQ.out W hW; go_simp; first | done | rfl) hS0 ?_
 try go_simp
 refine tkG 4 10 [9, 8, 5, 4] rfl (by intro W hW; go_simp; first | done | rfl) hS0 ?_
 try go_simp
 refine tkG 5 10 [9, 8, 5] rfl (by intro W hW; obtain ⟨h1, h2, h3⟩ := HQ.out W hW; go_simp; first | done | rfl) hS0 ?_
 try go_simp
 refine tkG 6 10 [9, 8, 7, 6] rfl (by intro W hW; go_simp; first | done | rfl) hS0 ?_
 try go_simp
 refine tkG 7 10 [9, 8, 7] rfl (by intro W hW; obtain ⟨h1, h2, h3⟩ := HQ.out W hW; go_simp; first | done | rfl) hS0 ?_
 try go_simp
 refine tkG 8 10 [9, 8] rfl (by intro W hW; go_simp; first | done | rfl) hS0 ?_
 try go_simp
 refine wpAnyG_two (i := 0) (j := 9) (by kernel_rfl) rfl rfl (fun K hK => ?_) (fun K hK => ?_)
 ·obtain ⟨p1, hp1⟩ : ∃ X, World.alloc w3.drew (.cells #[] 104) = X := ⟨_, rfl⟩
  obtain ⟨q1, hq1⟩ : ∃ X, (World.heap w3.drew).size = X := ⟨_, rfl⟩
  have R1 := Lib.hid (ApS.lit (e := 104) (sz := 2) (w0 := w3) (W := w3.drew) hS0)
  rw [hp1, hq1] at R1
  go_simp
  refine hK _ _ ⟨fun _ => R1.out.bl, ?_⟩; clear hK K
  clear hp1 hq1
  refine wpAnyG_two (i := 3) (j := 9) (by kernel_rfl) rfl rfl (fun K hK => ?_) (fun K hK => ?_)
  ·refine step_append_src _ rfl _ _ 49 rfl w3.heap.size 104 i0 (.agg #[.int .i64 0, .slice none 0 0]) 2 32 Tryz.underlying49 hi hz0 hz1 hz2 rfl (by decide) (.slice (some ⟨q1, 0, none⟩) 0 0) 0 [] ?qq1 R1.out.own B3 m3 k3 (rowC ms) ?qq2 (HSRC.out _ R1.out.bl) HONE.out (by unfold maxLen; omega) (by omega) R1.out.bl.size ?_
   case qq1 => go_simp
   case qq2 => go_simp
   intro v2 p2 hown hgrow hat
   obtain ⟨E2, e2, rfl, hR, hkp⟩ := R1.out.grow hown hgrow
   rw [List.nil_append, Nat.zero_add] at hR
   have R2 := Lib.hid hR
   have KP2 := Lib.hid hkp
   clear hown hgrow hat hR hkp
   try go_simp
   refine hK _ _ ⟨fun _ => R2.out.bl, ?_⟩; clear hK K
   refine wpAnyG_one (i := 9) (by kernel_rfl) rfl (fun K hK => ?_)
   obtain ⟨p3, hp3⟩ : ∃ X, World.alloc p2 (.cells #[.int .i64 nn, .slice B2 m2 k2] 104) = X := ⟨_, rfl⟩
   obtain ⟨q3, hq3⟩ : ∃ X, (World.heap p2).size = X := ⟨_, rfl⟩
   have V3 := Lib.hid (ApV.new (e := 104) (sz := 2) (w0 := w3) (W := p2) R2.out.bl [.int .i64 nn, .slice B2 m2 k2] rfl E2 (fun j hj => (row_ge R2.out.row hj).2))
   rw [hp3, hq3] at V3
   have R3 := Lib.hid (R2.out.on (bl_one (.cells #[.int .i64 nn, .slice B2 m2 k2] 104)))
   rw [hp3] at R3
   go_simp
   refine hK _ _ ⟨fun _ => V3.out.bl, ?_⟩; clear hK K
   clear hp3 hq3
   refine wpAnyG_one (i := 10) (by kernel_rfl) rfl (fun K hK => ?_)
   refine step_append_src _ rfl _ _ 49 rfl w3.heap.size 104 i0 (.agg #[.int .i64 0, .slice none 0 0]) 2 32 Tryz.underlying49 hi hz0 hz1 hz2 rfl (by decide) _ m3 _ ?qq1 R3.out.own (some ⟨q3, 0, none⟩) 1 1 _ ?qq2 V3.out.src HONE1.out (by unfold maxLen; omega) (by omega) R3.out.bl.size ?_
   case qq1 => go_simp
   case qq2 => go_simp
   intro v4 p4 hown hgrow hat
   obtain ⟨E4, e4, rfl, hR, hkp⟩ := R3.out.grow hown hgrow
   have R4 := Lib.hid hR
   clear hown hgrow hat hR hkp
   try go_simp
   refine hK _ _ ⟨fun _ => R4.out.bl, ?_⟩; clear hK K
   have HSB6 := Lib.hid (HSB3.out.on R4.out.bl)
   have d4 := HSB6.out.cm.at_ 4 _ rfl
   have f4 := HSB6.out.cm.fz 4 (by simp)
   have HFM : Hid (FM (XB X0 z) (p4.setCell ⟨z, 4, none⟩ (.slice E4 (m3 + 1) e4)) g fno pc s b A0 n0 c0 A1 n1 c1 A2 n2 c2 A3 n3 c3 A4 n4 c4 A5 n5 c5 A6 n6 c6 A7 n7 c7 A8 n8 c8 M (K + 1) A13 m13 c13 A14 n14 c14 A' (n15 + 1) c' B1 m1 k1 B2 m2 k2 E4 (m3 + 1) e4 sl st (cs ++ [q]) (ms ++ [⟨nn, B2, m2, k2, st⟩])) := Lib.hid (by
    have hk : Kp (Bx z) p4 (p4.setCell ⟨z, 4, none⟩ (.slice E4 (m3 + 1) e4)) := Kp.setCell (S := Bx z) (Kp.refl _ _) (p := ⟨z, 4, none⟩) (fun _ => ⟨Nat.le_refl _, by show z < z + 4; omega⟩) _
    have r3 : Rdv (fun j => Own g A13 A14 A' j ∨ XB X0 z j) p4 E4 (m3 + 1) 2 (rowC (ms ++ [⟨nn, B2, m2, k2, st⟩])) := by
     rw [rowC_snoc]
     exact Rdv.ap R4.out fun j hj hO => hO.elim (fun hO => by have := HFS3.out.old hO; omega) fun hb => by have := XB.lt HMZ.out hb; have := HZ3.out; omega
    have hmo := HMS3.out.kp ((Kp.refl (fun _ => False) w3).ofBelow R4.out.bl) fun _ _ h => h.elim
    have hs : ∀ j, j < (World.heap p4).size → Bx z j → Own g A13 A14 A' j ∨ XB X0 z j := fun _ _ h => .inr (.inr h)
    have F := HM2.out
    exact ⟨(HFS3.out.on R4.out.bl).far (hk.mono fun _ _ => .inr), ⟨hmo.r1.kp hk hs, hmo.r2.kp hk hs, r3.kp hk hs, fun p hp => by
     rcases List.mem_append.1 hp with h | h
     ·exact (hmo.args p h).kp hk hs
     ·rw [List.mem_singleton.1 h]; exact hmo.r2.kp hk hs⟩, by rw [List.map_append, List.map_append, F.ab]; simp only [List.map_cons, List.map_nil, HQC.out.2]; rfl, F.hM, by have := F.hst; omega, by have := F.hcs; omega, F.q1, F.q2, R4.out.caps, fun p hp => by
     rcases List.mem_append.1 hp with h | h
     ·exact F.aw p h
     ·rw [List.mem_singleton.1 h]; exact ⟨F.q2.1, F.q2.2, hm2⟩, fun p hp => by
     rcases List.mem_append.1 hp with h | h
     ·exact F.cw p h
     ·rw [List.mem_singleton.1 h]; exact HQC.out.1, F.z1, F.z2⟩)
   have HB6 : Hid (Kp (Own g A13 A14 A15) w (p4.setCell ⟨z, 4, none⟩ (.slice E4 (m3 + 1) e4))) := Lib.hid (kpo hz HB3.out (Bx.put0 4 ((Kp.refl (Bx z) w3).ofBelow R4.out.bl) (.slice E4 (m3 + 1) e4)) fun j hj => hj.1)
   have HSB8 := Lib.hid (HSB6.out.put 4 (by simp) (.slice E4 (m3 + 1) e4))
   refine wpAnyG_one (i := 11) (by kernel_rfl) rfl (fun K hK => ?_)
   go_simp
   refine hK _ _ ⟨fun _ => R4.out.bl, ?_⟩; clear hK K
   refine wpAnyG_oneL (i := 12) (by kernel_rfl) rfl (by kernel_rfl) (fun K hK => ?_)
   go_simp
   refine hK _ _ ?_; clear hK K
   obtain ⟨w8, hw8⟩ : ∃ X, World.setCell p4 ⟨z, 4, none⟩ (.slice E4 (m3 + 1) e4) = X := ⟨_, rfl⟩
   rw [hw8] at HSB8 HFM HB6 ⊢
   refine wpAnyG_done (by kernel_rfl) ?_ _
   have HFIN : Hid (∀ wf, Kp (Bx z) w8 wf → IsStep X0 g fno s b A0 n0 c0 A1 n1 c1 A2 n2 c2 A3 n3 c3 A4 n4 c4 A5 n5 c5 A6 n6 c6 A7 n7 c7 A8 n8 c8 M K (Own g A13 A14 A15) w (.returned (.tuple #[mdV fno pc B1 m1 k1 B2 m2 k2 E4 (m3 + 1) e4, .bool true])) wf) := Lib.hid fun wf hk => step_fin hz hgz (own_cs HPN.out (by have := HZ2.out; omega)) HFM.out HB6.out hk
   clear d4 f4 hw8
   have x0 := HSB8.out.cz.at_ 0 _ rfl
   have f0 := HSB8.out.cz.fz 0 (by simp)
   have x1 := HSB8.out.cz.at_ 1 _ rfl
   have f1 := HSB8.out.cz.fz 1 (by simp)
   have x2 := HSB8.out.cz.at_ 2 _ rfl
   have f2 := HSB8.out.cz.fz 2 (by simp)
   have x3 := HSB8.out.cz.at_ 3 _ rfl
   have f3 := HSB8.out.cz.fz 3 (by simp)
   have x4 := HSB8.out.cz.at_ 4 _ rfl
   have f4 := HSB8.out.cz.fz 4 (by simp)
   have d0 := HSB8.out.cm.at_ 0 _ rfl
   have d1 := HSB8.out.cm.at_ 1 _ rfl
   have d2 := HSB8.out.cm.at_ 2 _ rfl
   have d3 := HSB8.out.cm.at_ 3 _ rfl
   have d4 := HSB8.out.cm.at_ 4 _ rfl
   try go_simp
   go_wp2_with fail
   exact bodyPost_ret (v := .tuple #[mdV fno pc B1 m1 k1 B2 m2 k2 E4 (m3 + 1) e4, .bool true]) (by simp [results, Tryz.results15, go_sem, x0, x1, x2, x3, x4]) rfl (HFIN.out _ (by repeat (first | exact Kp.refl _ _ | (refine Bx.put _ ?_ _) | (refine Bx.put0 _ ?_ _))))
  ·obtain ⟨p2, hp2⟩ : ∃ X, World.alloc p1 (.cells #[.int .i64 nn, .slice B2 m2 k2] 104) = X := ⟨_, rfl⟩
   obtain ⟨q2, hq2⟩ : ∃ X, (World.heap p1).size = X := ⟨_, rfl⟩
   have V2 := Lib.hid (ApV.new (e := 104) (sz := 2) (w0 := w3) (W := p1) R1.out.bl [.int .i64 nn, .slice B2 m2 k2] rfl (some ⟨q1, 0, none⟩) (fun j hj => (row_ge R1.out.row hj).2))
   rw [hp2, hq2] at V2
   have R2 := Lib.hid (R1.out.on (bl_one (.cells #[.int .i64 nn, .slice B2 m2 k2] 104)))
   rw [hp2] at R2
   go_simp
   refine hK _ _ ⟨fun _ => V2.out.bl, ?_⟩; clear hK K
   clear hp2 hq2
   refine wpAnyG_one (i := 3) (by kernel_rfl) rfl (fun K hK => ?_)
   refine step_append_src _ rfl _ _ 49 rfl w3.heap.size 104 i0 (.agg #[.int .i64 0, .slice none 0 0]) 2 32 Tryz.underlying49 hi hz0 hz1 hz2 rfl (by decide) (.slice (some ⟨q1, 0, none⟩) 0 0) 0 [] ?qq1 R2.out.own B3 m3 k3 (rowC ms) ?qq2 (HSRC.out _ R2.out.bl) HONE.out (by unfold maxLen; omega) (by omega) R2.out.bl.size ?_
   case qq1 => go_simp
   case qq2 => go_simp
   intro v3 p3 hown hgrow hat
   obtain ⟨E3, e3, rfl, hR, hkp⟩ := R2.out.grow hown hgrow
   rw [List.nil_append, Nat.zero_add] at hR
   have R3 := Lib.hid hR
   have KP3 := Lib.hid hkp
   clear hown hgrow hat hR hkp
   try go_simp
   refine hK _ _ ⟨fun _ => R3.out.bl, ?_⟩; clear hK K
   have V3 := Lib.hid (V2.out.on KP3.out R2.out.ge)
   refine wpAnyG_one (i := 10) (by kernel_rfl) rfl (fun K hK => ?_)
   refine step_append_src _ rfl _ _ 49 rfl w3.heap.size 104 i0 (.agg #[.int .i64 0, .slice none 0 0]) 2 32 Tryz.underlying49 hi hz0 hz1 hz2 rfl (by decide) _ m3 _ ?qq1 R3.out.own (some ⟨q2, 0, none⟩) 1 1 _ ?qq2 V3.out.src HONE1.out (by unfold maxLen; omega) (by omega) R3.out.bl.size ?_
   case qq1 => go_simp
   case qq2 => go_simp
   intro v4 p4 hown hgrow hat
   obtain ⟨E4, e4, rfl, hR, hkp⟩ := R3.out.grow hown hgrow
   have R4 := Lib.hid hR
   clear hown hgrow hat hR hkp
   try go_simp
   refine hK _ _ ⟨fun _ => R4.out.bl, ?_⟩; clear hK K
   have HSB6 := Lib.hid (HSB3.out.on R4.out.bl)
   have d4 := HSB6.out.cm.at_ 4 _ rfl
   have f4 := HSB6.out.cm.fz 4 (by simp)
   have HFM : Hid (FM (XB X0 z) (p4.setCell ⟨z, 4, none⟩ (.slice E4 (m3 + 1) e4)) g fno pc s b A0 n0 c0 A1 n1 c1 A2 n2 c2 A3 n3 c3 A4 n4 c4 A5 n5 c5 A6 n6 c6 A7 n7 c7 A8 n8 c8 M (K + 1) A13 m13 c13 A14 n14 c14 A' (n15 + 1) c' B1 m1 k1 B2 m2 k2 E4 (m3 + 1) e4 sl st (cs ++ [q]) (ms ++ [⟨nn, B2, m2, k2, st⟩])) := Lib.hid (by
    have hk : Kp (Bx z) p4 (p4.setCell ⟨z, 4, none⟩ (.slice E4 (m3 + 1) e4)) := Kp.setCell (S := Bx z) (Kp.refl _ _) (p := ⟨z, 4, none⟩) (fun _ => ⟨Nat.le_refl _, by show z < z + 4; omega⟩) _
    have r3 : Rdv (fun j => Own g A13 A14 A' j ∨ XB X0 z j) p4 E4 (m3 + 1) 2 (rowC (ms ++ [⟨nn, B2, m2, k2, st⟩])) := by
     rw [rowC_snoc]
     exact Rdv.ap R4.out fun j hj hO => hO.elim (fun hO => by have := HFS3.out.old hO; omega) fun hb => by have := XB.lt HMZ.out hb; have := HZ3.out; omega
    have hmo := HMS3.out.kp ((Kp.refl (fun _ => False) w3).ofBelow R4.out.bl) fun _ _ h => h.elim
    have hs : ∀ j, j < (World.heap p4).size → Bx z j → Own g A13 A14 A' j ∨ XB X0 z j := fun _ _ h => .inr (.inr h)
    have F := HM2.out
    exact ⟨(HFS3.out.on R4.out.bl).far (hk.mono fun _ _ => .inr), ⟨hmo.r1.kp hk hs, hmo.r2.kp hk hs, r3.kp hk hs, fun p hp => by
     rcases List.mem_append.1 hp with h | h
     ·exact (hmo.args p h).kp hk hs
     ·rw [List.mem_singleton.1 h]; exact hmo.r2.kp hk hs⟩, by rw [List.map_append, List.map_append, F.ab]; simp only [List.map_cons, List.map_nil, HQC.out.2]; rfl, F.hM, by have := F.hst; omega, by have := F.hcs; omega, F.q1, F.q2, R4.out.caps, fun p hp => by
     rcases List.mem_append.1 hp with h | h
     ·exact F.aw p h
     ·rw [List.mem_singleton.1 h]; exact ⟨F.q2.1, F.q2.2, hm2⟩, fun p hp => by
     rcases List.mem_append.1 hp with h | h
     ·exact F.cw p h
     ·rw [List.mem_singleton.1 h]; exact HQC.out.1, F.z1, F.z2⟩)
   have HB6 : Hid (Kp (Own g A13 A14 A15) w (p4.setCell ⟨z, 4, none⟩ (.slice E4 (m3 + 1) e4))) := Lib.hid (kpo hz HB3.out (Bx.put0 4 ((Kp.refl (Bx z) w3).ofBelow R4.out.bl) (.slice E4 (m3 + 1) e4)) fun j hj => hj.1)
   have HSB8 := Lib.hid (HSB6.out.put 4 (by simp) (.slice E4 (m3 + 1) e4))
   refine wpAnyG_one (i := 11) (by kernel_rfl) rfl (fun K hK => ?_)
   go_simp
   refine hK _ _ ⟨fun _ => R4.out.bl, ?_⟩; clear hK K
   refine wpAnyG_oneL (i := 12) (by kernel_rfl) rfl (by kernel_rfl) (fun K hK => ?_)
   go_simp
   refine hK _ _ ?_; clear hK K
   obtain ⟨w8, hw8⟩ : ∃ X, World.setCell p4 ⟨z, 4, none⟩ (.slice E4 (m3 + 1) e4) = X := ⟨_, rfl⟩
   rw [hw8] at HSB8 HFM HB6 ⊢
   refine wpAnyG_done (by kernel_rfl) ?_ _
   have HFIN : Hid (∀ wf, Kp (Bx z) w8 wf → IsStep X0 g fno s b A0 n0 c0 A1 n1 c1 A2 n2 c2 A3 n3 c3 A4 n4 c4 A5 n5 c5 A6 n6 c6 A7 n7 c7 A8 n8 c8 M K (Own g A13 A14 A15) w (.returned (.tuple #[mdV fno pc B1 m1 k1 B2 m2 k2 E4 (m3 + 1) e4, .bool true])) wf) := Lib.hid fun wf hk => step_fin hz hgz (own_cs HPN.out (by have := HZ2.out; omega)) HFM.out HB6.out hk
   clear d4 f4 hw8
   have x0 := HSB8.out.cz.at_ 0 _ rfl
   have f0 := HSB8.out.cz.fz 0 (by simp)
   have x1 := HSB8.out.cz.at_ 1 _ rfl
   have f1 := HSB8.out.cz.fz 1 (by simp)
   have x2 := HSB8.out.cz.at_ 2 _ rfl
   have f2 := HSB8.out.cz.fz 2 (by simp)
   have x3 := HSB8.out.cz.at_ 3 _ rfl
   have f3 := HSB8.out.cz.fz 3 (by simp)
   have x4 := HSB8.out.cz.at_ 4 _ rfl
   have f4 := HSB8.out.cz.fz 4 (by simp)
   have d0 := HSB8.out.cm.at_ 0 _ rfl
   have d1 := HSB8.out.cm.at_ 1 _ rfl
   have d2 := HSB8.out.cm.at_ 2 _ rfl
   have d3 := HSB8.out.cm.at_ 3 _ rfl
   have d4 := HSB8.out.cm.at_ 4 _ rfl
   try go_simp
   go_wp2_with fail
   exact bodyPost_ret (v := .tuple #[mdV fno pc B1 m1 k1 B2 m2 k2 E4 (m3 + 1) e4, .bool true]) (by simp [results, Tryz.results15, go_sem, x0, x1, x2, x3, x4]) rfl (HFIN.out _ (by repeat (first | exact Kp.refl _ _ | (refine Bx.put _ ?_ _) | (refine Bx.put0 _ ?_ _))))
 ·obtain ⟨p1, hp1⟩ : ∃ X, World.alloc w3.drew (.cells #[.int .i64 nn, .slice B2 m2 k2] 104) = X := ⟨_, rfl⟩
  obtain ⟨q1, hq1⟩ : ∃ X, (World.heap w3.drew).size = X := ⟨_, rfl⟩
  have V1 := Lib.hid (ApV.new (e := 104) (sz := 2) (w0 := w3) (W := w3.drew) hS0 [.int .i64 nn, .slice B2 m2 k2] rfl none (fun j hj => (by cases hj)))
  rw [hp1, hq1] at V1
  go_simp
  refine hK _ _ ⟨fun _ => V1.out.bl, ?_⟩; clear hK K
  clear hp1 hq1
  refine wpAnyG_one (i := 0) (by kernel_rfl) rfl (fun K hK => ?_)
  obtain ⟨p2, hp2⟩ : ∃ X, World.alloc p1 (.cells #[] 104) = X := ⟨_, rfl⟩
  obtain ⟨q2, hq2⟩ : ∃ X, (World.heap p1).size = X := ⟨_, rfl⟩
  have R2 := Lib.hid (ApS.lit (e := 104) (sz := 2) (w0 := w3) (W := p1) V1.out.bl)
  rw [hp2, hq2] at R2
  go_simp
  refine hK _ _ ⟨fun _ => R2.out.bl, ?_⟩; clear hK K
  have V2 := Lib.hid (V1.out.turn (bl_one (.cells #[] 104)) (A' := some ⟨q2, 0, none⟩) (by have h1 := V1.out.lt.2; intro e; injection e with e; injection e with e; omega))
  rw [hp2] at V2
  clear hp2 hq2
  refine wpAnyG_one (i := 3) (by kernel_rfl) rfl (fun K hK => ?_)
  refine step_append_src _ rfl _ _ 49 rfl w3.heap.size 104 i0 (.agg #[.int .i64 0, .slice none 0 0]) 2 32 Tryz.underlying49 hi hz0 hz1 hz2 rfl (by decide) (.slice (some ⟨q2, 0, none⟩) 0 0) 0 [] ?qq1 R2.out.own B3 m3 k3 (rowC ms) ?qq2 (HSRC.out _ R2.out.bl) HONE.out (by unfold maxLen; omega) (by omega) R2.out.bl.size ?_
  case qq1 => go_simp
  case qq2 => go_simp
  intro v3 p3 hown hgrow hat
  obtain ⟨E3, e3, rfl, hR, hkp⟩ := R2.out.grow hown hgrow
  rw [List.nil_append, Nat.zero_add] at hR
  have R3 := Lib.hid hR
  have KP3 := Lib.hid hkp
  clear hown hgrow hat hR hkp
  try go_simp
  refine hK _ _ ⟨fun _ => R3.out.bl, ?_⟩; clear hK K
  have V3 := Lib.hid (V2.out.on KP3.out R2.out.ge)
  refine wpAnyG_one (i := 10) (by kernel_rfl) rfl (fun K hK => ?_)
  refine step_append_src _ rfl _ _ 49 rfl w3.heap.size 104 i0 (.agg #[.int .i64 0, .slice none 0 0]) 2 32 Tryz.underlying49 hi hz0 hz1 hz2 rfl (by decide) _ m3 _ ?qq1 R3.out.own (some ⟨q1, 0, none⟩) 1 1 _ ?qq2 V3.out.src HONE1.out (by unfold maxLen; omega) (by omega) R3.out.bl.size ?_
  case qq1 => go_simp
  case qq2 => go_simp
  intro v4 p4 hown hgrow hat
  obtain ⟨E4, e4, rfl, hR, hkp⟩ := R3.out.grow hown hgrow
  have R4 := Lib.hid hR
  clear hown hgrow hat hR hkp
  try go_simp
  refine hK _ _ ⟨fun _ => R4.out.bl, ?_⟩; clear hK K
  have HSB6 := Lib.hid (HSB3.out.on R4.out.bl)
  have d4 := HSB6.out.cm.at_ 4 _ rfl
  have f4 := HSB6.out.cm.fz 4 (by simp)
  have HFM : Hid (FM (XB X0 z) (p4.setCell ⟨z, 4, none⟩ (.slice E4 (m3 + 1) e4)) g fno pc s b A0 n0 c0 A1 n1 c1 A2 n2 c2 A3 n3 c3 A4 n4 c4 A5 n5 c5 A6 n6 c6 A7 n7 c7 A8 n8 c8 M (K + 1) A13 m13 c13 A14 n14 c14 A' (n15 + 1) c' B1 m1 k1 B2 m2 k2 E4 (m3 + 1) e4 sl st (cs ++ [q]) (ms ++ [⟨nn, B2, m2, k2, st⟩])) := Lib.hid (by
   have hk : Kp (Bx z) p4 (p4.setCell ⟨z, 4, none⟩ (.slice E4 (m3 + 1) e4)) := Kp.setCell (S := Bx z) (Kp.refl _ _) (p := ⟨z, 4, none⟩) (fun _ => ⟨Nat.le_refl _, by show z < z + 4; omega⟩) _
   have r3 : Rdv (fun j => Own g A13 A14 A' j ∨ XB X0 z j) p4 E4 (m3 + 1) 2 (rowC (ms ++ [⟨nn, B2, m2, k2, st⟩])) := by
    rw [rowC_snoc]
    exact Rdv.ap R4.out fun j hj hO => hO.elim (fun hO => by have := HFS3.out.old hO; omega) fun hb => by have := XB.lt HMZ.out hb; have := HZ3.out; omega
   have hmo := HMS3.out.kp ((Kp.refl (fun _ => False) w3).ofBelow R4.out.bl) fun _ _ h => h.elim
   have hs : ∀ j, j < (World.heap p4).size → Bx z j → Own g A13 A14 A' j ∨ XB X0 z j := fun _ _ h => .inr (.inr h)
   have F := HM2.out
   exact ⟨(HFS3.out.on R4.out.bl).far (hk.mono fun _ _ => .inr), ⟨hmo.r1.kp hk hs, hmo.r2.kp hk hs, r3.kp hk hs, fun p hp => by
    rcases List.mem_append.1 hp with h | h
    ·exact (hmo.args p h).kp hk hs
    ·rw [List.mem_singleton.1 h]; exact hmo.r2.kp hk hs⟩, by rw [List.map_append, List.map_append, F.ab]; simp only [List.map_cons, List.map_nil, HQC.out.2]; rfl, F.hM, by have := F.hst; omega, by have := F.hcs; omega, F.q1, F.q2, R4.out.caps, fun p hp => by
    rcases List.mem_append.1 hp with h | h
    ·exact F.aw p h
    ·rw [List.mem_singleton.1 h]; exact ⟨F.q2.1, F.q2.2, hm2⟩, fun p hp => by
    rcases List.mem_append.1 hp with h | h
    ·exact F.cw p h
    ·rw [List.mem_singleton.1 h]; exact HQC.out.1, F.z1, F.z2⟩)
  have HB6 : Hid (Kp (Own g A13 A14 A15) w (p4.setCell ⟨z, 4, none⟩ (.slice E4 (m3 + 1) e4))) := Lib.hid (kpo hz HB3.out (Bx.put0 4 ((Kp.refl (Bx z) w3).ofBelow R4.out.bl) (.slice E4 (m3 + 1) e4)) fun j hj => hj.1)
  have HSB8 := Lib.hid (HSB6.out.put 4 (by simp) (.slice E4 (m3 + 1) e4))
  refine wpAnyG_one (i := 11) (by kernel_rfl) rfl (fun K hK => ?_)
  go_simp
  refine hK _ _ ⟨fun _ => R4.out.bl, ?_⟩; clear hK K
  refine wpAnyG_oneL (i := 12) (by kernel_rfl) rfl (by kernel_rfl) (fun K hK => ?_)
  go_simp
  refine hK _ _ ?_; clear hK K
  obtain ⟨w8, hw8⟩ : ∃ X, World.setCell p4 ⟨z, 4, none⟩ (.slice E4 (m3 + 1) e4) = X := ⟨_, rfl⟩
  rw [hw8] at HSB8 HFM HB6 ⊢
  refine wpAnyG_done (by kernel_rfl) ?_ _
  have HFIN : Hid (∀ wf, Kp (Bx z) w8 wf → IsStep X0 g fno s b A0 n0 c0 A1 n1 c1 A2 n2 c2 A3 n3 c3 A4 n4 c4 A5 n5 c5 A6 n6 c6 A7 n7 c7 A8 n8 c8 M K (Own g A13 A14 A15) w (.returned (.tuple #[mdV fno pc B1 m1 k1 B2 m2 k2 E4 (m3 + 1) e4, .bool true])) wf) := Lib.hid fun wf hk => step_fin hz hgz (own_cs HPN.out (by have := HZ2.out; omega)) HFM.out HB6.out hk
  clear d4 f4 hw8
  have x0 := HSB8.out.cz.at_ 0 _ rfl
  have f0 := HSB8.out.cz.fz 0 (by simp)
  have x1 := HSB8.out.cz.at_ 1 _ rfl
  have f1 := HSB8.out.cz.fz 1 (by simp)
  have x2 := HSB8.out.cz.at_ 2 _ rfl
  have f2 := HSB8.out.cz.fz 2 (by simp)
  have x3 := HSB8.out.cz.at_ 3 _ rfl
  have f3 := HSB8.out.cz.fz 3 (by simp)
  have x4 := HSB8.out.cz.at_ 4 _ rfl
  have f4 := HSB8.out.cz.fz 4 (by simp)
  have d0 := HSB8.out.cm.at_ 0 _ rfl
  have d1 := HSB8.out.cm.at_ 1 _ rfl
  have d2 := HSB8.out.cm.at_ 2 _ rfl
  have d3 := HSB8.out.cm.at_ 3 _ rfl
  have d4 := HSB8.out.cm.at_ 4 _ rfl
  try go_simp
  go_wp2_with fail
  exact bodyPost_ret (v := .tuple #[mdV fno pc B1 m1 k1 B2 m2 k2 E4 (m3 + 1) e4, .bool true]) (by simp [results, Tryz.results15, go_sem, x0, x1, x2, x3, x4]) rfl (HFIN.out _ (by repeat (first | exact Kp.refl _ _ | (refine Bx.put _ ?_ _) | (refine Bx.put0 _ ?_ _))))
end Go.Proofs.YtobmjnmcjddhcaaGreat

namespace Go.Proofs.YtobmjnmcjddhcaaGreat
open Go.RowKit
attribute [local go_sem] run_store_cplx
theorem fstep_5 (X0 : Nat → Prop) (g : Nat) (fno pc : Int) (s : ByteArray) (b : Bool) (A0 : Option Addr) (n0 c0 : Nat) (A1 : Option Addr) (n1 c1 : Nat) (A2 : Option Addr) (n2 c2 : Nat) (A3 : Option Addr) (n3 c3 : Nat) (A4 : Option Addr) (n4 c4 : Nat) (A5 : Option Addr) (n5 c5 : Nat) (A6 : Option Addr) (n6 c6 : Nat) (A7 : Option Addr) (n7 c7 : Nat) (A8 : Option Addr) (n8 c8 : Nat) (M K : Nat) (A13 : Option Addr) (m13 c13 : Nat) (A14 : Option Addr) (n14 c14 : Nat) (A15 : Option Addr) (n15 c15 : Nat) (B1 : Option Addr) (m1 k1 : Nat) (B2 : Option Addr) (m2 k2 : Nat) (B3 : Option Addr) (m3 k3 : Nat) (sl st : List DV) (cs ms : List CW) (k nn vk vn vre vim : Int) (w : World) (hmx : ∀ j, X0 j → j < w.heap.size) (H : FM X0 w g fno pc s b A0 n0 c0 A1 n1 c1 A2 n2 c2 A3 n3 c3 A4 n4 c4 A5 n5 c5 A6 n6 c6 A7 n7 c7 A8 n8 c8 M K A13 m13 c13 A14 n14 c14 A15 n15 c15 B1 m1 k1 B2 m2 k2 B3 m3 k3 sl st cs ms) (hK : K ≤ 1000) (hM : M ≤ 1000) (hn1 : n1 ≤ 1000 ∧ n2 ≤ 1000 ∧ n1 + n2 ≤ M) (wfk : (Lit.int .i64 k).wf = true) (wfn : (Lit.int .i64 nn).wf = true) (hk : k.tmod 8 = 5) :
  Calls Tryz.prog 15 #[.pointer (some ⟨g, 0, none⟩), mdV fno pc B1 m1 k1 B2 m2 k2 B3 m3 k3, .agg #[.string s, .bool b, .slice A0 n0 c0, .slice A1 n1 c1, .slice A2 n2 c2, .slice A3 n3 c3, .slice A4 n4 c4, .slice A5 n5 c5, .slice A6 n6 c6, .slice A7 n7 c7, .slice A8 n8 c8], .agg #[.int .i64 k, .int .i64 nn, .int .i64 vk, .int .i64 vn, .int .i64 vre, .int .i64 vim]] w (IsStep X0 g fno s b A0 n0 c0 A1 n1 c1 A2 n2 c2 A3 n3 c3 A4 n4 c4 A5 n5 c5 A6 n6 c6 A7 n7 c7 A8 n8 c8 M K (Own g A13 A14 A15) w) := by
 obtain ⟨z, hz⟩ : ∃ z, w.heap.size = z := ⟨_, rfl⟩
 obtain ⟨wa, hwa⟩ : ∃ X, (((w.alloc (.cells #[.int .i64 fno, .int .i64 pc, .slice B1 m1 k1, .slice B2 m2 k2, .slice B3 m3 k3] 51)).alloc (.cells #[.string s, .bool b, .slice A0 n0 c0, .slice A1 n1 c1, .slice A2 n2 c2, .slice A3 n3 c3, .slice A4 n4 c4, .slice A5 n5 c5, .slice A6 n6 c6, .slice A7 n7 c7, .slice A8 n8 c8] 38)).alloc (.cells #[.int .i64 k, .int .i64 nn, .int .i64 vk, .int .i64 vn, .int .i64 vre, .int .i64 vim] 56)).alloc (.cells #[.int .i64 0, .int .i64 0, .slice none 0 0, .slice none 0 0, .slice none 0 0] 51) = X := ⟨_, rfl⟩
 obtain ⟨hcl, hsa, hba⟩ := sb_new hz [.int .i64 fno, .int .i64 pc, .slice B1 m1 k1, .slice B2 m2 k2, .slice B3 m3 k3] [.string s, .bool b, .slice A0 n0 c0, .slice A1 n1 c1, .slice A2 n2 c2, .slice A3 n3 c3, .slice A4 n4 c4, .slice A5 n5 c5, .slice A6 n6 c6, .slice A7 n7 c7, .slice A8 n8 c8] [.int .i64 k, .int .i64 nn, .int .i64 vk, .int .i64 vn, .int .i64 vre, .int .i64 vim] [.int .i64 0, .int .i64 0, .slice none 0 0, .slice none 0 0, .slice none 0 0] _ _ _ _ hwa
 have hgz : g < z := by rw [← hz]; exact H.fs.lt
 have HMZ : Hid (∀ j, X0 j → j < z) := Lib.hid (by rw [← hz]; exact hmx)
 have o2 := hcl.2.2.1.at_ 2 _ rfl
 have o3 := hcl.2.2.1.at_ 3 _ rfl
 have o4 := hcl.2.2.1.at_ 4 _ rfl
 have o5 := hcl.2.2.1.at_ 5 _ rfl
 have cV := Lib.hid (value_any vk vn vre vim wa)
 have HM0 := Lib.hid (H.more hz)
 have HBXS := Lib.hid hcl
 have HSA : Hid (wa.heap.size = z + 4 ∧ Below w.heap.size w wa) := Lib.hid ⟨hsa, hba⟩
 have HE := Lib.hid hwa
 clear hcl hsa hba hwa H
 go_enter Tryz.func15, Tryz.ntmps15
 go_wp2_with fail
 rw [HE.out]
 refine cV.out.mono ?_
 rintro e w1 ⟨rfl, hb1⟩
 obtain ⟨w2, hw2⟩ : ∃ X, w1.alloc (.cells #[.int .i64 vk, .int .i64 vn, .complex .f64 (nr vre) (nr vim)] 43) = X := ⟨_, rfl⟩
 have HSB := Lib.hid (sb_of HBXS.out HSA.out.1 hb1 [.int .i64 vk, .int .i64 vn, .complex .f64 (nr vre) (nr vim)] _ hw2)
 have HB2 : Hid (Below w.heap.size w w2) := Lib.hid (by
  have h1 : Below w.heap.size w w1 := HSA.out.2.trans (hb1.mono HSA.out.2.size)
  rw [← hw2]
  exact h1.trans ((bl_one _).mono h1.size))
 have hs2 : z + 5 ≤ w2.heap.size := by
  have h1 := hb1.size
  have h2 := HSA.out.1
  rw [← hw2]
  simp
  omega
 have HZ2 := Lib.hid hs2
 obtain ⟨y, hy⟩ : ∃ y, w1.heap.size = y := ⟨_, rfl⟩
 rw [hy] at HSB
 have HM2 := Lib.hid (HM0.out.on ((Kp.refl (fun _ => False) w).ofBelow HB2.out))
 have a0 := HSB.out.co.at_ 0 _ rfl
 have a1 := HSB.out.co.at_ 1 _ rfl
 have d3 := HSB.out.cm.at_ 3 _ rfl
 have v0 := HSB.out.cv.at_ 0 _ rfl
 have v1 := HSB.out.cv.at_ 1 _ rfl
 have v2 := HSB.out.cv.at_ 2 _ rfl
 clear o2 o3 o4 o5 cV hb1 HE HBXS hs2
 have t0 : (k.tmod 8 == 0) = false := by simp [hk]
 have t1 : (k.tmod 8 == 1) = false := by simp [hk]
 have t2 : (k.tmod 8 == 2) = false := by simp [hk]
 have t3 : (k.tmod 8 == 3) = false := by simp [hk]
 have t4 : (k.tmod 8 == 4) = false := by simp [hk]
 have t5 : (k.tmod 8 == 5) = true := by simp [hk]
 have cP := Lib.hid (fgo_any g _ nn w2 HM2.out.fs.e12 (HM2.out.fs.fz 12))
 go_wp2_with fail
 refine cP.out.mono ?_
 rintro e w3' ⟨⟨u, rfl⟩, rfl⟩
 obtain ⟨w3, hw3⟩ : ∃ X, w2.setCell ⟨g, 12, none⟩ (.int .i64 nn) = X := ⟨_, rfl⟩
 have hk3 : Kp (fun j => j = g) w2 w3 := by rw [← hw3]; exact kp_set _ _ _ _
 have HSB8 := Lib.hid (HSB.out.kp hk3 fun j hj hS => by omega)
 have HFM : Hid (FM (XB X0 z) w3 g fno nn s b A0 n0 c0 A1 n1 c1 A2 n2 c2 A3 n3 c3 A4 n4 c4 A5 n5 c5 A6 n6 c6 A7 n7 c7 A8 n8 c8 M (K + 1) A13 m13 c13 A14 n14 c14 A15 n15 c15 B1 m1 k1 B2 m2 k2 B3 m3 k3 sl st cs ms) := Lib.hid (by
  have F := HM2.out
  have h1 := F.fs.pc nn
  rw [hw3] at h1
  exact ⟨h1, F.mo.kp hk3 fun j _ hS => .inl (.inl hS), F.ab, F.hM, by have := F.hst; omega, by have := F.hcs; omega, F.q1, F.q2, F.q3, F.aw, F.cw, F.z1, F.z2⟩)
 have HB6 : Hid (Kp (Own g A13 A14 A15) w w3) := Lib.hid (((Kp.refl _ w).ofBelow HB2.out).trans (hk3.mono fun j _ e => .inl e))
 rw [hw3]
 have HFIN : Hid (∀ wf, Kp (Bx z) w3 wf → IsStep X0 g fno s b A0 n0 c0 A1 n1 c1 A2 n2 c2 A3 n3 c3 A4 n4 c4 A5 n5 c5 A6 n6 c6 A7 n7 c7 A8 n8 c8 M K (Own g A13 A14 A15) w (.returned (.tuple #[mdV fno nn B1 m1 k1 B2 m2 k2 B3 m3 k3, .bool true])) wf) := Lib.hid fun wf hk => step_fin hz hgz (fun _ _ h => h) HFM.out HB6.out hk
 clear cP d3 v0 v1 v2 a0 a1 hw2 hy hw3 hk3
 have a1 := HSB8.out.co.at_ 1 _ rfl
 have g1 := HSB8.out.cm.fz 1 (by simp)
 have x0 := HSB8.out.cz.at_ 0 _ rfl
 have f0 := HSB8.out.cz.fz 0 (by simp)
 have x1 := HSB8.out.cz.at_ 1 _ rfl
 have f1 := HSB8.out.cz.fz 1 (by simp)
 have x2 := HSB8.out.cz.at_ 2 _ rfl
 have f2 := HSB8.out.cz.fz 2 (by simp)
 have x3 := HSB8.out.cz.at_ 3 _ rfl
 have f3 := HSB8.out.cz.fz 3 (by simp)
 have x4 := HSB8.out.cz.at_ 4 _ rfl
 have f4 := HSB8.out.cz.fz 4 (by simp)
 have d0 := HSB8.out.cm.at_ 0 _ rfl
 have d1 := HSB8.out.cm.at_ 1 _ rfl
 have d2 := HSB8.out.cm.at_ 2 _ rfl
 have d3 := HSB8.out.cm.at_ 3 _ rfl
 have d4 := HSB8.out.cm.at_ 4 _ rfl
 go_wp2_with fail
 exact bodyPost_ret (v := .tuple #[mdV fno nn B1 m1 k1 B2 m2 k2 B3 m3 k3, .bool true]) (by simp [results, Tryz.results15, go_sem, x0, x1, x2, x3, x4]) rfl (HFIN.out _ (by repeat (first | exact Kp.refl _ _ | (refine Bx.put _ ?_ _) | (refine Bx.put0 _ ?_ _))))
end Go.Proofs.YtobmjnmcjddhcaaGreat
