import Derived.Test.YtobmjnmcjddhcaaGreatCTk
import Derived.Test.YtobmjnmcjddhcaaGreatF1
set_option linter.unusedSimpArgs false
set_option linter.unusedVariables false
set_option maxRecDepth 100000
set_option maxHeartbeats 8000000
namespace Go.Proofs.YtobmjnmcjddhcaaGreat
open Go.RowKit
attribute [local go_sem] run_store_cplx
theorem fstep_2 (X0 : Nat → Prop) (g : Nat) (fno pc : Int) (s : ByteArray) (b : Bool) (A0 : Option Addr) (n0 c0 : Nat) (A1 : Option Addr) (n1 c1 : Nat) (A2 : Option Addr) (n2 c2 : Nat) (A3 : Option Addr) (n3 c3 : Nat) (A4 : Option Addr) (n4 c4 : Nat) (A5 : Option Addr) (n5 c5 : Nat) (A6 : Option Addr) (n6 c6 : Nat) (A7 : Option Addr) (n7 c7 : Nat) (A8 : Option Addr) (n8 c8 : Nat) (M K : Nat) (A13 : Option Addr) (m13 c13 : Nat) (A14 : Option Addr) (n14 c14 : Nat) (A15 : Option Addr) (n15 c15 : Nat) (B1 : Option Addr) (m1 k1 : Nat) (B2 : Option Addr) (m2 k2 : Nat) (B3 : Option Addr) (m3 k3 : Nat) (sl st : List DV) (cs ms : List CW) (k nn vk vn vre vim : Int) (w : World) (hmx : ∀ j, X0 j → j < w.heap.size) (H : FM X0 w g fno pc s b A0 n0 c0 A1 n1 c1 A2 n2 c2 A3 n3 c3 A4 n4 c4 A5 n5 c5 A6 n6 c6 A7 n7 c7 A8 n8 c8 M K A13 m13 c13 A14 n14 c14 A15 n15 c15 B1 m1 k1 B2 m2 k2 B3 m3 k3 sl st cs ms) (hK : K ≤ 1000) (hM : M ≤ 1000) (hn1 : n1 ≤ 1000 ∧ n2 ≤ 1000 ∧ n1 + n2 ≤ M) (wfk : (Lit.int .i64 k).wf = true) (wfn : (Lit.int .i64 nn).wf = true) (hk : k.tmod 8 = 2) :
  Calls Tryz.prog 15 #[.pointer (some ⟨g, 0, none⟩), mdV fno pc B1 m1 k1 B2 m2 k2 B3 m3 k3, .agg #[.string s, .bool b, .slice A0 n0 c0, .slice A1 n1 c1, .slice A2 n2 c2, .slice A3 n3 c3, .slice A4 n4 c4, .slice A5 n5 c5, .slice A6 n6 c6, .slice A7 n7 c7, .slice A8 n8 c8], .agg #[.int .i64 k, .int .i64 nn, .int .i64 vk, .int .i64 vn, .int .i64 vre, .int .i64 vim]] w (IsStep X0 g fno s b A0 n0 c0 A1 n1 c1 A2 n2 c2 A3 n3 c3 A4 n4 c4 A5 n5 c5 A6 n6 c6 A7 n7 c7 A8 n8 c8 M K (Own g A13 A14 A15) w) := by
 obtain ⟨z, hz⟩ : ∃ z, w.heap.size = z := ⟨_, rfl⟩
 obtain ⟨wa, hwa⟩ : ∃ X, (((w.alloc (.cells #[.int .i64 fno, .int .i64 pc, .slice B1 m1 k1, .slice B2 m2 k2, .slice B3 m3 k3] 51)).alloc (.cells #[.string s, .bool b, .slice A0 n0 c0, .slice A1 n1 c1, .slice A2 n2 c2, .slice A3 n3 c3, .slice A4 n4 c4, .slice A5 n5 c5, .slice A6 n6 c6, .slice A7 n7 c7, .slice A8 n8 c8] 38)).alloc (.cells #[.int .i64 k, .int .i64 nn, .int .i64 vk, .int .i64 vn, .int .i64 vre, .int .i64 vim] 56)).alloc (.cells #[.int .i64 0, .int .i64 0, .slice none 0 0, .slice none 0 0, .slice none 0 0] 51) = X := ⟨_, rfl⟩
 obtain ⟨hcl, hsa, hba⟩ := sb_new hz [.int .i64 fno, .int .i64 pc, .slice B1 m1 k1, .slice B2 m2 k2, .slice B3 m3 k3] [.string s, .bool b, .slice A0 n0 c0, .slice A1 n1 c1, .slice A2 n2 c2, .slice A3 n3 c3, .slice A4 n4 c4, .slice A5 n5 c5, .slice A6 n6 c6, .slice A7 n7 c7, .slice A8 n8 c8] [.int .i64 k, .int .i64 nn, .int .i64 vk, .int .i64 vn, .int .i64 vre, .int .i64 vim] [.int .i64 0, .int .i64 0, .slice none 0 0, .slice none 0 0, .slice none 0 0] _ _ _ _ hwa
 have hgz : g < z := by rw [← hz]; exact H.fs.lt
 have HMZ : Hid (∀ j, X0 j → j < z) := Lib.hid (by rw [← hz]; exact hmx)
 have o2 := hcl.2.2.1.at_ 2 _ rfl
 have o3 := hcl.2.2.1.at_ 3 _ rfl
 have o4 := hcl.2.2.1.at_ 4 _ rfl
 have o5 := hcl.2.2.1.at_ 5 _ rfl
 have cV := Lib.hid (value_any vk vn vre vim wa)
 have HM0 := Lib.hid (H.more hz)
 have HBXS := Lib.hid hcl
 have HSA : Hid (wa.heap.size = z + 4 ∧ Below w.heap.size w wa) := Lib.hid ⟨hsa, hba⟩
 have HE := Lib.hid hwa
 clear hcl hsa hba hwa H
 go_enter Tryz.func15, Tryz.ntmps15
 go_wp2_with fail
 rw [HE.out]
 refine cV.out.mono ?_
 rintro e w1 ⟨rfl, hb1⟩
 obtain ⟨w2, hw2⟩ : ∃ X, w1.alloc (.cells #[.int .i64 vk, .int .i64 vn, .complex .f64 (nr vre) (nr vim)] 43) = X := ⟨_, rfl⟩
 have HSB := Lib.hid (sb_of HBXS.out HSA.out.1 hb1 [.int .i64 vk, .int .i64 vn, .complex .f64 (nr vre) (nr vim)] _ hw2)
 have HB2 : Hid (Below w.heap.size w w2) := Lib.hid (by
  have h1 : Below w.heap.size w w1 := HSA.out.2.trans (hb1.mono HSA.out.2.size)
  rw [← hw2]
  exact h1.trans ((bl_one _).mono h1.size))
 have hs2 : z + 5 ≤ w2.heap.size := by
  have h1 := hb1.size
  have h2 := HSA.out.1
  rw [← hw2]
  simp
  omega
 have HZ2 := Lib.hid hs2
 obtain ⟨y, hy⟩ : ∃ y, w1.heap.size = y := ⟨_, rfl⟩
 rw [hy] at HSB
 have HM2 := Lib.hid (HM0.out.on ((Kp.refl (fun _ => False) w).ofBelow HB2.out))
 have a0 := HSB.out.co.at_ 0 _ rfl
 have a1 := HSB.out.co.at_ 1 _ rfl
 have d3 := HSB.out.cm.at_ 3 _ rfl
 have v0 := HSB.out.cv.at_ 0 _ rfl
 have v1 := HSB.out.cv.at_ 1 _ rfl
 have v2 := HSB.out.cv.at_ 2 _ rfl
 clear o2 o3 o4 o5 cV hb1 HE HBXS hs2
 have t0 : (k.tmod 8 == 0) = false := by simp [hk]
 have t1 : (k.tmod 8 == 1) = false := by simp [hk]
 have t2 : (k.tmod 8 == 2) = true := by simp [hk]
 have F2 := HM2.out.fs
 have hm2 : m2 = n14 := by
  have h1 := HM2.out.mo.r2.len
  have h2 := F2.r14.len
  omega
 subst hm2
 have hstl : st.length = m2 := HM2.out.mo.r2.len
 have hmk : m2 ≤ 1000 := by have := HM2.out.hst; omega
 have hmkc : m2 ≤ k2 := HM2.out.q2.1
 have cP := ftake_any g (g + 1) A14 m2 c14 st nn w2 F2.e14 (F2.fz 14) F2.r14 (by omega) (by omega) (by omega)
 clear F2
 have HAFT : Hid (∀ (kk left : Nat) (w3 : World) (A' : Option Addr) (c' : Nat), left + kk = m2 → Popped 14 g A14 left w2 w3 → w3.ownsRow w2.heap.size 43 3 (.slice A' kk c') kk (rowVl (st.drop left)) →
   SB w3 z y [.int .i64 fno, .int .i64 pc, .slice B1 m1 k1, .slice B2 m2 k2, .slice B3 m3 k3] [.string s, .bool b, .slice A0 n0 c0, .slice A1 n1 c1, .slice A2 n2 c2, .slice A3 n3 c3, .slice A4 n4 c4, .slice A5 n5 c5, .slice A6 n6 c6, .slice A7 n7 c7, .slice A8 n8 c8] [.int .i64 k, .int .i64 nn, .int .i64 vk, .int .i64 vn, .int .i64 vre, .int .i64 vim] [.int .i64 0, .int .i64 0, .slice none 0 0, .slice none 0 0, .slice none 0 0] [.int .i64 vk, .int .i64 vn, .complex .f64 (nr vre) (nr vim)] ∧ (Rdv (fun j => Bx z j) w3 A' kk 3 (rowVl (st.drop left)) ∧ kk ≤ c' ∧ c' ≤ maxLen) ∧ Rdv (fun j => Own g A13 A14 A15 j ∨ XB X0 z j) w3 B2 m2 3 (rowVl st) ∧ (∀ (w6 wf : World), Kp (Bx z) w3 w6 → Kp (Bx z) w6 wf → IsStep X0 g fno s b A0 n0 c0 A1 n1 c1 A2 n2 c2 A3 n3 c3 A4 n4 c4 A5 n5 c5 A6 n6 c6 A7 n7 c7 A8 n8 c8 M K (Own g A13 A14 A15) w (.returned (.tuple #[mdV fno pc B1 m1 k1 B2 left k2 B3 m3 k3, .bool true])) wf)) := Lib.hid fun kk left w3 A' c' hkl hp ho => by
  have hX : ∀ j, XB X0 z j → j < w2.heap.size := fun j hj => by have := XB.lt HMZ.out hj; have := HZ2.out; omega
  have hkp : Kp (fun j => j = g ∨ A14 = some ⟨j, 0, none⟩) w2 w3 := hp.kp.mono fun _ _ h => .inl h
  have hfs := HM2.out.fs.st hkp hp.ci hp.co hp.fz (RowV.cut (RowF.kp HM2.out.fs.r14 hp.kp fun j hj e => by have := (row_ge HM2.out.fs.r14 hj).1; omega) (by omega : left ≤ m2)) (Nw.rfl' _ _) hX
  have hms := ms_st (F := fun _ => False) (S := fun _ => False) HM2.out.mo hkp (Nw.rfl' _ _) (k1 := k1) (k2 := k2) (k3 := k3) (cs := cs)
  have hb3 : Kp (Own g A13 A14 A15) w w3 := ((Kp.refl _ w).ofBelow HB2.out).trans (hp.kp.mono fun j _ e => .inl e)
  have hz3 : z + 5 ≤ w3.heap.size := by have := HZ2.out; have := hp.kp.size; omega
  refine ⟨HSB.out.kp hp.kp fun j hj hS => by omega, ?_, hms.r2, fun w6 wf hk6 hk => ?_⟩
  ·exact ⟨Rdv.own ho fun j hj _ hb => by have := hb.2; have := HZ2.out; omega, (RowF.ofOwn ho).2.1, (RowF.ofOwn ho).2.2.1⟩
  ·have F := HM2.out
   have h1 := hfs.far (hk6.mono fun _ _ => .inr)
   have hmo := hms.kp hk6 fun _ _ h => .inr (.inr h)
   have hr2 := (hmo.r2.take (show left ≤ m2 by omega))
   rw [flat_take DV.c 3 DV.len] at hr2
   exact step_fin hz hgz (fun _ _ h => h) ⟨h1, ⟨hmo.r1, hr2, hmo.r3, hmo.args⟩, F.ab, F.hM, by have := F.hst; omega, by have := F.hcs; omega, F.q1, ⟨by have := F.q2.1; omega, F.q2.2⟩, F.q3, F.aw, F.cw, F.z1, F.z2⟩ (kpo hz hb3 hk6 fun q hq => hq.1) hk
 have HK2 := Lib.hid HM2.out.q2
 rcases (show B2 = none ∨ ∃ bb bo, B2 = some ⟨bb, bo, none⟩ by
  cases hB : B2 with
  | none => exact .inl rfl
  | some ad => obtain ⟨bb, bo, e, _⟩ := HM2.out.mo.r2.at_ ad hB; exact .inr ⟨bb, bo, by rw [e]⟩) with hB | ⟨bb, bo, hB⟩
 ·have hk0 := HM2.out.z2 hB
  have hm0 := HM2.out.mo.r2.src.2.1 hB
  subst hB hk0 hm0
  have hst0 : st = [] := List.eq_nil_of_length_eq_zero hstl
  have hk : topM 0 nn = 0 := by unfold topM; omega
  rw [hk] at cP
  by_cases hi : nn < 0
  ·have hmx : max nn 0 = 0 := by omega
   have hi2 : ¬ 0 < nn := by omega
   have cP := Lib.hid cP
   go_wp2_with fail
   refine cP.out.mono ?_
   rintro e w3 ⟨A', c', rfl, ho, hp⟩
   clear d3 v0 v1 v2 hw2 hy
   obtain ⟨hsb, hgot, hr2, hfin⟩ := HAFT.out (0) (0) w3 A' c' (by omega) hp ho
   have HGOT := Lib.hid hgot
   have HR2 := Lib.hid hr2
   have HFI := Lib.hid hfin
   have HSB3 := Lib.hid hsb
   have d3 := HSB3.out.cm.at_ 3 _ rfl
   have f3 := HSB3.out.cm.fz 3 (by simp)
   clear hsb hgot hr2 hfin ho hp a0 a1 cP
   obtain ⟨w6, hw6⟩ : ∃ X, World.setCell w3 ⟨z, 3, none⟩ (.slice (none) (0) 0) = X := ⟨_, rfl⟩
   have HSB8 : Hid (SB w6 z y [.int .i64 fno, .int .i64 pc, .slice B1 m1 k1, .slice none 0 0, .slice B3 m3 k3] [.string s, .bool b, .slice A0 n0 c0, .slice A1 n1 c1, .slice A2 n2 c2, .slice A3 n3 c3, .slice A4 n4 c4, .slice A5 n5 c5, .slice A6 n6 c6, .slice A7 n7 c7, .slice A8 n8 c8] [.int .i64 k, .int .i64 (nn), .int .i64 vk, .int .i64 vn, .int .i64 vre, .int .i64 vim] [.int .i64 0, .int .i64 0, .slice none 0 0, .slice none 0 0, .slice none 0 0] [.int .i64 vk, .int .i64 vn, .complex .f64 (nr vre) (nr vim)]) := Lib.hid (by
    have := HSB3.out.put 3 (by simp) (.slice (none) (0) 0)
    rw [hw6] at this
    exact this)
   have hk36 : Kp (Bx z) w3 w6 := by
    rw [← hw6]
    exact Bx.put0 3 (Kp.refl _ w3) _
   have HK36 := Lib.hid hk36
   have HQ : Hid (∀ W, Below w6.heap.size w6 W → Cells W z [.int .i64 fno, .int .i64 pc, .slice B1 m1 k1, .slice none 0 0, .slice B3 m3 k3]) := Lib.hid fun W hW => HSB8.out.cm.on hW
   have cV2 : Hid (∀ W, Below w6.heap.size w6 W → Calls Tryz.prog 23 #[.slice A' (0) c', .slice (none) (0) (0)] W fun e w' => e = .returned (.bool true) ∧ Below W.heap.size W w') := Lib.hid fun W hW => by
    have hk : Kp (Bx z) w3 W := HK36.out.ofBelow hW
    have hs6 : w3.heap.size ≤ W.heap.size := hk.size
    have hgot : SlV W W.heap.size A' (0) c' (st.drop (0)) := by
     exact (HGOT.out.1.kp hk fun _ _ h => h).slv HGOT.out.2.1 HGOT.out.2.2 (by omega)
    have hwant : SlV W W.heap.size (none) (0) (0) (st.drop (0)) := by
     have hr := HR2.out.kp hk fun _ _ h => .inr (.inr h)
     rw [hst0]; exact slv_zero _ _ _ (by unfold maxLen; omega)
    exact refValues_true A' (none) (0) c' (0) W.heap.size (st.drop (0)) (st.drop (0)) W hgot hwant (Nat.le_refl _) (fun i x y' h1 h2 => by rw [h1] at h2; injection h2 with h2; rw [h2]; exact sameV_refl y')
   clear hk36
   go_wp2_with fail
   refine wp_region_piv (R := fun W => Below w6.heap.size w6 W) (pv := 4) (by kernel_rfl) ?_
   change wpAnyG _ _ _ _ _ _ _ _ _ (World.drew _)
   try rw [hw6]
   have hS0 : Below w6.heap.size w6 w6.drew := (Below.refl _ _).drew
   refine tkG 0 0 [] rfl (by intro W hW; have h := HQ.out W hW; have h0 := h.at_ 0 _ rfl; have h1 := h.at_ 1 _ rfl; have h2 := h.at_ 2 _ rfl; have h3 := h.at_ 3 _ rfl; have h4 := h.at_ 4 _ rfl; go_simp; first | done | rfl) hS0 ?_
   try go_simp
   refine tkG 1 3 [1] rfl (by intro W hW; go_simp; first | done | rfl) hS0 ?_
   try go_simp
   refine tkG 2 3 [2] rfl (by intro W hW; go_simp; first | done | rfl) hS0 ?_
   try go_simp
   refine wpAnyG_one (i := 3) (by kernel_rfl) rfl (fun K hK => ?_)
   go_simp
   refine (cV2.out _ hS0).mono ?_
   rintro e w7 ⟨rfl, hb7⟩
   have hS7 : Below w6.heap.size w6 w7 := hS0.trans (hb7.mono hS0.size)
   have HS7 := Lib.hid hS7
   clear hb7
   go_simp
   refine hK _ _ ⟨fun _ => HS7.out, ?_⟩; clear hK K
   try go_simp
   have HSB9 := Lib.hid (HSB8.out.on hS7)
   have HFIN9 : Hid (∀ wf, Kp (Bx z) w7 wf → IsStep X0 g fno s b A0 n0 c0 A1 n1 c1 A2 n2 c2 A3 n3 c3 A4 n4 c4 A5 n5 c5 A6 n6 c6 A7 n7 c7 A8 n8 c8 M K (Own g A13 A14 A15) w (.returned (.tuple #[mdV fno pc B1 m1 k1 (none) (0) 0 B3 m3 k3, .bool true])) wf) := Lib.hid fun wf hk => HFI.out w7 wf (HK36.out.ofBelow HS7.out) hk
   clear hS0 hS7 HQ
   have x0 := HSB9.out.cz.at_ 0 _ rfl
   have f0 := HSB9.out.cz.fz 0 (by simp)
   have x1 := HSB9.out.cz.at_ 1 _ rfl
   have f1 := HSB9.out.cz.fz 1 (by simp)
   have x2 := HSB9.out.cz.at_ 2 _ rfl
   have f2 := HSB9.out.cz.fz 2 (by simp)
   have x3 := HSB9.out.cz.at_ 3 _ rfl
   have f3 := HSB9.out.cz.fz 3 (by simp)
   have x4 := HSB9.out.cz.at_ 4 _ rfl
   have f4 := HSB9.out.cz.fz 4 (by simp)
   refine wpAnyG_oneL (i := 4) (by kernel_rfl) rfl (by kernel_rfl) (fun K hK => ?_)
   go_simp
   refine hK _ _ ?_; clear hK K
   try go_simp
   refine wpAnyG_oneL (i := 5) (by kernel_rfl) rfl (by kernel_rfl) (fun K hK => ?_)
   go_simp
   refine hK _ _ ?_; clear hK K
   try go_simp
   refine wpAnyG_done (by kernel_rfl) ?_ _
   try go_simp
   go_wp2_with fail
   exact bodyPost_ret (v := .tuple #[mdV fno pc B1 m1 k1 (none) (0) 0 B3 m3 k3, .bool true]) (by simp [results, Tryz.results15, go_sem, x0, x1, x2, x3, x4]) rfl (HFIN9.out _ (by repeat (first | exact Kp.refl _ _ | (refine Bx.put _ ?_ _) | (refine Bx.put0 _ ?_ _))))
  ·by_cases h0 : nn = 0
   ·subst h0
    have cP := Lib.hid cP
    go_wp2_with fail
    refine cP.out.mono ?_
    rintro e w3 ⟨A', c', rfl, ho, hp⟩
    clear d3 v0 v1 v2 hw2 hy
    obtain ⟨hsb, hgot, hr2, hfin⟩ := HAFT.out (0) (0) w3 A' c' (by omega) hp ho
    have HGOT := Lib.hid hgot
    have HR2 := Lib.hid hr2
    have HFI := Lib.hid hfin
    have HSB3 := Lib.hid hsb
    have d3 := HSB3.out.cm.at_ 3 _ rfl
    have f3 := HSB3.out.cm.fz 3 (by simp)
    clear hsb hgot hr2 hfin ho hp a0 a1 cP
    obtain ⟨w6, hw6⟩ : ∃ X, World.setCell w3 ⟨z, 3, none⟩ (.slice (none) (0) 0) = X := ⟨_, rfl⟩
    have HSB8 : Hid (SB w6 z y [.int .i64 fno, .int .i64 pc, .slice B1 m1 k1, .slice none 0 0, .slice B3 m3 k3] [.string s, .bool b, .slice A0 n0 c0, .slice A1 n1 c1, .slice A2 n2 c2, .slice A3 n3 c3, .slice A4 n4 c4, .slice A5 n5 c5, .slice A6 n6 c6, .slice A7 n7 c7, .slice A8 n8 c8] [.int .i64 k, .int .i64 (0), .int .i64 vk, .int .i64 vn, .int .i64 vre, .int .i64 vim] [.int .i64 0, .int .i64 0, .slice none 0 0, .slice none 0 0, .slice none 0 0] [.int .i64 vk, .int .i64 vn, .complex .f64 (nr vre) (nr vim)]) := Lib.hid (by
     have := HSB3.out.put 3 (by simp) (.slice (none) (0) 0)
     rw [hw6] at this
     exact this)
    have hk36 : Kp (Bx z) w3 w6 := by
     rw [← hw6]
     exact Bx.put0 3 (Kp.refl _ w3) _
    have HK36 := Lib.hid hk36
    have HQ : Hid (∀ W, Below w6.heap.size w6 W → Cells W z [.int .i64 fno, .int .i64 pc, .slice B1 m1 k1, .slice none 0 0, .slice B3 m3 k3]) := Lib.hid fun W hW => HSB8.out.cm.on hW
    have cV2 : Hid (∀ W, Below w6.heap.size w6 W → Calls Tryz.prog 23 #[.slice A' (0) c', .slice (none) (0) (0)] W fun e w' => e = .returned (.bool true) ∧ Below W.heap.size W w') := Lib.hid fun W hW => by
     have hk : Kp (Bx z) w3 W := HK36.out.ofBelow hW
     have hs6 : w3.heap.size ≤ W.heap.size := hk.size
     have hgot : SlV W W.heap.size A' (0) c' (st.drop (0)) := by
      exact (HGOT.out.1.kp hk fun _ _ h => h).slv HGOT.out.2.1 HGOT.out.2.2 (by omega)
     have hwant : SlV W W.heap.size (none) (0) (0) (st.drop (0)) := by
      have hr := HR2.out.kp hk fun _ _ h => .inr (.inr h)
      rw [hst0]; exact slv_zero _ _ _ (by unfold maxLen; omega)
     exact refValues_true A' (none) (0) c' (0) W.heap.size (st.drop (0)) (st.drop (0)) W hgot hwant (Nat.le_refl _) (fun i x y' h1 h2 => by rw [h1] at h2; injection h2 with h2; rw [h2]; exact sameV_refl y')
    clear hk36
    go_wp2_with fail
    refine wp_region_piv (R := fun W => Below w6.heap.size w6 W) (pv := 4) (by kernel_rfl) ?_
    change wpAnyG _ _ _ _ _ _ _ _ _ (World.drew _)
    try rw [hw6]
    have hS0 : Below w6.heap.size w6 w6.drew := (Below.refl _ _).drew
    refine tkG 0 0 [] rfl (by intro W hW; have h := HQ.out W hW; have h0 := h.at_ 0 _ rfl; have h1 := h.at_ 1 _ rfl; have h2 := h.at_ 2 _ rfl; have h3 := h.at_ 3 _ rfl; have h4 := h.at_ 4 _ rfl; go_simp; first | done | rfl) hS0 ?_
    try go_simp
    refine tkG 1 3 [1] rfl (by intro W hW; go_simp; first | done | rfl) hS0 ?_
    try go_simp
    refine tkG 2 3 [2] rfl (by intro W hW; go_simp; first | done | rfl) hS0 ?_
    try go_simp
    refine wpAnyG_one (i := 3) (by kernel_rfl) rfl (fun K hK => ?_)
    go_simp
    refine (cV2.out _ hS0).mono ?_
    rintro e w7 ⟨rfl, hb7⟩
    have hS7 : Below w6.heap.size w6 w7 := hS0.trans (hb7.mono hS0.size)
    have HS7 := Lib.hid hS7
    clear hb7
    go_simp
    refine hK _ _ ⟨fun _ => HS7.out, ?_⟩; clear hK K
    try go_simp
    have HSB9 := Lib.hid (HSB8.out.on hS7)
    have HFIN9 : Hid (∀ wf, Kp (Bx z) w7 wf → IsStep X0 g fno s b A0 n0 c0 A1 n1 c1 A2 n2 c2 A3 n3 c3 A4 n4 c4 A5 n5 c5 A6 n6 c6 A7 n7 c7 A8 n8 c8 M K (Own g A13 A14 A15) w (.returned (.tuple #[mdV fno pc B1 m1 k1 (none) (0) 0 B3 m3 k3, .bool true])) wf) := Lib.hid fun wf hk => HFI.out w7 wf (HK36.out.ofBelow HS7.out) hk
    clear hS0 hS7 HQ
    have x0 := HSB9.out.cz.at_ 0 _ rfl
    have f0 := HSB9.out.cz.fz 0 (by simp)
    have x1 := HSB9.out.cz.at_ 1 _ rfl
    have f1 := HSB9.out.cz.fz 1 (by simp)
    have x2 := HSB9.out.cz.at_ 2 _ rfl
    have f2 := HSB9.out.cz.fz 2 (by simp)
    have x3 := HSB9.out.cz.at_ 3 _ rfl
    have f3 := HSB9.out.cz.fz 3 (by simp)
    have x4 := HSB9.out.cz.at_ 4 _ rfl
    have f4 := HSB9.out.cz.fz 4 (by simp)
    refine wpAnyG_oneL (i := 4) (by kernel_rfl) rfl (by kernel_rfl) (fun K hK => ?_)
    go_simp
    refine hK _ _ ?_; clear hK K
    try go_simp
    refine wpAnyG_oneL (i := 5) (by kernel_rfl) rfl (by kernel_rfl) (fun K hK => ?_)
    go_simp
    refine hK _ _ ?_; clear hK K
    try go_simp
    refine wpAnyG_done (by kernel_rfl) ?_ _
    try go_simp
    go_wp2_with fail
    exact bodyPost_ret (v := .tuple #[mdV fno pc B1 m1 k1 (none) (0) 0 B3 m3 k3, .bool true]) (by simp [results, Tryz.results15, go_sem, x0, x1, x2, x3, x4]) rfl (HFIN9.out _ (by repeat (first | exact Kp.refl _ _ | (refine Bx.put _ ?_ _) | (refine Bx.put0 _ ?_ _))))
   ·have hmx : max nn 0 = nn := by omega
    have hi2 : 0 < nn := by omega
    have hi3 : ¬ nn ≤ 0 := by omega
    have hmn : min nn 0 = 0 := by omega
    have cP := Lib.hid cP
    go_wp2_with fail
    refine cP.out.mono ?_
    rintro e w3 ⟨A', c', rfl, ho, hp⟩
    clear d3 v0 v1 v2 hw2 hy
    obtain ⟨hsb, hgot, hr2, hfin⟩ := HAFT.out (0) (0) w3 A' c' (by omega) hp ho
    have HGOT := Lib.hid hgot
    have HR2 := Lib.hid hr2
    have HFI := Lib.hid hfin
    have HSB3 := Lib.hid hsb
    have d3 := HSB3.out.cm.at_ 3 _ rfl
    have f3 := HSB3.out.cm.fz 3 (by simp)
    clear hsb hgot hr2 hfin ho hp a0 a1 cP
    obtain ⟨w6, hw6⟩ : ∃ X, World.setCell w3 ⟨z, 3, none⟩ (.slice (none) (0) 0) = X := ⟨_, rfl⟩
    have HSB8 : Hid (SB w6 z y [.int .i64 fno, .int .i64 pc, .slice B1 m1 k1, .slice none 0 0, .slice B3 m3 k3] [.string s, .bool b, .slice A0 n0 c0, .slice A1 n1 c1, .slice A2 n2 c2, .slice A3 n3 c3, .slice A4 n4 c4, .slice A5 n5 c5, .slice A6 n6 c6, .slice A7 n7 c7, .slice A8 n8 c8] [.int .i64 k, .int .i64 (nn), .int .i64 vk, .int .i64 vn, .int .i64 vre, .int .i64 vim] [.int .i64 0, .int .i64 0, .slice none 0 0, .slice none 0 0, .slice none 0 0] [.int .i64 vk, .int .i64 vn, .complex .f64 (nr vre) (nr vim)]) := Lib.hid (by
     have := HSB3.out.put 3 (by simp) (.slice (none) (0) 0)
     rw [hw6] at this
     exact this)
    have hk36 : Kp (Bx z) w3 w6 := by
     rw [← hw6]
     exact Bx.put0 3 (Kp.refl _ w3) _
    have HK36 := Lib.hid hk36
    have HQ : Hid (∀ W, Below w6.heap.size w6 W → Cells W z [.int .i64 fno, .int .i64 pc, .slice B1 m1 k1, .slice none 0 0, .slice B3 m3 k3]) := Lib.hid fun W hW => HSB8.out.cm.on hW
    have cV2 : Hid (∀ W, Below w6.heap.size w6 W → Calls Tryz.prog 23 #[.slice A' (0) c', .slice (none) (0) (0)] W fun e w' => e = .returned (.bool true) ∧ Below W.heap.size W w') := Lib.hid fun W hW => by
     have hk : Kp (Bx z) w3 W := HK36.out.ofBelow hW
     have hs6 : w3.heap.size ≤ W.heap.size := hk.size
     have hgot : SlV W W.heap.size A' (0) c' (st.drop (0)) := by
      exact (HGOT.out.1.kp hk fun _ _ h => h).slv HGOT.out.2.1 HGOT.out.2.2 (by omega)
     have hwant : SlV W W.heap.size (none) (0) (0) (st.drop (0)) := by
      have hr := HR2.out.kp hk fun _ _ h => .inr (.inr h)
      rw [hst0]; exact slv_zero _ _ _ (by unfold maxLen; omega)
     exact refValues_true A' (none) (0) c' (0) W.heap.size (st.drop (0)) (st.drop (0)) W hgot hwant (Nat.le_refl _) (fun i x y' h1 h2 => by rw [h1] at h2; injection h2 with h2; rw [h2]; exact sameV_refl y')
    clear hk36
    go_wp2_with fail
    refine wp_region_piv (R := fun W => Below w6.heap.size w6 W) (pv := 4) (by kernel_rfl) ?_
    change wpAnyG _ _ _ _ _ _ _ _ _ (World.drew _)
    try rw [hw6]
    have hS0 : Below w6.heap.size w6 w6.drew := (Below.refl _ _).drew
    refine tkG 0 0 [] rfl (by intro W hW; have h := HQ.out W hW; have h0 := h.at_ 0 _ rfl; have h1 := h.at_ 1 _ rfl; have h2 := h.at_ 2 _ rfl; have h3 := h.at_ 3 _ rfl; have h4 := h.at_ 4 _ rfl; go_simp; first | done | rfl) hS0 ?_
    try go_simp
    refine tkG 1 3 [1] rfl (by intro W hW; go_simp; first | done | rfl) hS0 ?_
    try go_simp
    refine tkG 2 3 [2] rfl (by intro W hW; go_simp; first | done | rfl) hS0 ?_
    try go_simp
    refine wpAnyG_one (i := 3) (by kernel_rfl) rfl (fun K hK => ?_)
    go_simp
    refine (cV2.out _ hS0).mono ?_
    rintro e w7 ⟨rfl, hb7⟩
    have hS7 : Below w6.heap.size w6 w7 := hS0.trans (hb7.mono hS0.size)
    have HS7 := Lib.hid hS7
    clear hb7
    go_simp
    refine hK _ _ ⟨fun _ => HS7.out, ?_⟩; clear hK K
    try go_simp
    have HSB9 := Lib.hid (HSB8.out.on hS7)
    have HFIN9 : Hid (∀ wf, Kp (Bx z) w7 wf → IsStep X0 g fno s b A0 n0 c0 A1 n1 c1 A2 n2 c2 A3 n3 c3 A4 n4 c4 A5 n5 c5 A6 n6 c6 A7 n7 c7 A8 n8 c8 M K (Own g A13 A14 A15) w (.returned (.tuple #[mdV fno pc B1 m1 k1 (none) (0) 0 B3 m3 k3, .bool true])) wf) := Lib.hid fun wf hk => HFI.out w7 wf (HK36.out.ofBelow HS7.out) hk
    clear hS0 hS7 HQ
    have x0 := HSB9.out.cz.at_ 0 _ rfl
    have f0 := HSB9.out.cz.fz 0 (by simp)
    have x1 := HSB9.out.cz.at_ 1 _ rfl
    have f1 := HSB9.out.cz.fz 1 (by simp)
    have x2 := HSB9.out.cz.at_ 2 _ rfl
    have f2 := HSB9.out.cz.fz 2 (by simp)
    have x3 := HSB9.out.cz.at_ 3 _ rfl
    have f3 := HSB9.out.cz.fz 3 (by simp)
    have x4 := HSB9.out.cz.at_ 4 _ rfl
    have f4 := HSB9.out.cz.fz 4 (by simp)
    refine wpAnyG_oneL (i := 4) (by kernel_rfl) rfl (by kernel_rfl) (fun K hK => ?_)
    go_simp
    refine hK _ _ ?_; clear hK K
    try go_simp
    refine wpAnyG_oneL (i := 5) (by kernel_rfl) rfl (by kernel_rfl) (fun K hK => ?_)
    go_simp
    refine hK _ _ ?_; clear hK K
    try go_simp
    refine wpAnyG_done (by kernel_rfl) ?_ _
    try go_simp
    go_wp2_with fail
    exact bodyPost_ret (v := .tuple #[mdV fno pc B1 m1 k1 (none) (0) 0 B3 m3 k3, .bool true]) (by simp [results, Tryz.results15, go_sem, x0, x1, x2, x3, x4]) rfl (HFIN9.out _ (by repeat (first | exact Kp.refl _ _ | (refine Bx.put _ ?_ _) | (refine Bx.put0 _ ?_ _))))
 ·subst hB
  have c0' : (0 : Int) ≤ (k2 : Int) := by omega
  have hkm := HK2.out.2
  by_cases hi : nn < 0
  ·have hk : topM m2 nn = 0 := by unfold topM; omega
   rw [hk] at cP
   have n0' : (0 : Int) ≤ (m2 : Int) := by omega
   have nc' : (m2 : Int) ≤ (k2 : Int) := by omega
   have wr : IntKind.i64.wrap (m2 : Int) = (m2 : Int) := by rw [IntKind.wrap_i64]; omega
   have hmx : max nn 0 = 0 := by omega
   have hmn : min (0 : Int) (m2 : Int) = 0 := by omega
   have hi2 : ¬ 0 < nn := by omega
   have hd0 : st.drop m2 = [] := List.drop_eq_nil_of_le (by omega)
   by_cases hcn : k2 = m2
   ·subst hcn
    have cP := Lib.hid cP
    go_wp2_with fail
    refine cP.out.mono ?_
    rintro e w3 ⟨A', c', rfl, ho, hp⟩
    clear d3 v0 v1 v2 hw2 hy
    obtain ⟨hsb, hgot, hr2, hfin⟩ := HAFT.out (0) (k2) w3 A' c' (by omega) hp ho
    have HGOT := Lib.hid hgot
    have HR2 := Lib.hid hr2
    have HFI := Lib.hid hfin
    have HSB3 := Lib.hid hsb
    have d3 := HSB3.out.cm.at_ 3 _ rfl
    have f3 := HSB3.out.cm.fz 3 (by simp)
    clear hsb hgot hr2 hfin ho hp a0 a1 cP
    obtain ⟨w6, hw6⟩ : ∃ X, World.setCell w3 ⟨z, 3, none⟩ (.slice ((some ⟨bb, bo, none⟩)) (k2) k2) = X := ⟨_, rfl⟩
    have HSB8 : Hid (SB w6 z y [.int .i64 fno, .int .i64 pc, .slice B1 m1 k1, .slice (some ⟨bb, bo, none⟩) k2 k2, .slice B3 m3 k3] [.string s, .bool b, .slice A0 n0 c0, .slice A1 n1 c1, .slice A2 n2 c2, .slice A3 n3 c3, .slice A4 n4 c4, .slice A5 n5 c5, .slice A6 n6 c6, .slice A7 n7 c7, .slice A8 n8 c8] [.int .i64 k, .int .i64 (nn), .int .i64 vk, .int .i64 vn, .int .i64 vre, .int .i64 vim] [.int .i64 0, .int .i64 0, .slice none 0 0, .slice none 0 0, .slice none 0 0] [.int .i64 vk, .int .i64 vn, .complex .f64 (nr vre) (nr vim)]) := Lib.hid (by
     have := HSB3.out.put 3 (by simp) (.slice ((some ⟨bb, bo, none⟩)) (k2) k2)
     rw [hw6] at this
     exact this)
    have hk36 : Kp (Bx z) w3 w6 := by
     rw [← hw6]
     exact Bx.put0 3 (Kp.refl _ w3) _
    have HK36 := Lib.hid hk36
    have HQ : Hid (∀ W, Below w6.heap.size w6 W → Cells W z [.int .i64 fno, .int .i64 pc, .slice B1 m1 k1, .slice (some ⟨bb, bo, none⟩) k2 k2, .slice B3 m3 k3]) := Lib.hid fun W hW => HSB8.out.cm.on hW
    have cV2 : Hid (∀ W, Below w6.heap.size w6 W → Calls Tryz.prog 23 #[.slice A' (0) c', .slice ((some ⟨bb, bo, none⟩)) (0) (0)] W fun e w' => e = .returned (.bool true) ∧ Below W.heap.size W w') := Lib.hid fun W hW => by
     have hk : Kp (Bx z) w3 W := HK36.out.ofBelow hW
     have hs6 : w3.heap.size ≤ W.heap.size := hk.size
     have hgot : SlV W W.heap.size A' (0) c' (st.drop (k2)) := by
      exact (HGOT.out.1.kp hk fun _ _ h => h).slv HGOT.out.2.1 HGOT.out.2.2 (by omega)
     have hwant : SlV W W.heap.size ((some ⟨bb, bo, none⟩)) (0) (0) (st.drop (k2)) := by
      have hr := HR2.out.kp hk fun _ _ h => .inr (.inr h)
      rw [hd0]; exact slv_zero _ _ _ (by unfold maxLen at *; omega)
     exact refValues_true A' ((some ⟨bb, bo, none⟩)) (0) c' (0) W.heap.size (st.drop (k2)) (st.drop (k2)) W hgot hwant (Nat.le_refl _) (fun i x y' h1 h2 => by rw [h1] at h2; injection h2 with h2; rw [h2]; exact sameV_refl y')
    clear hk36
    go_wp2_with fail
    refine wp_region_piv (R := fun W => Below w6.heap.size w6 W) (pv := 4) (by kernel_rfl) ?_
    change wpAnyG _ _ _ _ _ _ _ _ _ (World.drew _)
    try rw [hw6]
    have hS0 : Below w6.heap.size w6 w6.drew := (Below.refl _ _).drew
    refine tkG 0 0 [] rfl (by intro W hW; have h := HQ.out W hW; have h0 := h.at_ 0 _ rfl; have h1 := h.at_ 1 _ rfl; have h2 := h.at_ 2 _ rfl; have h3 := h.at_ 3 _ rfl; have h4 := h.at_ 4 _ rfl; go_simp; first | done | rfl) hS0 ?_
    try go_simp
    refine tkG 1 3 [1] rfl (by intro W hW; go_simp; first | done | rfl) hS0 ?_
    try go_simp
    refine tkG 2 3 [2] rfl (by intro W hW; go_simp; first | done | rfl) hS0 ?_
    try go_simp
    refine wpAnyG_one (i := 3) (by kernel_rfl) rfl (fun K hK => ?_)
    go_simp
    refine (cV2.out _ hS0).mono ?_
    rintro e w7 ⟨rfl, hb7⟩
    have hS7 : Below w6.heap.size w6 w7 := hS0.trans (hb7.mono hS0.size)
    have HS7 := Lib.hid hS7
    clear hb7
    go_simp
    refine hK _ _ ⟨fun _ => HS7.out, ?_⟩; clear hK K
    try go_simp
    have HSB9 := Lib.hid (HSB8.out.on hS7)
    have HFIN9 : Hid (∀ wf, Kp (Bx z) w7 wf → IsStep X0 g fno s b A0 n0 c0 A1 n1 c1 A2 n2 c2 A3 n3 c3 A4 n4 c4 A5 n5 c5 A6 n6 c6 A7 n7 c7 A8 n8 c8 M K (Own g A13 A14 A15) w (.returned (.tuple #[mdV fno pc B1 m1 k1 ((some ⟨bb, bo, none⟩)) (k2) k2 B3 m3 k3, .bool true])) wf) := Lib.hid fun wf hk => HFI.out w7 wf (HK36.out.ofBelow HS7.out) hk
    clear hS0 hS7 HQ
    have x0 := HSB9.out.cz.at_ 0 _ rfl
    have f0 := HSB9.out.cz.fz 0 (by simp)
    have x1 := HSB9.out.cz.at_ 1 _ rfl
    have f1 := HSB9.out.cz.fz 1 (by simp)
    have x2 := HSB9.out.cz.at_ 2 _ rfl
    have f2 := HSB9.out.cz.fz 2 (by simp)
    have x3 := HSB9.out.cz.at_ 3 _ rfl
    have f3 := HSB9.out.cz.fz 3 (by simp)
    have x4 := HSB9.out.cz.at_ 4 _ rfl
    have f4 := HSB9.out.cz.fz 4 (by simp)
    refine wpAnyG_oneL (i := 4) (by kernel_rfl) rfl (by kernel_rfl) (fun K hK => ?_)
    go_simp
    refine hK _ _ ?_; clear hK K
    try go_simp
    refine wpAnyG_oneL (i := 5) (by kernel_rfl) rfl (by kernel_rfl) (fun K hK => ?_)
    go_simp
    refine hK _ _ ?_; clear hK K
    try go_simp
    refine wpAnyG_done (by kernel_rfl) ?_ _
    try go_simp
    go_wp2_with fail
    exact bodyPost_ret (v := .tuple #[mdV fno pc B1 m1 k1 ((some ⟨bb, bo, none⟩)) (k2) k2 B3 m3 k3, .bool true]) (by simp [results, Tryz.results15, go_sem, x0, x1, x2, x3, x4]) rfl (HFIN9.out _ (by repeat (first | exact Kp.refl _ _ | (refine Bx.put _ ?_ _) | (refine Bx.put0 _ ?_ _))))
   ·have hcn2 : ¬ m2 = k2 := fun h => hcn h.symm
    have cP := Lib.hid cP
    go_wp2_with fail
    refine cP.out.mono ?_
    rintro e w3 ⟨A', c', rfl, ho, hp⟩
    clear d3 v0 v1 v2 hw2 hy
    obtain ⟨hsb, hgot, hr2, hfin⟩ := HAFT.out (0) (m2) w3 A' c' (by omega) hp ho
    have HGOT := Lib.hid hgot
    have HR2 := Lib.hid hr2
    have HFI := Lib.hid hfin
    have HSB3 := Lib.hid hsb
    have d3 := HSB3.out.cm.at_ 3 _ rfl
    have f3 := HSB3.out.cm.fz 3 (by simp)
    clear hsb hgot hr2 hfin ho hp a0 a1 cP
    obtain ⟨w6, hw6⟩ : ∃ X, World.setCell w3 ⟨z, 3, none⟩ (.slice ((some ⟨bb, bo, none⟩)) (m2) k2) = X := ⟨_, rfl⟩
    have HSB8 : Hid (SB w6 z y [.int .i64 fno, .int .i64 pc, .slice B1 m1 k1, .slice (some ⟨bb, bo, none⟩) m2 k2, .slice B3 m3 k3] [.string s, .bool b, .slice A0 n0 c0, .slice A1 n1 c1, .slice A2 n2 c2, .slice A3 n3 c3, .slice A4 n4 c4, .slice A5 n5 c5, .slice A6 n6 c6, .slice A7 n7 c7, .slice A8 n8 c8] [.int .i64 k, .int .i64 (nn), .int .i64 vk, .int .i64 vn, .int .i64 vre, .int .i64 vim] [.int .i64 0, .int .i64 0, .slice none 0 0, .slice none 0 0, .slice none 0 0] [.int .i64 vk, .int .i64 vn, .complex .f64 (nr vre) (nr vim)]) := Lib.hid (by
     have := HSB3.out.put 3 (by simp) (.slice ((some ⟨bb, bo, none⟩)) (m2) k2)
     rw [hw6] at this
     exact this)
    have hk36 : Kp (Bx z) w3 w6 := by
     rw [← hw6]
     exact Bx.put0 3 (Kp.refl _ w3) _
    have HK36 := Lib.hid hk36
    have HQ : Hid (∀ W, Below w6.heap.size w6 W → Cells W z [.int .i64 fno, .int .i64 pc, .slice B1 m1 k1, .slice (some ⟨bb, bo, none⟩) m2 k2, .slice B3 m3 k3]) := Lib.hid fun W hW => HSB8.out.cm.on hW
    have cV2 : Hid (∀ W, Below w6.heap.size w6 W → Calls Tryz.prog 23 #[.slice A' (0) c', .slice ((some ⟨bb, bo + m2 * 3, none⟩)) (0) (k2 - m2)] W fun e w' => e = .returned (.bool true) ∧ Below W.heap.size W w') := Lib.hid fun W hW => by
     have hk : Kp (Bx z) w3 W := HK36.out.ofBelow hW
     have hs6 : w3.heap.size ≤ W.heap.size := hk.size
     have hgot : SlV W W.heap.size A' (0) c' (st.drop (m2)) := by
      exact (HGOT.out.1.kp hk fun _ _ h => h).slv HGOT.out.2.1 HGOT.out.2.2 (by omega)
     have hwant : SlV W W.heap.size ((some ⟨bb, bo + m2 * 3, none⟩)) (0) (k2 - m2) (st.drop (m2)) := by
      have hr := HR2.out.kp hk fun _ _ h => .inr (.inr h)
      rw [hd0]; exact slv_zero _ _ _ (by unfold maxLen at *; omega)
     exact refValues_true A' ((some ⟨bb, bo + m2 * 3, none⟩)) (0) c' (k2 - m2) W.heap.size (st.drop (m2)) (st.drop (m2)) W hgot hwant (Nat.le_refl _) (fun i x y' h1 h2 => by rw [h1] at h2; injection h2 with h2; rw [h2]; exact sameV_refl y')
    clear hk36
    go_wp2_with fail
    refine wp_region_piv (R := fun W => Below w6.heap.size w6 W) (pv := 4) (by kernel_rfl) ?_
    change wpAnyG _ _ _ _ _ _ _ _ _ (World.drew _)
    try rw [hw6]
    have hS0 : Below w6.heap.size w6 w6.drew := (Below.refl _ _).drew
    refine tkG 0 0 [] rfl (by intro W hW; have h := HQ.out W hW; have h0 := h.at_ 0 _ rfl; have h1 := h.at_ 1 _ rfl; have h2 := h.at_ 2 _ rfl; have h3 := h.at_ 3 _ rfl; have h4 := h.at_ 4 _ rfl; go_simp; first | done | rfl) hS0 ?_
    try go_simp
    refine tkG 1 3 [1] rfl (by intro W hW; go_simp; first | done | rfl) hS0 ?_
    try go_simp
    refine tkG 2 3 [2] rfl (by intro W hW; go_simp; first | done | rfl) hS0 ?_
    try go_simp
    refine wpAnyG_one (i := 3) (by kernel_rfl) rfl (fun K hK => ?_)
    go_simp
    refine (cV2.out _ hS0).mono ?_
    rintro e w7 ⟨rfl, hb7⟩
    have hS7 : Below w6.heap.size w6 w7 := hS0.trans (hb7.mono hS0.size)
    have HS7 := Lib.hid hS7
    clear hb7
    go_simp
    refine hK _ _ ⟨fun _ => HS7.out, ?_⟩; clear hK K
    try go_simp
    have HSB9 := Lib.hid (HSB8.out.on hS7)
    have HFIN9 : Hid (∀ wf, Kp (Bx z) w7 wf → IsStep X0 g fno s b A0 n0 c0 A1 n1 c1 A2 n2 c2 A3 n3 c3 A4 n4 c4 A5 n5 c5 A6 n6 c6 A7 n7 c7 A8 n8 c8 M K (Own g A13 A14 A15) w (.returned (.tuple #[mdV fno pc B1 m1 k1 ((some ⟨bb, bo, none⟩)) (m2) k2 B3 m3 k3, .bool true])) wf) := Lib.hid fun wf hk => HFI.out w7 wf (HK36.out.ofBelow HS7.out) hk
    clear hS0 hS7 HQ
    have x0 := HSB9.out.cz.at_ 0 _ rfl
    have f0 := HSB9.out.cz.fz 0 (by simp)
    have x1 := HSB9.out.cz.at_ 1 _ rfl
    have f1 := HSB9.out.cz.fz 1 (by simp)
    have x2 := HSB9.out.cz.at_ 2 _ rfl
    have f2 := HSB9.out.cz.fz 2 (by simp)
    have x3 := HSB9.out.cz.at_ 3 _ rfl
    have f3 := HSB9.out.cz.fz 3 (by simp)
    have x4 := HSB9.out.cz.at_ 4 _ rfl
    have f4 := HSB9.out.cz.fz 4 (by simp)
    refine wpAnyG_oneL (i := 4) (by kernel_rfl) rfl (by kernel_rfl) (fun K hK => ?_)
    go_simp
    refine hK _ _ ?_; clear hK K
    try go_simp
    refine wpAnyG_oneL (i := 5) (by kernel_rfl) rfl (by kernel_rfl) (fun K hK => ?_)
    go_simp
    refine hK _ _ ?_; clear hK K
    try go_simp
    refine wpAnyG_done (by kernel_rfl) ?_ _
    try go_simp
    go_wp2_with fail
    exact bodyPost_ret (v := .tuple #[mdV fno pc B1 m1 k1 ((some ⟨bb, bo, none⟩)) (m2) k2 B3 m3 k3, .bool true]) (by simp [results, Tryz.results15, go_sem, x0, x1, x2, x3, x4]) rfl (HFIN9.out _ (by repeat (first | exact Kp.refl _ _ | (refine Bx.put _ ?_ _) | (refine Bx.put0 _ ?_ _))))
  ·obtain ⟨i, rfl⟩ : ∃ i : Nat, nn = (i : Int) := ⟨nn.toNat, by omega⟩
   have i0' : (0 : Int) ≤ (i : Int) := by omega
   have hmx : max (i : Int) 0 = (i : Int) := by omega
   by_cases hin : i ≤ m2
   ·have hk : topM m2 i = i := by unfold topM; omega
    rw [hk] at cP
    obtain ⟨left, rfl⟩ : ∃ l, m2 = l + i := ⟨m2 - i, by omega⟩
    rw [Nat.add_sub_cancel] at cP
    have wr : IntKind.i64.wrap (((left + i : Nat) : Int) - (i : Int)) = (left : Int) := by rw [IntKind.wrap_i64]; omega
    have hmn : min (i : Int) ((left + i : Nat) : Int) = (i : Int) := by omega
    have l0 : (0 : Int) ≤ (left : Int) := by omega
    have lc : (left : Int) ≤ (k2 : Int) := by omega
    have ln : (left : Int) ≤ (left : Int) + (i : Int) := by omega
    by_cases hcn : k2 = left
    ·obtain rfl : i = 0 := by omega
     subst hcn
     have hd0 : st.drop k2 = [] := List.drop_eq_nil_of_le (by omega)
     have cP := Lib.hid cP
     go_wp2_with fail
     refine cP.out.mono ?_
     rintro e w3 ⟨A', c', rfl, ho, hp⟩
     clear d3 v0 v1 v2 hw2 hy
     obtain ⟨hsb, hgot, hr2, hfin⟩ := HAFT.out (0) (k2) w3 A' c' (by omega) hp ho
     have HGOT := Lib.hid hgot
     have HR2 := Lib.hid hr2
     have HFI := Lib.hid hfin
     have HSB3 := Lib.hid hsb
     have d3 := HSB3.out.cm.at_ 3 _ rfl
     have f3 := HSB3.out.cm.fz 3 (by simp)
     clear hsb hgot hr2 hfin ho hp a0 a1 cP
     obtain ⟨w6, hw6⟩ : ∃ X, World.setCell w3 ⟨z, 3, none⟩ (.slice ((some ⟨bb, bo, none⟩)) (k2) k2) = X := ⟨_, rfl⟩
     have HSB8 : Hid (SB w6 z y [.int .i64 fno, .int .i64 pc, .slice B1 m1 k1, .slice (some ⟨bb, bo, none⟩) k2 k2, .slice B3 m3 k3] [.string s, .bool b, .slice A0 n0 c0, .slice A1 n1 c1, .slice A2 n2 c2, .slice A3 n3 c3, .slice A4 n4 c4, .slice A5 n5 c5, .slice A6 n6 c6, .slice A7 n7 c7, .slice A8 n8 c8] [.int .i64 k, .int .i64 (((0 : Nat) : Int)), .int .i64 vk, .int .i64 vn, .int .i64 vre, .int .i64 vim] [.int .i64 0, .int .i64 0, .slice none 0 0, .slice none 0 0, .slice none 0 0] [.int .i64 vk, .int .i64 vn, .complex .f64 (nr vre) (nr vim)]) := Lib.hid (by
      have := HSB3.out.put 3 (by simp) (.slice ((some ⟨bb, bo, none⟩)) (k2) k2)
      rw [hw6] at this
      exact this)
     have hk36 : Kp (Bx z) w3 w6 := by
      rw [← hw6]
      exact Bx.put0 3 (Kp.refl _ w3) _
     have HK36 := Lib.hid hk36
     have HQ : Hid (∀ W, Below w6.heap.size w6 W → Cells W z [.int .i64 fno, .int .i64 pc, .slice B1 m1 k1, .slice (some ⟨bb, bo, none⟩) k2 k2, .slice B3 m3 k3]) := Lib.hid fun W hW => HSB8.out.cm.on hW
     have cV2 : Hid (∀ W, Below w6.heap.size w6 W → Calls Tryz.prog 23 #[.slice A' (0) c', .slice ((some ⟨bb, bo, none⟩)) (0) (0)] W fun e w' => e = .returned (.bool true) ∧ Below W.heap.size W w') := Lib.hid fun W hW => by
      have hk : Kp (Bx z) w3 W := HK36.out.ofBelow hW
      have hs6 : w3.heap.size ≤ W.heap.size := hk.size
      have hgot : SlV W W.heap.size A' (0) c' (st.drop (k2)) := by
       exact (HGOT.out.1.kp hk fun _ _ h => h).slv HGOT.out.2.1 HGOT.out.2.2 (by omega)
      have hwant : SlV W W.heap.size ((some ⟨bb, bo, none⟩)) (0) (0) (st.drop (k2)) := by
       have hr := HR2.out.kp hk fun _ _ h => .inr (.inr h)
       rw [hd0]; exact slv_zero _ _ _ (by unfold maxLen; omega)
      exact refValues_true A' ((some ⟨bb, bo, none⟩)) (0) c' (0) W.heap.size (st.drop (k2)) (st.drop (k2)) W hgot hwant (Nat.le_refl _) (fun i x y' h1 h2 => by rw [h1] at h2; injection h2 with h2; rw [h2]; exact sameV_refl y')
     clear hk36
     go_wp2_with fail
     refine wp_region_piv (R := fun W => Below w6.heap.size w6 W) (pv := 4) (by kernel_rfl) ?_
     change wpAnyG _ _ _ _ _ _ _ _ _ (World.drew _)
     try rw [hw6]
     have hS0 : Below w6.heap.size w6 w6.drew := (Below.refl _ _).drew
     refine tkG 0 0 [] rfl (by intro W hW; have h := HQ.out W hW; have h0 := h.at_ 0 _ rfl; have h1 := h.at_ 1 _ rfl; have h2 := h.at_ 2 _ rfl; have h3 := h.at_ 3 _ rfl; have h4 := h.at_ 4 _ rfl; go_simp; first | done | rfl) hS0 ?_
     try go_simp
     refine tkG 1 3 [1] rfl (by intro W hW; go_simp; first | done | rfl) hS0 ?_
     try go_simp
     refine tkG 2 3 [2] rfl (by intro W hW; go_simp; first | done | rfl) hS0 ?_
     try go_simp
     refine wpAnyG_one (i := 3) (by kernel_rfl) rfl (fun K hK => ?_)
     go_simp
     refine (cV2.out _ hS0).mono ?_
     rintro e w7 ⟨rfl, hb7⟩
     have hS7 : Below w6.heap.size w6 w7 := hS0.trans (hb7.mono hS0.size)
     have HS7 := Lib.hid hS7
     clear hb7
     go_simp
     refine hK _ _ ⟨fun _ => HS7.out, ?_⟩; clear hK K
     try go_simp
     have HSB9 := Lib.hid (HSB8.out.on hS7)
     have HFIN9 : Hid (∀ wf, Kp (Bx z) w7 wf → IsStep X0 g fno s b A0 n0 c0 A1 n1 c1 A2 n2 c2 A3 n3 c3 A4 n4 c4 A5 n5 c5 A6 n6 c6 A7 n7 c7 A8 n8 c8 M K (Own g A13 A14 A15) w (.returned (.tuple #[mdV fno pc B1 m1 k1 ((some ⟨bb, bo, none⟩)) (k2) k2 B3 m3 k3, .bool true])) wf) := Lib.hid fun wf hk => HFI.out w7 wf (HK36.out.ofBelow HS7.out) hk
     clear hS0 hS7 HQ
     have x0 := HSB9.out.cz.at_ 0 _ rfl
     have f0 := HSB9.out.cz.fz 0 (by simp)
     have x1 := HSB9.out.cz.at_ 1 _ rfl
     have f1 := HSB9.out.cz.fz 1 (by simp)
     have x2 := HSB9.out.cz.at_ 2 _ rfl
     have f2 := HSB9.out.cz.fz 2 (by simp)
     have x3 := HSB9.out.cz.at_ 3 _ rfl
     have f3 := HSB9.out.cz.fz 3 (by simp)
     have x4 := HSB9.out.cz.at_ 4 _ rfl
     have f4 := HSB9.out.cz.fz 4 (by simp)
     refine wpAnyG_oneL (i := 4) (by kernel_rfl) rfl (by kernel_rfl) (fun K hK => ?_)
     go_simp
     refine hK _ _ ?_; clear hK K
     try go_simp
     refine wpAnyG_oneL (i := 5) (by kernel_rfl) rfl (by kernel_rfl) (fun K hK => ?_)
     go_simp
     refine hK _ _ ?_; clear hK K
     try go_simp
     refine wpAnyG_done (by kernel_rfl) ?_ _
     try go_simp
     go_wp2_with fail
     exact bodyPost_ret (v := .tuple #[mdV fno pc B1 m1 k1 ((some ⟨bb, bo, none⟩)) (k2) k2 B3 m3 k3, .bool true]) (by simp [results, Tryz.results15, go_sem, x0, x1, x2, x3, x4]) rfl (HFIN9.out _ (by repeat (first | exact Kp.refl _ _ | (refine Bx.put _ ?_ _) | (refine Bx.put0 _ ?_ _))))
    ·have hcn2 : ¬ left = k2 := fun h => hcn h.symm
     have cP := Lib.hid cP
     go_wp2_with fail
     refine cP.out.mono ?_
     rintro e w3 ⟨A', c', rfl, ho, hp⟩
     clear d3 v0 v1 v2 hw2 hy
     obtain ⟨hsb, hgot, hr2, hfin⟩ := HAFT.out (i) (left) w3 A' c' (by omega) hp ho
     have HGOT := Lib.hid hgot
     have HR2 := Lib.hid hr2
     have HFI := Lib.hid hfin
     have HSB3 := Lib.hid hsb
     have d3 := HSB3.out.cm.at_ 3 _ rfl
     have f3 := HSB3.out.cm.fz 3 (by simp)
     clear hsb hgot hr2 hfin ho hp a0 a1 cP
     obtain ⟨w6, hw6⟩ : ∃ X, World.setCell w3 ⟨z, 3, none⟩ (.slice ((some ⟨bb, bo, none⟩)) (left) k2) = X := ⟨_, rfl⟩
     have HSB8 : Hid (SB w6 z y [.int .i64 fno, .int .i64 pc, .slice B1 m1 k1, .slice (some ⟨bb, bo, none⟩) left k2, .slice B3 m3 k3] [.string s, .bool b, .slice A0 n0 c0, .slice A1 n1 c1, .slice A2 n2 c2, .slice A3 n3 c3, .slice A4 n4 c4, .slice A5 n5 c5, .slice A6 n6 c6, .slice A7 n7 c7, .slice A8 n8 c8] [.int .i64 k, .int .i64 ((i : Int)), .int .i64 vk, .int .i64 vn, .int .i64 vre, .int .i64 vim] [.int .i64 0, .int .i64 0, .slice none 0 0, .slice none 0 0, .slice none 0 0] [.int .i64 vk, .int .i64 vn, .complex .f64 (nr vre) (nr vim)]) := Lib.hid (by
      have := HSB3.out.put 3 (by simp) (.slice ((some ⟨bb, bo, none⟩)) (left) k2)
      rw [hw6] at this
      exact this)
     have hk36 : Kp (Bx z) w3 w6 := by
      rw [← hw6]
      exact Bx.put0 3 (Kp.refl _ w3) _
     have HK36 := Lib.hid hk36
     have HQ : Hid (∀ W, Below w6.heap.size w6 W → Cells W z [.int .i64 fno, .int .i64 pc, .slice B1 m1 k1, .slice (some ⟨bb, bo, none⟩) left k2, .slice B3 m3 k3]) := Lib.hid fun W hW => HSB8.out.cm.on hW
     have cV2 : Hid (∀ W, Below w6.heap.size w6 W → Calls Tryz.prog 23 #[.slice A' (i) c', .slice ((some ⟨bb, bo + left * 3, none⟩)) (i) (k2 - left)] W fun e w' => e = .returned (.bool true) ∧ Below W.heap.size W w') := Lib.hid fun W hW => by
      have hk : Kp (Bx z) w3 W := HK36.out.ofBelow hW
      have hs6 : w3.heap.size ≤ W.heap.size := hk.size
      have hgot : SlV W W.heap.size A' (i) c' (st.drop (left)) := by
       exact (HGOT.out.1.kp hk fun _ _ h => h).slv HGOT.out.2.1 HGOT.out.2.2 (by omega)
      have hwant : SlV W W.heap.size ((some ⟨bb, bo + left * 3, none⟩)) (i) (k2 - left) (st.drop (left)) := by
       have hr := HR2.out.kp hk fun _ _ h => .inr (.inr h)
       have hr3 := hr.drop (show left ≤ left + i by omega); rw [flat_drop DV.c 3 DV.len] at hr3; have hr4 := hr3.slv (c := k2 - left) (by omega) (by unfold maxLen at *; omega) (by omega); rw [Nat.add_sub_cancel_left] at hr4; exact hr4
      exact refValues_true A' ((some ⟨bb, bo + left * 3, none⟩)) (i) c' (k2 - left) W.heap.size (st.drop (left)) (st.drop (left)) W hgot hwant (Nat.le_refl _) (fun i x y' h1 h2 => by rw [h1] at h2; injection h2 with h2; rw [h2]; exact sameV_refl y')
     clear hk36
     go_wp2_with fail
     refine wp_region_piv (R := fun W => Below w6.heap.size w6 W) (pv := 4) (by kernel_rfl) ?_
     change wpAnyG _ _ _ _ _ _ _ _ _ (World.drew _)
     try rw [hw6]
     have hS0 : Below w6.heap.size w6 w6.drew := (Below.refl _ _).drew
     refine tkG 0 0 [] rfl (by intro W hW; have h := HQ.out W hW; have h0 := h.at_ 0 _ rfl; have h1 := h.at_ 1 _ rfl; have h2 := h.at_ 2 _ rfl; have h3 := h.at_ 3 _ rfl; have h4 := h.at_ 4 _ rfl; go_simp; first | done | rfl) hS0 ?_
     try go_simp
     refine tkG 1 3 [1] rfl (by intro W hW; go_simp; first | done | rfl) hS0 ?_
     try go_simp
     refine tkG 2 3 [2] rfl (by intro W hW; go_simp; first | done | rfl) hS0 ?_
     try go_simp
     refine wpAnyG_one (i := 3) (by kernel_rfl) rfl (fun K hK => ?_)
     go_simp
     refine (cV2.out _ hS0).mono ?_
     rintro e w7 ⟨rfl, hb7⟩
     have hS7 : Below w6.heap.size w6 w7 := hS0.trans (hb7.mono hS0.size)
     have HS7 := Lib.hid hS7
     clear hb7
     go_simp
     refine hK _ _ ⟨fun _ => HS7.out, ?_⟩; clear hK K
     try go_simp
     have HSB9 := Lib.hid (HSB8.out.on hS7)
     have HFIN9 : Hid (∀ wf, Kp (Bx z) w7 wf → IsStep X0 g fno s b A0 n0 c0 A1 n1 c1 A2 n2 c2 A3 n3 c3 A4 n4 c4 A5 n5 c5 A6 n6 c6 A7 n7 c7 A8 n8 c8 M K (Own g A13 A14 A15) w (.returned (.tuple #[mdV fno pc B1 m1 k1 ((some ⟨bb, bo, none⟩)) (left) k2 B3 m3 k3, .bool true])) wf) := Lib.hid fun wf hk => HFI.out w7 wf (HK36.out.ofBelow HS7.out) hk
     clear hS0 hS7 HQ
     have x0 := HSB9.out.cz.at_ 0 _ rfl
     have f0 := HSB9.out.cz.fz 0 (by simp)
     have x1 := HSB9.out.cz.at_ 1 _ rfl
     have f1 := HSB9.out.cz.fz 1 (by simp)
     have x2 := HSB9.out.cz.at_ 2 _ rfl
     have f2 := HSB9.out.cz.fz 2 (by simp)
     have x3 := HSB9.out.cz.at_ 3 _ rfl
     have f3 := HSB9.out.cz.fz 3 (by simp)
     have x4 := HSB9.out.cz.at_ 4 _ rfl
     have f4 := HSB9.out.cz.fz 4 (by simp)
     refine wpAnyG_oneL (i := 4) (by kernel_rfl) rfl (by kernel_rfl) (fun K hK => ?_)
     go_simp
     refine hK _ _ ?_; clear hK K
     try go_simp
     refine wpAnyG_oneL (i := 5) (by kernel_rfl) rfl (by kernel_rfl) (fun K hK => ?_)
     go_simp
     refine hK _ _ ?_; clear hK K
     try go_simp
     refine wpAnyG_done (by kernel_rfl) ?_ _
     try go_simp
     go_wp2_with fail
     exact bodyPost_ret (v := .tuple #[mdV fno pc B1 m1 k1 ((some ⟨bb, bo, none⟩)) (left) k2 B3 m3 k3, .bool true]) (by simp [results, Tryz.results15, go_sem, x0, x1, x2, x3, x4]) rfl (HFIN9.out _ (by repeat (first | exact Kp.refl _ _ | (refine Bx.put _ ?_ _) | (refine Bx.put0 _ ?_ _))))
   ·have hk : topM m2 i = m2 := by unfold topM; omega
    rw [hk, Nat.sub_self] at cP
    have hni : ¬ i ≤ m2 := hin
    have hmn : min (i : Int) (m2 : Int) = (m2 : Int) := by omega
    have hni2 : (m2 : Int) < (i : Int) := by omega
    by_cases hcn : k2 = 0
    ·subst hcn
     obtain rfl : m2 = 0 := by omega
     have hd0 : st.drop 0 = [] := List.drop_eq_nil_of_le (by omega)
     have cP := Lib.hid cP
     go_wp2_with fail
     refine cP.out.mono ?_
     rintro e w3 ⟨A', c', rfl, ho, hp⟩
     clear d3 v0 v1 v2 hw2 hy
     obtain ⟨hsb, hgot, hr2, hfin⟩ := HAFT.out (0) (0) w3 A' c' (by omega) hp ho
     have HGOT := Lib.hid hgot
     have HR2 := Lib.hid hr2
     have HFI := Lib.hid hfin
     have HSB3 := Lib.hid hsb
     have d3 := HSB3.out.cm.at_ 3 _ rfl
     have f3 := HSB3.out.cm.fz 3 (by simp)
     clear hsb hgot hr2 hfin ho hp a0 a1 cP
     obtain ⟨w6, hw6⟩ : ∃ X, World.setCell w3 ⟨z, 3, none⟩ (.slice ((some ⟨bb, bo, none⟩)) (0) 0) = X := ⟨_, rfl⟩
     have HSB8 : Hid (SB w6 z y [.int .i64 fno, .int .i64 pc, .slice B1 m1 k1, .slice (some ⟨bb, bo, none⟩) 0 0, .slice B3 m3 k3] [.string s, .bool b, .slice A0 n0 c0, .slice A1 n1 c1, .slice A2 n2 c2, .slice A3 n3 c3, .slice A4 n4 c4, .slice A5 n5 c5, .slice A6 n6 c6, .slice A7 n7 c7, .slice A8 n8 c8] [.int .i64 k, .int .i64 ((i : Int)), .int .i64 vk, .int .i64 vn, .int .i64 vre, .int .i64 vim] [.int .i64 0, .int .i64 0, .slice none 0 0, .slice none 0 0, .slice none 0 0] [.int .i64 vk, .int .i64 vn, .complex .f64 (nr vre) (nr vim)]) := Lib.hid (by
      have := HSB3.out.put 3 (by simp) (.slice ((some ⟨bb, bo, none⟩)) (0) 0)
      rw [hw6] at this
      exact this)
     have hk36 : Kp (Bx z) w3 w6 := by
      rw [← hw6]
      exact Bx.put0 3 (Kp.refl _ w3) _
     have HK36 := Lib.hid hk36
     have HQ : Hid (∀ W, Below w6.heap.size w6 W → Cells W z [.int .i64 fno, .int .i64 pc, .slice B1 m1 k1, .slice (some ⟨bb, bo, none⟩) 0 0, .slice B3 m3 k3]) := Lib.hid fun W hW => HSB8.out.cm.on hW
     have cV2 : Hid (∀ W, Below w6.heap.size w6 W → Calls Tryz.prog 23 #[.slice A' (0) c', .slice ((some ⟨bb, bo, none⟩)) (0) (0)] W fun e w' => e = .returned (.bool true) ∧ Below W.heap.size W w') := Lib.hid fun W hW => by
      have hk : Kp (Bx z) w3 W := HK36.out.ofBelow hW
      have hs6 : w3.heap.size ≤ W.heap.size := hk.size
      have hgot : SlV W W.heap.size A' (0) c' (st.drop (0)) := by
       exact (HGOT.out.1.kp hk fun _ _ h => h).slv HGOT.out.2.1 HGOT.out.2.2 (by omega)
      have hwant : SlV W W.heap.size ((some ⟨bb, bo, none⟩)) (0) (0) (st.drop (0)) := by
       have hr := HR2.out.kp hk fun _ _ h => .inr (.inr h)
       rw [hd0]; exact slv_zero _ _ _ (by unfold maxLen; omega)
      exact refValues_true A' ((some ⟨bb, bo, none⟩)) (0) c' (0) W.heap.size (st.drop (0)) (st.drop (0)) W hgot hwant (Nat.le_refl _) (fun i x y' h1 h2 => by rw [h1] at h2; injection h2 with h2; rw [h2]; exact sameV_refl y')
     clear hk36
     go_wp2_with fail
     refine wp_region_piv (R := fun W => Below w6.heap.size w6 W) (pv := 4) (by kernel_rfl) ?_
     change wpAnyG _ _ _ _ _ _ _ _ _ (World.drew _)
     try rw [hw6]
     have hS0 : Below w6.heap.size w6 w6.drew := (Below.refl _ _).drew
     refine tkG 0 0 [] rfl (by intro W hW; have h := HQ.out W hW; have h0 := h.at_ 0 _ rfl; have h1 := h.at_ 1 _ rfl; have h2 := h.at_ 2 _ rfl; have h3 := h.at_ 3 _ rfl; have h4 := h.at_ 4 _ rfl; go_simp; first | done | rfl) hS0 ?_
     try go_simp
     refine tkG 1 3 [1] rfl (by intro W hW; go_simp; first | done | rfl) hS0 ?_
     try go_simp
     refine tkG 2 3 [2] rfl (by intro W hW; go_simp; first | done | rfl) hS0 ?_
     try go_simp
     refine wpAnyG_one (i := 3) (by kernel_rfl) rfl (fun K hK => ?_)
     go_simp
     refine (cV2.out _ hS0).mono ?_
     rintro e w7 ⟨rfl, hb7⟩
     have hS7 : Below w6.heap.size w6 w7 := hS0.trans (hb7.mono hS0.size)
     have HS7 := Lib.hid hS7
     clear hb7
     go_simp
     refine hK _ _ ⟨fun _ => HS7.out, ?_⟩; clear hK K
     try go_simp
     have HSB9 := Lib.hid (HSB8.out.on hS7)
     have HFIN9 : Hid (∀ wf, Kp (Bx z) w7 wf → IsStep X0 g fno s b A0 n0 c0 A1 n1 c1 A2 n2 c2 A3 n3 c3 A4 n4 c4 A5 n5 c5 A6 n6 c6 A7 n7 c7 A8 n8 c8 M K (Own g A13 A14 A15) w (.returned (.tuple #[mdV fno pc B1 m1 k1 ((some ⟨bb, bo, none⟩)) (0) 0 B3 m3 k3, .bool true])) wf) := Lib.hid fun wf hk => HFI.out w7 wf (HK36.out.ofBelow HS7.out) hk
     clear hS0 hS7 HQ
     have x0 := HSB9.out.cz.at_ 0 _ rfl
     have f0 := HSB9.out.cz.fz 0 (by simp)
     have x1 := HSB9.out.cz.at_ 1 _ rfl
     have f1 := HSB9.out.cz.fz 1 (by simp)
     have x2 := HSB9.out.cz.at_ 2 _ rfl
     have f2 := HSB9.out.cz.fz 2 (by simp)
     have x3 := HSB9.out.cz.at_ 3 _ rfl
     have f3 := HSB9.out.cz.fz 3 (by simp)
     have x4 := HSB9.out.cz.at_ 4 _ rfl
     have f4 := HSB9.out.cz.fz 4 (by simp)
     refine wpAnyG_oneL (i := 4) (by kernel_rfl) rfl (by kernel_rfl) (fun K hK => ?_)
     go_simp
     refine hK _ _ ?_; clear hK K
     try go_simp
     refine wpAnyG_oneL (i := 5) (by kernel_rfl) rfl (by kernel_rfl) (fun K hK => ?_)
     go_simp
     refine hK _ _ ?_; clear hK K
     try go_simp
     refine wpAnyG_done (by kernel_rfl) ?_ _
     try go_simp
     go_wp2_with fail
     exact bodyPost_ret (v := .tuple #[mdV fno pc B1 m1 k1 ((some ⟨bb, bo, none⟩)) (0) 0 B3 m3 k3, .bool true]) (by simp [results, Tryz.results15, go_sem, x0, x1, x2, x3, x4]) rfl (HFIN9.out _ (by repeat (first | exact Kp.refl _ _ | (refine Bx.put _ ?_ _) | (refine Bx.put0 _ ?_ _))))
    ·have hcn2 : ¬ 0 = k2 := fun h => hcn h.symm
     have cP := Lib.hid cP
     go_wp2_with fail
     refine cP.out.mono ?_
     rintro e w3 ⟨A', c', rfl, ho, hp⟩
     clear d3 v0 v1 v2 hw2 hy
     obtain ⟨hsb, hgot, hr2, hfin⟩ := HAFT.out (m2) (0) w3 A' c' (by omega) hp ho
     have HGOT := Lib.hid hgot
     have HR2 := Lib.hid hr2
     have HFI := Lib.hid hfin
     have HSB3 := Lib.hid hsb
     have d3 := HSB3.out.cm.at_ 3 _ rfl
     have f3 := HSB3.out.cm.fz 3 (by simp)
     clear hsb hgot hr2 hfin ho hp a0 a1 cP
     obtain ⟨w6, hw6⟩ : ∃ X, World.setCell w3 ⟨z, 3, none⟩ (.slice ((some ⟨bb, bo, none⟩)) (0) k2) = X := ⟨_, rfl⟩
     have HSB8 : Hid (SB w6 z y [.int .i64 fno, .int .i64 pc, .slice B1 m1 k1, .slice (some ⟨bb, bo, none⟩) 0 k2, .slice B3 m3 k3] [.string s, .bool b, .slice A0 n0 c0, .slice A1 n1 c1, .slice A2 n2 c2, .slice A3 n3 c3, .slice A4 n4 c4, .slice A5 n5 c5, .slice A6 n6 c6, .slice A7 n7 c7, .slice A8 n8 c8] [.int .i64 k, .int .i64 ((i : Int)), .int .i64 vk, .int .i64 vn, .int .i64 vre, .int .i64 vim] [.int .i64 0, .int .i64 0, .slice none 0 0, .slice none 0 0, .slice none 0 0] [.int .i64 vk, .int .i64 vn, .complex .f64 (nr vre) (nr vim)]) := Lib.hid (by
      have := HSB3.out.put 3 (by simp) (.slice ((some ⟨bb, bo, none⟩)) (0) k2)
      rw [hw6] at this
      exact this)
     have hk36 : Kp (Bx z) w3 w6 := by
      rw [← hw6]
      exact Bx.put0 3 (Kp.refl _ w3) _
     have HK36 := Lib.hid hk36
     have HQ : Hid (∀ W, Below w6.heap.size w6 W → Cells W z [.int .i64 fno, .int .i64 pc, .slice B1 m1 k1, .slice (some ⟨bb, bo, none⟩) 0 k2, .slice B3 m3 k3]) := Lib.hid fun W hW => HSB8.out.cm.on hW
     have cV2 : Hid (∀ W, Below w6.heap.size w6 W → Calls Tryz.prog 23 #[.slice A' (m2) c', .slice ((some ⟨bb, bo, none⟩)) (m2) (k2)] W fun e w' => e = .returned (.bool true) ∧ Below W.heap.size W w') := Lib.hid fun W hW => by
      have hk : Kp (Bx z) w3 W := HK36.out.ofBelow hW
      have hs6 : w3.heap.size ≤ W.heap.size := hk.size
      have hgot : SlV W W.heap.size A' (m2) c' (st.drop (0)) := by
       exact (HGOT.out.1.kp hk fun _ _ h => h).slv HGOT.out.2.1 HGOT.out.2.2 (by omega)
      have hwant : SlV W W.heap.size ((some ⟨bb, bo, none⟩)) (m2) (k2) (st.drop (0)) := by
       have hr := HR2.out.kp hk fun _ _ h => .inr (.inr h)
       rw [List.drop_zero]; exact hr.slv (by omega) (by unfold maxLen at *; omega) (by omega)
      exact refValues_true A' ((some ⟨bb, bo, none⟩)) (m2) c' (k2) W.heap.size (st.drop (0)) (st.drop (0)) W hgot hwant (Nat.le_refl _) (fun i x y' h1 h2 => by rw [h1] at h2; injection h2 with h2; rw [h2]; exact sameV_refl y')
     clear hk36
     go_wp2_with fail
     refine wp_region_piv (R := fun W => Below w6.heap.size w6 W) (pv := 4) (by kernel_rfl) ?_
     change wpAnyG _ _ _ _ _ _ _ _ _ (World.drew _)
     try rw [hw6]
     have hS0 : Below w6.heap.size w6 w6.drew := (Below.refl _ _).drew
     refine tkG 0 0 [] rfl (by intro W hW; have h := HQ.out W hW; have h0 := h.at_ 0 _ rfl; have h1 := h.at_ 1 _ rfl; have h2 := h.at_ 2 _ rfl; have h3 := h.at_ 3 _ rfl; have h4 := h.at_ 4 _ rfl; go_simp; first | done | rfl) hS0 ?_
     try go_simp
     refine tkG 1 3 [1] rfl (by intro W hW; go_simp; first | done | rfl) hS0 ?_
     try go_simp
     refine tkG 2 3 [2] rfl (by intro W hW; go_simp; first | done | rfl) hS0 ?_
     try go_simp
     refine wpAnyG_one (i := 3) (by kernel_rfl) rfl (fun K hK => ?_)
     go_simp
     refine (cV2.out _ hS0).mono ?_
     rintro e w7 ⟨rfl, hb7⟩
     have hS7 : Below w6.heap.size w6 w7 := hS0.trans (hb7.mono hS0.size)
     have HS7 := Lib.hid hS7
     clear hb7
     go_simp
     refine hK _ _ ⟨fun _ => HS7.out, ?_⟩; clear hK K
     try go_simp
     have HSB9 := Lib.hid (HSB8.out.on hS7)
     have HFIN9 : Hid (∀ wf, Kp (Bx z) w7 wf → IsStep X0 g fno s b A0 n0 c0 A1 n1 c1 A2 n2 c2 A3 n3 c3 A4 n4 c4 A5 n5 c5 A6 n6 c6 A7 n7 c7 A8 n8 c8 M K (Own g A13 A14 A15) w (.returned (.tuple #[mdV fno pc B1 m1 k1 ((some ⟨bb, bo, none⟩)) (0) k2 B3 m3 k3, .bool true])) wf) := Lib.hid fun wf hk => HFI.out w7 wf (HK36.out.ofBelow HS7.out) hk
     clear hS0 hS7 HQ
     have x0 := HSB9.out.cz.at_ 0 _ rfl
     have f0 := HSB9.out.cz.fz 0 (by simp)
     have x1 := HSB9.out.cz.at_ 1 _ rfl
     have f1 := HSB9.out.cz.fz 1 (by simp)
     have x2 := HSB9.out.cz.at_ 2 _ rfl
     have f2 := HSB9.out.cz.fz 2 (by simp)
     have x3 := HSB9.out.cz.at_ 3 _ rfl
     have f3 := HSB9.out.cz.fz 3 (by simp)
     have x4 := HSB9.out.cz.at_ 4 _ rfl
     have f4 := HSB9.out.cz.fz 4 (by simp)
     refine wpAnyG_oneL (i := 4) (by kernel_rfl) rfl (by kernel_rfl) (fun K hK => ?_)
     go_simp
     refine hK _ _ ?_; clear hK K
     try go_simp
     refine wpAnyG_oneL (i := 5) (by kernel_rfl) rfl (by kernel_rfl) (fun K hK => ?_)
     go_simp
     refine hK _ _ ?_; clear hK K
     try go_simp
     refine wpAnyG_done (by kernel_rfl) ?_ _
     try go_simp
     go_wp2_with fail
     exact bodyPost_ret (v := .tuple #[mdV fno pc B1 m1 k1 ((some ⟨bb, bo, none⟩)) (0) k2 B3 m3 k3, .bool true]) (by simp [results, Tryz.results15, go_sem, x0, x1, x2, x3, x4]) rfl (HFIN9.out _ (by repeat (first | exact Kp.refl _ _ | (refine Bx.put _ ?_ _) | (refine Bx.put0 _ ?_ _))))
end Go.Proofs.YtobmjnmcjddhcaaGreat
