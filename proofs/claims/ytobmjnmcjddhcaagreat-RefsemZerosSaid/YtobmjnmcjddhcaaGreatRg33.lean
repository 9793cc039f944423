import Derived.Test.YtobmjnmcjddhcaaGreatRg32
set_option linter.unusedSimpArgs false
set_option linter.unusedVariables false
namespace Go.Proofs.YtobmjnmcjddhcaaGreat
section
set_option maxRecDepth 100000
set_option maxHeartbeats 8000000
open Go.RowKit
variable {T : Tag → Prop} {K : RK} {τ τ' τ3 τ4 : Nat → Tag} {w w' w3 w4 : World} {gs : List Nat} {g : Nat} {fr fp : Option Addr} {cb L : Nat} {s s' s3 t : Ms} {x x' x3 : Fr} {ys ys' ys3 : List Fr} {ch : List Bl}
theorem do_21 (hG : KG K) (h : XI K τ w gs g fr fp cb s x ys) (hm : x.mode = 0) (hl : x.st.length ≤ 9000) (hcs : x.cs.length ≤ 9000) (hdr : s.drawn ≤ 10000) (hev : s.evs.length ≤ 10000) (hyl : ys.length ≤ 9000) (hpc : x.pc ≤ 1000) (bv : Value) (a : Int) (ho : (atM K.fs x).op = 21) (ha : (atM K.fs x).a = a) (p : Nat) (hap : a = (p : Int)) (hpl : (p : Int) ≤ 1000) :
  Calls Tryz.prog 134 #[ptrV K.m, ptrV g, .agg #[.int .i64 21, .int .i64 a], bv] w (BodyP K τ w gs g fr fp cb (doM K.fs K.ds s) x ys s.steps 0) := by
 subst hap
 obtain ⟨w1, hw1⟩ : ∃ W, w.alloc (.cells #[.int .i64 21, .int .i64 (p : Int)] 113) = W := ⟨_, rfl⟩
 have hb1 : Below w.heap.size w w1 := by rw [← hw1]; exact (Below.refl _ _).alloc (Nat.le_refl _) _
 have e0 : w1.cell? ⟨w.heap.size, 0, none⟩ = some (.int .i64 21) := by rw [← hw1]; simp [go_sem]
 have e1 : w1.cell? ⟨w.heap.size, 1, none⟩ = some (.int .i64 (p : Int)) := by rw [← hw1]; simp [go_sem]
 have hbl : w.heap.size < w1.heap.size := World.block_lt_of_cell? _ _ e0
 have HX1 := Hd (h.on hb1)
 have HK1 := Hd (Tr.below (T := TT (ys.length + 1)) h.hz hb1)
 have HM := Hd hm
 have HL := Hd hl
 have HG := Hd hG
 have HCL := Hd hcs
 have HDR := Hd hdr
 have HEV := Hd hev
 have HYL := Hd hyl
 have HPC := Hd hpc
 have HFRE := Hd h.fre
 have HZB : Hid (τ w.heap.size = (0, 0)) := Hd (h.hz _ (Nat.le_refl _))
 have HBL := Hd hbl
 have cPc := Hd (zpc HX1.out.fz)
 obtain ⟨m, hkm⟩ : ∃ m, K.m = m := ⟨_, rfl⟩
 have HKM := Hd hkm
 obtain ⟨pcn, hpn⟩ : ∃ p, x.pc = p := ⟨_, rfl⟩
 have HPN := Hd hpn
 have hp9 : (pcn : Int) ≤ 1000 := by omega
 have hp0 : (0 : Int) ≤ (pcn : Int) := by omega
 rw [hkm]
 rw [hpn] at cPc
 have HO := Hd ho
 have HA := Hd ha
 have hq0 : (0 : Int) ≤ (p : Int) := by omega
 clear h hm hl hG hcs hdr hev hyl hpc hbl hkm hb1 hpn ha ho hpl
 go_in
 go_wp2_with fail
 refine cPc.out.mono ?_
 rintro e w2 ⟨rfl, hb2⟩
 have f0 := (hb2.cell (p := ⟨w.heap.size, 0, none⟩) HBL.out).trans e0
 have f1 := (hb2.cell (p := ⟨w.heap.size, 1, none⟩) HBL.out).trans e1
 have HX2 := Hd (HX1.out.on hb2)
 have HK2 := Hd (HK1.out.trans (Tr.below HX1.out.hz hb2))
 clear hb2 e0 e1 cPc hw1
 have hdd := doM_21 (ds := K.ds) HFRE.out HO.out
 rw [HA.out, Int.toNat_natCast] at hdd
 have HF3 : Hid (∀ τ4 w4, FZ K τ4 (ys.length + 1) w4 g fr { x with pc := p } → Tr (TF (ys.length + 1)) τ w2 τ4 w4 → BodyP K τ w gs g fr fp cb (doM K.fs K.ds s) x ys s.steps 0 (.returned (.slice none 0 0)) w4) := Hd fun τ4 w4 hf4 hk4 => jp_go HX2.out HK2.out hf4 hk4 rfl rfl HM.out hdd
 have cG := Hd (zgo HX2.out.fz (by omega) HX2.out.hz p)
 clear hdd
 go_wp2_with fail
 refine cG.out.mono ?_
 rintro e w4 ⟨⟨u, rfl⟩, τ4, hf4, hk4⟩
 have HF := Hd (HF3.out τ4 w4 hf4 hk4)
 clear hf4 hk4 cG
 go_wp2_with fail
 go_ret
 exact HF.out
theorem do_22 (hG : KG K) (h : XI K τ w gs g fr fp cb s x ys) (hm : x.mode = 0) (hl : x.st.length ≤ 9000) (hcs : x.cs.length ≤ 9000) (hdr : s.drawn ≤ 10000) (hev : s.evs.length ≤ 10000) (hyl : ys.length ≤ 9000) (hpc : x.pc ≤ 1000) (bv : Value) (a : Int) (ho : (atM K.fs x).op = 22) (ha : (atM K.fs x).a = a) (p : Nat) (hap : a = (p : Int)) (hpl : (p : Int) ≤ 1000) :
  Calls Tryz.prog 134 #[ptrV K.m, ptrV g, .agg #[.int .i64 22, .int .i64 a], bv] w (BodyP K τ w gs g fr fp cb (doM K.fs K.ds s) x ys s.steps 0) := by
 subst hap
 obtain ⟨w1, hw1⟩ : ∃ W, w.alloc (.cells #[.int .i64 22, .int .i64 (p : Int)] 113) = W := ⟨_, rfl⟩
 have hb1 : Below w.heap.size w w1 := by rw [← hw1]; exact (Below.refl _ _).alloc (Nat.le_refl _) _
 have e0 : w1.cell? ⟨w.heap.size, 0, none⟩ = some (.int .i64 22) := by rw [← hw1]; simp [go_sem]
 have e1 : w1.cell? ⟨w.heap.size, 1, none⟩ = some (.int .i64 (p : Int)) := by rw [← hw1]; simp [go_sem]
 have hbl : w.heap.size < w1.heap.size := World.block_lt_of_cell? _ _ e0
 have HX1 := Hd (h.on hb1)
 have HK1 := Hd (Tr.below (T := TT (ys.length + 1)) h.hz hb1)
 have HM := Hd hm
 have HL := Hd hl
 have HG := Hd hG
 have HCL := Hd hcs
 have HDR := Hd hdr
 have HEV := Hd hev
 have HYL := Hd hyl
 have HPC := Hd hpc
 have HFRE := Hd h.fre
 have HZB : Hid (τ w.heap.size = (0, 0)) := Hd (h.hz _ (Nat.le_refl _))
 have HBL := Hd hbl
 have cPc := Hd (zpc HX1.out.fz)
 obtain ⟨m, hkm⟩ : ∃ m, K.m = m := ⟨_, rfl⟩
 have HKM := Hd hkm
 obtain ⟨pcn, hpn⟩ : ∃ p, x.pc = p := ⟨_, rfl⟩
 have HPN := Hd hpn
 have hp9 : (pcn : Int) ≤ 1000 := by omega
 have hp0 : (0 : Int) ≤ (pcn : Int) := by omega
 rw [hkm]
 rw [hpn] at cPc
 have HO := Hd ho
 have HA := Hd ha
 have hq0 : (0 : Int) ≤ (p : Int) := by omega
 clear h hm hl hG hcs hdr hev hyl hpc hbl hkm hb1 hpn ha ho hpl
 go_in
 go_wp2_with fail
 refine cPc.out.mono ?_
 rintro e w2 ⟨rfl, hb2⟩
 have f0 := (hb2.cell (p := ⟨w.heap.size, 0, none⟩) HBL.out).trans e0
 have f1 := (hb2.cell (p := ⟨w.heap.size, 1, none⟩) HBL.out).trans e1
 have HX2 := Hd (HX1.out.on hb2)
 have HK2 := Hd (HK1.out.trans (Tr.below HX1.out.hz hb2))
 clear hb2 e0 e1 cPc hw1
 have hdd := doM_22 (ds := K.ds) HFRE.out HO.out
 rw [HA.out, Int.toNat_natCast] at hdd
 have HDD := Hd hdd
 have cQ := Hd (zpop HX2.out.fz (by omega) HX2.out.hz HM.out (by have := HL.out; omega))
 clear hdd
 go_wp2_with fail
 refine cQ.out.mono ?_
 rintro e w3 ⟨⟨vk, vn, vx, vy⟩, hv, rfl, τ3, hf, hk1⟩
 have HX3 := Hd (HX2.out.own hk1 hf rfl rfl)
 have HK3 := Hd (HK2.out.trans (hk1.mono fun _ => TT.tf))
 have HV : Hid (vn = (topV x.st).n) := Hd (cn_n hv)
 have hvf := vn_fieldZ vk vn vx vy w3
 have g0 := hk1.cellv f0 (by rw [HZB.out]; exact TF.no (by omega))
 have g1 := hk1.cellv f1 (by rw [HZB.out]; exact TF.no (by omega))
 clear hf hk1 hv cQ f0 f1
 unfold DV.v
 by_cases hz : vn = 0
 ·have hz2 : (topV x.st).n = 0 := by rw [← HV.out]; exact hz
  have t1 : (vn != 0) = false := by simp [hz]
  have HF3 : Hid (∀ τ4 w4, FZ K τ4 (ys.length + 1) w4 g fr { x with st := initV x.st, pc := pcn + 1 } → Tr (TF (ys.length + 1)) τ3 w3 τ4 w4 → BodyP K τ w gs g fr fp cb (doM K.fs K.ds s) x ys s.steps 0 (.returned (.slice none 0 0)) w4) := Hd fun τ4 w4 hf4 hk4 => jp_go HX3.out HK3.out hf4 hk4 rfl rfl HM.out (by rw [HDD.out, if_pos hz2, HPN.out])
  have cG := Hd (zgo HX3.out.fz (by omega) HX3.out.hz (pcn + 1))
  clear hz hz2
  go_wp2_with fail
  refine cG.out.mono ?_
  rintro e w4 ⟨⟨u, rfl⟩, τ4, hf4, hk4⟩
  have HF := Hd (HF3.out τ4 w4 hf4 hk4)
  clear hf4 hk4 cG
  go_wp2_with fail
  go_ret
  exact HF.out
 ·have hz2 : ¬ (topV x.st).n = 0 := by rw [← HV.out]; exact hz
  have t1 : (vn != 0) = true := by simp [hz]
  have HF3 : Hid (∀ τ4 w4, FZ K τ4 (ys.length + 1) w4 g fr { x with st := initV x.st, pc := p } → Tr (TF (ys.length + 1)) τ3 w3 τ4 w4 → BodyP K τ w gs g fr fp cb (doM K.fs K.ds s) x ys s.steps 0 (.returned (.slice none 0 0)) w4) := Hd fun τ4 w4 hf4 hk4 => jp_go HX3.out HK3.out hf4 hk4 rfl rfl HM.out (by rw [HDD.out, if_neg hz2])
  have cG := Hd (zgo HX3.out.fz (by omega) HX3.out.hz p)
  clear hz hz2
  go_wp2_with fail
  refine cG.out.mono ?_
  rintro e w4 ⟨⟨u, rfl⟩, τ4, hf4, hk4⟩
  have HF := Hd (HF3.out τ4 w4 hf4 hk4)
  clear hf4 hk4 cG
  go_wp2_with fail
  go_ret
  exact HF.out
theorem do_24 (hG : KG K) (h : XI K τ w gs g fr fp cb s x ys) (hm : x.mode = 0) (hl : x.st.length ≤ 9000) (hcs : x.cs.length ≤ 9000) (hdr : s.drawn ≤ 10000) (hev : s.evs.length ≤ 10000) (hyl : ys.length ≤ 9000) (hpc : x.pc ≤ 1000) (bv : Value) (a : Int) (ho : (atM K.fs x).op = 24) (ha : (atM K.fs x).a = a) (q : Nat) (hq : q < K.fn) (haq : a = (q : Int)) (hnp : (fnOf K.fs q).params.length ≤ x.st.length) :
  Calls Tryz.prog 134 #[ptrV K.m, ptrV g, .agg #[.int .i64 24, .int .i64 a], bv] w (BodyP K τ w gs g fr fp cb (doM K.fs K.ds s) x ys s.steps 0) := by
 subst haq
 obtain ⟨w1, hw1⟩ : ∃ W, w.alloc (.cells #[.int .i64 24, .int .i64 (q : Int)] 113) = W := ⟨_, rfl⟩
 have hb1 : Below w.heap.size w w1 := by rw [← hw1]; exact (Below.refl _ _).alloc (Nat.le_refl _) _
 have e0 : w1.cell? ⟨w.heap.size, 0, none⟩ = some (.int .i64 24) := by rw [← hw1]; simp [go_sem]
 have e1 : w1.cell? ⟨w.heap.size, 1, none⟩ = some (.int .i64 (q : Int)) := by rw [← hw1]; simp [go_sem]
 have hbl : w.heap.size < w1.heap.size := World.block_lt_of_cell? _ _ e0
 have HX1 := Hd (h.on hb1)
 have HK1 := Hd (Tr.below (T := TT (ys.length + 1)) h.hz hb1)
 have HM := Hd hm
 have HL := Hd hl
 have HG := Hd hG
 have HCL := Hd hcs
 have HDR := Hd hdr
 have HEV := Hd hev
 have HYL := Hd hyl
 have HPC := Hd hpc
 have HFRE := Hd h.fre
 have HZB : Hid (τ w.heap.size = (0, 0)) := Hd (h.hz _ (Nat.le_refl _))
 have HBL := Hd hbl
 have cPc := Hd (zpc HX1.out.fz)
 obtain ⟨m, hkm⟩ : ∃ m, K.m = m := ⟨_, rfl⟩
 have HKM := Hd hkm
 obtain ⟨pcn, hpn⟩ : ∃ p, x.pc = p := ⟨_, rfl⟩
 have HPN := Hd hpn
 have hp9 : (pcn : Int) ≤ 1000 := by omega
 have hp0 : (0 : Int) ≤ (pcn : Int) := by omega
 rw [hkm]
 rw [hpn] at cPc
 have HO := Hd ho
 have HA := Hd ha
 have HQ := Hd hq
 have HNP := Hd hnp
 clear h hm hl hG hcs hdr hev hyl hpc hbl hkm hb1 hpn ha ho hq hnp
 go_in
 go_wp2_with fail
 refine cPc.out.mono ?_
 rintro e w2 ⟨rfl, hb2⟩
 have f0 := (hb2.cell (p := ⟨w.heap.size, 0, none⟩) HBL.out).trans e0
 have f1 := (hb2.cell (p := ⟨w.heap.size, 1, none⟩) HBL.out).trans e1
 have HX2 := Hd (HX1.out.on hb2)
 have HK2 := Hd (HK1.out.trans (Tr.below HX1.out.hz hb2))
 clear hb2 e0 e1 cPc hw1
 have cM := Hd (calls_24 HG.out HX2.out HM.out HL.out HCL.out q HQ.out HO.out HA.out HNP.out)
 rw [HKM.out] at cM
 go_wp2_with fail
 refine cM.out.mono ?_
 rintro e w3 (hdry | ⟨τ3, s3, x3, ys3, hst, hx3, hk3, hd3, hb3, hu3, hres⟩)
 ·obtain ⟨rfl, hdr⟩ := hdry
  have HF : Hid (BodyP K τ w gs g fr fp cb (doM K.fs K.ds s) x ys s.steps 0 (.panicked dryE) w3) := Hd (.inl (DryP.from ⟨rfl, hdr⟩ (.refl _) HK2.out))
  clear hdr cM
  go_wp2_with fail
  exact ⟨rfl, HF.out⟩
 rcases hres with ⟨hm3, hp3, hr3, rfl⟩ | ⟨hr3, hm3, hop, ad, n, c, rfl, hcz⟩
 ·have cG := Hd (zgo hx3.fz (by omega) hx3.hz (pcn + 1))
  have HX3 := Hd hx3
  have HGO : Hid (∀ τ4 w4, FZ K τ4 (ys3.length + 1) w4 g fr { x3 with pc := pcn + 1 } → Tr (TF (ys3.length + 1)) τ3 w3 τ4 w4 → BodyP K τ w gs g fr fp cb (doM K.fs K.ds s) x ys s.steps 0 (.returned (.slice none 0 0)) w4) := Hd fun τ4 w4 hf4 hk4 => mv_go hx3 (HK2.out.trans hk3) hr3 hf4 hk4 (by rw [hp3, HPN.out]) hd3 hb3 hu3 hm3
  clear hx3 hk3 hst hm3 hp3 hd3 hb3 hu3 hr3 cM
  go_wp2_with fail
  refine cG.out.mono ?_
  rintro e w4 ⟨⟨u, rfl⟩, τ4, hf4, hk4⟩
  have HF := Hd (HGO.out τ4 w4 hf4 hk4)
  clear hf4 hk4 cG
  go_wp2_with fail
  go_ret
  exact HF.out
 ·have HF : Hid (BodyP K τ w gs g fr fp cb (doM K.fs K.ds s) x ys s.steps 0 (.returned (.slice (some ad) n c)) w3) := Hd (.inr ⟨τ3, s3, x3, ys3, hst, hr3, hx3, HK2.out.trans hk3, hd3, hb3, hu3, .inr ⟨hm3, hop, ad, n, c, rfl, hcz⟩⟩)
  clear hx3 hk3 hst hd3 hb3 hu3 hr3 hm3 hop hcz cM
  go_wp2_with fail
  go_ret
  exact HF.out
theorem do_23 (hG : KG K) (h : XI K τ w gs g fr fp cb s x ys) (hm : x.mode = 0) (hl : x.st.length ≤ 9000) (hcs : x.cs.length ≤ 9000) (hdr : s.drawn ≤ 10000) (hev : s.evs.length ≤ 10000) (hyl : ys.length ≤ 9000) (hpc : x.pc ≤ 1000) (bv : Value) (a : Int) (ho : (atM K.fs x).op = 23) (ha : (atM K.fs x).a = a) (q : Nat) (hq : q < K.fn) (haq : a = (q : Int)) (hnp : (fnOf K.fs q).params.length ≤ x.st.length) {v : Nat} (hI : CallC K v) (hok : OkM K.fs K.fuel (doM K.fs K.ds s)) (hsv : K.fuel - s.steps ≤ v) :
  Calls Tryz.prog 134 #[ptrV K.m, ptrV g, .agg #[.int .i64 23, .int .i64 a], bv] w (BodyP K τ w gs g fr fp cb (doM K.fs K.ds s) x ys s.steps 0) := by
 subst haq
 obtain ⟨w1, hw1⟩ : ∃ W, w.alloc (.cells #[.int .i64 23, .int .i64 (q : Int)] 113) = W := ⟨_, rfl⟩
 have hb1 : Below w.heap.size w w1 := by rw [← hw1]; exact (Below.refl _ _).alloc (Nat.le_refl _) _
 have e0 : w1.cell? ⟨w.heap.size, 0, none⟩ = some (.int .i64 23) := by rw [← hw1]; simp [go_sem]
 have e1 : w1.cell? ⟨w.heap.size, 1, none⟩ = some (.int .i64 (q : Int)) := by rw [← hw1]; simp [go_sem]
 have hbl : w.heap.size < w1.heap.size := World.block_lt_of_cell? _ _ e0
 have HX1 := Hd (h.on hb1)
 have HK1 := Hd (Tr.below (T := TT (ys.length + 1)) h.hz hb1)
 have HM := Hd hm
 have HL := Hd hl
 have HG := Hd hG
 have HCL := Hd hcs
 have HDR := Hd hdr
 have HEV := Hd hev
 have HYL := Hd hyl
 have HPC := Hd hpc
 have HFRE := Hd h.fre
 have HZB : Hid (τ w.heap.size = (0, 0)) := Hd (h.hz _ (Nat.le_refl _))
 have HBL := Hd hbl
 have cPc := Hd (zpc HX1.out.fz)
 obtain ⟨m, hkm⟩ : ∃ m, K.m = m := ⟨_, rfl⟩
 have HKM := Hd hkm
 obtain ⟨pcn, hpn⟩ : ∃ p, x.pc = p := ⟨_, rfl⟩
 have HPN := Hd hpn
 have hp9 : (pcn : Int) ≤ 1000 := by omega
 have hp0 : (0 : Int) ≤ (pcn : Int) := by omega
 rw [hkm]
 rw [hpn] at cPc
 have HO := Hd ho
 have HA := Hd ha
 have HQ := Hd hq
 have HNP := Hd hnp
 have HI := Hd hI
 have HOK := Hd hok
 have HSV := Hd hsv
 clear h hm hl hG hcs hdr hev hyl hpc hbl hkm hb1 hpn ha ho hq hnp hI hok hsv
 go_in
 go_wp2_with fail
 refine cPc.out.mono ?_
 rintro e w2 ⟨rfl, hb2⟩
 have f0 := (hb2.cell (p := ⟨w.heap.size, 0, none⟩) HBL.out).trans e0
 have f1 := (hb2.cell (p := ⟨w.heap.size, 1, none⟩) HBL.out).trans e1
 have HX2 := Hd (HX1.out.on hb2)
 have HK2 := Hd (HK1.out.trans (Tr.below HX1.out.hz hb2))
 clear hb2 e0 e1 cPc hw1
 have cM := Hd (calls_23 HI.out HG.out HX2.out HM.out HL.out HOK.out HSV.out q HQ.out HO.out HA.out HNP.out)
 rw [HKM.out] at cM
 go_wp2_with fail
 refine cM.out.mono ?_
 rintro e w3 (hdry | ⟨τ3, s3, x3, ys3, hst, hx3, hk3, hd3, hb3, hu3, hres⟩)
 ·obtain ⟨rfl, hdr⟩ := hdry
  have HF : Hid (BodyP K τ w gs g fr fp cb (doM K.fs K.ds s) x ys s.steps 0 (.panicked dryE) w3) := Hd (.inl (DryP.from ⟨rfl, hdr⟩ (.refl _) HK2.out))
  clear hdr cM
  go_wp2_with fail
  exact ⟨rfl, HF.out⟩
 rcases hres with ⟨hm3, hp3, hr3, rfl⟩ | ⟨hr3, hm3, hop, ad, n, c, rfl, hcz⟩
 ·have cG := Hd (zgo hx3.fz (by omega) hx3.hz (pcn + 1))
  have HX3 := Hd hx3
  have HGO : Hid (∀ τ4 w4, FZ K τ4 (ys3.length + 1) w4 g fr { x3 with pc := pcn + 1 } → Tr (TF (ys3.length + 1)) τ3 w3 τ4 w4 → BodyP K τ w gs g fr fp cb (doM K.fs K.ds s) x ys s.steps 0 (.returned (.slice none 0 0)) w4) := Hd fun τ4 w4 hf4 hk4 => mv_go hx3 (HK2.out.trans hk3) hr3 hf4 hk4 (by rw [hp3, HPN.out]) hd3 hb3 hu3 hm3
  clear hx3 hk3 hst hm3 hp3 hd3 hb3 hu3 hr3 cM
  go_wp2_with fail
  refine cG.out.mono ?_
  rintro e w4 ⟨⟨u, rfl⟩, τ4, hf4, hk4⟩
  have HF := Hd (HGO.out τ4 w4 hf4 hk4)
  clear hf4 hk4 cG
  go_wp2_with fail
  go_ret
  exact HF.out
 ·have HF : Hid (BodyP K τ w gs g fr fp cb (doM K.fs K.ds s) x ys s.steps 0 (.returned (.slice (some ad) n c)) w3) := Hd (.inr ⟨τ3, s3, x3, ys3, hst, hr3, hx3, HK2.out.trans hk3, hd3, hb3, hu3, .inr ⟨hm3, hop, ad, n, c, rfl, hcz⟩⟩)
  clear hx3 hk3 hst hd3 hb3 hu3 hr3 hm3 hop hcz cM
  go_wp2_with fail
  go_ret
  exact HF.out
theorem do_26 (hG : KG K) (h : XI K τ w gs g fr fp cb s x ys) (hm : x.mode = 0) (hl : x.st.length ≤ 9000) (hcs : x.cs.length ≤ 9000) (hdr : s.drawn ≤ 10000) (hev : s.evs.length ≤ 10000) (hyl : ys.length ≤ 9000) (hpc : x.pc ≤ 1000) (bv : Value) (a : Int) (ho : (atM K.fs x).op = 26) (ha : (atM K.fs x).a = a) :
  Calls Tryz.prog 134 #[ptrV K.m, ptrV g, .agg #[.int .i64 26, .int .i64 a], bv] w (BodyP K τ w gs g fr fp cb (doM K.fs K.ds s) x ys s.steps 0) := by
 obtain ⟨w1, hw1⟩ : ∃ W, w.alloc (.cells #[.int .i64 26, .int .i64 a] 113) = W := ⟨_, rfl⟩
 have hb1 : Below w.heap.size w w1 := by rw [← hw1]; exact (Below.refl _ _).alloc (Nat.le_refl _) _
 have e0 : w1.cell? ⟨w.heap.size, 0, none⟩ = some (.int .i64 26) := by rw [← hw1]; simp [go_sem]
 have e1 : w1.cell? ⟨w.heap.size, 1, none⟩ = some (.int .i64 a) := by rw [← hw1]; simp [go_sem]
 have hbl : w.heap.size < w1.heap.size := World.block_lt_of_cell? _ _ e0
 have HX1 := Hd (h.on hb1)
 have HK1 := Hd (Tr.below (T := TT (ys.length + 1)) h.hz hb1)
 have HM := Hd hm
 have HL := Hd hl
 have HG := Hd hG
 have HCL := Hd hcs
 have HDR := Hd hdr
 have HEV := Hd hev
 have HYL := Hd hyl
 have HPC := Hd hpc
 have HFRE := Hd h.fre
 have HZB : Hid (τ w.heap.size = (0, 0)) := Hd (h.hz _ (Nat.le_refl _))
 have HBL := Hd hbl
 have cPc := Hd (zpc HX1.out.fz)
 obtain ⟨m, hkm⟩ : ∃ m, K.m = m := ⟨_, rfl⟩
 have HKM := Hd hkm
 obtain ⟨pcn, hpn⟩ : ∃ p, x.pc = p := ⟨_, rfl⟩
 have HPN := Hd hpn
 have hp9 : (pcn : Int) ≤ 1000 := by omega
 have hp0 : (0 : Int) ≤ (pcn : Int) := by omega
 rw [hkm]
 rw [hpn] at cPc
 have HO := Hd ho
 have HA := Hd ha
 clear h hm hl hG hcs hdr hev hyl hpc hbl hkm hb1 hpn ha ho
 go_in
 go_wp2_with fail
 refine cPc.out.mono ?_
 rintro e w2 ⟨rfl, hb2⟩
 have f0 := (hb2.cell (p := ⟨w.heap.size, 0, none⟩) HBL.out).trans e0
 have f1 := (hb2.cell (p := ⟨w.heap.size, 1, none⟩) HBL.out).trans e1
 have HX2 := Hd (HX1.out.on hb2)
 have HK2 := Hd (HK1.out.trans (Tr.below HX1.out.hz hb2))
 clear hb2 e0 e1 cPc hw1
 have cQ := Hd (zpop HX2.out.fz (by omega) HX2.out.hz HM.out (by have := HL.out; omega))
 go_wp2_with fail
 refine cQ.out.mono ?_
 rintro e w3 ⟨⟨vk, vn, vx, vy⟩, hv, rfl, τ3, hf, hk1⟩
 have HX3 := Hd (HX2.out.own hk1 hf rfl rfl)
 have HK3 := Hd (HK2.out.trans (hk1.mono fun _ => TT.tf))
 have HV : Hid (vn = (topV x.st).n) := Hd (cn_n hv)
 have hvf := vn_fieldZ vk vn vx vy w3
 have cR := Hd (zraise HX3.out.vm HX3.out.env (ys := { x with st := initV x.st } :: ys) ⟨HX3.out.fz.tb, HX3.out.tb⟩ (by have := HYL.out; simp; omega) 1 vn)
 rw [HKM.out] at cR
 clear hf hk1 hv cQ f0 f1
 unfold DV.v
 go_wp2_with fail
 refine cR.out.mono ?_
 rintro e w4 ⟨A, rfl, hcz, hb4⟩
 have HF := Hd (rs_go HX3.out rfl HK3.out hb4 hcz (by rw [doM_26 (ds := K.ds) HFRE.out HO.out, HV.out]))
 clear hcz hb4 cR
 go_wp2_with fail
 go_ret
 exact HF.out
theorem do_op (hG : KG K) (h : XI K τ w gs g fr fp cb s x ys) (hm : x.mode = 0) (hl : x.st.length ≤ 9000) (hcs : x.cs.length ≤ 9000) (hdr : s.drawn ≤ 10000) (hev : s.evs.length ≤ 10000) (hyl : ys.length ≤ 9000) (hpc : x.pc ≤ 1000) (bv : Value) (a : Int) (o : Int) (ho : (atM K.fs x).op = o) (ho6 : 6 ≤ o) (ho20 : o ≤ 20) (ha : (atM K.fs x).a = a) (hk : (arityN o).toNat ≤ x.st.length) :
  Calls Tryz.prog 134 #[ptrV K.m, ptrV g, .agg #[.int .i64 o, .int .i64 a], bv] w (BodyP K τ w gs g fr fp cb (doM K.fs K.ds s) x ys s.steps 0) := by
 obtain ⟨w1, hw1⟩ : ∃ W, w.alloc (.cells #[.int .i64 o, .int .i64 a] 113) = W := ⟨_, rfl⟩
 have hb1 : Below w.heap.size w w1 := by rw [← hw1]; exact (Below.refl _ _).alloc (Nat.le_refl _) _
 have e0 : w1.cell? ⟨w.heap.size, 0, none⟩ = some (.int .i64 o) := by rw [← hw1]; simp [go_sem]
 have e1 : w1.cell? ⟨w.heap.size, 1, none⟩ = some (.int .i64 a) := by rw [← hw1]; simp [go_sem]
 have hbl : w.heap.size < w1.heap.size := World.block_lt_of_cell? _ _ e0
 have HX1 := Hd (h.on hb1)
 have HK1 := Hd (Tr.below (T := TT (ys.length + 1)) h.hz hb1)
 have HM := Hd hm
 have HL := Hd hl
 have HG := Hd hG
 have HCL := Hd hcs
 have HDR := Hd hdr
 have HEV := Hd hev
 have HYL := Hd hyl
 have HPC := Hd hpc
 have HFRE := Hd h.fre
 have HZB : Hid (τ w.heap.size = (0, 0)) := Hd (h.hz _ (Nat.le_refl _))
 have HBL := Hd hbl
 have cPc := Hd (zpc HX1.out.fz)
 obtain ⟨m, hkm⟩ : ∃ m, K.m = m := ⟨_, rfl⟩
 have HKM := Hd hkm
 obtain ⟨pcn, hpn⟩ : ∃ p, x.pc = p := ⟨_, rfl⟩
 have HPN := Hd hpn
 have hp9 : (pcn : Int) ≤ 1000 := by omega
 have hp0 : (0 : Int) ≤ (pcn : Int) := by omega
 rw [hkm]
 rw [hpn] at cPc
 have HO := Hd ho
 have HA := Hd ha
 have HO6 := Hd ho6
 have HO20 := Hd ho20
 have HKA := Hd hk
 have u0 : (o == 0) = false := by rw [beq_eq_false_iff_ne]; omega
 have u1 : (o == 1) = false := by rw [beq_eq_false_iff_ne]; omega
 have u2 : (o == 2) = false := by rw [beq_eq_false_iff_ne]; omega
 have u3 : (o == 3) = false := by rw [beq_eq_false_iff_ne]; omega
 have u4 : (o == 4) = false := by rw [beq_eq_false_iff_ne]; omega
 have u5 : (o == 5) = false := by rw [beq_eq_false_iff_ne]; omega
 have u28 : (o == 28) = false := by rw [beq_eq_false_iff_ne]; omega
 have u29 : (o == 29) = false := by rw [beq_eq_false_iff_ne]; omega
 have u32 : (o == 32) = false := by rw [beq_eq_false_iff_ne]; omega
 have u30 : (o == 30) = false := by rw [beq_eq_false_iff_ne]; omega
 have u31 : (o == 31) = false := by rw [beq_eq_false_iff_ne]; omega
 have u27 : (o == 27) = false := by rw [beq_eq_false_iff_ne]; omega
 have u21 : (o == 21) = false := by rw [beq_eq_false_iff_ne]; omega
 have u22 : (o == 22) = false := by rw [beq_eq_false_iff_ne]; omega
 have u23 : (o == 23) = false := by rw [beq_eq_false_iff_ne]; omega
 have u24 : (o == 24) = false := by rw [beq_eq_false_iff_ne]; omega
 have u26 : (o == 26) = false := by rw [beq_eq_false_iff_ne]; omega
 clear h hm hl hG hcs hdr hev hyl hpc hbl hkm hb1 hpn ha ho6 ho20 hk ho
 go_in
 go_wp2_with fail
 refine cPc.out.mono ?_
 rintro e w2 ⟨rfl, hb2⟩
 have f0 := (hb2.cell (p := ⟨w.heap.size, 0, none⟩) HBL.out).trans e0
 have f1 := (hb2.cell (p := ⟨w.heap.size, 1, none⟩) HBL.out).trans e1
 have HX2 := Hd (HX1.out.on hb2)
 have HK2 := Hd (HK1.out.trans (Tr.below HX1.out.hz hb2))
 clear hb2 e0 e1 cPc hw1
 have cK := Hd (reckon_any HX2.out HM.out HL.out o HO6.out HO20.out HKA.out)
 rw [HKM.out] at cK
 go_wp2_with fail
 refine cK.out.mono ?_
 rintro e w3 ⟨τ3, b, x3, rfl, hx3, hk3, hm3, hp3, hd3, hb3, hres⟩
 have hdo := doM_op (ds := K.ds) HFRE.out (by rw [HO.out]; exact HO6.out) (by rw [HO.out]; exact .inl HO20.out)
 rw [HO.out] at hdo
 rcases hres with ⟨rfl, hrk⟩ | ⟨rfl, hrk, st, hxe⟩
 ·obtain ⟨ys3, hys⟩ : ∃ z, z = ys := ⟨_, rfl⟩
  have hu3 : Und ys ys3 := .inl hys
  rw [← hys] at hx3
  obtain ⟨s3, hs3⟩ : ∃ s3 : Ms, s3 = { s with fr := x3 :: ys3 } := ⟨_, rfl⟩
  rw [← hs3] at hx3
  have hr3 : RchK K (doM K.fs K.ds s) (nextM' s3 x3 ys3) := by rw [hdo, hrk, hs3, hys]; exact .refl _
  have cG := Hd (zgo hx3.fz (by omega) hx3.hz (pcn + 1))
  have HX3 := Hd hx3
  have HGO : Hid (∀ τ4 w4, FZ K τ4 (ys3.length + 1) w4 g fr { x3 with pc := pcn + 1 } → Tr (TF (ys3.length + 1)) τ3 w3 τ4 w4 → BodyP K τ w gs g fr fp cb (doM K.fs K.ds s) x ys s.steps 0 (.returned (.slice none 0 0)) w4) := Hd fun τ4 w4 hf4 hk4 => mv_go hx3 (HK2.out.trans hk3) hr3 hf4 hk4 (by rw [hp3, HPN.out]) hd3 hb3 hu3 hm3
  clear hx3 hk3 hm3 hp3 hd3 hb3 hu3 hr3 cK hdo hrk hs3 hys
  go_wp2_with fail
  refine cG.out.mono ?_
  rintro e w4 ⟨⟨u, rfl⟩, τ4, hf4, hk4⟩
  have HF := Hd (HGO.out τ4 w4 hf4 hk4)
  clear hf4 hk4 cG
  go_wp2_with fail
  go_ret
  exact HF.out
 ·have HX3 := Hd hx3
  have HK3 := Hd (HK2.out.trans hk3)
  have cR := Hd (zraise HX3.out.vm HX3.out.env (ys := x3 :: ys) ⟨HX3.out.fz.tb, HX3.out.tb⟩ (by have := HYL.out; simp; omega) 2 0)
  rw [HKM.out] at cR
  have HXE := Hd hxe
  have HRK := Hd (hdo.trans hrk)
  clear hx3 hk3 hm3 hp3 hd3 hb3 hxe hdo hrk cK
  go_wp2_with fail
  refine cR.out.mono ?_
  rintro e w4 ⟨A, rfl, hcz, hb4⟩
  have HF := Hd (rs_go HX3.out HXE.out HK3.out hb4 hcz HRK.out)
  clear hcz hb4 cR
  go_wp2_with fail
  go_ret
  exact HF.out
end
section
set_option maxRecDepth 100000
set_option maxHeartbeats 2000000
open Go.RowKit
variable {T : Tag → Prop} {K : RK} {τ τ' τ3 τ4 : Nat → Tag} {w w' w3 w4 : World} {gs : List Nat} {g : Nat} {fr fp : Option Addr} {cb L : Nat} {s s' s3 t : Ms} {x x' x3 : Fr} {ys ys' ys3 : List Fr} {ch : List Bl}
theorem load_len : ∀ ys : List Fr, ys.length ≤ loadM ys
 | [] => Nat.le_refl _
 | x :: ys => by
  have := load_len ys
  unfold loadM
  rw [List.length_cons]
  omega
theorem bl_ch : ∀ ys : List Fr, (chOf ys).length ≤ blmM ys
 | [] => Nat.le_refl _
 | x :: ys => by
  unfold blmM chOf
  exact Nat.le_add_right _ _
theorem CallC.mono {u v : Nat} (h : CallC K u) (hv : v ≤ u) : CallC K v := fun τ w gs fr fp cb s ys f A n c l dfd by_ h1 h2 h3 h4 h5 h6 => h τ w gs fr fp cb s ys f A n c l dfd by_ h1 h2 h3 h4 h5 (Nat.le_trans h6 hv)
theorem do_all {v : Nat} (hI : CallC K v) (hG : KG K) (h : XI K τ w gs g fr fp cb s x ys) (hok : OkM K.fs K.fuel s) (hokd : OkM K.fs K.fuel (doM K.fs K.ds s)) (hm : x.mode = 0) (hsv : K.fuel - s.steps ≤ v) (o a : Int) (ho : (atM K.fs x).op = o) (ha : (atM K.fs x).a = a) (h25 : o ≠ 25) :
  Calls Tryz.prog 134 #[ptrV K.m, ptrV g, .agg #[.int .i64 o, .int .i64 a], byV x cb] w (BodyP K τ w gs g fr fp cb (doM K.fs K.ds s) x ys s.steps 0) := by
 have hw := hok.wf.x h.fre
 have hrun := hw.run hm
 obtain ⟨pre, xs, zs, A⟩ := at_run hG.hf hw.t hrun
 have hnd := A.nd
 have hins := A.ins
 have hcalls := A.calls
 have hhit := A.hit
 have hst := A.st
 have hcode : codeAt (fnOf K.fs x.f) x.pc = atM K.fs x := rfl
 have hfn : K.fs.length = K.fn := hG.pg.pg.len
 have hcl : (fnOf K.fs x.f).code.length ≤ 150 := by
  have hf := hG.pg.pg.sm _ (fnOf_mem hw.t.fn)
  unfold smallF smallB at hf
  simp only [Bool.and_eq_true, decide_eq_true_eq] at hf
  omega
 have hfu := hG.fu
 have hsf := hok.fu
 have hld := hok.sz.load
 have hbl := hok.sz.blm
 rw [h.fre] at hld hbl
 have hl1 : loadM (x :: ys) = x.cs.length + 1 + loadM ys := rfl
 have hl2 : blmM (x :: ys) = x.ch.length + blmM ys := rfl
 have hl3 := load_len ys
 have hl4 := bl_ch ys
 have bl : x.st.length ≤ 9000 := by have := hrun.le; omega
 have bcs : x.cs.length ≤ 9000 := by omega
 have bdr : s.drawn ≤ 10000 := by have := hok.sz.drawn; omega
 have bev : s.evs.length ≤ 10000 := by have := hok.sz.evs; omega
 have byl : ys.length ≤ 9000 := by omega
 have bpc : x.pc ≤ 1000 := by have := hrun.pc; omega
 have bch : (chOf ys).length ≤ 3000 := by omega
 have hlen : x.st.length = pre.length + xs.length := by rw [← List.length_append, ← hst, List.length_map]
 rw [ho, ha] at hnd
 rw [ho] at hcalls
 have h1' := hins.1
 have h2' := hins.2.1
 rw [ho] at h1' h2'
 have hop := hnd.opens
 by_cases h21 : o = 21
 ·subst h21
  obtain ⟨p, hp, hpl, _⟩ := hhit a (by unfold nextM; rw [hcode, ho, ha, if_pos rfl]; simp)
  exact do_21 hG h hm bl bcs bdr bev byl bpc _ a ho ha p hp (by omega)
 by_cases h22 : o = 22
 ·subst h22
  obtain ⟨p, hp, hpl, _⟩ := hhit a (by
   unfold nextM
   rw [hcode, ho, ha, if_neg (by omega)]
   by_cases e2 : a = (x.pc : Int) + 1
   ·rw [if_neg (fun h => h.2 e2), if_neg (by omega), if_neg (by omega), e2]; simp
   ·rw [if_pos ⟨rfl, e2⟩]; simp)
  exact do_22 hG h hm bl bcs bdr bev byl bpc _ a ho ha p hp (by omega)
 by_cases h23 : o = 23
 ·subst h23
  obtain ⟨q, gq, hq, hg, rfl, rfl⟩ := hnd.call rfl
  have hgf := fnOf_of hg
  have hql := (List.getElem?_eq_some_iff.1 hg).1
  exact do_23 hG h hm bl bcs bdr bev byl bpc _ a ho ha q (by omega) hq (by rw [hgf]; omega) hI hokd hsv
 by_cases h24 : o = 24
 ·subst h24
  obtain ⟨q, gq, hq, hg, rfl, rfl⟩ := hnd.later rfl
  have hgf := fnOf_of hg
  have hql := (List.getElem?_eq_some_iff.1 hg).1
  exact do_24 hG h hm bl bcs bdr bev byl bpc _ a ho ha q (by omega) hq (by rw [hgf]; omega)
 have hinn : ∀ hi : (fnOf K.fs x.f).inner = true, x.dfd = true := fun hi => by
  have hun := hw.un
  cases hd : x.dfd with
  | true => rfl
  | false =>
   cases ys with
   | nil => exact absurd hun.2 (by rw [hi]; simp)
   | cons y r => exact absurd (hun.2.2.1 hd).2.2 (by rw [hi]; simp)
 by_cases h28 : o = 28
 ·subst h28
  obtain ⟨q, t, hq, hi, _⟩ := hnd.get_ rfl
  exact do_28 hG h hm bl bcs bdr bev byl bpc _ a ho ha (hinn hi)
 by_cases h29 : o = 29
 ·subst h29
  obtain ⟨q, t, hq, hi, _⟩ := hnd.set_ rfl
  exact do_29 hG h hm bl bcs bdr bev byl bpc _ a ho ha (hinn hi)
 by_cases h27 : o = 27
 ·subst h27
  cases hb : x.by_ with
  | true =>
   have : byV x cb = .pointer (some ⟨cb, 0, none⟩) := by unfold byV; rw [if_pos hb]
   rw [this]
   exact do_27 hG h hm bl bcs bdr bev byl bpc a ho ha hb bch
  | false =>
   have : byV x cb = .pointer none := by unfold byV; rw [if_neg (by rw [hb]; simp)]
   rw [this]
   exact do_27n hG h hm bl bcs bdr bev byl bpc a ho ha hb
 by_cases h0 : o = 0
 ·subst h0
  exact do_0 hG h hm bl bcs bdr bev byl bpc _ a ho ha
 by_cases h1 : o = 1
 ·subst h1
  exact do_1 hG h hm bl bcs bdr bev byl bpc _ a ho ha
 by_cases h2 : o = 2
 ·subst h2
  exact do_2 hG h hm bl bcs bdr bev byl bpc _ a ho ha
 by_cases h3 : o = 3
 ·subst h3
  exact do_3 hG h hm bl bcs bdr bev byl bpc _ a ho ha
 by_cases h4 : o = 4
 ·subst h4
  exact do_4 hG h hm bl bcs bdr bev byl bpc _ a ho ha
 by_cases h5 : o = 5
 ·subst h5
  exact do_5 hG h hm bl bcs bdr bev byl bpc _ a ho ha
 by_cases h26 : o = 26
 ·subst h26
  exact do_26 hG h hm bl bcs bdr bev byl bpc _ a ho ha
 by_cases h30 : o = 30
 ·subst h30
  exact do_30 hG h hm bl bcs bdr bev byl bpc _ a ho ha
 by_cases h31 : o = 31
 ·subst h31
  exact do_31 hG h hm bl bcs bdr bev byl bpc _ a ho ha
 by_cases h32 : o = 32
 ·subst h32
  exact do_32 hG h hm bl bcs bdr bev byl bpc _ a ho ha
 have hr : 6 ≤ o ∧ o ≤ 20 := by omega
 obtain ⟨rfl, rfl⟩ := hnd.rest (by omega) (by omega) (by omega) (by omega) (by omega) (by omega) (by omega) (by omega)
 obtain ⟨e1, e2⟩ := eff_ops hr.1 hr.2
 exact do_op hG h hm bl bcs bdr bev byl bpc _ a o ho hr.1 hr.2 ha (by omega)
end
end Go.Proofs.YtobmjnmcjddhcaaGreat
