import Derived.Test.YtobmjnmcjddhcaaGreatRg31
set_option linter.unusedSimpArgs false
set_option linter.unusedVariables false
set_option maxRecDepth 100000
set_option maxHeartbeats 8000000
namespace Go.Proofs.YtobmjnmcjddhcaaGreat
open Go.RowKit
variable {T : Tag → Prop} {K : RK} {τ τ' τ3 τ4 : Nat → Tag} {w w' w3 w4 : World} {gs : List Nat} {g : Nat} {fr fp : Option Addr} {cb L : Nat} {s s' s3 t : Ms} {x x' x3 : Fr} {ys ys' ys3 : List Fr} {ch : List Bl}
theorem rch_steps (r : RchK K (doM K.fs K.ds s) t) : s.steps ≤ t.steps := by
 have h1 := reach_steps r
 have h2 := (do_sz K.fs K.ds s).2.2.2.2
 omega
theorem mv_go {p : Nat} (hx : XI K τ3 w3 gs g fr fp cb s3 x3 ys3) (hk : Tr (TT (ys.length + 1)) τ w τ3 w3) (hr : RchK K (doM K.fs K.ds s) (nextM' s3 x3 ys3)) (hf : FZ K τ4 (ys3.length + 1) w4 g fr { x3 with pc := p }) (hk4 : Tr (TF (ys3.length + 1)) τ3 w3 τ4 w4) (hp : x3.pc + 1 = p) (hd : x3.dfd = x.dfd) (hb : x3.by_ = x.by_) (hu : Und ys ys3) (hm : x3.mode = 0) : BodyP K τ w gs g fr fp cb (doM K.fs K.ds s) x ys s.steps 0 (.returned (.slice none 0 0)) w4 := by
 subst hp
 have h1 := hx.own hk4 hf rfl rfl
 have e : nextM' s3 x3 ys3 = { s3 with fr := { x3 with pc := x3.pc + 1 } :: ys3 } := rfl
 rw [e] at hr
 refine .inr ⟨τ4, _, _, ys3, rch_steps hr, hr, h1, hk.trans (hk4.mono fun t ht => TT.tf (by rw [← hu.len]; exact ht)), hd, hb, hu, .inl ⟨hm, rfl⟩⟩
theorem jp_go {p : Nat} {x3 : Fr} (hx : XI K τ3 w3 gs g fr fp cb s3 x3 ys) (hk : Tr (TT (ys.length + 1)) τ w τ3 w3) (hf : FZ K τ4 (ys.length + 1) w4 g fr { x3 with pc := p }) (hk4 : Tr (TF (ys.length + 1)) τ3 w3 τ4 w4) (hd : x3.dfd = x.dfd) (hb : x3.by_ = x.by_) (hm : x3.mode = 0) (hr : doM K.fs K.ds s = { s3 with fr := { x3 with pc := p } :: ys }) : BodyP K τ w gs g fr fp cb (doM K.fs K.ds s) x ys s.steps 0 (.returned (.slice none 0 0)) w4 := by
 have h1 := hx.own hk4 hf rfl rfl
 have hrr : RchK K (doM K.fs K.ds s) { s3 with fr := { x3 with pc := p } :: ys } := by rw [hr]; exact .refl _
 exact .inr ⟨τ4, _, _, ys, rch_steps hrr, hrr, h1, hk.trans (hk4.mono fun t => TT.tf), hd, hb, .inl rfl, .inl ⟨hm, rfl⟩⟩
theorem rs_go {A : Option Addr} {k n : Int} {n' c : Nat} {x3 : Fr} {st : List DV} (hx : XI K τ3 w3 gs g fr fp cb { s with fr := x3 :: ys } x3 ys) (hx3 : x3 = { x with st := st }) (hk : Tr (TT (ys.length + 1)) τ w τ3 w3) (hb : Below w3.heap.size w3 w4) (hc : ChZ τ3 w4 A n' c [⟨k, n, false, traceM K.fs (x3 :: ys)⟩]) (hr : doM K.fs K.ds s = raiseM K.fs s x ys k n) : BodyP K τ w gs g fr fp cb (doM K.fs K.ds s) x ys s.steps 0 (.returned (.slice A n' c)) w4 := by
 subst hx3
 obtain ⟨ad, rfl⟩ := hc.some_ rfl
 have hrr : RchK K (doM K.fs K.ds s) (raiseM K.fs s x ys k n) := by rw [hr]; exact .refl _
 refine .inr ⟨τ3, _, { x with st := [], mode := 2, ch := [⟨k, n, false, traceM K.fs (x :: ys)⟩] }, ys, rch_steps hrr, hrr, (hx.on hb).ms (fun hf => hf.leave (by decide)) rfl rfl rfl rfl rfl rfl, hk.trans (Tr.below hx.hz hb), rfl, rfl, .inl rfl, .inr ⟨rfl, rfl, ad, n', c, rfl, hc⟩⟩
theorem do_0 (hG : KG K) (h : XI K τ w gs g fr fp cb s x ys) (hm : x.mode = 0) (hl : x.st.length ≤ 9000) (hcs : x.cs.length ≤ 9000) (hdr : s.drawn ≤ 10000) (hev : s.evs.length ≤ 10000) (hyl : ys.length ≤ 9000) (hpc : x.pc ≤ 1000) (bv : Value) (a : Int) (ho : (atM K.fs x).op = 0) (ha : (atM K.fs x).a = a) :
  Calls Tryz.prog 134 #[ptrV K.m, ptrV g, .agg #[.int .i64 0, .int .i64 a], bv] w (BodyP K τ w gs g fr fp cb (doM K.fs K.ds s) x ys s.steps 0) := by
 obtain ⟨w1, hw1⟩ : ∃ W, w.alloc (.cells #[.int .i64 0, .int .i64 a] 113) = W := ⟨_, rfl⟩
 have hb1 : Below w.heap.size w w1 := by rw [← hw1]; exact (Below.refl _ _).alloc (Nat.le_refl _) _
 have e0 : w1.cell? ⟨w.heap.size, 0, none⟩ = some (.int .i64 0) := by rw [← hw1]; simp [go_sem]
 have e1 : w1.cell? ⟨w.heap.size, 1, none⟩ = some (.int .i64 a) := by rw [← hw1]; simp [go_sem]
 have hbl : w.heap.size < w1.heap.size := World.block_lt_of_cell? _ _ e0
 have HX1 := Hd (h.on hb1)
 have HK1 := Hd (Tr.below (T := TT (ys.length + 1)) h.hz hb1)
 have HM := Hd hm
 have HL := Hd hl
 have HG := Hd hG
 have HCL := Hd hcs
 have HDR := Hd hdr
 have HEV := Hd hev
 have HYL := Hd hyl
 have HPC := Hd hpc
 have HFRE := Hd h.fre
 have HBL := Hd hbl
 have cPc := Hd (zpc HX1.out.fz)
 obtain ⟨m, hkm⟩ : ∃ m, K.m = m := ⟨_, rfl⟩
 have HKM := Hd hkm
 obtain ⟨pcn, hpn⟩ : ∃ p, x.pc = p := ⟨_, rfl⟩
 have HPN := Hd hpn
 have hp9 : (pcn : Int) ≤ 1000 := by omega
 have hp0 : (0 : Int) ≤ (pcn : Int) := by omega
 rw [hkm]
 rw [hpn] at cPc
 have HO := Hd ho
 have HA := Hd ha
 clear h hm hl hG hcs hdr hev hyl hpc hbl hkm hb1 hpn ha ho
 go_in
 go_wp2_with fail
 refine cPc.out.mono ?_
 rintro e w2 ⟨rfl, hb2⟩
 have f0 := (hb2.cell (p := ⟨w.heap.size, 0, none⟩) HBL.out).trans e0
 have f1 := (hb2.cell (p := ⟨w.heap.size, 1, none⟩) HBL.out).trans e1
 have HX2 := Hd (HX1.out.on hb2)
 have HK2 := Hd (HK1.out.trans (Tr.below HX1.out.hz hb2))
 clear hb2 e0 e1 cPc hw1
 have hd := HO.out
 have hx3 := HX2.out
 have hdd := doM_0 (ds := K.ds) HFRE.out hd
 obtain ⟨w3, hw3⟩ : ∃ z, w2 = z := ⟨_, rfl⟩
 subst hw3
 have HF3 : Hid (∀ τ4 w4, FZ K τ4 (ys.length + 1) w4 g fr { x with pc := pcn + 1 } → Tr (TF (ys.length + 1)) τ w2 τ4 w4 → BodyP K τ w gs g fr fp cb (doM K.fs K.ds s) x ys s.steps 0 (.returned (.slice none 0 0)) w4) := Hd fun τ4 w4 hf4 hk4 => mv_go HX2.out HK2.out (by rw [hdd]; exact .refl _) hf4 hk4 (by rw [HPN.out]) rfl rfl (.inl rfl) HM.out
 have cG := Hd (zgo hx3.fz (by omega) hx3.hz (pcn + 1))
 clear hd hx3 hdd
 go_wp2_with fail
 refine cG.out.mono ?_
 rintro e w4 ⟨⟨u, rfl⟩, τ4, hf4, hk4⟩
 have HF := Hd (HF3.out τ4 w4 hf4 hk4)
 clear hf4 hk4 cG
 go_wp2_with fail
 go_ret
 exact HF.out
theorem do_1 (hG : KG K) (h : XI K τ w gs g fr fp cb s x ys) (hm : x.mode = 0) (hl : x.st.length ≤ 9000) (hcs : x.cs.length ≤ 9000) (hdr : s.drawn ≤ 10000) (hev : s.evs.length ≤ 10000) (hyl : ys.length ≤ 9000) (hpc : x.pc ≤ 1000) (bv : Value) (a : Int) (ho : (atM K.fs x).op = 1) (ha : (atM K.fs x).a = a) :
  Calls Tryz.prog 134 #[ptrV K.m, ptrV g, .agg #[.int .i64 1, .int .i64 a], bv] w (BodyP K τ w gs g fr fp cb (doM K.fs K.ds s) x ys s.steps 0) := by
 obtain ⟨w1, hw1⟩ : ∃ W, w.alloc (.cells #[.int .i64 1, .int .i64 a] 113) = W := ⟨_, rfl⟩
 have hb1 : Below w.heap.size w w1 := by rw [← hw1]; exact (Below.refl _ _).alloc (Nat.le_refl _) _
 have e0 : w1.cell? ⟨w.heap.size, 0, none⟩ = some (.int .i64 1) := by rw [← hw1]; simp [go_sem]
 have e1 : w1.cell? ⟨w.heap.size, 1, none⟩ = some (.int .i64 a) := by rw [← hw1]; simp [go_sem]
 have hbl : w.heap.size < w1.heap.size := World.block_lt_of_cell? _ _ e0
 have HX1 := Hd (h.on hb1)
 have HK1 := Hd (Tr.below (T := TT (ys.length + 1)) h.hz hb1)
 have HM := Hd hm
 have HL := Hd hl
 have HG := Hd hG
 have HCL := Hd hcs
 have HDR := Hd hdr
 have HEV := Hd hev
 have HYL := Hd hyl
 have HPC := Hd hpc
 have HFRE := Hd h.fre
 have HBL := Hd hbl
 have cPc := Hd (zpc HX1.out.fz)
 obtain ⟨m, hkm⟩ : ∃ m, K.m = m := ⟨_, rfl⟩
 have HKM := Hd hkm
 obtain ⟨pcn, hpn⟩ : ∃ p, x.pc = p := ⟨_, rfl⟩
 have HPN := Hd hpn
 have hp9 : (pcn : Int) ≤ 1000 := by omega
 have hp0 : (0 : Int) ≤ (pcn : Int) := by omega
 rw [hkm]
 rw [hpn] at cPc
 have HO := Hd ho
 have HA := Hd ha
 clear h hm hl hG hcs hdr hev hyl hpc hbl hkm hb1 hpn ha ho
 go_in
 go_wp2_with fail
 refine cPc.out.mono ?_
 rintro e w2 ⟨rfl, hb2⟩
 have f0 := (hb2.cell (p := ⟨w.heap.size, 0, none⟩) HBL.out).trans e0
 have f1 := (hb2.cell (p := ⟨w.heap.size, 1, none⟩) HBL.out).trans e1
 have HX2 := Hd (HX1.out.on hb2)
 have HK2 := Hd (HK1.out.trans (Tr.below HX1.out.hz hb2))
 clear hb2 e0 e1 cPc hw1
 have cM := Hd (move_1 HG.out HX2.out HM.out HL.out (by have := HDR.out; omega) a HO.out HA.out)
 rw [HKM.out] at cM
 go_wp2_with fail
 refine (cM.out).mono ?_
 rintro e w3 ⟨⟨u, rfl⟩, τ3, s3, x3, ys3, hx3, hk3, ht3, hm3, hp3, hd3, hb3, hu3⟩
 have hr3 : RchK K (doM K.fs K.ds s) (nextM' s3 x3 ys3) := by rw [ht3]; exact .refl _
 have cG := Hd (zgo hx3.fz (by omega) hx3.hz (pcn + 1))
 have HX3 := Hd hx3
 have HGO : Hid (∀ τ4 w4, FZ K τ4 (ys3.length + 1) w4 g fr { x3 with pc := pcn + 1 } → Tr (TF (ys3.length + 1)) τ3 w3 τ4 w4 → BodyP K τ w gs g fr fp cb (doM K.fs K.ds s) x ys s.steps 0 (.returned (.slice none 0 0)) w4) := Hd fun τ4 w4 hf4 hk4 => mv_go hx3 (HK2.out.trans hk3) hr3 hf4 hk4 (by rw [hp3, HPN.out]) hd3 hb3 hu3 hm3
 clear hx3 hk3 ht3 hm3 hp3 hd3 hb3 hu3 hr3
 go_wp2_with fail
 refine cG.out.mono ?_
 rintro e w4 ⟨⟨u, rfl⟩, τ4, hf4, hk4⟩
 have HF := Hd (HGO.out τ4 w4 hf4 hk4)
 clear hf4 hk4 cG
 go_wp2_with fail
 go_ret
 exact HF.out
theorem do_2 (hG : KG K) (h : XI K τ w gs g fr fp cb s x ys) (hm : x.mode = 0) (hl : x.st.length ≤ 9000) (hcs : x.cs.length ≤ 9000) (hdr : s.drawn ≤ 10000) (hev : s.evs.length ≤ 10000) (hyl : ys.length ≤ 9000) (hpc : x.pc ≤ 1000) (bv : Value) (a : Int) (ho : (atM K.fs x).op = 2) (ha : (atM K.fs x).a = a) :
  Calls Tryz.prog 134 #[ptrV K.m, ptrV g, .agg #[.int .i64 2, .int .i64 a], bv] w (BodyP K τ w gs g fr fp cb (doM K.fs K.ds s) x ys s.steps 0) := by
 obtain ⟨w1, hw1⟩ : ∃ W, w.alloc (.cells #[.int .i64 2, .int .i64 a] 113) = W := ⟨_, rfl⟩
 have hb1 : Below w.heap.size w w1 := by rw [← hw1]; exact (Below.refl _ _).alloc (Nat.le_refl _) _
 have e0 : w1.cell? ⟨w.heap.size, 0, none⟩ = some (.int .i64 2) := by rw [← hw1]; simp [go_sem]
 have e1 : w1.cell? ⟨w.heap.size, 1, none⟩ = some (.int .i64 a) := by rw [← hw1]; simp [go_sem]
 have hbl : w.heap.size < w1.heap.size := World.block_lt_of_cell? _ _ e0
 have HX1 := Hd (h.on hb1)
 have HK1 := Hd (Tr.below (T := TT (ys.length + 1)) h.hz hb1)
 have HM := Hd hm
 have HL := Hd hl
 have HG := Hd hG
 have HCL := Hd hcs
 have HDR := Hd hdr
 have HEV := Hd hev
 have HYL := Hd hyl
 have HPC := Hd hpc
 have HFRE := Hd h.fre
 have HBL := Hd hbl
 have cPc := Hd (zpc HX1.out.fz)
 obtain ⟨m, hkm⟩ : ∃ m, K.m = m := ⟨_, rfl⟩
 have HKM := Hd hkm
 obtain ⟨pcn, hpn⟩ : ∃ p, x.pc = p := ⟨_, rfl⟩
 have HPN := Hd hpn
 have hp9 : (pcn : Int) ≤ 1000 := by omega
 have hp0 : (0 : Int) ≤ (pcn : Int) := by omega
 rw [hkm]
 rw [hpn] at cPc
 have HO := Hd ho
 have HA := Hd ha
 clear h hm hl hG hcs hdr hev hyl hpc hbl hkm hb1 hpn ha ho
 go_in
 go_wp2_with fail
 refine cPc.out.mono ?_
 rintro e w2 ⟨rfl, hb2⟩
 have f0 := (hb2.cell (p := ⟨w.heap.size, 0, none⟩) HBL.out).trans e0
 have f1 := (hb2.cell (p := ⟨w.heap.size, 1, none⟩) HBL.out).trans e1
 have HX2 := Hd (HX1.out.on hb2)
 have HK2 := Hd (HK1.out.trans (Tr.below HX1.out.hz hb2))
 clear hb2 e0 e1 cPc hw1
 have cM := Hd (move_2 HG.out HX2.out HM.out HL.out (by have := HDR.out; omega) a HO.out HA.out)
 rw [HKM.out] at cM
 go_wp2_with fail
 refine (cM.out).mono ?_
 rintro e w3 ⟨⟨u, rfl⟩, τ3, s3, x3, ys3, hx3, hk3, ht3, hm3, hp3, hd3, hb3, hu3⟩
 have hr3 : RchK K (doM K.fs K.ds s) (nextM' s3 x3 ys3) := by rw [ht3]; exact .refl _
 have cG := Hd (zgo hx3.fz (by omega) hx3.hz (pcn + 1))
 have HX3 := Hd hx3
 have HGO : Hid (∀ τ4 w4, FZ K τ4 (ys3.length + 1) w4 g fr { x3 with pc := pcn + 1 } → Tr (TF (ys3.length + 1)) τ3 w3 τ4 w4 → BodyP K τ w gs g fr fp cb (doM K.fs K.ds s) x ys s.steps 0 (.returned (.slice none 0 0)) w4) := Hd fun τ4 w4 hf4 hk4 => mv_go hx3 (HK2.out.trans hk3) hr3 hf4 hk4 (by rw [hp3, HPN.out]) hd3 hb3 hu3 hm3
 clear hx3 hk3 ht3 hm3 hp3 hd3 hb3 hu3 hr3
 go_wp2_with fail
 refine cG.out.mono ?_
 rintro e w4 ⟨⟨u, rfl⟩, τ4, hf4, hk4⟩
 have HF := Hd (HGO.out τ4 w4 hf4 hk4)
 clear hf4 hk4 cG
 go_wp2_with fail
 go_ret
 exact HF.out
theorem do_3 (hG : KG K) (h : XI K τ w gs g fr fp cb s x ys) (hm : x.mode = 0) (hl : x.st.length ≤ 9000) (hcs : x.cs.length ≤ 9000) (hdr : s.drawn ≤ 10000) (hev : s.evs.length ≤ 10000) (hyl : ys.length ≤ 9000) (hpc : x.pc ≤ 1000) (bv : Value) (a : Int) (ho : (atM K.fs x).op = 3) (ha : (atM K.fs x).a = a) :
  Calls Tryz.prog 134 #[ptrV K.m, ptrV g, .agg #[.int .i64 3, .int .i64 a], bv] w (BodyP K τ w gs g fr fp cb (doM K.fs K.ds s) x ys s.steps 0) := by
 obtain ⟨w1, hw1⟩ : ∃ W, w.alloc (.cells #[.int .i64 3, .int .i64 a] 113) = W := ⟨_, rfl⟩
 have hb1 : Below w.heap.size w w1 := by rw [← hw1]; exact (Below.refl _ _).alloc (Nat.le_refl _) _
 have e0 : w1.cell? ⟨w.heap.size, 0, none⟩ = some (.int .i64 3) := by rw [← hw1]; simp [go_sem]
 have e1 : w1.cell? ⟨w.heap.size, 1, none⟩ = some (.int .i64 a) := by rw [← hw1]; simp [go_sem]
 have hbl : w.heap.size < w1.heap.size := World.block_lt_of_cell? _ _ e0
 have HX1 := Hd (h.on hb1)
 have HK1 := Hd (Tr.below (T := TT (ys.length + 1)) h.hz hb1)
 have HM := Hd hm
 have HL := Hd hl
 have HG := Hd hG
 have HCL := Hd hcs
 have HDR := Hd hdr
 have HEV := Hd hev
 have HYL := Hd hyl
 have HPC := Hd hpc
 have HFRE := Hd h.fre
 have HBL := Hd hbl
 have cPc := Hd (zpc HX1.out.fz)
 obtain ⟨m, hkm⟩ : ∃ m, K.m = m := ⟨_, rfl⟩
 have HKM := Hd hkm
 obtain ⟨pcn, hpn⟩ : ∃ p, x.pc = p := ⟨_, rfl⟩
 have HPN := Hd hpn
 have hp9 : (pcn : Int) ≤ 1000 := by omega
 have hp0 : (0 : Int) ≤ (pcn : Int) := by omega
 rw [hkm]
 rw [hpn] at cPc
 have HO := Hd ho
 have HA := Hd ha
 clear h hm hl hG hcs hdr hev hyl hpc hbl hkm hb1 hpn ha ho
 go_in
 go_wp2_with fail
 refine cPc.out.mono ?_
 rintro e w2 ⟨rfl, hb2⟩
 have f0 := (hb2.cell (p := ⟨w.heap.size, 0, none⟩) HBL.out).trans e0
 have f1 := (hb2.cell (p := ⟨w.heap.size, 1, none⟩) HBL.out).trans e1
 have HX2 := Hd (HX1.out.on hb2)
 have HK2 := Hd (HK1.out.trans (Tr.below HX1.out.hz hb2))
 clear hb2 e0 e1 cPc hw1
 have cM := Hd (move_3 HG.out HX2.out HM.out HL.out (by have := HDR.out; omega) a HO.out HA.out)
 rw [HKM.out] at cM
 go_wp2_with fail
 refine (cM.out).mono ?_
 rintro e w3 ⟨⟨u, rfl⟩, τ3, s3, x3, ys3, hx3, hk3, ht3, hm3, hp3, hd3, hb3, hu3⟩
 have hr3 : RchK K (doM K.fs K.ds s) (nextM' s3 x3 ys3) := by rw [ht3]; exact .refl _
 have cG := Hd (zgo hx3.fz (by omega) hx3.hz (pcn + 1))
 have HX3 := Hd hx3
 have HGO : Hid (∀ τ4 w4, FZ K τ4 (ys3.length + 1) w4 g fr { x3 with pc := pcn + 1 } → Tr (TF (ys3.length + 1)) τ3 w3 τ4 w4 → BodyP K τ w gs g fr fp cb (doM K.fs K.ds s) x ys s.steps 0 (.returned (.slice none 0 0)) w4) := Hd fun τ4 w4 hf4 hk4 => mv_go hx3 (HK2.out.trans hk3) hr3 hf4 hk4 (by rw [hp3, HPN.out]) hd3 hb3 hu3 hm3
 clear hx3 hk3 ht3 hm3 hp3 hd3 hb3 hu3 hr3
 go_wp2_with fail
 refine cG.out.mono ?_
 rintro e w4 ⟨⟨u, rfl⟩, τ4, hf4, hk4⟩
 have HF := Hd (HGO.out τ4 w4 hf4 hk4)
 clear hf4 hk4 cG
 go_wp2_with fail
 go_ret
 exact HF.out
theorem do_4 (hG : KG K) (h : XI K τ w gs g fr fp cb s x ys) (hm : x.mode = 0) (hl : x.st.length ≤ 9000) (hcs : x.cs.length ≤ 9000) (hdr : s.drawn ≤ 10000) (hev : s.evs.length ≤ 10000) (hyl : ys.length ≤ 9000) (hpc : x.pc ≤ 1000) (bv : Value) (a : Int) (ho : (atM K.fs x).op = 4) (ha : (atM K.fs x).a = a) :
  Calls Tryz.prog 134 #[ptrV K.m, ptrV g, .agg #[.int .i64 4, .int .i64 a], bv] w (BodyP K τ w gs g fr fp cb (doM K.fs K.ds s) x ys s.steps 0) := by
 obtain ⟨w1, hw1⟩ : ∃ W, w.alloc (.cells #[.int .i64 4, .int .i64 a] 113) = W := ⟨_, rfl⟩
 have hb1 : Below w.heap.size w w1 := by rw [← hw1]; exact (Below.refl _ _).alloc (Nat.le_refl _) _
 have e0 : w1.cell? ⟨w.heap.size, 0, none⟩ = some (.int .i64 4) := by rw [← hw1]; simp [go_sem]
 have e1 : w1.cell? ⟨w.heap.size, 1, none⟩ = some (.int .i64 a) := by rw [← hw1]; simp [go_sem]
 have hbl : w.heap.size < w1.heap.size := World.block_lt_of_cell? _ _ e0
 have HX1 := Hd (h.on hb1)
 have HK1 := Hd (Tr.below (T := TT (ys.length + 1)) h.hz hb1)
 have HM := Hd hm
 have HL := Hd hl
 have HG := Hd hG
 have HCL := Hd hcs
 have HDR := Hd hdr
 have HEV := Hd hev
 have HYL := Hd hyl
 have HPC := Hd hpc
 have HFRE := Hd h.fre
 have HBL := Hd hbl
 have cPc := Hd (zpc HX1.out.fz)
 obtain ⟨m, hkm⟩ : ∃ m, K.m = m := ⟨_, rfl⟩
 have HKM := Hd hkm
 obtain ⟨pcn, hpn⟩ : ∃ p, x.pc = p := ⟨_, rfl⟩
 have HPN := Hd hpn
 have hp9 : (pcn : Int) ≤ 1000 := by omega
 have hp0 : (0 : Int) ≤ (pcn : Int) := by omega
 rw [hkm]
 rw [hpn] at cPc
 have HO := Hd ho
 have HA := Hd ha
 clear h hm hl hG hcs hdr hev hyl hpc hbl hkm hb1 hpn ha ho
 go_in
 go_wp2_with fail
 refine cPc.out.mono ?_
 rintro e w2 ⟨rfl, hb2⟩
 have f0 := (hb2.cell (p := ⟨w.heap.size, 0, none⟩) HBL.out).trans e0
 have f1 := (hb2.cell (p := ⟨w.heap.size, 1, none⟩) HBL.out).trans e1
 have HX2 := Hd (HX1.out.on hb2)
 have HK2 := Hd (HK1.out.trans (Tr.below HX1.out.hz hb2))
 clear hb2 e0 e1 cPc hw1
 have cM := Hd (move_4 HG.out HX2.out HM.out HL.out (by have := HDR.out; omega) a HO.out HA.out)
 rw [HKM.out] at cM
 go_wp2_with fail
 refine (cM.out).mono ?_
 rintro e w3 ⟨⟨u, rfl⟩, τ3, s3, x3, ys3, hx3, hk3, ht3, hm3, hp3, hd3, hb3, hu3⟩
 have hr3 : RchK K (doM K.fs K.ds s) (nextM' s3 x3 ys3) := by rw [ht3]; exact .refl _
 have cG := Hd (zgo hx3.fz (by omega) hx3.hz (pcn + 1))
 have HX3 := Hd hx3
 have HGO : Hid (∀ τ4 w4, FZ K τ4 (ys3.length + 1) w4 g fr { x3 with pc := pcn + 1 } → Tr (TF (ys3.length + 1)) τ3 w3 τ4 w4 → BodyP K τ w gs g fr fp cb (doM K.fs K.ds s) x ys s.steps 0 (.returned (.slice none 0 0)) w4) := Hd fun τ4 w4 hf4 hk4 => mv_go hx3 (HK2.out.trans hk3) hr3 hf4 hk4 (by rw [hp3, HPN.out]) hd3 hb3 hu3 hm3
 clear hx3 hk3 ht3 hm3 hp3 hd3 hb3 hu3 hr3
 go_wp2_with fail
 refine cG.out.mono ?_
 rintro e w4 ⟨⟨u, rfl⟩, τ4, hf4, hk4⟩
 have HF := Hd (HGO.out τ4 w4 hf4 hk4)
 clear hf4 hk4 cG
 go_wp2_with fail
 go_ret
 exact HF.out
theorem do_5 (hG : KG K) (h : XI K τ w gs g fr fp cb s x ys) (hm : x.mode = 0) (hl : x.st.length ≤ 9000) (hcs : x.cs.length ≤ 9000) (hdr : s.drawn ≤ 10000) (hev : s.evs.length ≤ 10000) (hyl : ys.length ≤ 9000) (hpc : x.pc ≤ 1000) (bv : Value) (a : Int) (ho : (atM K.fs x).op = 5) (ha : (atM K.fs x).a = a) :
  Calls Tryz.prog 134 #[ptrV K.m, ptrV g, .agg #[.int .i64 5, .int .i64 a], bv] w (BodyP K τ w gs g fr fp cb (doM K.fs K.ds s) x ys s.steps 0) := by
 obtain ⟨w1, hw1⟩ : ∃ W, w.alloc (.cells #[.int .i64 5, .int .i64 a] 113) = W := ⟨_, rfl⟩
 have hb1 : Below w.heap.size w w1 := by rw [← hw1]; exact (Below.refl _ _).alloc (Nat.le_refl _) _
 have e0 : w1.cell? ⟨w.heap.size, 0, none⟩ = some (.int .i64 5) := by rw [← hw1]; simp [go_sem]
 have e1 : w1.cell? ⟨w.heap.size, 1, none⟩ = some (.int .i64 a) := by rw [← hw1]; simp [go_sem]
 have hbl : w.heap.size < w1.heap.size := World.block_lt_of_cell? _ _ e0
 have HX1 := Hd (h.on hb1)
 have HK1 := Hd (Tr.below (T := TT (ys.length + 1)) h.hz hb1)
 have HM := Hd hm
 have HL := Hd hl
 have HG := Hd hG
 have HCL := Hd hcs
 have HDR := Hd hdr
 have HEV := Hd hev
 have HYL := Hd hyl
 have HPC := Hd hpc
 have HFRE := Hd h.fre
 have HBL := Hd hbl
 have cPc := Hd (zpc HX1.out.fz)
 obtain ⟨m, hkm⟩ : ∃ m, K.m = m := ⟨_, rfl⟩
 have HKM := Hd hkm
 obtain ⟨pcn, hpn⟩ : ∃ p, x.pc = p := ⟨_, rfl⟩
 have HPN := Hd hpn
 have hp9 : (pcn : Int) ≤ 1000 := by omega
 have hp0 : (0 : Int) ≤ (pcn : Int) := by omega
 rw [hkm]
 rw [hpn] at cPc
 have HO := Hd ho
 have HA := Hd ha
 clear h hm hl hG hcs hdr hev hyl hpc hbl hkm hb1 hpn ha ho
 go_in
 go_wp2_with fail
 refine cPc.out.mono ?_
 rintro e w2 ⟨rfl, hb2⟩
 have f0 := (hb2.cell (p := ⟨w.heap.size, 0, none⟩) HBL.out).trans e0
 have f1 := (hb2.cell (p := ⟨w.heap.size, 1, none⟩) HBL.out).trans e1
 have HX2 := Hd (HX1.out.on hb2)
 have HK2 := Hd (HK1.out.trans (Tr.below HX1.out.hz hb2))
 clear hb2 e0 e1 cPc hw1
 have cM := Hd (move_5 HG.out HX2.out HM.out HL.out (by have := HDR.out; omega) a HO.out HA.out)
 rw [HKM.out] at cM
 go_wp2_with fail
 refine (cM.out).mono ?_
 rintro e w3 ⟨⟨u, rfl⟩, τ3, s3, x3, ys3, hx3, hk3, ht3, hm3, hp3, hd3, hb3, hu3⟩
 have hr3 : RchK K (doM K.fs K.ds s) (nextM' s3 x3 ys3) := by rw [ht3]; exact .refl _
 have cG := Hd (zgo hx3.fz (by omega) hx3.hz (pcn + 1))
 have HX3 := Hd hx3
 have HGO : Hid (∀ τ4 w4, FZ K τ4 (ys3.length + 1) w4 g fr { x3 with pc := pcn + 1 } → Tr (TF (ys3.length + 1)) τ3 w3 τ4 w4 → BodyP K τ w gs g fr fp cb (doM K.fs K.ds s) x ys s.steps 0 (.returned (.slice none 0 0)) w4) := Hd fun τ4 w4 hf4 hk4 => mv_go hx3 (HK2.out.trans hk3) hr3 hf4 hk4 (by rw [hp3, HPN.out]) hd3 hb3 hu3 hm3
 clear hx3 hk3 ht3 hm3 hp3 hd3 hb3 hu3 hr3
 go_wp2_with fail
 refine cG.out.mono ?_
 rintro e w4 ⟨⟨u, rfl⟩, τ4, hf4, hk4⟩
 have HF := Hd (HGO.out τ4 w4 hf4 hk4)
 clear hf4 hk4 cG
 go_wp2_with fail
 go_ret
 exact HF.out
theorem do_32 (hG : KG K) (h : XI K τ w gs g fr fp cb s x ys) (hm : x.mode = 0) (hl : x.st.length ≤ 9000) (hcs : x.cs.length ≤ 9000) (hdr : s.drawn ≤ 10000) (hev : s.evs.length ≤ 10000) (hyl : ys.length ≤ 9000) (hpc : x.pc ≤ 1000) (bv : Value) (a : Int) (ho : (atM K.fs x).op = 32) (ha : (atM K.fs x).a = a) :
  Calls Tryz.prog 134 #[ptrV K.m, ptrV g, .agg #[.int .i64 32, .int .i64 a], bv] w (BodyP K τ w gs g fr fp cb (doM K.fs K.ds s) x ys s.steps 0) := by
 obtain ⟨w1, hw1⟩ : ∃ W, w.alloc (.cells #[.int .i64 32, .int .i64 a] 113) = W := ⟨_, rfl⟩
 have hb1 : Below w.heap.size w w1 := by rw [← hw1]; exact (Below.refl _ _).alloc (Nat.le_refl _) _
 have e0 : w1.cell? ⟨w.heap.size, 0, none⟩ = some (.int .i64 32) := by rw [← hw1]; simp [go_sem]
 have e1 : w1.cell? ⟨w.heap.size, 1, none⟩ = some (.int .i64 a) := by rw [← hw1]; simp [go_sem]
 have hbl : w.heap.size < w1.heap.size := World.block_lt_of_cell? _ _ e0
 have HX1 := Hd (h.on hb1)
 have HK1 := Hd (Tr.below (T := TT (ys.length + 1)) h.hz hb1)
 have HM := Hd hm
 have HL := Hd hl
 have HG := Hd hG
 have HCL := Hd hcs
 have HDR := Hd hdr
 have HEV := Hd hev
 have HYL := Hd hyl
 have HPC := Hd hpc
 have HFRE := Hd h.fre
 have HBL := Hd hbl
 have cPc := Hd (zpc HX1.out.fz)
 obtain ⟨m, hkm⟩ : ∃ m, K.m = m := ⟨_, rfl⟩
 have HKM := Hd hkm
 obtain ⟨pcn, hpn⟩ : ∃ p, x.pc = p := ⟨_, rfl⟩
 have HPN := Hd hpn
 have hp9 : (pcn : Int) ≤ 1000 := by omega
 have hp0 : (0 : Int) ≤ (pcn : Int) := by omega
 rw [hkm]
 rw [hpn] at cPc
 have HO := Hd ho
 have HA := Hd ha
 clear h hm hl hG hcs hdr hev hyl hpc hbl hkm hb1 hpn ha ho
 go_in
 go_wp2_with fail
 refine cPc.out.mono ?_
 rintro e w2 ⟨rfl, hb2⟩
 have f0 := (hb2.cell (p := ⟨w.heap.size, 0, none⟩) HBL.out).trans e0
 have f1 := (hb2.cell (p := ⟨w.heap.size, 1, none⟩) HBL.out).trans e1
 have HX2 := Hd (HX1.out.on hb2)
 have HK2 := Hd (HK1.out.trans (Tr.below HX1.out.hz hb2))
 clear hb2 e0 e1 cPc hw1
 have cM := Hd (move_32 HG.out HX2.out HM.out HL.out (by have := HDR.out; omega) a HO.out HA.out)
 rw [HKM.out] at cM
 go_wp2_with fail
 refine (cM.out).mono ?_
 rintro e w3 ⟨⟨u, rfl⟩, τ3, s3, x3, ys3, hx3, hk3, ht3, hm3, hp3, hd3, hb3, hu3⟩
 have hr3 : RchK K (doM K.fs K.ds s) (nextM' s3 x3 ys3) := by rw [ht3]; exact .refl _
 have cG := Hd (zgo hx3.fz (by omega) hx3.hz (pcn + 1))
 have HX3 := Hd hx3
 have HGO : Hid (∀ τ4 w4, FZ K τ4 (ys3.length + 1) w4 g fr { x3 with pc := pcn + 1 } → Tr (TF (ys3.length + 1)) τ3 w3 τ4 w4 → BodyP K τ w gs g fr fp cb (doM K.fs K.ds s) x ys s.steps 0 (.returned (.slice none 0 0)) w4) := Hd fun τ4 w4 hf4 hk4 => mv_go hx3 (HK2.out.trans hk3) hr3 hf4 hk4 (by rw [hp3, HPN.out]) hd3 hb3 hu3 hm3
 clear hx3 hk3 ht3 hm3 hp3 hd3 hb3 hu3 hr3
 go_wp2_with fail
 refine cG.out.mono ?_
 rintro e w4 ⟨⟨u, rfl⟩, τ4, hf4, hk4⟩
 have HF := Hd (HGO.out τ4 w4 hf4 hk4)
 clear hf4 hk4 cG
 go_wp2_with fail
 go_ret
 exact HF.out
theorem do_28 (hG : KG K) (h : XI K τ w gs g fr fp cb s x ys) (hm : x.mode = 0) (hl : x.st.length ≤ 9000) (hcs : x.cs.length ≤ 9000) (hdr : s.drawn ≤ 10000) (hev : s.evs.length ≤ 10000) (hyl : ys.length ≤ 9000) (hpc : x.pc ≤ 1000) (bv : Value) (a : Int) (ho : (atM K.fs x).op = 28) (ha : (atM K.fs x).a = a) (hdf : x.dfd = true) :
  Calls Tryz.prog 134 #[ptrV K.m, ptrV g, .agg #[.int .i64 28, .int .i64 a], bv] w (BodyP K τ w gs g fr fp cb (doM K.fs K.ds s) x ys s.steps 0) := by
 obtain ⟨w1, hw1⟩ : ∃ W, w.alloc (.cells #[.int .i64 28, .int .i64 a] 113) = W := ⟨_, rfl⟩
 have hb1 : Below w.heap.size w w1 := by rw [← hw1]; exact (Below.refl _ _).alloc (Nat.le_refl _) _
 have e0 : w1.cell? ⟨w.heap.size, 0, none⟩ = some (.int .i64 28) := by rw [← hw1]; simp [go_sem]
 have e1 : w1.cell? ⟨w.heap.size, 1, none⟩ = some (.int .i64 a) := by rw [← hw1]; simp [go_sem]
 have hbl : w.heap.size < w1.heap.size := World.block_lt_of_cell? _ _ e0
 have HX1 := Hd (h.on hb1)
 have HK1 := Hd (Tr.below (T := TT (ys.length + 1)) h.hz hb1)
 have HM := Hd hm
 have HL := Hd hl
 have HG := Hd hG
 have HCL := Hd hcs
 have HDR := Hd hdr
 have HEV := Hd hev
 have HYL := Hd hyl
 have HPC := Hd hpc
 have HFRE := Hd h.fre
 have HBL := Hd hbl
 have cPc := Hd (zpc HX1.out.fz)
 obtain ⟨m, hkm⟩ : ∃ m, K.m = m := ⟨_, rfl⟩
 have HKM := Hd hkm
 obtain ⟨pcn, hpn⟩ : ∃ p, x.pc = p := ⟨_, rfl⟩
 have HPN := Hd hpn
 have hp9 : (pcn : Int) ≤ 1000 := by omega
 have hp0 : (0 : Int) ≤ (pcn : Int) := by omega
 rw [hkm]
 rw [hpn] at cPc
 have HO := Hd ho
 have HA := Hd ha
 have HDF := Hd hdf
 clear h hm hl hG hcs hdr hev hyl hpc hbl hkm hb1 hpn ha ho hdf
 go_in
 go_wp2_with fail
 refine cPc.out.mono ?_
 rintro e w2 ⟨rfl, hb2⟩
 have f0 := (hb2.cell (p := ⟨w.heap.size, 0, none⟩) HBL.out).trans e0
 have f1 := (hb2.cell (p := ⟨w.heap.size, 1, none⟩) HBL.out).trans e1
 have HX2 := Hd (HX1.out.on hb2)
 have HK2 := Hd (HK1.out.trans (Tr.below HX1.out.hz hb2))
 clear hb2 e0 e1 cPc hw1
 have cM := Hd (move_28 HG.out HX2.out HM.out HL.out (by have := HDR.out; omega) a HO.out HA.out HDF.out)
 rw [HKM.out] at cM
 go_wp2_with fail
 refine (cM.out).mono ?_
 rintro e w3 ⟨⟨u, rfl⟩, τ3, s3, x3, ys3, hx3, hk3, ht3, hm3, hp3, hd3, hb3, hu3⟩
 have hr3 : RchK K (doM K.fs K.ds s) (nextM' s3 x3 ys3) := by rw [ht3]; exact .refl _
 have cG := Hd (zgo hx3.fz (by omega) hx3.hz (pcn + 1))
 have HX3 := Hd hx3
 have HGO : Hid (∀ τ4 w4, FZ K τ4 (ys3.length + 1) w4 g fr { x3 with pc := pcn + 1 } → Tr (TF (ys3.length + 1)) τ3 w3 τ4 w4 → BodyP K τ w gs g fr fp cb (doM K.fs K.ds s) x ys s.steps 0 (.returned (.slice none 0 0)) w4) := Hd fun τ4 w4 hf4 hk4 => mv_go hx3 (HK2.out.trans hk3) hr3 hf4 hk4 (by rw [hp3, HPN.out]) hd3 hb3 hu3 hm3
 clear hx3 hk3 ht3 hm3 hp3 hd3 hb3 hu3 hr3
 go_wp2_with fail
 refine cG.out.mono ?_
 rintro e w4 ⟨⟨u, rfl⟩, τ4, hf4, hk4⟩
 have HF := Hd (HGO.out τ4 w4 hf4 hk4)
 clear hf4 hk4 cG
 go_wp2_with fail
 go_ret
 exact HF.out
theorem do_29 (hG : KG K) (h : XI K τ w gs g fr fp cb s x ys) (hm : x.mode = 0) (hl : x.st.length ≤ 9000) (hcs : x.cs.length ≤ 9000) (hdr : s.drawn ≤ 10000) (hev : s.evs.length ≤ 10000) (hyl : ys.length ≤ 9000) (hpc : x.pc ≤ 1000) (bv : Value) (a : Int) (ho : (atM K.fs x).op = 29) (ha : (atM K.fs x).a = a) (hdf : x.dfd = true) :
  Calls Tryz.prog 134 #[ptrV K.m, ptrV g, .agg #[.int .i64 29, .int .i64 a], bv] w (BodyP K τ w gs g fr fp cb (doM K.fs K.ds s) x ys s.steps 0) := by
 obtain ⟨w1, hw1⟩ : ∃ W, w.alloc (.cells #[.int .i64 29, .int .i64 a] 113) = W := ⟨_, rfl⟩
 have hb1 : Below w.heap.size w w1 := by rw [← hw1]; exact (Below.refl _ _).alloc (Nat.le_refl _) _
 have e0 : w1.cell? ⟨w.heap.size, 0, none⟩ = some (.int .i64 29) := by rw [← hw1]; simp [go_sem]
 have e1 : w1.cell? ⟨w.heap.size, 1, none⟩ = some (.int .i64 a) := by rw [← hw1]; simp [go_sem]
 have hbl : w.heap.size < w1.heap.size := World.block_lt_of_cell? _ _ e0
 have HX1 := Hd (h.on hb1)
 have HK1 := Hd (Tr.below (T := TT (ys.length + 1)) h.hz hb1)
 have HM := Hd hm
 have HL := Hd hl
 have HG := Hd hG
 have HCL := Hd hcs
 have HDR := Hd hdr
 have HEV := Hd hev
 have HYL := Hd hyl
 have HPC := Hd hpc
 have HFRE := Hd h.fre
 have HBL := Hd hbl
 have cPc := Hd (zpc HX1.out.fz)
 obtain ⟨m, hkm⟩ : ∃ m, K.m = m := ⟨_, rfl⟩
 have HKM := Hd hkm
 obtain ⟨pcn, hpn⟩ : ∃ p, x.pc = p := ⟨_, rfl⟩
 have HPN := Hd hpn
 have hp9 : (pcn : Int) ≤ 1000 := by omega
 have hp0 : (0 : Int) ≤ (pcn : Int) := by omega
 rw [hkm]
 rw [hpn] at cPc
 have HO := Hd ho
 have HA := Hd ha
 have HDF := Hd hdf
 clear h hm hl hG hcs hdr hev hyl hpc hbl hkm hb1 hpn ha ho hdf
 go_in
 go_wp2_with fail
 refine cPc.out.mono ?_
 rintro e w2 ⟨rfl, hb2⟩
 have f0 := (hb2.cell (p := ⟨w.heap.size, 0, none⟩) HBL.out).trans e0
 have f1 := (hb2.cell (p := ⟨w.heap.size, 1, none⟩) HBL.out).trans e1
 have HX2 := Hd (HX1.out.on hb2)
 have HK2 := Hd (HK1.out.trans (Tr.below HX1.out.hz hb2))
 clear hb2 e0 e1 cPc hw1
 have cM := Hd (move_29 HG.out HX2.out HM.out HL.out (by have := HDR.out; omega) a HO.out HA.out HDF.out)
 rw [HKM.out] at cM
 go_wp2_with fail
 refine (cM.out).mono ?_
 rintro e w3 ⟨⟨u, rfl⟩, τ3, s3, x3, ys3, hx3, hk3, ht3, hm3, hp3, hd3, hb3, hu3⟩
 have hr3 : RchK K (doM K.fs K.ds s) (nextM' s3 x3 ys3) := by rw [ht3]; exact .refl _
 have cG := Hd (zgo hx3.fz (by omega) hx3.hz (pcn + 1))
 have HX3 := Hd hx3
 have HGO : Hid (∀ τ4 w4, FZ K τ4 (ys3.length + 1) w4 g fr { x3 with pc := pcn + 1 } → Tr (TF (ys3.length + 1)) τ3 w3 τ4 w4 → BodyP K τ w gs g fr fp cb (doM K.fs K.ds s) x ys s.steps 0 (.returned (.slice none 0 0)) w4) := Hd fun τ4 w4 hf4 hk4 => mv_go hx3 (HK2.out.trans hk3) hr3 hf4 hk4 (by rw [hp3, HPN.out]) hd3 hb3 hu3 hm3
 clear hx3 hk3 ht3 hm3 hp3 hd3 hb3 hu3 hr3
 go_wp2_with fail
 refine cG.out.mono ?_
 rintro e w4 ⟨⟨u, rfl⟩, τ4, hf4, hk4⟩
 have HF := Hd (HGO.out τ4 w4 hf4 hk4)
 clear hf4 hk4 cG
 go_wp2_with fail
 go_ret
 exact HF.out
theorem do_30 (hG : KG K) (h : XI K τ w gs g fr fp cb s x ys) (hm : x.mode = 0) (hl : x.st.length ≤ 9000) (hcs : x.cs.length ≤ 9000) (hdr : s.drawn ≤ 10000) (hev : s.evs.length ≤ 10000) (hyl : ys.length ≤ 9000) (hpc : x.pc ≤ 1000) (bv : Value) (a : Int) (ho : (atM K.fs x).op = 30) (ha : (atM K.fs x).a = a) :
  Calls Tryz.prog 134 #[ptrV K.m, ptrV g, .agg #[.int .i64 30, .int .i64 a], bv] w (BodyP K τ w gs g fr fp cb (doM K.fs K.ds s) x ys s.steps 0) := by
 obtain ⟨w1, hw1⟩ : ∃ W, w.alloc (.cells #[.int .i64 30, .int .i64 a] 113) = W := ⟨_, rfl⟩
 have hb1 : Below w.heap.size w w1 := by rw [← hw1]; exact (Below.refl _ _).alloc (Nat.le_refl _) _
 have e0 : w1.cell? ⟨w.heap.size, 0, none⟩ = some (.int .i64 30) := by rw [← hw1]; simp [go_sem]
 have e1 : w1.cell? ⟨w.heap.size, 1, none⟩ = some (.int .i64 a) := by rw [← hw1]; simp [go_sem]
 have hbl : w.heap.size < w1.heap.size := World.block_lt_of_cell? _ _ e0
 have HX1 := Hd (h.on hb1)
 have HK1 := Hd (Tr.below (T := TT (ys.length + 1)) h.hz hb1)
 have HM := Hd hm
 have HL := Hd hl
 have HG := Hd hG
 have HCL := Hd hcs
 have HDR := Hd hdr
 have HEV := Hd hev
 have HYL := Hd hyl
 have HPC := Hd hpc
 have HFRE := Hd h.fre
 have HBL := Hd hbl
 have cPc := Hd (zpc HX1.out.fz)
 obtain ⟨m, hkm⟩ : ∃ m, K.m = m := ⟨_, rfl⟩
 have HKM := Hd hkm
 obtain ⟨pcn, hpn⟩ : ∃ p, x.pc = p := ⟨_, rfl⟩
 have HPN := Hd hpn
 have hp9 : (pcn : Int) ≤ 1000 := by omega
 have hp0 : (0 : Int) ≤ (pcn : Int) := by omega
 rw [hkm]
 rw [hpn] at cPc
 have HO := Hd ho
 have HA := Hd ha
 clear h hm hl hG hcs hdr hev hyl hpc hbl hkm hb1 hpn ha ho
 go_in
 go_wp2_with fail
 refine cPc.out.mono ?_
 rintro e w2 ⟨rfl, hb2⟩
 have f0 := (hb2.cell (p := ⟨w.heap.size, 0, none⟩) HBL.out).trans e0
 have f1 := (hb2.cell (p := ⟨w.heap.size, 1, none⟩) HBL.out).trans e1
 have HX2 := Hd (HX1.out.on hb2)
 have HK2 := Hd (HK1.out.trans (Tr.below HX1.out.hz hb2))
 clear hb2 e0 e1 cPc hw1
 have cM := Hd (see_30 HG.out HX2.out HM.out HL.out (by have := HEV.out; omega) HYL.out a bv HO.out)
 rw [HKM.out] at cM
 go_wp2_with fail
 refine (cM.out).mono ?_
 rintro e w3 ⟨⟨u, rfl⟩, τ3, s3, x3, ys3, hx3, hk3, ht3, hm3, hp3, hd3, hb3, hu3⟩
 have hr3 : RchK K (doM K.fs K.ds s) (nextM' s3 x3 ys3) := by rw [ht3]; exact .refl _
 have cG := Hd (zgo hx3.fz (by omega) hx3.hz (pcn + 1))
 have HX3 := Hd hx3
 have HGO : Hid (∀ τ4 w4, FZ K τ4 (ys3.length + 1) w4 g fr { x3 with pc := pcn + 1 } → Tr (TF (ys3.length + 1)) τ3 w3 τ4 w4 → BodyP K τ w gs g fr fp cb (doM K.fs K.ds s) x ys s.steps 0 (.returned (.slice none 0 0)) w4) := Hd fun τ4 w4 hf4 hk4 => mv_go hx3 (HK2.out.trans hk3) hr3 hf4 hk4 (by rw [hp3, HPN.out]) hd3 hb3 hu3 hm3
 clear hx3 hk3 ht3 hm3 hp3 hd3 hb3 hu3 hr3
 go_wp2_with fail
 refine cG.out.mono ?_
 rintro e w4 ⟨⟨u, rfl⟩, τ4, hf4, hk4⟩
 have HF := Hd (HGO.out τ4 w4 hf4 hk4)
 clear hf4 hk4 cG
 go_wp2_with fail
 go_ret
 exact HF.out
theorem do_31 (hG : KG K) (h : XI K τ w gs g fr fp cb s x ys) (hm : x.mode = 0) (hl : x.st.length ≤ 9000) (hcs : x.cs.length ≤ 9000) (hdr : s.drawn ≤ 10000) (hev : s.evs.length ≤ 10000) (hyl : ys.length ≤ 9000) (hpc : x.pc ≤ 1000) (bv : Value) (a : Int) (ho : (atM K.fs x).op = 31) (ha : (atM K.fs x).a = a) :
  Calls Tryz.prog 134 #[ptrV K.m, ptrV g, .agg #[.int .i64 31, .int .i64 a], bv] w (BodyP K τ w gs g fr fp cb (doM K.fs K.ds s) x ys s.steps 0) := by
 obtain ⟨w1, hw1⟩ : ∃ W, w.alloc (.cells #[.int .i64 31, .int .i64 a] 113) = W := ⟨_, rfl⟩
 have hb1 : Below w.heap.size w w1 := by rw [← hw1]; exact (Below.refl _ _).alloc (Nat.le_refl _) _
 have e0 : w1.cell? ⟨w.heap.size, 0, none⟩ = some (.int .i64 31) := by rw [← hw1]; simp [go_sem]
 have e1 : w1.cell? ⟨w.heap.size, 1, none⟩ = some (.int .i64 a) := by rw [← hw1]; simp [go_sem]
 have hbl : w.heap.size < w1.heap.size := World.block_lt_of_cell? _ _ e0
 have HX1 := Hd (h.on hb1)
 have HK1 := Hd (Tr.below (T := TT (ys.length + 1)) h.hz hb1)
 have HM := Hd hm
 have HL := Hd hl
 have HG := Hd hG
 have HCL := Hd hcs
 have HDR := Hd hdr
 have HEV := Hd hev
 have HYL := Hd hyl
 have HPC := Hd hpc
 have HFRE := Hd h.fre
 have HBL := Hd hbl
 have cPc := Hd (zpc HX1.out.fz)
 obtain ⟨m, hkm⟩ : ∃ m, K.m = m := ⟨_, rfl⟩
 have HKM := Hd hkm
 obtain ⟨pcn, hpn⟩ : ∃ p, x.pc = p := ⟨_, rfl⟩
 have HPN := Hd hpn
 have hp9 : (pcn : Int) ≤ 1000 := by omega
 have hp0 : (0 : Int) ≤ (pcn : Int) := by omega
 rw [hkm]
 rw [hpn] at cPc
 have HO := Hd ho
 have HA := Hd ha
 clear h hm hl hG hcs hdr hev hyl hpc hbl hkm hb1 hpn ha ho
 go_in
 go_wp2_with fail
 refine cPc.out.mono ?_
 rintro e w2 ⟨rfl, hb2⟩
 have f0 := (hb2.cell (p := ⟨w.heap.size, 0, none⟩) HBL.out).trans e0
 have f1 := (hb2.cell (p := ⟨w.heap.size, 1, none⟩) HBL.out).trans e1
 have HX2 := Hd (HX1.out.on hb2)
 have HK2 := Hd (HK1.out.trans (Tr.below HX1.out.hz hb2))
 clear hb2 e0 e1 cPc hw1
 have cM := Hd (see_31 HG.out HX2.out HM.out HL.out (by have := HEV.out; omega) HYL.out a bv HO.out)
 rw [HKM.out] at cM
 go_wp2_with fail
 refine (cM.out).mono ?_
 rintro e w3 ⟨⟨u, rfl⟩, τ3, s3, x3, ys3, hx3, hk3, ht3, hm3, hp3, hd3, hb3, hu3⟩
 have hr3 : RchK K (doM K.fs K.ds s) (nextM' s3 x3 ys3) := by rw [ht3]; exact .refl _
 have cG := Hd (zgo hx3.fz (by omega) hx3.hz (pcn + 1))
 have HX3 := Hd hx3
 have HGO : Hid (∀ τ4 w4, FZ K τ4 (ys3.length + 1) w4 g fr { x3 with pc := pcn + 1 } → Tr (TF (ys3.length + 1)) τ3 w3 τ4 w4 → BodyP K τ w gs g fr fp cb (doM K.fs K.ds s) x ys s.steps 0 (.returned (.slice none 0 0)) w4) := Hd fun τ4 w4 hf4 hk4 => mv_go hx3 (HK2.out.trans hk3) hr3 hf4 hk4 (by rw [hp3, HPN.out]) hd3 hb3 hu3 hm3
 clear hx3 hk3 ht3 hm3 hp3 hd3 hb3 hu3 hr3
 go_wp2_with fail
 refine cG.out.mono ?_
 rintro e w4 ⟨⟨u, rfl⟩, τ4, hf4, hk4⟩
 have HF := Hd (HGO.out τ4 w4 hf4 hk4)
 clear hf4 hk4 cG
 go_wp2_with fail
 go_ret
 exact HF.out
theorem do_27n (hG : KG K) (h : XI K τ w gs g fr fp cb s x ys) (hm : x.mode = 0) (hl : x.st.length ≤ 9000) (hcs : x.cs.length ≤ 9000) (hdr : s.drawn ≤ 10000) (hev : s.evs.length ≤ 10000) (hyl : ys.length ≤ 9000) (hpc : x.pc ≤ 1000) (a : Int) (ho : (atM K.fs x).op = 27) (ha : (atM K.fs x).a = a) (hb0 : x.by_ = false) :
  Calls Tryz.prog 134 #[ptrV K.m, ptrV g, .agg #[.int .i64 27, .int .i64 a], .pointer none] w (BodyP K τ w gs g fr fp cb (doM K.fs K.ds s) x ys s.steps 0) := by
 obtain ⟨w1, hw1⟩ : ∃ W, w.alloc (.cells #[.int .i64 27, .int .i64 a] 113) = W := ⟨_, rfl⟩
 have hb1 : Below w.heap.size w w1 := by rw [← hw1]; exact (Below.refl _ _).alloc (Nat.le_refl _) _
 have e0 : w1.cell? ⟨w.heap.size, 0, none⟩ = some (.int .i64 27) := by rw [← hw1]; simp [go_sem]
 have e1 : w1.cell? ⟨w.heap.size, 1, none⟩ = some (.int .i64 a) := by rw [← hw1]; simp [go_sem]
 have hbl : w.heap.size < w1.heap.size := World.block_lt_of_cell? _ _ e0
 have HX1 := Hd (h.on hb1)
 have HK1 := Hd (Tr.below (T := TT (ys.length + 1)) h.hz hb1)
 have HM := Hd hm
 have HL := Hd hl
 have HG := Hd hG
 have HCL := Hd hcs
 have HDR := Hd hdr
 have HEV := Hd hev
 have HYL := Hd hyl
 have HPC := Hd hpc
 have HFRE := Hd h.fre
 have HBL := Hd hbl
 have cPc := Hd (zpc HX1.out.fz)
 obtain ⟨m, hkm⟩ : ∃ m, K.m = m := ⟨_, rfl⟩
 have HKM := Hd hkm
 obtain ⟨pcn, hpn⟩ : ∃ p, x.pc = p := ⟨_, rfl⟩
 have HPN := Hd hpn
 have hp9 : (pcn : Int) ≤ 1000 := by omega
 have hp0 : (0 : Int) ≤ (pcn : Int) := by omega
 rw [hkm]
 rw [hpn] at cPc
 have HO := Hd ho
 have HA := Hd ha
 have HBY := Hd hb0
 clear h hm hl hG hcs hdr hev hyl hpc hbl hkm hb1 hpn ha ho hb0
 go_in
 go_wp2_with fail
 refine cPc.out.mono ?_
 rintro e w2 ⟨rfl, hb2⟩
 have f0 := (hb2.cell (p := ⟨w.heap.size, 0, none⟩) HBL.out).trans e0
 have f1 := (hb2.cell (p := ⟨w.heap.size, 1, none⟩) HBL.out).trans e1
 have HX2 := Hd (HX1.out.on hb2)
 have HK2 := Hd (HK1.out.trans (Tr.below HX1.out.hz hb2))
 clear hb2 e0 e1 cPc hw1
 have cM := Hd (see_27n HG.out HX2.out HM.out HL.out (by have := HEV.out; omega) HYL.out a HO.out HBY.out)
 rw [HKM.out] at cM
 go_wp2_with fail
 refine (cM.out).mono ?_
 rintro e w3 ⟨⟨u, rfl⟩, τ3, s3, x3, ys3, hx3, hk3, ht3, hm3, hp3, hd3, hb3, hu3⟩
 have hr3 : RchK K (doM K.fs K.ds s) (nextM' s3 x3 ys3) := by rw [ht3]; exact .refl _
 have cG := Hd (zgo hx3.fz (by omega) hx3.hz (pcn + 1))
 have HX3 := Hd hx3
 have HGO : Hid (∀ τ4 w4, FZ K τ4 (ys3.length + 1) w4 g fr { x3 with pc := pcn + 1 } → Tr (TF (ys3.length + 1)) τ3 w3 τ4 w4 → BodyP K τ w gs g fr fp cb (doM K.fs K.ds s) x ys s.steps 0 (.returned (.slice none 0 0)) w4) := Hd fun τ4 w4 hf4 hk4 => mv_go hx3 (HK2.out.trans hk3) hr3 hf4 hk4 (by rw [hp3, HPN.out]) hd3 hb3 hu3 hm3
 clear hx3 hk3 ht3 hm3 hp3 hd3 hb3 hu3 hr3
 go_wp2_with fail
 refine cG.out.mono ?_
 rintro e w4 ⟨⟨u, rfl⟩, τ4, hf4, hk4⟩
 have HF := Hd (HGO.out τ4 w4 hf4 hk4)
 clear hf4 hk4 cG
 go_wp2_with fail
 go_ret
 exact HF.out
theorem do_27 (hG : KG K) (h : XI K τ w gs g fr fp cb s x ys) (hm : x.mode = 0) (hl : x.st.length ≤ 9000) (hcs : x.cs.length ≤ 9000) (hdr : s.drawn ≤ 10000) (hev : s.evs.length ≤ 10000) (hyl : ys.length ≤ 9000) (hpc : x.pc ≤ 1000) (a : Int) (ho : (atM K.fs x).op = 27) (ha : (atM K.fs x).a = a) (hb0 : x.by_ = true) (hch : (chOf ys).length ≤ 3000) :
  Calls Tryz.prog 134 #[ptrV K.m, ptrV g, .agg #[.int .i64 27, .int .i64 a], .pointer (some ⟨cb, 0, none⟩)] w (BodyP K τ w gs g fr fp cb (doM K.fs K.ds s) x ys s.steps 0) := by
 obtain ⟨w1, hw1⟩ : ∃ W, w.alloc (.cells #[.int .i64 27, .int .i64 a] 113) = W := ⟨_, rfl⟩
 have hb1 : Below w.heap.size w w1 := by rw [← hw1]; exact (Below.refl _ _).alloc (Nat.le_refl _) _
 have e0 : w1.cell? ⟨w.heap.size, 0, none⟩ = some (.int .i64 27) := by rw [← hw1]; simp [go_sem]
 have e1 : w1.cell? ⟨w.heap.size, 1, none⟩ = some (.int .i64 a) := by rw [← hw1]; simp [go_sem]
 have hbl : w.heap.size < w1.heap.size := World.block_lt_of_cell? _ _ e0
 have HX1 := Hd (h.on hb1)
 have HK1 := Hd (Tr.below (T := TT (ys.length + 1)) h.hz hb1)
 have HM := Hd hm
 have HL := Hd hl
 have HG := Hd hG
 have HCL := Hd hcs
 have HDR := Hd hdr
 have HEV := Hd hev
 have HYL := Hd hyl
 have HPC := Hd hpc
 have HFRE := Hd h.fre
 have HBL := Hd hbl
 have cPc := Hd (zpc HX1.out.fz)
 obtain ⟨m, hkm⟩ : ∃ m, K.m = m := ⟨_, rfl⟩
 have HKM := Hd hkm
 obtain ⟨pcn, hpn⟩ : ∃ p, x.pc = p := ⟨_, rfl⟩
 have HPN := Hd hpn
 have hp9 : (pcn : Int) ≤ 1000 := by omega
 have hp0 : (0 : Int) ≤ (pcn : Int) := by omega
 rw [hkm]
 rw [hpn] at cPc
 have HO := Hd ho
 have HA := Hd ha
 have HBY := Hd hb0
 have HCH := Hd hch
 clear h hm hl hG hcs hdr hev hyl hpc hbl hkm hb1 hpn ha ho hb0 hch
 go_in
 go_wp2_with fail
 refine cPc.out.mono ?_
 rintro e w2 ⟨rfl, hb2⟩
 have f0 := (hb2.cell (p := ⟨w.heap.size, 0, none⟩) HBL.out).trans e0
 have f1 := (hb2.cell (p := ⟨w.heap.size, 1, none⟩) HBL.out).trans e1
 have HX2 := Hd (HX1.out.on hb2)
 have HK2 := Hd (HK1.out.trans (Tr.below HX1.out.hz hb2))
 clear hb2 e0 e1 cPc hw1
 have cM := Hd (see_27 HG.out HX2.out HM.out HL.out (by have := HEV.out; omega) HYL.out a HO.out HBY.out HCH.out)
 rw [HKM.out] at cM
 go_wp2_with fail
 refine (cM.out).mono ?_
 rintro e w3 ⟨⟨u, rfl⟩, τ3, s3, x3, ys3, hx3, hk3, ht3, hm3, hp3, hd3, hb3, hu3⟩
 have hr3 : RchK K (doM K.fs K.ds s) (nextM' s3 x3 ys3) := by rw [ht3]; exact .refl _
 have cG := Hd (zgo hx3.fz (by omega) hx3.hz (pcn + 1))
 have HX3 := Hd hx3
 have HGO : Hid (∀ τ4 w4, FZ K τ4 (ys3.length + 1) w4 g fr { x3 with pc := pcn + 1 } → Tr (TF (ys3.length + 1)) τ3 w3 τ4 w4 → BodyP K τ w gs g fr fp cb (doM K.fs K.ds s) x ys s.steps 0 (.returned (.slice none 0 0)) w4) := Hd fun τ4 w4 hf4 hk4 => mv_go hx3 (HK2.out.trans hk3) hr3 hf4 hk4 (by rw [hp3, HPN.out]) hd3 hb3 hu3 hm3
 clear hx3 hk3 ht3 hm3 hp3 hd3 hb3 hu3 hr3
 go_wp2_with fail
 refine cG.out.mono ?_
 rintro e w4 ⟨⟨u, rfl⟩, τ4, hf4, hk4⟩
 have HF := Hd (HGO.out τ4 w4 hf4 hk4)
 clear hf4 hk4 cG
 go_wp2_with fail
 go_ret
 exact HF.out
end Go.Proofs.YtobmjnmcjddhcaaGreat
