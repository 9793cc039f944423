import Derived.Test.YtobmjnmcjddhcaaGreatRg28
import Derived.Test.YtobmjnmcjddhcaaGreatRg2
set_option linter.unusedSimpArgs false
set_option linter.unusedVariables false
namespace Go.Proofs.YtobmjnmcjddhcaaGreat
section
set_option maxRecDepth 100000
set_option maxHeartbeats 4000000
open Go.RowKit
variable {K : RK} {τ τ' : Nat → Tag} {w w' : World} {gs : List Nat} {g : Nat} {fr fp : Option Addr} {cb L : Nat} {s s' : Ms} {x x' : Fr} {ys : List Fr} {ch : List Bl}
theorem move_3 (hG : KG K) (h : XI K τ w gs g fr fp cb s x ys) (hm : x.mode = 0) (hl : x.st.length ≤ 9000) (hs : s.drawn ≤ 100000) (a : Int) (ho : (atM K.fs x).op = 3) (ha : (atM K.fs x).a = a) :
  Calls Tryz.prog 165 #[ptrV K.m, ptrV g, .agg #[.int .i64 3, .int .i64 a]] w (MvP K τ w gs g fr fp cb x ys (doM K.fs K.ds s)) := by
 obtain ⟨t, ht⟩ : ∃ t, doM K.fs K.ds s = t := ⟨_, rfl⟩
 have hd := doM_3 (ds := K.ds) h.fre ho
 try rw [ha] at hd
 rw [ht] at hd ⊢
 have HX : Hid (∀ W, Below w.heap.size w W → XI K τ W gs g fr fp cb s x ys ∧ Tr (TT (ys.length + 1)) τ w τ W) := Hd fun W hW => ⟨h.on hW, Tr.below h.hz hW⟩
 have HD := Hd hd
 have HZ : Hid (τ w.heap.size = (0, 0)) := Hd (h.hz _ (Nat.le_refl _))
 have HM := Hd hm
 have HL := Hd hl
 have HG := Hd hG
 have HS := Hd hs
 obtain ⟨m, hkm⟩ : ∃ m, K.m = m := ⟨_, rfl⟩
 have HKM := Hd hkm
 rw [hkm]
 have hbx : Below w.heap.size w (w.alloc (.cells #[.int .i64 3, .int .i64 a] 113)) := (Below.refl _ _).alloc (Nat.le_refl _) _
 clear h hm hl hs ho ha ht hd hG hkm
 go_in
 go_wp2_with fail
 refine wp_region_held (S := fun W => W.cell? ⟨w.heap.size, 1, none⟩ = some (.int .i64 a)) (by kernel_rfl) ?_
 change wpAnyH _ _ _ _ _ _ _ _ (World.drew _)
 have hbd : Below w.heap.size w ((w.alloc (.cells #[.int .i64 3, .int .i64 a] 113)).drew) := below_drewN' hbx 1
 have hS0 : ((w.alloc (.cells #[.int .i64 3, .int .i64 a] 113)).drew).cell? ⟨w.heap.size, 1, none⟩ = some (.int .i64 a) := by simp [go_sem]
 obtain ⟨hx, hk⟩ := HX.out _ hbd
 obtain ⟨w1, hw1⟩ : ∃ W, (w.alloc (.cells #[.int .i64 3, .int .i64 a] 113)).drew = W := ⟨_, rfl⟩
 rw [hw1] at hx hk hS0 ⊢
 have HX1 := Hd hx
 have HK := Hd hk
 clear hbd hx hk hbx hw1
 refine tkH 0 rfl (by intro W hW; go_simp; first | done | exact rfl) hS0 ?_
 try go_simp
 refine tkH 1 rfl (by intro W hW; go_simp; first | done | exact rfl) hS0 ?_
 try go_simp
 refine tkH 2 rfl (by intro W hW; have hW : W.cell? _ = _ := hW; go_simp; first | done | exact rfl) hS0 ?_
 try go_simp
 refine tkH 3 rfl (by intro W hW; go_simp; first | done | exact rfl) hS0 ?_
 try go_simp
 refine wpAnyH_one (i := 4) (by kernel_rfl) rfl (fun K' hK => ?_)
 go_simp
 refine (zpop HX1.out.fz (by omega) HX1.out.hz HM.out (by have := HL.out; omega)).mono ?_
 rintro e w2 ⟨v, hv, rfl, τ1, hf, hk1⟩
 have HX2 := Hd (HX1.out.own hk1 hf rfl rfl)
 have HK2 := Hd (HK.out.trans (hk1.mono fun _ => TT.tf))
 have HV := Hd hv
 have HZ2 : Hid (τ1 w.heap.size = (0, 0)) := Hd ((hk1.eq _ (World.block_lt_of_cell? _ _ hS0)).trans HZ.out)
 have hS2 := hk1.cellv hS0 (by rw [HZ.out]; exact TF.no (by omega))
 clear hf hk1 hv hS0
 refine hK _ _ ⟨hS2, ?_⟩; clear hK K'
 try go_simp
 refine wpAnyH_one (i := 5) (by kernel_rfl) rfl (fun K' hK => ?_)
 go_simp
 refine (zsetslot HX2.out.fz (by omega) HX2.out.hz a v).mono ?_
 rintro e w3 ⟨⟨u, rfl⟩, τ2, hf, hk3⟩
 have hS3 := hk3.cellv hS2 (by rw [HZ2.out]; exact TF.no (by omega))
 have F := Hd (mvp_from HK2.out (HX2.out.mv hk3 hf rfl rfl HM.out rfl (t := t) (u := .tuple #[]) (by rw [HD.out, HV.out]; rfl)))
 clear hf hk3
 refine hK _ _ ⟨hS3, ?_⟩; clear hK K'
 try go_simp
 refine wpAnyH_done (by kernel_rfl) ?_ _
 go_wp2_with fail
 go_end0
 exact F.out
theorem move_28 (hG : KG K) (h : XI K τ w gs g fr fp cb s x ys) (hm : x.mode = 0) (hl : x.st.length ≤ 9000) (hs : s.drawn ≤ 100000) (a : Int) (ho : (atM K.fs x).op = 28) (ha : (atM K.fs x).a = a) (hdf : x.dfd = true) :
  Calls Tryz.prog 165 #[ptrV K.m, ptrV g, .agg #[.int .i64 28, .int .i64 a]] w (MvP K τ w gs g fr fp cb x ys (doM K.fs K.ds s)) := by
 obtain ⟨y, r, gp, gs', rfl, rfl, hpz, hpf⟩ : ∃ y r gp gs', ys = y :: r ∧ gs = gp :: gs' ∧ FZ K τ ys.length w gp fp y ∧ (x.dfd = true → fr = some ⟨gp, 0, none⟩) := by
  rcases h.pr with e | e
  ·exact absurd e (h.dn hdf)
  ·exact e
 obtain rfl := hpf hdf
 clear hpz hpf
 obtain ⟨t, ht⟩ : ∃ t, doM K.fs K.ds s = t := ⟨_, rfl⟩
 have hd := doM_28 (ds := K.ds) h.fre ho
 try rw [ha] at hd
 rw [if_pos hdf] at hd
 rw [ht] at hd ⊢
 have HX : Hid (∀ W, Below w.heap.size w W → XI K τ W (gp :: gs') g (some ⟨gp, 0, none⟩) fp cb s x (y :: r) ∧ Tr (TT ((y :: r).length + 1)) τ w τ W) := Hd fun W hW => ⟨h.on hW, Tr.below h.hz hW⟩
 have HD := Hd hd
 have HZ : Hid (τ w.heap.size = (0, 0)) := Hd (h.hz _ (Nat.le_refl _))
 have HM := Hd hm
 have HL := Hd hl
 have HG := Hd hG
 have HS := Hd hs
 obtain ⟨m, hkm⟩ : ∃ m, K.m = m := ⟨_, rfl⟩
 have HKM := Hd hkm
 rw [hkm]
 have hbx : Below w.heap.size w (w.alloc (.cells #[.int .i64 28, .int .i64 a] 113)) := (Below.refl _ _).alloc (Nat.le_refl _) _
 clear h hm hl hs ho ha ht hd hG hkm hdf
 go_in
 go_wp2_with fail
 refine wp_region_held (S := fun W => W.cell? ⟨w.heap.size, 1, none⟩ = some (.int .i64 a)) (by kernel_rfl) ?_
 change wpAnyH _ _ _ _ _ _ _ _ (World.drew _)
 have hbd : Below w.heap.size w ((w.alloc (.cells #[.int .i64 28, .int .i64 a] 113)).drew) := below_drewN' hbx 1
 have hS0 : ((w.alloc (.cells #[.int .i64 28, .int .i64 a] 113)).drew).cell? ⟨w.heap.size, 1, none⟩ = some (.int .i64 a) := by simp [go_sem]
 obtain ⟨hx, hk⟩ := HX.out _ hbd
 obtain ⟨w1, hw1⟩ : ∃ W, (w.alloc (.cells #[.int .i64 28, .int .i64 a] 113)).drew = W := ⟨_, rfl⟩
 rw [hw1] at hx hk hS0 ⊢
 have HX1 := Hd hx
 have HK := Hd hk
 clear hbd hx hk hbx hw1
 refine tkH 0 rfl (by intro W hW; go_simp; first | done | exact rfl) hS0 ?_
 try go_simp
 refine tkH 1 rfl (by intro W hW; go_simp; first | done | exact rfl) hS0 ?_
 try go_simp
 refine tkH 3 rfl (by intro W hW; go_simp; first | done | exact rfl) hS0 ?_
 try go_simp
 refine tkH 4 rfl (by intro W hW; have hW : W.cell? _ = _ := hW; go_simp; first | done | exact rfl) hS0 ?_
 try go_simp
 refine wpAnyH_one (i := 2) (by kernel_rfl) rfl (fun K' hK => ?_)
 go_simp
 refine (zfrom HX1.out.fz).mono ?_
 rintro e w2 ⟨rfl, hb2⟩
 have HX2 := Hd (HX1.out.on hb2)
 have HK2 := Hd (HK.out.trans (Tr.below HX1.out.hz hb2))
 have hS2 := (hb2.cell (p := ⟨w.heap.size, 1, none⟩) (World.block_lt_of_cell? _ _ hS0)).trans hS0
 clear hS0 hb2
 refine hK _ _ ⟨hS2, ?_⟩; clear hK K'
 try go_simp
 refine wpAnyH_one (i := 5) (by kernel_rfl) rfl (fun K' hK => ?_)
 go_simp
 refine (zresultv HX2.out.pz.1 a).mono ?_
 rintro e w3 ⟨v, hv, rfl, hb3⟩
 have HX3 := Hd (HX2.out.on hb3)
 have HK3 := Hd (HK2.out.trans (Tr.below HX2.out.hz hb3))
 have HV := Hd hv
 have hS3 := (hb3.cell (p := ⟨w.heap.size, 1, none⟩) (World.block_lt_of_cell? _ _ hS2)).trans hS2
 clear hS2 hb3 hv
 refine hK _ _ ⟨hS3, ?_⟩; clear hK K'
 try go_simp
 refine wpAnyH_one (i := 6) (by kernel_rfl) rfl (fun K' hK => ?_)
 go_simp
 refine (zpush HX3.out.fz (by omega) HX3.out.hz HM.out (by have := HL.out; omega) v).mono ?_
 rintro e w4 ⟨⟨u, rfl⟩, τ2, hf, hk3⟩
 have hS4 := hk3.cellv hS3 (by rw [HZ.out]; exact TF.no (by omega))
 have F := Hd (mvp_from HK3.out (HX3.out.mv hk3 hf rfl rfl HM.out rfl (t := t) (u := .tuple #[]) (by rw [HD.out, HV.out]; rfl)))
 clear hf hk3
 refine hK _ _ ⟨hS4, ?_⟩; clear hK K'
 try go_simp
 refine wpAnyH_done (by kernel_rfl) ?_ _
 go_wp2_with fail
 go_end0
 exact F.out
theorem move_29 (hG : KG K) (h : XI K τ w gs g fr fp cb s x ys) (hm : x.mode = 0) (hl : x.st.length ≤ 9000) (hs : s.drawn ≤ 100000) (a : Int) (ho : (atM K.fs x).op = 29) (ha : (atM K.fs x).a = a) (hdf : x.dfd = true) :
  Calls Tryz.prog 165 #[ptrV K.m, ptrV g, .agg #[.int .i64 29, .int .i64 a]] w (MvP K τ w gs g fr fp cb x ys (doM K.fs K.ds s)) := by
 obtain ⟨y, r, gp, gs', rfl, rfl, hpz, hpf⟩ : ∃ y r gp gs', ys = y :: r ∧ gs = gp :: gs' ∧ FZ K τ ys.length w gp fp y ∧ (x.dfd = true → fr = some ⟨gp, 0, none⟩) := by
  rcases h.pr with e | e
  ·exact absurd e (h.dn hdf)
  ·exact e
 obtain rfl := hpf hdf
 clear hpz hpf
 obtain ⟨t, ht⟩ : ∃ t, doM K.fs K.ds s = t := ⟨_, rfl⟩
 have hd := doM_29 (ds := K.ds) h.fre ho
 try rw [ha] at hd
 rw [if_pos hdf] at hd
 rw [ht] at hd ⊢
 have HX : Hid (∀ W, Below w.heap.size w W → XI K τ W (gp :: gs') g (some ⟨gp, 0, none⟩) fp cb s x (y :: r) ∧ Tr (TT ((y :: r).length + 1)) τ w τ W) := Hd fun W hW => ⟨h.on hW, Tr.below h.hz hW⟩
 have HD := Hd hd
 have HZ : Hid (τ w.heap.size = (0, 0)) := Hd (h.hz _ (Nat.le_refl _))
 have HM := Hd hm
 have HL := Hd hl
 have HG := Hd hG
 have HS := Hd hs
 obtain ⟨m, hkm⟩ : ∃ m, K.m = m := ⟨_, rfl⟩
 have HKM := Hd hkm
 rw [hkm]
 have hbx : Below w.heap.size w (w.alloc (.cells #[.int .i64 29, .int .i64 a] 113)) := (Below.refl _ _).alloc (Nat.le_refl _) _
 clear h hm hl hs ho ha ht hd hG hkm hdf
 go_in
 go_wp2_with fail
 refine wp_region_held (S := fun W => W.cell? ⟨w.heap.size, 1, none⟩ = some (.int .i64 a)) (by kernel_rfl) ?_
 change wpAnyH _ _ _ _ _ _ _ _ (World.drew _)
 have hbd : Below w.heap.size w ((w.alloc (.cells #[.int .i64 29, .int .i64 a] 113)).drew) := below_drewN' hbx 1
 have hS0 : ((w.alloc (.cells #[.int .i64 29, .int .i64 a] 113)).drew).cell? ⟨w.heap.size, 1, none⟩ = some (.int .i64 a) := by simp [go_sem]
 obtain ⟨hx, hk⟩ := HX.out _ hbd
 obtain ⟨w1, hw1⟩ : ∃ W, (w.alloc (.cells #[.int .i64 29, .int .i64 a] 113)).drew = W := ⟨_, rfl⟩
 rw [hw1] at hx hk hS0 ⊢
 have HX1 := Hd hx
 have HK := Hd hk
 clear hbd hx hk hbx hw1
 refine tkH 0 rfl (by intro W hW; go_simp; first | done | exact rfl) hS0 ?_
 try go_simp
 refine tkH 2 rfl (by intro W hW; go_simp; first | done | exact rfl) hS0 ?_
 try go_simp
 refine tkH 3 rfl (by intro W hW; have hW : W.cell? _ = _ := hW; go_simp; first | done | exact rfl) hS0 ?_
 try go_simp
 refine tkH 4 rfl (by intro W hW; go_simp; first | done | exact rfl) hS0 ?_
 try go_simp
 refine wpAnyH_one (i := 1) (by kernel_rfl) rfl (fun K' hK => ?_)
 go_simp
 refine (zfrom HX1.out.fz).mono ?_
 rintro e w2 ⟨rfl, hb2⟩
 have HX2 := Hd (HX1.out.on hb2)
 have HK2 := Hd (HK.out.trans (Tr.below HX1.out.hz hb2))
 have hS2 := (hb2.cell (p := ⟨w.heap.size, 1, none⟩) (World.block_lt_of_cell? _ _ hS0)).trans hS0
 clear hS0 hb2
 refine hK _ _ ⟨hS2, ?_⟩; clear hK K'
 try go_simp
 refine wpAnyH_one (i := 5) (by kernel_rfl) rfl (fun K' hK => ?_)
 go_simp
 refine (zpop HX2.out.fz (by omega) HX2.out.hz HM.out (by have := HL.out; omega)).mono ?_
 rintro e w3 ⟨v, hv, rfl, τ1, hf, hk1⟩
 have HX3 := Hd (HX2.out.own hk1 hf rfl rfl)
 have HK3 := Hd (HK2.out.trans (hk1.mono fun _ => TT.tf))
 have HV := Hd hv
 have HZ2 : Hid (τ1 w.heap.size = (0, 0)) := Hd ((hk1.eq _ (World.block_lt_of_cell? _ _ hS2)).trans HZ.out)
 have hS3 := hk1.cellv hS2 (by rw [HZ.out]; exact TF.no (by omega))
 clear hS2 hf hk1 hv
 refine hK _ _ ⟨hS3, ?_⟩; clear hK K'
 try go_simp
 refine wpAnyH_one (i := 6) (by kernel_rfl) rfl (fun K' hK => ?_)
 go_simp
 refine (zsetresult HX3.out.pz.1 (by omega) HX3.out.hz a v).mono ?_
 rintro e w4 ⟨⟨u, rfl⟩, hf, hk3⟩
 have hS4 := hk3.cellv hS3 (by rw [HZ2.out]; simp)
 have F : Hid (MvP K τ w (gp :: gs') g (some ⟨gp, 0, none⟩) fp cb x (y :: r) t (.returned (.tuple #[])) w4) := Hd ⟨⟨_, rfl⟩, τ1, _, _, _, HX3.out.par hk3 hf, HK3.out.trans (hk3.mono fun _ => TT.p1), by rw [HD.out, HV.out]; rfl, HM.out, rfl, rfl, rfl, .inr ⟨y, r, _, y.ch, rfl, rfl⟩⟩
 clear hf hk3
 refine hK _ _ ⟨hS4, ?_⟩; clear hK K'
 try go_simp
 refine wpAnyH_done (by kernel_rfl) ?_ _
 go_wp2_with fail
 go_end0
 exact F.out
end
section
set_option maxRecDepth 100000
set_option maxHeartbeats 4000000
open Go.RowKit
variable {K : RK} {τ τ' : Nat → Tag} {w w' : World} {gs : List Nat} {g : Nat} {fr fp : Option Addr} {cb L : Nat} {s s' : Ms} {x x' : Fr} {ys : List Fr} {ch : List Bl}
theorem setCh_self (r : List Fr) : setCh r (chOf r) = r := by cases r <;> rfl
theorem cn_n {v u : DV} (h : cnV v = u) : v.n = u.n := by rw [← h]; rfl
theorem vn_fieldZ (k n : Int) (x y : Nat) : ∀ w, (Instr.field 43 (vV k n x y) 1).run Tryz.prog w = .ok (.int .i64 n) w := fun _ => by kernel_rfl
theorem xtell (h : XI K τ w gs g fr fp cb s x ys) (hs : s.evs.length ≤ 90000) (e : EvV) (he : Im τ w e.A e.l 2 (rowEn e.tr)) :
  Calls Tryz.prog 179 #[ptrV K.m, .agg #[.int .i64 e.k, .int .i64 e.n, .int .i64 e.m, .slice e.A e.l e.c]] w fun en w' => (∃ u, en = .returned u) ∧ ∃ τ', XI K τ' w' gs g fr fp cb { s with evs := s.evs ++ [e.ab] } x ys ∧ Tr (TT (ys.length + 1)) τ w τ' w' := by
 refine (tell_any h.vm h.hz hs e he).mono ?_
 rintro en w' ⟨hu, τ', h1, h2⟩
 exact ⟨hu, τ', h.run h2 h1 rfl, h2.mono fun _ => TV.tt⟩
theorem see_30 (hG : KG K) (h : XI K τ w gs g fr fp cb s x ys) (hm : x.mode = 0) (hl : x.st.length ≤ 9000) (hs : s.evs.length ≤ 80000) (hy : ys.length ≤ 9000) (a : Int) (bv : Value) (ho : (atM K.fs x).op = 30) :
  Calls Tryz.prog 166 #[ptrV K.m, ptrV g, .agg #[.int .i64 30, .int .i64 a], bv] w (MvP K τ w gs g fr fp cb x ys (doM K.fs K.ds s)) := by
 obtain ⟨t, ht⟩ : ∃ t, doM K.fs K.ds s = t := ⟨_, rfl⟩
 have hd := doM_30 (ds := K.ds) h.fre ho
 rw [ht] at hd ⊢
 have HX : Hid (∀ W, Below w.heap.size w W → XI K τ W gs g fr fp cb s x ys ∧ Tr (TT (ys.length + 1)) τ w τ W) := Hd fun W hW => ⟨h.on hW, Tr.below h.hz hW⟩
 have HD := Hd hd
 have HM := Hd hm
 have HL := Hd hl
 have HG := Hd hG
 have HS := Hd hs
 have HY := Hd hy
 obtain ⟨m, hkm⟩ : ∃ m, K.m = m := ⟨_, rfl⟩
 have HKM := Hd hkm
 rw [hkm]
 have hbx : Below w.heap.size w (w.alloc (.cells #[.int .i64 30, .int .i64 a] 113)) := (Below.refl _ _).alloc (Nat.le_refl _) _
 clear h hm hl hs ho ht hd hG hkm hy
 go_in
 go_wp2_with fail
 obtain ⟨hx, hk⟩ := HX.out _ hbx
 refine (zpop hx.fz (by omega) hx.hz HM.out (by have := HL.out; omega)).mono ?_
 rintro e w2 ⟨⟨vk, vn, vx, vy⟩, hv, rfl, τ1, hf, hk1⟩
 have HX2 := Hd (hx.own hk1 hf rfl rfl)
 have HK2 := Hd (hk.trans (hk1.mono fun _ => TT.tf))
 have HV := Hd hv
 have cT := Hd (xtell HX2.out (by have := HS.out; simpa using (by omega : s.evs.length ≤ 90000)) ⟨1, vn, 0, none, 0, 0, []⟩ (Rdv.nil _ _ _))
 rw [HKM.out] at cT
 clear hf hk1 hv hbx hx hk
 unfold DV.v
 have hvf := vn_fieldZ vk vn vx vy w2
 go_wp2_with fail
 refine cT.out.mono ?_
 rintro e w3 ⟨⟨u, rfl⟩, τ2, hx3, hk3⟩
 have F : Hid (MvP K τ w gs g fr fp cb x ys t (.returned (.tuple #[])) w3) := Hd ⟨⟨_, rfl⟩, τ2, _, _, _, hx3, HK2.out.trans hk3, by rw [HD.out, ← cn_n HV.out]; rfl, HM.out, rfl, rfl, rfl, .inl rfl⟩
 clear hx3 hk3 cT
 go_wp2_with fail
 go_end0
 exact F.out
theorem see_31 (hG : KG K) (h : XI K τ w gs g fr fp cb s x ys) (hm : x.mode = 0) (hl : x.st.length ≤ 9000) (hs : s.evs.length ≤ 80000) (hy : ys.length ≤ 9000) (a : Int) (bv : Value) (ho : (atM K.fs x).op = 31) :
  Calls Tryz.prog 166 #[ptrV K.m, ptrV g, .agg #[.int .i64 31, .int .i64 a], bv] w (MvP K τ w gs g fr fp cb x ys (doM K.fs K.ds s)) := by
 obtain ⟨t, ht⟩ : ∃ t, doM K.fs K.ds s = t := ⟨_, rfl⟩
 have hd := doM_31 (ds := K.ds) h.fre ho
 rw [ht] at hd ⊢
 have HX : Hid (∀ W, Below w.heap.size w W → XI K τ W gs g fr fp cb s x ys ∧ Tr (TT (ys.length + 1)) τ w τ W) := Hd fun W hW => ⟨h.on hW, Tr.below h.hz hW⟩
 have HD := Hd hd
 have HM := Hd hm
 have HL := Hd hl
 have HG := Hd hG
 have HS := Hd hs
 have HY := Hd hy
 obtain ⟨m, hkm⟩ : ∃ m, K.m = m := ⟨_, rfl⟩
 have HKM := Hd hkm
 rw [hkm]
 have hbx : Below w.heap.size w (w.alloc (.cells #[.int .i64 31, .int .i64 a] 113)) := (Below.refl _ _).alloc (Nat.le_refl _) _
 clear h hm hl hs ho ht hd hG hkm hy
 go_in
 go_wp2_with fail
 obtain ⟨hx, hk⟩ := HX.out _ hbx
 have cR := Hd (trace_any hx.vm hx.env (ys := x :: ys) ⟨hx.fz.tb, hx.tb⟩ (by have := HY.out; simp; omega))
 rw [HKM.out] at cR
 have HX1 := Hd hx
 have HK := Hd hk
 clear hx hk hbx
 refine cR.out.mono ?_
 rintro e w2 ⟨A, n, c, rfl, hn, hown, hb⟩
 have HX2 := Hd (HX1.out.on hb)
 have HK2 := Hd (HK.out.trans (Tr.below HX1.out.hz hb))
 have cT := Hd (xtell HX2.out (by have := HS.out; omega) ⟨2, 0, 0, A, n, c, traceM K.fs (x :: ys)⟩ (Rdv.own hown fun j hj _ hne => hne (HX1.out.hz j hj)))
 rw [HKM.out] at cT
 clear hown hb hn cR
 go_wp2_with fail
 refine cT.out.mono ?_
 rintro e w3 ⟨⟨u, rfl⟩, τ2, hx3, hk3⟩
 have F : Hid (MvP K τ w gs g fr fp cb x ys t (.returned (.tuple #[])) w3) := Hd ⟨⟨_, rfl⟩, τ2, _, _, _, hx3, HK2.out.trans hk3, by rw [HD.out]; rfl, HM.out, rfl, rfl, rfl, .inl rfl⟩
 clear hx3 hk3 cT
 go_wp2_with fail
 go_end0
 exact F.out
theorem see_27n (hG : KG K) (h : XI K τ w gs g fr fp cb s x ys) (hm : x.mode = 0) (hl : x.st.length ≤ 9000) (hs : s.evs.length ≤ 80000) (hy : ys.length ≤ 9000) (a : Int) (ho : (atM K.fs x).op = 27) (hb0 : x.by_ = false) :
  Calls Tryz.prog 166 #[ptrV K.m, ptrV g, .agg #[.int .i64 27, .int .i64 a], .pointer none] w (MvP K τ w gs g fr fp cb x ys (doM K.fs K.ds s)) := by
 obtain ⟨t, ht⟩ : ∃ t, doM K.fs K.ds s = t := ⟨_, rfl⟩
 have hd := doM_27 (ds := K.ds) h.fre ho
 rw [ht] at hd ⊢
 rw [if_neg (by rw [hb0]; simp), setCh_self] at hd
 have HX : Hid (∀ W, Below w.heap.size w W → XI K τ W gs g fr fp cb s x ys ∧ Tr (TT (ys.length + 1)) τ w τ W) := Hd fun W hW => ⟨h.on hW, Tr.below h.hz hW⟩
 have HD := Hd hd
 have HM := Hd hm
 have HL := Hd hl
 have HG := Hd hG
 have HS := Hd hs
 have HY := Hd hy
 obtain ⟨m, hkm⟩ : ∃ m, K.m = m := ⟨_, rfl⟩
 have HKM := Hd hkm
 rw [hkm]
 have hbx : Below w.heap.size w (w.alloc (.cells #[.int .i64 27, .int .i64 a] 113)) := (Below.refl _ _).alloc (Nat.le_refl _) _
 clear h hm hl hs ho ht hd hG hkm hy hb0
 go_in
 go_wp2_with fail
 obtain ⟨hx, hk⟩ := HX.out _ hbx
 have HX1 := Hd hx
 have HK := Hd hk
 clear hx hk hbx
 refine (num_any 0 _).mono ?_
 rintro e wa ⟨rfl, hb⟩
 have HXa := Hd (HX1.out.on hb)
 have HKa := Hd (HK.out.trans (Tr.below HX1.out.hz hb))
 have cP := Hd (zpush HXa.out.fz (by omega) HXa.out.hz HM.out (by have := HL.out; omega) (numV 0))
 clear hb
 go_wp2_with fail
 refine cP.out.mono ?_
 rintro e wb ⟨⟨u, rfl⟩, τ1, hf, hk1⟩
 have HXb := Hd (HXa.out.own hk1 hf rfl rfl)
 have HKb := Hd (HKa.out.trans (hk1.mono fun _ => TT.tf))
 clear hf hk1 cP
 go_wp2_with fail
 refine (num_any 0 _).mono ?_
 rintro e wc ⟨rfl, hb⟩
 have HXc := Hd (HXb.out.on hb)
 have HKc := Hd (HKb.out.trans (Tr.below HXb.out.hz hb))
 have cP := Hd (zpush HXc.out.fz (by omega) HXc.out.hz HM.out (by have := HL.out; simp; omega) (numV 0))
 clear hb
 go_wp2_with fail
 refine cP.out.mono ?_
 rintro e wd ⟨⟨u, rfl⟩, τ2, hf, hk1⟩
 have HXd := Hd (HXc.out.own hk1 hf rfl rfl)
 have HKd := Hd (HKc.out.trans (hk1.mono fun _ => TT.tf))
 have cT := Hd (xtell HXd.out (by have := HS.out; simpa using (by omega : s.evs.length ≤ 90000)) ⟨3, 0, 0, none, 0, 0, []⟩ (Rdv.nil _ _ _))
 rw [HKM.out] at cT
 clear hf hk1 cP
 go_wp2_with fail
 refine cT.out.mono ?_
 rintro e we ⟨⟨u, rfl⟩, τ3, hx3, hk3⟩
 have F : Hid (MvP K τ w gs g fr fp cb x ys t (.returned (.tuple #[])) we) := Hd ⟨⟨_, rfl⟩, τ3, _, _, _, hx3, HKd.out.trans hk3, by rw [HD.out]; simp [nextM', cn_num, EvV.ab], HM.out, rfl, rfl, rfl, .inl rfl⟩
 clear hx3 hk3 cT
 go_wp2_with fail
 go_end0
 exact F.out
theorem see_27 (hG : KG K) (h : XI K τ w gs g fr fp cb s x ys) (hm : x.mode = 0) (hl : x.st.length ≤ 9000) (hs : s.evs.length ≤ 80000) (hy : ys.length ≤ 9000) (a : Int) (ho : (atM K.fs x).op = 27) (hb0 : x.by_ = true) (hch : (chOf ys).length ≤ 3000) :
  Calls Tryz.prog 166 #[ptrV K.m, ptrV g, .agg #[.int .i64 27, .int .i64 a], .pointer (some ⟨cb, 0, none⟩)] w (MvP K τ w gs g fr fp cb x ys (doM K.fs K.ds s)) := by
 obtain ⟨y, r, gp, gs', rfl, rfl, hpz, hpf⟩ : ∃ y r gp gs', ys = y :: r ∧ gs = gp :: gs' ∧ FZ K τ ys.length w gp fp y ∧ (x.dfd = true → fr = some ⟨gp, 0, none⟩) := by
  rcases h.pr with e | e
  ·exact absurd e (h.dn (h.bd hb0))
  ·exact e
 clear hpz hpf
 obtain ⟨t, ht⟩ : ∃ t, doM K.fs K.ds s = t := ⟨_, rfl⟩
 have hd := doM_27 (ds := K.ds) h.fre ho
 rw [ht] at hd ⊢
 rw [if_pos hb0] at hd
 obtain ⟨A, n, c, hcell, hcz⟩ := (h.ct hb0).at_
 have hfz := (h.ct hb0).fz
 have hcl := (h.ct hb0).lt
 have hn : n ≤ 3000 := by have h1 := hcz.2.2.1; omega
 have HC : Hid (∀ W, Below w.heap.size w W → W.cell? ⟨cb, 0, none⟩ = some (.slice A n c) ∧ W.frozen? ⟨cb, 0, none⟩ = false ∧ ChZ τ W A n c y.ch) := Hd fun W hW => ⟨(hW.cell (p := ⟨cb, 0, none⟩) hcl).trans hcell, (hW.frozen (p := ⟨cb, 0, none⟩) hcl).trans hfz, hcz.tr (T := fun _ => False) (Tr.below h.hz hW) id⟩
 have HN := Hd hn
 have HB0 := Hd hb0
 obtain ⟨w1, hw1⟩ : ∃ W, w.alloc (.cells #[.int .i64 27, .int .i64 a] 113) = W := ⟨_, rfl⟩
 have hbx1 : Below w.heap.size w w1 := by rw [← hw1]; exact (Below.refl _ _).alloc (Nat.le_refl _) _
 have e0 : w1.cell? ⟨w.heap.size, 0, none⟩ = some (.int .i64 27) := by rw [← hw1]; simp [go_sem]
 have e1 : w1.cell? ⟨w.heap.size, 1, none⟩ = some (.int .i64 a) := by rw [← hw1]; simp [go_sem]
 obtain ⟨d1, d2, d3⟩ := HC.out w1 hbx1
 have hx := h.on hbx1
 have HX1 := Hd hx
 have HK : Hid (Tr (TT ((y :: r).length + 1)) τ w τ w1) := Hd (Tr.below h.hz hbx1)
 have HBX := Hd hbx1
 have cR := Hd (zrecover d3 hx.hz HN.out)
 clear hx d3 hbx1
 have HX : Hid (∀ W, Below w.heap.size w W → XI K τ W (gp :: gs') g fr fp cb s x (y :: r) ∧ Tr (TT ((y :: r).length + 1)) τ w τ W) := Hd fun W hW => ⟨h.on hW, Tr.below h.hz hW⟩
 have HD := Hd hd
 have HM := Hd hm
 have HL := Hd hl
 have HG := Hd hG
 have HS := Hd hs
 have HY := Hd hy
 obtain ⟨m, hkm⟩ : ∃ m, K.m = m := ⟨_, rfl⟩
 have HKM := Hd hkm
 rw [hkm]
 have hbx : Below w.heap.size w (w.alloc (.cells #[.int .i64 27, .int .i64 a] 113)) := (Below.refl _ _).alloc (Nat.le_refl _) _
 clear h hm hl hs ho ht hd hG hkm hy hb0 hcell hcz hfz hcl hn hch hbx
 go_in
 go_wp2_with fail
 refine cR.out.mono ?_
 rintro e w2 ⟨A', c', rfl, hcz, hb⟩
 obtain ⟨ch', k', n', hrec⟩ : ∃ ch' k' n', recM y.ch = (ch', k', n') := ⟨_, _, _, rfl⟩
 rw [hrec] at hcz ⊢
 have HB2 : Hid (Below w.heap.size w w2) := Hd (HBX.out.trans (hb.mono HBX.out.size))
 obtain ⟨hx2, hk2⟩ := HX.out w2 HB2.out
 obtain ⟨d1', d2', d3⟩ := HC.out w2 HB2.out
 have hcs := hx2.ctx HB0.out hcz
 have HX3 := Hd hcs.1
 have HK3 := Hd (hk2.trans (hcs.2.mono fun _ => TT.p4))
 have HREC := Hd hrec
 clear hcz hb hx2 hk2 hcs hrec d3 d1 d2 e0 e1
 go_wp2_with fail
 refine (num_any k' _).mono ?_
 rintro e wa ⟨rfl, hb⟩
 have HXa := Hd (HX3.out.on hb)
 have HKa := Hd (HK3.out.trans (Tr.below HX3.out.hz hb))
 have cP := Hd (zpush HXa.out.fz (by omega) HXa.out.hz HM.out (by have := HL.out; omega) (numV k'))
 clear hb
 go_wp2_with fail
 refine cP.out.mono ?_
 rintro e wb ⟨⟨u, rfl⟩, τ1, hf, hk1⟩
 have HXb := Hd (HXa.out.own hk1 hf rfl rfl)
 have HKb := Hd (HKa.out.trans (hk1.mono fun _ => TT.tf))
 clear hf hk1 cP
 go_wp2_with fail
 refine (num_any n' _).mono ?_
 rintro e wc ⟨rfl, hb⟩
 have HXc := Hd (HXb.out.on hb)
 have HKc := Hd (HKb.out.trans (Tr.below HXb.out.hz hb))
 have cP := Hd (zpush HXc.out.fz (by omega) HXc.out.hz HM.out (by have := HL.out; simp; omega) (numV n'))
 clear hb
 go_wp2_with fail
 refine cP.out.mono ?_
 rintro e wd ⟨⟨u, rfl⟩, τ2, hf, hk1⟩
 have HXd := Hd (HXc.out.own hk1 hf rfl rfl)
 have HKd := Hd (HKc.out.trans (hk1.mono fun _ => TT.tf))
 have cT := Hd (xtell HXd.out (by have := HS.out; simpa using (by omega : s.evs.length ≤ 90000)) ⟨3, k', n', none, 0, 0, []⟩ (Rdv.nil _ _ _))
 rw [HKM.out] at cT
 clear hf hk1 cP
 go_wp2_with fail
 refine cT.out.mono ?_
 rintro e we ⟨⟨u, rfl⟩, τ3, hx3, hk3⟩
 have F : Hid (MvP K τ w (gp :: gs') g fr fp cb x (y :: r) t (.returned (.tuple #[])) we) := Hd ⟨⟨_, rfl⟩, τ3, _, _, _, hx3, HKd.out.trans hk3, by rw [HD.out]; simp [nextM', cn_num, EvV.ab, chOf, setCh, HREC.out], HM.out, rfl, rfl, rfl, .inr ⟨y, r, y.sl, _, rfl, rfl⟩⟩
 clear hx3 hk3 cT
 go_wp2_with fail
 go_end0
 exact F.out
end
end Go.Proofs.YtobmjnmcjddhcaaGreat
