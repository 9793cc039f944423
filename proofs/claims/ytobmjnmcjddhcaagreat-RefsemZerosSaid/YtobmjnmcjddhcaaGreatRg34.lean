import Derived.Test.YtobmjnmcjddhcaaGreatRg2
import Derived.Test.YtobmjnmcjddhcaaGreatRg33
set_option linter.unusedSimpArgs false
set_option linter.unusedVariables false
set_option maxRecDepth 100000
set_option maxHeartbeats 8000000
namespace Go.Proofs.YtobmjnmcjddhcaaGreat
open Go.RowKit
variable {T : Tag → Prop} {K : RK} {τ τ' τ3 τ4 : Nat → Tag} {w w' w3 w4 : World} {gs : List Nat} {g : Nat} {fr fp : Option Addr} {cb L : Nat} {s s' s3 t : Ms} {x x' x3 : Fr} {ys ys' ys3 : List Fr} {ch : List Bl}
def stW (m : Nat) (w : World) : Nat := match w.cell? ⟨m, 10, none⟩ with
 | some (.int _ n) => n.toNat
 | _ => 0
theorem XI.stw (h : XI K τ w gs g fr fp cb s x ys) : stW K.m w = s.steps := by
 obtain ⟨PA, pn, pc, EA, en, ec, evs, hv⟩ := h.vm
 unfold stW
 rw [hv.c10]
 exact Int.toNat_natCast _
def BodyI (K : RK) (τ0 : Nat → Tag) (w0 : World) (gs : List Nat) (g : Nat) (fr fp : Option Addr) (cb : Nat) (s0 : Ms) (x0 : Fr) (ys0 : List Fr) (u : Nat) (wr : World) : Prop := ∃ τ t x' ys', RchK K s0 t ∧ XI K τ wr gs g fr fp cb t x' ys' ∧ OkM K.fs K.fuel t ∧ Tr (TT (ys0.length + 1)) τ0 w0 τ wr ∧ x'.dfd = x0.dfd ∧ x'.by_ = x0.by_ ∧ Und ys0 ys' ∧ x'.mode = 0 ∧ K.fuel - t.steps ≤ u
theorem body_any {u : Nat} (hI : ∀ v, v < u → CallC K v) (hG : KG K) (h : XI K τ w gs g fr fp cb s x ys) (hok : OkM K.fs K.fuel s) (hm : x.mode = 0) (hsu : K.fuel - s.steps ≤ u) :
  Calls Tryz.prog 100 #[ptrV K.m, ptrV g, byV x cb] w (BodyP K τ w gs g fr fp cb s x ys (s.steps + 1) 1) := by
 have HB0 : Hid (BodyI K τ w gs g fr fp cb s x ys u w) := Hd ⟨τ, s, x, ys, .refl _, h, hok, Tr.refl h.hz, rfl, rfl, .inl rfl, hm, hsu⟩
 have HI := Hd hI
 have HG := Hd hG
 obtain ⟨m, hkm⟩ : ∃ m, K.m = m := ⟨_, rfl⟩
 have HKM := Hd hkm
 obtain ⟨bv, hbv⟩ : ∃ v, byV x cb = v := ⟨_, rfl⟩
 have HBV := Hd hbv
 rw [hkm, hbv]
 clear h hok hm hsu hI hG hkm hbv
 go_in
 go_wp2_with fail
 go_loopw [7, 8] (fun _ _ wr => Hid (BodyI K τ w gs g fr fp cb s x ys u wr)) (fun _ _ wr => K.fuel - stW m wr)
 case atStart => exact HB0
 case round =>
  obtain ⟨τ1, t, x1, ys1, hr, hx, hok, hkt, hd1, hb1, hu1, hm1, hsu1⟩ := hrel.out
  have hw := hok.wf.x hx.fre
  have hrun := hw.run hm1
  obtain ⟨q, hq⟩ : ∃ q, x1.f = q := ⟨_, rfl⟩
  obtain ⟨pcn, hpn⟩ : ∃ p, x1.pc = p := ⟨_, rfl⟩
  have hql : q < K.fn := by have := hw.t.fn; have h2 := HG.out.pg.pg.len; omega
  obtain ⟨bk, off, s9, b9, A0, n0, c0, A1, n1, c1, A2, n2, c2, A3, n3, c3, A4, n4, c4, A5, n5, c5, A6, n6, c6, A7, n7, c7, A8, n8, c8, xq, hFA, hbk, hxq, hcf, hfw, hcan⟩ := HG.out.pg.get hql
  obtain rfl := fnOf_of hxq
  have hpl : pcn < (fnOf K.fs q).code.length := by rw [← hq, ← hpn]; exact hrun.pc
  obtain ⟨ib, io, yo, ya, rfl, hib, hcat, hcode, hi0, hi1⟩ := code_get hfw.r4 (k := pcn) (by have := hfw.r4.1; omega)
  have hat : atM K.fs x1 = ⟨yo, ya⟩ := by rw [← hcat, ← hq, ← hpn]; rfl
  obtain ⟨PA, pn, pc, EA, en, ec, evs, hv⟩ := hx.vm
  have d0 := hv.c0
  rw [hFA, HKM.out] at d0
  have bI := hx.env.b0
  have d6 : wr.cell? ⟨bk, off + q * 11 + 6, none⟩ = some (.slice (some ⟨ib, io, none⟩) n4 c4) := (bI.cell (p := ⟨bk, off + q * 11 + 6, none⟩) hbk).trans (hcf 6 _ rfl)
  have di0 : wr.cell? ⟨ib, io + pcn * 2, none⟩ = some (.int .i64 yo) := (bI.cell (p := ⟨ib, io + pcn * 2, none⟩) hib).trans hi0
  have di1 : wr.cell? ⟨ib, io + pcn * 2 + 1, none⟩ = some (.int .i64 ya) := (bI.cell (p := ⟨ib, io + pcn * 2 + 1, none⟩) hib).trans hi1
  have HB : Hid (m < wr.heap.size ∧ bk < wr.heap.size ∧ ib < wr.heap.size) := Hd ⟨by rw [← HKM.out]; exact hv.lt, Nat.lt_of_lt_of_le hbk bI.size, Nat.lt_of_lt_of_le hib bI.size⟩
  have hpn4 : pcn < n4 := by have := hfw.r4.1; omega
  have hn4 : (n4 : Int) ≤ 150 := by have := hfw.sm; omega
  have hq0 : (0 : Int) ≤ (q : Int) := by omega
  have hp0 : (0 : Int) ≤ (pcn : Int) := by omega
  have hqn : (q : Int) < (K.fn : Int) := by omega
  have hpni : (pcn : Int) < (n4 : Int) := by omega
  obtain ⟨kn, hkn⟩ : ∃ kn, K.fn = kn := ⟨_, rfl⟩
  obtain ⟨kc, hkc⟩ : ∃ kc, K.fc = kc := ⟨_, rfl⟩
  rw [hkn] at d0 hqn hql
  rw [hkc] at d0
  have hkn50 : (kn : Int) ≤ 50 := by have := HG.out.pg.pg.le; omega
  have HR := Hd hr
  have HX := Hd hx
  have HOK := Hd hok
  have HKT := Hd hkt
  have HD1 := Hd hd1
  have HB1 := Hd hb1
  have HU1 := Hd hu1
  have HM1 := Hd hm1
  have HSU := Hd hsu1
  have HAT := Hd hat
  have HMZ : Hid (stW m wr = t.steps) := Hd (by rw [← HKM.out]; exact hx.stw)
  have HC : Hid (∀ W, Below wr.heap.size wr W → W.cell? ⟨m, 0, none⟩ = some (.slice (some ⟨bk, off, none⟩) kn kc) ∧ W.cell? ⟨bk, off + q * 11 + 6, none⟩ = some (.slice (some ⟨ib, io, none⟩) n4 c4) ∧ W.cell? ⟨ib, io + pcn * 2, none⟩ = some (.int .i64 yo) ∧ W.cell? ⟨ib, io + pcn * 2 + 1, none⟩ = some (.int .i64 ya)) := Hd fun W hW => ⟨(hW.cell (p := ⟨m, 0, none⟩) HB.out.1).trans d0, (hW.cell (p := ⟨bk, off + q * 11 + 6, none⟩) HB.out.2.1).trans d6, (hW.cell (p := ⟨ib, io + pcn * 2, none⟩) HB.out.2.2).trans di0, (hW.cell (p := ⟨ib, io + pcn * 2 + 1, none⟩) HB.out.2.2).trans di1⟩
  have cF : Hid (∀ W, Below wr.heap.size wr W → Calls Tryz.prog 21 #[ptrV g] W fun e w' => e = .returned (.int .i64 (q : Int)) ∧ Below W.heap.size W w') := Hd fun W hW => by
   have := zfunc (HX.out.on hW).fz
   rw [hq] at this
   exact this
  have cP : Hid (∀ W, Below wr.heap.size wr W → Calls Tryz.prog 18 #[ptrV g] W fun e w' => e = .returned (.int .i64 (pcn : Int)) ∧ Below W.heap.size W w') := Hd fun W hW => by
   have := zpc (HX.out.on hW).fz
   rw [hpn] at this
   exact this
  have HTL : Hid (∀ w5 b, Below wr.heap.size wr w5 → w5.cell? ⟨b, 0, none⟩ = some (.int .i64 yo) → w5.cell? ⟨b, 1, none⟩ = some (.int .i64 ya) → wr.heap.size ≤ b → XI K τ1 w5 gs g fr fp cb t x1 ys1 ∧ τ1 b = (0, 0) ∧ Tr (TT (ys.length + 1)) τ w τ1 w5) := Hd fun w5 b hW _ _ hb => ⟨HX.out.on hW, HX.out.hz _ hb, HKT.out.trans (Tr.below HX.out.hz hW)⟩
  clear hr hx hok hkt hd1 hb1 hu1 hm1 hsu1 hat hw hrun hq hcat hcode hi0 hi1 hv hFA hbk hxq hcf hfw hcan hpl hib bI hkn hkc d0 d6 di0 di1 hpn
  go_wp2_with fail
  refine wp_region_held (S := fun W => Below wr.heap.size wr W) (by kernel_rfl) ?_
  change wpAnyH _ _ _ _ _ _ _ _ (World.drew _)
  have hS0 : Below wr.heap.size wr wr.drew := below_drewN' (Below.refl _ _) 1
  obtain ⟨w1, hw1⟩ : ∃ z, wr.drew = z := ⟨_, rfl⟩
  rw [hw1] at hS0 ⊢
  clear hw1
  refine tkH 0 rfl (by intro W hW; go_simp; first | done | exact rfl) hS0 ?_
  try go_simp
  refine tkH 1 rfl (by intro W hW; go_simp; first | done | exact rfl) hS0 ?_
  try go_simp
  refine tkH 2 rfl (by intro W hW; go_simp; first | done | exact rfl) hS0 ?_
  try go_simp
  refine tkH 3 rfl (by intro W hW; go_simp; first | done | exact rfl) hS0 ?_
  try go_simp
  refine tkH 4 rfl (by intro W hW; obtain ⟨r0, r1, r2, r3⟩ := HC.out W hW; go_simp; first | done | exact rfl) hS0 ?_
  try go_simp
  refine tkH 5 rfl (by intro W hW; go_simp; first | done | exact rfl) hS0 ?_
  try go_simp
  refine tkH 10 rfl (by intro W hW; go_simp; first | done | exact rfl) hS0 ?_
  try go_simp
  refine wpAnyH_two (i := 6) (j := 14) (by kernel_rfl) rfl rfl (fun K' hK => ?_) (fun K' hK => ?_)
  ·go_simp
   refine (cF.out w1 hS0).mono ?_
   rintro e w2 ⟨rfl, hb⟩
   have hS2 : Below wr.heap.size wr w2 := hS0.trans (hb.mono hS0.size)
   clear hb
   refine hK _ _ ⟨hS2, ?_⟩; clear hK K'
   try go_simp
   refine tkH 7 rfl (by intro W hW; obtain ⟨r0, r1, r2, r3⟩ := HC.out W hW; go_simp; first | done | exact rfl) hS2 ?_
   try go_simp
   refine tkH 8 rfl (by intro W hW; go_simp; first | done | exact rfl) hS2 ?_
   try go_simp
   refine tkH 9 rfl (by intro W hW; obtain ⟨r0, r1, r2, r3⟩ := HC.out W hW; go_simp; first | done | exact rfl) hS2 ?_
   try go_simp
   refine wpAnyH_two (i := 11) (j := 14) (by kernel_rfl) rfl rfl (fun K' hK => ?_) (fun K' hK => ?_)
   ·go_simp
    refine (cP.out w2 hS2).mono ?_
    rintro e w3 ⟨rfl, hb⟩
    have hS3 : Below wr.heap.size wr w3 := hS2.trans (hb.mono hS2.size)
    clear hb
    refine hK _ _ ⟨hS3, ?_⟩; clear hK K'
    try go_simp
    refine tkH 12 rfl (by intro W hW; obtain ⟨r0, r1, r2, r3⟩ := HC.out W hW; go_simp; first | done | exact rfl) hS3 ?_
    try go_simp
    refine tkH 13 rfl (by intro W hW; obtain ⟨r0, r1, r2, r3⟩ := HC.out W hW; go_simp; first | done | exact rfl) hS3 ?_
    try go_simp
    refine wpAnyH_one (i := 14) (by kernel_rfl) rfl (fun K' hK => ?_)
    go_simp
    obtain ⟨b, hbe⟩ : ∃ z, w3.heap.size = z := ⟨_, rfl⟩
    obtain ⟨w4, hwn⟩ : ∃ z, w3.alloc (.cells #[.int .i64 0, .int .i64 0] 113) = z := ⟨_, rfl⟩
    have hS4 : Below wr.heap.size wr w4 := by rw [← hwn]; exact hS3.alloc hS3.size _
    have z0 : w4.cell? ⟨b, 0, none⟩ = some (.int .i64 0) := by rw [← hwn, ← hbe]; simp [go_sem]
    have z1 : w4.cell? ⟨b, 1, none⟩ = some (.int .i64 0) := by rw [← hwn, ← hbe]; simp [go_sem]
    have zf : ∀ i, w4.frozen? ⟨b, i, none⟩ = false := fun i => by rw [← hwn, ← hbe]; simp [go_sem]
    have hbl : b < w4.heap.size := World.block_lt_of_cell? _ _ z0
    have hbge : wr.heap.size ≤ b := by rw [← hbe]; exact hS3.size
    rw [hwn, hbe]
    clear hwn hbe
    refine hK _ _ ⟨hS4, ?_⟩; clear hK K'
    try go_simp
    refine wpAnyH_one (i := 15) (by kernel_rfl) rfl (fun K' hK => ?_)
    go_simp
    obtain ⟨w5, hw5⟩ : ∃ z, (w4.setCell ⟨b, 0, none⟩ (.int .i64 yo)).setCell ⟨b, 1, none⟩ (.int .i64 ya) = z := ⟨_, rfl⟩
    have hS5 : Below wr.heap.size wr w5 := by rw [← hw5]; exact (hS4.setCell hbge _).setCell hbge _
    have e0 : w5.cell? ⟨b, 0, none⟩ = some (.int .i64 yo) := by rw [← hw5]; simp [go_sem, z0]
    have e1 : w5.cell? ⟨b, 1, none⟩ = some (.int .i64 ya) := by rw [← hw5]; simp [go_sem, z1]
    rw [hw5]
    clear hw5
    refine hK _ _ ⟨hS5, ?_⟩; clear hK K'
    try go_simp
    refine wpAnyH_done (by kernel_rfl) ?_ _
    clear z0 z1 zf hbl
    obtain ⟨hx5, hbt, hk5⟩ := HTL.out w5 b hS5 e0 e1 hbge
    have HX5 := Hd hx5
    have HK5 := Hd hk5
    have HBT := Hd hbt
    have cB := Hd (burn_any hx5.vm hx5.hz (by have := HG.out.fu; omega) (by have h1 := HOK.out.fu; have h2 := HG.out.fu; omega))
    rw [HKM.out] at cB
    clear hx5 hk5 hbt hS5 hbge
    go_wp2_with fail
    refine cB.out.mono ?_
    rintro e w6 (⟨hlt, ⟨u', rfl⟩, τ6, hv6, hk6⟩ | ⟨hlt, rfl, τ6, hv6, hk6⟩)
    case inr =>
     have HF : Hid (BodyP K τ w gs g fr fp cb s x ys (s.steps + 1) 1 (.panicked dryE) w6) := Hd (.inl ⟨rfl, τ6, t, HK5.out.trans (hk6.mono fun _ => TV.tt), HX5.out.env.tr hk6 TV.no, hv6, HR.out, by rw [HX5.out.fre]; simp, by rw [stepM_run HX5.out.fre HM1.out, if_neg hlt]⟩)
     clear hv6 hk6 hlt e0 e1 cB
     go_wp2_with fail
     exact ⟨rfl, HF.out⟩
    case inl =>
     have hstep : stepM K.fs K.ds K.fuel t = some (doM K.fs K.ds { t with steps := t.steps + 1 }) := by rw [stepM_run HX5.out.fre HM1.out, if_pos hlt]
     have hokd := step_ok HG.out.hf HOK.out hstep
     have hok6 : OkM K.fs K.fuel { t with steps := t.steps + 1 } := ⟨HOK.out.wf, ⟨Nat.le_succ_of_le HOK.out.sz.load, Nat.le_succ_of_le HOK.out.sz.blm, Nat.le_succ_of_le HOK.out.sz.evs, Nat.le_succ_of_le HOK.out.sz.drawn⟩, hlt⟩
     have hx6 := HX5.out.run hk6 hv6 rfl
     have hr6 : RchK K s (doM K.fs K.ds { t with steps := t.steps + 1 }) := HR.out.tail hstep
     have i0 := hk6.cellv e0 (by rw [HBT.out]; exact TV.no)
     have i1 := hk6.cellv e1 (by rw [HBT.out]; exact TV.no)
     have HX6 := Hd hx6
     have HK6 := Hd (HK5.out.trans (hk6.mono fun _ => TV.tt))
     have HR6 := Hd hr6
     have HS6 : Hid (s.steps ≤ t.steps ∧ t.steps < K.fuel) := Hd ⟨reach_steps HR.out, hlt⟩
     by_cases h25 : yo = 25
     ·subst h25
      have hd := doM_25 (ds := K.ds) (s := { t with steps := t.steps + 1 }) HX6.out.fre (by rw [HAT.out])
      rw [hd] at hr6
      have HF : Hid (BodyP K τ w gs g fr fp cb s x ys (s.steps + 1) 1 (.returned (.slice none 0 0)) w6) := Hd (.inr ⟨τ6, _, { x1 with st := [], mode := 1 }, ys1, Nat.succ_le_succ HS6.out.1, hr6, HX6.out.ms (fun hf => hf.leave (c := x1.ch) (by decide)) rfl rfl rfl rfl rfl rfl, HK6.out, HD1.out, HB1.out, HU1.out, .inl ⟨rfl, rfl⟩⟩)
      clear hv6 hk6 hlt e0 e1 cB hstep hokd hok6 hx6 hr6 hd
      go_wp2_with fail
      go_ret
      exact HF.out
     ·have hby : byV x1 cb = bv := by rw [← HBV.out]; unfold byV; rw [HB1.out]
      have cD := Hd (do_all (HI.out (K.fuel - (t.steps + 1)) (by have h1 := HSU.out; have h2 := HS6.out; omega)) HG.out hx6 hok6 hokd HM1.out (Nat.le_refl _) yo ya (by rw [HAT.out]) (by rw [HAT.out]) h25)
      rw [HKM.out, hby] at cD
      have t25 : (yo == 25) = false := by rw [beq_eq_false_iff_ne]; exact h25
      clear hv6 hk6 hlt e0 e1 cB hstep hok6 hx6 hr6 h25 hby
      go_wp2_with fail
      refine cD.out.mono ?_
      rintro e w7 (hdry | ⟨τ7, t7, x7, ys7, hst7, hr7, hx7, hk7, hd7, hb7, hu7, hres⟩)
      ·obtain ⟨rfl, hdr⟩ := hdry
       have HF : Hid (BodyP K τ w gs g fr fp cb s x ys (s.steps + 1) 1 (.panicked dryE) w7) := Hd (.inl (DryP.from (DryP.lv ⟨rfl, hdr⟩ HU1.out) HR6.out HK6.out))
       clear hdr i0 i1 cD
       go_wp2_with fail
       exact ⟨rfl, HF.out⟩
      have HK7 : Hid (Tr (TT (ys.length + 1)) τ w τ7 w7) := Hd (HK6.out.trans (by rw [HU1.out.len] at hk7; exact hk7))
      have HR7 : Hid (RchK K s t7) := Hd (HR6.out.trans hr7)
      have HX7 := Hd hx7
      have HD7 : Hid (x7.dfd = x.dfd ∧ x7.by_ = x.by_ ∧ Und ys ys7 ∧ t.steps + 1 ≤ t7.steps) := Hd ⟨hd7.trans HD1.out, hb7.trans HB1.out, HU1.out.trans hu7, hst7⟩
      have HO7 : Hid (OkM K.fs K.fuel t7) := Hd (reach_ok HG.out.hf hokd hr7)
      clear hst7 hr7 hx7 hk7 hd7 hb7 hu7 i0 i1 cD hokd
      rcases hres with ⟨hm7, rfl⟩ | ⟨hm7, hop, ad, n, c, rfl, hcz⟩
      ·have HBI : Hid (BodyI K τ w gs g fr fp cb s x ys u w7) := Hd ⟨τ7, t7, x7, ys7, HR7.out, HX7.out, HO7.out, HK7.out, HD7.out.1, HD7.out.2.1, HD7.out.2.2.1, hm7, by have h1 := HSU.out; have h2 := HD7.out.2.2.2; omega⟩
       have HME : Hid (K.fuel - stW m w7 < K.fuel - stW m wr) := Hd (by
        rw [HMZ.out, show stW m w7 = t7.steps by rw [← HKM.out]; exact HX7.out.stw]
        have h1 := HD7.out.2.2.2
        have h2 := HS6.out.2
        omega)
       clear hm7
       go_wp2_with fail
       go_roundw
       case rel => exact HBI
       case measure => exact HME.out
      ·have HF : Hid (BodyP K τ w gs g fr fp cb s x ys (s.steps + 1) 1 (.returned (.slice (some ad) n c)) w7) := Hd (.inr ⟨τ7, t7, x7, ys7, by have h1 := HD7.out.2.2.2; have h2 := HS6.out.1; omega, HR7.out, HX7.out, HK7.out, HD7.out.1, HD7.out.2.1, HD7.out.2.2.1, .inr ⟨hm7, hop, ad, n, c, rfl, hcz⟩⟩)
       clear hm7 hop hcz
       go_wp2_with fail
       go_ret
       exact HF.out
   ·go_simp
    obtain ⟨b, hbe⟩ : ∃ z, w2.heap.size = z := ⟨_, rfl⟩
    obtain ⟨w3, hwn⟩ : ∃ z, w2.alloc (.cells #[.int .i64 0, .int .i64 0] 113) = z := ⟨_, rfl⟩
    have hS3 : Below wr.heap.size wr w3 := by rw [← hwn]; exact hS2.alloc hS2.size _
    have z0 : w3.cell? ⟨b, 0, none⟩ = some (.int .i64 0) := by rw [← hwn, ← hbe]; simp [go_sem]
    have z1 : w3.cell? ⟨b, 1, none⟩ = some (.int .i64 0) := by rw [← hwn, ← hbe]; simp [go_sem]
    have zf : ∀ i, w3.frozen? ⟨b, i, none⟩ = false := fun i => by rw [← hwn, ← hbe]; simp [go_sem]
    have hbl : b < w3.heap.size := World.block_lt_of_cell? _ _ z0
    have hbge : wr.heap.size ≤ b := by rw [← hbe]; exact hS2.size
    rw [hwn, hbe]
    clear hwn hbe
    refine hK _ _ ⟨hS3, ?_⟩; clear hK K'
    try go_simp
    refine wpAnyH_one (i := 11) (by kernel_rfl) rfl (fun K' hK => ?_)
    go_simp
    refine (cP.out w3 hS3).mono ?_
    rintro e w4 ⟨rfl, hb⟩
    have hS4 : Below wr.heap.size wr w4 := hS3.trans (hb.mono hS3.size)
    have z0 := (hb.cell (p := ⟨b, 0, none⟩) hbl).trans z0
    have z1 := (hb.cell (p := ⟨b, 1, none⟩) hbl).trans z1
    have zf : ∀ i, w4.frozen? ⟨b, i, none⟩ = false := fun i => (hb.frozen (p := ⟨b, i, none⟩) hbl).trans (zf i)
    have hbl := Nat.lt_of_lt_of_le hbl hb.size
    clear hb
    refine hK _ _ ⟨hS4, ?_⟩; clear hK K'
    try go_simp
    refine tkH 12 rfl (by intro W hW; obtain ⟨r0, r1, r2, r3⟩ := HC.out W hW; go_simp; first | done | exact rfl) hS4 ?_
    try go_simp
    refine tkH 13 rfl (by intro W hW; obtain ⟨r0, r1, r2, r3⟩ := HC.out W hW; go_simp; first | done | exact rfl) hS4 ?_
    try go_simp
    refine wpAnyH_one (i := 15) (by kernel_rfl) rfl (fun K' hK => ?_)
    go_simp
    obtain ⟨w5, hw5⟩ : ∃ z, (w4.setCell ⟨b, 0, none⟩ (.int .i64 yo)).setCell ⟨b, 1, none⟩ (.int .i64 ya) = z := ⟨_, rfl⟩
    have hS5 : Below wr.heap.size wr w5 := by rw [← hw5]; exact (hS4.setCell hbge _).setCell hbge _
    have e0 : w5.cell? ⟨b, 0, none⟩ = some (.int .i64 yo) := by rw [← hw5]; simp [go_sem, z0]
    have e1 : w5.cell? ⟨b, 1, none⟩ = some (.int .i64 ya) := by rw [← hw5]; simp [go_sem, z1]
    rw [hw5]
    clear hw5
    refine hK _ _ ⟨hS5, ?_⟩; clear hK K'
    try go_simp
    refine wpAnyH_done (by kernel_rfl) ?_ _
    clear z0 z1 zf hbl
    obtain ⟨hx5, hbt, hk5⟩ := HTL.out w5 b hS5 e0 e1 hbge
    have HX5 := Hd hx5
    have HK5 := Hd hk5
    have HBT := Hd hbt
    have cB := Hd (burn_any hx5.vm hx5.hz (by have := HG.out.fu; omega) (by have h1 := HOK.out.fu; have h2 := HG.out.fu; omega))
    rw [HKM.out] at cB
    clear hx5 hk5 hbt hS5 hbge
    go_wp2_with fail
    refine cB.out.mono ?_
    rintro e w6 (⟨hlt, ⟨u', rfl⟩, τ6, hv6, hk6⟩ | ⟨hlt, rfl, τ6, hv6, hk6⟩)
    case inr =>
     have HF : Hid (BodyP K τ w gs g fr fp cb s x ys (s.steps + 1) 1 (.panicked dryE) w6) := Hd (.inl ⟨rfl, τ6, t, HK5.out.trans (hk6.mono fun _ => TV.tt), HX5.out.env.tr hk6 TV.no, hv6, HR.out, by rw [HX5.out.fre]; simp, by rw [stepM_run HX5.out.fre HM1.out, if_neg hlt]⟩)
     clear hv6 hk6 hlt e0 e1 cB
     go_wp2_with fail
     exact ⟨rfl, HF.out⟩
    case inl =>
     have hstep : stepM K.fs K.ds K.fuel t = some (doM K.fs K.ds { t with steps := t.steps + 1 }) := by rw [stepM_run HX5.out.fre HM1.out, if_pos hlt]
     have hokd := step_ok HG.out.hf HOK.out hstep
     have hok6 : OkM K.fs K.fuel { t with steps := t.steps + 1 } := ⟨HOK.out.wf, ⟨Nat.le_succ_of_le HOK.out.sz.load, Nat.le_succ_of_le HOK.out.sz.blm, Nat.le_succ_of_le HOK.out.sz.evs, Nat.le_succ_of_le HOK.out.sz.drawn⟩, hlt⟩
     have hx6 := HX5.out.run hk6 hv6 rfl
     have hr6 : RchK K s (doM K.fs K.ds { t with steps := t.steps + 1 }) := HR.out.tail hstep
     have i0 := hk6.cellv e0 (by rw [HBT.out]; exact TV.no)
     have i1 := hk6.cellv e1 (by rw [HBT.out]; exact TV.no)
     have HX6 := Hd hx6
     have HK6 := Hd (HK5.out.trans (hk6.mono fun _ => TV.tt))
     have HR6 := Hd hr6
     have HS6 : Hid (s.steps ≤ t.steps ∧ t.steps < K.fuel) := Hd ⟨reach_steps HR.out, hlt⟩
     by_cases h25 : yo = 25
     ·subst h25
      have hd := doM_25 (ds := K.ds) (s := { t with steps := t.steps + 1 }) HX6.out.fre (by rw [HAT.out])
      rw [hd] at hr6
      have HF : Hid (BodyP K τ w gs g fr fp cb s x ys (s.steps + 1) 1 (.returned (.slice none 0 0)) w6) := Hd (.inr ⟨τ6, _, { x1 with st := [], mode := 1 }, ys1, Nat.succ_le_succ HS6.out.1, hr6, HX6.out.ms (fun hf => hf.leave (c := x1.ch) (by decide)) rfl rfl rfl rfl rfl rfl, HK6.out, HD1.out, HB1.out, HU1.out, .inl ⟨rfl, rfl⟩⟩)
      clear hv6 hk6 hlt e0 e1 cB hstep hokd hok6 hx6 hr6 hd
      go_wp2_with fail
      go_ret
      exact HF.out
     ·have hby : byV x1 cb = bv := by rw [← HBV.out]; unfold byV; rw [HB1.out]
      have cD := Hd (do_all (HI.out (K.fuel - (t.steps + 1)) (by have h1 := HSU.out; have h2 := HS6.out; omega)) HG.out hx6 hok6 hokd HM1.out (Nat.le_refl _) yo ya (by rw [HAT.out]) (by rw [HAT.out]) h25)
      rw [HKM.out, hby] at cD
      have t25 : (yo == 25) = false := by rw [beq_eq_false_iff_ne]; exact h25
      clear hv6 hk6 hlt e0 e1 cB hstep hok6 hx6 hr6 h25 hby
      go_wp2_with fail
      refine cD.out.mono ?_
      rintro e w7 (hdry | ⟨τ7, t7, x7, ys7, hst7, hr7, hx7, hk7, hd7, hb7, hu7, hres⟩)
      ·obtain ⟨rfl, hdr⟩ := hdry
       have HF : Hid (BodyP K τ w gs g fr fp cb s x ys (s.steps + 1) 1 (.panicked dryE) w7) := Hd (.inl (DryP.from (DryP.lv ⟨rfl, hdr⟩ HU1.out) HR6.out HK6.out))
       clear hdr i0 i1 cD
       go_wp2_with fail
       exact ⟨rfl, HF.out⟩
      have HK7 : Hid (Tr (TT (ys.length + 1)) τ w τ7 w7) := Hd (HK6.out.trans (by rw [HU1.out.len] at hk7; exact hk7))
      have HR7 : Hid (RchK K s t7) := Hd (HR6.out.trans hr7)
      have HX7 := Hd hx7
      have HD7 : Hid (x7.dfd = x.dfd ∧ x7.by_ = x.by_ ∧ Und ys ys7 ∧ t.steps + 1 ≤ t7.steps) := Hd ⟨hd7.trans HD1.out, hb7.trans HB1.out, HU1.out.trans hu7, hst7⟩
      have HO7 : Hid (OkM K.fs K.fuel t7) := Hd (reach_ok HG.out.hf hokd hr7)
      clear hst7 hr7 hx7 hk7 hd7 hb7 hu7 i0 i1 cD hokd
      rcases hres with ⟨hm7, rfl⟩ | ⟨hm7, hop, ad, n, c, rfl, hcz⟩
      ·have HBI : Hid (BodyI K τ w gs g fr fp cb s x ys u w7) := Hd ⟨τ7, t7, x7, ys7, HR7.out, HX7.out, HO7.out, HK7.out, HD7.out.1, HD7.out.2.1, HD7.out.2.2.1, hm7, by have h1 := HSU.out; have h2 := HD7.out.2.2.2; omega⟩
       have HME : Hid (K.fuel - stW m w7 < K.fuel - stW m wr) := Hd (by
        rw [HMZ.out, show stW m w7 = t7.steps by rw [← HKM.out]; exact HX7.out.stw]
        have h1 := HD7.out.2.2.2
        have h2 := HS6.out.2
        omega)
       clear hm7
       go_wp2_with fail
       go_roundw
       case rel => exact HBI
       case measure => exact HME.out
      ·have HF : Hid (BodyP K τ w gs g fr fp cb s x ys (s.steps + 1) 1 (.returned (.slice (some ad) n c)) w7) := Hd (.inr ⟨τ7, t7, x7, ys7, by have h1 := HD7.out.2.2.2; have h2 := HS6.out.1; omega, HR7.out, HX7.out, HK7.out, HD7.out.1, HD7.out.2.1, HD7.out.2.2.1, .inr ⟨hm7, hop, ad, n, c, rfl, hcz⟩⟩)
       clear hm7 hop hcz
       go_wp2_with fail
       go_ret
       exact HF.out
  ·go_simp
   obtain ⟨b, hbe⟩ : ∃ z, w1.heap.size = z := ⟨_, rfl⟩
   obtain ⟨w2, hwn⟩ : ∃ z, w1.alloc (.cells #[.int .i64 0, .int .i64 0] 113) = z := ⟨_, rfl⟩
   have hS2 : Below wr.heap.size wr w2 := by rw [← hwn]; exact hS0.alloc hS0.size _
   have z0 : w2.cell? ⟨b, 0, none⟩ = some (.int .i64 0) := by rw [← hwn, ← hbe]; simp [go_sem]
   have z1 : w2.cell? ⟨b, 1, none⟩ = some (.int .i64 0) := by rw [← hwn, ← hbe]; simp [go_sem]
   have zf : ∀ i, w2.frozen? ⟨b, i, none⟩ = false := fun i => by rw [← hwn, ← hbe]; simp [go_sem]
   have hbl : b < w2.heap.size := World.block_lt_of_cell? _ _ z0
   have hbge : wr.heap.size ≤ b := by rw [← hbe]; exact hS0.size
   rw [hwn, hbe]
   clear hwn hbe
   refine hK _ _ ⟨hS2, ?_⟩; clear hK K'
   try go_simp
   refine wpAnyH_one (i := 6) (by kernel_rfl) rfl (fun K' hK => ?_)
   go_simp
   refine (cF.out w2 hS2).mono ?_
   rintro e w3 ⟨rfl, hb⟩
   have hS3 : Below wr.heap.size wr w3 := hS2.trans (hb.mono hS2.size)
   have z0 := (hb.cell (p := ⟨b, 0, none⟩) hbl).trans z0
   have z1 := (hb.cell (p := ⟨b, 1, none⟩) hbl).trans z1
   have zf : ∀ i, w3.frozen? ⟨b, i, none⟩ = false := fun i => (hb.frozen (p := ⟨b, i, none⟩) hbl).trans (zf i)
   have hbl := Nat.lt_of_lt_of_le hbl hb.size
   clear hb
   refine hK _ _ ⟨hS3, ?_⟩; clear hK K'
   try go_simp
   refine tkH 7 rfl (by intro W hW; obtain ⟨r0, r1, r2, r3⟩ := HC.out W hW; go_simp; first | done | exact rfl) hS3 ?_
   try go_simp
   refine tkH 8 rfl (by intro W hW; go_simp; first | done | exact rfl) hS3 ?_
   try go_simp
   refine tkH 9 rfl (by intro W hW; obtain ⟨r0, r1, r2, r3⟩ := HC.out W hW; go_simp; first | done | exact rfl) hS3 ?_
   try go_simp
   refine wpAnyH_one (i := 11) (by kernel_rfl) rfl (fun K' hK => ?_)
   go_simp
   refine (cP.out w3 hS3).mono ?_
   rintro e w4 ⟨rfl, hb⟩
   have hS4 : Below wr.heap.size wr w4 := hS3.trans (hb.mono hS3.size)
   have z0 := (hb.cell (p := ⟨b, 0, none⟩) hbl).trans z0
   have z1 := (hb.cell (p := ⟨b, 1, none⟩) hbl).trans z1
   have zf : ∀ i, w4.frozen? ⟨b, i, none⟩ = false := fun i => (hb.frozen (p := ⟨b, i, none⟩) hbl).trans (zf i)
   have hbl := Nat.lt_of_lt_of_le hbl hb.size
   clear hb
   refine hK _ _ ⟨hS4, ?_⟩; clear hK K'
   try go_simp
   refine tkH 12 rfl (by intro W hW; obtain ⟨r0, r1, r2, r3⟩ := HC.out W hW; go_simp; first | done | exact rfl) hS4 ?_
   try go_simp
   refine tkH 13 rfl (by intro W hW; obtain ⟨r0, r1, r2, r3⟩ := HC.out W hW; go_simp; first | done | exact rfl) hS4 ?_
   try go_simp
   refine wpAnyH_one (i := 15) (by kernel_rfl) rfl (fun K' hK => ?_)
   go_simp
   obtain ⟨w5, hw5⟩ : ∃ z, (w4.setCell ⟨b, 0, none⟩ (.int .i64 yo)).setCell ⟨b, 1, none⟩ (.int .i64 ya) = z := ⟨_, rfl⟩
   have hS5 : Below wr.heap.size wr w5 := by rw [← hw5]; exact (hS4.setCell hbge _).setCell hbge _
   have e0 : w5.cell? ⟨b, 0, none⟩ = some (.int .i64 yo) := by rw [← hw5]; simp [go_sem, z0]
   have e1 : w5.cell? ⟨b, 1, none⟩ = some (.int .i64 ya) := by rw [← hw5]; simp [go_sem, z1]
   rw [hw5]
   clear hw5
   refine hK _ _ ⟨hS5, ?_⟩; clear hK K'
   try go_simp
   refine wpAnyH_done (by kernel_rfl) ?_ _
   clear z0 z1 zf hbl
   obtain ⟨hx5, hbt, hk5⟩ := HTL.out w5 b hS5 e0 e1 hbge
   have HX5 := Hd hx5
   have HK5 := Hd hk5
   have HBT := Hd hbt
   have cB := Hd (burn_any hx5.vm hx5.hz (by have := HG.out.fu; omega) (by have h1 := HOK.out.fu; have h2 := HG.out.fu; omega))
   rw [HKM.out] at cB
   clear hx5 hk5 hbt hS5 hbge
   go_wp2_with fail
   refine cB.out.mono ?_
   rintro e w6 (⟨hlt, ⟨u', rfl⟩, τ6, hv6, hk6⟩ | ⟨hlt, rfl, τ6, hv6, hk6⟩)
   case inr =>
    have HF : Hid (BodyP K τ w gs g fr fp cb s x ys (s.steps + 1) 1 (.panicked dryE) w6) := Hd (.inl ⟨rfl, τ6, t, HK5.out.trans (hk6.mono fun _ => TV.tt), HX5.out.env.tr hk6 TV.no, hv6, HR.out, by rw [HX5.out.fre]; simp, by rw [stepM_run HX5.out.fre HM1.out, if_neg hlt]⟩)
    clear hv6 hk6 hlt e0 e1 cB
    go_wp2_with fail
    exact ⟨rfl, HF.out⟩
   case inl =>
    have hstep : stepM K.fs K.ds K.fuel t = some (doM K.fs K.ds { t with steps := t.steps + 1 }) := by rw [stepM_run HX5.out.fre HM1.out, if_pos hlt]
    have hokd := step_ok HG.out.hf HOK.out hstep
    have hok6 : OkM K.fs K.fuel { t with steps := t.steps + 1 } := ⟨HOK.out.wf, ⟨Nat.le_succ_of_le HOK.out.sz.load, Nat.le_succ_of_le HOK.out.sz.blm, Nat.le_succ_of_le HOK.out.sz.evs, Nat.le_succ_of_le HOK.out.sz.drawn⟩, hlt⟩
    have hx6 := HX5.out.run hk6 hv6 rfl
    have hr6 : RchK K s (doM K.fs K.ds { t with steps := t.steps + 1 }) := HR.out.tail hstep
    have i0 := hk6.cellv e0 (by rw [HBT.out]; exact TV.no)
    have i1 := hk6.cellv e1 (by rw [HBT.out]; exact TV.no)
    have HX6 := Hd hx6
    have HK6 := Hd (HK5.out.trans (hk6.mono fun _ => TV.tt))
    have HR6 := Hd hr6
    have HS6 : Hid (s.steps ≤ t.steps ∧ t.steps < K.fuel) := Hd ⟨reach_steps HR.out, hlt⟩
    by_cases h25 : yo = 25
    ·subst h25
     have hd := doM_25 (ds := K.ds) (s := { t with steps := t.steps + 1 }) HX6.out.fre (by rw [HAT.out])
     rw [hd] at hr6
     have HF : Hid (BodyP K τ w gs g fr fp cb s x ys (s.steps + 1) 1 (.returned (.slice none 0 0)) w6) := Hd (.inr ⟨τ6, _, { x1 with st := [], mode := 1 }, ys1, Nat.succ_le_succ HS6.out.1, hr6, HX6.out.ms (fun hf => hf.leave (c := x1.ch) (by decide)) rfl rfl rfl rfl rfl rfl, HK6.out, HD1.out, HB1.out, HU1.out, .inl ⟨rfl, rfl⟩⟩)
     clear hv6 hk6 hlt e0 e1 cB hstep hokd hok6 hx6 hr6 hd
     go_wp2_with fail
     go_ret
     exact HF.out
    ·have hby : byV x1 cb = bv := by rw [← HBV.out]; unfold byV; rw [HB1.out]
     have cD := Hd (do_all (HI.out (K.fuel - (t.steps + 1)) (by have h1 := HSU.out; have h2 := HS6.out; omega)) HG.out hx6 hok6 hokd HM1.out (Nat.le_refl _) yo ya (by rw [HAT.out]) (by rw [HAT.out]) h25)
     rw [HKM.out, hby] at cD
     have t25 : (yo == 25) = false := by rw [beq_eq_false_iff_ne]; exact h25
     clear hv6 hk6 hlt e0 e1 cB hstep hok6 hx6 hr6 h25 hby
     go_wp2_with fail
     refine cD.out.mono ?_
     rintro e w7 (hdry | ⟨τ7, t7, x7, ys7, hst7, hr7, hx7, hk7, hd7, hb7, hu7, hres⟩)
     ·obtain ⟨rfl, hdr⟩ := hdry
      have HF : Hid (BodyP K τ w gs g fr fp cb s x ys (s.steps + 1) 1 (.panicked dryE) w7) := Hd (.inl (DryP.from (DryP.lv ⟨rfl, hdr⟩ HU1.out) HR6.out HK6.out))
      clear hdr i0 i1 cD
      go_wp2_with fail
      exact ⟨rfl, HF.out⟩
     have HK7 : Hid (Tr (TT (ys.length + 1)) τ w τ7 w7) := Hd (HK6.out.trans (by rw [HU1.out.len] at hk7; exact hk7))
     have HR7 : Hid (RchK K s t7) := Hd (HR6.out.trans hr7)
     have HX7 := Hd hx7
     have HD7 : Hid (x7.dfd = x.dfd ∧ x7.by_ = x.by_ ∧ Und ys ys7 ∧ t.steps + 1 ≤ t7.steps) := Hd ⟨hd7.trans HD1.out, hb7.trans HB1.out, HU1.out.trans hu7, hst7⟩
     have HO7 : Hid (OkM K.fs K.fuel t7) := Hd (reach_ok HG.out.hf hokd hr7)
     clear hst7 hr7 hx7 hk7 hd7 hb7 hu7 i0 i1 cD hokd
     rcases hres with ⟨hm7, rfl⟩ | ⟨hm7, hop, ad, n, c, rfl, hcz⟩
     ·have HBI : Hid (BodyI K τ w gs g fr fp cb s x ys u w7) := Hd ⟨τ7, t7, x7, ys7, HR7.out, HX7.out, HO7.out, HK7.out, HD7.out.1, HD7.out.2.1, HD7.out.2.2.1, hm7, by have h1 := HSU.out; have h2 := HD7.out.2.2.2; omega⟩
      have HME : Hid (K.fuel - stW m w7 < K.fuel - stW m wr) := Hd (by
       rw [HMZ.out, show stW m w7 = t7.steps by rw [← HKM.out]; exact HX7.out.stw]
       have h1 := HD7.out.2.2.2
       have h2 := HS6.out.2
       omega)
      clear hm7
      go_wp2_with fail
      go_roundw
      case rel => exact HBI
      case measure => exact HME.out
     ·have HF : Hid (BodyP K τ w gs g fr fp cb s x ys (s.steps + 1) 1 (.returned (.slice (some ad) n c)) w7) := Hd (.inr ⟨τ7, t7, x7, ys7, by have h1 := HD7.out.2.2.2; have h2 := HS6.out.1; omega, HR7.out, HX7.out, HK7.out, HD7.out.1, HD7.out.2.1, HD7.out.2.2.1, .inr ⟨hm7, hop, ad, n, c, rfl, hcz⟩⟩)
      clear hm7 hop hcz
      go_wp2_with fail
      go_ret
      exact HF.out
end Go.Proofs.YtobmjnmcjddhcaaGreat
