/-
  Whether two runs are the same, but for their steps: by the document.
-/
import Derived.Test.YtpladpmkpchndaaEv13
import Derived.RegionTactic
namespace Go.Proofs.Ytpladpmkpchndaa
open Go.RowKit
set_option linter.unusedSimpArgs false
set_option linter.unusedVariables false

set_option maxRecDepth 100000 in
set_option maxHeartbeats 4000000 in
theorem refRuns_any (a b : DRun) (A0 : Option Addr) (n0 c0 : Nat) (A1 : Option Addr) (n1 c1 : Nat) (A2 : Option Addr) (n2 c2 : Nat) (D0 : Option Addr) (m0 d0 : Nat) (D1 : Option Addr) (m1 d1 : Nat) (D2 : Option Addr) (m2 d2 : Nat) (B : Nat) (w : World) (ha0 : SlV w B A0 n0 c0 a.events) (ha1 : SlN w B A1 n1 c1 a.results) (ha2 : SlP w B A2 n2 c2 a.chain) (hb0 : SlV w B D0 m0 d0 b.events) (hb1 : SlN w B D1 m1 d1 b.results) (hb2 : SlP w B D2 m2 d2 b.chain) (hB : B ≤ w.heap.size) :
    Calls Try.prog 69 #[runV A0 n0 c0 a.fin A1 n1 c1 A2 n2 c2 a.steps, runV D0 m0 d0 b.fin D1 m1 d1 D2 m2 d2 b.steps] w fun e w' => e = .returned (.bool (runEq a b)) ∧ Below w.heap.size w w' := by
  have cE : ∀ W, Below w.heap.size w W → Hid (Calls Try.prog 62 #[.slice A0 n0 c0, .slice D0 m0 d0] W fun e w' => e = .returned (.bool (begL eqV a.events b.events)) ∧ Below W.heap.size W w') := fun W hW => refBegins_any B A0 D0 n0 m0 c0 d0 _ _ W (ha0.keep (hW.mono hB)) (hb0.keep (hW.mono hB)) (Nat.le_trans hB hW.size)
  have cF : ∀ W, Below w.heap.size w W → Hid (Calls Try.prog 62 #[.slice D0 m0 d0, .slice A0 n0 c0] W fun e w' => e = .returned (.bool (begL eqV b.events a.events)) ∧ Below W.heap.size W w') := fun W hW => refBegins_any B D0 A0 m0 n0 d0 c0 _ _ W (hb0.keep (hW.mono hB)) (ha0.keep (hW.mono hB)) (Nat.le_trans hB hW.size)
  have cI : ∀ W, Below w.heap.size w W → Hid (Calls Try.prog 28 #[.slice A1 n1 c1, .slice D1 m1 d1] W fun e w' => e = .returned (.bool (eqIs a.results b.results)) ∧ ∃ q, w' = W.drewN q) := fun W hW => refInts_any B B A1 D1 n1 m1 c1 d1 _ _ W (ha1.keep (hW.mono hB)) (hb1.keep (hW.mono hB))
  have t2 : ((n2 : Int) != (m2 : Int)) = !decide (a.chain.length = b.chain.length) := by rw [ha2.1, hb2.1, Bool.eq_iff_iff]; simp; omega
  have L2 : Hid (decide (a.chain.length = b.chain.length) = true → n2 = m2) := Lib.hid (fun h => by rw [← ha2.1, ← hb2.1]; exact of_decide_eq_true h)
  have hn2 : n2 ≤ 10000000000000 := by have := ha2.2.2.2.1; unfold reachBytes at this; omega
  have HC1 := Lib.hid ha2
  have HC2 := Lib.hid hb2
  have HBB := Lib.hid hB
  rw [runEq_ref]
  obtain ⟨e1, h1⟩ : ∃ v, begL eqV a.events b.events = v := ⟨_, rfl⟩
  obtain ⟨f1, h1'⟩ : ∃ v, begL eqV b.events a.events = v := ⟨_, rfl⟩
  obtain ⟨e2, h2⟩ : ∃ v, begL eqP a.chain b.chain = v := ⟨_, rfl⟩
  obtain ⟨e3, h3⟩ : ∃ v, eqIs a.results b.results = v := ⟨_, rfl⟩
  obtain ⟨x2, h5⟩ : ∃ v, decide (a.chain.length = b.chain.length) = v := ⟨_, rfl⟩
  rw [h1] at cE ⊢
  rw [h1'] at cF ⊢
  rw [h2]
  rw [h3] at cI ⊢
  rw [h5] at t2 L2 ⊢
  have H2 := Lib.hid h2
  obtain ⟨fa, h6⟩ : ∃ v, a.fin = v := ⟨_, rfl⟩
  obtain ⟨fb, h7⟩ : ∃ v, b.fin = v := ⟨_, rfl⟩
  obtain ⟨sa, h8⟩ : ∃ v, a.steps = v := ⟨_, rfl⟩
  obtain ⟨sb, h9⟩ : ∃ v, b.steps = v := ⟨_, rfl⟩
  obtain ⟨x3, t3⟩ : ∃ v, (fa == fb) = v := ⟨_, rfl⟩
  have t3' : (fa != fb) = !x3 := by rw [← t3]; rfl
  rw [h6, h7, h8, h9, t3]
  have HLA : Hid (a.chain.length = n2) := Lib.hid ha2.1
  obtain ⟨ca, hca⟩ : ∃ v, a.chain = v := ⟨_, rfl⟩
  obtain ⟨cb, hcb⟩ : ∃ v, b.chain = v := ⟨_, rfl⟩
  rw [hca] at HC1 H2 HLA
  rw [hcb] at HC2 H2
  clear h1 h1' h2 h3 h5 h6 h7 h8 h9 ha0 ha1 ha2 hb0 hb1 hb2 hB t3 hca hcb
  obtain ⟨w1, hw1⟩ : ∃ w1, w.alloc (.cells #[.slice A0 n0 c0, .int .i64 fa, .slice A1 n1 c1, .slice A2 n2 c2, .int .i64 sa] 103) = w1 := ⟨_, rfl⟩
  obtain ⟨w2, hw2⟩ : ∃ w2, w1.alloc (.cells #[.slice D0 m0 d0, .int .i64 fb, .slice D1 m1 d1, .slice D2 m2 d2, .int .i64 sb] 103) = w2 := ⟨_, rfl⟩
  have hl := lay2 (B := 0) hw1 hw2
  have HW : Hid ((w.alloc (.cells #[.slice A0 n0 c0, .int .i64 fa, .slice A1 n1 c1, .slice A2 n2 c2, .int .i64 sa] 103)).alloc (.cells #[.slice D0 m0 d0, .int .i64 fb, .slice D1 m1 d1, .slice D2 m2 d2, .int .i64 sb] 103) = w2) := Lib.hid (by rw [hw1, hw2])
  have HB := Lib.hid hl.1
  have EA := Lib.hid hl.2.1
  have EB := Lib.hid hl.2.2
  clear hl hw1 hw2
  have hS2 : Below w2.heap.size w2 w2 := Below.refl _ _
  go_enter Try.func69, Try.ntmps69
  go_wp2_with fail
  try rw [HW.out]
  refine Calls.mono (cE _ (bl_trans HB.out HB.out.size hS2)).out ?_
  rintro e w3 ⟨rfl, hb3⟩
  have hS3 := bl_trans hS2 hS2.size hb3
  clear hb3
  have ca0 := EA.out w3 hS3 0 (.slice A0 n0 c0) rfl
  have ca1 := EA.out w3 hS3 1 (.int .i64 fa) rfl
  have ca2 := EA.out w3 hS3 2 (.slice A1 n1 c1) rfl
  have ca3 := EA.out w3 hS3 3 (.slice A2 n2 c2) rfl
  have cb0 := EB.out w3 hS3 0 (.slice D0 m0 d0) rfl
  have cb1 := EB.out w3 hS3 1 (.int .i64 fb) rfl
  have cb2 := EB.out w3 hS3 2 (.slice D1 m1 d1) rfl
  have cb3 := EB.out w3 hS3 3 (.slice D2 m2 d2) rfl
  cases e1
  case false =>
    go_wp2_with fail
    try rw [HW.out]
    go_ret
    exact ⟨by simp, bl_trans HB.out HB.out.size hS3⟩
  case true =>
    go_wp2_with fail
    try rw [HW.out]
    refine Calls.mono (cF _ (bl_trans HB.out HB.out.size hS3)).out ?_
    rintro e w4 ⟨rfl, hb4⟩
    have hS4 := bl_trans hS3 hS3.size hb4
    clear hb4
    clear ca0 cb0 ca1 cb1 ca2 cb2 ca3 cb3
    have ca0 := EA.out w4 hS4 0 (.slice A0 n0 c0) rfl
    have ca1 := EA.out w4 hS4 1 (.int .i64 fa) rfl
    have ca2 := EA.out w4 hS4 2 (.slice A1 n1 c1) rfl
    have ca3 := EA.out w4 hS4 3 (.slice A2 n2 c2) rfl
    have cb0 := EB.out w4 hS4 0 (.slice D0 m0 d0) rfl
    have cb1 := EB.out w4 hS4 1 (.int .i64 fb) rfl
    have cb2 := EB.out w4 hS4 2 (.slice D1 m1 d1) rfl
    have cb3 := EB.out w4 hS4 3 (.slice D2 m2 d2) rfl
    cases f1
    case false =>
      go_wp2_with fail
      try rw [HW.out]
      go_ret
      exact ⟨by simp, bl_trans HB.out HB.out.size hS4⟩
    case true =>
      cases x3
      case false =>
        go_wp2_with fail
        try rw [HW.out]
        go_ret
        exact ⟨by simp, bl_trans HB.out HB.out.size hS4⟩
      case true =>
        go_wp2_with fail
        try rw [HW.out]
        refine Calls.mono (cI _ (bl_trans HB.out HB.out.size hS4)).out ?_
        rintro e w5 ⟨rfl, q, rfl⟩
        have hS5 := below_drewN' hS4 q
        clear ca0 cb0 ca1 cb1 ca2 cb2 ca3 cb3
        have ca0 := EA.out _ hS5 0 (.slice A0 n0 c0) rfl
        have ca1 := EA.out _ hS5 1 (.int .i64 fa) rfl
        have ca2 := EA.out _ hS5 2 (.slice A1 n1 c1) rfl
        have ca3 := EA.out _ hS5 3 (.slice A2 n2 c2) rfl
        have cb0 := EB.out _ hS5 0 (.slice D0 m0 d0) rfl
        have cb1 := EB.out _ hS5 1 (.int .i64 fb) rfl
        have cb2 := EB.out _ hS5 2 (.slice D1 m1 d1) rfl
        have cb3 := EB.out _ hS5 3 (.slice D2 m2 d2) rfl
        cases e3
        case false =>
          go_wp2_with fail
          try rw [HW.out]
          go_ret
          exact ⟨by simp, bl_trans HB.out HB.out.size hS5⟩
        case true =>
          cases x2
          case false =>
            go_wp2_with fail
            try rw [HW.out]
            go_ret
            exact ⟨by simp, bl_trans HB.out HB.out.size hS5⟩
          case true =>
            have hnm := L2.out rfl
            subst hnm
            clear cE cF cI L2 HW
            go_wp2_with fail
            go_loopw [5] (fun i wr => ∃ k : Nat, k ≤ n2 ∧ i = .int .i64 k ∧ Hid (begL eqP ca cb = begL eqP (ca.drop k) (cb.drop k)) ∧ Hid (Below w2.heap.size w2 wr)) (fun i _ => n2 - (intOf i).toNat)
            case atStart => exact ⟨0, Nat.zero_le _, rfl, (Lib.hid rfl : Hid (begL eqP ca cb = begL eqP ca cb)), hS5⟩
            case round =>
              clear ca0 cb0 ca1 cb1 ca2 cb2 ca3 cb3
              obtain ⟨k, hk, rfl, heq, hb⟩ := hrel
              have ca3 := EA.out wr hb.out 3 (.slice A2 n2 c2) rfl
              have cb3 := EB.out wr hb.out 3 (.slice D2 n2 d2) rfl
              by_cases hlt : k < n2
              · have hbw := bl_trans HB.out HB.out.size hb.out
                obtain ⟨b1, o1, x, X0, y0, z0, rfl, hb1, hx, p1, p2, p3, p4, hse1, _⟩ := slp_at HC1.out hlt
                obtain ⟨b2, o2, y, Y0, u0, v0, rfl, hb2, hy, q1, q2, q3, q4, hse2, _⟩ := slp_at HC2.out hlt
                rw [← (hbw.mono HBB.out).cell hb1] at p1 p2 p3 p4
                rw [← (hbw.mono HBB.out).cell hb2] at q1 q2 q3 q4
                have HST := Lib.hid (begL_step eqP hx hy)
                have cc : ∀ W, Below w.heap.size w W → Hid (Calls Try.prog 88 #[.slice X0 y0 z0, .slice Y0 u0 v0] W fun e w' => e = .returned (.bool (eqEs x.trace y.trace)) ∧ ∃ q, w' = W.drewN q) := fun W hW => entries_any B B X0 Y0 y0 u0 z0 v0 x.trace y.trace W (sle_rc (hse1.keep (hW.mono HBB.out))) (sle_rc (hse2.keep (hW.mono HBB.out)))
                have HSE : Hid (eqP x y = (((x.kind == y.kind) && ((x.num == y.num) && (x.reco == y.reco))) && eqEs x.trace y.trace)) := Lib.hid rfl
                obtain ⟨g, hg⟩ : ∃ g, eqEs x.trace y.trace = g := ⟨_, rfl⟩
                rw [hg] at cc HSE
                obtain ⟨i1, j1⟩ : ∃ v, (x.kind == y.kind) = v := ⟨_, rfl⟩
                obtain ⟨i2, j2⟩ : ∃ v, (x.num == y.num) = v := ⟨_, rfl⟩
                rw [j1, j2] at HSE
                have j1' : (x.kind != y.kind) = !i1 := by rw [← j1]; rfl
                have j2' : (x.num != y.num) = !i2 := by rw [← j2]; rfl
                obtain ⟨k1, l1⟩ : ∃ v, x.kind = v := ⟨_, rfl⟩
                obtain ⟨k2, l2⟩ : ∃ v, x.num = v := ⟨_, rfl⟩
                obtain ⟨k3, l3⟩ : ∃ v, x.reco = v := ⟨_, rfl⟩
                obtain ⟨r1, s1⟩ : ∃ v, y.kind = v := ⟨_, rfl⟩
                obtain ⟨r2, s2⟩ : ∃ v, y.num = v := ⟨_, rfl⟩
                obtain ⟨r3, s3⟩ : ∃ v, y.reco = v := ⟨_, rfl⟩
                rw [l1] at p1 j1'
                rw [l2] at p2 j2'
                rw [l3] at p3 HSE
                rw [s1] at q1 j1'
                rw [s2] at q2 j2'
                rw [s3] at q3 HSE
                have z0 : w.heap.size + 1 < wr.heap.size := by have h1 := HB.out.size; have h2 := hb.out.size; have := World.block_lt_of_cell? _ _ cb3; simpa using this
                have z1 : b1 < wr.heap.size := World.block_lt_of_cell? _ _ p1
                have z2 : b2 < wr.heap.size := World.block_lt_of_cell? _ _ q1
                have z3 : w.heap.size < wr.heap.size := by omega
                have hbw' := Lib.hid hbw
                clear hbw
                clear hg hse1 hse2 hx hy j1 j2 l1 l2 l3 s1 s2 s3 hb1 hb2
                have HS7 : ∀ o1 o2, Hid (Below w.heap.size w ((wr.alloc o1).alloc o2).drew) := fun o1 o2 => Lib.hid (((hbw'.out.alloc hbw'.out.size _).alloc (Nat.le_trans hbw'.out.size (by simp)) _).drew)
                have HS8 : ∀ W, Below w.heap.size w W → Hid (Below w2.heap.size w2 W) → Hid (Below w2.heap.size w2 W) := fun _ _ h => h
                have HS9 : ∀ o1 o2 q, Hid (Below w2.heap.size w2 (((wr.alloc o1).alloc o2).drewN q)) := fun o1 o2 q => Lib.hid (below_drewN' ((hb.out.alloc hb.out.size _).alloc (Nat.le_trans hb.out.size (by simp)) _) q)
                clear HS8
                go_wp2_with fail
                go_region
                all_goals
                  cases i1
                  case false =>
                    have HE : Hid (e2 = false) := Lib.hid (by rw [← H2.out, heq.out, HST.out, HSE.out]; simp)
                    go_wp2_with fail
                    go_ret
                    exact ⟨by rw [HE.out]; rfl, ((HS7 _ _).out)⟩
                  case true =>
                    cases i2
                    case false =>
                      have HE : Hid (e2 = false) := Lib.hid (by rw [← H2.out, heq.out, HST.out, HSE.out]; simp)
                      go_wp2_with fail
                      go_ret
                      exact ⟨by rw [HE.out]; rfl, ((HS7 _ _).out)⟩
                    case true =>
                      cases k3 <;> cases r3
                      · go_wp2_with fail
                        refine Calls.mono (cc _ (HS7 _ _).out).out ?_
                        rintro e w9 ⟨rfl, q, rfl⟩
                        cases g
                        case false =>
                          have HE : Hid (e2 = false) := Lib.hid (by rw [← H2.out, heq.out, HST.out, HSE.out]; simp)
                          go_wp2_with fail
                          go_ret
                          exact ⟨by rw [HE.out]; rfl, (bl_trans HB.out HB.out.size (HS9 _ _ _).out)⟩
                        case true =>
                          go_wp2_with fail
                          go_roundw
                          case rel => exact ⟨k + 1, by omega, by go_num, (by rw [heq.out, HST.out, HSE.out]; rfl : begL eqP ca cb = begL eqP (ca.drop (k + 1)) (cb.drop (k + 1))), (HS9 _ _ _).out⟩
                          case measure => simp [intOf]; omega
                      · have HE : Hid (e2 = false) := Lib.hid (by rw [← H2.out, heq.out, HST.out, HSE.out]; simp)
                        go_wp2_with fail
                        go_ret
                        exact ⟨by rw [HE.out]; rfl, ((HS7 _ _).out)⟩
                      · have HE : Hid (e2 = false) := Lib.hid (by rw [← H2.out, heq.out, HST.out, HSE.out]; simp)
                        go_wp2_with fail
                        go_ret
                        exact ⟨by rw [HE.out]; rfl, ((HS7 _ _).out)⟩
                      · go_wp2_with fail
                        refine Calls.mono (cc _ (HS7 _ _).out).out ?_
                        rintro e w9 ⟨rfl, q, rfl⟩
                        cases g
                        case false =>
                          have HE : Hid (e2 = false) := Lib.hid (by rw [← H2.out, heq.out, HST.out, HSE.out]; simp)
                          go_wp2_with fail
                          go_ret
                          exact ⟨by rw [HE.out]; rfl, (bl_trans HB.out HB.out.size (HS9 _ _ _).out)⟩
                        case true =>
                          go_wp2_with fail
                          go_roundw
                          case rel => exact ⟨k + 1, by omega, by go_num, (by rw [heq.out, HST.out, HSE.out]; rfl : begL eqP ca cb = begL eqP (ca.drop (k + 1)) (cb.drop (k + 1))), (HS9 _ _ _).out⟩
                          case measure => simp [intOf]; omega
              · have hkn : k = n2 := by omega
                subst hkn
                have HE : Hid (e2 = true) := Lib.hid (by rw [← H2.out, heq.out, ← HLA.out]; exact begL_end _ _ _)
                go_wp2_with fail
                go_ret
                exact ⟨by rw [HE.out]; rfl, bl_trans HB.out HB.out.size hb.out⟩
end Go.Proofs.Ytpladpmkpchndaa
