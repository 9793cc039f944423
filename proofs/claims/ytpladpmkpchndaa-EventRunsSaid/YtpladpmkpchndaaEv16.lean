/-
  The walk of EventRuns.
-/
import Derived.Test.YtpladpmkpchndaaEv14
import Derived.Test.YtpladpmkpchndaaEv15
namespace Go.Proofs.Ytpladpmkpchndaa
open Go.RowKit
set_option linter.unusedSimpArgs false
set_option linter.unusedVariables false

set_option maxRecDepth 100000 in
set_option maxHeartbeats 4000000 in
theorem eventRuns_few (a b : DRun) (A0 : Option Addr) (n0 c0 : Nat) (A1 : Option Addr) (n1 c1 : Nat) (A2 : Option Addr) (n2 c2 : Nat) (D0 : Option Addr) (m0 d0 : Nat) (D1 : Option Addr) (m1 d1 : Nat) (D2 : Option Addr) (m2 d2 : Nat) (st : Int) (w : World) (ha0 : SlV w w.heap.size A0 n0 c0 a.events) (ha1 : SlN w w.heap.size A1 n1 c1 a.results) (ha2 : SlP w w.heap.size A2 n2 c2 a.chain) (hb0 : SlV w w.heap.size D0 m0 d0 b.events) (hb1 : SlN w w.heap.size D1 m1 d1 b.results) (hb2 : SlP w w.heap.size D2 m2 d2 b.chain) :
    Calls Try.prog 14 #[runV A0 n0 c0 a.fin A1 n1 c1 A2 n2 c2 a.steps, runV D0 m0 d0 b.fin D1 m1 d1 D2 m2 d2 b.steps, .int .i64 st] w fun e w' => e = .returned (.bool true) ∧ Below w.heap.size w w' := by
  have cR : ∀ W, Below w.heap.size w W → Hid (Calls Try.prog 68 #[runV A0 n0 c0 a.fin A1 n1 c1 A2 n2 c2 a.steps, runV D0 m0 d0 b.fin D1 m1 d1 D2 m2 d2 b.steps] W fun e w' => e = .returned (.bool (runEq a b)) ∧ Below W.heap.size W w') := fun W hW => runs_any a b A0 n0 c0 A1 n1 c1 A2 n2 c2 D0 m0 d0 D1 m1 d1 D2 m2 d2 w.heap.size W (ha0.keep hW) (ha1.keep hW) (ha2.keep hW) (hb0.keep hW) (hb1.keep hW) (hb2.keep hW) hW.size
  have cD : ∀ W, Below w.heap.size w W → Hid (Calls Try.prog 69 #[runV A0 n0 c0 a.fin A1 n1 c1 A2 n2 c2 a.steps, runV D0 m0 d0 b.fin D1 m1 d1 D2 m2 d2 b.steps] W fun e w' => e = .returned (.bool (runEq a b)) ∧ Below W.heap.size W w') := fun W hW => refRuns_any a b A0 n0 c0 A1 n1 c1 A2 n2 c2 D0 m0 d0 D1 m1 d1 D2 m2 d2 w.heap.size W (ha0.keep hW) (ha1.keep hW) (ha2.keep hW) (hb0.keep hW) (hb1.keep hW) (hb2.keep hW) hW.size
  have cS : ∀ W, Below w.heap.size w W → Hid (Calls Try.prog 68 #[runV A0 n0 c0 a.fin A1 n1 c1 A2 n2 c2 a.steps, runV A0 n0 c0 a.fin A1 n1 c1 A2 n2 c2 st] W fun e w' => e = .returned (.bool true) ∧ Below W.heap.size W w') := fun W hW => by
    have := runs_any a { a with steps := st } A0 n0 c0 A1 n1 c1 A2 n2 c2 A0 n0 c0 A1 n1 c1 A2 n2 c2 w.heap.size W (ha0.keep hW) (ha1.keep hW) (ha2.keep hW) (ha0.keep hW) (ha1.keep hW) (ha2.keep hW) hW.size
    rw [runEq_same] at this
    exact this
  have cl : ∀ w : World, Hid (Calls Try.prog 58 #[] w fun e w' => e = .returned (.bool true) ∧ Below w.heap.size w w') := fun w => ev_lives w
  obtain ⟨v, hv⟩ : ∃ v, runEq a b = v := ⟨_, rfl⟩
  rw [hv] at cR cD
  have tv : (v == v) = true := by simp
  obtain ⟨fa, h6⟩ : ∃ v, a.fin = v := ⟨_, rfl⟩
  obtain ⟨fb, h7⟩ : ∃ v, b.fin = v := ⟨_, rfl⟩
  obtain ⟨sa, h8⟩ : ∃ v, a.steps = v := ⟨_, rfl⟩
  obtain ⟨sb, h9⟩ : ∃ v, b.steps = v := ⟨_, rfl⟩
  rw [h6, h7, h8, h9] at cR cD ⊢
  rw [h6, h8] at cS
  clear h6 h7 h8 h9 ha0 ha1 ha2 hb0 hb1 hb2 hv
  have cm : ∀ W, Hid (Calls Try.prog 63 #[runV A0 n0 c0 fa A1 n1 c1 A2 n2 c2 sa] W fun e w' => e = .returned (.bool (smallB n0 n1 n2)) ∧ Below W.heap.size W w') := fun W => small_any A0 n0 c0 fa A1 n1 c1 A2 n2 c2 sa W
  have cn : ∀ W, Hid (Calls Try.prog 63 #[runV D0 m0 d0 fb D1 m1 d1 D2 m2 d2 sb] W fun e w' => e = .returned (.bool (smallB m0 m1 m2)) ∧ Below W.heap.size W w') := fun W => small_any D0 m0 d0 fb D1 m1 d1 D2 m2 d2 sb W
  obtain ⟨y1, hy1⟩ : ∃ v, smallB n0 n1 n2 = v := ⟨_, rfl⟩
  obtain ⟨y2, hy2⟩ : ∃ v, smallB m0 m1 m2 = v := ⟨_, rfl⟩
  rw [hy1] at cm
  rw [hy2] at cn
  clear hy1 hy2
  obtain ⟨w1, hw1⟩ : ∃ w1, w.alloc (.cells #[.slice A0 n0 c0, .int .i64 fa, .slice A1 n1 c1, .slice A2 n2 c2, .int .i64 sa] 103) = w1 := ⟨_, rfl⟩
  obtain ⟨w2, hw2⟩ : ∃ w2, w1.alloc (.cells #[.slice D0 m0 d0, .int .i64 fb, .slice D1 m1 d1, .slice D2 m2 d2, .int .i64 sb] 103) = w2 := ⟨_, rfl⟩
  have hl := lay2 (B := 0) hw1 hw2
  have HW : Hid ((w.alloc (.cells #[.slice A0 n0 c0, .int .i64 fa, .slice A1 n1 c1, .slice A2 n2 c2, .int .i64 sa] 103)).alloc (.cells #[.slice D0 m0 d0, .int .i64 fb, .slice D1 m1 d1, .slice D2 m2 d2, .int .i64 sb] 103) = w2) := Lib.hid (by rw [hw1, hw2])
  have HB := Lib.hid hl.1
  have EA := Lib.hid hl.2.1
  have EB := Lib.hid hl.2.2
  clear hl hw1 hw2
  have hS2 : Below w2.heap.size w2 w2 := Below.refl _ _
  go_enter Try.func14, Try.ntmps14
  go_wp2_with fail
  try rw [HW.out]
  refine Calls.mono (cm _).out ?_
  rintro e w3 ⟨rfl, hb3⟩
  have hS3 := bl_trans hS2 hS2.size hb3
  clear hb3
  have ca0 := EA.out w3 hS3 0 (.slice A0 n0 c0) rfl
  have ca1 := EA.out w3 hS3 1 (.int .i64 fa) rfl
  have ca2 := EA.out w3 hS3 2 (.slice A1 n1 c1) rfl
  have ca3 := EA.out w3 hS3 3 (.slice A2 n2 c2) rfl
  have ca4 := EA.out w3 hS3 4 (.int .i64 sa) rfl
  have cb0 := EB.out w3 hS3 0 (.slice D0 m0 d0) rfl
  have cb1 := EB.out w3 hS3 1 (.int .i64 fb) rfl
  have cb2 := EB.out w3 hS3 2 (.slice D1 m1 d1) rfl
  have cb3 := EB.out w3 hS3 3 (.slice D2 m2 d2) rfl
  have cb4 := EB.out w3 hS3 4 (.int .i64 sb) rfl
  cases y1
  case false =>
    go_wp2_with fail
    try rw [HW.out]
    refine Calls.mono (cl _).out ?_
    rintro e w4 ⟨rfl, hb4⟩
    have hS4 := bl_trans hS3 hS3.size hb4
    clear hb4
    go_wp2_with fail
    go_ret
    exact ⟨rfl, bl_trans HB.out HB.out.size hS4⟩
  case true =>
    go_wp2_with fail
    try rw [HW.out]
    refine Calls.mono (cn _).out ?_
    rintro e w4 ⟨rfl, hb4⟩
    have hS4 := bl_trans hS3 hS3.size hb4
    clear hb4
    clear ca0 cb0 ca1 cb1 ca2 cb2 ca3 cb3 ca4 cb4
    have ca0 := EA.out w4 hS4 0 (.slice A0 n0 c0) rfl
    have ca1 := EA.out w4 hS4 1 (.int .i64 fa) rfl
    have ca2 := EA.out w4 hS4 2 (.slice A1 n1 c1) rfl
    have ca3 := EA.out w4 hS4 3 (.slice A2 n2 c2) rfl
    have ca4 := EA.out w4 hS4 4 (.int .i64 sa) rfl
    have cb0 := EB.out w4 hS4 0 (.slice D0 m0 d0) rfl
    have cb1 := EB.out w4 hS4 1 (.int .i64 fb) rfl
    have cb2 := EB.out w4 hS4 2 (.slice D1 m1 d1) rfl
    have cb3 := EB.out w4 hS4 3 (.slice D2 m2 d2) rfl
    have cb4 := EB.out w4 hS4 4 (.int .i64 sb) rfl
    cases y2
    case false =>
      go_wp2_with fail
      try rw [HW.out]
      refine Calls.mono (cl _).out ?_
      rintro e w5 ⟨rfl, hb5⟩
      have hS5 := bl_trans hS4 hS4.size hb5
      clear hb5
      go_wp2_with fail
      go_ret
      exact ⟨rfl, bl_trans HB.out HB.out.size hS5⟩
    case true =>
      go_wp2_with fail
      obtain ⟨w5, hw5⟩ : ∃ w5, w4.alloc (.cells #[.slice A0 n0 c0, .int .i64 fa, .slice A1 n1 c1, .slice A2 n2 c2, .int .i64 st] 103) = w5 := ⟨_, rfl⟩
      rw [hw5]
      have hS5 : Below w2.heap.size w2 w5 := by rw [← hw5]; exact hS4.alloc hS4.size _
      have EC : Hid (∀ W, Below w5.heap.size w5 W → ∀ i v, (#[.slice A0 n0 c0, .int .i64 fa, .slice A1 n1 c1, .slice A2 n2 c2, .int .i64 st] : Array Value)[i]? = some v → W.cell? ⟨w4.heap.size, i, none⟩ = some v) := Lib.hid (fun W hW i v hv => box_cells w4 _ 103 W (by rw [hw5]; exact hW.mono (by rw [← hw5]; simp)) i v hv)
      have hT : Hid (∀ W, Below w5.heap.size w5 W → Below w2.heap.size w2 W) := Lib.hid (fun W hW => bl_trans hS5 hS5.size hW)
      have hS6 : Below w5.heap.size w5 w5.drew := (Below.refl _ _).drew
      have hU : Hid (∀ W, Below w5.heap.size w5 W → Below w.heap.size w W) := Lib.hid (fun W hW => bl_trans HB.out HB.out.size (hT.out W hW))
      clear hw5 cm cn ca0 cb0 ca1 cb1 ca2 cb2 ca3 cb3 ca4 cb4
      refine wp_region_held (S := fun W => Below w5.heap.size w5 W) (by kernel_rfl) ?_
      change wpAnyH _ _ _ _ _ _ _ _ (World.drew _)
      refine wpAnyH_take (i := 0) (v := runV A0 n0 c0 fa A1 n1 c1 A2 n2 c2 sa) rfl (by kernel_rfl) (by kernel_rfl) (by kernel_rfl) (fun _ _ _ h => h) (Or.inl ⟨by rfl, by intro W hW; have a0 := EA.out W (hT.out W hW) 0 (.slice A0 n0 c0) rfl; have a1 := EA.out W (hT.out W hW) 1 (.int .i64 fa) rfl; have a2 := EA.out W (hT.out W hW) 2 (.slice A1 n1 c1) rfl; have a3 := EA.out W (hT.out W hW) 3 (.slice A2 n2 c2) rfl; have a4 := EA.out W (hT.out W hW) 4 (.int .i64 sa) rfl; go_simp; try (first | (with_reducible rfl) | omega)⟩) hS6 ?_
      refine wpAnyH_take (i := 1) (v := runV D0 m0 d0 fb D1 m1 d1 D2 m2 d2 sb) rfl (by kernel_rfl) (by kernel_rfl) (by kernel_rfl) (fun _ _ _ h => h) (Or.inl ⟨by rfl, by intro W hW; have a0 := EB.out W (hT.out W hW) 0 (.slice D0 m0 d0) rfl; have a1 := EB.out W (hT.out W hW) 1 (.int .i64 fb) rfl; have a2 := EB.out W (hT.out W hW) 2 (.slice D1 m1 d1) rfl; have a3 := EB.out W (hT.out W hW) 3 (.slice D2 m2 d2) rfl; have a4 := EB.out W (hT.out W hW) 4 (.int .i64 sb) rfl; go_simp; try (first | (with_reducible rfl) | omega)⟩) hS6 ?_
      refine wpAnyH_take (i := 3) (v := runV A0 n0 c0 fa A1 n1 c1 A2 n2 c2 sa) rfl (by kernel_rfl) (by kernel_rfl) (by kernel_rfl) (fun _ _ _ h => h) (Or.inl ⟨by rfl, by intro W hW; have a0 := EA.out W (hT.out W hW) 0 (.slice A0 n0 c0) rfl; have a1 := EA.out W (hT.out W hW) 1 (.int .i64 fa) rfl; have a2 := EA.out W (hT.out W hW) 2 (.slice A1 n1 c1) rfl; have a3 := EA.out W (hT.out W hW) 3 (.slice A2 n2 c2) rfl; have a4 := EA.out W (hT.out W hW) 4 (.int .i64 sa) rfl; go_simp; try (first | (with_reducible rfl) | omega)⟩) hS6 ?_
      refine wpAnyH_take (i := 4) (v := runV D0 m0 d0 fb D1 m1 d1 D2 m2 d2 sb) rfl (by kernel_rfl) (by kernel_rfl) (by kernel_rfl) (fun _ _ _ h => h) (Or.inl ⟨by rfl, by intro W hW; have a0 := EB.out W (hT.out W hW) 0 (.slice D0 m0 d0) rfl; have a1 := EB.out W (hT.out W hW) 1 (.int .i64 fb) rfl; have a2 := EB.out W (hT.out W hW) 2 (.slice D1 m1 d1) rfl; have a3 := EB.out W (hT.out W hW) 3 (.slice D2 m2 d2) rfl; have a4 := EB.out W (hT.out W hW) 4 (.int .i64 sb) rfl; go_simp; try (first | (with_reducible rfl) | omega)⟩) hS6 ?_
      refine wpAnyH_one (i := 2) (by kernel_rfl) rfl (fun K hK => ?_)
      go_simp
      refine Calls.mono (cR _ (hU.out _ hS6)).out ?_
      rintro e w6 ⟨rfl, hb6⟩
      have hS7 := bl_trans hS6 hS6.size hb6
      go_simp
      refine hK _ _ ⟨hS7, ?_⟩; clear hK K
      refine wpAnyH_one (i := 5) (by kernel_rfl) rfl (fun K hK => ?_)
      go_simp
      refine Calls.mono (cD _ (hU.out _ hS7)).out ?_
      rintro e w7 ⟨rfl, hb7⟩
      have hS8 := bl_trans hS7 hS7.size hb7
      go_simp
      refine hK _ _ ⟨hS8, ?_⟩; clear hK K
      refine wpAnyH_one (i := 6) (by kernel_rfl) rfl (fun K hK => ?_)
      go_simp
      refine hK _ _ ⟨hS8, ?_⟩; clear hK K
      refine wpAnyH_one (i := 7) (by kernel_rfl) rfl (fun K hK => ?_)
      go_simp
      refine hK _ _ ⟨hS8, ?_⟩; clear hK K
      refine wpAnyH_take (i := 8) (v := runV A0 n0 c0 fa A1 n1 c1 A2 n2 c2 sa) rfl (by kernel_rfl) (by kernel_rfl) (by kernel_rfl) (fun _ _ _ h => h) (Or.inl ⟨by kernel_rfl, by intro W hW; have a0 := EA.out W (hT.out W hW) 0 (.slice A0 n0 c0) rfl; have a1 := EA.out W (hT.out W hW) 1 (.int .i64 fa) rfl; have a2 := EA.out W (hT.out W hW) 2 (.slice A1 n1 c1) rfl; have a3 := EA.out W (hT.out W hW) 3 (.slice A2 n2 c2) rfl; have a4 := EA.out W (hT.out W hW) 4 (.int .i64 sa) rfl; go_simp; try (first | (with_reducible rfl) | omega)⟩) hS8 ?_
      refine wpAnyH_take (i := 9) (v := runV A0 n0 c0 fa A1 n1 c1 A2 n2 c2 st) rfl (by kernel_rfl) (by kernel_rfl) (by kernel_rfl) (fun _ _ _ h => h) (Or.inl ⟨by kernel_rfl, by intro W hW; have a0 := EC.out W hW 0 (.slice A0 n0 c0) rfl; have a1 := EC.out W hW 1 (.int .i64 fa) rfl; have a2 := EC.out W hW 2 (.slice A1 n1 c1) rfl; have a3 := EC.out W hW 3 (.slice A2 n2 c2) rfl; have a4 := EC.out W hW 4 (.int .i64 st) rfl; go_simp; try (first | (with_reducible rfl) | omega)⟩) hS8 ?_
      refine wpAnyH_one (i := 10) (by kernel_rfl) rfl (fun K hK => ?_)
      go_simp
      refine Calls.mono (cS _ (hU.out _ hS8)).out ?_
      rintro e w8 ⟨rfl, hb8⟩
      have hS9 := bl_trans hS8 hS8.size hb8
      go_simp
      refine hK _ _ ⟨hS9, ?_⟩; clear hK K
      refine wpAnyH_one (i := 11) (by kernel_rfl) rfl (fun K hK => ?_)
      go_simp
      refine hK _ _ ⟨hS9, ?_⟩; clear hK K
      refine wpAnyH_one (i := 12) (by kernel_rfl) rfl (fun K hK => ?_)
      go_simp
      refine hK _ _ ⟨hS9, ?_⟩; clear hK K
      refine wpAnyH_one (i := 13) (by kernel_rfl) rfl (fun K hK => ?_)
      go_simp
      refine Calls.mono (cl _).out ?_
      rintro e w9 ⟨rfl, hb9⟩
      have hS10 := bl_trans hS9 hS9.size hb9
      go_simp
      refine hK _ _ ⟨hS10, ?_⟩; clear hK K
      refine wpAnyH_one (i := 14) (by kernel_rfl) rfl (fun K hK => ?_)
      go_simp
      refine hK _ _ ⟨hS10, ?_⟩; clear hK K
      refine wpAnyH_one (i := 15) (by kernel_rfl) rfl (fun K hK => ?_)
      go_simp
      refine hK _ _ ⟨hS10, ?_⟩; clear hK K
      refine wpAnyH_done (by kernel_rfl) ?_ _
      go_wp2_with fail
      go_ret
      exact ⟨rfl, hU.out _ hS10⟩

theorem eventRuns_law (cs1 : Array Value) (a : DRun) (cs2 : Array Value) (b : DRun) (st : Int) (w : World) (h1 : RRun w w.heap.size cs1.toList a) (h2 : RRun w w.heap.size cs2.toList b) (_ : (Lit.int .i64 st).wf = true) :
    Calls Try.prog 14 #[.agg cs1, .agg cs2, .int .i64 st] w fun e w' => e = .returned (.bool true) ∧ Below w.heap.size w w' := by
  obtain ⟨A0, n0, c0, A1, n1, c1, A2, n2, c2, e1, p0, _, p1, p2, _⟩ := h1
  obtain ⟨D0, m0, d0, D1, m1, d1, D2, m2, d2, e2, q0, _, q1, q2, _⟩ := h2
  obtain rfl : cs1 = #[.slice A0 n0 c0, .int .i64 a.fin, .slice A1 n1 c1, .slice A2 n2 c2, .int .i64 a.steps] := by apply Array.toList_inj.1; exact e1
  obtain rfl : cs2 = #[.slice D0 m0 d0, .int .i64 b.fin, .slice D1 m1 d1, .slice D2 m2 d2, .int .i64 b.steps] := by apply Array.toList_inj.1; exact e2
  exact eventRuns_few a b A0 n0 c0 A1 n1 c1 A2 n2 c2 D0 m0 d0 D1 m1 d1 D2 m2 d2 st w p0 p1 p2 q0 q1 q2
end Go.Proofs.Ytpladpmkpchndaa
