/-
  The walk of EventTexts, where each row that is read is short.
-/
import Derived.Test.YtpladpmkpchndaaEvU
import Derived.Test.YtpladpmkpchndaaEv15
import Derived.Test.YtpladpmkpchndaaEv17
namespace Go.Proofs.Ytpladpmkpchndaa
open Go.RowKit
set_option linter.unusedSimpArgs false
set_option linter.unusedVariables false

theorem slv_up {w : World} {B B' : Nat} {A : Option Addr} {n c : Nat} {xs : List DEvent} (h : SlV w B A n c xs) (hB : B ≤ B') : SlV w B' A n c xs := by
  obtain ⟨h1, h2, h3, h4, h5⟩ := h
  refine ⟨h1, h2, h3, h4, fun hn => ?_⟩
  obtain ⟨b, off, hA, hb, hx⟩ := h5 hn
  refine ⟨b, off, hA, by omega, fun i x hi => ?_⟩
  obtain ⟨cs, hl, hc, A0, n0, c0, e, g1, g2, g3, g4⟩ := hx i x hi
  exact ⟨cs, hl, hc, A0, n0, c0, e, g1, g2, g3, SlE.up (w := w) g4 hB⟩
theorem slp_up {w : World} {B B' : Nat} {A : Option Addr} {n c : Nat} {xs : List DBlame} (h : SlP w B A n c xs) (hB : B ≤ B') : SlP w B' A n c xs := by
  obtain ⟨h1, h2, h3, h4, h5⟩ := h
  refine ⟨h1, h2, h3, h4, fun hn => ?_⟩
  obtain ⟨b, off, hA, hb, hx⟩ := h5 hn
  refine ⟨b, off, hA, by omega, fun i x hi => ?_⟩
  obtain ⟨cs, hl, hc, A0, n0, c0, e, g1, g2, g4⟩ := hx i x hi
  exact ⟨cs, hl, hc, A0, n0, c0, e, g1, g2, SlE.up (w := w) g4 hB⟩
theorem sln_up {w : World} {B B' : Nat} {A : Option Addr} {n c : Nat} {xs : List Int} (h : SlN w B A n c xs) (hB : B ≤ B') : SlN w B' A n c xs := by
  obtain ⟨h1, h2, h3, h4, h5⟩ := h
  refine ⟨h1, h2, h3, h4, fun hn => ?_⟩
  obtain ⟨b, off, hA, hb, hx⟩ := h5 hn
  exact ⟨b, off, hA, by omega, hx⟩
theorem showL_len {es : List DEvent} {fin : Int} {rs : List Int} {ch : List DBlame} (h0 : ∀ x ∈ es, (Bd x.n ∧ Bd x.m ∧ ∀ e ∈ x.trace, OkE e) ∧ x.trace.length ≤ 1048576) (h1 : ∀ x ∈ rs, Bd x) (h2 : ∀ x ∈ ch, OkP x ∧ x.trace.length ≤ 1048576) (n0 : es.length ≤ 60) (n1 : rs.length ≤ 30) (n2 : ch.length ≤ 30) :
    (showL es fin rs ch).length ≤ 140737488355328 := by
  have a0 := lenF lineL 50000000 (l := es) (fun x hx => by
    obtain ⟨⟨b1, b2, b3⟩, b4⟩ := h0 x hx
    have := evL_len (k := x.kind) b1 b2 b3
    unfold lineL
    rw [List.length_append, List.length_cons, List.length_nil]
    omega)
  have a1 := doneL_len h1
  have a2 : (crashL ch).length ≤ 7 + 50000000 * ch.length := by
    have := lenF (fun x => 10 :: panB x) 50000000 (l := ch) (fun x hx => by
      obtain ⟨b1, b2⟩ := h2 x hx
      have h1 := digM_len b1.1.1 b1.1.2
      have h2 := digM_len b1.2.1.1 b1.2.1.2
      have h3 := entsL_len b1.2.2.1
      have h5 : (recdL x.reco).length ≤ 10 := by cases x.reco <;> simp [recdL, sRecd]
      have h6 : sPan.length = 6 := rfl
      unfold panB
      simp only [List.length_append, List.length_cons]
      omega)
    have h7 : sCrash.length = 7 := rfl
    unfold crashL
    rw [List.length_append]
    omega
  have a3 : (endL fin rs ch).length ≤ 2000000000 := by
    unfold endL
    split
    · omega
    · split
      · omega
      · split
        · simp
        · split
          · simp
          · split
            · simp
            · split <;> simp
  have a4 : (tailL (endL fin rs ch)).length ≤ 2000000001 := by
    unfold tailL
    split
    · simp
    · rw [List.length_append, List.length_cons, List.length_nil]; omega
  unfold showL linesL
  rw [List.length_append]
  omega
set_option maxRecDepth 100000 in
set_option maxHeartbeats 4000000 in
theorem eventTexts_few (a : DRun) (l : List DEntry) (A0 : Option Addr) (n0 c0 : Nat) (A1 : Option Addr) (n1 c1 : Nat) (A2 : Option Addr) (n2 c2 : Nat) (A3 : Option Addr) (n3 c3 : Nat) (w : World)
    (h0 : SlV w w.heap.size A0 n0 c0 a.events) (h1 : SlN w w.heap.size A1 n1 c1 a.results) (h2 : SlP w w.heap.size A2 n2 c2 a.chain) (h3 : SlE w w.heap.size A3 n3 c3 l) (hlen : n0 ≤ 60 → n1 ≤ 30 → n2 ≤ 30 → (showL a.events a.fin a.results a.chain).length ≤ 140737488355328) :
    Calls Try.prog 13 #[runV A0 n0 c0 a.fin A1 n1 c1 A2 n2 c2 a.steps, .slice A3 n3 c3] w fun e w' => e = .returned (.bool true) ∧ Below w.heap.size w w' := by
  have cl : ∀ w : World, Hid (Calls Try.prog 58 #[] w fun e w' => e = .returned (.bool true) ∧ Below w.heap.size w w') := fun w => ev_lives w
  have cm : ∀ W, Hid (Calls Try.prog 63 #[runV A0 n0 c0 a.fin A1 n1 c1 A2 n2 c2 a.steps] W fun e w' => e = .returned (.bool (smallB n0 n1 n2)) ∧ Below W.heap.size W w') := fun W => small_any A0 n0 c0 a.fin A1 n1 c1 A2 n2 c2 a.steps W
  have cS : smallB n0 n1 n2 = true → ∀ W, Below w.heap.size w W → Hid (Calls Try.prog 64 #[runV A0 n0 c0 a.fin A1 n1 c1 A2 n2 c2 a.steps] W fun e w' => e = .returned (.string (strU (showL a.events a.fin a.results a.chain))) ∧ Below W.heap.size W w') := fun hs W hW => by
    simp only [smallB, Bool.and_eq_true, decide_eq_true_eq] at hs
    exact show_any A0 n0 c0 a.fin A1 n1 c1 A2 n2 c2 a.steps a.events a.results a.chain W (slv_up (h0.keep hW) hW.size) (sln_up (h1.keep hW) hW.size) (slp_up (h2.keep hW) hW.size) (by omega) (by omega) (hlen hs.1 hs.2.2 hs.2.1)
  have cR : smallB n0 n1 n2 = true → ∀ W, Below w.heap.size w W → Hid (Calls Try.prog 65 #[runV A0 n0 c0 a.fin A1 n1 c1 A2 n2 c2 a.steps] W fun e w' => e = .returned (.string (strU (showL a.events a.fin a.results a.chain))) ∧ Below W.heap.size W w') := fun hs W hW => by
    simp only [smallB, Bool.and_eq_true, decide_eq_true_eq] at hs
    exact refShow_any A0 n0 c0 a.fin A1 n1 c1 A2 n2 c2 a.steps a.events a.results a.chain W (slv_up (h0.keep hW) hW.size) (sln_up (h1.keep hW) hW.size) (slp_up (h2.keep hW) hW.size) (by omega) (by omega) (by omega)
  have cE : ∀ W, Below w.heap.size w W → Hid (Calls Try.prog 66 #[.slice A3 n3 c3] W fun e w' => e = .returned (.string (strU (entsL l))) ∧ Below W.heap.size W w') := fun W hW => entries_text w.heap.size A3 n3 c3 l W (h3.keep hW) hW.size
  have cF : ∀ W, Below w.heap.size w W → Hid (Calls Try.prog 67 #[.slice A3 n3 c3] W fun e w' => e = .returned (.string (strU (entsL l))) ∧ Below W.heap.size W w') := fun W hW => refEntries_text w.heap.size A3 n3 c3 l W (h3.keep hW) hW.size
  obtain ⟨fa, h6⟩ : ∃ v, a.fin = v := ⟨_, rfl⟩
  obtain ⟨sa, h8⟩ : ∃ v, a.steps = v := ⟨_, rfl⟩
  obtain ⟨s1, h9⟩ : ∃ v, strU (showL a.events a.fin a.results a.chain) = v := ⟨_, rfl⟩
  obtain ⟨s2, h10⟩ : ∃ v, strU (entsL l) = v := ⟨_, rfl⟩
  obtain ⟨y1, hy1⟩ : ∃ v, smallB n0 n1 n2 = v := ⟨_, rfl⟩
  rw [h9] at cS cR
  rw [h10] at cE cF
  rw [h6, h8] at cS cR cm ⊢
  rw [hy1] at cS cR cm
  have u1 : (s1.toList == s1.toList) = true := by simp
  have u2 : (s2.toList == s2.toList) = true := by simp
  clear h6 h8 h9 h10 hy1 h0 h1 h2 h3 hlen
  have hbox := box_cells w #[.slice A0 n0 c0, .int .i64 fa, .slice A1 n1 c1, .slice A2 n2 c2, .int .i64 sa] 103
  obtain ⟨w2, hw2⟩ : ∃ w2, w.alloc (.cells #[.slice A0 n0 c0, .int .i64 fa, .slice A1 n1 c1, .slice A2 n2 c2, .int .i64 sa] 103) = w2 := ⟨_, rfl⟩
  rw [hw2] at hbox
  have HB : Hid (Below w.heap.size w w2) := Lib.hid (by rw [← hw2]; exact (Below.refl _ _).alloc (Nat.le_refl _) _)
  have hz : w2.heap.size = w.heap.size + 1 := by rw [← hw2]; simp
  have EA : Hid (∀ W, Below w2.heap.size w2 W → ∀ i v, (#[.slice A0 n0 c0, .int .i64 fa, .slice A1 n1 c1, .slice A2 n2 c2, .int .i64 sa] : Array Value)[i]? = some v → W.cell? ⟨w.heap.size, i, none⟩ = some v) := Lib.hid (fun W hW i v hv => hbox W (hW.mono (by omega)) i v hv)
  have HW : Hid (w.alloc (.cells #[.slice A0 n0 c0, .int .i64 fa, .slice A1 n1 c1, .slice A2 n2 c2, .int .i64 sa] 103) = w2) := Lib.hid hw2
  clear hbox hw2 hz
  have hS2 : Below w2.heap.size w2 w2 := Below.refl _ _
  go_enter Try.func13, Try.ntmps13
  go_wp2_with fail
  rw [HW.out]
  refine Calls.mono (cm _).out ?_
  rintro e w3 ⟨rfl, hb3⟩
  have hS3 := bl_trans hS2 hS2.size hb3
  clear hb3
  have ca0 := EA.out w3 hS3 0 (.slice A0 n0 c0) rfl
  have ca1 := EA.out w3 hS3 1 (.int .i64 fa) rfl
  have ca2 := EA.out w3 hS3 2 (.slice A1 n1 c1) rfl
  have ca3 := EA.out w3 hS3 3 (.slice A2 n2 c2) rfl
  have ca4 := EA.out w3 hS3 4 (.int .i64 sa) rfl
  cases y1
  case false =>
    go_wp2_with fail
    refine Calls.mono (cl _).out ?_
    rintro e w4 ⟨rfl, hb4⟩
    have hS4 := bl_trans hS3 hS3.size hb4
    clear hb4
    go_wp2_with fail
    go_ret
    exact ⟨rfl, bl_trans HB.out HB.out.size hS4⟩
  case true =>
    by_cases hl : 60 < n3
    · have q3 : (60 : Int) < (n3 : Int) := by omega
      clear hl cS cR
      go_wp2_with fail
      refine Calls.mono (cl _).out ?_
      rintro e w4 ⟨rfl, hb4⟩
      have hS4 := bl_trans hS3 hS3.size hb4
      clear hb4
      go_wp2_with fail
      go_ret
      exact ⟨rfl, bl_trans HB.out HB.out.size hS4⟩
    · have q3 : ¬ ((60 : Int) < (n3 : Int)) := by omega
      have kS := cS rfl
      have kR := cR rfl
      clear cS cR
      go_wp2_with fail
      have hT : Hid (∀ W, Below w3.heap.size w3 W → Below w2.heap.size w2 W) := Lib.hid (fun W hW => bl_trans hS3 hS3.size hW)
      have hS6 : Below w3.heap.size w3 w3.drew := (Below.refl _ _).drew
      have hU : Hid (∀ W, Below w3.heap.size w3 W → Below w.heap.size w W) := Lib.hid (fun W hW => bl_trans HB.out HB.out.size (hT.out W hW))
      clear cm ca0 ca1 ca2 ca3 ca4
      refine wp_region_held (S := fun W => Below w3.heap.size w3 W) (by kernel_rfl) ?_
      change wpAnyH _ _ _ _ _ _ _ _ (World.drew _)
      refine wpAnyH_take (i := 0) (v := runV A0 n0 c0 fa A1 n1 c1 A2 n2 c2 sa) rfl (by kernel_rfl) (by kernel_rfl) (by kernel_rfl) (fun _ _ _ h => h) (Or.inl ⟨by rfl, by intro W hW; have a0 := EA.out W (hT.out W hW) 0 (.slice A0 n0 c0) rfl; have a1 := EA.out W (hT.out W hW) 1 (.int .i64 fa) rfl; have a2 := EA.out W (hT.out W hW) 2 (.slice A1 n1 c1) rfl; have a3 := EA.out W (hT.out W hW) 3 (.slice A2 n2 c2) rfl; have a4 := EA.out W (hT.out W hW) 4 (.int .i64 sa) rfl; go_simp; try (first | (with_reducible rfl) | omega)⟩) hS6 ?_
      refine wpAnyH_take (i := 2) (v := runV A0 n0 c0 fa A1 n1 c1 A2 n2 c2 sa) rfl (by kernel_rfl) (by kernel_rfl) (by kernel_rfl) (fun _ _ _ h => h) (Or.inl ⟨by rfl, by intro W hW; have a0 := EA.out W (hT.out W hW) 0 (.slice A0 n0 c0) rfl; have a1 := EA.out W (hT.out W hW) 1 (.int .i64 fa) rfl; have a2 := EA.out W (hT.out W hW) 2 (.slice A1 n1 c1) rfl; have a3 := EA.out W (hT.out W hW) 3 (.slice A2 n2 c2) rfl; have a4 := EA.out W (hT.out W hW) 4 (.int .i64 sa) rfl; go_simp; try (first | (with_reducible rfl) | omega)⟩) hS6 ?_
      refine wpAnyH_one (i := 1) (by kernel_rfl) rfl (fun K hK => ?_)
      go_simp
      refine Calls.mono (kS _ (hU.out _ hS6)).out ?_
      rintro e w6 ⟨rfl, hb6⟩
      have hS7 := bl_trans hS6 hS6.size hb6
      go_simp
      refine hK _ _ ⟨hS7, ?_⟩; clear hK K
      refine wpAnyH_one (i := 3) (by kernel_rfl) rfl (fun K hK => ?_)
      go_simp
      refine Calls.mono (kR _ (hU.out _ hS7)).out ?_
      rintro e w7 ⟨rfl, hb7⟩
      have hS8 := bl_trans hS7 hS7.size hb7
      go_simp
      refine hK _ _ ⟨hS8, ?_⟩; clear hK K
      refine wpAnyH_one (i := 4) (by kernel_rfl) rfl (fun K hK => ?_)
      go_simp
      refine hK _ _ ⟨hS8, ?_⟩; clear hK K
      refine wpAnyH_one (i := 5) (by kernel_rfl) rfl (fun K hK => ?_)
      go_simp
      refine hK _ _ ⟨hS8, ?_⟩; clear hK K
      refine wpAnyH_take (i := 6) (v := .slice A3 n3 c3) rfl (by kernel_rfl) (by kernel_rfl) (by kernel_rfl) (fun _ _ _ h => h) (Or.inl ⟨by kernel_rfl, by intro W hW; go_simp; try (first | (with_reducible rfl) | omega)⟩) hS8 ?_
      refine wpAnyH_take (i := 8) (v := .slice A3 n3 c3) rfl (by kernel_rfl) (by kernel_rfl) (by kernel_rfl) (fun _ _ _ h => h) (Or.inl ⟨by kernel_rfl, by intro W hW; go_simp; try (first | (with_reducible rfl) | omega)⟩) hS8 ?_
      refine wpAnyH_one (i := 7) (by kernel_rfl) rfl (fun K hK => ?_)
      go_simp
      refine Calls.mono (cE _ (hU.out _ hS8)).out ?_
      rintro e w8 ⟨rfl, hb8⟩
      have hS9 := bl_trans hS8 hS8.size hb8
      go_simp
      refine hK _ _ ⟨hS9, ?_⟩; clear hK K
      refine wpAnyH_one (i := 9) (by kernel_rfl) rfl (fun K hK => ?_)
      go_simp
      refine Calls.mono (cF _ (hU.out _ hS9)).out ?_
      rintro e w9 ⟨rfl, hb9⟩
      have hS10 := bl_trans hS9 hS9.size hb9
      go_simp
      refine hK _ _ ⟨hS10, ?_⟩; clear hK K
      refine wpAnyH_one (i := 10) (by kernel_rfl) rfl (fun K hK => ?_)
      go_simp
      refine hK _ _ ⟨hS10, ?_⟩; clear hK K
      refine wpAnyH_one (i := 11) (by kernel_rfl) rfl (fun K hK => ?_)
      go_simp
      refine hK _ _ ⟨hS10, ?_⟩; clear hK K
      refine wpAnyH_one (i := 12) (by kernel_rfl) rfl (fun K hK => ?_)
      go_simp
      refine hK _ _ ⟨hS10, ?_⟩; clear hK K
      refine wpAnyH_one (i := 13) (by kernel_rfl) rfl (fun K hK => ?_)
      go_simp
      refine Calls.mono (cl _).out ?_
      rintro e w10 ⟨rfl, hb10⟩
      have hS11 := bl_trans hS10 hS10.size hb10
      go_simp
      refine hK _ _ ⟨hS11, ?_⟩; clear hK K
      refine wpAnyH_one (i := 14) (by kernel_rfl) rfl (fun K hK => ?_)
      go_simp
      refine hK _ _ ⟨hS11, ?_⟩; clear hK K
      refine wpAnyH_one (i := 15) (by kernel_rfl) rfl (fun K hK => ?_)
      go_simp
      refine hK _ _ ⟨hS11, ?_⟩; clear hK K
      refine wpAnyH_done (by kernel_rfl) ?_ _
      go_wp2_with fail
      go_ret
      exact ⟨rfl, hU.out _ hS11⟩

theorem eventTexts_law (cs : Array Value) (a : DRun) (A3 : Option Addr) (n3 c3 : Nat) (l : List DEntry) (w : World) (h1 : RRunU w w.heap.size cs.toList a) (h2 : SlR 2 16 REntry w w.heap.size A3 n3 c3 l ∧ l.length ≤ 1048576) :
    Calls Try.prog 13 #[.agg cs, .slice A3 n3 c3] w fun e w' => e = .returned (.bool true) ∧ Below w.heap.size w w' := by
  obtain ⟨A0, n0, c0, A1, n1, c1, A2, n2, c2, e1, p0, _, p1, p2, _, _⟩ := h1
  obtain rfl : cs = #[.slice A0 n0 c0, .int .i64 a.fin, .slice A1 n1 c1, .slice A2 n2 c2, .int .i64 a.steps] := by apply Array.toList_inj.1; exact e1
  have q0 : ∀ x ∈ a.events, (Bd x.n ∧ Bd x.m ∧ ∀ e ∈ x.trace, OkE e) ∧ x.trace.length ≤ 1048576 := SlR.all (R := REventU) p0 fun cs x hr => by
    obtain ⟨A0, n0, c0, _, g1, g2, g3, g4, g5⟩ := hr
    exact ⟨⟨bd_of g2, bd_of g3, (SlE.few (w := w) g4).1⟩, g5⟩
  have q2 : ∀ x ∈ a.chain, OkP x ∧ x.trace.length ≤ 1048576 := SlR.all (R := RBlameU) p2 fun cs x hr => by
    obtain ⟨A0, n0, c0, _, g1, g2, g4, g5⟩ := hr
    have h4 := SlE.few (w := w) g4
    exact ⟨⟨bd_of g1, bd_of g2, h4.1, h4.2⟩, g5⟩
  have v0 : SlV w w.heap.size A0 n0 c0 a.events := SlR.imp (R := REventU) (R' := REvent) p0 fun cs x _ hr => by
    obtain ⟨A0, n0, c0, e, g1, g2, g3, g4, _⟩ := hr
    exact ⟨A0, n0, c0, e, g1, g2, g3, g4⟩
  have v2 : SlP w w.heap.size A2 n2 c2 a.chain := SlR.imp (R := RBlameU) (R' := RBlame) p2 fun cs x _ hr => by
    obtain ⟨A0, n0, c0, e, g1, g2, g4, _⟩ := hr
    exact ⟨A0, n0, c0, e, g1, g2, g4⟩
  have v1 : SlN w w.heap.size A1 n1 c1 a.results := p1
  exact eventTexts_few a l A0 n0 c0 A1 n1 c1 A2 n2 c2 A3 n3 c3 w v0 v1 v2 h2.1 (fun k0 k1 k2 => showL_len q0 v1.bd q2 (by rw [v0.1]; exact k0) (by rw [v1.1]; exact k1) (by rw [v2.1]; exact k2))
end Go.Proofs.Ytpladpmkpchndaa
