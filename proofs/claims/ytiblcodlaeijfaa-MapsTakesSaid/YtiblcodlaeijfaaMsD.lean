/-
  Tables of sets: the walk of MapsTakes.
-/
import Derived.Test.YtiblcodlaeijfaaMsB
import Derived.Test.YtiblcodlaeijfaaMsC
import Derived.Test.YtiblcodlaeijfaaMt0
import Derived.Test.YtiblcodlaeijfaaMt7
namespace Go.Proofs.Ytiblcodlaeijfaa
open Go.RowKit
set_option linter.unusedSimpArgs false
set_option linter.unusedVariables false
theorem rTake_any (A0 : Option Addr) (n0 c0 B : Nat) (n : Int) (l : List Nat) (many : Int) (w : World) (h : SlB w B A0 n0 c0 l) (hB : B ≤ w.heap.size) (hn : n ≤ 200) (hm0 : -9223372036854775808 ≤ many) (hm1 : many < 9223372036854775808) : Calls Try.prog 6 #[curV A0 n0 c0 0, .int .i64 n, .int .i64 many] w (IsTabD B (tabM n.toNat many n.toNat [] l) w) := by
  by_cases h0 : n < 0
  · have e : n.toNat = 0 := by omega
    rw [e, tabM_zero]
    exact rTake_neg A0 n0 c0 B n l many w h hB h0
  · obtain ⟨N, rfl⟩ : ∃ N : Nat, n = (N : Int) := ⟨n.toNat, by omega⟩
    rw [Int.toNat_natCast]
    exact rTake_nat A0 n0 c0 B N l many w h hB (by omega) hm0 hm1
set_option maxRecDepth 100000 in
set_option maxHeartbeats 4000000 in
theorem mapsTakes_walk (A : Option Addr) (n0 c0 : Nat) (xs : List Int) (n many : Int) (w : World) (h : SlR 1 1 (RInt .u8) w w.heap.size A n0 c0 xs) (hw1 : -9223372036854775808 ≤ n ∧ n < 9223372036854775808) (hm : -9223372036854775808 ≤ many ∧ many < 9223372036854775808) :
    Calls Try.prog 3 #[.slice A n0 c0, .int .i64 n, .int .i64 many] w fun e w' => e = .returned (.bool true) ∧ Below w.heap.size w w' := by
  obtain ⟨l, hs⟩ := slb_of h
  have HS := Lib.hid hs
  have hsz : n0 ≤ 140737488355328 := by have := h.2.2.2.1; unfold reachBytes at this; omega
  have HM := Lib.hid hm
  have HZ := Lib.hid hsz
  have cl := Lib.hid maps_lives
  clear h hs hm hsz
  by_cases hn : 200 < n
  · go_enter Try.func3, Try.ntmps3
    go_wp2_with fail
    refine (cl.out w).mono ?_
    rintro e w' ⟨rfl, hb⟩
    go_wp2_with fail
    go_ret
    exact ⟨rfl, hb⟩
  · have hn' : n ≤ 200 := by omega
    have cN := Lib.hid (cursor_new A n0 c0 l w HS.out HZ.out)
    go_enter Try.func3, Try.ntmps3
    go_wp2_with fail
    refine cN.out.mono ?_
    rintro e w1 ⟨g, rfl, hg, hc1, hb1⟩
    have hgl : g < w1.heap.size := World.block_lt_of_cell? _ _ hc1.c1
    have cR := Lib.hid (rTake_any A n0 c0 w.heap.size n l many w1 (slb_keep HS.out (fun _ h => h.elim) ((Kp.refl (fun _ => False) _).ofBelow hb1)) hb1.size hn' HM.out.1 HM.out.2)
    obtain ⟨R, hR⟩ : ∃ R, tabM n.toNat many n.toNat [] l = R := ⟨_, rfl⟩
    rw [hR] at cR
    have hlen : R.1.length ≤ 200 := by rw [← hR]; have := TabR.len (n := n.toNat) (many := many) n.toNat [] l (Nat.zero_le _); omega
    have HRE := Lib.hid hR
    have HL := Lib.hid hlen
    have HC1 := Lib.hid hc1
    have HB1 := Lib.hid hb1
    clear hR hc1 hb1 cN hlen
    unfold curV at cR
    go_wp2_with fail
    refine cR.out.mono ?_
    rintro e w2 ⟨A1, k, c, p, rfl, hl, hown, hps, hpl, hpe, hb2⟩
    obtain ⟨pA, pn, pc, pe, pl⟩ := p
    dsimp only at hps hpl hpe
    subst hpl hpe
    obtain ⟨xsR, lR, eR⟩ := R
    dsimp only at hl hown hps
    unfold curV
    go_wp2_with fail
    obtain ⟨b, hbE⟩ : ∃ b, w2.heap.size = b := ⟨_, rfl⟩
    obtain ⟨w3, hwE⟩ : ∃ W, w2.alloc (.cells #[.slice pA pn pc, .int .i64 (eR : Int)] 29) = W := ⟨_, rfl⟩
    have hb3 : Below w2.heap.size w2 w3 := by rw [← hwE]; exact bl_one _
    have hcc := Cells.new w2 [.slice pA pn pc, .int .i64 (eR : Int)] 29
    have hcc' : Cells w3 b [.slice pA pn pc, .int .i64 (eR : Int)] := by rw [← hbE, ← hwE]; exact hcc
    rw [hbE, hwE]
    have hg1 : g < b := by have := hb2.size; omega
    have hb13 : Below w1.heap.size w1 w3 := hb2.trans (hb3.mono hb2.size)
    have hc3 : CurW w3 g l 0 := HC1.out.on ((Kp.refl _ _).ofBelow hb13)
    have k23 : Kp (fun _ => False) w2 w3 := (Kp.refl _ _).ofBelow hb3
    have hown3 : RowW w3 (w1.heap.size + 2) A1 k c xsR := k23.own hown fun _ _ h => h
    have hsl3 : SlB w3 w.heap.size pA pn pc lR := slb_keep hps (fun _ h => h.elim) k23
    have cT := Lib.hid (mTake_any g n l many w3.drew (hc3.on ((Kp.refl (fun _ => False) _).drew)) hn')
    rw [HRE.out] at cT
    have EB : Hid (∀ W, Kp (fun j => j = g) w3 W → W.cell? ⟨b, 0, none⟩ = some (.slice pA pn pc) ∧ W.cell? ⟨b, 1, none⟩ = some (.int .i64 (eR : Int))) := Lib.hid fun W hW => ⟨hW.cellv (hcc'.at_ 0 _ rfl) (show ¬ b = g by omega), hW.cellv (hcc'.at_ 1 _ rfl) (show ¬ b = g by omega)⟩
    have HB3 : Hid (Below w.heap.size w w3) := Lib.hid (HB1.out.trans (hb13.mono HB1.out.size))
    have HO3 := Lib.hid hown3
    have HS3 := Lib.hid hsl3
    have HLN := Lib.hid hl
    have hS0 : Kp (fun j => j = g) w3 w3.drew := (Kp.refl _ _).drew
    have te : ((eR : Int) == (eR : Int)) = true := by simp
    have tl : (((leftM lR eR : Nat) : Int) == ((leftM lR eR : Nat) : Int)) = true := by simp
    have hw1s := Lib.hid (show g < w1.heap.size from hgl)
    have HGW := Lib.hid hg
    clear hg hgl hcc hcc' hwE hbE hb2 hb3 hb13 hc3 k23 hown3 hsl3 hown hps hl HC1 HB1 HRE cR hg1
    refine wp_region_held (S := fun W => Kp (fun j => j = g) w3 W) (by kernel_rfl) ?_
    change wpAnyH _ _ _ _ _ _ _ _ (World.drew _)

    refine wpAnyH_take (i := 0) (v := .pointer (some ⟨g, 0, none⟩)) rfl (by kernel_rfl) (by kernel_rfl) (by kernel_rfl) (fun _ _ _ h => h) (Or.inl ⟨by rfl, by intro W hW; go_simp; try (first | (with_reducible rfl) | omega)⟩) hS0 ?_
    refine wpAnyH_take (i := 1) (v := .int .i64 n) rfl (by kernel_rfl) (by kernel_rfl) (by kernel_rfl) (fun _ _ _ h => h) (Or.inl ⟨by rfl, by intro W hW; go_simp; try (first | (with_reducible rfl) | omega)⟩) hS0 ?_
    refine wpAnyH_take (i := 2) (v := .int .i64 many) rfl (by kernel_rfl) (by kernel_rfl) (by kernel_rfl) (fun _ _ _ h => h) (Or.inl ⟨by rfl, by intro W hW; go_simp; try (first | (with_reducible rfl) | omega)⟩) hS0 ?_
    refine wpAnyH_take (i := 4) (v := .slice A1 k c) rfl (by kernel_rfl) (by kernel_rfl) (by kernel_rfl) (fun _ _ _ h => h) (Or.inl ⟨by rfl, by intro W hW; go_simp; try (first | (with_reducible rfl) | omega)⟩) hS0 ?_
    refine wpAnyH_one (i := 3) (by kernel_rfl) rfl (fun K hK => ?_)
    go_simp
    refine Calls.mono (cT.out) ?_
    rintro e w4 ⟨A4, k4, c4, rfl, hl4, ho4, hc4, hk4⟩
    dsimp only at hl4 ho4 hc4
    have hS4 := hS0.trans hk4
    go_simp
    refine hK _ _ ⟨hS4, ?_⟩; clear hK K
    obtain rfl : k4 = k := by rw [← hl4]; exact HLN.out
    have cS := Lib.hid (refSame_any _ _ A4 A1 k4 c4 c xsR w4 ho4 (hS4.own HO3.out fun j hj hgj => by have h1 := (HO3.out.lt j hj).1; have h2 := hw1s.out; have hgj' : j = g := hgj; omega) hl4 (by have h1 := HL.out; have h2 := hl4; (try dsimp only at h1); omega))
    have HC4 := Lib.hid hc4
    clear hc4 ho4 hk4
    refine wpAnyH_one (i := 5) (by kernel_rfl) rfl (fun K hK => ?_)
    go_simp
    refine Calls.mono (cS.out) ?_
    rintro e w5 ⟨rfl, m5, rfl⟩
    have hS5 := hS4.drewN m5
    have HC5 := Lib.hid (HC4.out.on ((Kp.refl (fun _ => False) _).drewN m5))
    go_simp
    refine hK _ _ ⟨hS5, ?_⟩; clear hK K
    refine wpAnyH_one (i := 6) (by kernel_rfl) rfl (fun K hK => ?_)
    go_simp
    refine hK _ _ ⟨hS5, ?_⟩; clear hK K
    refine wpAnyH_take (i := 7) (v := .pointer (some ⟨g, 0, none⟩)) rfl (by kernel_rfl) (by kernel_rfl) (by kernel_rfl) (fun _ _ _ h => h) (Or.inl ⟨by rfl, by intro W hW; go_simp; try (first | (with_reducible rfl) | omega)⟩) hS5 ?_
    refine wpAnyH_take (i := 9) (v := .pointer (some ⟨b, 1, none⟩)) rfl (by kernel_rfl) (by kernel_rfl) (by kernel_rfl) (fun _ _ _ h => h) (Or.inl ⟨by rfl, by intro W hW; go_simp; try (first | (with_reducible rfl) | omega)⟩) hS5 ?_
    refine wpAnyH_take (i := 10) (v := .int .i64 (eR : Int)) rfl (by kernel_rfl) (by kernel_rfl) (by kernel_rfl) (fun _ _ _ h => h) (Or.inl ⟨by rfl, by intro W hW; obtain ⟨g0, g1⟩ := EB.out W hW; go_simp; try (first | (with_reducible rfl) | omega)⟩) hS5 ?_
    refine wpAnyH_one (i := 8) (by kernel_rfl) rfl (fun K hK => ?_)
    go_simp
    refine Calls.mono (cur_err g _ _ _ HC5.out) ?_
    rintro e w' ⟨rfl, rfl⟩
    go_simp
    refine hK _ _ ⟨hS5, ?_⟩; clear hK K
    refine wpAnyH_one (i := 11) (by kernel_rfl) rfl (fun K hK => ?_)
    go_simp
    refine hK _ _ ⟨hS5, ?_⟩; clear hK K
    refine wpAnyH_one (i := 12) (by kernel_rfl) rfl (fun K hK => ?_)
    go_simp
    refine hK _ _ ⟨hS5, ?_⟩; clear hK K
    refine wpAnyH_one (i := 13) (by kernel_rfl) rfl (fun K hK => ?_)
    go_simp
    refine hK _ _ ⟨hS5, ?_⟩; clear hK K
    refine wpAnyH_take (i := 14) (v := .pointer (some ⟨g, 0, none⟩)) rfl (by kernel_rfl) (by kernel_rfl) (by kernel_rfl) (fun _ _ _ h => h) (Or.inl ⟨by rfl, by intro W hW; go_simp; try (first | (with_reducible rfl) | omega)⟩) hS5 ?_
    refine wpAnyH_take (i := 16) (v := .agg #[.slice pA pn pc, .int .i64 (eR : Int)]) rfl (by kernel_rfl) (by kernel_rfl) (by kernel_rfl) (fun _ _ _ h => h) (Or.inl ⟨by rfl, by intro W hW; obtain ⟨g0, g1⟩ := EB.out W hW; go_simp; try (first | (with_reducible rfl) | omega)⟩) hS5 ?_
    refine wpAnyH_one (i := 15) (by kernel_rfl) rfl (fun K hK => ?_)
    go_simp
    refine Calls.mono (cur_left g _ _ _ HC5.out) ?_
    rintro e w' ⟨rfl, rfl⟩
    go_simp
    refine hK _ _ ⟨hS5, ?_⟩; clear hK K
    refine wpAnyH_one (i := 17) (by kernel_rfl) rfl (fun K hK => ?_)
    go_simp
    have cL := ref_left pA w.heap.size pn pc eR lR (w4.drewN m5) (slb_keep HS3.out (fun j (hj : j = g) => by have h1 := HGW.out; omega) hS5)
    unfold curV at cL
    refine Calls.mono cL ?_
    rintro e w6 ⟨rfl, hb6⟩
    have hS6 := hS5.ofBelow hb6
    go_simp
    refine hK _ _ ⟨hS6, ?_⟩; clear hK K
    refine wpAnyH_one (i := 18) (by kernel_rfl) rfl (fun K hK => ?_)
    go_simp
    refine hK _ _ ⟨hS6, ?_⟩; clear hK K
    refine wpAnyH_one (i := 19) (by kernel_rfl) rfl (fun K hK => ?_)
    go_simp
    refine hK _ _ ⟨hS6, ?_⟩; clear hK K
    refine wpAnyH_one (i := 20) (by kernel_rfl) rfl (fun K hK => ?_)
    go_simp
    refine hK _ _ ⟨hS6, ?_⟩; clear hK K
    refine wpAnyH_one (i := 21) (by kernel_rfl) rfl (fun K hK => ?_)
    go_simp
    refine Calls.mono (cl.out _) ?_
    rintro e w7 ⟨rfl, hb7⟩
    have hS7 := hS6.ofBelow hb7
    go_simp
    refine hK _ _ ⟨hS7, ?_⟩; clear hK K
    refine wpAnyH_one (i := 22) (by kernel_rfl) rfl (fun K hK => ?_)
    go_simp
    refine hK _ _ ⟨hS7, ?_⟩; clear hK K
    refine wpAnyH_one (i := 23) (by kernel_rfl) rfl (fun K hK => ?_)
    go_simp
    refine hK _ _ ⟨hS7, ?_⟩; clear hK K
    refine wpAnyH_done (by kernel_rfl) ?_ _
    go_simp
    go_wp2_with fail
    go_ret
    exact ⟨rfl, HB3.out.trans (hS7.below HB3.out.size fun j (hj : j = g) => by have h1 := HGW.out; omega)⟩

theorem mapsTakes_open (A : Option Addr) (n0 c0 : Nat) (xs : List Int) (n many : Int) (w : World) (h : SlR 1 1 (RInt .u8) w w.heap.size A n0 c0 xs) (w1 : (Lit.int .i64 n).wf = true) (w2 : (Lit.int .i64 many).wf = true) :
    Calls Try.prog 3 #[.slice A n0 c0, .int .i64 n, .int .i64 many] w fun e w' => e = .returned (.bool true) ∧ Below w.heap.size w w' := by
  have h1 : -9223372036854775808 ≤ n ∧ n ≤ 9223372036854775807 := by simpa [Lit.wf, IntKind.min, IntKind.max, IntKind.signed, IntKind.bits] using w1
  have h2 : -9223372036854775808 ≤ many ∧ many ≤ 9223372036854775807 := by simpa [Lit.wf, IntKind.min, IntKind.max, IntKind.signed, IntKind.bits] using w2
  exact mapsTakes_walk A n0 c0 xs n many w h ⟨h1.1, by omega⟩ ⟨h2.1, by omega⟩
end Go.Proofs.Ytiblcodlaeijfaa
