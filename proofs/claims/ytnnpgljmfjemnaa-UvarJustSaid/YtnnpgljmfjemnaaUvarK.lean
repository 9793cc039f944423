/-
  Numbers as few bytes: the walk of UvarPuts.
-/
import Derived.Test.YtnnpgljmfjemnaaUvarH
namespace Go.Proofs.Ytnnpgljmfjemnaa
open Go.RowKit
set_option linter.unusedSimpArgs false
set_option linter.unusedVariables false

theorem own_some {w : World} {base k : Nat} {e : TypeId} {size : Nat} {v : Value} {xs : List Value} (h : w.ownsRow base e size v k xs) (hk : 0 < k) : ∃ g cap, v = .slice (some ⟨g, 0, none⟩) k cap := by
  rcases h.2 with ⟨_, h0⟩ | ⟨g', cap', cur, hv, _⟩
  · omega
  · exact ⟨g', cap', hv⟩

set_option maxRecDepth 100000 in
set_option maxHeartbeats 2000000 in
theorem uvarPuts_few (n : Nat) (A : Option Addr) (m c : Nat) (r : List Nat) (w : World) (hn : n < 18446744073709551616) (hs : SlB w w.heap.size A m c r) (hm : m ≤ 100) :
    Calls Try.prog 14 #[.int .u64 (n : Int), .slice A m c] w fun e w' => e = .returned (.bool true) ∧ Below w.heap.size w w' := by
  obtain ⟨i0, hi, hz0, hz1, hz2⟩ := info_parts info_byte
  have c2 : ∀ w : World, Hid (Calls Try.prog 66 #[.int .u64 (n : Int)] w (IsBytes (putM n) w)) := fun w => ref_Put_any 9 n w (by omega) hn (by rw [lim9]; exact hn)
  have c4 : ∀ (B : Nat) (v : Value) (W : World), B ≤ W.heap.size → W.ownsRow B 5 1 v m (rowB r) → Hid (Calls Try.prog 65 #[v, .int .u64 (n : Int)] W fun e w' => ∃ g4 cap4, e = .returned (.slice (some ⟨g4, 0, none⟩) (m + (putM n).length) cap4) ∧
      (convert 61 9 (.slice (some ⟨g4, 0, none⟩) (m + (putM n).length) cap4)).run Try.prog w' = .ok (.string (strB r ++ strB (putM n))) w' ∧ Below B W w') := fun B v W hB hown => by
    refine (uvar_Put_any B m v r n W hn (by omega) hB hown).mono ?_
    rintro e w' ⟨v', rfl, hown', hb⟩
    obtain ⟨g4, cap4, rfl⟩ := own_some hown' (by have := (putF_len 9 n).1; show 0 < m + (putF 9 n).length; omega)
    refine ⟨g4, cap4, rfl, ?_, hb⟩
    have hl : (r ++ putM n).length = m + (putM n).length := by rw [List.length_append, hs.1.1]
    have hsl := slb_own (l := r ++ putM n) (cap := cap4) (g := g4) (w := w') (base := B) (by rw [hl]; exact hown') (fun b hb => (List.mem_append.1 hb).elim (hs.2 b) (putF_byte 9 _ (by rw [lim9]; exact hn) b))
    rw [hl] at hsl
    rw [← strB_app]
    exact conv_slb hsl
  have c5 : ∀ w : World, Hid (Calls Try.prog 67 #[.int .u64 (n : Int)] w fun e w' => e = .returned (.int .i64 ((putM n).length : Int)) ∧ w = w') := fun w => uvar_Size_any n hn w
  have c6 : ∀ w : World, Hid (Calls Try.prog 60 #[] w fun e w' => e = .returned (.bool true) ∧ Below w.heap.size w w') := fun w => uvar_lives w
  have hbyte : ∀ b ∈ putM n, b < 256 := putF_byte 9 _ (by rw [lim9]; exact hn)
  have hpl : (putM n).length ≤ 10 := (putF_len 9 n).2
  obtain ⟨l, hl⟩ : ∃ l, putM n = l := ⟨_, rfl⟩
  rw [hl] at c2 c4 c5 hbyte hpl
  clear hl hn
  have t2 : ((l.length : Int) == (l.length : Int)) = true := by simp
  have hml : ¬ ((100 : Int) < (m : Int)) := by omega
  go_enter Try.func14, Try.ntmps14
  go_wp2_with fail
  refine Calls.mono (c2 _).out ?_
  rintro e w1 ⟨g, cap, rfl, hown, hbw⟩
  have e7 : ∀ W, Below w1.heap.size w1 W → (convert 61 9 (.slice A m c)).run Try.prog W = .ok (.string (strB r)) W := fun W hW => conv_slb (B := w.heap.size) ⟨hs.1.keep (stable_rc _) (fun p hp => ((hbw.trans (hW.mono hbw.size)).cell hp)), hs.2⟩
  have e9 : ∀ W, Below w1.heap.size w1 W → (convert 61 9 (.slice (some ⟨g, 0, none⟩) l.length cap)).run Try.prog W = .ok (.string (strB l)) W := fun W hW => conv_slb (slb_own (own_keep hown hW) hbyte)
  have hzs : (strB r).size + (strB l).size ≤ 9223372036854775807 := by
    have h1 : (strB r).size = m := by have := hs.1.1; simp [strB, ByteArray.size, this]
    have h2 : (strB l).size = l.length := by simp [strB, ByteArray.size]
    omega
  obtain ⟨sr, hsr⟩ : ∃ s, strB r = s := ⟨_, rfl⟩
  obtain ⟨sl, hsl⟩ : ∃ s, strB l = s := ⟨_, rfl⟩
  rw [hsr] at e7 c4 hzs
  rw [hsl] at e9 c4 hzs
  clear hsr hsl hbyte
  have t0 : ((sr ++ sl).toList == (sr ++ sl).toList) = true := by simp
  have hS0 : Below w1.heap.size w1 w1.drew := (Below.refl _ _).drew
  have hown1 := own_empty w1.drew w1.heap.size (Nat.le_refl _)
  have hs2 : w1.heap.size ≤ (w1.drew.alloc (.cells #[] 5)).heap.size := by simp
  have hs5 : SrcCells (w1.drew.alloc (.cells #[] 5)) A m 1 (rowB r) := src_below hs (hbw.trans ((hS0.alloc (Nat.le_refl _) _).mono hbw.size))
  have c4 := c4 w1.heap.size
  clear hown hs c2
  go_wp2_with fail
  refine wp_region_held (S := fun W => Below w1.heap.size w1 W) (by kernel_rfl) ?_
  change wpAnyH _ _ _ _ _ _ _ _ (World.drew _)
  refine wpAnyH_take (i := 1) (v := .slice A m c) rfl (by kernel_rfl) (by kernel_rfl) (by kernel_rfl) (fun _ _ _ h => h) (Or.inl ⟨by rfl, by intro W hW; go_simp; try (with_reducible rfl)⟩) hS0 ?_
  refine wpAnyH_take (i := 3) (v := .int .u64 (n : Int)) rfl (by kernel_rfl) (by kernel_rfl) (by kernel_rfl) (fun _ _ _ h => h) (Or.inl ⟨by rfl, by intro W hW; go_simp; try (with_reducible rfl)⟩) hS0 ?_
  refine wpAnyH_take (i := 6) (v := .slice A m c) rfl (by kernel_rfl) (by kernel_rfl) (by kernel_rfl) (fun _ _ _ h => h) (Or.inl ⟨by rfl, by intro W hW; go_simp; try (with_reducible rfl)⟩) hS0 ?_
  refine wpAnyH_take (i := 8) (v := .slice (some ⟨g, 0, none⟩) l.length cap) rfl (by kernel_rfl) (by kernel_rfl) (by kernel_rfl) (fun _ _ _ h => h) (Or.inl ⟨by rfl, by intro W hW; go_simp; try (with_reducible rfl)⟩) hS0 ?_
  refine wpAnyH_take (i := 7) (v := .string sr) rfl (by kernel_rfl) (by kernel_rfl) (by kernel_rfl) (fun _ _ _ h => h) (Or.inl ⟨by rfl, by intro W hW; have e7 := e7 W hW; go_simp; try (with_reducible rfl)⟩) hS0 ?_
  refine wpAnyH_take (i := 9) (v := .string sl) rfl (by kernel_rfl) (by kernel_rfl) (by kernel_rfl) (fun _ _ _ h => h) (Or.inl ⟨by rfl, by intro W hW; have e9 := e9 W hW; go_simp; try (with_reducible rfl)⟩) hS0 ?_
  refine wpAnyH_take (i := 10) (v := .string (sr ++ sl)) rfl (by kernel_rfl) (by kernel_rfl) (by kernel_rfl) (fun _ _ _ h => h) (Or.inl ⟨by rfl, by intro W hW; go_simp; try (with_reducible rfl)⟩) hS0 ?_
  refine wpAnyH_one (i := 0) (by kernel_rfl) rfl (fun K hK => ?_)
  go_simp
  refine hK _ _ ⟨hS0.alloc (Nat.le_refl _) _, ?_⟩; clear hK K
  refine wpAnyH_one (i := 2) (by kernel_rfl) rfl (fun K hK => ?_)
  refine step_append_src _ rfl _ _ 61 rfl w1.heap.size 5 i0 (.int .u8 0) 1 1 Try.underlying61 hi hz0 hz1 hz2 rfl (by decide) _ _ _ rfl hown1 A m c (rowB r) rfl hs5 (row_one r) (by unfold maxLen; omega) (by omega) hs2 ?_
  intro v' w3 hown' hgrow3 hown2'
  have hown3 : w3.ownsRow w1.heap.size 5 1 v' m (rowB r) := by simpa [rowB] using hown'
  have hS3 : Below w1.heap.size w1 w3 := Below.grown (hS0.alloc (Nat.le_refl _) _) hgrow3 (by simp) (fun j hj => (hown1.lt _ hj).1)
  clear hown' hgrow3 hown2'
  refine hK _ _ ⟨hS3, ?_⟩; clear hK K
  refine wpAnyH_one (i := 4) (by kernel_rfl) rfl (fun K hK => ?_)
  go_simp
  refine Calls.mono (c4 v' w3 hS3.size hown3).out ?_
  rintro e w4 ⟨g4, cap4, rfl, e5, hb4⟩
  have hS4 : Below w1.heap.size w1 w4 := hS3.trans hb4
  go_simp
  refine hK _ _ ⟨hS4, ?_⟩; clear hK K
  refine wpAnyH_one (i := 5) (by kernel_rfl) rfl (fun K hK => ?_)
  go_simp
  refine hK _ _ ⟨hS4, ?_⟩; clear hK K
  refine wpAnyH_one (i := 11) (by kernel_rfl) rfl (fun K hK => ?_)
  go_simp
  refine hK _ _ ⟨hS4, ?_⟩; clear hK K
  refine wpAnyH_one (i := 12) (by kernel_rfl) rfl (fun K hK => ?_)
  go_simp
  refine hK _ _ ⟨hS4, ?_⟩; clear hK K
  refine wpAnyH_take (i := 13) (v := .int .u64 (n : Int)) rfl (by kernel_rfl) (by kernel_rfl) (by kernel_rfl) (fun _ _ _ h => h) (Or.inl ⟨by rfl, by intro W hW; go_simp; try (with_reducible rfl)⟩) hS4 ?_
  refine wpAnyH_take (i := 15) (v := .slice (some ⟨g, 0, none⟩) l.length cap) rfl (by kernel_rfl) (by kernel_rfl) (by kernel_rfl) (fun _ _ _ h => h) (Or.inl ⟨by rfl, by intro W hW; go_simp; try (with_reducible rfl)⟩) hS4 ?_
  refine wpAnyH_take (i := 16) (v := .int .i64 (l.length : Int)) rfl (by kernel_rfl) (by kernel_rfl) (by kernel_rfl) (fun _ _ _ h => h) (Or.inl ⟨by rfl, by intro W hW; go_simp; try (with_reducible rfl)⟩) hS4 ?_
  refine wpAnyH_one (i := 14) (by kernel_rfl) rfl (fun K hK => ?_)
  go_simp
  refine Calls.mono (c5 _).out ?_
  rintro e w5 ⟨rfl, rfl⟩
  go_simp
  refine hK _ _ ⟨hS4, ?_⟩; clear hK K
  refine wpAnyH_one (i := 17) (by kernel_rfl) rfl (fun K hK => ?_)
  go_simp
  refine hK _ _ ⟨hS4, ?_⟩; clear hK K
  refine wpAnyH_one (i := 18) (by kernel_rfl) rfl (fun K hK => ?_)
  go_simp
  refine hK _ _ ⟨hS4, ?_⟩; clear hK K
  refine wpAnyH_one (i := 19) (by kernel_rfl) rfl (fun K hK => ?_)
  go_simp
  refine hK _ _ ⟨hS4, ?_⟩; clear hK K
  refine wpAnyH_one (i := 20) (by kernel_rfl) rfl (fun K hK => ?_)
  go_simp
  refine Calls.mono (c6 _).out ?_
  rintro e w6 ⟨rfl, hb6⟩
  have hS6 : Below w1.heap.size w1 w6 := bl_trans hS4 hS4.size hb6
  go_simp
  refine hK _ _ ⟨hS6, ?_⟩; clear hK K
  refine wpAnyH_one (i := 21) (by kernel_rfl) rfl (fun K hK => ?_)
  go_simp
  refine hK _ _ ⟨hS6, ?_⟩; clear hK K
  refine wpAnyH_one (i := 22) (by kernel_rfl) rfl (fun K hK => ?_)
  go_simp
  refine hK _ _ ⟨hS6, ?_⟩; clear hK K
  refine wpAnyH_done (by kernel_rfl) ?_ _
  go_wp2_with fail
  go_ret
  exact ⟨rfl, hbw.trans (hS6.mono hbw.size)⟩

theorem uvarPuts_law (n : Int) (A : Option Addr) (m c : Nat) (xs : List Int) (w : World) (h0 : (Lit.int .u64 n).wf = true) (hx : SlR 1 1 (RInt .u8) w w.heap.size A m c xs) :
    Calls Try.prog 14 #[.int .u64 n, .slice A m c] w fun e w' => e = .returned (.bool true) ∧ Below w.heap.size w w' := by
  have h : 0 ≤ n ∧ n ≤ 18446744073709551615 := by simpa [Lit.wf, IntKind.min, IntKind.max, IntKind.signed, IntKind.bits] using h0
  have hcm : c ≤ maxLen := hx.2.2.1
  have hmc : m ≤ c := hx.2.1
  obtain ⟨k, rfl⟩ : ∃ k : Nat, n = (k : Int) := ⟨n.toNat, by omega⟩
  obtain ⟨r, hs⟩ := slb_of hx
  by_cases hm : m ≤ 100
  · exact uvarPuts_few k A m c r w (by omega) hs hm
  · have hml : (100 : Int) < (m : Int) := by omega
    have hm63 : m ≤ 9223372036854775807 := by unfold maxLen at hcm; omega
    clear hm hx hs h0 hcm
    go_enter Try.func14, Try.ntmps14
    go_wp2_with fail
    refine (uvar_lives _).mono ?_
    rintro e w1 ⟨rfl, hb⟩
    go_wp2_with fail
    go_ret
    exact ⟨rfl, hb⟩
end Go.Proofs.Ytnnpgljmfjemnaa
