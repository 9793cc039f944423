/-
  Panics: whether two are the same, by the document and by the program.
-/
import Derived.Test.YtnnpgljmfjemnaaBlame3
namespace Go.Proofs.Ytnnpgljmfjemnaa
open Go.RowKit
set_option linter.unusedSimpArgs false
set_option linter.unusedVariables false

theorem wpAnyH_one {P : Program} {ops : Array Oper} {Q : Exit → Act → World → Prop} {md : Region.Mode} {S : World → Prop} {i fuel : Nat} {o : Oper} {listed : Array Bool} {a : Act} {w : World}
    (hr : Region.ready md ops listed = [i]) (ho : ops[i]? = some o)
    (h : ∀ K' : Act → World → Prop, (∀ a w, S w ∧ wpAnyH P md ops Q S fuel (listed.setIfInBounds i true) a w → K' a w) → if Region.wanted o (yielded ops a.tmps) = true then Oper.wp P o a w K' Q else K' (a.put o.dst undef) w) :
    wpAnyH P md ops Q S (fuel + 1) listed a w :=
  wpAnyH_all hr (by simp) (fun j hj => by
    rcases List.mem_singleton.1 hj with rfl
    exact wpOp_step ho h)
theorem bl_trans {B : Nat} {a b c : World} (h : Below B a b) (hB : B ≤ b.heap.size) (k : Below b.heap.size b c) : Below B a c := h.trans (k.mono hB)

def eqH (k1 n1 : Int) (r1 : Bool) (k2 n2 : Int) (r2 : Bool) : Bool := (k1 == k2) && ((n1 == n2) && (r1 == r2))
theorem box_cells (w : World) (cs : Array Value) (t : TypeId) (w1 : World) (hb : Below (w.heap.size + 1) (w.alloc (.cells cs t)) w1) (i : Nat) (v : Value) (hv : cs[i]? = some v) : w1.cell? ⟨w.heap.size, i, none⟩ = some v := by
  rw [hb.cell (by simp), cell_of_row _ w.heap.size i cs t (0, 0) (heap_alloc_new w _)]
  exact hv

set_option maxRecDepth 100000 in
set_option maxHeartbeats 2000000 in
theorem refSame_any (k1 n1 : Int) (r1 : Bool) (k2 n2 : Int) (r2 : Bool) (B : Nat) (A1 A2 : Option Addr) (m1 c1 m2 c2 : Nat) (l1 l2 : List DEntry) (w : World) (h1 : SlE w B A1 m1 c1 l1) (h2 : SlE w B A2 m2 c2 l2) (hB : B ≤ w.heap.size) :
    Calls Try.prog 29 #[blameV k1 n1 r1 A1 m1 c1, blameV k2 n2 r2 A2 m2 c2] w fun e w' => e = .returned (.bool (eqH k1 n1 r1 k2 n2 r2 && eqEs l1 l2)) ∧ Below w.heap.size w w' := by
  have ce : ∀ W : World, Below w.heap.size w W → Hid (Calls Try.prog 72 #[.slice A1 m1 c1, .slice A2 m2 c2] W fun e w' => e = .returned (.bool (eqEs l1 l2)) ∧ ∃ q, w' = W.drewN q) := fun W hW => entries_any B B A1 A2 m1 m2 c1 c2 l1 l2 W (sle_rc (h1.keep (hW.mono hB))) (sle_rc (h2.keep (hW.mono hB)))
  obtain ⟨b, hb⟩ : ∃ b, eqEs l1 l2 = b := ⟨_, rfl⟩
  rw [hb] at ce ⊢
  clear hb h1 h2 hB
  unfold eqH
  have hA : Below w.heap.size w ((w.alloc (.cells #[.int .i64 k1, .int .i64 n1, .bool r1, .slice A1 m1 c1] 35)).alloc (.cells #[.int .i64 k2, .int .i64 n2, .bool r2, .slice A2 m2 c2] 35)) := ((Below.refl _ _).alloc (Nat.le_refl _) _).alloc (by simp) _
  have ce := ce _ hA
  rcases Bool.eq_false_or_eq_true (k1 == k2) with f1 | f1
  · rcases Bool.eq_false_or_eq_true (n1 == n2) with f2 | f2
    · rcases Bool.eq_false_or_eq_true (r1 == r2) with f3 | f3
      · rw [f1, f2, f3]
        go_enter Try.func29, Try.ntmps29
        go_wp2_with fail
        refine Calls.mono ce.out ?_
        rintro e w1 ⟨rfl, q, rfl⟩
        go_wp2_with fail
        go_ret
        exact ⟨by simp, below_drewN' hA q⟩
      · rw [f1, f2, f3]
        clear ce
        go_enter Try.func29, Try.ntmps29
        go_wp2_with fail
        go_ret
        exact ⟨by simp, hA⟩
    · rw [f1, f2]
      clear ce
      go_enter Try.func29, Try.ntmps29
      go_wp2_with fail
      go_ret
      exact ⟨by simp, hA⟩
  · rw [f1]
    clear ce
    go_enter Try.func29, Try.ntmps29
    go_wp2_with fail
    go_ret
    exact ⟨by simp, hA⟩

set_option maxRecDepth 100000 in
set_option maxHeartbeats 2000000 in
theorem same_any (k1 n1 : Int) (r1 : Bool) (k2 n2 : Int) (r2 : Bool) (B : Nat) (A1 A2 : Option Addr) (m1 c1 m2 c2 : Nat) (l1 l2 : List DEntry) (w : World) (h1 : SlE w B A1 m1 c1 l1) (h2 : SlE w B A2 m2 c2 l2) (hB : B ≤ w.heap.size) :
    Calls Try.prog 28 #[blameV k1 n1 r1 A1 m1 c1, blameV k2 n2 r2 A2 m2 c2] w fun e w' => e = .returned (.bool (eqH k1 n1 r1 k2 n2 r2 && eqEs l1 l2)) ∧ Below w.heap.size w w' := by
  have ce : ∀ W : World, Below w.heap.size w W → Hid (Calls Try.prog 71 #[.slice A1 m1 c1, .slice A2 m2 c2] W fun e w' => e = .returned (.bool (eqEs l1 l2)) ∧ ∃ q, w' = W.drewN q) := fun W hW => equal_any B B A1 A2 m1 m2 c1 c2 l1 l2 W (sle_rc (h1.keep (hW.mono hB))) (sle_rc (h2.keep (hW.mono hB)))
  obtain ⟨b, hb⟩ : ∃ b, eqEs l1 l2 = b := ⟨_, rfl⟩
  rw [hb] at ce ⊢
  clear hb h1 h2 hB
  unfold eqH
  have hA : Below w.heap.size w ((w.alloc (.cells #[.int .i64 k1, .int .i64 n1, .bool r1, .slice A1 m1 c1] 35)).alloc (.cells #[.int .i64 k2, .int .i64 n2, .bool r2, .slice A2 m2 c2] 35)) := ((Below.refl _ _).alloc (Nat.le_refl _) _).alloc (by simp) _
  have co : ∀ (k n : Int) (r : Bool) (A : Option Addr) (m c : Nat) (W : World), Hid (Calls Try.prog 70 #[blameV k n r A m c] W fun e w' => e = .returned (.agg #[.int .i64 k, .int .i64 n, .bool r]) ∧ Below W.heap.size W w') := fun k n r A m c W => of_any k n r A m c W
  obtain ⟨w2, hw2⟩ : ∃ w2, (w.alloc (.cells #[.int .i64 k1, .int .i64 n1, .bool r1, .slice A1 m1 c1] 35)).alloc (.cells #[.int .i64 k2, .int .i64 n2, .bool r2, .slice A2 m2 c2] 35) = w2 := ⟨_, rfl⟩
  have hz2 : w2.heap.size = w.heap.size + 2 := by rw [← hw2]; simp
  have hcA : ∀ W, Below w2.heap.size w2 W → Below (w.heap.size + 1) (w.alloc (.cells #[.int .i64 k1, .int .i64 n1, .bool r1, .slice A1 m1 c1] 35)) W := fun W hW => by
    refine Below.trans ?_ (hW.mono (by omega))
    rw [← hw2]
    exact (Below.refl _ _).alloc (by simp) _
  have hcB : ∀ W, Below w2.heap.size w2 W → Below ((w.alloc (.cells #[.int .i64 k1, .int .i64 n1, .bool r1, .slice A1 m1 c1] 35)).heap.size + 1) ((w.alloc (.cells #[.int .i64 k1, .int .i64 n1, .bool r1, .slice A1 m1 c1] 35)).alloc (.cells #[.int .i64 k2, .int .i64 n2, .bool r2, .slice A2 m2 c2] 35)) W := fun W hW => by
    rw [hw2]
    exact hW.mono (by simp; omega)
  have ea0 : ∀ W, Below w2.heap.size w2 W → W.cell? ⟨w.heap.size, 0, none⟩ = some (.int .i64 k1) := fun W hW => box_cells w _ _ W (hcA W hW) 0 _ rfl
  have ea1 : ∀ W, Below w2.heap.size w2 W → W.cell? ⟨w.heap.size, 1, none⟩ = some (.int .i64 n1) := fun W hW => box_cells w _ _ W (hcA W hW) 1 _ rfl
  have ea2 : ∀ W, Below w2.heap.size w2 W → W.cell? ⟨w.heap.size, 2, none⟩ = some (.bool r1) := fun W hW => box_cells w _ _ W (hcA W hW) 2 _ rfl
  have ea3 : ∀ W, Below w2.heap.size w2 W → W.cell? ⟨w.heap.size, 3, none⟩ = some (.slice A1 m1 c1) := fun W hW => box_cells w _ _ W (hcA W hW) 3 _ rfl
  have eb0 : ∀ W, Below w2.heap.size w2 W → W.cell? ⟨w.heap.size + 1, 0, none⟩ = some (.int .i64 k2) := fun W hW => by
    have := box_cells _ _ _ W (hcB W hW) 0 _ rfl
    simpa using this
  have eb1 : ∀ W, Below w2.heap.size w2 W → W.cell? ⟨w.heap.size + 1, 1, none⟩ = some (.int .i64 n2) := fun W hW => by
    have := box_cells _ _ _ W (hcB W hW) 1 _ rfl
    simpa using this
  have eb2 : ∀ W, Below w2.heap.size w2 W → W.cell? ⟨w.heap.size + 1, 2, none⟩ = some (.bool r2) := fun W hW => by
    have := box_cells _ _ _ W (hcB W hW) 2 _ rfl
    simpa using this
  have eb3 : ∀ W, Below w2.heap.size w2 W → W.cell? ⟨w.heap.size + 1, 3, none⟩ = some (.slice A2 m2 c2) := fun W hW => by
    have := box_cells _ _ _ W (hcB W hW) 3 _ rfl
    simpa using this
  have hS0 : Below w2.heap.size w2 w2.drew := (Below.refl _ _).drew
  rw [hw2] at hA
  clear hcA hcB
  rcases Bool.eq_false_or_eq_true (k1 == k2) with f1 | f1
  · rcases Bool.eq_false_or_eq_true (n1 == n2) with f2 | f2
    · rcases Bool.eq_false_or_eq_true (r1 == r2) with f3 | f3
      · rw [f1, f2, f3]
        go_enter Try.func28, Try.ntmps28
        go_wp2_with fail
        refine wp_region_held (S := fun W => Below w2.heap.size w2 W) (by kernel_rfl) ?_
        change wpAnyH _ _ _ _ _ _ _ _ (World.drew _)
        refine wpAnyH_take (i := 0) (v := blameV k1 n1 r1 A1 m1 c1) rfl (by kernel_rfl) (by kernel_rfl) (by kernel_rfl) (fun _ _ _ h => h) (Or.inl ⟨by rfl, by intro W hW; have a0 := ea0 W hW; have a1 := ea1 W hW; have a2 := ea2 W hW; have a3 := ea3 W hW; go_simp; try (with_reducible rfl)⟩) hS0 ?_
        refine wpAnyH_take (i := 2) (v := blameV k2 n2 r2 A2 m2 c2) rfl (by kernel_rfl) (by kernel_rfl) (by kernel_rfl) (fun _ _ _ h => h) (Or.inl ⟨by rfl, by intro W hW; have a0 := eb0 W hW; have a1 := eb1 W hW; have a2 := eb2 W hW; have a3 := eb3 W hW; go_simp; try (with_reducible rfl)⟩) hS0 ?_
        refine wpAnyH_one (i := 1) (by kernel_rfl) rfl (fun K hK => ?_)
        go_simp
        refine Calls.mono (co k1 n1 r1 A1 m1 c1 _).out ?_
        rintro e w3 ⟨rfl, hb3⟩
        have hS3 := bl_trans hS0 hS0.size hb3
        go_simp
        refine hK _ _ ⟨hS3, ?_⟩; clear hK K
        refine wpAnyH_one (i := 3) (by kernel_rfl) rfl (fun K hK => ?_)
        go_simp
        refine Calls.mono (co k2 n2 r2 A2 m2 c2 _).out ?_
        rintro e w4 ⟨rfl, hb4⟩
        have hS4 := bl_trans hS3 hS3.size hb4
        go_simp
        refine hK _ _ ⟨hS4, ?_⟩; clear hK K
        refine wpAnyH_one (i := 4) (by kernel_rfl) rfl (fun K hK => ?_)
        go_simp
        refine hK _ _ ⟨hS4, ?_⟩; clear hK K
        refine wpAnyH_one (i := 5) (by kernel_rfl) rfl (fun K hK => ?_)
        go_simp
        refine hK _ _ ⟨hS4, ?_⟩; clear hK K
        refine wpAnyH_take (i := 6) (v := .pointer (some ⟨w.heap.size, 3, none⟩)) rfl (by kernel_rfl) (by kernel_rfl) (by kernel_rfl) (fun _ _ _ h => h) (Or.inl ⟨by rfl, by intro W hW; go_simp; try (with_reducible rfl)⟩) hS4 ?_
        refine wpAnyH_take (i := 7) (v := .slice A1 m1 c1) rfl (by kernel_rfl) (by kernel_rfl) (by kernel_rfl) (fun _ _ _ h => h) (Or.inl ⟨by rfl, by intro W hW; have a3 := ea3 W hW; go_simp; try (with_reducible rfl)⟩) hS4 ?_
        refine wpAnyH_take (i := 8) (v := .pointer (some ⟨w.heap.size + 1, 3, none⟩)) rfl (by kernel_rfl) (by kernel_rfl) (by kernel_rfl) (fun _ _ _ h => h) (Or.inl ⟨by rfl, by intro W hW; go_simp; try (with_reducible rfl)⟩) hS4 ?_
        refine wpAnyH_take (i := 9) (v := .slice A2 m2 c2) rfl (by kernel_rfl) (by kernel_rfl) (by kernel_rfl) (fun _ _ _ h => h) (Or.inl ⟨by rfl, by intro W hW; have a3 := eb3 W hW; go_simp; try (with_reducible rfl)⟩) hS4 ?_
        refine wpAnyH_one (i := 10) (by kernel_rfl) rfl (fun K hK => ?_)
        go_simp
        refine Calls.mono (ce _ (hA.trans (hS4.mono hA.size))).out ?_
        rintro e w5 ⟨rfl, q, rfl⟩
        have hS5 := below_drewN' hS4 q
        go_simp
        refine hK _ _ ⟨hS5, ?_⟩; clear hK K
        refine wpAnyH_one (i := 11) (by kernel_rfl) rfl (fun K hK => ?_)
        go_simp
        refine hK _ _ ⟨hS5, ?_⟩; clear hK K
        refine wpAnyH_one (i := 12) (by kernel_rfl) rfl (fun K hK => ?_)
        go_simp
        refine hK _ _ ⟨hS5, ?_⟩; clear hK K
        refine wpAnyH_done (by kernel_rfl) ?_ _
        go_wp2_with fail
        go_ret
        exact ⟨by simp, hA.trans (hS5.mono hA.size)⟩
      · rw [f1, f2, f3]
        go_enter Try.func28, Try.ntmps28
        go_wp2_with fail
        refine wp_region_held (S := fun W => Below w2.heap.size w2 W) (by kernel_rfl) ?_
        change wpAnyH _ _ _ _ _ _ _ _ (World.drew _)
        refine wpAnyH_take (i := 0) (v := blameV k1 n1 r1 A1 m1 c1) rfl (by kernel_rfl) (by kernel_rfl) (by kernel_rfl) (fun _ _ _ h => h) (Or.inl ⟨by rfl, by intro W hW; have a0 := ea0 W hW; have a1 := ea1 W hW; have a2 := ea2 W hW; have a3 := ea3 W hW; go_simp; try (with_reducible rfl)⟩) hS0 ?_
        refine wpAnyH_take (i := 2) (v := blameV k2 n2 r2 A2 m2 c2) rfl (by kernel_rfl) (by kernel_rfl) (by kernel_rfl) (fun _ _ _ h => h) (Or.inl ⟨by rfl, by intro W hW; have a0 := eb0 W hW; have a1 := eb1 W hW; have a2 := eb2 W hW; have a3 := eb3 W hW; go_simp; try (with_reducible rfl)⟩) hS0 ?_
        refine wpAnyH_one (i := 1) (by kernel_rfl) rfl (fun K hK => ?_)
        go_simp
        refine Calls.mono (co k1 n1 r1 A1 m1 c1 _).out ?_
        rintro e w3 ⟨rfl, hb3⟩
        have hS3 := bl_trans hS0 hS0.size hb3
        go_simp
        refine hK _ _ ⟨hS3, ?_⟩; clear hK K
        refine wpAnyH_one (i := 3) (by kernel_rfl) rfl (fun K hK => ?_)
        go_simp
        refine Calls.mono (co k2 n2 r2 A2 m2 c2 _).out ?_
        rintro e w4 ⟨rfl, hb4⟩
        have hS4 := bl_trans hS3 hS3.size hb4
        go_simp
        refine hK _ _ ⟨hS4, ?_⟩; clear hK K
        refine wpAnyH_one (i := 4) (by kernel_rfl) rfl (fun K hK => ?_)
        go_simp
        refine hK _ _ ⟨hS4, ?_⟩; clear hK K
        refine wpAnyH_one (i := 5) (by kernel_rfl) rfl (fun K hK => ?_)
        go_simp
        refine hK _ _ ⟨hS4, ?_⟩; clear hK K
        refine wpAnyH_take (i := 6) (v := undef) rfl (by kernel_rfl) (by kernel_rfl) (by kernel_rfl) (fun _ _ _ h => h) (Or.inr ⟨by rfl, rfl⟩) hS4 ?_
        refine wpAnyH_take (i := 7) (v := undef) rfl (by kernel_rfl) (by kernel_rfl) (by kernel_rfl) (fun _ _ _ h => h) (Or.inr ⟨by rfl, rfl⟩) hS4 ?_
        refine wpAnyH_take (i := 8) (v := undef) rfl (by kernel_rfl) (by kernel_rfl) (by kernel_rfl) (fun _ _ _ h => h) (Or.inr ⟨by rfl, rfl⟩) hS4 ?_
        refine wpAnyH_take (i := 9) (v := undef) rfl (by kernel_rfl) (by kernel_rfl) (by kernel_rfl) (fun _ _ _ h => h) (Or.inr ⟨by rfl, rfl⟩) hS4 ?_
        refine wpAnyH_take (i := 10) (v := undef) rfl (by kernel_rfl) (by kernel_rfl) (by kernel_rfl) (fun _ _ _ h => h) (Or.inr ⟨by rfl, rfl⟩) hS4 ?_
        have hS5 := hS4
        refine wpAnyH_one (i := 11) (by kernel_rfl) rfl (fun K hK => ?_)
        go_simp
        refine hK _ _ ⟨hS5, ?_⟩; clear hK K
        refine wpAnyH_one (i := 12) (by kernel_rfl) rfl (fun K hK => ?_)
        go_simp
        refine hK _ _ ⟨hS5, ?_⟩; clear hK K
        refine wpAnyH_done (by kernel_rfl) ?_ _
        go_wp2_with fail
        go_ret
        exact ⟨by simp, hA.trans (hS5.mono hA.size)⟩
    · rw [f1, f2]
      go_enter Try.func28, Try.ntmps28
      go_wp2_with fail
      refine wp_region_held (S := fun W => Below w2.heap.size w2 W) (by kernel_rfl) ?_
      change wpAnyH _ _ _ _ _ _ _ _ (World.drew _)
      refine wpAnyH_take (i := 0) (v := blameV k1 n1 r1 A1 m1 c1) rfl (by kernel_rfl) (by kernel_rfl) (by kernel_rfl) (fun _ _ _ h => h) (Or.inl ⟨by rfl, by intro W hW; have a0 := ea0 W hW; have a1 := ea1 W hW; have a2 := ea2 W hW; have a3 := ea3 W hW; go_simp; try (with_reducible rfl)⟩) hS0 ?_
      refine wpAnyH_take (i := 2) (v := blameV k2 n2 r2 A2 m2 c2) rfl (by kernel_rfl) (by kernel_rfl) (by kernel_rfl) (fun _ _ _ h => h) (Or.inl ⟨by rfl, by intro W hW; have a0 := eb0 W hW; have a1 := eb1 W hW; have a2 := eb2 W hW; have a3 := eb3 W hW; go_simp; try (with_reducible rfl)⟩) hS0 ?_
      refine wpAnyH_one (i := 1) (by kernel_rfl) rfl (fun K hK => ?_)
      go_simp
      refine Calls.mono (co k1 n1 r1 A1 m1 c1 _).out ?_
      rintro e w3 ⟨rfl, hb3⟩
      have hS3 := bl_trans hS0 hS0.size hb3
      go_simp
      refine hK _ _ ⟨hS3, ?_⟩; clear hK K
      refine wpAnyH_one (i := 3) (by kernel_rfl) rfl (fun K hK => ?_)
      go_simp
      refine Calls.mono (co k2 n2 r2 A2 m2 c2 _).out ?_
      rintro e w4 ⟨rfl, hb4⟩
      have hS4 := bl_trans hS3 hS3.size hb4
      go_simp
      refine hK _ _ ⟨hS4, ?_⟩; clear hK K
      refine wpAnyH_one (i := 4) (by kernel_rfl) rfl (fun K hK => ?_)
      go_simp
      refine hK _ _ ⟨hS4, ?_⟩; clear hK K
      refine wpAnyH_one (i := 5) (by kernel_rfl) rfl (fun K hK => ?_)
      go_simp
      refine hK _ _ ⟨hS4, ?_⟩; clear hK K
      refine wpAnyH_take (i := 6) (v := undef) rfl (by kernel_rfl) (by kernel_rfl) (by kernel_rfl) (fun _ _ _ h => h) (Or.inr ⟨by rfl, rfl⟩) hS4 ?_
      refine wpAnyH_take (i := 7) (v := undef) rfl (by kernel_rfl) (by kernel_rfl) (by kernel_rfl) (fun _ _ _ h => h) (Or.inr ⟨by rfl, rfl⟩) hS4 ?_
      refine wpAnyH_take (i := 8) (v := undef) rfl (by kernel_rfl) (by kernel_rfl) (by kernel_rfl) (fun _ _ _ h => h) (Or.inr ⟨by rfl, rfl⟩) hS4 ?_
      refine wpAnyH_take (i := 9) (v := undef) rfl (by kernel_rfl) (by kernel_rfl) (by kernel_rfl) (fun _ _ _ h => h) (Or.inr ⟨by rfl, rfl⟩) hS4 ?_
      refine wpAnyH_take (i := 10) (v := undef) rfl (by kernel_rfl) (by kernel_rfl) (by kernel_rfl) (fun _ _ _ h => h) (Or.inr ⟨by rfl, rfl⟩) hS4 ?_
      have hS5 := hS4
      refine wpAnyH_one (i := 11) (by kernel_rfl) rfl (fun K hK => ?_)
      go_simp
      refine hK _ _ ⟨hS5, ?_⟩; clear hK K
      refine wpAnyH_one (i := 12) (by kernel_rfl) rfl (fun K hK => ?_)
      go_simp
      refine hK _ _ ⟨hS5, ?_⟩; clear hK K
      refine wpAnyH_done (by kernel_rfl) ?_ _
      go_wp2_with fail
      go_ret
      exact ⟨by simp, hA.trans (hS5.mono hA.size)⟩
  · rw [f1]
    go_enter Try.func28, Try.ntmps28
    go_wp2_with fail
    refine wp_region_held (S := fun W => Below w2.heap.size w2 W) (by kernel_rfl) ?_
    change wpAnyH _ _ _ _ _ _ _ _ (World.drew _)
    refine wpAnyH_take (i := 0) (v := blameV k1 n1 r1 A1 m1 c1) rfl (by kernel_rfl) (by kernel_rfl) (by kernel_rfl) (fun _ _ _ h => h) (Or.inl ⟨by rfl, by intro W hW; have a0 := ea0 W hW; have a1 := ea1 W hW; have a2 := ea2 W hW; have a3 := ea3 W hW; go_simp; try (with_reducible rfl)⟩) hS0 ?_
    refine wpAnyH_take (i := 2) (v := blameV k2 n2 r2 A2 m2 c2) rfl (by kernel_rfl) (by kernel_rfl) (by kernel_rfl) (fun _ _ _ h => h) (Or.inl ⟨by rfl, by intro W hW; have a0 := eb0 W hW; have a1 := eb1 W hW; have a2 := eb2 W hW; have a3 := eb3 W hW; go_simp; try (with_reducible rfl)⟩) hS0 ?_
    refine wpAnyH_one (i := 1) (by kernel_rfl) rfl (fun K hK => ?_)
    go_simp
    refine Calls.mono (co k1 n1 r1 A1 m1 c1 _).out ?_
    rintro e w3 ⟨rfl, hb3⟩
    have hS3 := bl_trans hS0 hS0.size hb3
    go_simp
    refine hK _ _ ⟨hS3, ?_⟩; clear hK K
    refine wpAnyH_one (i := 3) (by kernel_rfl) rfl (fun K hK => ?_)
    go_simp
    refine Calls.mono (co k2 n2 r2 A2 m2 c2 _).out ?_
    rintro e w4 ⟨rfl, hb4⟩
    have hS4 := bl_trans hS3 hS3.size hb4
    go_simp
    refine hK _ _ ⟨hS4, ?_⟩; clear hK K
    refine wpAnyH_one (i := 4) (by kernel_rfl) rfl (fun K hK => ?_)
    go_simp
    refine hK _ _ ⟨hS4, ?_⟩; clear hK K
    refine wpAnyH_one (i := 5) (by kernel_rfl) rfl (fun K hK => ?_)
    go_simp
    refine hK _ _ ⟨hS4, ?_⟩; clear hK K
    refine wpAnyH_take (i := 6) (v := undef) rfl (by kernel_rfl) (by kernel_rfl) (by kernel_rfl) (fun _ _ _ h => h) (Or.inr ⟨by rfl, rfl⟩) hS4 ?_
    refine wpAnyH_take (i := 7) (v := undef) rfl (by kernel_rfl) (by kernel_rfl) (by kernel_rfl) (fun _ _ _ h => h) (Or.inr ⟨by rfl, rfl⟩) hS4 ?_
    refine wpAnyH_take (i := 8) (v := undef) rfl (by kernel_rfl) (by kernel_rfl) (by kernel_rfl) (fun _ _ _ h => h) (Or.inr ⟨by rfl, rfl⟩) hS4 ?_
    refine wpAnyH_take (i := 9) (v := undef) rfl (by kernel_rfl) (by kernel_rfl) (by kernel_rfl) (fun _ _ _ h => h) (Or.inr ⟨by rfl, rfl⟩) hS4 ?_
    refine wpAnyH_take (i := 10) (v := undef) rfl (by kernel_rfl) (by kernel_rfl) (by kernel_rfl) (fun _ _ _ h => h) (Or.inr ⟨by rfl, rfl⟩) hS4 ?_
    have hS5 := hS4
    refine wpAnyH_one (i := 11) (by kernel_rfl) rfl (fun K hK => ?_)
    go_simp
    refine hK _ _ ⟨hS5, ?_⟩; clear hK K
    refine wpAnyH_one (i := 12) (by kernel_rfl) rfl (fun K hK => ?_)
    go_simp
    refine hK _ _ ⟨hS5, ?_⟩; clear hK K
    refine wpAnyH_done (by kernel_rfl) ?_ _
    go_wp2_with fail
    go_ret
    exact ⟨by simp, hA.trans (hS5.mono hA.size)⟩
end Go.Proofs.Ytnnpgljmfjemnaa
