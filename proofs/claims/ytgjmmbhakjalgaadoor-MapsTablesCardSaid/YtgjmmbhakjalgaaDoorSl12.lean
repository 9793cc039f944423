/-
  Sets of slots: each slot as much greater, by the document.
-/
import Derived.Test.YtgjmmbhakjalgaaDoorSl11
namespace Go.Proofs.YtgjmmbhakjalgaaDoor
open Go.RowKit
set_option linter.unusedSimpArgs false
set_option linter.unusedVariables false
theorem ints_of_own {w : World} {base : Nat} {A : Option Addr} {n c : Nat} {xs : List Int} (h : w.ownsRow base 3 1 (.slice A n c) n (xs.flatMap iC)) (hn : xs.length = n) (hb : n * 8 ≤ reachBytes) (hwf : ∀ x ∈ xs, (Lit.int .i64 x).wf = true) : SlR 1 8 (RInt .i64) w w.heap.size A n c xs := by
  have hr : SlR 1 8 (RC iC) w w.heap.size A n c xs := SlR.of_ownN (f := iC) (fun _ => rfl) (by decide) h hb
  obtain ⟨h1, h2, h3, h4, h5⟩ := hr
  refine ⟨h1, h2, h3, h4, fun hn => ?_⟩
  obtain ⟨b, off, hA, hb, hx⟩ := h5 hn
  refine ⟨b, off, hA, hb, fun i x hi => ?_⟩
  obtain ⟨cs, hl, hc, hr⟩ := hx i x hi
  exact ⟨cs, hl, hc, hr, hwf x (List.mem_of_getElem? hi)⟩
theorem wf_small {x : Int} (h0 : -1000 ≤ x) (h1 : x ≤ 1000) : (Lit.int .i64 x).wf = true := by
  simp [Lit.wf, IntKind.min, IntKind.max, IntKind.signed, IntKind.bits]
  omega
theorem foldW_out : ∀ (xs : List Int) (s : W4), (∀ x ∈ xs, ¬ (0 ≤ x ∧ x < 256)) → foldW s xs = s
  | [], s, _ => rfl
  | x :: xs, s, h => by
    show foldW (withM s x) xs = s
    rw [withM_out (h x (by simp))]
    exact foldW_out xs s fun y hy => h y (by simp [hy])
theorem movedM_eq (s : W4) (b : Int) : movedM s b = if -255 ≤ b ∧ b ≤ 255 then foldW zW ((listM s).map fun x => x + b) else zW := by
  unfold movedM
  by_cases h : b < -256 ∨ 256 < b
  · rw [if_pos h, if_neg (by omega)]
  · rw [if_neg h]
    by_cases h2 : -255 ≤ b ∧ b ≤ 255
    · rw [if_pos h2]
    · rw [if_neg h2]
      apply foldW_out
      intro x hx
      obtain ⟨y, hy, rfl⟩ := List.mem_map.1 hx
      have := listM_bound s hy
      omega
set_option maxRecDepth 100000 in
set_option maxHeartbeats 2000000 in
theorem rmove_any (s : W4) (hok : s.Ok) (b : Int) (w : World) : Calls Tryd.prog 6 #[aggW s, .int .i64 b] w (IsW (movedM s b) w) := by
  obtain ⟨i0, hi, hz0, hz1, hz2⟩ := info_parts info_int
  rw [movedM_eq]
  have HBD : Hid (∀ x ∈ listM s, 0 ≤ x ∧ x < 256) := Lib.hid fun x hx => listM_bound s hx
  have hlen : (listM s).length ≤ 256 := listK_len s 256
  have cl := Lib.hid (fun w => rlist_any s hok w)
  obtain ⟨xs, hxs⟩ : ∃ xs, listM s = xs := ⟨_, rfl⟩
  rw [hxs] at HBD hlen ⊢
  have cl : Hid (∀ w, Calls Tryd.prog 15 #[aggW s] w (IsIRow xs w)) := Lib.hid (by rw [← hxs]; exact cl.out)
  clear hxs
  obtain ⟨T, hT⟩ : ∃ T, (if -255 ≤ b ∧ b ≤ 255 then foldW zW (xs.map fun x => x + b) else zW) = T := ⟨_, rfl⟩
  have HT := Lib.hid hT
  rw [hT]
  clear hT
  obtain ⟨n, hn⟩ : ∃ n, xs.length = n := ⟨_, rfl⟩
  have HN := Lib.hid hn
  rw [hn] at hlen
  go_enter Tryd.func6, Tryd.ntmps6
  go_wp2_with fail
  refine (cl.out _).mono ?_
  rintro e w1 ⟨A, c, rfl, hown, hb1⟩
  rw [hn] at hown ⊢
  have HL : Hid (SlR 1 8 (RInt .i64) w1 w1.heap.size A n c xs) := Lib.hid (ints_of_own hown hn (by unfold reachBytes; omega) (fun x hx => by have := HBD.out x hx; exact wf_small (by omega) (by omega)))
  have N := fun i v h => new_cells (w := w.alloc (.cells #[.int .u64 (s.a0 : Int), .int .u64 (s.a1 : Int), .int .u64 (s.a2 : Int), .int .u64 (s.a3 : Int)] 27)) (cs := #[Value.int .u64 0, .int .u64 0, .int .u64 0, .int .u64 0]) (t := 27) hb1 i v h
  rw [World.size_alloc] at N
  have HR : Hid ((∀ q, q < 4 → w1.cell? ⟨w.heap.size + 1, q, none⟩ = some (.int .u64 0) ∧ w1.frozen? ⟨w.heap.size + 1, q, none⟩ = false) ∧ Below w.heap.size w w1 ∧ w.heap.size + 1 < w1.heap.size) := Lib.hid ⟨fun q hq => by
    rcases (show q = 0 ∨ q = 1 ∨ q = 2 ∨ q = 3 by omega) with rfl | rfl | rfl | rfl
    · exact N 0 _ rfl
    · exact N 1 _ rfl
    · exact N 2 _ rfl
    · exact N 3 _ rfl, bl_trans (((Below.refl _ _).alloc (Nat.le_refl _) _).alloc (by simp) _) (by simp; omega) hb1, by have := hb1.size; simp at this; omega⟩
  clear hown hb1 N cl
  by_cases hbd : -255 ≤ b ∧ b ≤ 255
  · have HE : Hid (foldW zW (xs.map fun x => x + b) = T) := Lib.hid (by rw [← HT.out, if_pos hbd])
    obtain ⟨hb0, hb255⟩ := hbd
    go_wp2_with fail
    go_loopw [5, 7] (fun o i wr => ∃ (k : Nat) (A1 : Option Addr) (cc : Nat), o = .slice A1 k cc ∧ i = .int .i64 k ∧ k ≤ n ∧ Hid (wr.ownsRow w1.heap.size 3 1 (.slice A1 k cc) k (((xs.take k).map fun x => x + b).flatMap iC)) ∧ Hid (Below w1.heap.size w1 wr)) (fun _ i _ => n - (intOf i).toNat)
    case atStart => exact ⟨0, none, 0, rfl, rfl, Nat.zero_le _, World.ownsRow_nil _ _ _ _, Below.refl _ _⟩
    case round =>
      obtain ⟨k, A1, cc, rfl, rfl, hk, HO, HW⟩ := hrel
      by_cases hlt : k < n
      · obtain ⟨bk, off, t, rfl, hb, hx, q⟩ := int_at' HL.out hlt
        have q0 : wr.cell? ⟨bk, off + k, none⟩ = some (.int .i64 t) := (HW.out.cell hb).trans q
        have ht := HBD.out t (List.mem_of_getElem? hx)
        have HF : Hid ((((xs.take k).map fun x => x + b).flatMap iC) ++ [.int .i64 (t + b)] = (((xs.take (k + 1)).map fun x => x + b).flatMap iC)) := Lib.hid (by
          rw [← take_snoc' xs k t hx, List.map_append, List.flatMap_append]
          rfl)
        have hsz : w1.heap.size ≤ (wr.alloc (.cells #[.int .i64 (t + b)] 3)).heap.size := by have := HW.out.size; simp; omega
        have hsrc := Lib.hid (src_i wr (t + b))
        have hone := Lib.hid (one_i (t + b))
        obtain ⟨u, hu⟩ : ∃ u : Int, t + b = u := ⟨_, rfl⟩
        have huw : wrap64 (t + b) = u := by rw [← hu]; unfold wrap64; omega
        rw [hu] at HF hsz hsrc hone
        obtain ⟨ht0, ht1⟩ := ht
        have hadd : t + b = u := hu
        clear q hx hb
        go_wp2_with (first
          | (at_builtin; go_must (refine wpList_append_src _ rfl _ _ 36 rfl w1.heap.size 3 i0 (.int .i64 0) 1 8 Tryd.underlying36 hi hz0 hz1 hz2 rfl (by decide) _ _ _ rfl (HO.out.alloc _) (some ⟨wr.heap.size, 0, none⟩) 1 1 [.int .i64 u] rfl hsrc.out hone.out (by unfold maxLen; omega) (by omega) hsz ?_)
             intro v' w3 hown' hgrow3 hat3
             rw [HF.out] at hown'
             obtain ⟨A', c', rfl, o3, b3⟩ := app1i HW.out hown' hgrow3 (fun j hj => (HO.out.lt j hj).1)
             have O3 := Lib.hid o3
             have B3 := Lib.hid b3
             clear hown' hgrow3 hat3 o3 b3))
        go_roundw
        case rel => exact ⟨k + 1, A', c', rfl, by go_num, by omega, O3, B3⟩
        case measure => simp [intOf]; omega
      · have hkn : k = n := by omega
        subst hkn
        have hsl : SlR 1 8 (RInt .i64) wr wr.heap.size A1 k cc (xs.map fun x => x + b) := ints_of_own (by
          have := HO.out
          rw [List.take_of_length_le (by rw [HN.out]; exact Nat.le_refl _)] at this
          exact this) (by rw [List.length_map]; exact HN.out) (by unfold reachBytes; omega) (fun x hx => by
            obtain ⟨y, hy, rfl⟩ := List.mem_map.1 hx
            have := HBD.out y hy
            exact wf_small (by omega) (by omega))
        have co := Lib.hid (rof_any A1 k cc wr.heap.size _ wr hsl (Nat.le_refl _) (by omega))
        rw [HE.out] at co
        clear hsl HO
        go_wp2_with fail
        refine co.out.mono ?_
        rintro e w2 ⟨rfl, hb2⟩
        have HB2 : Hid (Below w.heap.size w w2) := Lib.hid (bl_trans (HR.out.2.1.trans (HW.out.mono HR.out.2.1.size)) (Nat.le_trans HR.out.2.1.size HW.out.size) hb2)
        have hb12 : Below w1.heap.size w1 w2 := bl_trans HW.out HW.out.size hb2
        have g := fun q hq => (hb12.cell (p := ⟨w.heap.size + 1, q, none⟩) HR.out.2.2).trans (HR.out.1 q hq).1
        have gf := fun q hq => (hb12.frozen (p := ⟨w.heap.size + 1, q, none⟩) HR.out.2.2).trans (HR.out.1 q hq).2
        have r0 := g 0 (by omega)
        have r1 := g 1 (by omega)
        have r2 := g 2 (by omega)
        have r3 := g 3 (by omega)
        have f0 := gf 0 (by omega)
        have f1 := gf 1 (by omega)
        have f2 := gf 2 (by omega)
        have f3 := gf 3 (by omega)
        clear g gf hb12 hb2 co
        go_wp2_with fail
        refine bodyPost_ret (v := aggW T) (by simp [results, Tryd.results6, go_sem, r0, r1, r2, r3]) rfl ⟨rfl, below3 HB2.out (by omega) _ _ _ _⟩
  · have HE : Hid (zW = T) := Lib.hid (by rw [← HT.out, if_neg hbd])
    have co := Lib.hid (rof_any none 0 0 0 [] w1 ⟨rfl, Nat.le_refl _, by decide, by decide, fun h => absurd h (by omega)⟩ (Nat.zero_le _) (by omega))
    have e0 : foldW zW [] = zW := rfl
    rw [e0] at co
    by_cases hlow : -255 ≤ b
    · have hup : ¬ b ≤ 255 := by omega
      go_wp2_with fail
      go_loopw [5, 7] (fun o i wr => ∃ k : Nat, o = .slice none 0 0 ∧ i = .int .i64 k ∧ k ≤ n ∧ Hid (w1 = wr)) (fun _ i _ => n - (intOf i).toNat)
      case atStart => exact ⟨0, rfl, rfl, Nat.zero_le _, Lib.hid rfl⟩
      case round =>
        obtain ⟨k, rfl, rfl, hk, HE1⟩ := hrel
        obtain rfl := HE1.out
        by_cases hlt : k < n
        · go_wp2_with fail
          go_roundw
          case rel => exact ⟨k + 1, rfl, by go_num, by omega, trivial⟩
          case measure => simp [intOf]; omega
        · go_wp2_with fail
          refine co.out.mono ?_
          rintro e w2 ⟨rfl, hb2⟩
          have HB2 : Hid (Below w.heap.size w w2) := Lib.hid (bl_trans HR.out.2.1 HR.out.2.1.size hb2)
          have g := fun q hq => (hb2.cell (p := ⟨w.heap.size + 1, q, none⟩) HR.out.2.2).trans (HR.out.1 q hq).1
          have gf := fun q hq => (hb2.frozen (p := ⟨w.heap.size + 1, q, none⟩) HR.out.2.2).trans (HR.out.1 q hq).2
          have r0 := g 0 (by omega)
          have r1 := g 1 (by omega)
          have r2 := g 2 (by omega)
          have r3 := g 3 (by omega)
          have f0 := gf 0 (by omega)
          have f1 := gf 1 (by omega)
          have f2 := gf 2 (by omega)
          have f3 := gf 3 (by omega)
          clear g gf hb2 co
          go_wp2_with fail
          refine bodyPost_ret (v := aggW zW) (by simp [results, Tryd.results6, go_sem, r0, r1, r2, r3, zW]) rfl ⟨by rw [← HE.out], below3 HB2.out (by omega) _ _ _ _⟩
    · clear hbd
      go_wp2_with fail
      go_loopw [5, 7] (fun o i wr => ∃ k : Nat, o = .slice none 0 0 ∧ i = .int .i64 k ∧ k ≤ n ∧ Hid (w1 = wr)) (fun _ i _ => n - (intOf i).toNat)
      case atStart => exact ⟨0, rfl, rfl, Nat.zero_le _, Lib.hid rfl⟩
      case round =>
        obtain ⟨k, rfl, rfl, hk, HE1⟩ := hrel
        obtain rfl := HE1.out
        by_cases hlt : k < n
        · go_wp2_with fail
          go_roundw
          case rel => exact ⟨k + 1, rfl, by go_num, by omega, trivial⟩
          case measure => simp [intOf]; omega
        · go_wp2_with fail
          refine co.out.mono ?_
          rintro e w2 ⟨rfl, hb2⟩
          have HB2 : Hid (Below w.heap.size w w2) := Lib.hid (bl_trans HR.out.2.1 HR.out.2.1.size hb2)
          have g := fun q hq => (hb2.cell (p := ⟨w.heap.size + 1, q, none⟩) HR.out.2.2).trans (HR.out.1 q hq).1
          have gf := fun q hq => (hb2.frozen (p := ⟨w.heap.size + 1, q, none⟩) HR.out.2.2).trans (HR.out.1 q hq).2
          have r0 := g 0 (by omega)
          have r1 := g 1 (by omega)
          have r2 := g 2 (by omega)
          have r3 := g 3 (by omega)
          have f0 := gf 0 (by omega)
          have f1 := gf 1 (by omega)
          have f2 := gf 2 (by omega)
          have f3 := gf 3 (by omega)
          clear g gf hb2 co
          go_wp2_with fail
          refine bodyPost_ret (v := aggW zW) (by simp [results, Tryd.results6, go_sem, r0, r1, r2, r3, zW]) rfl ⟨by rw [← HE.out], below3 HB2.out (by omega) _ _ _ _⟩
end Go.Proofs.YtgjmmbhakjalgaaDoor
