/-
  Panics: two chains, one behind the other: the walks.
-/
import Derived.Test.YtnnpgljmfjemnaaBlameJ2
namespace Go.Proofs.Ytnnpgljmfjemnaa
open Go.RowKit
set_option linter.unusedSimpArgs false
set_option linter.unusedVariables false

theorem slc_up {w : World} {B B' : Nat} {A : Option Addr} {n c : Nat} {xs : List DBlame} (h : SlC w B A n c xs) (hB : B ≤ B') : SlC w B' A n c xs := by
  obtain ⟨h1, h2, h3, h4, h5⟩ := h
  refine ⟨h1, h2, h3, h4, fun hn => ?_⟩
  obtain ⟨b, off, hA, hb, hx⟩ := h5 hn
  refine ⟨b, off, hA, by omega, fun i x hi => ?_⟩
  obtain ⟨cs, hl, hc, A0, n0, c0, e, k0, k1, hs⟩ := hx i x hi
  exact ⟨cs, hl, hc, A0, n0, c0, e, k0, k1, SlE.up hs hB⟩
def IsJoin (xs : List DBlame) (w : World) (e : Ending) (w' : World) : Prop := ∃ A c, e = .returned (.slice A xs.length c) ∧ SlC w' w'.heap.size A xs.length c xs ∧ Below w.heap.size w w'

theorem join_fin {w w2 w3 : World} {g1 n1 n2 g2 : Nat} {cells1 cells2 : List Value} {xs ys : List DBlame} {v' : Value} (hx : xs.length = n1) (hy : ys.length = n2) (h1 : n1 ≤ 40) (h2 : n2 ≤ 40)
    (hf1 : FilledL w2 g1 cells1 xs n1) (hf2 : FilledL w2 g2 cells2 ys n2) (hg12 : g1 < g2) (hb : Below w.heap.size w w2) (hgw : w.heap.size ≤ g1) (hc1 : cells1.length = n1 * 4)
    (hown : w3.ownsRow w.heap.size 35 4 v' (n1 + n2) (cells1 ++ cells2)) (hgrow : w2.grownBy w3 (Value.slice (some ⟨g1, 0, none⟩) n1 n1).ownBlock) :
    ∃ A c, v' = .slice A (xs ++ ys).length c ∧ SlC w3 w3.heap.size A (xs ++ ys).length c (xs ++ ys) ∧ Below w.heap.size w w3 := by
  obtain ⟨A, c, hv, _⟩ := own_form hown
  subst hv
  have hl : (xs ++ ys).length = n1 + n2 := by rw [List.length_append, hx, hy]
  have hf : FilX w3 (cells1 ++ cells2) (xs ++ ys) := FilX.app (filX_grown hf1 hx hgrow (fun k hk => by simp only [Value.ownBlock, Option.some.injEq] at hk; omega)) (filX_grown hf2 hy hgrow (fun k hk => by simp only [Value.ownBlock, Option.some.injEq] at hk; omega)) (by omega)
  refine ⟨A, c, by rw [hl], ?_, Below.grown hb hgrow hb.size (fun k hk => by simp only [Value.ownBlock, Option.some.injEq] at hk; omega)⟩
  rw [hl]
  exact filX_sl hown hf hl (by unfold reachBytes; omega)

theorem FilledL.keepB {w w' : World} {g n : Nat} {cells : List Value} {xs : List DBlame} (h : FilledL w g cells xs n) (hb : Below w.heap.size w w') : FilledL w' g cells xs n := fun i x hi hx => by
  obtain ⟨A, m, c, a⟩ := h i x hi hx
  exact ⟨A, m, c, a.h0, a.h1, a.h2, a.h3, (a.tr.keep hb).up hb.size, a.far, a.ok0, a.ok1⟩

set_option maxRecDepth 100000 in
set_option maxHeartbeats 1000000 in
theorem join_any (A1 A2 : Option Addr) (n1 n2 c1 c2 : Nat) (xs ys : List DBlame) (w : World) (h1 : SlC w w.heap.size A1 n1 c1 xs) (h2 : SlC w w.heap.size A2 n2 c2 ys) (hn1 : n1 ≤ 40) (hn2 : n2 ≤ 40) :
    Calls Try.prog 24 #[.slice A1 n1 c1, .slice A2 n2 c2] w (IsJoin (xs ++ ys) w) := by
  obtain ⟨i0, hi, hz0, hz1, hz2⟩ := info_parts info_blame
  have d1 : Hid (Calls Try.prog 26 #[.slice A1 n1 c1] w (IsChainL n1 xs w)) := copyL_any A1 n1 c1 xs w h1 (by omega)
  have d2 : ∀ W : World, Below w.heap.size w W → Hid (Calls Try.prog 26 #[.slice A2 n2 c2] W (IsChainL n2 ys W)) := fun W hW => copyL_any A2 n2 c2 ys W (slc_up (SlR.below stable_Blame h2 hW) hW.size) (by omega)
  have hx := h1.1
  have hy := h2.1
  clear h1 h2
  have HX := Lib.hid hx
  have HY := Lib.hid hy
  clear hx hy
  go_enter Try.func24, Try.ntmps24
  go_wp2_with fail
  refine Calls.mono d1.out ?_
  rintro e w1 ⟨g1, cells1, rfl, hown1, hf1, hb1⟩
  go_wp2_with fail
  refine Calls.mono (d2 _ hb1).out ?_
  rintro e w2 ⟨g2, cells2, rfl, hown2, hf2, hb2⟩
  have hown1' := own_keep hown1 hb2
  have hf1' := hf1.keepB hb2
  have hg1 := hown1.lt _ rfl
  have hg2 := hown2.lt _ rfl
  have hbw : Below w.heap.size w w2 := bl_trans hb1 hb1.size hb2
  have hsrc : SrcCells w2 (some ⟨g2, 0, none⟩) n2 4 cells2 := own_src hown2
  have hone := filX_one (filX_of hf2 HY.out) (by rw [HY.out]; exact hown2.1)
  have hsz : w.heap.size ≤ w2.heap.size := hbw.size
  have HF1 := Lib.hid hf1'
  have HF2 := Lib.hid hf2
  have HB := Lib.hid hbw
  have hc1 := hown1.1
  have HO := Lib.hid hone
  have HS := Lib.hid hsrc
  have HOW := Lib.hid hown1'
  clear hf1' hf2 hf1 hown1 hown2 hbw hb1 hb2 hone hsrc hown1' d1 d2
  go_wp2_with (first
    | (at_builtin; go_must (refine wpList_append_src _ rfl _ _ 22 rfl w.heap.size 35 i0 (.agg #[.int .i64 0, .int .i64 0, .bool false, .slice none 0 0]) 4 48 Try.underlying22 hi hz0 hz1 hz2 rfl (by decide) _ _ _ rfl HOW.out (some ⟨g2, 0, none⟩) n2 n2 cells2 rfl HS.out HO.out (by unfold maxLen; omega) (by omega) hsz ?_)
       intro v' w3 hown' hgrow3 hat3
       have X := Lib.hid (join_fin HX.out HY.out hn1 hn2 HF1.out HF2.out (by omega) HB.out (by omega) hc1 hown' hgrow3)
       clear hown' hgrow3 hat3))
  go_ret
  obtain ⟨A, c, rfl, h1, h2⟩ := X.out
  exact ⟨A, c, rfl, h1, h2⟩

theorem rjoin_one {w w1 : World} {n : Nat} {cells : List Value} {v' : Value} (hown : w1.ownsRow w.heap.size 35 4 v' (0 + n) ([] ++ cells)) (hgrow : w.grownBy w1 (Value.slice none 0 0).ownBlock) :
    ∃ A c, v' = .slice A n c ∧ w1.ownsRow w.heap.size 35 4 (.slice A n c) n cells ∧ Below w.heap.size w w1 := by
  rw [Nat.zero_add, List.nil_append] at hown
  obtain ⟨A, c, hv, _⟩ := own_form hown
  subst hv
  exact ⟨A, c, rfl, hown, Below.grown (Below.refl _ _) hgrow (Nat.le_refl _) (fun k hk => by cases hk)⟩
theorem rjoin_fin {w w1 w2 : World} {n1 n2 c1 : Nat} {A1 : Option Addr} {cells1 cells2 : List Value} {xs ys : List DBlame} {v' : Value} (hx : xs.length = n1) (hy : ys.length = n2) (h1 : n1 ≤ 40) (h2 : n2 ≤ 40)
    (hf1 : FilX w cells1 xs) (hf2 : FilX w cells2 ys) (hb : Below w.heap.size w w1) (hc1 : cells1.length = n1 * 4) (hown1 : w1.ownsRow w.heap.size 35 4 (.slice A1 n1 c1) n1 cells1)
    (hown : w2.ownsRow w.heap.size 35 4 v' (n1 + n2) (cells1 ++ cells2)) (hgrow : w1.grownBy w2 (Value.slice A1 n1 c1).ownBlock) :
    ∃ A c, v' = .slice A (xs ++ ys).length c ∧ SlC w2 w2.heap.size A (xs ++ ys).length c (xs ++ ys) ∧ Below w.heap.size w w2 := by
  obtain ⟨A, c, hv, _⟩ := own_form hown
  subst hv
  have hl : (xs ++ ys).length = n1 + n2 := by rw [List.length_append, hx, hy]
  have hb2 : Below w.heap.size w w2 := Below.grown hb hgrow hb.size (fun k hk => (hown1.lt _ hk).1)
  refine ⟨A, c, by rw [hl], ?_, hb2⟩
  rw [hl]
  exact filX_sl hown ((FilX.app hf1 hf2 (by omega)).keep hb2) hl (by unfold reachBytes; omega)

set_option maxRecDepth 100000 in
set_option maxHeartbeats 1000000 in
theorem refJoin_any (A1 A2 : Option Addr) (n1 n2 c1 c2 : Nat) (xs ys : List DBlame) (w : World) (h1 : SlC w w.heap.size A1 n1 c1 xs) (h2 : SlC w w.heap.size A2 n2 c2 ys) (hn1 : n1 ≤ 40) (hn2 : n2 ≤ 40) :
    Calls Try.prog 20 #[.slice A1 n1 c1, .slice A2 n2 c2] w (IsJoin (xs ++ ys) w) := by
  obtain ⟨i0, hi, hz0, hz1, hz2⟩ := info_parts info_blame
  obtain ⟨cells1, s1, f1⟩ := slc_cells h1
  obtain ⟨cells2, s2, f2⟩ := slc_cells h2
  have HX := Lib.hid h1.1
  have HY := Lib.hid h2.1
  have HO1 := Lib.hid (filX_one f1 (by rw [h1.1]; exact s1.1))
  have HO2 := Lib.hid (filX_one f2 (by rw [h2.1]; exact s2.1))
  have hc1 := s1.1
  have hc2 : Hid (∀ ad j u, A2 = some ad → w.cell? (ad.add j) = some u → ad.block < w.heap.size) := fun ad j u _ hu => by
    have := World.block_lt_of_cell? _ _ hu
    have e : (ad.add j).block = ad.block := by unfold Addr.add; split <;> rfl
    rwa [e] at this
  have F1 := Lib.hid f1
  have F2 := Lib.hid f2
  have S1 := Lib.hid s1
  have S2 := Lib.hid s2
  clear h1 h2 f1 f2 s1 s2
  go_enter Try.func20, Try.ntmps20
  go_wp2_with (first
    | (at_builtin; (refine wpList_append_src _ rfl _ _ 22 rfl w.heap.size 35 i0 (.agg #[.int .i64 0, .int .i64 0, .bool false, .slice none 0 0]) 4 48 Try.underlying22 hi hz0 hz1 hz2 rfl (by decide) _ _ _ rfl (World.ownsRow_nil w w.heap.size _ _) A1 n1 c1 cells1 rfl S1.out HO1.out (by unfold maxLen; omega) (by omega) (Nat.le_refl _) ?_)
       intro v' w1 hown' hgrow3 hat3
       obtain ⟨A3, c3, rfl, o3, b3⟩ := rjoin_one hown' hgrow3
       have S3 : Hid (SrcCells w1 A2 n2 4 cells2) := S2.out.keep fun ad j u had hu => (b3.cell (by have e : (ad.add j).block = ad.block := (by unfold Addr.add; split <;> rfl); rw [e]; exact hc2.out ad j u had hu)).trans hu
       have hsz : w.heap.size ≤ w1.heap.size := b3.size
       have B3 := Lib.hid b3
       clear hown' hgrow3 hat3 b3)
    | (at_builtin; (refine wpList_append_src _ rfl _ _ 22 rfl w.heap.size 35 i0 (.agg #[.int .i64 0, .int .i64 0, .bool false, .slice none 0 0]) 4 48 Try.underlying22 hi hz0 hz1 hz2 rfl (by decide) _ _ _ rfl o3 A2 n2 c2 cells2 rfl S3.out HO2.out (by unfold maxLen; omega) (by omega) hsz ?_)
       intro v'' w2 hown'' hgrow5 hat5
       have X := Lib.hid (rjoin_fin HX.out HY.out hn1 hn2 F1.out F2.out B3.out hc1 o3 hown'' hgrow5)
       clear hown'' hgrow5 hat5 o3))
  go_ret
  obtain ⟨A, c, rfl, h1, h2⟩ := X.out
  exact ⟨A, c, rfl, h1, h2⟩
end Go.Proofs.Ytnnpgljmfjemnaa
