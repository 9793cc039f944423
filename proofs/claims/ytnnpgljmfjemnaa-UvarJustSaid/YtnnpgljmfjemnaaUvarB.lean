/-
  Numbers as few bytes: the walk of UvarBack.
-/
import Derived.Test.YtnnpgljmfjemnaaUvar6
import Derived.Test.YtnnpgljmfjemnaaApp
namespace Go.Proofs.Ytnnpgljmfjemnaa
open Go.RowKit
set_option linter.unusedSimpArgs false
set_option linter.unusedVariables false

theorem own_go {w a w' : World} {base m k : Nat} {v v' : Value} {xs : List Value} {l : List Nat} (hown' : w'.ownsRow base 5 1 v' k (rowB l)) (hk : 0 < k) (hown : a.ownsRow base 5 1 v m xs) (hg : a.grownBy w' v.ownBlock) (hb : Below base w a) (hs : base ≤ a.heap.size) :
    Hid (∃ g cap, v' = .slice (some ⟨g, 0, none⟩) k cap ∧ w'.ownsRow base 5 1 (.slice (some ⟨g, 0, none⟩) k cap) k (rowB l) ∧ Below base w w') := by
  have hb3 : Below base w w' := Below.grown hb hg hs (fun j hj => (hown.lt _ hj).1)
  have hown'' := hown'
  rcases hown'.2 with ⟨_, h0⟩ | ⟨g', cap', cur, hv, _⟩
  · omega
  · exact ⟨g', cap', hv, by rw [← hv]; exact hown'', hb3⟩
theorem flat_row (l : List Nat) : (l.flatMap fun b : Nat => [Value.int .u8 (b : Int)]) = rowB l := by
  unfold rowB
  induction l with
  | nil => rfl
  | cons a l ih => rw [List.flatMap_cons, ih]; rfl
theorem slb_src {w : World} {B : Nat} {A : Option Addr} {n c : Nat} {l : List Nat} (h : SlB w B A n c l) : SrcCells w A n 1 (rowB l) := by
  have := SlR.src (f := fun b : Nat => [Value.int .u8 (b : Int)]) (fun _ => rfl) h.1
  rw [flat_row] at this
  exact this
theorem src_below {w w' : World} {B : Nat} {A : Option Addr} {n c : Nat} {l : List Nat} (h : SlB w B A n c l) (hb : Below B w w') : SrcCells w' A n 1 (rowB l) :=
  slb_src ⟨h.1.keep (stable_rc _) (fun p hp => hb.cell hp), h.2⟩
theorem row_one (l : List Nat) : ∀ u ∈ rowB l, u.oneCell' = true := by
  intro u hu
  obtain ⟨b, _, rfl⟩ := List.mem_map.1 hu
  rfl
theorem own_empty (w : World) (base : Nat) (hb : base ≤ w.heap.size) : (w.alloc (.cells #[] 5)).ownsRow base 5 1 (.slice (some ⟨w.heap.size, 0, none⟩) 0 0) 0 (rowB []) :=
  World.ownsRow_lit w #[] 0 hb (by unfold maxLen; omega) rfl

theorem getIV_back (n : Int) (h : -9223372036854775808 ≤ n ∧ n ≤ 9223372036854775807) (r : List Nat) : getIV (putM (foldM n) ++ r) = .tuple #[.int .i64 n, .int .i64 ((putM (foldM n)).length : Int), .int .i64 0] := by
  unfold getIV
  rw [get_back _ _ (fold_lt h)]
  simp [unfold_fold]

set_option maxRecDepth 100000 in
set_option maxHeartbeats 1000000 in
theorem uvarBack_law (n : Int) (A : Option Addr) (m c : Nat) (xs : List Int) (w : World) (h0 : (Lit.int .i64 n).wf = true) (hx : SlR 1 1 (RInt .u8) w w.heap.size A m c xs) :
    Calls Try.prog 12 #[.int .i64 n, .slice A m c] w fun e w' => e = .returned (.bool true) ∧ Below w.heap.size w w' := by
  have h : -9223372036854775808 ≤ n ∧ n ≤ 9223372036854775807 := by simpa [Lit.wf, IntKind.min, IntKind.max, IntKind.signed, IntKind.bits] using h0
  clear h0
  obtain ⟨i0, hi, hz0, hz1, hz2⟩ := info_parts info_byte
  have hml : m ≤ reachBytes := by have := hx.2.2.2.1; omega
  obtain ⟨r, hs⟩ := slb_of hx
  clear hx
  have c1 : ∀ w : World, Hid (Calls Try.prog 61 #[.slice none 0 0, .int .i64 n] w (IsBytes (putM (foldM n)) w)) := fun w => uvar_PutInt_nil n h w
  have c2 : ∀ (W : World) (B : Nat) (A' : Option Addr) (k c' : Nat), SlB W B A' k c' (putM (foldM n) ++ r) → Hid (Calls Try.prog 58 #[.slice A' k c'] W fun e w' => e = .returned (.tuple #[.int .i64 n, .int .i64 ((putM (foldM n)).length : Int), .int .i64 0]) ∧ W = w') := fun W B A' k c' hb => by
    rw [← getIV_back n h r]
    exact uvar_GetInt_any B A' k c' _ W hb
  have c3 : ∀ w : World, Hid (Calls Try.prog 63 #[.int .i64 n] w fun e w' => e = .returned (.int .u64 ((foldM n : Nat) : Int)) ∧ w = w') := fun w => uvar_Fold_any n h w
  have c4 : ∀ w : World, Hid (Calls Try.prog 64 #[.int .i64 n] w fun e w' => e = .returned (.int .u64 ((foldM n : Nat) : Int)) ∧ w = w') := fun w => ref_Fold_any n h w
  have c5 : ∀ w : World, Hid (Calls Try.prog 62 #[.int .u64 ((foldM n : Nat) : Int)] w fun e w' => e = .returned (.int .i64 n) ∧ w = w') := fun w => by
    have := uvar_Unfold_any (foldM n) (fold_lt h) w
    rw [unfold_fold] at this
    exact this
  have hbyte : ∀ b ∈ putM (foldM n), b < 256 := putF_byte 9 _ (by rw [lim9]; exact fold_lt h)
  have hpl := putF_len 9 (foldM n)
  rw [show putF 9 (foldM n) = putM (foldM n) from rfl] at hpl
  clear h
  obtain ⟨u, hu⟩ : ∃ u, foldM n = u := ⟨_, rfl⟩
  rw [hu] at c1 c2 c3 c4 c5 hbyte hpl
  clear hu
  obtain ⟨l, hl⟩ : ∃ l, putM u = l := ⟨_, rfl⟩
  rw [hl] at c1 c2 hbyte hpl
  clear hl
  have hbb : ∀ b ∈ l ++ r, b < 256 := fun b hb => (List.mem_append.1 hb).elim (hbyte b) (hs.2 b)
  have t1 : (n == n) = true := by simp
  have t2 : ((l.length : Int) == (l.length : Int)) = true := by simp
  have t3 : ((u : Int) == (u : Int)) = true := by simp
  have hrl : r.length = m := hs.1.1
  go_enter Try.func12, Try.ntmps12
  go_wp2_with fail
  refine Calls.mono (c1 _).out ?_
  rintro e w1 ⟨g, cap, rfl, hown, hb1⟩
  have hsz1 : w.heap.size ≤ w1.heap.size := hb1.size
  have hsrc : (w1.alloc (.cells #[] 5)).heap.size = w1.heap.size + 1 := by simp
  have hs1 : SrcCells (w1.alloc (.cells #[] 5)) (some ⟨g, 0, none⟩) l.length 1 (rowB l) := own_src (own_keep hown ((Below.refl _ _).alloc (Nat.le_refl _) _))
  have hown1 := own_empty w1 w.heap.size hsz1
  have hbw1 : Below w.heap.size w (w1.alloc (.cells #[] 5)) := hb1.alloc hsz1 _
  have hs2 : w.heap.size ≤ (w1.alloc (.cells #[] 5)).heap.size := by omega
  clear hown hb1
  go_wp2_with (first
    | (at_builtin; (refine wpList_append_src _ rfl _ _ 61 rfl w.heap.size 5 i0 (.int .u8 0) 1 1 Try.underlying61 hi hz0 hz1 hz2 rfl (by decide) _ _ _ rfl hown1 (some ⟨g, 0, none⟩) l.length cap (rowB l) rfl hs1 (row_one l) (by unfold maxLen; omega) (by omega) hs2 ?_); intro v' w3 hown' hgrow3 hnil3
       have hown2 : w3.ownsRow w.heap.size 5 1 v' l.length (rowB l) := by simpa [rowB] using hown'
       obtain ⟨g3, cap3, rfl, o3, b3⟩ := (own_go hown2 (by omega) hown1 hgrow3 hbw1 hs2).out
       have hs4 : w.heap.size ≤ w3.heap.size := b3.size
       have hs5 : SrcCells w3 A m 1 (rowB r) := src_below hs b3
       clear hown' hown2 hgrow3 hnil3)
    | (at_builtin; go_must (refine wpList_append_src _ rfl _ _ 61 rfl w.heap.size 5 i0 (.int .u8 0) 1 1 Try.underlying61 hi hz0 hz1 hz2 rfl (by decide) _ _ _ rfl o3 A m c (rowB r) rfl hs5 (row_one r) (by unfold reachBytes at hml; unfold maxLen; omega) (by unfold reachBytes at hml; omega) hs4 ?_); intro v'' w5 hown'' hgrow5 hnil5
       have hown5 : w5.ownsRow w.heap.size 5 1 v'' (l.length + m) (rowB (l ++ r)) := by rw [rowB_app]; exact hown''
       obtain ⟨g5, cap5, rfl, o5, b5⟩ := (own_go hown5 (by omega) o3 hgrow5 b3 hs4).out
       clear hown'' hown5 hgrow5 hnil5 o3 hs5))
  have hlr : (l ++ r).length = l.length + m := by rw [List.length_append, hrl]
  have hsl : SlB w5 w5.heap.size (some ⟨g5, 0, none⟩) (l.length + m) cap5 (l ++ r) := by
    have := slb_own (l := l ++ r) (cap := cap5) (g := g5) (w := w5) (base := w.heap.size) (by rw [hlr]; exact o5) hbb
    rw [hlr] at this
    exact this
  refine Calls.mono (c2 _ _ _ _ _ hsl).out ?_
  rintro e w6 ⟨rfl, rfl⟩
  clear hsl o5 c1 c2 hs hml hbb hbyte hlr hrl
  go_wp2_with fail
  refine Calls.mono (c3 _).out ?_
  rintro e w6 ⟨rfl, rfl⟩
  go_wp2_with fail
  refine Calls.mono (c5 _).out ?_
  rintro e w6 ⟨rfl, rfl⟩
  go_wp2_with fail
  refine Calls.mono (c3 _).out ?_
  rintro e w6 ⟨rfl, rfl⟩
  go_wp2_with fail
  refine Calls.mono (c4 _).out ?_
  rintro e w6 ⟨rfl, rfl⟩
  go_wp2_with fail
  refine (uvar_lives _).mono ?_
  rintro e w7 ⟨rfl, hb⟩
  go_wp2_with fail
  go_ret
  exact ⟨rfl, bl_trans b5 b5.size hb⟩
end Go.Proofs.Ytnnpgljmfjemnaa
