/-
  Sets of slots: the iterator.
-/
import Derived.Test.YtgjmmbhakjalgaaDoorSl9
import Derived.RangeFuncNested
import Derived.RangeFuncBound
import Derived.RangeFuncCalls
import Derived.RangeFuncLeaves
import Derived.Shelf.Spec.TrailingZeros
import Derived.OwnWalkIn
import Derived.TacticsInMore
import Derived.LoopNIn
import Derived.LoopIn
namespace Go.Proofs.YtgjmmbhakjalgaaDoor
open Go.RowKit Go.Shelf
set_option linter.unusedSimpArgs false
set_option linter.unusedVariables false
attribute [local go_sem] Oper.semAt_some
/-- The table that math/bits reads. -/
def Tab (w : World) : Prop := ∀ j, j < 64 → w.cell? ⟨0, j, none⟩ = some (.int .u8 (Lib.deBruijn64tab.getD j 0))
theorem Tab.below {w w' : World} {B : Nat} (h : Tab w) (hb : Below B w w') (hB : 0 < B) : Tab w' := fun j hj => (hb.cell (p := ⟨0, j, none⟩) hB).trans (h j hj)
set_option maxHeartbeats 1000000 in
theorem tz_core (x k idx : Nat) (w : World) (hx0 : ((x : Int) == 0) = false)
    (key : IntKind.u64.wrap (bits BinOp.and IntKind.u64 (x : Int) (IntKind.u64.wrap (-(x : Int))) * 285870213051353865) / 288230376151711744 = (idx : Int))
    (hi : idx < 64) (hk : k < 64) (hcell : w.cell? ⟨0, idx, none⟩ = some (.int .u8 k)) :
    Calls Tryd.prog 31 #[.int .u64 x] w fun e w' => e = .returned (.int .i64 k) ∧ w' = w := by
  go_enter Tryd.func31, Tryd.ntmps31
  go_wp2_with (simp only [key])
  go_ret
  exact ⟨rfl, rfl⟩
theorem tz_any (x : Nat) (hx : x < 18446744073709551616) (hx0 : x ≠ 0) (w : World) (hT : Tab w) :
    Calls Tryd.prog 31 #[.int .u64 x] w fun e w' => e = .returned (.int .i64 (Lib.ctz 64 x)) ∧ w' = w := by
  obtain ⟨hlow, hk⟩ := Lib.lowest_bit 64 x hx0 hx
  obtain ⟨hi, htab⟩ := Lib.deBruijn64_at _ hk
  have hcell := hT _ hi
  rw [htab] at hcell
  exact tz_core x _ _ w (by simp; omega) (tz64_key x _ hx hx0 hlow) hi hk hcell
def preL (s : W4) (k : Nat) : List Int := (List.range k).flatMap fun q => bitsL (s.get q) (64 * (q : Int))
theorem preL_succ (s : W4) (k : Nat) : preL s (k + 1) = preL s k ++ bitsL (s.get k) (64 * (k : Int)) := by
  unfold preL
  rw [List.range_succ, List.flatMap_append]
  simp
theorem preL_all (s : W4) : preL s 4 = listM s := by
  rw [listM_eq, preL_succ, preL_succ, preL_succ, preL_succ]
  unfold preL
  simp [W4.get]
theorem preL_pre (s : W4) (k : Nat) (hk : k ≤ 4) : ∃ t, preL s k ++ t = listM s := by
  rw [← preL_all]
  rcases (show k = 0 ∨ k = 1 ∨ k = 2 ∨ k = 3 ∨ k = 4 by omega) with rfl | rfl | rfl | rfl | rfl
  · exact ⟨preL s 4, by unfold preL; simp⟩
  · exact ⟨_, by rw [preL_succ s 3, preL_succ s 2, preL_succ s 1, List.append_assoc, List.append_assoc]⟩
  · exact ⟨_, by rw [preL_succ s 3, preL_succ s 2, List.append_assoc]⟩
  · exact ⟨_, by rw [preL_succ s 3]⟩
  · exact ⟨[], by simp⟩
theorem idx_set (s : W4) (k : Nat) (hk : k < 4) (w : World) : (Instr.index 27 (.agg #[.int .u64 (s.get 0 : Int), .int .u64 (s.get 1 : Int), .int .u64 (s.get 2 : Int), .int .u64 (s.get 3 : Int)]) (.int .i64 (k : Int))).run Tryd.prog w = .ok (.int .u64 (s.get k : Int)) w := by
  rcases (show k = 0 ∨ k = 1 ∨ k = 2 ∨ k = 3 by omega) with rfl | rfl | rfl | rfl
  all_goals kernel_rfl
set_option maxRecDepth 100000 in
set_option maxHeartbeats 2000000 in
theorem all1_in (n : Nat) (hn : 1 ≤ n) (l Bs n₀ : Nat) (s : W4) (hok : s.Ok) (h0n : 0 < n₀) (J Jx : List Int → World → Prop)
    (hY : ∀ pre x W, J pre W → pre.length < (listM s).length → YieldAt Fence.wide (n - 1) Tryd.prog l #[.int .i64 x] W fun e W' =>
      (e = .returned (.bool true) ∧ J (pre ++ [x]) W' ∧ Below n₀ W W') ∨ (e = .returned (.bool false) ∧ Jx (pre ++ [x]) W'))
    (W : World) (hT : Tab W) (hBs : ∀ q, q < 4 → W.cell? ⟨Bs, q, none⟩ = some (.int .u64 (s.get q : Int))) (h0 : J [] W) :
    CallsIn Fence.wide n Tryd.prog 30 #[.func (.yield l) #[] #[], .pointer (some ⟨Bs, 0, none⟩)] W fun e W' => (∃ v, e = .returned v) ∧
      ((∃ ys, ys = listM s ∧ J ys W') ∨ (∃ pre, pre <+: listM s ∧ Jx pre W')) := by
  refine callsIn_of_wp Tryd.func30 rfl trivial ?_ rfl
  simp only [Tryd.ntmps30, List.size_toArray, List.length_cons, List.length_nil, Nat.reduceAdd, Nat.reduceSub, Array.replicate_succ, Array.replicate_zero, List.push_toArray, List.append_toArray, List.nil_append, List.cons_append]
  gi_wp2
  gi_loopw [6] (fun i wr => ∃ k : Nat, k ≤ 4 ∧ i = .int .i64 k ∧ J (preL s k) wr ∧ Below n₀ W wr)
    (fun i _ => 4 - (intOf i).toNat)
  case atStart => exact ⟨0, Nat.zero_le _, rfl, h0, Below.refl _ _⟩
  case round =>
    obtain ⟨k, hk, rfl, hJs, hnx⟩ := hrel
    by_cases hlt : k < 4
    · have hidx := idx_set s k hlt
      have hdk : decide ((k : Int) < 4) = true := decide_eq_true (by omega)
      have hlx := hok.get k
      have hsucc := preL_succ s k
      obtain ⟨tl, htl⟩ := preL_pre s (k + 1) (by omega)
      gi_wp2
      gi_loopw [4] (fun v wq => ∃ (x : Nat) (pre : List Int), v = .int .u64 x ∧ x < 18446744073709551616 ∧ J pre wq ∧ pre ++ bitsL x (64 * (k : Int)) = preL s (k + 1) ∧ Below n₀ W wq)
        (fun v _ => (intOf v).toNat)
      case atStart => exact ⟨s.get k, preL s k, rfl, hlx, hJs, hsucc.symm, hnx⟩
      case round =>
        obtain ⟨x, pre, rfl, hx, hJp, hpre, hnq⟩ := hrel
        by_cases hx0 : x = 0
        · subst hx0
          rw [bitsL_zero, List.append_nil] at hpre
          subst hpre
          gi_wp2
          go_roundw
          case rel => exact ⟨k + 1, by omega, by go_num, hJp, hnq⟩
          case measure => simp [intOf]; omega
        · have hst := bitsL_step x (64 * (k : Int)) hx0 hx
          have hcz := (Lib.lowest_bit 64 x hx0 hx).2
          have hT' := hT.below hnq h0n
          have hlen : pre.length < (listM s).length := by
            rw [← htl, ← hpre, hst]
            simp
          obtain ⟨fn, tmps, assign, body, hy, hR⟩ := hY pre (64 * (k : Int) + (Lib.ctz 64 x : Int)) _ hJp hlen
          have htz := tz_any x hx hx0 _ hT'
          have hwr : IntKind.u64.wrap ((x : Int) - 1) = ((x - 1 : Nat) : Int) := by rw [IntKind.wrap_u64]; omega
          have hband := bits_and_u64_nat x (x - 1) hx (by omega)
          have hless := bits_less x hx0
          have hlt' := bits_lt x hx
          have hpre' : (pre ++ [64 * (k : Int) + (Lib.ctz 64 x : Int)]) ++ bitsL (x &&& (x - 1)) (64 * (k : Int)) = preL s (k + 1) := by
            rw [← hpre, hst]
            simp
          have hxne : ¬ (x : Int) = 0 := by omega
          generalize Lib.ctz 64 x = z at *
          generalize x &&& (x - 1) = x' at *
          gi_wp2_with (refine ⟨trivial, ?_⟩; gi_at_call 31; refine (callsIn_wide.2 htz).mono ?_; rintro e w' ⟨rfl, rfl⟩)
          refine hR.mono ?_
          rintro e W3 (⟨rfl, hJ3, hk3⟩ | ⟨rfl, hJx3⟩)
          · gi_wp2
            go_roundw
            case rel => exact ⟨x', _, rfl, hlt', hJ3, hpre', hnq.trans hk3⟩
            case measure => simp [intOf]; omega
          · gi_wp2
            refine bodyPost_ret (results_none rfl _ _ _) rfl ?_
            exact ⟨⟨_, rfl⟩, .inr ⟨_, ⟨bitsL x' (64 * (k : Int)) ++ tl, by rw [← List.append_assoc, hpre', htl]⟩, hJx3⟩⟩
    · obtain rfl : k = 4 := by omega
      rw [preL_all] at hJs
      gi_wp2
      go_end0
      exact ⟨⟨_, rfl⟩, .inl ⟨_, rfl, hJs⟩⟩
theorem all_stops (n : Nat) (hn : 1 ≤ n) (Bs n₀ : Nat) (s : W4) (hok : s.Ok) (h0n : 0 < n₀) (w : World) (hBs : Bs < w.heap.size) (hn₀ : n₀ ≤ w.heap.size) (hT : Tab w) (hc : ∀ q, q < 4 → w.cell? ⟨Bs, q, none⟩ = some (.int .u64 (s.get q : Int))) :
    SeqStopsK Fence.wide n Tryd.prog 30 #[.pointer (some ⟨Bs, 0, none⟩)] (fun x : Int => #[Value.int .i64 x]) (Below n₀) (fun ys => ys = listM s) (fun pre => pre <+: listM s) (listM s).length w := fun l J Jx W hW _ _ hY h0 =>
  all1_in n hn l Bs n₀ s hok h0n J Jx hY W (hT.below hW (by omega)) (fun q hq => (hW.cell (p := ⟨Bs, q, none⟩) hBs).trans (hc q hq)) h0
set_option maxRecDepth 100000 in
theorem all_any (s : W4) (w : World) : Calls Tryd.prog 24 #[aggW s] w fun e w' => e = .returned (.func (.func 30) #[] #[.pointer (some ⟨w.heap.size, 0, none⟩)]) ∧ w' = w.alloc (.cells #[.int .u64 (s.a0 : Int), .int .u64 (s.a1 : Int), .int .u64 (s.a2 : Int), .int .u64 (s.a3 : Int)] 27) := by
  go_enter Tryd.func24, Tryd.ntmps24
  go_wp2_with fail
  go_ret
  exact ⟨rfl, rfl⟩
end Go.Proofs.YtgjmmbhakjalgaaDoor
