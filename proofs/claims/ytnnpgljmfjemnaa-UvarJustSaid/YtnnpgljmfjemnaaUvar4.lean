/-
  Numbers as few bytes: Size, PutInt, the document's Put.
-/
import Derived.Test.YtnnpgljmfjemnaaUvar3
import Derived.Lib.SlBytesRow
import Derived.Deep.RegionWith
namespace Go.Proofs.Ytnnpgljmfjemnaa
open Go.RowKit
set_option linter.unusedSimpArgs false
set_option linter.unusedVariables false

theorem own_below {base : Nat} {e : TypeId} {size : Nat} {v : Value} {n : Nat} {xs : List Value} {w w' : World} (h : w.ownsRow base e size v n xs) (hb : Below w.heap.size w w') : w'.ownsRow base e size v n xs := by
  refine ⟨h.1, ?_⟩
  rcases h.2 with h2 | ⟨g, cap, cur, a, b, c, d⟩
  · exact .inl h2
  · exact .inr ⟨g, cap, cur, a, b, (hb.block g (Array.getElem?_eq_some_iff.1 c).1).trans c, d⟩

set_option maxRecDepth 100000 in
set_option maxHeartbeats 400000 in
theorem uvar_Size_any (n : Nat) (hn : n < 18446744073709551616) (w : World) :
    Calls Try.prog 67 #[.int .u64 (n : Int)] w fun e w' => e = .returned (.int .i64 ((putM n).length : Int)) ∧ w = w' := by
  go_enter Try.func67, Try.ntmps67
  go_wp2
  go_loop [0, 3] (fun x s => ∃ (f k p : Nat), x = .int .u64 (p : Int) ∧ s = .int .i64 (k : Int) ∧ p < 18446744073709551616 ∧ k ≤ 10 ∧ Hid (p < 2 * 128 ^ f) ∧ Hid (k + (putF f p).length = 1 + (putM n).length)) (fun x _ => (intOf x).toNat)
  case atStart => exact ⟨9, 1, n, rfl, rfl, hn, by omega, (by show n < 2 * 128 ^ 9; rw [lim9]; exact hn), rfl⟩
  case round =>
    obtain ⟨f, k, p, rfl, rfl, hp, hk, hpf, hput⟩ := hrel
    by_cases hlt : p < 128
    · have hlt' : (p : Int) < 128 := by omega
      have hfin : Hid ((k : Int) = ((putM n).length : Int)) := by
        have h1 : putF f p = [p] := by
          cases f with
          | zero => rfl
          | succ f => unfold putF; rw [if_pos hlt]
        have := hput.out
        rw [h1] at this
        show (k : Int) = _
        simp at this
        omega
      go_wp2
      go_ret
      exact ⟨by rw [← hfin.out]; rfl, rfl⟩
    · have hge : (128 : Int) ≤ (p : Int) := by omega
      have hf : ∃ f', f = f' + 1 := by
        cases f with
        | zero =>
          have := hpf.out
          simp at this
          omega
        | succ f => exact ⟨f, rfl⟩
      obtain ⟨f', rfl⟩ := hf
      have hdiv : Hid ((p : Int) / 128 = ((p / 128 : Nat) : Int)) := by show (p : Int) / 128 = _; omega
      have hnext : Hid (k + 1 + (putF f' (p / 128)).length = 1 + (putM n).length ∧ k + 1 ≤ 10) := by
        have h1 : putF (f' + 1) p = (p % 128 + 128) :: putF f' (p / 128) := by rw [putF, if_neg hlt]
        have := hput.out
        rw [h1] at this
        simp only [List.length_cons] at this
        have h2 := (putF_len f' (p / 128)).1
        have h3 := (putF_len 9 n).2
        have h4 : putM n = putF 9 n := rfl
        rw [← h4] at h3
        exact ⟨by omega, by omega⟩
      go_wp2
      go_round
      case rel =>
        refine ⟨f', k + 1, p / 128, by rw [hdiv.out], by go_num, by omega, hnext.out.2, ?_, hnext.out.1⟩
        have := hpf.out
        have h2 : p < 128 * (2 * 128 ^ f') := by rw [Nat.pow_succ] at this; omega
        exact Nat.div_lt_of_lt_mul h2
      case measure => simp only [intOf]; omega

def IsBytes (l : List Nat) (w : World) (e : Ending) (w' : World) : Prop := ∃ g cap, e = .returned (.slice (some ⟨g, 0, none⟩) l.length cap) ∧ w'.ownsRow w.heap.size 5 1 (.slice (some ⟨g, 0, none⟩) l.length cap) l.length (rowB l) ∧ Below w.heap.size w w'

theorem add_byte (n : Nat) : IntKind.u8.wrap ((n : Int) % 128 + 128) = ((n % 128 + 128 : Nat) : Int) := by rw [IntKind.wrap_u8]; omega

set_option maxRecDepth 100000 in
set_option maxHeartbeats 1000000 in
theorem ref_Put_any : ∀ (f n : Nat) (w : World), f ≤ 9 → n < 18446744073709551616 → n < 2 * 128 ^ f → Calls Try.prog 66 #[.int .u64 (n : Int)] w (IsBytes (putF f n) w) := by
  obtain ⟨i0, hi, hz0, hz1, hz2⟩ := info_parts info_byte
  intro f
  induction f with
  | zero =>
    intro n w _ _ hn
    have hlt : n < 128 := by simp at hn; omega
    have hlt' : (n : Int) < 128 := by omega
    have hwb := wrap_byte n hlt
    clear hn
    go_enter Try.func66, Try.ntmps66
    go_wp2
    go_ret
    exact ⟨w.heap.size, 1, rfl, World.ownsRow_lit _ _ 1 (Nat.le_refl _) (by unfold maxLen; omega) rfl, (Below.refl _ _).alloc (Nat.le_refl _) _⟩
  | succ f ih =>
    intro n w hf h64 hn
    by_cases hlt : n < 128
    · have hlt' : (n : Int) < 128 := by omega
      have hwb := wrap_byte n hlt
      clear hn
      rw [show putF (f + 1) n = [n] by rw [putF, if_pos hlt]]
      go_enter Try.func66, Try.ntmps66
      go_wp2
      go_ret
      exact ⟨w.heap.size, 1, rfl, World.ownsRow_lit _ _ 1 (Nat.le_refl _) (by unfold maxLen; omega) rfl, (Below.refl _ _).alloc (Nat.le_refl _) _⟩
    · rw [show putF (f + 1) n = (n % 128 + 128) :: putF f (n / 128) by rw [putF, if_neg hlt]]
      have hge : ¬ ((n : Int) < 128) := by omega
      have hge' : (128 : Int) ≤ (n : Int) := by omega
      have hdiv : (n : Int) / 128 = ((n / 128 : Nat) : Int) := by omega
      have c1 : ∀ w : World, Hid (Calls Try.prog 66 #[.int .u64 ((n : Int) / 128)] w (IsBytes (putF f (n / 128)) w)) := fun w => by
        rw [hdiv]
        refine ih (n / 128) w (by omega) (by omega) ?_
        have h2 : n < 128 * (2 * 128 ^ f) := by rw [Nat.pow_succ] at hn; omega
        exact Nat.div_lt_of_lt_mul h2
      have hlen := putF_len f (n / 128)
      clear hdiv ih hn
      have HA := Lib.hid (add_byte n)
      obtain ⟨l, hl⟩ : ∃ l, putF f (n / 128) = l := ⟨_, rfl⟩
      rw [hl] at c1 hlen ⊢
      clear hl
      have hr256 : (0 : Int) ≤ (n : Int) % 128 := by omega
      have hr257 : (n : Int) % 128 < 128 := by omega
      go_enter Try.func66, Try.ntmps66
      go_wp2_with fail
      refine Calls.mono (c1 _).out ?_
      rintro e w2 ⟨g, cap, rfl, hown, hb⟩
      have hcellv : Value.int .u8 ((n : Int) % 128 + 128) = Value.int .u8 ((n % 128 + 128 : Nat) : Int) := by rw [show (n : Int) % 128 + 128 = ((n % 128 + 128 : Nat) : Int) by omega]
      have hown1 : w2.ownsRow w.heap.size 5 1 (.slice (some ⟨w.heap.size, 0, none⟩) 1 1) 1 [.int .u8 ((n : Int) % 128 + 128)] := own_below (World.ownsRow_lit w #[.int .u8 ((n : Int) % 128 + 128)] 1 (Nat.le_refl _) (by unfold maxLen; omega) rfl) hb
      have hbw : Below w.heap.size w w2 := ((Below.refl _ _).alloc (Nat.le_refl _) _).trans (hb.mono (by simp))
      have hsz : w.heap.size ≤ w2.heap.size := hbw.size
      have hlen2 : (rowB l).length = l.length * 1 := by simp [rowB]
      have hone : ∀ u ∈ rowB l, u.oneCell' = true := by
        intro u hu
        obtain ⟨b, _, rfl⟩ := List.mem_map.1 hu
        rfl
      have hcl := hown.cells (g := g) rfl
      have HCV := Lib.hid hcellv
      clear hcellv hb
      go_wp2_with (first
        | (at_builtin; go_must (refine wpList_append_own _ rfl _ _ 61 rfl w.heap.size 5 i0 (.int .u8 0) 1 1 Try.underlying61 hi hz0 hz1 hz2 rfl (by decide) _ _ _ rfl hown1 ⟨g, 0, none⟩ l.length cap (rowB l) rfl hlen2 hcl hone (by unfold maxLen; omega) (by omega) hsz ?_); intro v' w3 hown' hgrow3 hnil3
           have X : Hid (∃ g cap, v' = .slice (some ⟨g, 0, none⟩) (l.length + 1) cap ∧ w3.ownsRow w.heap.size 5 1 (.slice (some ⟨g, 0, none⟩) (l.length + 1) cap) (l.length + 1) (rowB ((n % 128 + 128) :: l)) ∧ Below w.heap.size w w3) := by
             have hb3 : Below w.heap.size w w3 := Below.grown hbw hgrow3 hsz (fun j hj => (hown1.lt _ hj).1)
             rw [HCV.out, Nat.add_comm 1 l.length] at hown'
             have hown'' := hown'
             rcases hown'.2 with ⟨_, h0⟩ | ⟨g', cap', cur, hv, _⟩
             · omega
             · exact ⟨g', cap', hv, by rw [← hv]; exact hown'', hb3⟩
           clear hown' hgrow3 hnil3 hcl hone))
      go_ret
      obtain ⟨g', cap', rfl, h1, h2⟩ := X.out
      exact ⟨g', cap', rfl, h1, h2⟩
end Go.Proofs.Ytnnpgljmfjemnaa
