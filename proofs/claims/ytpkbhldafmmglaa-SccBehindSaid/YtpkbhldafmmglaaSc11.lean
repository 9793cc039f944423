/-
  Circles: whether there are few things; the chapter's example.
-/
import Derived.Test.YtpkbhldafmmglaaSc10
namespace Go.Proofs.Ytpkbhldafmmglaa
open Go.RowKit
set_option linter.unusedSimpArgs false
set_option linter.unusedVariables false
def IsSmallG (g : Gr) (n : Nat) (w : World) (e : Ending) (w' : World) : Prop := ∃ r : Bool, e = .returned (.bool r) ∧ (r = true → n ≤ 40 ∧ ∀ i, (rowG g i).length ≤ 60) ∧ w = w'
set_option maxRecDepth 100000 in
set_option maxHeartbeats 4000000 in
theorem smallg_any (B : Nat) (GA : Option Addr) (n gc : Nat) (g : Gr) (w : World) (hG : GrW w B GA n gc g) :
    Calls Try.prog 5 #[.slice GA n gc] w (IsSmallG g n w) := by
  have HG := Lib.hid hG
  have HGL : Hid (g.length = n) := Lib.hid hG.1
  clear hG
  go_enter Try.func5, Try.ntmps5
  go_wp2_with fail
  go_loop [3] (fun iv => ∃ i : Nat, iv = .int .i64 i ∧ i ≤ n ∧ i ≤ 40 ∧ Hid (∀ j, j < i → (rowG g j).length ≤ 60)) (fun iv => 40 - (intOf iv).toNat)
  case atStart => exact ⟨0, rfl, Nat.zero_le _, Nat.zero_le _, Lib.hid fun j hj => by omega⟩
  case round =>
    obtain ⟨i, rfl, hi, hi40, HK⟩ := hrel
    have hi0 : (0 : Int) ≤ (i : Int) := by omega
    by_cases hlt : i < n
    · have hin : (i : Int) < (n : Int) := by omega
      by_cases h40 : i < 40
      · have hi4 : (i : Int) < 40 := by omega
        obtain ⟨bg, og, Ar, nr, cr, rfl, hbg, hgc, hrw⟩ := HG.out.row hlt
        have HRL : Hid ((rowG g i).length = nr) := Lib.hid hrw.1
        clear hrw hbg
        by_cases hr : nr ≤ 60
        · have hr1 : ¬ (60 : Int) < (nr : Int) := by omega
          have hr2 : decide ((nr : Int) > 60) = false := by simp; omega
          have HN : Hid (∀ j, j < i + 1 → (rowG g j).length ≤ 60) := Lib.hid fun j hj => by
            by_cases e : j = i
            · subst e; rw [HRL.out]; exact hr
            · exact HK.out j (by omega)
          go_wp2_with fail
          go_round
          case rel => exact ⟨i + 1, by go_num, by omega, by omega, HN⟩
          case measure => simp [intOf]; omega
        · have hr1 : (60 : Int) < (nr : Int) := by omega
          have hr2 : decide ((nr : Int) > 60) = true := by simp; omega
          go_wp2_with fail
          go_ret
          exact ⟨false, rfl, (fun h => by cases h), rfl⟩
      · obtain rfl : i = 40 := by omega
        have h41 : (40 : Int) < (n : Int) := by omega
        have hd : decide ((n : Int) ≤ 40) = false := by simp; omega
        go_wp2_with fail
        go_ret
        exact ⟨false, by simp [hd], (fun h => by cases h), rfl⟩
    · obtain rfl : i = n := by omega
      have h40 : (i : Int) ≤ 40 := by omega
      have HALL : Hid (i ≤ 40 ∧ ∀ j, (rowG g j).length ≤ 60) := Lib.hid ⟨hi40, fun j => by
        by_cases hj : j < i
        · exact HK.out j hj
        · unfold rowG
          rw [List.getElem?_eq_none (by have := HGL.out; omega)]
          simp⟩
      go_wp2_with fail
      go_ret
      exact ⟨true, rfl, fun _ => HALL.out, rfl⟩
/-! ### the example -/
def g3 : Gr := [[1], [0], [0]]
theorem g3_row (v : Nat) : rowG g3 v = if v = 0 then [1] else if v = 1 then [0] else if v = 2 then [0] else [] := by
  match v with
  | 0 => rfl
  | 1 => rfl
  | 2 => rfl
  | v + 3 => simp [rowG, g3]
theorem g3_small (i : Nat) : (rowG g3 i).length ≤ 60 := by
  rw [g3_row]
  split
  · simp
  · split
    · simp
    · split <;> simp
theorem g3_ed (v u : Nat) : Ed g3 v u ↔ (v = 0 ∧ u = 1) ∨ (v = 1 ∧ u = 0) ∨ (v = 2 ∧ u = 0) := by
  unfold Ed
  rw [g3_row]
  match v with
  | 0 => simp [g3]; omega
  | 1 => simp [g3]; omega
  | 2 => simp [g3]; omega
  | v + 3 => simp
theorem g3_low {a b : Nat} (h : Rs g3 a b) (ha : a < 2) : b < 2 := h.closed (P := fun x => x < 2) (fun a b ha hE => by
  have := (g3_ed a b).1 hE
  omega) ha
theorem g3_01 : Tg g3 0 1 := ⟨.one ((g3_ed 0 1).2 (by omega)), .one ((g3_ed 1 0).2 (by omega))⟩
theorem g3_2 {j : Nat} (h : Tg g3 2 j) : j = 2 := by
  rcases Nat.lt_trichotomy j 2 with e | e | e
  · have := g3_low h.2 e; omega
  · exact e
  · have := h.1.lt (by simp [g3]); simp [g3] at this; omega
theorem g3_lst {l : Nat → Nat} (hl : LstF g3 l) : l 0 = 0 ∧ l 1 = 0 ∧ l 2 = 2 := by
  refine ⟨?_, ?_, ?_⟩
  · exact (hl 0 (by simp [g3])).uniq ⟨Tg.refl g3 0, fun j hj => by omega⟩
  · exact (hl 1 (by simp [g3])).uniq ⟨g3_01.symm, fun j hj => by omega⟩
  · exact (hl 2 (by simp [g3])).uniq ⟨Tg.refl g3 2, fun j hj h => by have := g3_2 h; omega⟩
theorem g3_cells {l : Nat → Nat} (hl : LstF g3 l) : arrC 3 (fun i => (l i : Int)) = [.int .i64 0, .int .i64 0, .int .i64 2] := by
  obtain ⟨h0, h1, h2⟩ := g3_lst hl
  show [Value.int .i64 ((l 0 : Nat) : Int), .int .i64 ((l 1 : Nat) : Int), .int .i64 ((l 2 : Nat) : Int)] = _
  rw [h0, h1, h2]
  rfl
theorem g3_rp0 {j : Nat} (h : Rp g3 0 j) : j < 2 := g3_low h.rs (by omega)
theorem g3_order {l : Nat → Nat} (hl : LstF g3 l) {d : Nat → Bool} {o : List Nat} (hp : Picks g3 l d o) (hn : ∀ x, ¬ Cand g3 l d x) : o = [0, 2] := by
  obtain ⟨h0, h1, h2⟩ := g3_lst hl
  have hl2 : ∀ j, j < 2 → l j = 0 := fun j hj => by
    rcases (show j = 0 ∨ j = 1 by omega) with e | e
    · rw [e]; exact h0
    · rw [e]; exact h1
  have c0 : Cand g3 l (fun _ => false) 0 := ⟨by simp [g3], h0, rfl, fun j hj hne => absurd (hl2 j (g3_rp0 hj)) hne⟩
  have p1 := Picks.start.pick (g := g3) (l := l) c0 (fun m hm => by omega)
  have c2 : Cand g3 l (upd (fun _ => false) 0 true) 2 := ⟨by simp [g3], h2, by simp [upd], fun j hj hne => by
    have hj3 : j < 3 := by have := hj.rs.lt (by simp [g3]); simpa [g3] using this
    by_cases e : j = 2
    · subst e; exact absurd h2 hne
    · rw [hl2 j (by omega)]; simp [upd]⟩
  have p2 := p1.pick c2 (fun m hm hc => by
    rcases (show m = 0 ∨ m = 1 by omega) with e | e
    · subst e; have := hc.new; simp [upd] at this
    · subst e; have := hc.self; rw [h1] at this; omega)
  refine hp.uniq p2 hn (fun x hc => ?_)
  have hx : x < 3 := by have := hc.lt; simpa [g3] using this
  rcases (show x = 0 ∨ x = 1 ∨ x = 2 by omega) with e | e | e
  · subst e; have := hc.new; simp [upd] at this
  · subst e; have := hc.self; rw [h1] at this; omega
  · subst e; have := hc.new; simp [upd] at this
theorem g3_c1 : Rp g3 1 1 := ⟨0, (g3_ed 1 0).2 (by omega), .one ((g3_ed 0 1).2 (by omega))⟩
theorem g3_c2 : ¬ Rp g3 2 2 := fun ⟨m, hE, hr⟩ => by
  have h1 := (g3_ed 2 m).1 hE
  have := g3_low hr (by omega)
  omega
theorem g3_mem (w : World) (W : World) (b : Nat) (h0 : Cells W b [.int .i64 1]) (h1 : Cells W (b + 1) [.int .i64 0]) (h2 : Cells W (b + 1 + 1) [.int .i64 0]) (h3 : Cells W (b + 1 + 1 + 1) [.slice (some ⟨b, 0, none⟩) 1 1, .slice (some ⟨b + 1, 0, none⟩) 1 1, .slice (some ⟨b + 1 + 1, 0, none⟩) 1 1]) :
    GrW W W.heap.size (some ⟨b + 1 + 1 + 1, 0, none⟩) 3 3 g3 := by
  have row : ∀ {c v : Nat}, Cells W c [.int .i64 (v : Int)] → RSl 1 8 (RI .i64) W W.heap.size [.slice (some ⟨c, 0, none⟩) 1 1] [(v : Int)] := fun {c v} hc => ⟨_, 1, 1, rfl, slr_of_cells (f := fun x : Int => [Value.int .i64 x]) (xs := [(v : Int)]) (fun _ => rfl) hc rfl hc.lt (by unfold maxLen; omega) (by unfold reachBytes; omega)⟩
  refine ⟨rfl, Nat.le_refl _, by unfold maxLen; omega, by unfold reachBytes; omega, fun _ => ⟨_, 0, rfl, h3.lt, fun i x hi => ?_⟩⟩
  have hi3 : i < 3 := (List.getElem?_eq_some_iff.1 hi).1
  rcases (show i = 0 ∨ i = 1 ∨ i = 2 by omega) with e | e | e
  · subst e
    simp [g3] at hi
    subst hi
    exact ⟨_, rfl, fun j u hj => by
      have hj1 : j < 1 := (List.getElem?_eq_some_iff.1 hj).1
      obtain rfl : j = 0 := by omega
      exact h3.at_ 0 u (by simpa using hj), row (v := 1) h0⟩
  · subst e
    simp [g3] at hi
    subst hi
    exact ⟨_, rfl, fun j u hj => by
      have hj1 : j < 1 := (List.getElem?_eq_some_iff.1 hj).1
      obtain rfl : j = 0 := by omega
      exact h3.at_ 1 u (by simpa using hj), row (v := 0) h1⟩
  · subst e
    simp [g3] at hi
    subst hi
    exact ⟨_, rfl, fun j u hj => by
      have hj1 : j < 1 := (List.getElem?_eq_some_iff.1 hj).1
      obtain rfl : j = 0 := by omega
      exact h3.at_ 2 u (by simpa using hj), row (v := 0) h2⟩
end Go.Proofs.Ytpkbhldafmmglaa
