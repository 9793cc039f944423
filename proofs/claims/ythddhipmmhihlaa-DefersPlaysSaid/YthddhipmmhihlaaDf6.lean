/-
  Calls that wait: the last one of a frame; what a round of the law keeps.
-/
import Derived.Test.YthddhipmmhihlaaDf5
import Derived.Test.YthddhipmmhihlaaDfT
import Derived.Deep.DeepCutAuto
import Derived.Deep.LoopGhost
namespace Go.Proofs.Ythddhipmmhihlaa
open Go.RowKit Go.Maps
set_option linter.unusedSimpArgs false
set_option linter.unusedVariables false
def LastOf (f : Int) (qs : List PR) (k : Nat) (a : Int) : Prop := (a = -1 ∧ ∀ (j : Nat) (q : PR), j < k → qs[j]? = some q → q.x.fr ≠ f) ∨ ∃ (i : Nat) (q : PR), a = (i : Nat) ∧ i < k ∧ qs[i]? = some q ∧ q.x.fr = f ∧ ∀ (j : Nat) (q' : PR), i < j → j < k → qs[j]? = some q' → q'.x.fr ≠ f
theorem LastOf.hit {f : Int} {qs : List PR} {k : Nat} {q : PR} (hq : qs[k]? = some q) (he : q.x.fr = f) : LastOf f qs (k + 1) (k : Nat) := .inr ⟨k, q, rfl, by omega, hq, he, fun j q' h1 h2 => by omega⟩
theorem LastOf.miss {f : Int} {qs : List PR} {k : Nat} {a : Int} {q : PR} (h : LastOf f qs k a) (hq : qs[k]? = some q) (he : q.x.fr ≠ f) : LastOf f qs (k + 1) a := by
  rcases h with ⟨h1, h2⟩ | ⟨i, q1, h1, h2, h3, h4, h5⟩
  · refine .inl ⟨h1, fun j q' hj hq' => ?_⟩
    by_cases e : j = k
    · subst e; rw [hq] at hq'; injection hq' with hq'; subst hq'; exact he
    · exact h2 j q' (by omega) hq'
  · refine .inr ⟨i, q1, h1, by omega, h3, h4, fun j q' hj hj2 hq' => ?_⟩
    by_cases e : j = k
    · subst e; rw [hq] at hq'; injection hq' with hq'; subst hq'; exact he
    · exact h5 j q' hj (by omega) hq'
set_option maxRecDepth 100000 in
set_option maxHeartbeats 1000000 in
theorem last_any (A : Option Addr) (n c B : Nat) (qs : List PR) (f : Int) (w : World) (h : SlP w B A n c qs) (hn : n ≤ 1000) :
    Calls Try.prog 12 #[.slice A n c, .int .i64 f] w fun e w' => (∃ a, e = .returned (.int .i64 a) ∧ LastOf f qs n a) ∧ w = w' := by
  have H := Lib.hid h
  clear h
  go_enter Try.func12, Try.ntmps12
  go_wp2
  go_loopw [5, 6] (fun s i wr => ∃ (k : Nat) (a : Int), s = .int .i64 a ∧ i = .int .i64 k ∧ k ≤ n ∧ Hid (LastOf f qs k a) ∧ wr = w) (fun _ i _ => n - (intOf i).toNat)
  case atStart => exact ⟨0, -1, rfl, rfl, Nat.zero_le _, Lib.hid (.inl ⟨rfl, fun j q hj => by omega⟩), rfl⟩
  case round =>
    obtain ⟨k, a, rfl, rfl, hk, HL, rfl⟩ := hrel
    by_cases hlt : k < n
    · obtain ⟨b, off, v, rfl, hb, hx, p0, p1, p2⟩ := slp_at H.out hlt
      have HX := Lib.hid hx
      by_cases he : v.x.fr = f
      · have HH := Lib.hid (LastOf.hit HX.out he)
        rw [he] at p0
        have ht : (f == f) = true := by simp
        clear p1 p2 hx hb he
        go_wp2_with fail
        go_roundw
        case rel => exact ⟨k + 1, _, rfl, by go_num, by omega, HH, trivial⟩
        case measure => simp [intOf]; omega
      · have HH := Lib.hid (HL.out.miss HX.out he)
        have ht : (v.x.fr == f) = false := by simpa using he
        obtain ⟨vf, hvf⟩ : ∃ x, v.x.fr = x := ⟨_, rfl⟩
        rw [hvf] at p0 ht
        clear p1 p2 hx hb he hvf
        go_wp2_with fail
        go_roundw
        case rel => exact ⟨k + 1, _, rfl, by go_num, by omega, HH, trivial⟩
        case measure => simp [intOf]; omega
    · have hkn : k = n := by omega
      subst hkn
      go_wp2_with fail
      go_ret
      exact ⟨⟨_, rfl, HL.out⟩, rfl⟩
structure LS (w wr : World) (t : Nat) (lA : Option Addr) (n lc : Nat) : Prop where
  bw : Below w.heap.size w wr
  ex : ∃ A c mo k ps qs, PileW wr w.heap.size A c mo k ps ∧ SlP wr wr.heap.size lA n lc qs ∧ PArgs wr (Blk w.heap.size A mo) qs ∧ Ok wr (Blk w.heap.size A mo) lA ∧ ps.map PR.x = qs.map PR.x ∧ n ≤ t ∧ k ≤ t ∧ (∀ j, Blk w.heap.size A mo j → w.heap.size ≤ j)
theorem LS.on {w wr wx : World} {t n lc : Nat} {lA : Option Addr} (h : LS w wr t lA n lc) (hk : Kp (fun _ => False) wr wx) : LS w wx t lA n lc := by
  obtain ⟨hb, A, c, mo, k, ps, qs, h1, h2, h3, h4, h5, h6, h7, h8⟩ := h
  exact ⟨hb.trans (hk.below hb.size (fun _ h => h.elim)), A, c, mo, k, ps, qs, h1.on hk, SlR.kp h2 (Nat.le_refl _) (fun _ _ => id) hk, h3.kp (hk.mono fun _ _ h => h.elim) (fun j hj => .inl hj), h4.kp hk.size (fun j hj => .inl hj), h5, h6, h7, h8⟩
theorem LS.mono {w wr : World} {t t' n lc : Nat} {lA : Option Addr} (h : LS w wr t lA n lc) (ht : t ≤ t') : LS w wr t' lA n lc := by
  obtain ⟨hb, A, c, mo, k, ps, qs, h1, h2, h3, h4, h5, h6, h7, h8⟩ := h
  exact ⟨hb, A, c, mo, k, ps, qs, h1, h2, h3, h4, h5, by omega, by omega, h8⟩
theorem map_len {ps qs : List PR} (h : ps.map PR.x = qs.map PR.x) : ps.length = qs.length := by simpa using congrArg List.length h
theorem map_at {ps qs : List PR} (h : ps.map PR.x = qs.map PR.x) {i : Nat} {q : PR} (hq : qs[i]? = some q) : ∃ p, ps[i]? = some p ∧ p.x = q.x := by
  have := congrArg (fun l => l[i]?) h
  simp only [List.getElem?_map, hq, Option.map_some] at this
  cases hp : ps[i]? with
  | none => rw [hp] at this; simp at this
  | some p => rw [hp] at this; simp at this; exact ⟨p, rfl, this⟩
theorem map_cnt {ps qs : List PR} (h : ps.map PR.x = qs.map PR.x) (f : Int) : cntP ps f = cntP qs f := by
  have e : ∀ l : List PR, cntP l f = (((l.map PR.x).filter fun x => x.fr == f).length : Int) := fun l => by
    unfold cntP
    rw [List.filter_map, List.length_map]
    rfl
  rw [e, e, h]
theorem map_erase {ps qs : List PR} (h : ps.map PR.x = qs.map PR.x) (i : Nat) : (ps.eraseIdx i).map PR.x = (qs.eraseIdx i).map PR.x := by
  rw [List.eraseIdx_eq_take_drop_succ, List.eraseIdx_eq_take_drop_succ, List.map_append, List.map_append, List.map_take, List.map_take, List.map_drop, List.map_drop, h]
theorem cntP_take {qs : List PR} {k : Nat} {q : PR} (hq : qs[k]? = some q) (f : Int) : cntP (qs.take (k + 1)) f = cntP (qs.take k) f + (if q.x.fr = f then 1 else 0) := by
  rw [← take_snoc' qs k q hq]
  unfold cntP
  rw [List.filter_append, List.length_append]
  by_cases e : q.x.fr = f
  · simp [e]
  · have : (q.x.fr == f) = false := by simpa using e
    simp [this, e]
/-- One more, on both sides. -/
theorem LS.push {w w1 w5 w6 : World} {t n lc lc' : Nat} {lA lA' : Option Addr} {A A' : Option Addr} {c c' k : Nat} {mo mo' : Option Nat} {ps qs : List PR} {q qn : PR}
    (hb : Below w.heap.size w w1) (h2 : SlP w1 w1.heap.size lA n lc qs) (h3 : PArgs w1 (Blk w.heap.size A mo) qs) (h4 : Ok w1 (Blk w.heap.size A mo) lA) (h5 : ps.map PR.x = qs.map PR.x) (h6 : n ≤ t) (h7 : k ≤ t) (h8 : ∀ j, Blk w.heap.size A mo j → w.heap.size ≤ j)
    (hp : PileW w5 w.heap.size A' c' mo' (k + 1) (ps ++ [qn])) (hqn : qn.x = q.x) (hk5 : Kp (Blk w.heap.size A mo) w1 w5) (hT : ∀ j, Blk w.heap.size A' mo' j → Blk w.heap.size A mo j ∨ w1.heap.size ≤ j)
    (hqs : SlV w5 w5.heap.size q.A q.m q.c q.x.args) (hqo : Ok w5 (Blk w.heap.size A' mo') q.A)
    (hk6 : Kp (fun _ => False) w5 w6) (hl : w6.ownsRow w5.heap.size 26 3 (.slice lA' (n + 1) lc') (n + 1) ((qs ++ [q]).flatMap cellsP)) (hn : n ≤ 1000) : LS w w6 (t + 1) lA' (n + 1) lc' := by
  have hb5 : Below w.heap.size w w5 := hb.trans (hk5.below hb.size h8)
  have hs := hb.size
  have hs5 := hk5.size
  refine ⟨hb5.trans (hk6.below hb5.size (fun _ h => h.elim)), A', c', mo', k + 1, ps ++ [qn], qs ++ [q], hp.on hk6, SlR.of_ownN (sz := 3) (bytes := 40) (f := cellsP) (fun _ => rfl) (by decide) hl (by unfold reachBytes; omega), ?_, ?_, by simp [h5, hqn], by omega, by omega, fun j hj => ?_⟩
  · have : PArgs w5 (Blk w.heap.size A' mo') (qs ++ [q]) := fun p hp => by
      rcases List.mem_append.1 hp with hp | hp
      · exact h3.kp hk5 hT p hp
      · simp at hp
        subst hp
        exact ⟨hqs, hqo⟩
    exact this.kp (hk6.mono fun _ _ h => h.elim) (fun j hj => .inl hj)
  · intro ad ha
    subst ha
    obtain ⟨g, rfl⟩ : ∃ g, ad = ⟨g, 0, none⟩ := by
      rcases hl.2 with ⟨hv, _⟩ | ⟨g, cap, cur, hv, _⟩
      · simp at hv
      · simp only [Value.slice.injEq, Option.some.injEq, true_and] at hv
        exact ⟨g, hv.1⟩
    have hlt := hl.lt g rfl
    exact ⟨hlt.2, fun hB => by have h9 : g < w5.heap.size := hp.blk_lt hB; have := hlt.1; omega⟩
  · rcases hT j hj with h | h
    · exact h8 j h
    · omega
/-- One less, on both sides. -/
theorem LS.take {w w1 w5 w6 : World} {t n lc lc' i : Nat} {lA lA' : Option Addr} {A : Option Addr} {c k : Nat} {mo mo' : Option Nat} {ps qs : List PR}
    (hb : Below w.heap.size w w1) (h2 : SlP w1 w1.heap.size lA (n + 1) lc qs) (h3 : PArgs w1 (Blk w.heap.size A mo) qs) (h5 : ps.map PR.x = qs.map PR.x) (h6 : n + 1 ≤ t) (h7 : k ≤ t) (h8 : ∀ j, Blk w.heap.size A mo j → w.heap.size ≤ j)
    (hp : PileW w5 w.heap.size A c mo' (k + 1) (ps.eraseIdx i)) (hk5 : Kp (Blk w.heap.size A mo) w1 w5) (hT : ∀ j, Blk w.heap.size A mo' j → Blk w.heap.size A mo j ∨ w1.heap.size ≤ j)
    (hk6 : Kp (fun _ => False) w5 w6) (hl : w6.ownsRow w5.heap.size 26 3 (.slice lA' n lc') n ((qs.eraseIdx i).flatMap cellsP)) (hn : n ≤ 1000) : LS w w6 (t + 1) lA' n lc' := by
  have hb5 : Below w.heap.size w w5 := hb.trans (hk5.below hb.size h8)
  have hs := hb.size
  have hs5 := hk5.size
  refine ⟨hb5.trans (hk6.below hb5.size (fun _ h => h.elim)), A, c, mo', k + 1, ps.eraseIdx i, qs.eraseIdx i, hp.on hk6, SlR.of_ownN (sz := 3) (bytes := 40) (f := cellsP) (fun _ => rfl) (by decide) hl (by unfold reachBytes; omega), ?_, ?_, map_erase h5 i, by omega, by omega, fun j hj => ?_⟩
  · have : PArgs w5 (Blk w.heap.size A mo') (qs.eraseIdx i) := fun p hp => h3.kp hk5 hT p (List.mem_of_mem_eraseIdx hp)
    exact this.kp (hk6.mono fun _ _ h => h.elim) (fun j hj => .inl hj)
  · intro ad ha
    subst ha
    obtain ⟨g, rfl⟩ : ∃ g, ad = ⟨g, 0, none⟩ := by
      rcases hl.2 with ⟨hv, _⟩ | ⟨g, cap, cur, hv, _⟩
      · simp at hv
      · simp only [Value.slice.injEq, Option.some.injEq, true_and] at hv
        exact ⟨g, hv.1⟩
    have hlt := hl.lt g rfl
    exact ⟨hlt.2, fun hB => by have h9 : g < w5.heap.size := hp.blk_lt hB; have := hlt.1; omega⟩
  · rcases hT j hj with h | h
    · exact h8 j h
    · omega
end Go.Proofs.Ythddhipmmhihlaa
