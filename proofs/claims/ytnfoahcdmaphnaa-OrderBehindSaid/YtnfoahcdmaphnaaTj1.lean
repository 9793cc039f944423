/-
  Circles of things, plain: the last of the walk is left; its circle is known; how long the walk goes on.
-/
import Derived.Test.YtnfoahcdmaphnaaTj0
namespace Go.Proofs.Ytnfoahcdmaphnaa
set_option linter.unusedSimpArgs false
set_option linter.unusedVariables false
variable {g : Gr} {walk init : List (Nat × Nat)} {seen low : Nat → Nat} {held : List Nat} {home : Nat → Int} {clock : Nat}
theorem Inv.pop {x k y j : Nat} (h : Inv g ((init ++ [(y, j)]) ++ [(x, k)]) seen low held home clock) (hk : k = (rowG g x).length) (hne : low x ≠ seen x) :
    Inv g (init ++ [(y, j)]) seen (upd low y (min (low y) (low x))) held home clock := by
  have hxy : seen y < seen x := h.top (p := (y, j)) (by simp)
  have hyx : y ≠ x := fun e => by rw [e] at hxy; omega
  have hyh : y ∈ held := (h.wh (y, j) (by simp)).1
  obtain ⟨hlx, ux, hux, hsx, hrx⟩ := h.low1 (x, k) (by simp)
  have hlx : low x < seen x := Nat.lt_of_le_of_ne hlx hne
  have init_y : ∀ p ∈ init, seen p.1 < seen y := fun p hp => by
    have := (List.pairwise_append.1 (List.pairwise_append.1 h.ws).1).2.2 p hp (y, j) (by simp)
    exact this
  have le_y : ∀ p ∈ init ++ [(y, j)], seen p.1 ≤ seen y := fun p hp => by
    rcases mem_last hp with hp | rfl
    · exact Nat.le_of_lt (init_y p hp)
    · exact Nat.le_refl _
  have hlo : ∀ v, v ≠ y → upd low y (min (low y) (low x)) v = low v := fun v hv => upd_other _ _ hv
  have hly : upd low y (min (low y) (low x)) y = min (low y) (low x) := upd_same _ _ _
  have hle : ∀ v, upd low y (min (low y) (low x)) v ≤ low v := fun v => by
    by_cases e : v = y
    · subst e; rw [hly]; exact Nat.min_le_left _ _
    · rw [hlo v e]; exact Nat.le_refl _
  have noX : ∀ v, v ≠ x → (∀ p ∈ init ++ [(y, j)], p.1 ≠ v) → ∀ p ∈ (init ++ [(y, j)]) ++ [(x, k)], p.1 ≠ v := fun v hv hn p hp => by
    rcases mem_last hp with hp | rfl
    · exact hn p hp
    · exact fun e => hv e.symm
  refine ⟨h.met, h.sle, h.hs, h.hm, (List.pairwise_append.1 h.ws).1, fun p hp => h.wh p (List.mem_append_left _ hp), h.hh, h.ok, h.cl, ?_, fun p hp => h.part p (List.mem_append_left _ hp), fun p hp => h.rch p (List.mem_append_left _ hp), ?_, ?_, ?_, ?_⟩
  · intro v hv hn u hE
    by_cases e : v = x
    · subst e
      exact h.part (v, k) (by simp) u hE.1 (by rw [hk, List.take_length]; exact hE.2)
    · exact h.fin v hv (noX v e hn) u hE
  · intro p hp
    obtain ⟨h1, u, hu, h2, h3⟩ := h.low1 p (List.mem_append_left _ hp)
    refine ⟨Nat.le_trans (hle _) h1, ?_⟩
    by_cases e : p.1 = y
    · rw [e] at h2 h3 ⊢
      rw [hly]
      by_cases hm : low y ≤ low x
      · rw [Nat.min_eq_left hm]
        exact ⟨u, hu, h2, h3⟩
      · rw [Nat.min_eq_right (by omega)]
        exact ⟨ux, hux, hsx, (h.rch (y, j) (by simp) x h.x_held (Nat.le_of_lt hxy)).trans hrx⟩
    · rw [hlo _ e]
      exact ⟨u, hu, h2, h3⟩
  · intro v hv hn
    by_cases e : v = x
    · subst e
      exact ⟨ux, hux, by rw [hsx]; exact hlx, hrx⟩
    · exact h.low2 v hv (noX v e hn)
  · intro p hp v hv hs hb u hu hP
    by_cases hvx : seen x ≤ seen v
    · have hpy : p.1 = y := by
        rcases mem_last hp with hp' | rfl
        · have h1 := hb (y, j) (by simp) (init_y p hp')
          have h1' : seen v < seen y := h1
          omega
        · rfl
      rw [hpy, hly]
      refine Nat.le_trans (Nat.min_le_right _ _) (h.low3 (x, k) (by simp) v hv hvx (fun q hq hlt => ?_) u hu ⟨hP.1, fun p' hp' e' => ?_⟩)
      · rcases mem_last hq with hq | rfl
        · have := le_y q hq
          have hlt' : seen x < seen q.1 := hlt
          omega
        · exact absurd hlt (Nat.lt_irrefl _)
      · rcases mem_last hp' with hp'' | e''
        · exact hP.2 p' hp'' e'
        · subst e''
          have e3 : x = v := e'
          rw [← e3, hk, List.take_length]
          rw [← e3] at hP
          exact hP.1.2
    · refine Nat.le_trans (hle _) (h.low3 p (List.mem_append_left _ hp) v hv hs (fun q hq hlt => ?_) u hu ⟨hP.1, fun p' hp' e' => ?_⟩)
      · rcases mem_last hq with hq | rfl
        · exact hb q hq hlt
        · show seen v < seen x
          omega
      · rcases mem_last hp' with hp'' | e''
        · exact hP.2 p' hp'' e'
        · subst e''
          have e3 : x = v := e'
          subst e3
          omega
  · intro v hv
    obtain ⟨p, hp, hs⟩ := h.bot v hv
    rcases mem_last hp with hp | rfl
    · exact ⟨p, hp, hs⟩
    · exact ⟨(y, j), by simp, Nat.le_trans (Nat.le_of_lt hxy) hs⟩
theorem Inv.root {x k : Nat} (h : Inv g [(x, k)] seen low held home clock) : low x = seen x := by
  obtain ⟨h1, u, hu, h2, _⟩ := h.low1 (x, k) (by simp)
  obtain ⟨p, hp, hs⟩ := h.bot u hu
  rw [List.mem_singleton] at hp
  subst hp
  have hs' : seen x ≤ seen u := hs
  have h1' : low x ≤ seen x := h1
  have h2' : seen u = low x := h2
  omega
/-- A circle is known. -/
theorem Inv.close {x k m : Nat} {hd tl : List Nat} {home' : Nat → Int} (h : Inv g (init ++ [(x, k)]) seen low held home clock) (hk : k = (rowG g x).length) (hlow : low x = seen x)
    (hheld : held = hd ++ x :: tl) (hm : m ∈ x :: tl) (hmin : ∀ v ∈ x :: tl, m ≤ v) (hh1 : ∀ v ∈ x :: tl, home' v = (m : Int)) (hh2 : ∀ v, v ∉ x :: tl → home' v = home v) :
    Inv g init seen low hd home' clock := by
  have hp := h.hs
  rw [hheld] at hp
  obtain ⟨hp1, hp2, hp3⟩ := List.pairwise_append.1 hp
  obtain ⟨hp4, _⟩ := List.pairwise_cons.1 hp2
  have inH : ∀ v ∈ x :: tl, v ∈ held := fun v hv => by rw [hheld]; exact List.mem_append_right _ hv
  have inHd : ∀ v ∈ hd, v ∈ held := fun v hv => by rw [hheld]; exact List.mem_append_left _ hv
  have geS : ∀ v ∈ x :: tl, seen x ≤ seen v := fun v hv => by
    rcases List.mem_cons.1 hv with e | hv
    · rw [e]; exact Nat.le_refl _
    · exact Nat.le_of_lt (hp4 v hv)
  have ltHd : ∀ v ∈ hd, seen v < seen x := fun v hv => hp3 v hv x (by simp)
  have split : ∀ v ∈ held, v ∈ hd ∨ v ∈ x :: tl := fun v hv => by rw [hheld] at hv; exact List.mem_append.1 hv
  have toHd : ∀ v ∈ held, seen v < seen x → v ∈ hd := fun v hv hlt => by
    rcases split v hv with h1 | h1
    · exact h1
    · have := geS v h1; omega
  have toS : ∀ v ∈ held, seen x ≤ seen v → v ∈ x :: tl := fun v hv hge => by
    rcases split v hv with h1 | h1
    · have := ltHd v h1; omega
    · exact h1
  have disj : ∀ v ∈ x :: tl, v ∉ hd := fun v hv hd' => by
    have h1 := geS v hv
    have h2 := ltHd v hd'
    omega
  have edge : ∀ v ∈ x :: tl, ∀ u, Ed g v u → seen u ≠ 0 ∧ (u ∈ held → u ∈ x :: tl) := fun v hv u hE => by
    have hnw : v ≠ x → ∀ p ∈ init ++ [(x, k)], p.1 ≠ v := fun hvx p hp => by
      rcases mem_last hp with hp' | e'
      · intro e
        have h1 := h.top hp'
        have h2 := geS v hv
        rw [e] at h1
        omega
      · subst e'
        exact fun e => hvx e.symm
    refine ⟨?_, fun hu => ?_⟩
    · by_cases hvx : v = x
      · subst hvx
        exact h.part (v, k) (by simp) u hE.1 (by rw [hk, List.take_length]; exact hE.2)
      · exact h.fin v (inH v hv) (hnw hvx) u hE
    · have := h.low3 (x, k) (by simp) v (inH v hv) (geS v hv) (fun q hq hlt => by
        rcases mem_last hq with hq' | e'
        · have h1 := h.top hq'
          have h2 : seen x < seen q.1 := hlt
          omega
        · subst e'
          exact absurd hlt (Nat.lt_irrefl _)) u hu ⟨hE, fun p hp e => by
        by_cases hvx : v = x
        · rcases mem_last hp with hp' | e'
          · exact absurd (e.trans hvx) (h.ne_init hp')
          · subst e'
            rw [hvx] at hE ⊢
            rw [hk, List.take_length]
            exact hE.2
        · exact absurd e (hnw hvx p hp)⟩
      have this' : low x ≤ seen u := this
      exact toS u hu (by omega)
  have reach : ∀ (n : Nat) v, v ∈ x :: tl → seen v ≤ n → Rs g v x := by
    intro n
    induction n with
    | zero => exact fun v hv hn => absurd (by omega) (h.hm v (inH v hv)).2
    | succ n ih =>
      intro v hv hn
      by_cases hvx : v = x
      · rw [hvx]; exact .refl x
      · obtain ⟨u, hu, h1, h2⟩ := h.low2 v (inH v hv) (fun p hp => by
          rcases mem_last hp with hp' | e'
          · intro e
            have h1 := h.top hp'
            have h2 := geS v hv
            rw [e] at h1
            omega
          · subst e'
            exact fun e => hvx e.symm)
        have hP := h2.closed (P := fun a => a ∈ x :: tl ∨ (a < g.length ∧ seen a ≠ 0 ∧ a ∉ held)) (fun a b ha hE => by
          rcases ha with ha | ⟨ha1, ha2, ha3⟩
          · obtain ⟨e1, e2⟩ := edge a ha b hE
            by_cases hb : b ∈ held
            · exact .inl (e2 hb)
            · exact .inr ⟨hE.1, e1, hb⟩
          · obtain ⟨e1, e2⟩ := h.cl a b ha1 ha2 ha3 hE
            exact .inr ⟨hE.1, e1, e2⟩) (.inl hv)
        rcases hP with hP | hP
        · exact h2.trans (ih u hP (by omega))
        · exact absurd hu hP.2.2
  have least : ∀ v ∈ x :: tl, IsLst g v m := fun v hv => by
    have hvx : Tg g v x := ⟨reach _ v hv (Nat.le_refl _), h.rch (x, k) (by simp) v (inH v hv) (geS v hv)⟩
    have hmx : Tg g m x := ⟨reach _ m hm (Nat.le_refl _), h.rch (x, k) (by simp) m (inH m hm) (geS m hm)⟩
    refine ⟨hvx.trans hmx.symm, fun j hj hT => ?_⟩
    have hP := hT.1.closed (P := fun a => a ∈ x :: tl ∨ (a < g.length ∧ seen a ≠ 0 ∧ a ∉ held)) (fun a b ha hE => by
      rcases ha with ha | ⟨ha1, ha2, ha3⟩
      · obtain ⟨e1, e2⟩ := edge a ha b hE
        by_cases hb : b ∈ held
        · exact .inl (e2 hb)
        · exact .inr ⟨hE.1, e1, hb⟩
      · obtain ⟨e1, e2⟩ := h.cl a b ha1 ha2 ha3 hE
        exact .inr ⟨hE.1, e1, e2⟩) (.inl hv)
    rcases hP with hP | hP
    · have := hmin j hP
      omega
    · have hQ := hT.2.closed (P := fun a => a < g.length ∧ seen a ≠ 0 ∧ a ∉ held) (fun a b ha hE => by
        obtain ⟨e1, e2⟩ := h.cl a b ha.1 ha.2.1 ha.2.2 hE
        exact ⟨hE.1, e1, e2⟩) hP
      exact hQ.2.2 (inH v hv)
  refine ⟨h.met, h.sle, hp1, fun v hv => h.hm v (inHd v hv), (List.pairwise_append.1 h.ws).1, fun p hp => ?_, fun v hv => ?_, fun v hv hs hn => ?_, fun v u hv hs hn hE => ?_, fun v hv hn u hE => ?_,
    fun p hp => h.part p (List.mem_append_left _ hp), fun p hp v hv => h.rch p (List.mem_append_left _ hp) v (inHd v hv), fun p hp => ?_, fun v hv hn => ?_, fun p hp v hv hs hb u hu hP => ?_, fun v hv => ?_⟩
  · obtain ⟨h1, h2⟩ := h.wh p (List.mem_append_left _ hp)
    exact ⟨toHd _ h1 (h.top hp), h2⟩
  · by_cases hS : v ∈ x :: tl
    · rw [hh1 v hS]
      have h1 := (h.hm v (inH v hS)).2
      have h2 := disj v hS
      constructor
      · intro h3; omega
      · intro h3; exact absurd ⟨h1, h2⟩ h3
    · rw [hh2 v hS, h.hh v hv]
      have : v ∈ held ↔ v ∈ hd := ⟨fun h1 => (split v h1).elim id fun h2 => absurd h2 hS, inHd v⟩
      rw [this]
  · by_cases hS : v ∈ x :: tl
    · rw [hh1 v hS]
      exact least v hS
    · rw [hh2 v hS]
      exact h.ok v hv hs (fun h1 => (split v h1).elim hn hS)
  · by_cases hS : v ∈ x :: tl
    · obtain ⟨e1, e2⟩ := edge v hS u hE
      exact ⟨e1, fun h1 => disj u (e2 (inHd u h1)) h1⟩
    · obtain ⟨e1, e2⟩ := h.cl v u hv hs (fun h1 => (split v h1).elim hn hS) hE
      exact ⟨e1, fun h1 => e2 (inHd u h1)⟩
  · exact h.fin v (inHd v hv) (fun p hp => by
      rcases mem_last hp with hp' | e'
      · exact hn p hp'
      · subst e'
        intro e
        have e3 : x = v := e
        exact disj x (by simp) (by rw [e3]; exact hv)) u hE
  · obtain ⟨h1, u, hu, h2, h3⟩ := h.low1 p (List.mem_append_left _ hp)
    have := h.top hp
    exact ⟨h1, u, toHd u hu (by omega), h2, h3⟩
  · obtain ⟨u, hu, h2, h3⟩ := h.low2 v (inHd v hv) (fun p hp => by
      rcases mem_last hp with hp' | e'
      · exact hn p hp'
      · subst e'
        intro e
        have e3 : x = v := e
        exact disj x (by simp) (by rw [e3]; exact hv))
    have := ltHd v hv
    exact ⟨u, toHd u hu (by omega), h2, h3⟩
  · refine h.low3 p (List.mem_append_left _ hp) v (inHd v hv) hs (fun q hq hlt => ?_) u (inHd u hu) ⟨hP.1, fun p' hp' e' => ?_⟩
    · rcases mem_last hq with hq' | e'
      · exact hb q hq' hlt
      · subst e'
        exact ltHd v hv
    · rcases mem_last hp' with hp'' | e''
      · exact hP.2 p' hp'' e'
      · subst e''
        have e3 : x = v := e'
        exact absurd (by rw [e3]; exact hv) (disj x (by simp))
  · obtain ⟨p, hp, hs⟩ := h.bot v (inHd v hv)
    rcases mem_last hp with hp' | e'
    · exact ⟨p, hp', hs⟩
    · subst e'
      have h1 := ltHd v hv
      have h2 : seen x ≤ seen v := hs
      omega
/-- How long a walk still goes on. -/
def mu (g : Gr) (walk : List (Nat × Nat)) (clock : Nat) : Nat := (g.length - clock) * 200 + (walk.map fun p => (rowG g p.1).length + 1 - p.2).sum
theorem mu_last (g : Gr) (init : List (Nat × Nat)) (x k clock : Nat) : mu g (init ++ [(x, k)]) clock = (g.length - clock) * 200 + ((init.map fun p => (rowG g p.1).length + 1 - p.2).sum + ((rowG g x).length + 1 - k)) := by
  unfold mu
  rw [List.map_append, List.sum_append]
  simp
theorem mu_next {x k : Nat} (hk : k < (rowG g x).length) : mu g (init ++ [(x, k + 1)]) clock < mu g (init ++ [(x, k)]) clock := by
  rw [mu_last, mu_last]
  omega
theorem mu_meet {x k t : Nat} (hk : k < (rowG g x).length) (hc : clock + 1 ≤ g.length) (hl : (rowG g t).length ≤ 60) : mu g ((init ++ [(x, k + 1)]) ++ [(t, 0)]) (clock + 1) < mu g (init ++ [(x, k)]) clock := by
  have h1 := mu_last g (init ++ [(x, k + 1)]) t 0 (clock + 1)
  have h2 : ((init ++ [(x, k + 1)]).map fun p => (rowG g p.1).length + 1 - p.2).sum = (init.map fun p => (rowG g p.1).length + 1 - p.2).sum + ((rowG g x).length + 1 - (k + 1)) := by
    rw [List.map_append, List.sum_append]
    simp
  rw [h1, h2, mu_last]
  have h3 : (g.length - clock) * 200 = (g.length - (clock + 1)) * 200 + 200 := by
    have : g.length - clock = (g.length - (clock + 1)) + 1 := by omega
    rw [this, Nat.add_mul]
  omega
theorem mu_pop {x k : Nat} (hk : k ≤ (rowG g x).length) : mu g init clock < mu g (init ++ [(x, k)]) clock := by
  rw [mu_last]
  unfold mu
  omega
/-- At the end. -/
theorem Inv.done (h : Inv g [] seen low held home clock) {v : Nat} (hv : v < g.length) (hs : seen v ≠ 0) : IsLst g v (home v).toNat ∧ 0 ≤ home v := by
  have hn : v ∉ held := fun hm => by
    obtain ⟨p, hp, _⟩ := h.bot v hm
    simp at hp
  refine ⟨h.ok v hv hs hn, ?_⟩
  rcases Int.lt_or_le (home v) 0 with hlt | hge
  · exact absurd ⟨hs, hn⟩ ((h.hh v hv).1 hlt)
  · exact hge
end Go.Proofs.Ytnfoahcdmaphnaa
