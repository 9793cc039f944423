/-
  Circles of things, plain: what leads where; the invariant of a walk that keeps its own stack, and its steps.
-/
namespace Go.Proofs.Ytnfoahcdmaphnaa
set_option linter.unusedSimpArgs false
set_option linter.unusedVariables false
abbrev Gr := List (List Int)
def rowG (g : Gr) (v : Nat) : List Int := (g[v]?).getD []
def Ed (g : Gr) (v u : Nat) : Prop := u < g.length ∧ (u : Int) ∈ rowG g v
inductive Rs (g : Gr) : Nat → Nat → Prop
  | refl (v : Nat) : Rs g v v
  | step {a b c : Nat} : Ed g a b → Rs g b c → Rs g a c
theorem Rs.trans {g : Gr} {a b c : Nat} (h : Rs g a b) (k : Rs g b c) : Rs g a c := by
  induction h with
  | refl => exact k
  | step e _ ih => exact .step e (ih k)
theorem Rs.one {g : Gr} {a b : Nat} (h : Ed g a b) : Rs g a b := .step h (.refl b)
theorem Rs.closed {g : Gr} {P : Nat → Prop} (hP : ∀ a b, P a → Ed g a b → P b) {a b : Nat} (h : Rs g a b) (ha : P a) : P b := by
  induction h with
  | refl => exact ha
  | step e _ ih => exact ih (hP _ _ ha e)
def Tg (g : Gr) (a b : Nat) : Prop := Rs g a b ∧ Rs g b a
theorem Tg.symm {g : Gr} {a b : Nat} (h : Tg g a b) : Tg g b a := ⟨h.2, h.1⟩
theorem Tg.trans {g : Gr} {a b c : Nat} (h : Tg g a b) (k : Tg g b c) : Tg g a c := ⟨h.1.trans k.1, k.2.trans h.2⟩
theorem Tg.refl (g : Gr) (a : Nat) : Tg g a a := ⟨.refl a, .refl a⟩
/-- The least that belongs to a thing. -/
def IsLst (g : Gr) (v k : Nat) : Prop := Tg g v k ∧ ∀ j, j < k → ¬ Tg g v j
theorem IsLst.uniq {g : Gr} {v k k' : Nat} (h : IsLst g v k) (h' : IsLst g v k') : k = k' := by
  rcases Nat.lt_trichotomy k k' with e | e | e
  · exact absurd h.1 (h'.2 _ e)
  · exact e
  · exact absurd h'.1 (h.2 _ e)
def upd {α : Type} (f : Nat → α) (a : Nat) (b : α) : Nat → α := fun j => if j = a then b else f j
theorem upd_same {α : Type} (f : Nat → α) (a : Nat) (b : α) : upd f a b a = b := by simp [upd]
theorem upd_other {α : Type} (f : Nat → α) {a j : Nat} (b : α) (h : j ≠ a) : upd f a b j = f j := by simp [upd, h]
/-- An edge that has been looked at. -/
def Proc (g : Gr) (walk : List (Nat × Nat)) (v u : Nat) : Prop := Ed g v u ∧ ∀ p ∈ walk, p.1 = v → (u : Int) ∈ (rowG g v).take p.2
structure Inv (g : Gr) (walk : List (Nat × Nat)) (seen low : Nat → Nat) (held : List Nat) (home : Nat → Int) (clock : Nat) : Prop where
  met : ∃ met : List Nat, met.Nodup ∧ (∀ v, v ∈ met ↔ v < g.length ∧ seen v ≠ 0) ∧ met.length = clock
  sle : ∀ v, v < g.length → seen v ≤ clock
  hs : held.Pairwise (fun a b => seen a < seen b)
  hm : ∀ v ∈ held, v < g.length ∧ seen v ≠ 0
  ws : walk.Pairwise (fun a b => seen a.1 < seen b.1)
  wh : ∀ p ∈ walk, p.1 ∈ held ∧ p.2 ≤ (rowG g p.1).length
  hh : ∀ v, v < g.length → (home v < 0 ↔ ¬ (seen v ≠ 0 ∧ v ∉ held))
  ok : ∀ v, v < g.length → seen v ≠ 0 → v ∉ held → IsLst g v (home v).toNat
  cl : ∀ v u, v < g.length → seen v ≠ 0 → v ∉ held → Ed g v u → seen u ≠ 0 ∧ u ∉ held
  fin : ∀ v ∈ held, (∀ p ∈ walk, p.1 ≠ v) → ∀ u, Ed g v u → seen u ≠ 0
  part : ∀ p ∈ walk, ∀ u, u < g.length → (u : Int) ∈ (rowG g p.1).take p.2 → seen u ≠ 0
  rch : ∀ p ∈ walk, ∀ v ∈ held, seen p.1 ≤ seen v → Rs g p.1 v
  low1 : ∀ p ∈ walk, low p.1 ≤ seen p.1 ∧ ∃ u ∈ held, seen u = low p.1 ∧ Rs g p.1 u
  low2 : ∀ v ∈ held, (∀ p ∈ walk, p.1 ≠ v) → ∃ u ∈ held, seen u < seen v ∧ Rs g v u
  low3 : ∀ p ∈ walk, ∀ v ∈ held, seen p.1 ≤ seen v → (∀ q ∈ walk, seen p.1 < seen q.1 → seen v < seen q.1) → ∀ u ∈ held, Proc g walk v u → low p.1 ≤ seen u
  bot : ∀ v ∈ held, ∃ p ∈ walk, seen p.1 ≤ seen v
variable {g : Gr} {walk init : List (Nat × Nat)} {seen low : Nat → Nat} {held : List Nat} {home : Nat → Int} {clock : Nat}
theorem pw_inj {α : Type} {f : α → Nat} : ∀ {l : List α}, l.Pairwise (fun a b => f a < f b) → ∀ {a b : α}, a ∈ l → b ∈ l → f a = f b → a = b
  | [], _, _, _, ha, _, _ => by simp at ha
  | x :: l, h, a, b, ha, hb, e => by
    obtain ⟨h1, h2⟩ := List.pairwise_cons.1 h
    rcases List.mem_cons.1 ha with ea | ha' <;> rcases List.mem_cons.1 hb with eb | hb'
    · rw [ea, eb]
    · have := h1 b hb'; rw [← ea] at this; omega
    · have := h1 a ha'; rw [← eb] at this; omega
    · exact pw_inj h2 ha' hb' e
theorem nodup_le : ∀ (n : Nat) (l : List Nat), l.Nodup → (∀ v ∈ l, v < n) → l.length ≤ n
  | 0, l, _, h => by
    cases l with
    | nil => simp
    | cons a l => exact absurd (h a (by simp)) (by omega)
  | n + 1, l, hd, h => by
    have h1 := nodup_le n (l.erase n) (hd.erase n) (fun v hv => by
      have := (hd.mem_erase_iff).1 hv
      have := h v this.2
      omega)
    have h2 : l.length ≤ (l.erase n).length + 1 := by
      rw [List.length_erase]
      split <;> omega
    omega
theorem Inv.clock_le (h : Inv g walk seen low held home clock) : clock ≤ g.length := by
  obtain ⟨met, hnd, hmem, hl⟩ := h.met
  rw [← hl]
  exact nodup_le _ met hnd fun v hv => ((hmem v).1 hv).1
theorem met_add (h : Inv g walk seen low held home clock) {v : Nat} (hv : v < g.length) (h0 : seen v = 0) : ∃ met : List Nat, met.Nodup ∧ (∀ u, u ∈ met ↔ u < g.length ∧ upd seen v (clock + 1) u ≠ 0) ∧ met.length = clock + 1 := by
  obtain ⟨met, hnd, hmem, hl⟩ := h.met
  refine ⟨v :: met, List.nodup_cons.2 ⟨fun hm => ((hmem v).1 hm).2 h0, hnd⟩, fun u => ?_, by simp [hl]⟩
  rw [List.mem_cons, hmem u]
  by_cases e : u = v
  · subst e; simp [upd_same, hv]
  · simp [upd_other, e]
theorem bar {v u clock : Nat} {g : Gr} {walk : List (Nat × Nat)} {seen low : Nat → Nat} {held : List Nat} {home : Nat → Int} (h : Inv g walk seen low held home clock) (h0 : seen v = 0) (hu : u ∈ held) : u ≠ v := fun e => (h.hm u hu).2 (by rw [e]; exact h0)
theorem Inv.start (h : Inv g [] seen low [] home clock) {v : Nat} (hv : v < g.length) (h0 : seen v = 0) : Inv g [(v, 0)] (upd seen v (clock + 1)) (upd low v (clock + 1)) [v] home (clock + 1) where
  met := met_add h hv h0
  sle := fun u hu => by
    by_cases e : u = v
    · subst e; rw [upd_same]; omega
    · rw [upd_other _ _ e]; have := h.sle u hu; omega
  hs := by simp
  hm := fun u hu => by
    rw [List.mem_singleton] at hu
    subst hu
    exact ⟨hv, by rw [upd_same]; omega⟩
  ws := by simp
  wh := fun p hp => by
    rw [List.mem_singleton] at hp
    subst hp
    exact ⟨by simp, by omega⟩
  hh := fun u hu => by
    rw [h.hh u hu]
    by_cases e : u = v
    · subst e; simp [h0]
    · simp [upd_other _ _ e, e]
  ok := fun u hu hs hn => by
    rw [List.mem_singleton] at hn
    rw [upd_other _ _ hn] at hs
    exact h.ok u hu hs (by simp)
  cl := fun a b ha hs hn hE => by
    rw [List.mem_singleton] at hn
    rw [upd_other _ _ hn] at hs
    obtain ⟨h1, _⟩ := h.cl a b ha hs (by simp) hE
    have hb : b ≠ v := fun e => h1 (by rw [e]; exact h0)
    exact ⟨by rw [upd_other _ _ hb]; exact h1, by simpa using hb⟩
  fin := fun u hu hn => by
    rw [List.mem_singleton] at hu
    subst hu
    exact absurd rfl (hn (u, 0) (by simp))
  part := fun p hp u _ hm => by
    rw [List.mem_singleton] at hp
    subst hp
    simp at hm
  rch := fun p hp u hu _ => by
    rw [List.mem_singleton] at hp hu
    subst hp
    subst hu
    exact .refl _
  low1 := fun p hp => by
    rw [List.mem_singleton] at hp
    subst hp
    exact ⟨by simp [upd_same], v, by simp, by simp [upd_same], .refl _⟩
  low2 := fun u hu hn => by
    rw [List.mem_singleton] at hu
    subst hu
    exact absurd rfl (hn (u, 0) (by simp))
  low3 := fun p hp u hu _ _ x hx hP => by
    rw [List.mem_singleton] at hp hu hx
    subst hp hu hx
    simp [upd_same]
  bot := fun u hu => by
    rw [List.mem_singleton] at hu
    subst hu
    exact ⟨(u, 0), by simp, Nat.le_refl _⟩
/-- Where the last of a walk stands. -/
theorem Inv.top {x k : Nat} (h : Inv g (init ++ [(x, k)]) seen low held home clock) {p : Nat × Nat} (hp : p ∈ init) : seen p.1 < seen x := by
  exact (List.pairwise_append.1 h.ws).2.2 p hp (x, k) (by simp)
theorem mem_last {α : Type} {l : List α} {a b : α} (h : a ∈ l ++ [b]) : a ∈ l ∨ a = b := by simpa using h
/-- One thing more of the last one's row is looked at: what stands of the walk is told by the other walk. -/
theorem take_next {l : List Int} {k : Nat} {t : Int} (h : l[k]? = some t) : l.take (k + 1) = l.take k ++ [t] := by
  obtain ⟨hk, rfl⟩ := List.getElem?_eq_some_iff.1 h
  rw [List.take_add_one, h]
  rfl
theorem Inv.x_held {x k : Nat} (h : Inv g (init ++ [(x, k)]) seen low held home clock) : x ∈ held := (h.wh (x, k) (by simp)).1
theorem Inv.x_lt {x k : Nat} (h : Inv g (init ++ [(x, k)]) seen low held home clock) : x < g.length ∧ seen x ≠ 0 := h.hm x h.x_held
/-- Whatever is held and not met ahead of the last one stands behind it. -/
theorem Inv.ne_init {x k : Nat} (h : Inv g (init ++ [(x, k)]) seen low held home clock) {p : Nat × Nat} (hp : p ∈ init) : p.1 ≠ x := fun e => by
  have := h.top hp
  rw [e] at this
  omega
/-- The common part of 'skip' and 'back': the low numbers may have turned at the last one alone. -/
theorem Inv.look {x k : Nat} {t : Int} {low' : Nat → Nat} (h : Inv g (init ++ [(x, k)]) seen low held home clock) (ht : (rowG g x)[k]? = some t)
    (hmet : ∀ u : Nat, u < g.length → (u : Int) = t → seen u ≠ 0) (hlo : ∀ v, v ≠ x → low' v = low v) (hle : low' x ≤ low x)
    (hx : ∃ u ∈ held, seen u = low' x ∧ Rs g x u) (hnew : ∀ u ∈ held, (u : Int) = t → low' x ≤ seen u) : Inv g (init ++ [(x, k + 1)]) seen low' held home clock := by
  have hlt : k < (rowG g x).length := (List.getElem?_eq_some_iff.1 ht).1
  have toOld : ∀ p, p ∈ init ++ [(x, k + 1)] → ∃ q ∈ init ++ [(x, k)], q.1 = p.1 := fun p hp => by
    rcases mem_last hp with hp | rfl
    · exact ⟨p, by simp [hp], rfl⟩
    · exact ⟨(x, k), by simp, rfl⟩
  have toNew : ∀ p, p ∈ init ++ [(x, k)] → ∃ q ∈ init ++ [(x, k + 1)], q.1 = p.1 := fun p hp => by
    rcases mem_last hp with hp | rfl
    · exact ⟨p, by simp [hp], rfl⟩
    · exact ⟨(x, k + 1), by simp, rfl⟩
  have off : ∀ v, (∀ p ∈ init ++ [(x, k + 1)], p.1 ≠ v) → ∀ p ∈ init ++ [(x, k)], p.1 ≠ v := fun v hv p hp => by
    obtain ⟨q, hq, e⟩ := toNew p hp
    rw [← e]
    exact hv q hq
  refine ⟨h.met, h.sle, h.hs, h.hm, ?_, ?_, h.hh, h.ok, h.cl, fun v hv hn => h.fin v hv (off v hn), ?_, ?_, ?_, fun v hv hn => h.low2 v hv (off v hn), ?_, ?_⟩
  · have := List.pairwise_append.1 h.ws
    exact List.pairwise_append.2 ⟨this.1, by simp, fun a ha b hb => by
      rw [List.mem_singleton] at hb
      subst hb
      exact this.2.2 a ha (x, k) (by simp)⟩
  · intro p hp
    rcases mem_last hp with hp | rfl
    · exact h.wh p (by simp [hp])
    · exact ⟨h.x_held, hlt⟩
  · intro p hp u hu hm
    rcases mem_last hp with hp | rfl
    · exact h.part p (by simp [hp]) u hu hm
    · rw [take_next ht] at hm
      rcases mem_last hm with hm | hm
      · exact h.part (x, k) (by simp) u hu hm
      · exact hmet u hu hm
  · intro p hp v hv hs
    obtain ⟨q, hq, e⟩ := toOld p hp
    rw [← e] at hs ⊢
    exact h.rch q hq v hv hs
  · intro p hp
    rcases mem_last hp with hp | rfl
    · have := h.low1 p (by simp [hp])
      rw [hlo _ (h.ne_init hp)]
      exact this
    · exact ⟨Nat.le_trans hle (h.low1 (x, k) (by simp)).1, hx⟩
  · intro p hp v hv hs hb u hu hP
    have hb' : ∀ q ∈ init ++ [(x, k)], seen p.1 < seen q.1 → seen v < seen q.1 := fun q hq hlt => by
      obtain ⟨q', hq', e⟩ := toNew q hq
      rw [← e] at hlt ⊢
      exact hb q' hq' hlt
    obtain ⟨q, hq, e⟩ := toOld p hp
    by_cases hvx : v = x
    · subst hvx
      have hPx := hP.2 (v, k + 1) (by simp) rfl
      have hpx : p.1 = v := by
        rcases mem_last hp with hp' | rfl
        · have h9 : seen v < seen v := hb (v, k + 1) (by simp) (h.top hp')
          omega
        · rfl
      rw [hpx]
      rw [take_next ht] at hPx
      rcases mem_last hPx with hm | hm
      · refine Nat.le_trans hle ?_
        have := h.low3 (v, k) (by simp) v hv (Nat.le_refl _) (fun q hq hlt => hlt) u hu ⟨hP.1, fun p' hp' e' => by
          rcases mem_last hp' with hp'' | rfl
          · exact absurd e' (h.ne_init hp'')
          · exact hm⟩
        exact this
      · exact hnew u hu hm
    · have hP' : Proc g (init ++ [(x, k)]) v u := ⟨hP.1, fun p' hp' e' => by
        rcases mem_last hp' with hp'' | rfl
        · exact hP.2 p' (by simp [hp'']) e'
        · exact absurd e'.symm hvx⟩
      have := h.low3 q hq v hv (by rw [e]; exact hs) (by rw [e]; exact hb') u hu hP'
      rw [e] at this
      by_cases hpx : p.1 = x
      · rw [hpx] at this ⊢
        exact Nat.le_trans hle this
      · rw [hlo _ hpx]
        exact this
  · intro v hv
    obtain ⟨p, hp, hs⟩ := h.bot v hv
    obtain ⟨q, hq, e⟩ := toNew p hp
    exact ⟨q, hq, by rw [e]; exact hs⟩
/-- A number that is no thing, or one of a circle that is known. -/
theorem Inv.skip {x k : Nat} {t : Int} (h : Inv g (init ++ [(x, k)]) seen low held home clock) (ht : (rowG g x)[k]? = some t)
    (hc : ∀ u : Nat, u < g.length → (u : Int) = t → seen u ≠ 0 ∧ 0 ≤ home u) : Inv g (init ++ [(x, k + 1)]) seen low held home clock :=
  h.look ht (fun u hu e => (hc u hu e).1) (fun _ _ => rfl) (Nat.le_refl _) (h.low1 (x, k) (by simp)).2 fun u hu e => by
    obtain ⟨hl, hs⟩ := h.hm u hu
    have h1 := (hc u hl e).2
    have h2 := (h.hh u hl).2 (fun h3 => h3.2 hu)
    omega
/-- One that is held. -/
theorem Inv.back {x k t : Nat} (h : Inv g (init ++ [(x, k)]) seen low held home clock) (ht : (rowG g x)[k]? = some (t : Int)) (hlt : t < g.length) (hs : seen t ≠ 0) (hh : home t < 0) :
    Inv g (init ++ [(x, k + 1)]) seen (upd low x (min (low x) (seen t))) held home clock := by
  have hheld : t ∈ held := by
    have := (h.hh t hlt).1 hh
    exact Classical.byContradiction fun hn => this ⟨hs, hn⟩
  obtain ⟨h1, u, hu, h2, h3⟩ := h.low1 (x, k) (by simp)
  refine h.look ht (fun u hu e => by have : u = t := by omega
                                     rw [this]; exact hs) (fun v hv => upd_other _ _ hv) (by rw [upd_same]; exact Nat.min_le_left _ _) ?_ (fun u hu e => by
    have : u = t := by omega
    rw [this, upd_same]
    exact Nat.min_le_right _ _)
  rw [upd_same]
  by_cases hm : low x ≤ seen t
  · rw [Nat.min_eq_left hm]
    exact ⟨u, hu, h2, h3⟩
  · rw [Nat.min_eq_right (by omega)]
    exact ⟨t, hheld, rfl, .one ⟨hlt, List.mem_of_getElem? ht⟩⟩
/-- One that has not been met. -/
theorem Inv.meet {x k t : Nat} (h : Inv g (init ++ [(x, k)]) seen low held home clock) (ht : (rowG g x)[k]? = some (t : Int)) (hlt : t < g.length) (h0 : seen t = 0) :
    Inv g ((init ++ [(x, k + 1)]) ++ [(t, 0)]) (upd seen t (clock + 1)) (upd low t (clock + 1)) (held ++ [t]) home (clock + 1) := by
  have hth : t ∉ held := fun hm => (h.hm t hm).2 h0
  have hne : ∀ u ∈ held, u ≠ t := fun u hu e => hth (e ▸ hu)
  have hxt : x ≠ t := hne x h.x_held
  have sn : ∀ u, u ≠ t → upd seen t (clock + 1) u = seen u := fun u hu => upd_other _ _ hu
  have st : upd seen t (clock + 1) t = clock + 1 := upd_same _ _ _
  have hsl : ∀ u ∈ held, seen u < clock + 1 := fun u hu => by have := h.sle u (h.hm u hu).1; omega
  have snw : ∀ p ∈ init ++ [(x, k + 1)], p.1 ∈ held := fun p hp => by
    rcases mem_last hp with hp | rfl
    · exact (h.wh p (by simp [hp])).1
    · exact h.x_held
  have toNew : ∀ p, p ∈ init ++ [(x, k)] → ∃ q ∈ init ++ [(x, k + 1)], q.1 = p.1 := fun p hp => by
    rcases mem_last hp with hp | rfl
    · exact ⟨p, by simp [hp], rfl⟩
    · exact ⟨(x, k + 1), by simp, rfl⟩
  have toOld : ∀ p, p ∈ init ++ [(x, k + 1)] → ∃ q ∈ init ++ [(x, k)], q.1 = p.1 := fun p hp => by
    rcases mem_last hp with hp | rfl
    · exact ⟨p, by simp [hp], rfl⟩
    · exact ⟨(x, k), by simp, rfl⟩
  have hlk : k < (rowG g x).length := (List.getElem?_eq_some_iff.1 ht).1
  refine ⟨met_add h hlt h0, ?_, ?_, ?_, ?_, ?_, ?_, ?_, ?_, ?_, ?_, ?_, ?_, ?_, ?_, ?_⟩
  · intro u hu
    by_cases e : u = t
    · subst e; rw [st]; omega
    · rw [sn u e]; have := h.sle u hu; omega
  · refine List.pairwise_append.2 ⟨?_, by simp, fun a ha b hb => ?_⟩
    · exact h.hs.imp_of_mem fun ha hb hab => by rw [sn _ (hne _ ha), sn _ (hne _ hb)]; exact hab
    · rw [List.mem_singleton] at hb
      subst hb
      rw [st, sn _ (hne _ ha)]
      exact hsl a ha
  · intro u hu
    rcases mem_last hu with hu | rfl
    · rw [sn _ (hne u hu)]; exact h.hm u hu
    · exact ⟨hlt, by rw [st]; omega⟩
  · refine List.pairwise_append.2 ⟨?_, by simp, fun a ha b hb => ?_⟩
    · have hw := List.pairwise_append.1 h.ws
      refine List.pairwise_append.2 ⟨hw.1.imp_of_mem fun ha hb hab => ?_, by simp, fun a ha b hb => ?_⟩
      · rw [sn _ (hne _ (snw _ (by simp [ha]))), sn _ (hne _ (snw _ (by simp [hb])))]; exact hab
      · rw [List.mem_singleton] at hb
        subst hb
        rw [sn _ (hne _ (snw _ (by simp [ha]))), sn _ hxt]
        exact h.top ha
    · rw [List.mem_singleton] at hb
      subst hb
      rw [st, sn _ (hne _ (snw a ha))]
      exact hsl _ (snw a ha)
  · intro p hp
    rcases mem_last hp with hp | rfl
    · refine ⟨by simp [snw p hp], ?_⟩
      rcases mem_last hp with hp | rfl
      · exact (h.wh p (by simp [hp])).2
      · exact hlk
    · exact ⟨by simp, Nat.zero_le _⟩
  · intro u hu
    rw [h.hh u hu]
    by_cases e : u = t
    · subst e; simp [h0]
    · simp [sn u e, e]
  · intro u hu hs hn
    have e : u ≠ t := fun e => hn (by simp [e])
    rw [sn u e] at hs
    exact h.ok u hu hs (fun hm => hn (by simp [hm]))
  · intro a b ha hs hn hE
    have e : a ≠ t := fun e => hn (by simp [e])
    rw [sn a e] at hs
    obtain ⟨h1, h2⟩ := h.cl a b ha hs (fun hm => hn (by simp [hm])) hE
    have hb : b ≠ t := fun e => h1 (by rw [e]; exact h0)
    exact ⟨by rw [sn b hb]; exact h1, by simp [h2, hb]⟩
  · intro v hv hn u hE
    by_cases e : u = t
    · subst e; rw [st]; omega
    · rw [sn u e]
      rcases mem_last hv with hv | rfl
      · exact h.fin v hv (fun p hp => by
          obtain ⟨q, hq, e⟩ := toNew p hp
          rw [← e]
          exact hn q (List.mem_append_left _ hq)) u hE
      · exact absurd rfl (hn (v, 0) (by simp))
  · intro p hp u hu hm
    by_cases e : u = t
    · subst e; rw [st]; omega
    · rw [sn u e]
      rcases mem_last hp with hp | rfl
      · rcases mem_last hp with hp | rfl
        · exact h.part p (by simp [hp]) u hu hm
        · rw [take_next ht] at hm
          rcases mem_last hm with hm | hm
          · exact h.part (x, k) (by simp) u hu hm
          · exact absurd (by omega) e
      · simp at hm
  · intro p hp v hv hs
    rcases mem_last hp with hp1 | rfl
    · obtain ⟨q, hq, e⟩ := toOld p hp1
      rw [sn _ (hne _ (snw p hp1))] at hs
      rcases mem_last hv with hv | rfl
      · rw [sn _ (hne _ hv)] at hs
        rw [← e] at hs ⊢
        exact h.rch q hq v hv hs
      · have h1 : Rs g p.1 x := by
          have h2 : seen p.1 ≤ seen x := by
            rcases mem_last hp1 with hp' | e'
            · exact Nat.le_of_lt (h.top hp')
            · rw [e']; exact Nat.le_refl _
          rw [← e] at h2 ⊢
          exact h.rch q hq x h.x_held h2
        exact h1.trans (.one ⟨hlt, List.mem_of_getElem? ht⟩)
    · rcases mem_last hv with hv | rfl
      · rw [sn _ (hne _ hv)] at hs
        have h1 := hsl v hv
        have h2 : clock + 1 ≤ seen v := by rw [← st]; exact hs
        omega
      · exact .refl _
  · intro p hp
    rcases mem_last hp with hp | rfl
    · obtain ⟨q, hq, e⟩ := toOld p hp
      have hpt := hne _ (snw p hp)
      rw [sn _ hpt, upd_other _ _ hpt, ← e]
      obtain ⟨h1, u, hu, h2, h3⟩ := h.low1 q hq
      exact ⟨h1, u, by simp [hu], by rw [sn _ (hne u hu)]; exact h2, h3⟩
    · exact ⟨by simp [upd_same], t, by simp, by simp [upd_same], .refl _⟩
  · intro v hv hn
    rcases mem_last hv with hv | rfl
    · obtain ⟨u, hu, h2, h3⟩ := h.low2 v hv (fun p hp => by
        obtain ⟨q, hq, e⟩ := toNew p hp
        rw [← e]
        exact hn q (List.mem_append_left _ hq))
      exact ⟨u, by simp [hu], by rw [sn _ (hne u hu), sn _ (hne v hv)]; exact h2, h3⟩
    · exact absurd rfl (hn (v, 0) (by simp))
  · intro p hp v hv hs hb u hu hP
    rcases mem_last hp with hp1 | rfl
    · obtain ⟨q, hq, e⟩ := toOld p hp1
      have hpt := hne _ (snw p hp1)
      have hvt : v ∈ held := by
        rcases mem_last hv with hv | rfl
        · exact hv
        · have h1 := hb (v, 0) (by simp) (by show upd seen v (clock + 1) p.1 < upd seen v (clock + 1) v; rw [st, sn _ hpt]; exact hsl _ (snw p hp1))
          exact absurd h1 (Nat.lt_irrefl _)
      rw [sn _ hpt, sn _ (hne v hvt)] at hs
      rw [upd_other _ _ hpt]
      have hb' : ∀ q' ∈ init ++ [(x, k)], seen p.1 < seen q'.1 → seen v < seen q'.1 := fun q' hq' hlt' => by
        obtain ⟨r, hr, er⟩ := toNew q' hq'
        rw [← er] at hlt' ⊢
        have hrt := hne _ (snw r hr)
        have := hb r (List.mem_append_left _ hr) (by rw [sn _ hpt, sn _ hrt]; exact hlt')
        rw [sn _ (hne v hvt), sn _ hrt] at this
        exact this
      rcases mem_last hu with hu | rfl
      · rw [sn _ (hne u hu)]
        by_cases hvx : v = x
        · subst hvx
          have hPx := hP.2 (v, k + 1) (by simp) rfl
          rw [take_next ht] at hPx
          rcases mem_last hPx with hm | hm
          · have := h.low3 q hq v hvt (by rw [e]; exact hs) (by rw [e]; exact hb') u hu ⟨hP.1, fun p' hp' e' => by
              rcases mem_last hp' with hp'' | rfl
              · exact absurd e' (h.ne_init hp'')
              · exact hm⟩
            rw [e] at this
            exact this
          · exact absurd (by omega : u = t) (hne u hu)
        · have := h.low3 q hq v hvt (by rw [e]; exact hs) (by rw [e]; exact hb') u hu ⟨hP.1, fun p' hp' e' => by
            rcases mem_last hp' with hp'' | rfl
            · exact hP.2 p' (by simp [hp'']) e'
            · exact absurd e'.symm hvx⟩
          rw [e] at this
          exact this
      · rw [st]
        have h1 := (h.low1 q hq).1
        rw [e] at h1
        have := hsl _ (snw p hp1)
        omega
    · rcases mem_last hv with hv | rfl
      · rw [sn _ (hne _ hv)] at hs
        have h1 := hsl v hv
        have h2 : clock + 1 ≤ seen v := by rw [← st]; exact hs
        omega
      · have := hP.2 (v, 0) (by simp) rfl
        simp at this
  · intro v hv
    rcases mem_last hv with hv | rfl
    · obtain ⟨p, hp, hs⟩ := h.bot v hv
      obtain ⟨q, hq, e⟩ := toNew p hp
      refine ⟨q, List.mem_append_left _ hq, ?_⟩
      rw [sn _ (hne v hv), sn _ (hne _ (snw q hq)), e]
      exact hs
    · exact ⟨(v, 0), by simp, Nat.le_refl _⟩
end Go.Proofs.Ytnfoahcdmaphnaa
