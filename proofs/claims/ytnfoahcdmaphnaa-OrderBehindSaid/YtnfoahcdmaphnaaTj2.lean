/-
  Circles of things, plain: by which steps one comes to another; the order of those that stand for all.
-/
import Derived.Test.YtnfoahcdmaphnaaTj1
namespace Go.Proofs.Ytnfoahcdmaphnaa
set_option linter.unusedSimpArgs false
set_option linter.unusedVariables false
variable {g : Gr}
theorem Ed.lt {v u : Nat} (h : Ed g v u) : v < g.length := by
  rcases Nat.lt_or_ge v g.length with h1 | h1
  · exact h1
  · have := h.2
    unfold rowG at this
    rw [List.getElem?_eq_none h1] at this
    simp at this
/-- By one step or more. -/
def Rp (g : Gr) (a b : Nat) : Prop := ∃ m, Ed g a m ∧ Rs g m b
theorem Rp.rs {a b : Nat} (h : Rp g a b) : Rs g a b := by
  obtain ⟨m, h1, h2⟩ := h
  exact .step h1 h2
theorem Rp.lt {a b : Nat} (h : Rp g a b) : a < g.length := by
  obtain ⟨m, h1, _⟩ := h
  exact h1.lt
theorem Rs.or {a b : Nat} (h : Rs g a b) : a = b ∨ Rp g a b := by
  cases h with
  | refl => exact .inl rfl
  | step e k => exact .inr ⟨_, e, k⟩
theorem Rp.of {a b : Nat} (h : Rs g a b) (hne : a ≠ b) : Rp g a b := h.or.resolve_left hne
theorem Rp.trans {a b c : Nat} (h : Rp g a b) (k : Rs g b c) : Rp g a c := by
  obtain ⟨m, h1, h2⟩ := h
  exact ⟨m, h1, h2.trans k⟩
theorem Rs.rp {a b c : Nat} (h : Rs g a b) (k : Rp g b c) : Rp g a c := by
  rcases h.or with rfl | h
  · exact k
  · exact h.trans k.rs
theorem Rs.lt {a b : Nat} (h : Rs g a b) (ha : a < g.length) : b < g.length := by
  induction h with
  | refl => exact ha
  | step e _ ih => exact ih e.1
/-- By things ahead of k. -/
inductive Pv (g : Gr) (k : Nat) : Nat → Nat → Prop
  | one {i j : Nat} : Ed g i j → Pv g k i j
  | step {i m j : Nat} : Ed g i m → m < k → Pv g k m j → Pv g k i j
theorem Pv.succ {k i j : Nat} (h : Pv g (k + 1) i j) : Pv g k i j ∨ (Pv g k i k ∧ Pv g k k j) := by
  induction h with
  | one e => exact .inl (.one e)
  | @step i m j e hm _ ih =>
    by_cases hk : m = k
    · subst hk
      rcases ih with h1 | ⟨_, h1⟩
      · exact .inr ⟨.one e, h1⟩
      · exact .inr ⟨.one e, h1⟩
    · rcases ih with h1 | ⟨h1, h2⟩
      · exact .inl (.step e (by omega) h1)
      · exact .inr ⟨.step e (by omega) h1, h2⟩
theorem Pv.of {i j : Nat} (h : Rp g i j) : Pv g g.length i j := by
  obtain ⟨m, h1, h2⟩ := h
  induction h2 generalizing i with
  | refl => exact .one h1
  | step e _ ih => exact .step h1 h1.1 (ih e)
theorem Pv.zero {i j : Nat} (h : Pv g 0 i j) : Ed g i j := by
  cases h with
  | one e => exact e
  | step _ h _ => omega
/-- A table of which the closure is made. -/
def SndR (g : Gr) (r : Nat → Nat → Bool) : Prop := ∀ i j, r i j = true → Rp g i j
def CplR (g : Gr) (k : Nat) (r : Nat → Nat → Bool) : Prop := ∀ i j, Pv g k i j → r i j = true
def upd2 (r : Nat → Nat → Bool) (a b : Nat) (v : Bool) : Nat → Nat → Bool := fun i j => if i = a ∧ j = b then v else r i j
theorem SndR.put {r : Nat → Nat → Bool} (h : SndR g r) {i k j : Nat} (h1 : r i k = true) (h2 : r k j = true) : SndR g (upd2 r i j true) := fun a b hab => by
  unfold upd2 at hab
  split at hab
  · rename_i e
    rw [e.1, e.2]
    exact (h i k h1).trans (h k j h2).rs
  · exact h a b hab
theorem upd2_mono {r : Nat → Nat → Bool} {i j a b : Nat} (h : r a b = true) : upd2 r i j true a b = true := by
  unfold upd2
  split
  · rfl
  · exact h
/-- In the midst of round k: what was there is there; what is looked at is done. -/
structure Mid (g : Gr) (k : Nat) (r0 r : Nat → Nat → Bool) (i j : Nat) : Prop where
  snd : SndR g r
  mono : ∀ a b, r0 a b = true → r a b = true
  did : ∀ a b, a < g.length → b < g.length → (a < i ∨ (a = i ∧ b < j)) → r0 a k = true → r0 k b = true → r a b = true
theorem Mid.start {k : Nat} {r : Nat → Nat → Bool} (h : SndR g r) : Mid g k r r 0 0 := ⟨h, fun _ _ h => h, fun a b _ _ h => by omega⟩
theorem Mid.skip {k i j : Nat} {r0 r : Nat → Nat → Bool} (h : Mid g k r0 r i j) (hn : ¬ (r i k = true ∧ r k j = true)) : Mid g k r0 r i (j + 1) := by
  refine ⟨h.snd, h.mono, fun a b ha hb hab h1 h2 => ?_⟩
  by_cases e : a = i ∧ b = j
  · obtain ⟨rfl, rfl⟩ := e
    exact absurd ⟨h.mono _ _ h1, h.mono _ _ h2⟩ hn
  · exact h.did a b ha hb (by omega) h1 h2
theorem Mid.put {k i j : Nat} {r0 r : Nat → Nat → Bool} (h : Mid g k r0 r i j) (h1 : r i k = true) (h2 : r k j = true) : Mid g k r0 (upd2 r i j true) i (j + 1) := by
  refine ⟨h.snd.put h1 h2, fun a b hab => upd2_mono (h.mono a b hab), fun a b ha hb hab h3 h4 => ?_⟩
  by_cases e : a = i ∧ b = j
  · simp [upd2, e]
  · exact upd2_mono (h.did a b ha hb (by omega) h3 h4)
theorem Mid.row {k i : Nat} {r0 r : Nat → Nat → Bool} (h : Mid g k r0 r i g.length) : Mid g k r0 r (i + 1) 0 :=
  ⟨h.snd, h.mono, fun a b ha hb hab h1 h2 => h.did a b ha hb (by omega) h1 h2⟩
theorem Mid.done {k : Nat} {r0 r : Nat → Nat → Bool} (h : Mid g k r0 r g.length 0) (hc : CplR g k r0) : CplR g (k + 1) r := fun i j hP => by
  have hi : i < g.length := by
    cases hP with
    | one e => exact e.lt
    | step e _ _ => exact e.lt
  have hj : j < g.length := by
    clear h hc hi
    induction hP with
    | one e => exact e.1
    | step _ _ _ ih => exact ih
  rcases hP.succ with h1 | ⟨h1, h2⟩
  · exact h.mono _ _ (hc _ _ h1)
  · exact h.did i j hi hj (by omega) (hc _ _ h1) (hc _ _ h2)
theorem full_iff {r : Nat → Nat → Bool} (hs : SndR g r) (hc : CplR g g.length r) (i j : Nat) : r i j = true ↔ Rp g i j := ⟨hs i j, fun h => hc i j (Pv.of h)⟩
/-! ### those that stand for all -/
/-- Of each thing the least that belongs to it. -/
def LstF (g : Gr) (l : Nat → Nat) : Prop := ∀ v, v < g.length → IsLst g v (l v)
section
variable {l : Nat → Nat} (hl : LstF g l)
include hl
theorem LstF.le {v : Nat} (hv : v < g.length) : l v ≤ v := by
  rcases Nat.lt_or_ge v (l v) with h | h
  · exact absurd (Tg.refl g v) ((hl v hv).2 v h)
  · exact h
theorem LstF.lt {v : Nat} (hv : v < g.length) : l v < g.length := by have := hl.le hv; omega
theorem LstF.eq {v u : Nat} (hv : v < g.length) (hu : u < g.length) (h : Tg g v u) : l v = l u := by
  have h1 := hl v hv
  have h2 := hl u hu
  exact h1.uniq ⟨h.trans h2.1, fun j hj hT => h2.2 j hj (h.symm.trans hT)⟩
theorem LstF.idem {v : Nat} (hv : v < g.length) : l (l v) = l v := (hl.eq hv (hl.lt hv) (hl v hv).1).symm
theorem LstF.tg {v u : Nat} (hv : v < g.length) (hu : u < g.length) (h : l v = l u) : Tg g v u := (hl v hv).1.trans (by rw [h]; exact (hl u hu).1.symm)
end
theorem LstF.uniq {l l' : Nat → Nat} (h : LstF g l) (h' : LstF g l') {v : Nat} (hv : v < g.length) : l v = l' v := (h v hv).uniq (h' v hv)
/-- What is done is done with all that it leads to. -/
def DC (g : Gr) (l : Nat → Nat) (d : Nat → Bool) : Prop := ∀ a u, a < g.length → d a = true → Rs g a u → d (l u) = true
/-- All that belong to it lead to none that is still to come, but to themselves. -/
def FreeP (g : Gr) (l : Nat → Nat) (d : Nat → Bool) (n : Nat) : Prop := ∀ i to, i < g.length → l i = n → Ed g i to → l to ≠ n → d (l to) = true
def FreeD (g : Gr) (l : Nat → Nat) (d : Nat → Bool) (n : Nat) : Prop := ∀ j, Rp g n j → l j ≠ n → d (l j) = true
theorem free_iff {l : Nat → Nat} (hl : LstF g l) {d : Nat → Bool} (hd : DC g l d) {n : Nat} (hn : n < g.length) (hln : l n = n) : FreeP g l d n ↔ FreeD g l d n := by
  constructor
  · intro h j hj hne
    have hP := hj.rs.closed (P := fun x => x < g.length ∧ (l x = n ∨ d (l x) = true)) (fun a b ha hE => by
      refine ⟨hE.1, ?_⟩
      rcases ha.2 with h1 | h1
      · by_cases hb : l b = n
        · exact .inl hb
        · exact .inr (h a b ha.1 h1 hE hb)
      · exact .inr (hd (l a) b (hl.lt ha.1) h1 ((hl a ha.1).1.2.trans (.one hE)))) ⟨hn, .inl hln⟩
    exact hP.2.resolve_left hne
  · intro h i to hi hln' hE hne
    refine h to ?_ hne
    have h1 : Rs g n i := by rw [← hln']; exact (hl i hi).1.2
    exact h1.rp ⟨to, hE, .refl _⟩
structure Cand (g : Gr) (l : Nat → Nat) (d : Nat → Bool) (n : Nat) : Prop where
  lt : n < g.length
  self : l n = n
  new : d n = false
  free : FreeD g l d n
/-- One after the other the least that may be taken. -/
inductive Picks (g : Gr) (l : Nat → Nat) : (Nat → Bool) → List Nat → Prop
  | start : Picks g l (fun _ => false) []
  | pick {d : Nat → Bool} {o : List Nat} {n : Nat} : Picks g l d o → Cand g l d n → (∀ m, m < n → ¬ Cand g l d m) → Picks g l (upd d n true) (o ++ [n])
theorem Picks.dc {l : Nat → Nat} (hl : LstF g l) {d : Nat → Bool} {o : List Nat} (h : Picks g l d o) : DC g l d := by
  induction h with
  | start => intro a u _ h _; cases h
  | @pick d o n hp hc hm ih =>
    intro a u ha hda hr
    by_cases e : l u = n
    · rw [e]; exact upd_same _ _ _
    · rw [upd_other _ _ e]
      by_cases ea : a = n
      · subst ea
        refine hc.free u (Rp.of hr (fun e2 => e ?_)) e
        rw [← e2]
        exact hc.self
      · rw [upd_other _ _ ea] at hda
        exact ih a u ha hda hr
theorem Picks.mem {l : Nat → Nat} {d : Nat → Bool} {o : List Nat} (h : Picks g l d o) : ∀ x, d x = true ↔ x ∈ o := by
  induction h with
  | start => intro x; simp
  | @pick d o n _ _ _ ih =>
    intro x
    by_cases e : x = n
    · subst e; simp [upd_same]
    · rw [upd_other _ _ e, ih x]; simp [e]
theorem Picks.nodup {l : Nat → Nat} {d : Nat → Bool} {o : List Nat} (h : Picks g l d o) : o.Nodup ∧ ∀ x ∈ o, x < g.length ∧ l x = x := by
  induction h with
  | start => exact ⟨List.nodup_nil, by simp⟩
  | @pick d o n hp hc _ ih =>
    refine ⟨List.nodup_append.2 ⟨ih.1, by simp, fun a ha b hb e => ?_⟩, fun x hx => ?_⟩
    · rw [List.mem_singleton] at hb
      subst hb
      subst e
      have := (hp.mem a).2 ha
      rw [hc.new] at this
      cases this
    · rcases mem_last hx with hx | rfl
      · exact ih.2 x hx
      · exact ⟨hc.lt, hc.self⟩
theorem Picks.len {l : Nat → Nat} {d : Nat → Bool} {o : List Nat} (h : Picks g l d o) : o.length ≤ g.length := nodup_le _ _ h.nodup.1 fun v hv => (h.nodup.2 v hv).1
theorem Picks.d_eq {l : Nat → Nat} {d d' : Nat → Bool} {o : List Nat} (h : Picks g l d o) (h' : Picks g l d' o) : d = d' := by
  funext x
  have h1 := h.mem x
  have h2 := h'.mem x
  cases hd : d x <;> cases hd' : d' x <;> simp_all
/-- Of two such rows one is the beginning of the other. -/
theorem Picks.begins {l : Nat → Nat} {d d' : Nat → Bool} {o o' : List Nat} (h : Picks g l d o) (h' : Picks g l d' o') : o.length ≤ o'.length → ∃ t, o' = o ++ t := by
  induction h' generalizing d o with
  | start =>
    intro hl
    have : o = [] := List.eq_nil_of_length_eq_zero (by simpa using hl)
    exact ⟨[], by simp [this]⟩
  | @pick d1 o1 n1 hp1 hc1 hm1 ih =>
    intro hl
    by_cases he : o.length ≤ o1.length
    · obtain ⟨t, ht⟩ := ih h he
      exact ⟨t ++ [n1], by rw [ht, List.append_assoc]⟩
    · cases h with
      | start => simp at he
      | @pick d2 o2 n2 hp2 hc2 hm2 =>
        have hlen : o2.length = o1.length := by simp at hl he; omega
        obtain ⟨t, ht⟩ := ih hp2 (by omega)
        have ht0 : t = [] := List.eq_nil_of_length_eq_zero (by have := congrArg List.length ht; simp at this; omega)
        rw [ht0, List.append_nil] at ht
        subst ht
        have hd := hp1.d_eq hp2
        subst hd
        have : n1 = n2 := by
          rcases Nat.lt_trichotomy n1 n2 with e | e | e
          · exact absurd hc1 (hm2 _ e)
          · exact e
          · exact absurd hc2 (hm1 _ e)
        exact ⟨[], by rw [this, List.append_nil]⟩
theorem Picks.next {l : Nat → Nat} {d d' : Nat → Bool} {o t : List Nat} {x : Nat} (h : Picks g l d o) (h' : Picks g l d' (o ++ x :: t)) : ∃ n, Cand g l d n := by
  generalize ho : o ++ x :: t = o' at h'
  induction h' generalizing t with
  | start => exact absurd ho (by simp)
  | @pick d1 o1 n1 hp1 hc1 hm1 ih =>
    rcases List.eq_nil_or_concat t with rfl | ⟨t', z, rfl⟩
    · have : o = o1 := (List.append_inj' ho rfl).1
      subst this
      have := h.d_eq hp1
      subst this
      exact ⟨_, hc1⟩
    · rw [List.concat_eq_append, ← List.cons_append, ← List.append_assoc] at ho
      exact ih (List.append_inj' ho rfl).1
/-- Two such rows behind which nothing may be taken are the same. -/
theorem Picks.uniq {l : Nat → Nat} {d d' : Nat → Bool} {o o' : List Nat} (h : Picks g l d o) (h' : Picks g l d' o') (hn : ∀ n, ¬ Cand g l d n) (hn' : ∀ n, ¬ Cand g l d' n) : o = o' := by
  rcases Nat.le_total o.length o'.length with hle | hle
  · obtain ⟨t, ht⟩ := h.begins h' hle
    cases t with
    | nil => rw [ht, List.append_nil]
    | cons x t =>
      rw [ht] at h'
      obtain ⟨n, hc⟩ := h.next h'
      exact absurd hc (hn n)
  · obtain ⟨t, ht⟩ := h'.begins h hle
    cases t with
    | nil => rw [ht, List.append_nil]
    | cons x t =>
      rw [ht] at h
      obtain ⟨n, hc⟩ := h'.next h
      exact absurd hc (hn' n)
/-- Behind as many as there are things nothing may be taken. -/
theorem Picks.full {l : Nat → Nat} {d : Nat → Bool} {o : List Nat} (h : Picks g l d o) (hlen : o.length = g.length) : ∀ n, ¬ Cand g l d n := fun n hc => by
  have h1 := (Picks.nodup h).1
  have hn : n ∉ o := fun hm => by
    have := (h.mem n).2 hm
    rw [hc.new] at this
    cases this
  have := nodup_le g.length (n :: o) (List.nodup_cons.2 ⟨hn, h1⟩) (fun v hv => by
    rcases List.mem_cons.1 hv with e | hv
    · rw [e]; exact hc.lt
    · exact (h.nodup.2 v hv).1)
  simp at this
  omega
end Go.Proofs.Ytnfoahcdmaphnaa
