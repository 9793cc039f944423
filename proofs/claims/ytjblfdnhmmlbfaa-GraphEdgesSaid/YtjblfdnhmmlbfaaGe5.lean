/-
  Graphs, plain: all to which one comes: by rounds; by a walk that goes into each thing once.
-/
import Derived.Test.YtjblfdnhmmlbfaaGrw
namespace Go.Proofs.Ytjblfdnhmmlbfaa
set_option linter.unusedSimpArgs false
set_option linter.unusedVariables false
def Ed (g : Gr) (v u : Nat) : Prop := u < g.length ∧ (u : Int) ∈ rowG g v
inductive Rs (g : Gr) : Nat → Nat → Prop
  | refl (v : Nat) : Rs g v v
  | step {a b c : Nat} : Ed g a b → Rs g b c → Rs g a c
theorem Rs.trans {g : Gr} {a b c : Nat} (h : Rs g a b) (k : Rs g b c) : Rs g a c := by
  induction h with
  | refl => exact k
  | step e _ ih => exact .step e (ih k)
theorem Rs.one {g : Gr} {a b : Nat} (h : Ed g a b) : Rs g a b := .step h (.refl b)
theorem Rs.snoc {g : Gr} {a b c : Nat} (h : Rs g a b) (k : Ed g b c) : Rs g a c := h.trans (.one k)
theorem Rs.closed {g : Gr} {P : Nat → Prop} (hP : ∀ a b, P a → Ed g a b → P b) {a b : Nat} (h : Rs g a b) (ha : P a) : P b := by
  induction h with
  | refl => exact ha
  | step e _ ih => exact ih (hP _ _ ha e)
/-- How many there are. -/
def cntU : Nat → (Nat → Bool) → Nat
  | 0, _ => 0
  | n + 1, s => cntU n s + (if s n = true then 1 else 0)
theorem cntU_max : ∀ (n : Nat) (s : Nat → Bool), cntU n s ≤ n
  | 0, _ => Nat.le_refl _
  | n + 1, s => by
    have := cntU_max n s
    unfold cntU
    split <;> omega
theorem cntU_le : ∀ (n : Nat) {s t : Nat → Bool}, (∀ i, i < n → s i = true → t i = true) → cntU n s ≤ cntU n t
  | 0, _, _, _ => Nat.le_refl _
  | n + 1, s, t, h => by
    have h1 := cntU_le n (s := s) (t := t) (fun i hi => h i (by omega))
    have h2 := h n (by omega)
    unfold cntU
    cases e1 : s n <;> cases e2 : t n <;> simp_all <;> omega
theorem cntU_lt : ∀ (n : Nat) {s t : Nat → Bool}, (∀ i, i < n → s i = true → t i = true) → ∀ {j : Nat}, j < n → s j = false → t j = true → cntU n s + 1 ≤ cntU n t
  | 0, _, _, _, j, hj, _, _ => by omega
  | n + 1, s, t, h, j, hj, hs, ht => by
    by_cases e : j = n
    · subst e
      have h1 := cntU_le j (s := s) (t := t) (fun i hi => h i (by omega))
      unfold cntU
      simp [hs, ht]
      omega
    · have h1 := cntU_lt n (s := s) (t := t) (fun i hi => h i (by omega)) (show j < n by omega) hs ht
      have h2 := h n (by omega)
      unfold cntU
      cases e1 : s n <;> cases e2 : t n <;> simp_all <;> omega
theorem cntU_one {n f : Nat} {s : Nat → Bool} (hf : f < n) (hs : s f = true) : 1 ≤ cntU n s := by
  have h1 := cntU_lt n (s := fun _ => false) (t := s) (fun i _ h => by cases h) hf rfl hs
  omega
theorem take_nx {l : List Int} {k : Nat} {v : Int} (h : l[k]? = some v) : l.take (k + 1) = l.take k ++ [v] := by
  rw [List.take_add_one, h]
  rfl
/-! ### by rounds -/
def AllIn (g : Gr) (f : Nat) (s : Nat → Bool) : Prop := ∀ j, Rs g f j → s j = true
structure Ou (g : Gr) (f r : Nat) (s : Nat → Bool) : Prop where
  snd : ∀ j, s j = true → j < g.length ∧ Rs g f j
  old : AllIn g f s ∨ r + 1 ≤ cntU g.length s
  f0 : s f = true
theorem Ou.start {g : Gr} {f : Nat} (hf : f < g.length) : Ou g f 0 (upd (fun _ => false) f true) := by
  refine ⟨fun j hj => ?_, .inr ?_, upd_same _ _ _⟩
  · by_cases e : j = f
    · subst e; exact ⟨hf, .refl _⟩
    · rw [upd_other _ _ e] at hj; cases hj
  · have := cntU_one (s := upd (fun _ => false) f true) hf (upd_same _ _ _); omega
theorem Ou.all {g : Gr} {f : Nat} {s : Nat → Bool} (h : Ou g f g.length s) (j : Nat) : s j = true ↔ j < g.length ∧ Rs g f j := by
  refine ⟨h.snd j, fun hj => ?_⟩
  rcases h.old with ho | ho
  · exact ho j hj.2
  · have := cntU_max g.length s; omega
structure RdC (g : Gr) (f r : Nat) (s0 s : Nat → Bool) (i k : Nat) : Prop where
  ou : Ou g f r s0
  mono : ∀ j, s0 j = true → s j = true
  snd : ∀ j, s j = true → j < g.length ∧ Rs g f j
  done : ∀ a, a < i → s0 a = true → ∀ b, Ed g a b → s b = true
  part : ∀ x ∈ (rowG g i).take k, s x.toNat = true
theorem RdC.start {g : Gr} {f r : Nat} {s : Nat → Bool} (h : Ou g f r s) : RdC g f r s s 0 0 := ⟨h, fun _ h => h, h.snd, fun a ha => by omega, fun x hx => by simp at hx⟩
theorem RdC.put {g : Gr} {f r : Nat} {s0 s : Nat → Bool} {i k t : Nat} (h : RdC g f r s0 s i k) (hi : s i = true) (ht : (rowG g i)[k]? = some (t : Int)) (htn : t < g.length) : RdC g f r s0 (upd s t true) i (k + 1) := by
  have hup : ∀ j, s j = true → upd s t true j = true := fun j hj => by
    by_cases e : j = t
    · subst e; exact upd_same _ _ _
    · rw [upd_other _ _ e]; exact hj
  refine ⟨h.ou, fun j hj => hup j (h.mono j hj), fun j hj => ?_, fun a ha ha0 b hb => hup b (h.done a ha ha0 b hb), fun x hx => ?_⟩
  · by_cases e : j = t
    · subst e
      exact ⟨htn, (h.snd i hi).2.snoc ⟨htn, List.mem_of_getElem? ht⟩⟩
    · rw [upd_other _ _ e] at hj
      exact h.snd j hj
  · rw [take_nx ht] at hx
    rcases List.mem_append.1 hx with hx | hx
    · exact hup _ (h.part x hx)
    · rw [List.mem_singleton] at hx
      subst hx
      rw [Int.toNat_natCast]
      exact upd_same _ _ _
theorem RdC.next {g : Gr} {f r : Nat} {s0 s : Nat → Bool} {i k : Nat} (h : RdC g f r s0 s i k) (he : s i = false ∨ k = (rowG g i).length) : RdC g f r s0 s (i + 1) 0 := by
  refine ⟨h.ou, h.mono, h.snd, fun a ha ha0 b hb => ?_, fun x hx => by simp at hx⟩
  by_cases e : a = i
  · subst e
    rcases he with he | he
    · rw [h.mono a ha0] at he; cases he
    · have h1 := h.part (b : Int) (by rw [he, List.take_length]; exact hb.2)
      rw [Int.toNat_natCast] at h1
      exact h1
  · exact h.done a (by omega) ha0 b hb
theorem RdC.end_ {g : Gr} {f r : Nat} {s0 s : Nat → Bool} {k : Nat} (h : RdC g f r s0 s g.length k) : Ou g f (r + 1) s := by
  refine ⟨h.snd, ?_, h.mono f h.ou.f0⟩
  rcases h.ou.old with ho | ho
  · exact .inl fun j hj => h.mono j (ho j hj)
  · by_cases hc : ∀ a b, s0 a = true → Ed g a b → s0 b = true
    · exact .inl fun j hj => h.mono j (Rs.closed (P := fun x => s0 x = true) hc hj h.ou.f0)
    · right
      have hc' : ∃ a b, s0 a = true ∧ Ed g a b ∧ s0 b = false := by
        apply Classical.byContradiction
        intro hn
        apply hc
        intro a b ha hb
        cases e : s0 b with
        | true => rfl
        | false => exact absurd ⟨a, b, ha, hb, e⟩ hn
      obtain ⟨a, b, ha, hb, hb0⟩ := hc'
      have h1 := h.done a (h.ou.snd a ha).1 ha b hb
      have h2 := cntU_lt g.length (fun i _ => h.mono i) hb.1 hb0 h1
      omega
/-! ### by a walk -/
structure Wk (g : Gr) (V : Nat → Bool) (f : Nat) (V' : Nat → Bool) : Prop where
  mono : ∀ j, V j = true → V' j = true
  got : V' f = true
  snd : ∀ j, V' j = true → V j = true ∨ Rs g f j
  cls : ∀ v, V' v = true → V v = false → ∀ u, Ed g v u → V' u = true
theorem Wk.old {g : Gr} {V : Nat → Bool} {f : Nat} (h : V f = true) : Wk g V f V := ⟨fun _ h => h, h, fun j hj => .inl hj, fun v hv hn => by rw [hv] at hn; cases hn⟩
structure Wl (g : Gr) (V : Nat → Bool) (f k : Nat) (V' : Nat → Bool) : Prop where
  mono : ∀ j, V j = true → V' j = true
  snd : ∀ j, V' j = true → V j = true ∨ Rs g f j
  cls : ∀ v, V' v = true → V v = false → ∀ u, Ed g v u → V' u = true
  part : ∀ x ∈ (rowG g f).take k, V' x.toNat = true
theorem Wl.start (g : Gr) (V : Nat → Bool) (f : Nat) : Wl g V f 0 V := ⟨fun _ h => h, fun j hj => .inl hj, (fun v hv hn => by rw [hv] at hn; cases hn), fun x hx => by simp at hx⟩
theorem Wl.step {g : Gr} {V V2 V3 : Nat → Bool} {f k t : Nat} (h : Wl g V f k V2) (ht : (rowG g f)[k]? = some (t : Int)) (htn : t < g.length) (hw : Wk g V2 t V3) : Wl g V f (k + 1) V3 := by
  refine ⟨fun j hj => hw.mono j (h.mono j hj), fun j hj => ?_, fun v hv hn u hu => ?_, fun x hx => ?_⟩
  · rcases hw.snd j hj with h1 | h1
    · exact h.snd j h1
    · exact .inr (.step ⟨htn, List.mem_of_getElem? ht⟩ h1)
  · cases e : V2 v with
    | true => exact hw.mono u (h.cls v e hn u hu)
    | false => exact hw.cls v hv e u hu
  · rw [take_nx ht] at hx
    rcases List.mem_append.1 hx with hx | hx
    · exact hw.mono _ (h.part x hx)
    · rw [List.mem_singleton] at hx
      subst hx
      rw [Int.toNat_natCast]
      exact hw.got
theorem Wl.end_ {g : Gr} {V V2 : Nat → Bool} {f : Nat} (h : Wl g (upd V f true) f (rowG g f).length V2) : Wk g V f V2 := by
  have hup : ∀ j, V j = true → upd V f true j = true := fun j hj => by
    by_cases e : j = f
    · subst e; exact upd_same _ _ _
    · rw [upd_other _ _ e]; exact hj
  refine ⟨fun j hj => h.mono j (hup j hj), h.mono f (upd_same _ _ _), fun j hj => ?_, fun v hv hn u hu => ?_⟩
  · rcases h.snd j hj with h1 | h1
    · by_cases e : j = f
      · subst e; exact .inr (.refl _)
      · rw [upd_other _ _ e] at h1; exact .inl h1
    · exact .inr h1
  · by_cases e : v = f
    · subst e
      have h1 := h.part (u : Int) (by rw [List.take_length]; exact hu.2)
      rw [Int.toNat_natCast] at h1
      exact h1
    · exact h.cls v hv (by rw [upd_other _ _ e]; exact hn) u hu
theorem Wk.all {g : Gr} {f : Nat} {V' : Nat → Bool} (h : Wk g (fun _ => false) f V') (j : Nat) : V' j = true ↔ Rs g f j := by
  refine ⟨fun hj => (h.snd j hj).resolve_left (by simp), fun hj => ?_⟩
  exact Rs.closed (P := fun x => V' x = true) (fun a b ha hb => h.cls a ha rfl b hb) hj h.got
theorem Ed.lt {g : Gr} {v u : Nat} (h : Ed g v u) : v < g.length := by
  have h2 := h.2
  unfold rowG at h2
  cases e : g[v]? with
  | none => rw [e] at h2; simp at h2
  | some x => exact (List.getElem?_eq_some_iff.1 e).1
theorem Rs.lt {g : Gr} {a b : Nat} (h : Rs g a b) (ha : a < g.length) : b < g.length := Rs.closed (P := fun x => x < g.length) (fun _ _ _ e => e.1) h ha
/-- All to which one comes. -/
def ReachL (g : Gr) (f : Int) (l : List Int) : Prop := l.Pairwise (· < ·) ∧ ∀ x : Int, x ∈ l ↔ 0 ≤ x ∧ 0 ≤ f ∧ f < (g.length : Int) ∧ Rs g f.toNat x.toNat
end Go.Proofs.Ytjblfdnhmmlbfaa
