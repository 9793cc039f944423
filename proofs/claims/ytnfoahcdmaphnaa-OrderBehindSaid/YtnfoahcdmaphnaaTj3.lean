/-
  Circles of things, plain: all that stand for all are taken; each behind those to which it leads; where each stands.
-/
import Derived.Test.YtnfoahcdmaphnaaTj2
namespace Go.Proofs.Ytnfoahcdmaphnaa
set_option linter.unusedSimpArgs false
set_option linter.unusedVariables false
variable {g : Gr}
theorem count_le {p q : Nat → Bool} : ∀ (l : List Nat), (∀ x ∈ l, p x = true → q x = true) → l.countP p ≤ l.countP q
  | [], _ => by simp
  | a :: l, h => by
    have ih := count_le l (fun x hx => h x (by simp [hx]))
    have ha := h a (by simp)
    rw [List.countP_cons, List.countP_cons]
    cases hp : p a <;> cases hq : q a <;> simp_all <;> omega
theorem count_lt {p q : Nat → Bool} : ∀ (l : List Nat), (∀ x ∈ l, p x = true → q x = true) → (∃ x ∈ l, q x = true ∧ p x = false) → l.countP p < l.countP q
  | [], _, h => by obtain ⟨x, hx, _⟩ := h; simp at hx
  | a :: l, h, ⟨x, hx, h1, h2⟩ => by
    have hle := count_le l (fun x hx => h x (by simp [hx]))
    rw [List.countP_cons, List.countP_cons]
    rcases List.mem_cons.1 hx with e | hx
    · subst e
      rw [h1, h2]
      simp
      omega
    · have ih := count_lt l (fun x hx => h x (by simp [hx])) ⟨x, hx, h1, h2⟩
      have ha := h a (by simp)
      cases hp : p a <;> cases hq : q a <;> simp_all <;> omega
theorem cnt_lt {a b : Nat} (h : Rs g a b) (hn : ¬ Rs g b a) (ha : a < g.length) : ((List.range g.length).countP fun x => @decide (Rs g b x) (Classical.propDecidable _)) < ((List.range g.length).countP fun x => @decide (Rs g a x) (Classical.propDecidable _)) := by
  refine count_lt _ (fun x _ hx => ?_) ⟨a, List.mem_range.2 ha, ?_, ?_⟩
  · have := @of_decide_eq_true _ (Classical.propDecidable _) hx
    exact @decide_eq_true _ (Classical.propDecidable _) (h.trans this)
  · exact @decide_eq_true _ (Classical.propDecidable _) (.refl a)
  · exact @decide_eq_false _ (Classical.propDecidable _) hn
theorem Picks.all {l : Nat → Nat} (hl : LstF g l) {d : Nat → Bool} {o : List Nat} (hp : Picks g l d o) (hn : ∀ x, ¬ Cand g l d x) : ∀ a, a < g.length → l a = a → a ∈ o := by
  have key : ∀ (n : Nat) a, ((List.range g.length).countP fun x => @decide (Rs g a x) (Classical.propDecidable _)) = n → a < g.length → l a = a → d a = true := by
    intro n
    induction n using Nat.strongRecOn with
    | _ n ih =>
      intro a hc ha hla
      cases hd : d a with
      | true => rfl
      | false =>
        have hnf : ¬ FreeD g l d a := fun hf => hn a ⟨ha, hla, hd, hf⟩
        have : ∃ j, Rp g a j ∧ l j ≠ a ∧ d (l j) = false := Classical.byContradiction fun hx => hnf fun j hj hne => by
          cases hdj : d (l j) with
          | true => rfl
          | false => exact absurd ⟨j, hj, hne, hdj⟩ hx
        obtain ⟨j, hj, hne, hdj⟩ := this
        have hjl : j < g.length := hj.rs.lt ha
        have hab : Rs g a (l j) := hj.rs.trans (hl j hjl).1.1
        have hnb : ¬ Rs g (l j) a := fun h => by
          have h1 := hl.eq ha (hl.lt hjl) ⟨hab, h⟩
          rw [hla, hl.idem hjl] at h1
          exact hne h1.symm
        have := ih _ (by rw [← hc]; exact cnt_lt hab hnb ha) (l j) rfl (hl.lt hjl) (hl.idem hjl)
        rw [hdj] at this
        cases this
  exact fun a ha hla => (hp.mem a).1 (key _ a rfl ha hla)
theorem idx_left {a : Nat} {l t : List Nat} (h : a ∈ l) : (l ++ t).idxOf a = l.idxOf a := by rw [List.idxOf_append, if_pos h]
theorem idx_lt {a : Nat} {l : List Nat} (h : a ∈ l) : l.idxOf a < l.length := List.idxOf_lt_length_of_mem h
theorem Picks.before {l : Nat → Nat} {d : Nat → Bool} {o : List Nat} (hp : Picks g l d o) : ∀ a b, a ∈ o → Rp g a b → l b ≠ a → o.idxOf (l b) < o.idxOf a ∧ l b ∈ o := by
  induction hp with
  | start => intro a b h; simp at h
  | @pick d o n hp hc _ ih =>
    intro a b ha hr hne
    by_cases hao : a ∈ o
    · obtain ⟨h1, h2⟩ := ih a b hao hr hne
      exact ⟨by rw [idx_left h2, idx_left hao]; exact h1, by simp [h2]⟩
    · have e : a = n := by
        rcases mem_last ha with h | h
        · exact absurd h hao
        · exact h
      subst e
      have hb : l b ∈ o := (hp.mem _).1 (hc.free b hr hne)
      refine ⟨?_, by simp [hb]⟩
      rw [idx_left hb]
      have h1 := idx_lt hb
      have h2 : o.length ≤ (o ++ [a]).idxOf a := by
        rw [List.idxOf_append, if_neg hao]
        omega
      omega
theorem Cand.congr {l l' : Nat → Nat} (h : ∀ v, v < g.length → l v = l' v) {d : Nat → Bool} {n : Nat} (hc : Cand g l d n) : Cand g l' d n :=
  ⟨hc.lt, by rw [← h n hc.lt]; exact hc.self, hc.new, fun j hj hne => by
    have hj2 := hj.rs.lt hc.lt
    rw [← h j hj2] at hne ⊢
    exact hc.free j hj hne⟩
theorem Picks.congr {l l' : Nat → Nat} (h : ∀ v, v < g.length → l v = l' v) {d : Nat → Bool} {o : List Nat} (hp : Picks g l d o) : Picks g l' d o := by
  induction hp with
  | start => exact .start
  | pick _ hc hm ih => exact ih.pick (hc.congr h) fun m hlt hc' => hm m hlt (hc'.congr fun v hv => (h v hv).symm)
theorem order_same {l l' : Nat → Nat} (hl : LstF g l) (hl' : LstF g l') {d d' : Nat → Bool} {o o' : List Nat} (hp : Picks g l d o) (hp' : Picks g l' d' o') (hn : ∀ x, ¬ Cand g l d x) (hn' : ∀ x, ¬ Cand g l' d' x) : o = o' := by
  have e : ∀ v, v < g.length → l' v = l v := fun v hv => hl'.uniq hl hv
  exact hp.uniq (hp'.congr e) hn fun x hc => hn' x (hc.congr fun v hv => (e v hv).symm)
/-- Where the first of a row stand, told from 1 on. -/
def plc (o : List Nat) (i : Nat) : Nat → Int := fun v => if v ∈ o.take i then ((o.idxOf v : Nat) : Int) + 1 else 0
theorem plc_zero (o : List Nat) : plc o 0 = fun _ => 0 := by funext v; simp [plc]
theorem idx_at {o : List Nat} (hnd : o.Nodup) {i x : Nat} (hx : o[i]? = some x) : o.idxOf x = i := by
  obtain ⟨hi, rfl⟩ := List.getElem?_eq_some_iff.1 hx
  exact List.Nodup.idxOf_getElem hnd i hi
theorem plc_new {o : List Nat} (hnd : o.Nodup) {i x : Nat} (hx : o[i]? = some x) : plc o i x = 0 := by
  unfold plc
  rw [if_neg]
  intro hm
  obtain ⟨hi, rfl⟩ := List.getElem?_eq_some_iff.1 hx
  obtain ⟨j, hj, e⟩ := List.mem_take_iff_getElem.1 hm
  have h1 := List.Nodup.idxOf_getElem hnd i hi
  have h2 := List.Nodup.idxOf_getElem hnd j (by omega)
  rw [e, h1] at h2
  omega
theorem plc_succ {o : List Nat} (hnd : o.Nodup) {i x : Nat} (hx : o[i]? = some x) : upd (plc o i) x ((i : Int) + 1) = plc o (i + 1) := by
  funext v
  have ht : o.take (i + 1) = o.take i ++ [x] := by
    obtain ⟨hi, rfl⟩ := List.getElem?_eq_some_iff.1 hx
    rw [List.take_add_one, hx]
    rfl
  by_cases e : v = x
  · subst e
    rw [upd_same]
    unfold plc
    rw [if_pos (by rw [ht]; simp), idx_at hnd hx]
  · rw [upd_other _ _ e]
    unfold plc
    have : v ∈ o.take (i + 1) ↔ v ∈ o.take i := by rw [ht]; simp [e]
    by_cases h : v ∈ o.take i
    · rw [if_pos h, if_pos (this.2 h)]
    · rw [if_neg h, if_neg (fun h2 => h (this.1 h2))]
theorem plc_full {o : List Nat} {v : Nat} (h : v ∈ o) : plc o o.length v = ((o.idxOf v : Nat) : Int) + 1 := by
  unfold plc
  rw [List.take_length, if_pos h]
end Go.Proofs.Ytnfoahcdmaphnaa
