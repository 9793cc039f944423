/-
  Panics: whether two are the same, a new one.
-/
import Derived.Test.YtnnpgljmfjemnaaTypes
import Derived.Test.YtnnpgljmfjemnaaApp
import Derived.WalkSpells
import Derived.WalkLawsBesides
import Derived.Outline
import Derived.Lib.Hide
import Derived.Deep.QuietTactic
import Derived.BigQuiet
import Derived.Deep.DeepMust
namespace Go.Proofs.Ytnnpgljmfjemnaa
open Go.RowKit
set_option linter.unusedSimpArgs false
set_option linter.unusedVariables false

theorem SlR.all {α : Type} {sz bytes : Nat} {R : Rd α} {w : World} {B : Nat} {A : Option Addr} {n c : Nat} {xs : List α} (h : SlR sz bytes R w B A n c xs) {p : α → Prop} (hp : ∀ cs x, R w B cs x → p x) : ∀ x ∈ xs, p x := by
  intro x hx
  obtain ⟨i, hi, rfl⟩ := List.getElem_of_mem hx
  obtain ⟨h1, h2, h3, h4, h5⟩ := h
  obtain ⟨b, off, hA, hb, hel⟩ := h5 (by omega)
  obtain ⟨cs, _, _, hr⟩ := hel i _ (List.getElem?_eq_getElem hi)
  exact hp _ _ hr

def cellsE (e : DEntry) : List Value := [.int .i64 e.func, .int .i64 e.line]
abbrev OkE (e : DEntry) : Prop := (Lit.int .i64 e.func).wf = true ∧ (Lit.int .i64 e.line).wf = true
abbrev SlE (w : World) (B : Nat) (A : Option Addr) (n c : Nat) (es : List DEntry) : Prop := SlR 2 16 REntry w B A n c es
theorem sle_rc {w : World} {B : Nat} {A : Option Addr} {n c : Nat} {es : List DEntry} (h : SlE w B A n c es) : SlR 2 16 (RC cellsE) w B A n c es :=
  h.imp fun cs x _ hr => hr.1
theorem sle_ok {w : World} {B : Nat} {A : Option Addr} {n c : Nat} {es : List DEntry} (h : SlE w B A n c es) : ∀ e ∈ es, OkE e := SlR.all (R := REntry) h fun _ _ hr => hr.2
theorem sle_of {w : World} {B : Nat} {A : Option Addr} {n c : Nat} {es : List DEntry} (h : SlR 2 16 (RC cellsE) w B A n c es) (hok : ∀ e ∈ es, OkE e) : SlE w B A n c es :=
  h.imp fun cs x hx hr => ⟨hr, hok x hx⟩
theorem SlE.keep {w w' : World} {B : Nat} {A : Option Addr} {n c : Nat} {es : List DEntry} (h : SlE w B A n c es) (hb : Below B w w') : SlE w' B A n c es := SlR.below (R := REntry) stable_Entry h hb
theorem SlE.up {w : World} {B B' : Nat} {A : Option Addr} {n c : Nat} {es : List DEntry} (h : SlE w B A n c es) (hB : B ≤ B') : SlE w B' A n c es := sle_of ((sle_rc h).more hB) (sle_ok h)
theorem SlE.keepAt {w w' : World} {B B' : Nat} {A : Option Addr} {n c : Nat} {es : List DEntry} (h : SlE w B A n c es) (p : Nat → Prop) (hA : ∀ ad, A = some ad → p ad.block) (hk : ∀ q : Addr, p q.block → q.block < B → w'.cell? q = w.cell? q) (hB : B ≤ B') : SlE w' B' A n c es := by
  refine sle_of ?_ (sle_ok h)
  obtain ⟨h1, h2, h3, h4, h5⟩ := sle_rc h
  refine ⟨h1, h2, h3, h4, fun hn => ?_⟩
  obtain ⟨b, off, hb1, hb2, hx⟩ := h5 hn
  refine ⟨b, off, hb1, by omega, fun i x hi => ?_⟩
  obtain ⟨cs, hl, hc, hr⟩ := hx i x hi
  exact ⟨cs, hl, fun j u hj => (hk ⟨b, off + (i * 2 + j), none⟩ (by have := hA _ hb1; exact this) hb2).trans (hc j u hj), hr⟩
/-- A row of the call's own reads as entries. -/
theorem sle_own {w : World} {base : Nat} {A : Option Addr} {n c : Nat} {es : List DEntry} (h : w.ownsRow base 78 2 (.slice A n c) n (es.flatMap cellsE)) (hb : n * 16 ≤ reachBytes) (hok : ∀ e ∈ es, OkE e) : SlE w w.heap.size A n c es := by
  refine sle_of ?_ hok
  have hl : es.length = n := by
    have h1 := h.1
    have h2 : (es.flatMap cellsE).length = es.length * 2 := by
      clear h h1 hok
      induction es with
      | nil => rfl
      | cons a l ih => rw [List.flatMap_cons, List.length_append, ih, List.length_cons]; simp [cellsE]; omega
    omega
  have h' := h
  rcases h.2 with ⟨hv, rfl⟩ | ⟨g, cap, cur, hv, h1, h2, h3, h4, h5, h6⟩
  · simp only [Value.slice.injEq] at hv
    obtain ⟨rfl, _, rfl⟩ := hv
    have : es = [] := List.eq_nil_of_length_eq_zero hl
    subst this
    exact SlR.nil_ w _
  · simp only [Value.slice.injEq, true_and] at hv
    obtain ⟨rfl, rfl⟩ := hv
    refine ⟨hl, h3, h4, hb, fun hn => ⟨g, 0, rfl, (Array.getElem?_eq_some_iff.1 h2).1, fun i x hi => ⟨cellsE x, rfl, fun j u hj => ?_, rfl⟩⟩⟩
    have hj2 : j < 2 := (List.getElem?_eq_some_iff.1 hj).1
    have hi2 := (List.getElem?_eq_some_iff.1 hi).1
    have := h'.cellAt (i * 2 + j) (by omega)
    rw [Nat.zero_add, this]
    have key : ∀ (l : List DEntry) (i : Nat), l[i]? = some x → (l.flatMap cellsE)[i * 2 + j]? = some u := by
      intro l
      induction l with
      | nil => intro i h; simp at h
      | cons a l ih =>
        intro i h
        rw [List.flatMap_cons]
        cases i with
        | zero =>
          simp at h
          subst h
          rw [List.getElem?_append_left (by simp [cellsE]; omega)]
          simpa using hj
        | succ i =>
          rw [List.getElem?_append_right (by simp [cellsE]; omega)]
          have : (i + 1) * 2 + j - (cellsE a).length = i * 2 + j := by simp [cellsE]; omega
          rw [this]
          exact ih i (by simpa using h)
    exact key es i hi

theorem info_entry : (Try.prog.info? 78).map (fun i => (i.zero, i.size, i.bytes)) = some (some (.agg #[.int .i64 0, .int .i64 0]), 2, 16) := by kernel_rfl

def IsEntries (es : List DEntry) (w : World) (e : Ending) (w' : World) : Prop := ∃ A n c, e = .returned (.slice A n c) ∧ SlE w' w'.heap.size A n c es ∧ Below w.heap.size w w' ∧ ∀ ad, A = some ad → w.heap.size ≤ ad.block

theorem clone_fin {w w3 : World} {n : Nat} {es : List DEntry} {v' : Value} (hb : n * 16 ≤ 140737488351232) (hok : ∀ e ∈ es, OkE e)
    (hown : w3.ownsRow w.heap.size 78 2 v' (0 + n) ((#[] : Array Value).toList ++ es.flatMap cellsE)) (hgrow : (w.alloc (.cells #[] 78)).grownBy w3 (Value.slice (some ⟨w.heap.size, 0, none⟩) 0 0).ownBlock) :
    ∃ A c, v' = .slice A n c ∧ SlE w3 w3.heap.size A n c es ∧ Below w.heap.size w w3 ∧ ∀ ad, A = some ad → w.heap.size ≤ ad.block := by
  rw [Nat.zero_add] at hown
  obtain ⟨A', c', hv, _, hat⟩ := own_form hown
  rw [hv] at hown
  exact ⟨A', c', hv, sle_own (by simpa using hown) (by unfold reachBytes; omega) hok, Below.grown ((Below.refl _ _).alloc (Nat.le_refl _) _) hgrow (by simp) (fun j hj => by simp [Value.ownBlock] at hj; omega), fun ad had => by
    obtain ⟨g, rfl, hg, _⟩ := hat ad had
    exact hg⟩

set_option maxRecDepth 100000 in
set_option maxHeartbeats 400000 in
theorem clone_any (B : Nat) (A : Option Addr) (n c : Nat) (es : List DEntry) (w : World) (h : SlE w B A n c es) :
    Calls Try.prog 69 #[.slice A n c] w (IsEntries es w) := by
  obtain ⟨i0, hi, hz0, hz1, hz2⟩ := info_parts info_entry
  have hnil := fun w => Lib.run_eql_slice_nil (P := Try.prog) w 33 78 A n c 0 0 Try.underlying33
  cases A with
  | none =>
    have hn : n = 0 := by
      rcases Nat.eq_zero_or_pos n with h0 | h0
      · exact h0
      · obtain ⟨b, off, hA, _⟩ := h.2.2.2.2 h0
        cases hA
    subst hn
    have he : es = [] := List.eq_nil_of_length_eq_zero h.1
    subst he
    clear h
    go_enter Try.func69, Try.ntmps69
    go_wp2
    go_ret
    exact ⟨none, 0, 0, rfl, SlR.nil_ _ _, Below.refl _ _, fun ad had => by cases had⟩
  | some ad =>
    have hsrc := SlR.src (f := cellsE) (fun _ => rfl) (sle_rc h)
    have hok := sle_ok h
    have hb := h.2.2.2.1
    unfold reachBytes at hb
    have HK := Lib.hid hok
    clear h hok
    have hone : ∀ u ∈ es.flatMap cellsE, u.oneCell' = true := by
      intro u hu
      obtain ⟨x, _, hx⟩ := List.mem_flatMap.1 hu
      simp [cellsE] at hx
      rcases hx with rfl | rfl <;> rfl
    have hsrc1 : SrcCells (w.alloc (.cells #[] 78)) (some ad) n 2 (es.flatMap cellsE) := hsrc.keep fun a j u ha hu => (World.cell?_alloc_lt _ _ _ (World.block_lt_of_cell? _ _ hu)).trans hu
    have HO := Lib.hid hone
    clear hsrc hone
    go_enter Try.func69, Try.ntmps69
    go_wp2_with (first
      | (at_builtin; go_must (refine wpList_append_src _ rfl _ _ 33 rfl w.heap.size 78 i0 (.agg #[.int .i64 0, .int .i64 0]) 2 16 Try.underlying33 hi hz0 hz1 hz2 rfl (by decide) _ _ _ rfl (World.ownsRow_lit w #[] 0 (Nat.le_refl _) (by unfold maxLen; omega) rfl) (some ad) n c (es.flatMap cellsE) rfl hsrc1 HO.out (by unfold maxLen; omega) (by omega) (by simp) ?_)
         intro v' w3 hown' hgrow3 hat3
         have X := Lib.hid (clone_fin hb HK.out hown' hgrow3)
         clear hown' hgrow3 hat3))
    go_ret
    obtain ⟨A', c', rfl, h1, h2, h3⟩ := X.out
    exact ⟨A', n, c', rfl, h1, h2, h3⟩
end Go.Proofs.Ytnnpgljmfjemnaa
