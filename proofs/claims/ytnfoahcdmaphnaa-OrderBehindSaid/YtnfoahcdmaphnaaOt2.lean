/-
  Order: a row of rows of numbers while it is made: each row is owned.
-/
import Derived.Test.YtnfoahcdmaphnaaOt1
import Derived.Test.YtnfoahcdmaphnaaSc0
namespace Go.Proofs.Ytnfoahcdmaphnaa
open Go.RowKit
set_option linter.unusedSimpArgs false
set_option linter.unusedVariables false
abbrev Vs := Nat → Option Addr × Nat × Nat
def svV (x : Option Addr × Nat × Nat) : Value := .slice x.1 x.2.1 x.2.2
def rowV (k : Nat) (V : Vs) : List Value := (List.range k).map fun i => svV (V i)
theorem rowV_len (k : Nat) (V : Vs) : (rowV k V).length = k := by simp [rowV]
theorem rowV_at {k i : Nat} (V : Vs) (hi : i < k) : (rowV k V)[i]? = some (svV (V i)) := by simp [rowV, hi]
theorem rowV_set {k i : Nat} (V : Vs) (x : Option Addr × Nat × Nat) : (rowV k V).set i (svV x) = rowV k (upd V i x) := by
  apply List.ext_getElem?
  intro j
  by_cases hj : j < k
  · rw [rowV_at _ hj]
    by_cases e : i = j
    · subst e
      rw [List.getElem?_set_self (by rw [rowV_len]; exact hj), upd_same]
    · rw [List.getElem?_set_ne e, rowV_at _ hj, upd_other _ _ (fun h => e h.symm)]
  · rw [List.getElem?_eq_none (by rw [List.length_set, rowV_len]; omega), List.getElem?_eq_none (by rw [rowV_len]; omega)]
theorem rowV_succ (k : Nat) (V : Vs) (x : Option Addr × Nat × Nat) : rowV k V ++ [svV x] = rowV (k + 1) (upd V k x) := by
  unfold rowV
  rw [List.range_succ, List.map_append]
  congr 1
  · apply List.map_congr_left
    intro i hi
    rw [upd_other _ _ (by have := List.mem_range.1 hi; omega)]
  · simp [upd_same]
theorem sv_slice (x : Option Addr × Nat × Nat) : svV x = .slice x.1 x.2.1 x.2.2 := rfl
/-- The program's: made at once, its cells put one by one. -/
structure TkW (base ob n : Nat) (V : Vs) (L : Nat → List Int) (W : World) : Prop where
  oc : Cells W ob (rowV n V)
  ro : ∀ i, i < n → W.ownsRow base 3 1 (svV (V i)) (V i).2.1 (rowI (L i))
  ne : ∀ i j, i < n → j < n → i ≠ j → ∀ b, (svV (V i)).ownBlock = some b → (svV (V j)).ownBlock ≠ some b
  ob : ob < base
theorem TkW.kp {base ob n : Nat} {V : Vs} {L : Nat → List Int} {W W' : World} (h : TkW base ob n V L W) (hk : Kp (fun _ => False) W W') : TkW base ob n V L W' :=
  ⟨h.oc.kp hk id, fun i hi => hk.own (h.ro i hi) (fun _ _ h => h), h.ne, h.ob⟩
theorem TkW.on {base ob n : Nat} {V : Vs} {L : Nat → List Int} {W W' : World} (h : TkW base ob n V L W) (hb : Below W.heap.size W W') : TkW base ob n V L W' := h.kp ((Kp.refl _ W).ofBelow hb)
theorem TkW.put {base ob n : Nat} {V : Vs} {L : Nat → List Int} {W W' : World} (h : TkW base ob n V L W) {i : Nat} (hi : i < n) (hk : Kp (fun b => (svV (V i)).ownBlock = some b) W W') {x : Option Addr × Nat × Nat} {l : List Int}
    (ho : W'.ownsRow base 3 1 (svV x) x.2.1 (rowI l)) (hat : (svV x).ownBlock = (svV (V i)).ownBlock ∨ ∀ b, (svV x).ownBlock = some b → W.heap.size ≤ b) :
    TkW base ob n (upd V i x) (upd L i l) (W'.setCell ⟨ob, i, none⟩ (svV x)) := by
  have hob := h.ob
  refine ⟨?_, fun j hj => ?_, fun a b ha hb hab => ?_, hob⟩
  · have h1 := (h.oc.kp hk (fun e => by have := ((h.ro i hi).lt _ e).1; omega)).put i (by rw [rowV_len]; exact hi) (svV x)
    rw [rowV_set] at h1
    exact h1
  · by_cases e : j = i
    · subst e
      rw [upd_same, upd_same]
      exact (kp_set W' ob j (svV x)).own ho (fun k hk e => by have := (ho.lt k hk).1; omega)
    · rw [upd_other _ _ e, upd_other _ _ e]
      have h1 := hk.own (h.ro j hj) (fun k hk' hS => h.ne i j hi hj (fun e' => e e'.symm) k hS hk')
      exact (kp_set W' ob i (svV x)).own h1 (fun k hk e => by have := (h1.lt k hk).1; omega)
  · intro k hka hkb
    by_cases ea : a = i
    · subst ea
      rw [upd_same] at hka
      rw [upd_other _ _ (fun e => hab e.symm)] at hkb
      rcases hat with e1 | e1
      · rw [e1] at hka
        exact h.ne a b ha hb hab k hka hkb
      · have h1 := e1 k hka
        have h2 := ((h.ro b hb).lt k hkb).2
        omega
    · rw [upd_other _ _ ea] at hka
      by_cases eb : b = i
      · subst eb
        rw [upd_same] at hkb
        rcases hat with e1 | e1
        · rw [e1] at hkb
          exact h.ne a b ha hb hab k hka hkb
        · have h1 := e1 k hkb
          have h2 := ((h.ro a ha).lt k hka).2
          omega
      · rw [upd_other _ _ eb] at hkb
        exact h.ne a b ha hb hab k hka hkb
theorem grw_make {base k c : Nat} {A : Option Addr} {V : Vs} {L : Nat → List Int} {W : World} (h0 : 0 < k → ∃ b, A = some ⟨b, 0, none⟩ ∧ Cells W b (rowV k V)) (hr : ∀ i, i < k → W.ownsRow base 3 1 (svV (V i)) (V i).2.1 (rowI (L i)))
    (hc : k ≤ c) (hm : c ≤ maxLen) (hk : k ≤ 50) (hl : ∀ i, i < k → (L i).length ≤ 100000) {g : Gr} (hg : g.length = k) (hrow : ∀ i, i < k → rowG g i = L i) : GrW W W.heap.size A k c g := by
  refine ⟨hg, hc, hm, by unfold reachBytes; omega, fun hn => ?_⟩
  obtain ⟨b, rfl, hC⟩ := h0 hn
  refine ⟨b, 0, rfl, hC.lt, fun i x hi => ⟨[svV (V i)], rfl, fun j u hj => ?_, (V i).1, (V i).2.1, (V i).2.2, rfl, ?_⟩⟩
  · have hik : i < k := by have := (List.getElem?_eq_some_iff.1 hi).1; omega
    have hj0 : j = 0 := by
      have := (List.getElem?_eq_some_iff.1 hj).1
      simp at this
      omega
    subst hj0
    simp at hj
    subst hj
    simpa using hC.at_ i _ (rowV_at V hik)
  · have hik : i < k := by have := (List.getElem?_eq_some_iff.1 hi).1; omega
    have e : x = L i := by
      have h1 := hrow i hik
      unfold rowG at h1
      rw [hi] at h1
      exact h1
    subst e
    have h2 := hr i hik
    rw [sv_slice] at h2
    have h3 : (V i).2.1 = (L i).length := by
      have := h2.1
      unfold rowI at this
      rw [List.length_map] at this
      omega
    exact SlI.own h2 (by rw [h3]; exact hl i hik)
theorem TkW.grw {base ob n : Nat} {V : Vs} {L : Nat → List Int} {W : World} (h : TkW base ob n V L W) (hk : n ≤ 50) (hl : ∀ i, i < n → (L i).length ≤ 100000) {g : Gr} (hg : g.length = n) (hrow : ∀ i, i < n → rowG g i = L i) : GrW W W.heap.size (some ⟨ob, 0, none⟩) n n g :=
  grw_make (fun _ => ⟨ob, rfl, h.oc⟩) h.ro (Nat.le_refl _) (by unfold maxLen; omega) hk hl hg hrow
/-- The document's: grown row by row. -/
structure RoW (base : Nat) (A : Option Addr) (k c : Nat) (V : Vs) (L : Nat → List Int) (W : World) : Prop where
  own : W.ownsRow base 31 1 (.slice A k c) k (rowV k V)
  ro : ∀ i, i < k → W.ownsRow base 3 1 (svV (V i)) (V i).2.1 (rowI (L i))
  ap : ∀ i, i < k → ∀ b, (svV (V i)).ownBlock = some b → (Value.slice A k c).ownBlock ≠ some b
theorem RoW.start (base : Nat) (V : Vs) (L : Nat → List Int) (W : World) : RoW base none 0 0 V L W := ⟨⟨rfl, .inl ⟨rfl, rfl⟩⟩, fun i hi => by omega, fun i hi => by omega⟩
theorem RoW.kp {base k c : Nat} {A : Option Addr} {V : Vs} {L : Nat → List Int} {W W' : World} {S : Nat → Prop} (h : RoW base A k c V L W) (hk : Kp S W W') (hS : ∀ j, S j → (Value.slice A k c).ownBlock ≠ some j ∧ ∀ i, i < k → (svV (V i)).ownBlock ≠ some j) : RoW base A k c V L W' :=
  ⟨hk.own h.own (fun j hj hs => (hS j hs).1 hj), fun i hi => hk.own (h.ro i hi) (fun j hj hs => (hS j hs).2 i hi hj), h.ap⟩
theorem RoW.on {base k c : Nat} {A : Option Addr} {V : Vs} {L : Nat → List Int} {W W' : World} (h : RoW base A k c V L W) (hb : Below W.heap.size W W') : RoW base A k c V L W' := h.kp ((Kp.refl (fun _ => False) W).ofBelow hb) (fun _ h => h.elim)
theorem RoW.push {base k c : Nat} {A : Option Addr} {V : Vs} {L : Nat → List Int} {W w3 : World} (h : RoW base A k c V L W) {x : Option Addr × Nat × Nat} {l : List Int} (hx : W.ownsRow base 3 1 (svV x) x.2.1 (rowI l))
    (hna : ∀ b, (svV x).ownBlock = some b → (Value.slice A k c).ownBlock ≠ some b) {v' : Value} {o : Obj} (hown' : w3.ownsRow base 31 1 v' (k + 1) (rowV k V ++ [svV x])) (hgrow : (W.alloc o).grownBy w3 (Value.slice A k c).ownBlock)
    (hat : v'.ownBlock = (Value.slice A k c).ownBlock ∨ v'.ownBlock = some (W.alloc o).heap.size) :
    ∃ A' c', v' = .slice A' (k + 1) c' ∧ RoW base A' (k + 1) c' (upd V k x) (upd L k l) w3 ∧ Kp (fun j => (Value.slice A k c).ownBlock = some j) W w3 := by
  rw [rowV_succ] at hown'
  obtain ⟨A', c', rfl, _⟩ := own_form hown'
  have hk : Kp (fun j => (Value.slice A k c).ownBlock = some j) W w3 := ((Kp.refl _ W).alloc o).ofGrown hgrow fun k hk _ => hk
  have hrows : ∀ i, i < k + 1 → W.ownsRow base 3 1 (svV (upd V k x i)) (upd V k x i).2.1 (rowI (upd L k l i)) ∧ ∀ b, (svV (upd V k x i)).ownBlock = some b → (Value.slice A k c).ownBlock ≠ some b := fun i hi => by
    by_cases e : i = k
    · subst e
      rw [upd_same, upd_same]
      exact ⟨hx, hna⟩
    · rw [upd_other _ _ e, upd_other _ _ e]
      exact ⟨h.ro i (by omega), h.ap i (by omega)⟩
  refine ⟨A', c', rfl, ⟨hown', fun i hi => hk.own (hrows i hi).1 (fun j hj hS => (hrows i hi).2 j hj hS), fun i hi b hb e => ?_⟩, hk⟩
  rcases hat with e1 | e1
  · rw [e1] at e
    exact (hrows i hi).2 b hb e
  · rw [e1] at e
    have h1 := Option.some.inj e
    have h2 := ((hrows i hi).1.lt b hb).2
    simp at h1
    omega
theorem RoW.grw {base k c : Nat} {A : Option Addr} {V : Vs} {L : Nat → List Int} {W : World} (h : RoW base A k c V L W) (hk : k ≤ 50) (hl : ∀ i, i < k → (L i).length ≤ 100000) {g : Gr} (hg : g.length = k) (hrow : ∀ i, i < k → rowG g i = L i) : GrW W W.heap.size A k c g := by
  rcases h.own.2 with ⟨hv, h0⟩ | ⟨q, cap, cur, hv, hb, hc, h1, h2, h3⟩
  · simp only [Value.slice.injEq] at hv
    obtain ⟨_, _, rfl⟩ := hv
    exact grw_make (fun h' => by omega) h.ro (by omega) (by unfold maxLen; omega) hk hl hg hrow
  · simp only [Value.slice.injEq, true_and] at hv
    obtain ⟨rfl, rfl⟩ := hv
    exact grw_make (fun _ => ⟨q, rfl, Cells.own h.own⟩) h.ro h1 h2 hk hl hg hrow
theorem info_intsl : (Try.prog.info? 31).map (fun i => (i.zero, i.size, i.bytes)) = some (some (.slice none 0 0), 1, 24) := by kernel_rfl
theorem made_rows (n : Nat) (hn : n ≤ 1000) : ∃ zc : Array Value, zc.toList = rowV n (fun _ => (none, 0, 0)) ∧ ∀ W, (Instr.makeSlice 28 (.int .i64 (n : Int)) (.int .i64 (n : Int))).run Try.prog W = .ok (.slice (some ⟨W.heap.size, 0, none⟩) n n) (W.alloc (.cells zc 31)) := by
  obtain ⟨i0, hi, hz0, hz1, hz2⟩ := info_parts info_intsl
  refine ⟨madeCells (Value.slice none 0 0).cells (n * i0.size), ?_, fun W => ?_⟩
  · rw [hz1, Nat.mul_one]
    rw [show (Value.slice none 0 0).cells = #[Value.slice none 0 0] from rfl, toList_madeCells_one]
    apply List.ext_getElem?
    intro j
    by_cases hj : j < n
    · rw [rowV_at _ hj]; simp [hj, svV]
    · rw [List.getElem?_eq_none (by simp; omega), List.getElem?_eq_none (by rw [rowV_len]; omega)]
  · have := run_make (P := Try.prog) W 28 31 i0 _ Try.underlying28 hi hz0 .i64 .i64 (n : Int) (n : Int) (by omega) (by omega) (by rw [hz2]; omega) (by omega)
    simpa using this
end Go.Proofs.Ytnfoahcdmaphnaa
