/-
  Rows of rows of numbers: as they are read (GrW), and while they are made (TkW, RoW): each row is owned.
-/
import Derived.Test.YtjblfdnhmmlbfaaCel
import Derived.Test.YtjblfdnhmmlbfaaRi
namespace Go.Proofs.Ytjblfdnhmmlbfaa
open Go.RowKit
set_option linter.unusedSimpArgs false
set_option linter.unusedVariables false
abbrev Gr := List (List Int)
def rowG (g : Gr) (v : Nat) : List Int := (g[v]?).getD []
def upd {α : Type} (f : Nat → α) (a : Nat) (b : α) : Nat → α := fun j => if j = a then b else f j
theorem upd_same {α : Type} (f : Nat → α) (a : Nat) (b : α) : upd f a b a = b := by simp [upd]
theorem upd_other {α : Type} (f : Nat → α) {a j : Nat} (b : α) (h : j ≠ a) : upd f a b j = f j := by simp [upd, h]
/-- A row of rows of numbers. -/
abbrev GrW (w : World) (B : Nat) (A : Option Addr) (n c : Nat) (g : Gr) : Prop := SlR 1 24 (RSl 1 8 (RI .i64)) w B A n c g
theorem stable_row : Stable (RSl 1 8 (RI .i64)) := by
  intro w w' B cs x h hk
  obtain ⟨A, n, c, e, q⟩ := h
  exact ⟨A, n, c, e, SlR.keep (stable_rc _) q hk⟩
theorem GrW.keep {w w' : World} {B : Nat} {A : Option Addr} {n c : Nat} {g : Gr} (h : GrW w B A n c g) (hb : Below B w w') : GrW w' B A n c g := SlR.keep stable_row h fun p hp => hb.cell hp
theorem GrW.row {w : World} {B : Nat} {A : Option Addr} {n c : Nat} {g : Gr} (h : GrW w B A n c g) {i : Nat} (hi : i < n) :
    ∃ b off Ai ni ci, A = some ⟨b, off, none⟩ ∧ b < B ∧ w.cell? ⟨b, off + i, none⟩ = some (.slice Ai ni ci) ∧ SlI w B Ai ni ci (rowG g i) := by
  obtain ⟨b, off, x, cs, hA, hb, hx, hl, hc, Ai, ni, ci, e, q⟩ := SlR.at_ h hi
  subst e
  refine ⟨b, off, Ai, ni, ci, hA, hb, by simpa using hc 0 _ rfl, ?_⟩
  unfold rowG
  rw [hx]
  exact q
theorem GrW.more {w : World} {B B' : Nat} {A : Option Addr} {n c : Nat} {g : Gr} (h : GrW w B A n c g) (hB : B ≤ B') : GrW w B' A n c g := by
  obtain ⟨h1, h2, h3, h4, h5⟩ := h
  refine ⟨h1, h2, h3, h4, fun hn => ?_⟩
  obtain ⟨b, off, hA, hb, hx⟩ := h5 hn
  refine ⟨b, off, hA, by omega, fun i x hi => ?_⟩
  obtain ⟨cs, hl, hc, A', n', c', e, q⟩ := hx i x hi
  exact ⟨cs, hl, hc, A', n', c', e, SlR.more q hB⟩
abbrev Vs := Nat → Option Addr × Nat × Nat
def svV (x : Option Addr × Nat × Nat) : Value := .slice x.1 x.2.1 x.2.2
def rowV (k : Nat) (V : Vs) : List Value := (List.range k).map fun i => svV (V i)
theorem rowV_len (k : Nat) (V : Vs) : (rowV k V).length = k := by simp [rowV]
theorem rowV_at {k i : Nat} (V : Vs) (hi : i < k) : (rowV k V)[i]? = some (svV (V i)) := by simp [rowV, hi]
theorem rowV_set {k i : Nat} (V : Vs) (x : Option Addr × Nat × Nat) : (rowV k V).set i (svV x) = rowV k (upd V i x) := by
  apply List.ext_getElem?
  intro j
  by_cases hj : j < k
  · rw [rowV_at _ hj]
    by_cases e : i = j
    · subst e
      rw [List.getElem?_set_self (by rw [rowV_len]; exact hj), upd_same]
    · rw [List.getElem?_set_ne e, rowV_at _ hj, upd_other _ _ (fun h => e h.symm)]
  · rw [List.getElem?_eq_none (by rw [List.length_set, rowV_len]; omega), List.getElem?_eq_none (by rw [rowV_len]; omega)]
theorem rowV_succ (k : Nat) (V : Vs) (x : Option Addr × Nat × Nat) : rowV k V ++ [svV x] = rowV (k + 1) (upd V k x) := by
  unfold rowV
  rw [List.range_succ, List.map_append]
  congr 1
  · apply List.map_congr_left
    intro i hi
    rw [upd_other _ _ (by have := List.mem_range.1 hi; omega)]
  · simp [upd_same]
theorem sv_slice (x : Option Addr × Nat × Nat) : svV x = .slice x.1 x.2.1 x.2.2 := rfl
/-- The program's: made at once, its cells put one by one. -/
structure TkW (base ob n : Nat) (V : Vs) (L : Nat → List Int) (W : World) : Prop where
  oc : Cells W ob (rowV n V)
  ro : ∀ i, i < n → W.ownsRow base 3 1 (svV (V i)) (V i).2.1 (rowI (L i))
  ne : ∀ i j, i < n → j < n → i ≠ j → ∀ b, (svV (V i)).ownBlock = some b → (svV (V j)).ownBlock ≠ some b
  ob : ob < base
theorem TkW.kp {base ob n : Nat} {V : Vs} {L : Nat → List Int} {W W' : World} (h : TkW base ob n V L W) (hk : Kp (fun _ => False) W W') : TkW base ob n V L W' :=
  ⟨h.oc.kp hk id, fun i hi => hk.own (h.ro i hi) (fun _ _ h => h), h.ne, h.ob⟩
theorem TkW.on {base ob n : Nat} {V : Vs} {L : Nat → List Int} {W W' : World} (h : TkW base ob n V L W) (hb : Below W.heap.size W W') : TkW base ob n V L W' := h.kp ((Kp.refl _ W).ofBelow hb)
theorem TkW.put {base ob n : Nat} {V : Vs} {L : Nat → List Int} {W W' : World} (h : TkW base ob n V L W) {i : Nat} (hi : i < n) (hk : Kp (fun b => (svV (V i)).ownBlock = some b) W W') {x : Option Addr × Nat × Nat} {l : List Int}
    (ho : W'.ownsRow base 3 1 (svV x) x.2.1 (rowI l)) (hat : (svV x).ownBlock = (svV (V i)).ownBlock ∨ ∀ b, (svV x).ownBlock = some b → W.heap.size ≤ b) :
    TkW base ob n (upd V i x) (upd L i l) (W'.setCell ⟨ob, i, none⟩ (svV x)) := by
  have hob := h.ob
  refine ⟨?_, fun j hj => ?_, fun a b ha hb hab => ?_, hob⟩
  · have h1 := (h.oc.kp hk (fun e => by have := ((h.ro i hi).lt _ e).1; omega)).put i (by rw [rowV_len]; exact hi) (svV x)
    rw [rowV_set] at h1
    exact h1
  · by_cases e : j = i
    · subst e
      rw [upd_same, upd_same]
      exact (kp_set W' ob j (svV x)).own ho (fun k hk e => by have := (ho.lt k hk).1; omega)
    · rw [upd_other _ _ e, upd_other _ _ e]
      have h1 := hk.own (h.ro j hj) (fun k hk' hS => h.ne i j hi hj (fun e' => e e'.symm) k hS hk')
      exact (kp_set W' ob i (svV x)).own h1 (fun k hk e => by have := (h1.lt k hk).1; omega)
  · intro k hka hkb
    by_cases ea : a = i
    · subst ea
      rw [upd_same] at hka
      rw [upd_other _ _ (fun e => hab e.symm)] at hkb
      rcases hat with e1 | e1
      · rw [e1] at hka
        exact h.ne a b ha hb hab k hka hkb
      · have h1 := e1 k hka
        have h2 := ((h.ro b hb).lt k hkb).2
        omega
    · rw [upd_other _ _ ea] at hka
      by_cases eb : b = i
      · subst eb
        rw [upd_same] at hkb
        rcases hat with e1 | e1
        · rw [e1] at hkb
          exact h.ne a b ha hb hab k hka hkb
        · have h1 := e1 k hkb
          have h2 := ((h.ro a ha).lt k hka).2
          omega
      · rw [upd_other _ _ eb] at hkb
        exact h.ne a b ha hb hab k hka hkb
theorem grw_make {base k c : Nat} {A : Option Addr} {V : Vs} {L : Nat → List Int} {W : World} (h0 : 0 < k → ∃ b, A = some ⟨b, 0, none⟩ ∧ Cells W b (rowV k V)) (hr : ∀ i, i < k → W.ownsRow base 3 1 (svV (V i)) (V i).2.1 (rowI (L i)))
    (hc : k ≤ c) (hm : c ≤ maxLen) (hk : k ≤ 50) (hl : ∀ i, i < k → (L i).length ≤ 100000) {g : Gr} (hg : g.length = k) (hrow : ∀ i, i < k → rowG g i = L i) : GrW W W.heap.size A k c g := by
  refine ⟨hg, hc, hm, by unfold reachBytes; omega, fun hn => ?_⟩
  obtain ⟨b, rfl, hC⟩ := h0 hn
  refine ⟨b, 0, rfl, hC.lt, fun i x hi => ⟨[svV (V i)], rfl, fun j u hj => ?_, (V i).1, (V i).2.1, (V i).2.2, rfl, ?_⟩⟩
  · have hik : i < k := by have := (List.getElem?_eq_some_iff.1 hi).1; omega
    have hj0 : j = 0 := by
      have := (List.getElem?_eq_some_iff.1 hj).1
      simp at this
      omega
    subst hj0
    simp at hj
    subst hj
    simpa using hC.at_ i _ (rowV_at V hik)
  · have hik : i < k := by have := (List.getElem?_eq_some_iff.1 hi).1; omega
    have e : x = L i := by
      have h1 := hrow i hik
      unfold rowG at h1
      rw [hi] at h1
      exact h1
    subst e
    have h2 := hr i hik
    rw [sv_slice] at h2
    have h3 : (V i).2.1 = (L i).length := by
      have := h2.1
      unfold rowI at this
      rw [List.length_map] at this
      omega
    exact SlI.own h2 (by rw [h3]; exact hl i hik)
theorem TkW.grw {base ob n : Nat} {V : Vs} {L : Nat → List Int} {W : World} (h : TkW base ob n V L W) (hk : n ≤ 50) (hl : ∀ i, i < n → (L i).length ≤ 100000) {g : Gr} (hg : g.length = n) (hrow : ∀ i, i < n → rowG g i = L i) : GrW W W.heap.size (some ⟨ob, 0, none⟩) n n g :=
  grw_make (fun _ => ⟨ob, rfl, h.oc⟩) h.ro (Nat.le_refl _) (by unfold maxLen; omega) hk hl hg hrow
/-- The document's: grown row by row. -/
structure RoW (base : Nat) (A : Option Addr) (k c : Nat) (V : Vs) (L : Nat → List Int) (W : World) : Prop where
  own : W.ownsRow base 30 1 (.slice A k c) k (rowV k V)
  ro : ∀ i, i < k → W.ownsRow base 3 1 (svV (V i)) (V i).2.1 (rowI (L i))
  ap : ∀ i, i < k → ∀ b, (svV (V i)).ownBlock = some b → (Value.slice A k c).ownBlock ≠ some b
theorem RoW.start (base : Nat) (V : Vs) (L : Nat → List Int) (W : World) : RoW base none 0 0 V L W := ⟨⟨rfl, .inl ⟨rfl, rfl⟩⟩, fun i hi => by omega, fun i hi => by omega⟩
theorem RoW.kp {base k c : Nat} {A : Option Addr} {V : Vs} {L : Nat → List Int} {W W' : World} {S : Nat → Prop} (h : RoW base A k c V L W) (hk : Kp S W W') (hS : ∀ j, S j → (Value.slice A k c).ownBlock ≠ some j ∧ ∀ i, i < k → (svV (V i)).ownBlock ≠ some j) : RoW base A k c V L W' :=
  ⟨hk.own h.own (fun j hj hs => (hS j hs).1 hj), fun i hi => hk.own (h.ro i hi) (fun j hj hs => (hS j hs).2 i hi hj), h.ap⟩
theorem RoW.on {base k c : Nat} {A : Option Addr} {V : Vs} {L : Nat → List Int} {W W' : World} (h : RoW base A k c V L W) (hb : Below W.heap.size W W') : RoW base A k c V L W' := h.kp ((Kp.refl (fun _ => False) W).ofBelow hb) (fun _ h => h.elim)
theorem RoW.push {base k c : Nat} {A : Option Addr} {V : Vs} {L : Nat → List Int} {W w3 : World} (h : RoW base A k c V L W) {x : Option Addr × Nat × Nat} {l : List Int} (hx : W.ownsRow base 3 1 (svV x) x.2.1 (rowI l))
    (hna : ∀ b, (svV x).ownBlock = some b → (Value.slice A k c).ownBlock ≠ some b) {v' : Value} {o : Obj} (hown' : w3.ownsRow base 30 1 v' (k + 1) (rowV k V ++ [svV x])) (hgrow : (W.alloc o).grownBy w3 (Value.slice A k c).ownBlock)
    (hat : v'.ownBlock = (Value.slice A k c).ownBlock ∨ v'.ownBlock = some (W.alloc o).heap.size) :
    ∃ A' c', v' = .slice A' (k + 1) c' ∧ RoW base A' (k + 1) c' (upd V k x) (upd L k l) w3 ∧ Kp (fun j => (Value.slice A k c).ownBlock = some j) W w3 := by
  rw [rowV_succ] at hown'
  obtain ⟨A', c', rfl, _⟩ := own_form hown'
  have hk : Kp (fun j => (Value.slice A k c).ownBlock = some j) W w3 := ((Kp.refl _ W).alloc o).ofGrown hgrow fun k hk _ => hk
  have hrows : ∀ i, i < k + 1 → W.ownsRow base 3 1 (svV (upd V k x i)) (upd V k x i).2.1 (rowI (upd L k l i)) ∧ ∀ b, (svV (upd V k x i)).ownBlock = some b → (Value.slice A k c).ownBlock ≠ some b := fun i hi => by
    by_cases e : i = k
    · subst e
      rw [upd_same, upd_same]
      exact ⟨hx, hna⟩
    · rw [upd_other _ _ e, upd_other _ _ e]
      exact ⟨h.ro i (by omega), h.ap i (by omega)⟩
  refine ⟨A', c', rfl, ⟨hown', fun i hi => hk.own (hrows i hi).1 (fun j hj hS => (hrows i hi).2 j hj hS), fun i hi b hb e => ?_⟩, hk⟩
  rcases hat with e1 | e1
  · rw [e1] at e
    exact (hrows i hi).2 b hb e
  · rw [e1] at e
    have h1 := Option.some.inj e
    have h2 := ((hrows i hi).1.lt b hb).2
    simp at h1
    omega
theorem RoW.grw {base k c : Nat} {A : Option Addr} {V : Vs} {L : Nat → List Int} {W : World} (h : RoW base A k c V L W) (hk : k ≤ 50) (hl : ∀ i, i < k → (L i).length ≤ 100000) {g : Gr} (hg : g.length = k) (hrow : ∀ i, i < k → rowG g i = L i) : GrW W W.heap.size A k c g := by
  rcases h.own.2 with ⟨hv, h0⟩ | ⟨q, cap, cur, hv, hb, hc, h1, h2, h3⟩
  · simp only [Value.slice.injEq] at hv
    obtain ⟨_, _, rfl⟩ := hv
    exact grw_make (fun h' => by omega) h.ro (by omega) (by unfold maxLen; omega) hk hl hg hrow
  · simp only [Value.slice.injEq, true_and] at hv
    obtain ⟨rfl, rfl⟩ := hv
    exact grw_make (fun _ => ⟨q, rfl, Cells.own h.own⟩) h.ro h1 h2 hk hl hg hrow
theorem info_intsl : (Try.prog.info? 30).map (fun i => (i.zero, i.size, i.bytes)) = some (some (.slice none 0 0), 1, 24) := by kernel_rfl
theorem made_rows (n : Nat) (hn : n ≤ 1000) : ∃ zc : Array Value, zc.toList = rowV n (fun _ => (none, 0, 0)) ∧ ∀ W, (Instr.makeSlice 27 (.int .i64 (n : Int)) (.int .i64 (n : Int))).run Try.prog W = .ok (.slice (some ⟨W.heap.size, 0, none⟩) n n) (W.alloc (.cells zc 30)) := by
  obtain ⟨i0, hi, hz0, hz1, hz2⟩ := info_parts info_intsl
  refine ⟨madeCells (Value.slice none 0 0).cells (n * i0.size), ?_, fun W => ?_⟩
  · rw [hz1, Nat.mul_one]
    rw [show (Value.slice none 0 0).cells = #[Value.slice none 0 0] from rfl, toList_madeCells_one]
    apply List.ext_getElem?
    intro j
    by_cases hj : j < n
    · rw [rowV_at _ hj]; simp [hj, svV]
    · rw [List.getElem?_eq_none (by simp; omega), List.getElem?_eq_none (by rw [rowV_len]; omega)]
  · have := run_make (P := Try.prog) W 27 30 i0 _ Try.underlying27 hi hz0 .i64 .i64 (n : Int) (n : Int) (by omega) (by omega) (by rw [hz2]; omega) (by omega)
    simpa using this
theorem upd_self {α : Type} (f : Nat → α) (a : Nat) : upd f a (f a) = f := by
  funext j
  unfold upd
  split
  · rename_i h; rw [h]
  · rfl
/-- What stands while one row is made. -/
structure RoR (base : Nat) (A : Option Addr) (k c : Nat) (V : Vs) (L : Nat → List Int) (A2 : Option Addr) (m c2 : Nat) (l2 : List Int) (w1 W : World) : Prop where
  ro : RoW base A k c V L W
  row : W.ownsRow base 3 1 (.slice A2 m c2) m (rowI l2)
  ap : ∀ b, (Value.slice A2 m c2).ownBlock = some b → (Value.slice A k c).ownBlock ≠ some b ∧ ∀ i, i < k → (svV (V i)).ownBlock ≠ some b
  bw : Below base w1 W
theorem RoR.on {base k c : Nat} {A : Option Addr} {V : Vs} {L : Nat → List Int} {A2 : Option Addr} {m c2 : Nat} {l2 : List Int} {w1 W W' : World} (h : RoR base A k c V L A2 m c2 l2 w1 W) (hb : Below W.heap.size W W') (hB : base ≤ W.heap.size) : RoR base A k c V L A2 m c2 l2 w1 W' :=
  ⟨h.ro.on hb, own_keep h.row hb, h.ap, h.bw.trans (hb.mono hB)⟩
theorem RoR.start {base k c : Nat} {A : Option Addr} {V : Vs} {L : Nat → List Int} {w1 W : World} (h : RoW base A k c V L W) (hb : Below base w1 W) : RoR base A k c V L none 0 0 [] w1 W :=
  ⟨h, ⟨rfl, .inl ⟨rfl, rfl⟩⟩, fun b hb => by simp [Value.ownBlock] at hb, hb⟩
theorem RoR.snoc {base k c : Nat} {A : Option Addr} {V : Vs} {L : Nat → List Int} {A2 : Option Addr} {m c2 : Nat} {l2 : List Int} {w1 W w4 : World} (h : RoR base A k c V L A2 m c2 l2 w1 W) (hB : base ≤ W.heap.size) {x : Int} {v' : Value}
    (hown' : w4.ownsRow base 3 1 v' (m + 1) (rowI l2 ++ [.int .i64 x])) (hgrow : (W.alloc (.cells #[.int .i64 x] 3)).grownBy w4 (Value.slice A2 m c2).ownBlock)
    (hat : v'.ownBlock = (Value.slice A2 m c2).ownBlock ∨ v'.ownBlock = some (W.alloc (.cells #[.int .i64 x] 3)).heap.size) :
    ∃ A' c', v' = .slice A' (m + 1) c' ∧ RoR base A k c V L A' (m + 1) c' (l2 ++ [x]) w1 w4 := by
  obtain ⟨A', c', rfl, X1, X2, _⟩ := app_int h.bw hB h.row hown' hgrow
  have hk : Kp (fun j => (Value.slice A2 m c2).ownBlock = some j) W w4 := ((Kp.refl _ W).alloc _).ofGrown hgrow fun k hk _ => hk
  refine ⟨A', c', rfl, ⟨h.ro.kp hk (fun j hj => h.ap j hj), X1, fun b hb => ?_, X2⟩⟩
  rcases hat with e | e
  · rw [e] at hb
    exact h.ap b hb
  · rw [e] at hb
    have h1 := Option.some.inj hb
    simp at h1
    refine ⟨fun h2 => ?_, fun i hi h2 => ?_⟩
    · have h3 := (h.ro.own.lt b h2).2
      omega
    · have h3 := ((h.ro.ro i hi).lt b h2).2
      omega
theorem one_sv (x : Option Addr × Nat × Nat) : ∀ u ∈ [svV x], u.oneCell' = true := by
  intro u hu
  simp at hu
  subst hu
  rfl
end Go.Proofs.Ytjblfdnhmmlbfaa
