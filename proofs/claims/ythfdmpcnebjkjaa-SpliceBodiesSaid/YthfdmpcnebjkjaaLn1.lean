/-
  Pieces of bodies: three rows that are owned, none of which lies where another one does.
-/
import Derived.Test.YthfdmpcnebjkjaaRn11
namespace Go.Proofs.Ythfdmpcnebjkjaa
open Go.RowKit
set_option linter.unusedSimpArgs false
set_option linter.unusedVariables false
structure Rw (base : Nat) (F : Nat → Prop) (u0 u1 u2 : Value) (m0 m1 m2 : Nat) (l0 : List DInstr) (l1 l2 : List Int) (W : World) : Prop where
  r0 : W.ownsRow base 49 2 u0 m0 (l0.flatMap cellsI)
  r1 : W.ownsRow base 3 1 u1 m1 (rowI l1)
  r2 : W.ownsRow base 3 1 u2 m2 (rowI l2)
  n01 : ∀ b, u0.ownBlock = some b → u1.ownBlock ≠ some b
  n02 : ∀ b, u0.ownBlock = some b → u2.ownBlock ≠ some b
  n12 : ∀ b, u1.ownBlock = some b → u2.ownBlock ≠ some b
  f0 : ∀ j, F j → u0.ownBlock ≠ some j
  f1 : ∀ j, F j → u1.ownBlock ≠ some j
  f2 : ∀ j, F j → u2.ownBlock ≠ some j
  fl : ∀ j, F j → j < W.heap.size
  sz : base ≤ W.heap.size
variable {base : Nat} {F : Nat → Prop} {u0 u1 u2 : Value} {m0 m1 m2 : Nat} {l0 : List DInstr} {l1 l2 : List Int} {W w3 : World}
theorem Rw.start {base : Nat} {F : Nat → Prop} {W : World} (hF : ∀ j, F j → j < W.heap.size) (hb : base ≤ W.heap.size) : Rw base F (.slice none 0 0) (.slice none 0 0) (.slice none 0 0) 0 0 0 [] [] [] W :=
  ⟨⟨rfl, .inl ⟨rfl, rfl⟩⟩, ⟨rfl, .inl ⟨rfl, rfl⟩⟩, ⟨rfl, .inl ⟨rfl, rfl⟩⟩, (fun b h => by cases h), (fun b h => by cases h), (fun b h => by cases h), (fun j _ h => by cases h), (fun j _ h => by cases h), (fun j _ h => by cases h), hF, hb⟩
theorem Rw.kp (h : Rw base F u0 u1 u2 m0 m1 m2 l0 l1 l2 W) {S : Nat → Prop} (hk : Kp S W w3) (h0 : ∀ j, u0.ownBlock = some j → ¬ S j) (h1 : ∀ j, u1.ownBlock = some j → ¬ S j) (h2 : ∀ j, u2.ownBlock = some j → ¬ S j) : Rw base F u0 u1 u2 m0 m1 m2 l0 l1 l2 w3 :=
  ⟨hk.own h.r0 h0, hk.own h.r1 h1, hk.own h.r2 h2, h.n01, h.n02, h.n12, h.f0, h.f1, h.f2, fun j hj => by have := h.fl j hj; have := hk.size; omega, by have := h.sz; have := hk.size; omega⟩
theorem Rw.on (h : Rw base F u0 u1 u2 m0 m1 m2 l0 l1 l2 W) (hb : Below W.heap.size W w3) : Rw base F u0 u1 u2 m0 m1 m2 l0 l1 l2 w3 :=
  h.kp ((Kp.refl (fun _ => False) W).ofBelow hb) (fun _ _ h => h) (fun _ _ h => h) (fun _ _ h => h)
theorem Rw.less (h : Rw base F u0 u1 u2 m0 m1 m2 l0 l1 l2 W) {G : Nat → Prop} (hG : ∀ j, G j → F j) : Rw base G u0 u1 u2 m0 m1 m2 l0 l1 l2 W :=
  ⟨h.r0, h.r1, h.r2, h.n01, h.n02, h.n12, fun j hj => h.f0 j (hG j hj), fun j hj => h.f1 j (hG j hj), fun j hj => h.f2 j (hG j hj), fun j hj => h.fl j (hG j hj), h.sz⟩
/-- What is made meanwhile is foreign too. -/
theorem Rw.widen (h : Rw base F u0 u1 u2 m0 m1 m2 l0 l1 l2 W) (hb : Below W.heap.size W w3) : Rw base (fun j => F j ∨ (W.heap.size ≤ j ∧ j < w3.heap.size)) u0 u1 u2 m0 m1 m2 l0 l1 l2 w3 := by
  have h' := h.on hb
  refine ⟨h'.r0, h'.r1, h'.r2, h.n01, h.n02, h.n12, fun j hj e => ?_, fun j hj e => ?_, fun j hj e => ?_, fun j hj => ?_, h'.sz⟩
  · rcases hj with hj | hj
    · exact h.f0 j hj e
    · have := (h.r0.lt j e).2; omega
  · rcases hj with hj | hj
    · exact h.f1 j hj e
    · have := (h.r1.lt j e).2; omega
  · rcases hj with hj | hj
    · exact h.f2 j hj e
    · have := (h.r2.lt j e).2; omega
  · rcases hj with hj | hj
    · have := h.fl j hj; have := hb.size; omega
    · exact hj.2
theorem own_other {b b2 : Option Nat} {n : Nat} (hat : b2 = b ∨ b2 = some n) {c : Option Nat} (h1 : ∀ k, b = some k → c ≠ some k) (h2 : ∀ k, c = some k → k < n) (k : Nat) (hk : b2 = some k) : c ≠ some k := by
  rcases hat with e | e
  · rw [e] at hk; exact h1 k hk
  · rw [e] at hk
    have hk := Option.some.inj hk
    subst hk
    intro hc
    have := h2 _ hc
    omega
theorem own_foreign {b b2 : Option Nat} {n : Nat} {F : Nat → Prop} (hat : b2 = b ∨ b2 = some n) (h1 : ∀ j, F j → b ≠ some j) (h2 : ∀ j, F j → j < n) (j : Nat) (hj : F j) : b2 ≠ some j := by
  rcases hat with e | e
  · rw [e]; exact h1 j hj
  · rw [e]
    intro h
    have := Option.some.inj h
    have := h2 j hj
    omega
theorem Rw.app0 (h : Rw base F u0 u1 u2 m0 m1 m2 l0 l1 l2 W) {x : DInstr} {v' : Value} (hown' : w3.ownsRow base 49 2 v' (m0 + 1) (l0.flatMap cellsI ++ cellsI x)) (hgrow : W.grownBy w3 u0.ownBlock) (hat : v'.ownBlock = u0.ownBlock ∨ v'.ownBlock = some W.heap.size) :
    Rw base F v' u1 u2 (m0 + 1) m1 m2 (l0 ++ [x]) l1 l2 w3 ∧ Kp (fun j => ¬ F j) W w3 := by
  have hk : Kp (fun j => u0.ownBlock = some j) W w3 := (Kp.refl _ W).ofGrown hgrow fun k hk _ => hk
  refine ⟨⟨by rw [List.flatMap_append]; simpa using hown', hk.own h.r1 (fun k hk' e => h.n01 k e hk'), hk.own h.r2 (fun k hk' e => h.n02 k e hk'), own_other hat h.n01 (fun k hk => (h.r1.lt k hk).2), own_other hat h.n02 (fun k hk => (h.r2.lt k hk).2), h.n12, own_foreign hat h.f0 h.fl, h.f1, h.f2, fun j hj => by have := h.fl j hj; have := hk.size; omega, by have := h.sz; have := hk.size; omega⟩, hk.mono fun k _ e hF => h.f0 k hF e⟩
theorem Rw.app1 (h : Rw base F u0 u1 u2 m0 m1 m2 l0 l1 l2 W) {x : Int} {v' : Value} (hown' : w3.ownsRow base 3 1 v' (m1 + 1) (rowI l1 ++ [.int .i64 x])) (hgrow : W.grownBy w3 u1.ownBlock) (hat : v'.ownBlock = u1.ownBlock ∨ v'.ownBlock = some W.heap.size) :
    Rw base F u0 v' u2 m0 (m1 + 1) m2 l0 (l1 ++ [x]) l2 w3 ∧ Kp (fun j => ¬ F j) W w3 := by
  have hk : Kp (fun j => u1.ownBlock = some j) W w3 := (Kp.refl _ W).ofGrown hgrow fun k hk _ => hk
  refine ⟨⟨hk.own h.r0 (fun k hk' e => h.n01 k hk' e), by simpa [rowI] using hown', hk.own h.r2 (fun k hk' e => h.n12 k e hk'), fun k hk e => own_other hat (c := u0.ownBlock) (fun k hk e => h.n01 k e hk) (fun k hk => (h.r0.lt k hk).2) k e hk, h.n02, own_other hat h.n12 (fun k hk => (h.r2.lt k hk).2), h.f0, own_foreign hat h.f1 h.fl, h.f2, fun j hj => by have := h.fl j hj; have := hk.size; omega, by have := h.sz; have := hk.size; omega⟩, hk.mono fun k _ e hF => h.f1 k hF e⟩
theorem Rw.app2 (h : Rw base F u0 u1 u2 m0 m1 m2 l0 l1 l2 W) {x : Int} {v' : Value} (hown' : w3.ownsRow base 3 1 v' (m2 + 1) (rowI l2 ++ [.int .i64 x])) (hgrow : W.grownBy w3 u2.ownBlock) (hat : v'.ownBlock = u2.ownBlock ∨ v'.ownBlock = some W.heap.size) :
    Rw base F u0 u1 v' m0 m1 (m2 + 1) l0 l1 (l2 ++ [x]) w3 ∧ Kp (fun j => ¬ F j) W w3 := by
  have hk : Kp (fun j => u2.ownBlock = some j) W w3 := (Kp.refl _ W).ofGrown hgrow fun k hk _ => hk
  refine ⟨⟨hk.own h.r0 (fun k hk' e => h.n02 k hk' e), hk.own h.r1 (fun k hk' e => h.n12 k hk' e), by simpa [rowI] using hown', h.n01, fun k hk e => own_other hat (c := u0.ownBlock) (fun k hk e => h.n02 k e hk) (fun k hk => (h.r0.lt k hk).2) k e hk, fun k hk e => own_other hat (c := u1.ownBlock) (fun k hk e => h.n12 k e hk) (fun k hk => (h.r1.lt k hk).2) k e hk, h.f0, h.f1, own_foreign hat h.f2 h.fl, fun j hj => by have := h.fl j hj; have := hk.size; omega, by have := h.sz; have := hk.size; omega⟩, hk.mono fun k _ e hF => h.f2 k hF e⟩
/-- A source that lies apart. -/
structure Sr (n : Nat) (u0 u1 u2 : Value) (sz : Nat) (cs : List Value) (g : Nat) (W : World) : Prop where
  src : SrcCells W (some ⟨g, 0, none⟩) n sz cs
  lt : g < W.heap.size
  a0 : u0.ownBlock ≠ some g
  a1 : u1.ownBlock ≠ some g
  a2 : u2.ownBlock ≠ some g
theorem src_kp {W w3 : World} {g m sz : Nat} {cs : List Value} {S : Nat → Prop} (h : SrcCells W (some ⟨g, 0, none⟩) m sz cs) (hlt : g < W.heap.size) (hk : Kp S W w3) (hS : ¬ S g) : SrcCells w3 (some ⟨g, 0, none⟩) m sz cs :=
  ⟨h.1, h.2.1, fun ad had j u hu => by
    injection had with had
    subst had
    rw [add_zero_at]
    have h1 := h.2.2 _ rfl j u hu
    rw [add_zero_at] at h1
    exact hk.cellv h1 hS⟩
structure Ln (base : Nat) (F : Nat → Prop) (u0 u1 u2 : Value) (m0 m1 m2 : Nat) (l0 : List DInstr) (l1 l2 : List Int) (o0 o1 o2 : Option Nat) (x : DInstr) (li nd : Int) (w0 W : World) : Prop where
  ro : Rw base F u0 u1 u2 m0 m1 m2 l0 l1 l2 W
  s0 : ∀ g, o0 = some g → Sr 1 u0 u1 u2 2 (cellsI x) g W
  s1 : ∀ g, o1 = some g → Sr 1 u0 u1 u2 1 [.int .i64 li] g W
  s2 : ∀ g, o2 = some g → Sr 1 u0 u1 u2 1 [.int .i64 nd] g W
  kp : Kp (fun j => ¬ F j) w0 W
variable {o0 o1 o2 : Option Nat} {x : DInstr} {li nd : Int} {w0 : World}
theorem Sr.on {n sz g : Nat} {cs : List Value} (h : Sr n u0 u1 u2 sz cs g W) (hb : Below W.heap.size W w3) : Sr n u0 u1 u2 sz cs g w3 :=
  ⟨src_kp h.src h.lt ((Kp.refl (fun _ => False) W).ofBelow hb) id, Nat.lt_of_lt_of_le h.lt hb.size, h.a0, h.a1, h.a2⟩
theorem Sr.new (h : Rw base F u0 u1 u2 m0 m1 m2 l0 l1 l2 W) (cs : List Value) (t : TypeId) (sz : Nat) (hl : cs.length = 1 * sz) : Sr 1 u0 u1 u2 sz cs W.heap.size (W.alloc (.cells cs.toArray t)) :=
  ⟨src_of_cells (Cells.new W cs t) 1 sz hl, by simp, fun e => by have := (h.r0.lt _ e).2; omega, fun e => by have := (h.r1.lt _ e).2; omega, fun e => by have := (h.r2.lt _ e).2; omega⟩
theorem Ln.b0 (h : Ln base F u0 u1 u2 m0 m1 m2 l0 l1 l2 none o1 o2 x li nd w0 W) : Ln base F u0 u1 u2 m0 m1 m2 l0 l1 l2 (some W.heap.size) o1 o2 x li nd w0 (W.alloc (.cells #[.int .i64 x.op, .int .i64 x.a] 49)) :=
  ⟨h.ro.on (bl_one _), fun g hg => by injection hg with hg; subst hg; exact Sr.new h.ro (cellsI x) _ 2 rfl, fun g hg => (h.s1 g hg).on (bl_one _), fun g hg => (h.s2 g hg).on (bl_one _), h.kp.alloc _⟩
theorem Ln.b1 (h : Ln base F u0 u1 u2 m0 m1 m2 l0 l1 l2 o0 none o2 x li nd w0 W) : Ln base F u0 u1 u2 m0 m1 m2 l0 l1 l2 o0 (some W.heap.size) o2 x li nd w0 (W.alloc (.cells #[.int .i64 li] 3)) :=
  ⟨h.ro.on (bl_one _), fun g hg => (h.s0 g hg).on (bl_one _), fun g hg => by injection hg with hg; subst hg; exact Sr.new h.ro [.int .i64 li] _ 1 rfl, fun g hg => (h.s2 g hg).on (bl_one _), h.kp.alloc _⟩
theorem Ln.b2 (h : Ln base F u0 u1 u2 m0 m1 m2 l0 l1 l2 o0 o1 none x li nd w0 W) : Ln base F u0 u1 u2 m0 m1 m2 l0 l1 l2 o0 o1 (some W.heap.size) x li nd w0 (W.alloc (.cells #[.int .i64 nd] 3)) :=
  ⟨h.ro.on (bl_one _), fun g hg => (h.s0 g hg).on (bl_one _), fun g hg => (h.s1 g hg).on (bl_one _), fun g hg => by injection hg with hg; subst hg; exact Sr.new h.ro [.int .i64 nd] _ 1 rfl, h.kp.alloc _⟩
theorem own_src_ne {b b2 : Option Nat} {n g : Nat} (hat : b2 = b ∨ b2 = some n) (h1 : b ≠ some g) (h2 : g < n) : b2 ≠ some g := by
  rcases hat with e | e
  · rw [e]; exact h1
  · rw [e]; intro h; have := Option.some.inj h; omega
theorem Sr.ap0 {n sz g : Nat} {cs : List Value} (h : Sr n u0 u1 u2 sz cs g W) {v' : Value} (hgrow : W.grownBy w3 u0.ownBlock) (hat : v'.ownBlock = u0.ownBlock ∨ v'.ownBlock = some W.heap.size) : Sr n v' u1 u2 sz cs g w3 :=
  ⟨src_kp h.src h.lt ((Kp.refl (fun j => u0.ownBlock = some j) W).ofGrown hgrow fun k hk _ => hk) h.a0, Nat.lt_of_lt_of_le h.lt hgrow.size, own_src_ne hat h.a0 h.lt, h.a1, h.a2⟩
theorem Sr.ap1 {n sz g : Nat} {cs : List Value} (h : Sr n u0 u1 u2 sz cs g W) {v' : Value} (hgrow : W.grownBy w3 u1.ownBlock) (hat : v'.ownBlock = u1.ownBlock ∨ v'.ownBlock = some W.heap.size) : Sr n u0 v' u2 sz cs g w3 :=
  ⟨src_kp h.src h.lt ((Kp.refl (fun j => u1.ownBlock = some j) W).ofGrown hgrow fun k hk _ => hk) h.a1, Nat.lt_of_lt_of_le h.lt hgrow.size, h.a0, own_src_ne hat h.a1 h.lt, h.a2⟩
theorem Sr.ap2 {n sz g : Nat} {cs : List Value} (h : Sr n u0 u1 u2 sz cs g W) {v' : Value} (hgrow : W.grownBy w3 u2.ownBlock) (hat : v'.ownBlock = u2.ownBlock ∨ v'.ownBlock = some W.heap.size) : Sr n u0 u1 v' sz cs g w3 :=
  ⟨src_kp h.src h.lt ((Kp.refl (fun j => u2.ownBlock = some j) W).ofGrown hgrow fun k hk _ => hk) h.a2, Nat.lt_of_lt_of_le h.lt hgrow.size, h.a0, h.a1, own_src_ne hat h.a2 h.lt⟩
theorem Ln.a0 (h : Ln base F u0 u1 u2 m0 m1 m2 l0 l1 l2 o0 o1 o2 x li nd w0 W) {v' : Value} (hown' : w3.ownsRow base 49 2 v' (m0 + 1) (l0.flatMap cellsI ++ cellsI x)) (hgrow : W.grownBy w3 u0.ownBlock) (hat : v'.ownBlock = u0.ownBlock ∨ v'.ownBlock = some W.heap.size) :
    Ln base F v' u1 u2 (m0 + 1) m1 m2 (l0 ++ [x]) l1 l2 none o1 o2 x li nd w0 w3 :=
  ⟨(h.ro.app0 hown' hgrow hat).1, (fun g hg => by cases hg), fun g hg => (h.s1 g hg).ap0 hgrow hat, fun g hg => (h.s2 g hg).ap0 hgrow hat, h.kp.trans (h.ro.app0 hown' hgrow hat).2⟩
theorem Ln.a1 (h : Ln base F u0 u1 u2 m0 m1 m2 l0 l1 l2 o0 o1 o2 x li nd w0 W) {v' : Value} (hown' : w3.ownsRow base 3 1 v' (m1 + 1) (rowI l1 ++ [.int .i64 li])) (hgrow : W.grownBy w3 u1.ownBlock) (hat : v'.ownBlock = u1.ownBlock ∨ v'.ownBlock = some W.heap.size) :
    Ln base F u0 v' u2 m0 (m1 + 1) m2 l0 (l1 ++ [li]) l2 o0 none o2 x li nd w0 w3 :=
  ⟨(h.ro.app1 hown' hgrow hat).1, fun g hg => (h.s0 g hg).ap1 hgrow hat, (fun g hg => by cases hg), fun g hg => (h.s2 g hg).ap1 hgrow hat, h.kp.trans (h.ro.app1 hown' hgrow hat).2⟩
theorem Ln.a2 (h : Ln base F u0 u1 u2 m0 m1 m2 l0 l1 l2 o0 o1 o2 x li nd w0 W) {v' : Value} (hown' : w3.ownsRow base 3 1 v' (m2 + 1) (rowI l2 ++ [.int .i64 nd])) (hgrow : W.grownBy w3 u2.ownBlock) (hat : v'.ownBlock = u2.ownBlock ∨ v'.ownBlock = some W.heap.size) :
    Ln base F u0 u1 v' m0 m1 (m2 + 1) l0 l1 (l2 ++ [nd]) o0 o1 none x li nd w0 w3 :=
  ⟨(h.ro.app2 hown' hgrow hat).1, fun g hg => (h.s0 g hg).ap2 hgrow hat, fun g hg => (h.s1 g hg).ap2 hgrow hat, (fun g hg => by cases hg), h.kp.trans (h.ro.app2 hown' hgrow hat).2⟩
end Go.Proofs.Ythfdmpcnebjkjaa
