import Derived.Test.YtobmjnmcjddhcaaGreatCFi5
import Derived.Test.YtobmjnmcjddhcaaGreatCFi9
set_option linter.unusedSimpArgs false
set_option linter.unusedVariables false
namespace Go.Proofs.YtobmjnmcjddhcaaGreat
open Go.RowKit
theorem sli_set {w : World} {B : Nat} {A : Option Addr} {k c : Nat} {l : List Int} (h : SlI w B A k c l) {b q : Nat} {v : Value} (hp : w.cell? ⟨b, q, none⟩ = some v) (hv : ∀ z, v ≠ .int .i64 z) (u : Value) : SlI (w.setCell ⟨b, q, none⟩ u) B A k c l := by
 obtain ⟨h1, h2, h3, h4, h5⟩ := h
 refine ⟨h1, h2, h3, h4, fun hk => ?_⟩
 obtain ⟨rb, ro, rfl, hb, hx⟩ := h5 hk
 refine ⟨rb, ro, rfl, hb, fun i x hi => ?_⟩
 obtain ⟨cs, e1, e2, e3⟩ := hx i x hi
 refine ⟨cs, e1, fun j u' hj => ?_, e3⟩
 have hc := e2 j u' hj
 have hcs : cs = [.int .i64 x] := e3
 rw [hcs] at hj
 have hj0 : j = 0 := by
  cases j with
  | zero => rfl
  | succ j => simp at hj
 subst hj0
 simp only [List.getElem?_cons_zero, Option.some.injEq] at hj
 subst hj
 refine (World.cell?_setCell_other _ _ _ _ (fun e => ?_)).trans hc
 rw [← e, hp] at hc
 injection hc with hc
 exact hv x hc
def OfW (W : World) (ob n : Nat) : Prop := ∃ vs : List Value, vs.length = n ∧ Cells W ob vs ∧ ∀ (i : Nat) (v : Value), vs[i]? = some v → ∃ A k c l, v = Value.slice A k c ∧ k ≤ 60 ∧ SlI W W.heap.size A k c l
theorem OfW.at_ {W : World} {ob n : Nat} (h : OfW W ob n) {i : Nat} (hi : i < n) : ∃ A k c l, W.cell? ⟨ob, i, none⟩ = some (.slice A k c) ∧ k ≤ 60 ∧ SlI W W.heap.size A k c l := by
 obtain ⟨vs, hl, hc, hx⟩ := h
 obtain ⟨v, hv⟩ : ∃ v, vs[i]? = some v := ⟨_, List.getElem?_eq_getElem (by omega)⟩
 obtain ⟨A, k, c, l, rfl, hk, hs⟩ := hx i v hv
 exact ⟨A, k, c, l, hc.at_ i _ hv, hk, hs⟩
theorem OfW.fz {W : World} {ob n : Nat} (h : OfW W ob n) {i : Nat} (hi : i < n) : W.frozen? ⟨ob, i, none⟩ = false := by
 obtain ⟨vs, hl, hc, hx⟩ := h
 exact hc.fz i (by omega)
theorem OfW.on {W W' : World} {ob n : Nat} (h : OfW W ob n) (hb : Below W.heap.size W W') : OfW W' ob n := by
 obtain ⟨vs, hl, hc, hx⟩ := h
 exact ⟨vs, hl, hc.on hb, fun i v hv => by
  obtain ⟨A, k, c, l, e, hk, hs⟩ := hx i v hv
  exact ⟨A, k, c, l, e, hk, hs.on hb⟩⟩
theorem OfW.far {W : World} {ob n : Nat} (h : OfW W ob n) {b q : Nat} (hne : ob ≠ b) {v : Value} (hp : W.cell? ⟨b, q, none⟩ = some v) (hv : ∀ z, v ≠ .int .i64 z) (u : Value) : OfW (W.setCell ⟨b, q, none⟩ u) ob n := by
 obtain ⟨vs, hl, hc, hx⟩ := h
 refine ⟨vs, hl, hc.far hne u, fun i v hv' => ?_⟩
 obtain ⟨A, k, c, l, e, hk, hs⟩ := hx i v hv'
 refine ⟨A, k, c, l, e, hk, ?_⟩
 have := sli_set hs hp hv u
 rwa [show (W.setCell ⟨b, q, none⟩ u).heap.size = W.heap.size by simp [World.setCell]]
theorem OfW.put {W : World} {ob n : Nat} (h : OfW W ob n) {q : Nat} (hq : q < n) {A : Option Addr} {k c : Nat} {l : List Int} (hk : k ≤ 60) (hs : SlI W W.heap.size A k c l) : OfW (W.setCell ⟨ob, q, none⟩ (.slice A k c)) ob n := by
 obtain ⟨A0, k0, c0, l0, hp, _, _⟩ := h.at_ hq
 have hz : (W.setCell ⟨ob, q, none⟩ (.slice A k c)).heap.size = W.heap.size := by simp [World.setCell]
 obtain ⟨vs, hl, hc, hx⟩ := h
 refine ⟨vs.set q (.slice A k c), by simp [hl], hc.put q (by omega) _, fun i v hv => ?_⟩
 by_cases e : i = q
 ·subst e
  rw [List.getElem?_set_self (by omega)] at hv
  injection hv with hv
  subst hv
  exact ⟨A, k, c, l, rfl, hk, by rw [hz]; exact sli_set hs hp (fun z h => by cases h) _⟩
 ·rw [List.getElem?_set_ne (Ne.symm e)] at hv
  obtain ⟨A1, k1, c1, l1, e1, hk1, hs1⟩ := hx i v hv
  exact ⟨A1, k1, c1, l1, e1, hk1, by rw [hz]; exact sli_set hs1 hp (fun z h => by cases h) _⟩
structure StK (w2 : World) (tb ob rb db n : Nat) (W : World) (fR fD : Nat → Bool) : Prop where
 w : Below w2.heap.size w2 W
 t : Cells W tb [.slice (some ⟨ob, 0, none⟩) n n, .slice (some ⟨rb, 0, none⟩) n n]
 o : OfW W ob n
 r : Cells W rb (arrB n fR)
 d : Cells W db (arrB n fD)
 l1 : w2.heap.size ≤ tb ∧ w2.heap.size ≤ ob ∧ w2.heap.size ≤ rb ∧ w2.heap.size ≤ db
 ne : tb ≠ ob ∧ tb ≠ rb ∧ tb ≠ db ∧ ob ≠ rb ∧ ob ≠ db ∧ rb ≠ db
variable {w2 W W' : World} {tb ob rb db n : Nat} {fR fD : Nat → Bool}
theorem StK.on (h : StK w2 tb ob rb db n W fR fD) (hb : Below W.heap.size W W') : StK w2 tb ob rb db n W' fR fD :=
 ⟨h.w.trans (hb.mono h.w.size), h.t.on hb, h.o.on hb, h.r.on hb, h.d.on hb, h.l1, h.ne⟩
theorem StK.yesR (h : StK w2 tb ob rb db n W fR fD) {q : Nat} (hq : q < n) : StK w2 tb ob rb db n (W.setCell ⟨rb, q, none⟩ (.bool true)) (upd fR q true) fD := by
 have hc := h.r.at_ q _ (arrB_at fR hq)
 have hv : ∀ z, Value.bool (fR q) ≠ .int .i64 z := fun z h => by cases h
 obtain ⟨a1, a2, a3, a4, a5, a6⟩ := h.ne
 refine ⟨h.w.setCell (p := ⟨rb, q, none⟩) h.l1.2.2.1 _, h.t.far a2 _, h.o.far a4 hc hv _, ?_, h.d.far (Ne.symm a6) _, h.l1, h.ne⟩
 have := h.r.put q (by rw [arrB_len]; exact hq) (.bool true)
 rwa [arrB_set] at this
theorem StK.yesD (h : StK w2 tb ob rb db n W fR fD) {q : Nat} (hq : q < n) : StK w2 tb ob rb db n (W.setCell ⟨db, q, none⟩ (.bool true)) fR (upd fD q true) := by
 have hc := h.d.at_ q _ (arrB_at fD hq)
 have hv : ∀ z, Value.bool (fD q) ≠ .int .i64 z := fun z h => by cases h
 obtain ⟨a1, a2, a3, a4, a5, a6⟩ := h.ne
 refine ⟨h.w.setCell (p := ⟨db, q, none⟩) h.l1.2.2.2 _, h.t.far a3 _, h.o.far a5 hc hv _, h.r.far a6 _, ?_, h.l1, h.ne⟩
 have := h.d.put q (by rw [arrB_len]; exact hq) (.bool true)
 rwa [arrB_set] at this
theorem StK.put (h : StK w2 tb ob rb db n W fR fD) {q : Nat} (hq : q < n) {A : Option Addr} {k c : Nat} {l : List Int} (hk : k ≤ 60) (hs : SlI W W.heap.size A k c l) : StK w2 tb ob rb db n (W.setCell ⟨ob, q, none⟩ (.slice A k c)) fR fD := by
 obtain ⟨a1, a2, a3, a4, a5, a6⟩ := h.ne
 exact ⟨h.w.setCell (p := ⟨ob, q, none⟩) h.l1.2.1 _, h.t.far a1 _, h.o.put hq hk hs, h.r.far (Ne.symm a4) _, h.d.far (Ne.symm a5) _, h.l1, h.ne⟩
theorem StK.sliR (h : StK w2 tb ob rb db n W fR fD) {q : Nat} (hq : q < n) {A : Option Addr} {k c : Nat} {l : List Int} (hs : SlI W W.heap.size A k c l) : SlI (W.setCell ⟨rb, q, none⟩ (.bool true)) (W.setCell ⟨rb, q, none⟩ (.bool true)).heap.size A k c l := by
 have := sli_set hs (h.r.at_ q _ (arrB_at fR hq)) (fun z h => by cases h) (.bool true)
 rwa [show (W.setCell ⟨rb, q, none⟩ (.bool true)).heap.size = W.heap.size by simp [World.setCell]]
theorem StK.sliO (h : StK w2 tb ob rb db n W fR fD) {q : Nat} (hq : q < n) {A : Option Addr} {k c : Nat} {l : List Int} (hs : SlI W W.heap.size A k c l) (u : Value) : SlI (W.setCell ⟨ob, q, none⟩ u) (W.setCell ⟨ob, q, none⟩ u).heap.size A k c l := by
 obtain ⟨A0, k0, c0, l0, hp, _, _⟩ := h.o.at_ hq
 have := sli_set hs hp (fun z h => by cases h) u
 rwa [show (W.setCell ⟨ob, q, none⟩ u).heap.size = W.heap.size by simp [World.setCell]]
structure Mk (w2 : World) (n : Nat) (o1 o3 o5 : Option Nat) (W : World) : Prop where
 pre : Below w2.heap.size w2 W
 c1 : ∀ b, o1 = some b → Cells W b (List.replicate n (.slice none 0 0)) ∧ w2.heap.size ≤ b
 c3 : ∀ b, o3 = some b → Cells W b (arrB n fun _ => false) ∧ w2.heap.size ≤ b
 c5 : ∀ b, o5 = some b → Cells W b [.slice none 0 0, .slice none 0 0] ∧ w2.heap.size ≤ b
 n13 : ∀ a b, o1 = some a → o3 = some b → a ≠ b
 n15 : ∀ a b, o1 = some a → o5 = some b → a ≠ b
 n35 : ∀ a b, o3 = some a → o5 = some b → a ≠ b
theorem Mk.start (h : Below w2.heap.size w2 W) : Mk w2 n none none none W where
 pre := h
 c1 := fun b h => by cases h
 c3 := fun b h => by cases h
 c5 := fun b h => by cases h
 n13 := fun a b h => by cases h
 n15 := fun a b h => by cases h
 n35 := fun a b h => by cases h
variable {o1 o3 o5 : Option Nat}
theorem Mk.m1 (h : Mk w2 n none o3 o5 W) (zs : Array Value) (hz : zs.toList = List.replicate n (.slice none 0 0)) (t : TypeId) : Mk w2 n (some W.heap.size) o3 o5 (W.alloc (.cells zs t)) where
 pre := h.pre.trans ((bl_one _).mono h.pre.size)
 c1 := fun b hb => by injection hb with hb; subst hb; rw [← hz]; exact ⟨Cells.new W zs.toList t, h.pre.size⟩
 c3 := fun b hb => ⟨(h.c3 b hb).1.on (bl_one _), (h.c3 b hb).2⟩
 c5 := fun b hb => ⟨(h.c5 b hb).1.on (bl_one _), (h.c5 b hb).2⟩
 n13 := fun a b ha hb => by injection ha with ha; subst ha; have := (h.c3 b hb).1.lt; omega
 n15 := fun a b ha hb => by injection ha with ha; subst ha; have := (h.c5 b hb).1.lt; omega
 n35 := h.n35
theorem Mk.m3 (h : Mk w2 n o1 none o5 W) (zs : Array Value) (hz : zs.toList = arrB n fun _ => false) (t : TypeId) : Mk w2 n o1 (some W.heap.size) o5 (W.alloc (.cells zs t)) where
 pre := h.pre.trans ((bl_one _).mono h.pre.size)
 c1 := fun b hb => ⟨(h.c1 b hb).1.on (bl_one _), (h.c1 b hb).2⟩
 c3 := fun b hb => by injection hb with hb; subst hb; rw [← hz]; exact ⟨Cells.new W zs.toList t, h.pre.size⟩
 c5 := fun b hb => ⟨(h.c5 b hb).1.on (bl_one _), (h.c5 b hb).2⟩
 n13 := fun a b ha hb => by injection hb with hb; subst hb; have := (h.c1 a ha).1.lt; omega
 n15 := h.n15
 n35 := fun a b ha hb => by injection ha with ha; subst ha; have := (h.c5 b hb).1.lt; omega
theorem Mk.m5 (h : Mk w2 n o1 o3 none W) (t : TypeId) : Mk w2 n o1 o3 (some W.heap.size) (W.alloc (.cells #[.slice none 0 0, .slice none 0 0] t)) where
 pre := h.pre.trans ((bl_one _).mono h.pre.size)
 c1 := fun b hb => ⟨(h.c1 b hb).1.on (bl_one _), (h.c1 b hb).2⟩
 c3 := fun b hb => ⟨(h.c3 b hb).1.on (bl_one _), (h.c3 b hb).2⟩
 c5 := fun b hb => by injection hb with hb; subst hb; exact ⟨Cells.new W [.slice none 0 0, .slice none 0 0] t, h.pre.size⟩
 n13 := h.n13
 n15 := fun a b ha hb => by injection hb with hb; subst hb; have := (h.c1 a ha).1.lt; omega
 n35 := fun a b ha hb => by injection hb with hb; subst hb; have := (h.c3 a ha).1.lt; omega
theorem info_ts : (Tryz.prog.info? 32).map (fun i => (i.zero, i.size, i.bytes)) = some (some (.slice none 0 0), 1, 24) := by kernel_rfl
theorem made_of (n : Nat) (hn : n ≤ 1000) : ∃ zc : Array Value, zc.toList = List.replicate n (.slice none 0 0) ∧ ∀ W, (Instr.makeSlice 175 (.int .i64 (n : Int)) (.int .i64 (n : Int))).run Tryz.prog W = .ok (.slice (some ⟨W.heap.size, 0, none⟩) n n) (W.alloc (.cells zc 32)) := by
 obtain ⟨i0, hi, hz0, hz1, hz2⟩ := info_parts info_ts
 refine ⟨madeCells (Value.slice none 0 0).cells (n * i0.size), ?_, fun W => ?_⟩
 ·rw [hz1, Nat.mul_one]
  rw [show (Value.slice none 0 0).cells = #[Value.slice none 0 0] from rfl, toList_madeCells_one]
 ·have := run_make (P := Tryz.prog) W 175 32 i0 _ Tryz.underlying175 hi hz0 .i64 .i64 (n : Int) (n : Int) (by omega) (by omega) (by rw [hz2]; omega) (by omega)
  simpa using this
theorem ofw_start {n : Nat} (h : Cells W ob (List.replicate n (.slice none 0 0))) : OfW W ob n :=
 ⟨_, by simp, h, fun i v hv => by
  rw [List.getElem?_replicate] at hv
  split at hv
  ·injection hv with hv; exact ⟨none, 0, 0, [], hv.symm, by omega, sli_nil _⟩
  ·cases hv⟩
end Go.Proofs.YtobmjnmcjddhcaaGreat
