/-
  Tables of sets: what stands while the document takes a table.
-/
import Derived.Test.YtiblcodlaeijfaaMs8
import Derived.Test.YtiblcodlaeijfaaMt8
namespace Go.Proofs.Ytiblcodlaeijfaa
open Go.RowKit
set_option linter.unusedSimpArgs false
set_option linter.unusedVariables false
/-- A block's first cells. -/
structure Cells (W : World) (b : Nat) (cs : List Value) : Prop where
  at_ : ∀ q v, cs[q]? = some v → W.cell? ⟨b, q, none⟩ = some v
  fz : ∀ q, q < cs.length → W.frozen? ⟨b, q, none⟩ = false
  lt : b < W.heap.size
theorem Cells.kp {S : Nat → Prop} {W W' : World} {b : Nat} {cs : List Value} (h : Cells W b cs) (hk : Kp S W W') (hS : ¬ S b) : Cells W' b cs :=
  ⟨fun q v hq => hk.cellv (h.at_ q v hq) hS, fun q hq => (hk.frozen (p := ⟨b, q, none⟩) h.lt hS).trans (h.fz q hq), by have := hk.size; have := h.lt; omega⟩
theorem Cells.put {W : World} {b : Nat} {cs : List Value} (h : Cells W b cs) (q : Nat) (hq : q < cs.length) (v : Value) : Cells (W.setCell ⟨b, q, none⟩ v) b (cs.set q v) := by
  refine ⟨fun p u hp => ?_, fun p hp => (World.frozen?_setCell _ _ _ _).trans (h.fz p (by simpa using hp)), by simpa [World.setCell] using h.lt⟩
  by_cases e : p = q
  · subst e
    rw [List.getElem?_set_self hq] at hp
    injection hp with hp
    subst hp
    exact World.cell?_setCell_same' _ _ _ (by rw [h.at_ p cs[p] (List.getElem?_eq_getElem hq)]; rfl)
  · rw [List.getElem?_set_ne (fun h => e h.symm)] at hp
    rw [World.cell?_setCell_other _ _ _ _ (by simp; try omega)]
    exact h.at_ p u hp
theorem Cells.new (W : World) (cs : List Value) (t : TypeId) : Cells (W.alloc (.cells cs.toArray t)) W.heap.size cs :=
  ⟨fun q v hq => (new_cells (w := W) (cs := cs.toArray) (t := t) (Below.refl _ _) q v ((List.getElem?_toArray).trans hq)).1, fun q hq => (new_cells (w := W) (cs := cs.toArray) (t := t) (Below.refl _ _) q cs[q] ((List.getElem?_toArray).trans (List.getElem?_eq_getElem hq))).2, by simp⟩
theorem kp_set (W : World) (b q : Nat) (v : Value) : Kp (fun j => j = b) W (W.setCell ⟨b, q, none⟩ v) := Kp.setCell (S := fun j => j = b) (Kp.refl _ W) (p := ⟨b, q, none⟩) (fun _ => rfl) _
/-- The document's cursor as cells. -/
structure CurP where
  A : Option Addr
  n : Nat
  c : Nat
  e : Nat
  l : List Nat
abbrev curL (p : CurP) : List Value := [.slice p.A p.n p.c, .int .i64 (p.e : Int)]
def zP : CurP := ⟨none, 0, 0, 0, []⟩
structure DocW (w : World) (B : Nat) (p : CurP) (A : Option Addr) (k c : Nat) (xs : List W4) (W : World) : Prop where
  len : xs.length = k
  own : W.ownsRow (w.heap.size + 2) 41 4 (.slice A k c) k (xs.flatMap cellsW)
  pc : Cells W w.heap.size (curL p)
  zc : Cells W (w.heap.size + 1) (curL zP)
  ps : SlB W B p.A p.n p.c p.l
  bw : Below w.heap.size w W
  hB : B ≤ w.heap.size
theorem DocW.lt {w : World} {B : Nat} {p : CurP} {A : Option Addr} {k c : Nat} {xs : List W4} {W : World} (h : DocW w B p A k c xs W) {j : Nat} (hj : (Value.slice A k c).ownBlock = some j) : w.heap.size + 2 ≤ j ∧ j < W.heap.size := h.own.lt _ hj
theorem DocW.kp {S : Nat → Prop} {w : World} {B : Nat} {p : CurP} {A : Option Addr} {k c : Nat} {xs : List W4} {W W' : World} (h : DocW w B p A k c xs W) (hk : Kp S W W') (hS : ∀ j, S j → w.heap.size + 2 ≤ j) (hr : ∀ j, (Value.slice A k c).ownBlock = some j → ¬ S j) : DocW w B p A k c xs W' := by
  have hB := h.hB
  refine ⟨h.len, hk.own h.own hr, h.pc.kp hk (fun hs => by have := hS _ hs; omega), h.zc.kp hk (fun hs => by have := hS _ hs; omega), slb_keep h.ps (fun j hj => by have := hS j hj; omega) hk, h.bw.trans (hk.below h.bw.size fun j hj => by have := hS j hj; omega), hB⟩
theorem DocW.on {w : World} {B : Nat} {p : CurP} {A : Option Addr} {k c : Nat} {xs : List W4} {W W' : World} (h : DocW w B p A k c xs W) (hb : Below W.heap.size W W') : DocW w B p A k c xs W' :=
  h.kp ((Kp.refl (fun _ => False) W).ofBelow hb) (fun _ h => h.elim) fun _ _ h => h.elim
/-- And the cursor of a round. -/
structure DocJ (w : World) (B : Nat) (p : CurP) (A : Option Addr) (k c : Nat) (xs : List W4) (b : Nat) (q : CurP) (W : World) : Prop where
  d : DocW w B p A k c xs W
  qc : Cells W b (curL q)
  qs : SlB W B q.A q.n q.c q.l
  hb : w.heap.size + 2 ≤ b
  nr : ∀ j, (Value.slice A k c).ownBlock = some j → j ≠ b ∧ j ≠ b + 1
theorem DocJ.on {w : World} {B : Nat} {p : CurP} {A : Option Addr} {k c : Nat} {xs : List W4} {b : Nat} {q : CurP} {W W' : World} (h : DocJ w B p A k c xs b q W) (hb : Below W.heap.size W W') : DocJ w B p A k c xs b q W' :=
  ⟨h.d.on hb, h.qc.kp ((Kp.refl (fun _ => False) W).ofBelow hb) id, slb_keep h.qs (fun _ h => h.elim) ((Kp.refl (fun _ => False) W).ofBelow hb), h.hb, h.nr⟩
theorem DocW.toJ {w : World} {B : Nat} {p : CurP} {A : Option Addr} {k c : Nat} {xs : List W4} {W : World} (h : DocW w B p A k c xs W) (q : CurP) (hq : SlB W B q.A q.n q.c q.l) :
    DocJ w B p A k c xs W.heap.size q (((W.alloc (.cells #[.slice none 0 0, .int .i64 0] 29)).setCell ⟨W.heap.size, 0, none⟩ (.slice q.A q.n q.c)).setCell ⟨W.heap.size, 1, none⟩ (.int .i64 (q.e : Int))) := by
  have hl : w.heap.size + 2 ≤ W.heap.size := by have := h.zc.lt; omega
  have hB := h.hB
  have k0 : Kp (fun _ => False) W (W.alloc (.cells #[.slice none 0 0, .int .i64 0] 29)) := (Kp.refl _ _).alloc _
  have k2 : Kp (fun j => j = W.heap.size) (W.alloc (.cells #[.slice none 0 0, .int .i64 0] 29)) (((W.alloc (.cells #[.slice none 0 0, .int .i64 0] 29)).setCell ⟨W.heap.size, 0, none⟩ (.slice q.A q.n q.c)).setCell ⟨W.heap.size, 1, none⟩ (.int .i64 (q.e : Int))) := (kp_set _ _ _ _).trans (kp_set _ _ _ _)
  have hd : DocW w B p A k c xs (W.alloc (.cells #[.slice none 0 0, .int .i64 0] 29)) := h.kp k0 (fun _ h => h.elim) fun _ _ h => h.elim
  have hn : Cells (W.alloc (.cells #[.slice none 0 0, .int .i64 0] 29)) W.heap.size [.slice none 0 0, .int .i64 0] := Cells.new W [.slice none 0 0, .int .i64 0] _
  exact ⟨hd.kp k2 (fun j hj => by omega) (fun j hj hs => by have := (h.lt hj).2; omega), (hn.put 0 (by simp) _).put 1 (by simp) _, slb_keep (slb_keep hq (fun _ h => h.elim) k0) (fun j hj => by omega) k2, hl, fun j hj => by have := (h.lt hj).2; omega⟩
theorem DocW.toJ' {w : World} {B : Nat} {p : CurP} {A : Option Addr} {k c : Nat} {xs : List W4} {W : World} (h : DocW w B p A k c xs W) (q : CurP) (hq : SlB W B q.A q.n q.c q.l) :
    DocJ w B p A k c xs W.heap.size q (W.alloc (.cells #[.slice q.A q.n q.c, .int .i64 (q.e : Int)] 29)) := by
  have hl : w.heap.size + 2 ≤ W.heap.size := by have := h.zc.lt; omega
  have k0 : Kp (fun _ => False) W (W.alloc (.cells #[.slice q.A q.n q.c, .int .i64 (q.e : Int)] 29)) := (Kp.refl _ _).alloc _
  exact ⟨h.kp k0 (fun _ h => h.elim) fun _ _ h => h.elim, Cells.new W (curL q) _, slb_keep hq (fun _ h => h.elim) k0, hl, fun j hj => by have := (h.lt hj).2; omega⟩
theorem DocJ.cur {w : World} {B : Nat} {p : CurP} {A : Option Addr} {k c : Nat} {xs : List W4} {b : Nat} {q : CurP} {W : World} (h : DocJ w B p A k c xs b q W) (q' : CurP) (hq : SlB W B q'.A q'.n q'.c q'.l) :
    DocJ w B p A k c xs b q' ((W.setCell ⟨b, 0, none⟩ (.slice q'.A q'.n q'.c)).setCell ⟨b, 1, none⟩ (.int .i64 (q'.e : Int))) := by
  have k2 : Kp (fun j => j = b) W ((W.setCell ⟨b, 0, none⟩ (.slice q'.A q'.n q'.c)).setCell ⟨b, 1, none⟩ (.int .i64 (q'.e : Int))) := (kp_set _ _ _ _).trans (kp_set _ _ _ _)
  have hb := h.hb
  have hB := h.d.hB
  exact ⟨h.d.kp k2 (fun j hj => by omega) (fun j hj hs => (h.nr j hj).1 hs), (h.qc.put 0 (by simp) _).put 1 (by simp) _, slb_keep hq (fun j hj => by omega) k2, hb, h.nr⟩
/-- And the set of a round. -/
structure DocI (w : World) (B : Nat) (p : CurP) (A : Option Addr) (k c : Nat) (xs : List W4) (b : Nat) (q : CurP) (s : W4) (W : World) : Prop where
  j : DocJ w B p A k c xs b q W
  sc : Cells W (b + 1) (cellsW s)
theorem DocI.on {w : World} {B : Nat} {p : CurP} {A : Option Addr} {k c : Nat} {xs : List W4} {b : Nat} {q : CurP} {s : W4} {W W' : World} (h : DocI w B p A k c xs b q s W) (hb : Below W.heap.size W W') : DocI w B p A k c xs b q s W' :=
  ⟨h.j.on hb, h.sc.kp ((Kp.refl (fun _ => False) W).ofBelow hb) id⟩
theorem DocJ.toI {w : World} {B : Nat} {p : CurP} {A : Option Addr} {k c : Nat} {xs : List W4} {b : Nat} {q : CurP} {W : World} (h : DocJ w B p A k c xs b q W) (hb : W.heap.size = b + 1) :
    DocI w B p A k c xs b q zW (W.alloc (.cells #[.int .u64 0, .int .u64 0, .int .u64 0, .int .u64 0] 41)) :=
  ⟨h.on (bl_one _), by rw [← hb]; exact Cells.new W (cellsW zW) _⟩
theorem cellsW_put (s : W4) (k v : Nat) (hk : k < 4) : (cellsW s).set k (.int .u64 (v : Int)) = cellsW (s.put k v) := by
  match k, hk with
  | 0, _ => rfl
  | 1, _ => rfl
  | 2, _ => rfl
  | 3, _ => rfl
theorem DocI.put {w : World} {B : Nat} {p : CurP} {A : Option Addr} {k c : Nat} {xs : List W4} {b : Nat} {q : CurP} {s : W4} {W : World} (h : DocI w B p A k c xs b q s W) (i v : Nat) (hi : i < 4) : DocI w B p A k c xs b q (s.put i v) (W.setCell ⟨b + 1, i, none⟩ (.int .u64 (v : Int))) := by
  have k2 := kp_set W (b + 1) i (.int .u64 (v : Int))
  have hb := h.j.hb
  have hB := h.j.d.hB
  refine ⟨⟨h.j.d.kp k2 (fun j hj => by omega) (fun j hj hs => (h.j.nr j hj).2 hs), h.j.qc.kp k2 (fun hs => by omega), slb_keep h.j.qs (fun j hj => by omega) k2, hb, h.j.nr⟩, ?_⟩
  rw [← cellsW_put s i v hi]
  exact h.sc.put i hi _
theorem DocI.cur {w : World} {B : Nat} {p : CurP} {A : Option Addr} {k c : Nat} {xs : List W4} {b : Nat} {q : CurP} {s : W4} {W : World} (h : DocI w B p A k c xs b q s W) (q' : CurP) (hq : SlB W B q'.A q'.n q'.c q'.l) :
    DocI w B p A k c xs b q' s ((W.setCell ⟨b, 0, none⟩ (.slice q'.A q'.n q'.c)).setCell ⟨b, 1, none⟩ (.int .i64 (q'.e : Int))) :=
  ⟨h.j.cur q' hq, h.sc.kp ((kp_set _ _ _ _).trans (kp_set _ _ _ _)) (fun hs => by omega)⟩
theorem DocI.round {w : World} {B : Nat} {p : CurP} {A : Option Addr} {k c : Nat} {xs : List W4} {b : Nat} {q : CurP} {s : W4} {W : World} (h : DocI w B p A k c xs b q s W) (i v : Nat) (hi : i < 4) (q' : CurP) (hq : SlB W B q'.A q'.n q'.c q'.l) :
    DocI w B p A k c xs b q' (s.put i v) (((W.setCell ⟨b + 1, i, none⟩ (.int .u64 (v : Int))).setCell ⟨b, 0, none⟩ (.slice q'.A q'.n q'.c)).setCell ⟨b, 1, none⟩ (.int .i64 (q'.e : Int))) := by
  have hb := h.j.hb
  have hB := h.j.d.hB
  exact (h.put i v hi).cur q' (slb_keep hq (fun j (hj : j = b + 1) => by omega) (kp_set W (b + 1) i (.int .u64 (v : Int))))
/-- The cursor of the round is the cursor. -/
theorem DocI.back {w : World} {B : Nat} {p : CurP} {A : Option Addr} {k c : Nat} {xs : List W4} {b : Nat} {q : CurP} {s : W4} {W : World} (h : DocI w B p A k c xs b q s W) :
    DocI w B q A k c xs b q s ((W.setCell ⟨w.heap.size, 0, none⟩ (.slice q.A q.n q.c)).setCell ⟨w.heap.size, 1, none⟩ (.int .i64 (q.e : Int))) := by
  have k2 : Kp (fun j => j = w.heap.size) W ((W.setCell ⟨w.heap.size, 0, none⟩ (.slice q.A q.n q.c)).setCell ⟨w.heap.size, 1, none⟩ (.int .i64 (q.e : Int))) := (kp_set _ _ _ _).trans (kp_set _ _ _ _)
  have hb := h.j.hb
  have hB := h.j.d.hB
  have hd := h.j.d
  have qs := slb_keep h.j.qs (fun j (hj : j = w.heap.size) => by omega) k2
  exact ⟨⟨⟨hd.len, k2.own hd.own (fun j hj hs => by have := (hd.lt hj).1; have hs' : j = w.heap.size := hs; omega), (hd.pc.put 0 (by simp) _).put 1 (by simp) _, hd.zc.kp k2 (fun hs => by omega), qs, hd.bw.trans (k2.below hd.bw.size fun j hj => by omega), hB⟩, h.j.qc.kp k2 (fun hs => by omega), qs, hb, h.j.nr⟩, h.sc.kp k2 (fun hs => by omega)⟩
theorem DocI.snoc {w : World} {B : Nat} {p : CurP} {A : Option Addr} {k c : Nat} {xs : List W4} {b : Nat} {q : CurP} {s : W4} {W w3 : World} {v' : Value} (h : DocI w B p A k c xs b q s W)
    (hown' : w3.ownsRow (w.heap.size + 2) 41 4 v' (k + 1) (xs.flatMap cellsW ++ cellsW s)) (hgrow : (W.alloc (.cells #[.int .u64 (s.a0 : Int), .int .u64 (s.a1 : Int), .int .u64 (s.a2 : Int), .int .u64 (s.a3 : Int)] 41)).grownBy w3 (Value.slice A k c).ownBlock)
    (hat : v'.ownBlock = (Value.slice A k c).ownBlock ∨ v'.ownBlock = some (W.alloc (.cells #[.int .u64 (s.a0 : Int), .int .u64 (s.a1 : Int), .int .u64 (s.a2 : Int), .int .u64 (s.a3 : Int)] 41)).heap.size) :
    ∃ A' c', v' = .slice A' (k + 1) c' ∧ DocI w B p A' (k + 1) c' (xs ++ [s]) b q s w3 := by
  have hd := h.j.d
  have hb := h.j.hb
  have hlt : ∀ j, (Value.slice A k c).ownBlock = some j → w.heap.size + 2 ≤ j := fun j hj => (hd.lt hj).1
  have hk : Kp (fun j => (Value.slice A k c).ownBlock = some j) W w3 := ((Kp.refl _ W).alloc _).ofGrown hgrow fun j hj _ => hj
  have hB := hd.hB
  have hbs := h.sc.lt
  obtain ⟨A', c', rfl, _⟩ := own_form hown'
  refine ⟨A', c', rfl, ⟨⟨by rw [List.length_append, hd.len]; rfl, by rw [List.flatMap_append]; simpa using hown', hd.pc.kp hk (fun hs => by have := hlt _ hs; omega), hd.zc.kp hk (fun hs => by have := hlt _ hs; omega), slb_keep hd.ps (fun j hj => by have := hlt j hj; omega) hk, hd.bw.trans (hk.below hd.bw.size fun j hj => by have := hlt j hj; omega), hB⟩, h.j.qc.kp hk (fun hs => (h.j.nr _ hs).1 rfl), slb_keep h.j.qs (fun j hj => by have := hlt j hj; omega) hk, hb, fun j hj => ?_⟩, h.sc.kp hk (fun hs => (h.j.nr _ hs).2 rfl)⟩
  rcases hat with h9 | h9
  · exact h.j.nr j (h9.symm.trans hj)
  · rw [h9] at hj
    injection hj with hj
    simp at hj
    omega
end Go.Proofs.Ytiblcodlaeijfaa
