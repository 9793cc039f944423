import Derived.Test.YtobmjnmcjddhcaaGreatRg41
set_option linter.unusedSimpArgs false
set_option linter.unusedVariables false
namespace Go.Proofs.YtobmjnmcjddhcaaGreat
open Go.RowKit
structure TwR (w4 W : World) (V1 : Value) (n1 : Nat) (l1 : List Value) (V2 : Value) (n2 : Nat) (l2 : List Value) (o : Option Nat) (C : List Value) : Prop where
 pre : Below w4.heap.size w4 W
 o1 : W.ownsRow w4.heap.size 3 1 V1 n1 l1
 o2 : W.ownsRow w4.heap.size 3 1 V2 n2 l2
 d : ∀ j, V1.ownBlock = some j → V2.ownBlock ≠ some j
 bx : ∀ g, o = some g → Cells W g C ∧ w4.heap.size ≤ g ∧ V1.ownBlock ≠ some g ∧ V2.ownBlock ≠ some g
variable {w4 W W' : World} {V1 V2 : Value} {n1 n2 : Nat} {l1 l2 C : List Value} {o : Option Nat}
theorem TwR.swap (h : TwR w4 W V1 n1 l1 V2 n2 l2 o C) : TwR w4 W V2 n2 l2 V1 n1 l1 o C :=
 ⟨h.pre, h.o2, h.o1, fun j e e' => h.d j e' e, fun g e => ⟨(h.bx g e).1, (h.bx g e).2.1, (h.bx g e).2.2.2, (h.bx g e).2.2.1⟩⟩
theorem TwR.start (h : Below w4.heap.size w4 W) : TwR w4 W (.slice none 0 0) 0 [] (.slice none 0 0) 0 [] none C :=
 ⟨h, World.ownsRow_nil _ _ _ _, World.ownsRow_nil _ _ _ _, (fun j e => by simp [Value.ownBlock] at e), (fun g e => by cases e)⟩
theorem TwR.on (h : TwR w4 W V1 n1 l1 V2 n2 l2 o C) (hb : Below W.heap.size W W') : TwR w4 W' V1 n1 l1 V2 n2 l2 o C :=
 ⟨h.pre.trans (hb.mono h.pre.size), own_keep h.o1 hb, own_keep h.o2 hb, h.d, fun g e => ⟨(h.bx g e).1.on hb, (h.bx g e).2⟩⟩
theorem TwR.build (h : TwR w4 W V1 n1 l1 V2 n2 l2 o C) : TwR w4 (W.alloc (.cells #[] 3)) (.slice (some ⟨W.heap.size, 0, none⟩) 0 0) 0 [] V2 n2 l2 o C := by
 have hb := bl_one (w := W) (.cells #[] 3)
 have hk := h.on hb
 refine ⟨hk.pre, (World.ownsRow_lit (base := w4.heap.size) (e := 3) (size := 1) W #[] 0 h.pre.size (by unfold maxLen; omega) rfl), hk.o2, fun j e e' => ?_, fun g e => ⟨(hk.bx g e).1, (hk.bx g e).2.1, ?_, (hk.bx g e).2.2.2⟩⟩
 ·simp [Value.ownBlock] at e
  subst e
  have := (h.o2.lt _ e').2
  omega
 ·simp [Value.ownBlock]
  have := (h.bx g e).1.lt
  omega
theorem TwR.app {v' : Value} {n' : Nat} {l' : List Value} (h : TwR w4 W V1 n1 l1 V2 n2 l2 o C) (hown : W'.ownsRow w4.heap.size 3 1 v' n' l') (hg : W.grownBy W' V1.ownBlock) (hv : v'.ownBlock = V1.ownBlock ∨ v'.ownBlock = some W.heap.size) : TwR w4 W' v' n' l' V2 n2 l2 o C := by
 have hk : Kp (fun k => V1.ownBlock = some k) W W' := (Kp.refl _ _).ofGrown hg fun k e _ => e
 refine ⟨below_own h.pre h.o1 (Nat.le_refl _) hg h.pre.size, hown, hk.own h.o2 (fun k e e' => h.d k e' e), fun j e e' => ?_, fun g e => ⟨(h.bx g e).1.kp hk (h.bx g e).2.2.1, (h.bx g e).2.1, ?_, (h.bx g e).2.2.2⟩⟩
 ·rcases hv with hv | hv
  ·exact h.d j (by rw [← hv]; exact e) e'
  ·rw [hv] at e
   injection e with e
   subst e
   have := (h.o2.lt _ e').2
   omega
 ·rcases hv with hv | hv
  ·rw [hv]; exact (h.bx g e).2.2.1
  ·rw [hv]
   intro e'
   injection e' with e'
   have := (h.bx g e).1.lt
   omega
theorem TwR.box (h : TwR w4 W V1 n1 l1 V2 n2 l2 none C) (C' : List Value) (t : TypeId) : TwR w4 (W.alloc (.cells C'.toArray t)) V1 n1 l1 V2 n2 l2 (some W.heap.size) C' := by
 have hk := h.on (bl_one (w := W) (.cells C'.toArray t))
 refine ⟨hk.pre, hk.o1, hk.o2, hk.d, fun g e => ?_⟩
 injection e with e
 subst e
 exact ⟨Cells.new W C' t, h.pre.size, (fun e => by have := (h.o1.lt _ e).2; omega), fun e => by have := (h.o2.lt _ e).2; omega⟩
theorem TwR.put {g : Nat} (h : TwR w4 W V1 n1 l1 V2 n2 l2 (some g) C) (q : Nat) (hq : q < C.length) (v : Value) : TwR w4 (W.setCell ⟨g, q, none⟩ v) V1 n1 l1 V2 n2 l2 (some g) (C.set q v) := by
 obtain ⟨h1, h2, h3, h4⟩ := h.bx g rfl
 have hk : Kp (fun k => k = g) W (W.setCell ⟨g, q, none⟩ v) := (Kp.refl (fun k => k = g) W).setCell (p := ⟨g, q, none⟩) (fun _ => rfl) _
 refine ⟨h.pre.setCell (p := ⟨g, q, none⟩) h2 v, hk.own h.o1 (fun k e e' => by subst e'; exact h3 e), hk.own h.o2 (fun k e e' => by subst e'; exact h4 e), h.d, fun g' e => ?_⟩
 injection e with e
 subst e
 exact ⟨h1.put q hq v, h2, h3, h4⟩
theorem TwR.buildx (h : Hid (TwR w4 W V1 n1 l1 V2 n2 l2 o C)) : ∃ W' g, W.alloc (.cells #[] 3) = W' ∧ W.heap.size = g ∧ Hid (TwR w4 W' (.slice (some ⟨g, 0, none⟩) 0 0) 0 [] V2 n2 l2 o C) := ⟨_, _, rfl, rfl, Hd h.out.build⟩
theorem TwR.buildy (h : Hid (TwR w4 W V1 n1 l1 V2 n2 l2 o C)) : ∃ W' g, W.alloc (.cells #[] 3) = W' ∧ W.heap.size = g ∧ Hid (TwR w4 W' V1 n1 l1 (.slice (some ⟨g, 0, none⟩) 0 0) 0 [] o C) := ⟨_, _, rfl, rfl, Hd h.out.swap.build.swap⟩
theorem TwR.boxx (h : Hid (TwR w4 W V1 n1 l1 V2 n2 l2 none C)) : ∃ W' g, W.alloc (.cells #[.slice none 0 0, .slice none 0 0] 66) = W' ∧ W.heap.size = g ∧ Hid (TwR w4 W' V1 n1 l1 V2 n2 l2 (some g) [.slice none 0 0, .slice none 0 0]) := ⟨_, _, rfl, rfl, Hd (h.out.box [.slice none 0 0, .slice none 0 0] _)⟩
theorem tw_val {base n : Nat} {v : Value} {l : List Value} (h : W.ownsRow base 3 1 v n l) : ∃ A c, v = .slice A n c := by
 obtain ⟨A, c, e, _⟩ := own_form h
 exact ⟨A, c, e⟩
theorem tw_sli {base n c : Nat} {A : Option Addr} {xs : List Int} (h : W.ownsRow base 3 1 (.slice A n c) n (xs.map (Value.int .i64))) (hn : n ≤ 100000) : SlI W W.heap.size A n c xs := by
 obtain ⟨A', c', e, h1⟩ := SlR.of_own (bytes := 8) h (by unfold reachBytes; omega)
 simp only [Value.slice.injEq, true_and] at e
 obtain ⟨rfl, rfl⟩ := e
 exact h1
theorem one_map (xs : List Int) : ∀ u ∈ xs.map (Value.int .i64), u.oneCell' = true := by
 intro u hu
 obtain ⟨x, _, rfl⟩ := List.mem_map.1 hu
 rfl
theorem TwR.stepx {ops : Array Oper} {oo : Oper} {a : Act} {K : Act → World → Prop} {Q : Exit → Act → World → Prop} {E : Prop} {g : Nat} (hgd : oo.guard = none) (s x : Operand) (ho : oo.op = .call { callee := .builtin .append, args := #[s, x], argTypes := #[34, 34] }) (H : Hid (TwR w4 W (.slice (some ⟨g, 0, none⟩) 0 0) 0 [] V2 n2 l2 o C))
  (hs : a.eval s = .slice (some ⟨g, 0, none⟩) 0 0) {A : Option Addr} {m : Nat} (c : Nat) {xs : List Int} (hx : a.eval x = .slice A m c) (hr : SrcCells W A m 1 (xs.map (Value.int .i64))) (hm : m ≤ 1000)
  (h : ∀ B d W', Hid (TwR w4 W' (.slice B m d) m (xs.map (Value.int .i64)) V2 n2 l2 o C) → K (a.put oo.dst (.slice B m d)) W') : if Region.wanted oo (yielded ops a.tmps) = true then Oper.wp Tryz.prog oo a W K Q else E := by
 obtain ⟨i0, hi, hz0, hz1, hz2⟩ := info_parts info_intZ
 refine step_append_src _ hgd s x 34 ho w4.heap.size 3 i0 (.int .i64 0) 1 8 Tryz.underlying34 hi hz0 hz1 hz2 rfl (by decide) (.slice (some ⟨g, 0, none⟩) 0 0) 0 [] hs H.out.o1 A m c _ hx hr (one_map _) (by unfold maxLen; omega) (by omega) H.out.pre.size ?_
 intro v' W' hown hgr hat
 rw [Nat.zero_add, List.nil_append] at hown
 obtain ⟨B, d, rfl⟩ := tw_val hown
 exact h B d W' (Hd (H.out.app hown hgr hat))
theorem TwR.stepy {ops : Array Oper} {oo : Oper} {a : Act} {K : Act → World → Prop} {Q : Exit → Act → World → Prop} {E : Prop} {g : Nat} (hgd : oo.guard = none) (s x : Operand) (ho : oo.op = .call { callee := .builtin .append, args := #[s, x], argTypes := #[34, 34] }) (H : Hid (TwR w4 W V1 n1 l1 (.slice (some ⟨g, 0, none⟩) 0 0) 0 [] o C))
  (hs : a.eval s = .slice (some ⟨g, 0, none⟩) 0 0) {A : Option Addr} {m : Nat} (c : Nat) {xs : List Int} (hx : a.eval x = .slice A m c) (hr : SrcCells W A m 1 (xs.map (Value.int .i64))) (hm : m ≤ 1000)
  (h : ∀ B d W', Hid (TwR w4 W' V1 n1 l1 (.slice B m d) m (xs.map (Value.int .i64)) o C) → K (a.put oo.dst (.slice B m d)) W') : if Region.wanted oo (yielded ops a.tmps) = true then Oper.wp Tryz.prog oo a W K Q else E :=
 TwR.stepx hgd s x ho (Hd H.out.swap) hs c hx hr hm fun B d W' k => h B d W' (Hd k.out.swap)
theorem src_map {B : Nat} {A : Option Addr} {n c : Nat} {xs : List Int} (h : SlI W B A n c xs) : SrcCells W A n 1 (xs.map (Value.int .i64)) := by
 have := SlR.src (f := fun x => [Value.int .i64 x]) (fun _ => rfl) h
 rwa [← List.map_eq_flatMap] at this
end Go.Proofs.YtobmjnmcjddhcaaGreat
