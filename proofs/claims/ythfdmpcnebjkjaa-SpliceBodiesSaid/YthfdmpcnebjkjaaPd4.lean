/-
  Pieces of bodies: the walk of SpliceBodies.
-/
import Derived.Test.YthfdmpcnebjkjaaPd3
import Derived.Test.YthfdmpcnebjkjaaPc9
namespace Go.Proofs.Ythfdmpcnebjkjaa
open Go.RowKit
set_option linter.unusedSimpArgs false
set_option linter.unusedVariables false
theorem wpAnyH_three {P : Program} {ops : Array Oper} {Q : Exit → Act → World → Prop} {md : Region.Mode} {S : World → Prop} {i j l fuel : Nat} {oi oj ol : Oper} {listed : Array Bool} {a : Act} {w : World}
    (hr : Region.ready md ops listed = [i, j, l]) (hi : ops[i]? = some oi) (hj : ops[j]? = some oj) (hl : ops[l]? = some ol)
    (h : ∀ K' : Act → World → Prop, (∀ a w, S w ∧ wpAnyH P md ops Q S fuel (listed.setIfInBounds i true) a w → K' a w) → if Region.wanted oi (yielded ops a.tmps) = true then Oper.wp P oi a w K' Q else K' (a.put oi.dst undef) w)
    (k : ∀ K' : Act → World → Prop, (∀ a w, S w ∧ wpAnyH P md ops Q S fuel (listed.setIfInBounds j true) a w → K' a w) → if Region.wanted oj (yielded ops a.tmps) = true then Oper.wp P oj a w K' Q else K' (a.put oj.dst undef) w)
    (m : ∀ K' : Act → World → Prop, (∀ a w, S w ∧ wpAnyH P md ops Q S fuel (listed.setIfInBounds l true) a w → K' a w) → if Region.wanted ol (yielded ops a.tmps) = true then Oper.wp P ol a w K' Q else K' (a.put ol.dst undef) w) :
    wpAnyH P md ops Q S (fuel + 1) listed a w :=
  wpAnyH_all hr (by simp) (fun x hx => by
    simp only [List.mem_cons, List.not_mem_nil, or_false] at hx
    rcases hx with rfl | rfl | rfl
    · exact wpOp_step hi h
    · exact wpOp_step hj k
    · exact wpOp_step hl m)
theorem sli_types {w : World} {base : Nat} {A : Option Addr} {n c : Nat} {x : DFunc} (h : w.ownsRow base 56 1 (.slice A n c) n (slotsM x)) (hb : n ≤ 100000) : SlI w w.heap.size A n c (x.params ++ x.results ++ x.locals) := by
  have e : slotsM x = (x.params ++ x.results ++ x.locals).flatMap fun x => [Value.int .i64 x] := by
    unfold slotsM
    rw [List.flatMap_append, List.flatMap_append]
    rfl
  rw [e] at h
  exact SlR.of_ownN (sz := 1) (bytes := 8) (f := fun x => [Value.int .i64 x]) (fun _ => rfl) (by omega) h (by unfold reachBytes; omega)
/-- The five rows of a piece, in blocks of a range. -/
structure BdR (x : DFunc) (gi sa sn ss sp sl : Int) (n1 n2 n3 n4 n6 : Nat) (lo hi : Nat) (A0 : Option Addr) (c0 : Nat) (A1 : Option Addr) (c1 : Nat) (A2 : Option Addr) (c2 : Nat) (A3 : Option Addr) (c3 : Nat) (A4 : Option Addr) (c4 : Nat) (W : World) : Prop where
  o0 : W.ownsRow lo 49 2 (.slice A0 (n1 + 1 + n4 + n2) c0) (n1 + 1 + n4 + n2) ((codeL x sa sn ss n1 n2).flatMap cellsI)
  o1 : W.ownsRow lo 3 1 (.slice A1 (n1 + 1 + n4 + n2) c1) (n1 + 1 + n4 + n2) (rowI (lineL x sl n1 n2 n4))
  o2 : W.ownsRow lo 3 1 (.slice A2 (n1 + 1 + n4 + n2) c2) (n1 + 1 + n4 + n2) (rowI (atL x sn sp n1 n2 n4))
  o3 : W.ownsRow lo 58 7 (.slice A3 (1 + (n6 - 1)) c3) (1 + (n6 - 1)) ((nodeL x gi sa sn ss sp sl n1 n2 n3 n4).flatMap cellsN)
  o4 : W.ownsRow lo 56 1 (.slice A4 (n1 + n2 + n3) c4) (n1 + n2 + n3) (slotsM x)
  l0 : ∀ j, (Value.slice A0 (n1 + 1 + n4 + n2) c0).ownBlock = some j → j < hi
  l1 : ∀ j, (Value.slice A1 (n1 + 1 + n4 + n2) c1).ownBlock = some j → j < hi
  l2 : ∀ j, (Value.slice A2 (n1 + 1 + n4 + n2) c2).ownBlock = some j → j < hi
  l3 : ∀ j, (Value.slice A3 (1 + (n6 - 1)) c3).ownBlock = some j → j < hi
  l4 : ∀ j, (Value.slice A4 (n1 + n2 + n3) c4).ownBlock = some j → j < hi
  hs : hi ≤ W.heap.size
theorem BdR.kp {x : DFunc} {gi sa sn ss sp sl : Int} {n1 n2 n3 n4 n6 : Nat} {lo hi : Nat} {A0 : Option Addr} {c0 : Nat} {A1 : Option Addr} {c1 : Nat} {A2 : Option Addr} {c2 : Nat} {A3 : Option Addr} {c3 : Nat} {A4 : Option Addr} {c4 : Nat} {W W' : World} (h : BdR x gi sa sn ss sp sl n1 n2 n3 n4 n6 lo hi A0 c0 A1 c1 A2 c2 A3 c3 A4 c4 W) {S : Nat → Prop} (hk : Kp S W W') (hS : ∀ j, lo ≤ j → j < hi → ¬ S j) : BdR x gi sa sn ss sp sl n1 n2 n3 n4 n6 lo hi A0 c0 A1 c1 A2 c2 A3 c3 A4 c4 W' :=
  ⟨hk.own h.o0 fun j hj => hS j (h.o0.lt j hj).1 (h.l0 j hj), hk.own h.o1 fun j hj => hS j (h.o1.lt j hj).1 (h.l1 j hj), hk.own h.o2 fun j hj => hS j (h.o2.lt j hj).1 (h.l2 j hj), hk.own h.o3 fun j hj => hS j (h.o3.lt j hj).1 (h.l3 j hj), hk.own h.o4 fun j hj => hS j (h.o4.lt j hj).1 (h.l4 j hj), h.l0, h.l1, h.l2, h.l3, h.l4, Nat.le_trans h.hs hk.size⟩
theorem BdR.on {x : DFunc} {gi sa sn ss sp sl : Int} {n1 n2 n3 n4 n6 : Nat} {lo hi : Nat} {A0 : Option Addr} {c0 : Nat} {A1 : Option Addr} {c1 : Nat} {A2 : Option Addr} {c2 : Nat} {A3 : Option Addr} {c3 : Nat} {A4 : Option Addr} {c4 : Nat} {W W' : World} (h : BdR x gi sa sn ss sp sl n1 n2 n3 n4 n6 lo hi A0 c0 A1 c1 A2 c2 A3 c3 A4 c4 W) (hb : Below W.heap.size W W') : BdR x gi sa sn ss sp sl n1 n2 n3 n4 n6 lo hi A0 c0 A1 c1 A2 c2 A3 c3 A4 c4 W' :=
  h.kp ((Kp.refl (fun _ => False) W).ofBelow hb) fun _ _ _ h => h
theorem IsBd.get {x : DFunc} {gi sa sn ss sp sl : Int} {n1 n2 n3 n4 n6 : Nat} {w w' : World} {e : Ending} (h : IsBd x gi sa sn ss sp sl n1 n2 n3 n4 n6 w e w') : ∃ A0 c0 A1 c1 A2 c2 A3 c3 A4 c4, e = .returned (.agg #[.slice A0 (n1 + 1 + n4 + n2) c0, .slice A1 (n1 + 1 + n4 + n2) c1, .slice A2 (n1 + 1 + n4 + n2) c2, .slice A3 (1 + (n6 - 1)) c3, .slice A4 (n1 + n2 + n3) c4]) ∧
    BdR x gi sa sn ss sp sl n1 n2 n3 n4 n6 w.heap.size w'.heap.size A0 c0 A1 c1 A2 c2 A3 c3 A4 c4 w' ∧ Below w.heap.size w w' := by
  obtain ⟨A0, c0, A1, c1, A2, c2, A3, c3, A4, c4, he, o0, o1, o2, o3, o4, hb⟩ := h
  exact ⟨A0, c0, A1, c1, A2, c2, A3, c3, A4, c4, he, ⟨o0, o1, o2, o3, o4, fun j hj => (o0.lt j hj).2, fun j hj => (o1.lt j hj).2, fun j hj => (o2.lt j hj).2, fun j hj => (o3.lt j hj).2, fun j hj => (o4.lt j hj).2, Nat.le_refl _⟩, hb⟩
theorem BdR.read {x : DFunc} {gi sa sn ss sp sl : Int} {n1 n2 n3 n4 n6 : Nat} {lo hi : Nat} {A0 : Option Addr} {c0 : Nat} {A1 : Option Addr} {c1 : Nat} {A2 : Option Addr} {c2 : Nat} {A3 : Option Addr} {c3 : Nat} {A4 : Option Addr} {c4 : Nat} {W : World} (h : BdR x gi sa sn ss sp sl n1 n2 n3 n4 n6 lo hi A0 c0 A1 c1 A2 c2 A3 c3 A4 c4 W) (hk : n1 + n2 + n3 ≤ 300 ∧ n4 ≤ 150 ∧ n6 ≤ 20) :
    SlC W W.heap.size A0 (n1 + 1 + n4 + n2) c0 (codeL x sa sn ss n1 n2) ∧ SlI W W.heap.size A1 (n1 + 1 + n4 + n2) c1 (lineL x sl n1 n2 n4) ∧ SlI W W.heap.size A2 (n1 + 1 + n4 + n2) c2 (atL x sn sp n1 n2 n4) ∧ SlN W W.heap.size A3 (1 + (n6 - 1)) c3 (nodeL x gi sa sn ss sp sl n1 n2 n3 n4) ∧ SlI W W.heap.size A4 (n1 + n2 + n3) c4 (x.params ++ x.results ++ x.locals) :=
  ⟨SlR.of_ownN (sz := 2) (bytes := 16) (f := cellsI) (fun _ => rfl) (by omega) h.o0 (by unfold reachBytes; omega), SlI.own h.o1 (by omega), SlI.own h.o2 (by omega), SlR.of_ownN (sz := 7) (bytes := 56) (f := cellsN) (fun _ => rfl) (by omega) h.o3 (by unfold reachBytes; omega), sli_types h.o4 (by omega)⟩
/-- What has been done of: two pieces, two boxes. -/
structure Pr (w4 : World) (UA UB : Option (Nat × Nat) → World → Prop) (o8 o9 : Option Nat) (rA rB : Option (Nat × Nat)) (W : World) : Prop where
  pre : Below w4.heap.size w4 W
  c8 : ∀ b, o8 = some b → Cells W b #[.slice none 0 0, .slice none 0 0, .slice none 0 0, .slice none 0 0, .slice none 0 0].toList ∧ w4.heap.size ≤ b
  c9 : ∀ b, o9 = some b → Cells W b #[.slice none 0 0, .slice none 0 0, .slice none 0 0, .slice none 0 0, .slice none 0 0].toList ∧ w4.heap.size ≤ b
  ne : ∀ b b', o8 = some b → o9 = some b' → b ≠ b'
  a : UA rA W
  b : UB rB W
  la : ∀ l, rA = some l → l.2 ≤ W.heap.size
  lb : ∀ l, rB = some l → l.2 ≤ W.heap.size
  a8 : ∀ l b, rA = some l → o8 = some b → b < l.1 ∨ l.2 ≤ b
  a9 : ∀ l b, rA = some l → o9 = some b → b < l.1 ∨ l.2 ≤ b
  b8 : ∀ l b, rB = some l → o8 = some b → b < l.1 ∨ l.2 ≤ b
  b9 : ∀ l b, rB = some l → o9 = some b → b < l.1 ∨ l.2 ≤ b
variable {w4 W W' : World} {UA UB : Option (Nat × Nat) → World → Prop} {o8 o9 : Option Nat} {rA rB : Option (Nat × Nat)}
theorem Pr.m8 (h : Pr w4 UA UB none o9 rA rB W) (hA : ∀ W', Below W.heap.size W W' → UA rA W') (hB : ∀ W', Below W.heap.size W W' → UB rB W') : Pr w4 UA UB (some W.heap.size) o9 rA rB (W.alloc (.cells #[.slice none 0 0, .slice none 0 0, .slice none 0 0, .slice none 0 0, .slice none 0 0] 36)) :=
  ⟨h.pre.trans ((bl_one _).mono h.pre.size), fun b hb => by injection hb with hb; subst hb; exact ⟨Cells.new W #[.slice none 0 0, .slice none 0 0, .slice none 0 0, .slice none 0 0, .slice none 0 0].toList _, h.pre.size⟩, fun b hb => ⟨(h.c9 b hb).1.on (bl_one _), (h.c9 b hb).2⟩, fun b b' hb hb' => by injection hb with hb; subst hb; have := (h.c9 b' hb').1.lt; omega,
   hA _ (bl_one _), hB _ (bl_one _), fun l hl => Nat.le_trans (h.la l hl) (bl_one _).size, fun l hl => Nat.le_trans (h.lb l hl) (bl_one _).size, fun l b hl hb => by injection hb with hb; subst hb; exact .inr (h.la l hl), h.a9, fun l b hl hb => by injection hb with hb; subst hb; exact .inr (h.lb l hl), h.b9⟩
theorem Pr.m9 (h : Pr w4 UA UB o8 none rA rB W) (hA : ∀ W', Below W.heap.size W W' → UA rA W') (hB : ∀ W', Below W.heap.size W W' → UB rB W') : Pr w4 UA UB o8 (some W.heap.size) rA rB (W.alloc (.cells #[.slice none 0 0, .slice none 0 0, .slice none 0 0, .slice none 0 0, .slice none 0 0] 38)) :=
  ⟨h.pre.trans ((bl_one _).mono h.pre.size), fun b hb => ⟨(h.c8 b hb).1.on (bl_one _), (h.c8 b hb).2⟩, fun b hb => by injection hb with hb; subst hb; exact ⟨Cells.new W #[.slice none 0 0, .slice none 0 0, .slice none 0 0, .slice none 0 0, .slice none 0 0].toList _, h.pre.size⟩, fun b b' hb hb' => by injection hb' with hb'; subst hb'; have := (h.c8 b hb).1.lt; omega,
   hA _ (bl_one _), hB _ (bl_one _), fun l hl => Nat.le_trans (h.la l hl) (bl_one _).size, fun l hl => Nat.le_trans (h.lb l hl) (bl_one _).size, h.a8, fun l b hl hb => by injection hb with hb; subst hb; exact .inr (h.la l hl), h.b8, fun l b hl hb => by injection hb with hb; subst hb; exact .inr (h.lb l hl)⟩
theorem Pr.cA (h : Pr w4 UA UB o8 o9 none rB W) (hb : Below W.heap.size W W') {QA : Option (Nat × Nat) → World → Prop} (hA : QA (some (W.heap.size, W'.heap.size)) W') (hB : UB rB W') : Pr w4 QA UB o8 o9 (some (W.heap.size, W'.heap.size)) rB W' :=
  ⟨h.pre.trans (hb.mono h.pre.size), fun b hc => ⟨(h.c8 b hc).1.on hb, (h.c8 b hc).2⟩, fun b hc => ⟨(h.c9 b hc).1.on hb, (h.c9 b hc).2⟩, h.ne, hA, hB, fun l hl => by injection hl with hl; subst hl; exact Nat.le_refl _, fun l hl => Nat.le_trans (h.lb l hl) hb.size,
   fun l b hl hc => by injection hl with hl; subst hl; exact .inl (h.c8 b hc).1.lt, fun l b hl hc => by injection hl with hl; subst hl; exact .inl (h.c9 b hc).1.lt, h.b8, h.b9⟩
theorem Pr.cB (h : Pr w4 UA UB o8 o9 rA none W) (hb : Below W.heap.size W W') {QB : Option (Nat × Nat) → World → Prop} (hA : UA rA W') (hB : QB (some (W.heap.size, W'.heap.size)) W') : Pr w4 UA QB o8 o9 rA (some (W.heap.size, W'.heap.size)) W' :=
  ⟨h.pre.trans (hb.mono h.pre.size), fun b hc => ⟨(h.c8 b hc).1.on hb, (h.c8 b hc).2⟩, fun b hc => ⟨(h.c9 b hc).1.on hb, (h.c9 b hc).2⟩, h.ne, hA, hB, fun l hl => Nat.le_trans (h.la l hl) hb.size, fun l hl => by injection hl with hl; subst hl; exact Nat.le_refl _, h.a8, h.a9,
   fun l b hl hc => by injection hl with hl; subst hl; exact .inl (h.c8 b hc).1.lt, fun l b hl hc => by injection hl with hl; subst hl; exact .inl (h.c9 b hc).1.lt⟩
def BdP (x : DFunc) (gi sa sn ss sp sl : Int) (n1 n2 n3 n4 n6 : Nat) (A0 : Option Addr) (c0 : Nat) (A1 : Option Addr) (c1 : Nat) (A2 : Option Addr) (c2 : Nat) (A3 : Option Addr) (c3 : Nat) (A4 : Option Addr) (c4 : Nat) (r : Option (Nat × Nat)) (W : World) : Prop := ∀ l, r = some l → BdR x gi sa sn ss sp sl n1 n2 n3 n4 n6 l.1 l.2 A0 c0 A1 c1 A2 c2 A3 c3 A4 c4 W
theorem BdP.on {x : DFunc} {gi sa sn ss sp sl : Int} {n1 n2 n3 n4 n6 : Nat} {A0 : Option Addr} {c0 : Nat} {A1 : Option Addr} {c1 : Nat} {A2 : Option Addr} {c2 : Nat} {A3 : Option Addr} {c3 : Nat} {A4 : Option Addr} {c4 : Nat} {r : Option (Nat × Nat)} (h : BdP x gi sa sn ss sp sl n1 n2 n3 n4 n6 A0 c0 A1 c1 A2 c2 A3 c3 A4 c4 r W) (W' : World) (hb : Below W.heap.size W W') : BdP x gi sa sn ss sp sl n1 n2 n3 n4 n6 A0 c0 A1 c1 A2 c2 A3 c3 A4 c4 r W' := fun l hl => (h l hl).on hb
def NoP (r : Option (Nat × Nat)) (_ : World) : Prop := True
theorem NoP.on {r : Option (Nat × Nat)} (h : NoP r W) (W' : World) (hb : Below W.heap.size W W') : NoP r W' := trivial
theorem Pr.start (h : Below w4.heap.size w4 W) : Pr w4 NoP NoP none none none none W where
  pre := h
  c8 := fun b h => by cases h
  c9 := fun b h => by cases h
  ne := fun b b' h => by cases h
  a := trivial
  b := trivial
  la := fun l h => by cases h
  lb := fun l h => by cases h
  a8 := fun l b h => by cases h
  a9 := fun l b h => by cases h
  b8 := fun l b h => by cases h
  b9 := fun l b h => by cases h
theorem kp_set5 (W : World) (b : Nat) (u0 u1 u2 u3 u4 : Value) : Kp (fun j => j = b) W (set5 W b u0 u1 u2 u3 u4) :=
  (((((Kp.refl (fun j => j = b) W).setCell (p := ⟨b, 0, none⟩) (fun _ => rfl) _).setCell (p := ⟨b, 1, none⟩) (fun _ => rfl) _).setCell (p := ⟨b, 2, none⟩) (fun _ => rfl) _).setCell (p := ⟨b, 3, none⟩) (fun _ => rfl) _).setCell (p := ⟨b, 4, none⟩) (fun _ => rfl) _
theorem cells_set5 {W : World} {b : Nat} {u0 u1 u2 u3 u4 : Value} {z0 z1 z2 z3 z4 : Value} (h : Cells W b [z0, z1, z2, z3, z4]) : Cells (set5 W b u0 u1 u2 u3 u4) b [u0, u1, u2, u3, u4] :=
  ((((h.put 0 (by simp) u0).put 1 (by simp) u1).put 2 (by simp) u2).put 3 (by simp) u3).put 4 (by simp) u4
theorem bl_set5 {W w4 : World} {B b : Nat} {u0 u1 u2 u3 u4 : Value} (h : Below B w4 W) (hb : B ≤ b) : Below B w4 (set5 W b u0 u1 u2 u3 u4) :=
  ((((h.setCell (p := ⟨b, 0, none⟩) hb _).setCell (p := ⟨b, 1, none⟩) hb _).setCell (p := ⟨b, 2, none⟩) hb _).setCell (p := ⟨b, 3, none⟩) hb _).setCell (p := ⟨b, 4, none⟩) hb _
set_option maxRecDepth 100000 in
set_option maxHeartbeats 64000000 in
theorem spliceBodies_walk (cs0 : Array Value) (x : DFunc) (gi : Int) (cs1 : Array Value) (y : DSpot) (w : World) (h0 : RFunc w w.heap.size cs0.toList x) (hwf : (Lit.int .i64 gi).wf = true) (h1 : RSpot w w.heap.size cs1.toList y) :
    Calls Try.prog 3 #[.agg cs0, .int .i64 gi, .agg cs1] w fun e w' => e = .returned (.bool true) ∧ Below w.heap.size w w' := by
  obtain ⟨A0, n0, c0, A1, n1, c1, A2, n2, c2, A3, n3, c3, A4, n4, c4, A5, n5, c5, A6, n6, c6, A7, n7, c7, A8, n8, c8, ec0, hnm, r0, r1, r2, r3, r4, r5, r6, r7, r8⟩ := h0
  obtain ⟨ec1, _⟩ := h1
  obtain ⟨s, hs⟩ : ∃ s, x.name = s := ⟨_, rfl⟩
  obtain ⟨b, hb⟩ : ∃ b, x.inner = b := ⟨_, rfl⟩
  rw [hs] at hnm
  rw [hs, hb] at ec0
  obtain rfl : cs0 = #[.string s, .bool b, .slice A0 n0 c0, .slice A1 n1 c1, .slice A2 n2 c2, .slice A3 n3 c3, .slice A4 n4 c4, .slice A5 n5 c5, .slice A6 n6 c6, .slice A7 n7 c7, .slice A8 n8 c8] := by rw [← Array.toArray_toList (xs := cs0), ec0]
  obtain ⟨sa, sn, ss, sp, sl⟩ := y
  dsimp only at ec1
  obtain rfl : cs1 = #[.int .i64 sa, .int .i64 sn, .int .i64 ss, .int .i64 sp, .int .i64 sl] := by rw [← Array.toArray_toList (xs := cs1), ec1]
  obtain ⟨w2, hw2⟩ : ∃ X, (w.alloc (.cells #[.string s, .bool b, .slice A0 n0 c0, .slice A1 n1 c1, .slice A2 n2 c2, .slice A3 n3 c3, .slice A4 n4 c4, .slice A5 n5 c5, .slice A6 n6 c6, .slice A7 n7 c7, .slice A8 n8 c8] 28)).alloc (.cells #[.int .i64 sa, .int .i64 sn, .int .i64 ss, .int .i64 sp, .int .i64 sl] 30) = X := ⟨_, rfl⟩
  obtain ⟨g, hg⟩ : ∃ g, w.heap.size = g := ⟨_, rfl⟩
  have hb2 : Below w.heap.size w w2 := by rw [← hw2]; exact two_below
  have ht : TwoB w g s b A0 n0 c0 A1 n1 c1 A2 n2 c2 A3 n3 c3 A4 n4 c4 A5 n5 c5 A6 n6 c6 A7 n7 c7 A8 n8 c8 sa sn ss sp sl w2 := by rw [← hw2, ← hg]; exact TwoB.new w s b A0 n0 c0 A1 n1 c1 A2 n2 c2 A3 n3 c3 A4 n4 c4 A5 n5 c5 A6 n6 c6 A7 n7 c7 A8 n8 c8 sa sn ss sp sl
  have HB2 := Lib.hid hb2
  have EQ : Hid (∀ W, Below w2.heap.size w2 W → (W.cell? ⟨g, 0, none⟩ = some (.string s) ∧ W.cell? ⟨g, 1, none⟩ = some (.bool b) ∧ W.cell? ⟨g, 2, none⟩ = some (.slice A0 n0 c0) ∧ W.cell? ⟨g, 3, none⟩ = some (.slice A1 n1 c1) ∧ W.cell? ⟨g, 4, none⟩ = some (.slice A2 n2 c2) ∧ W.cell? ⟨g, 5, none⟩ = some (.slice A3 n3 c3) ∧ W.cell? ⟨g, 6, none⟩ = some (.slice A4 n4 c4) ∧ W.cell? ⟨g, 7, none⟩ = some (.slice A5 n5 c5) ∧ W.cell? ⟨g, 8, none⟩ = some (.slice A6 n6 c6) ∧ W.cell? ⟨g, 9, none⟩ = some (.slice A7 n7 c7) ∧ W.cell? ⟨g, 10, none⟩ = some (.slice A8 n8 c8)) ∧ W.cell? ⟨g + 1, 0, none⟩ = some (.int .i64 sa) ∧ W.cell? ⟨g + 1, 1, none⟩ = some (.int .i64 sn) ∧ W.cell? ⟨g + 1, 2, none⟩ = some (.int .i64 ss) ∧ W.cell? ⟨g + 1, 3, none⟩ = some (.int .i64 sp) ∧ W.cell? ⟨g + 1, 4, none⟩ = some (.int .i64 sl)) := Lib.hid fun W hW => by
    have h3 := ht.kp ((Kp.refl (fun _ => False) w2).ofBelow hW) id id
    exact ⟨⟨h3.a.at_ 0 _ rfl, h3.a.at_ 1 _ rfl, h3.a.at_ 2 _ rfl, h3.a.at_ 3 _ rfl, h3.a.at_ 4 _ rfl, h3.a.at_ 5 _ rfl, h3.a.at_ 6 _ rfl, h3.a.at_ 7 _ rfl, h3.a.at_ 8 _ rfl, h3.a.at_ 9 _ rfl, h3.a.at_ 10 _ rfl⟩, h3.b.at_ 0 _ rfl, h3.b.at_ 1 _ rfl, h3.b.at_ 2 _ rfl, h3.b.at_ 3 _ rfl, h3.b.at_ 4 _ rfl⟩
  have cSm := Lib.hid (small15_any s b A0 n0 c0 A1 n1 c1 A2 n2 c2 A3 n3 c3 A4 n4 c4 A5 n5 c5 A6 n6 c6 A7 n7 c7 A8 n8 c8 w2 (bound_of r0 r1 r2 r3 n4 n5 n6 n7 n8))
  have HFW : Hid (smallB n0 n1 n2 n3 n4 n5 n6 n7 n8 = true → ∀ W, Below w2.heap.size w2 W → FnW W W.heap.size s b A0 n0 c0 A1 n1 c1 A2 n2 c2 A3 n3 c3 A4 n4 c4 A5 n5 c5 A6 n6 c6 A7 n7 c7 A8 n8 c8 x) := Lib.hid fun hsm W hW => by
    have h2 : Below w.heap.size w W := hb2.trans (hW.mono hb2.size)
    have h4 : FnW w w.heap.size s b A0 n0 c0 A1 n1 c1 A2 n2 c2 A3 n3 c3 A4 n4 c4 A5 n5 c5 A6 n6 c6 A7 n7 c7 A8 n8 c8 x := ⟨by have := hnm; unfold reachBytes at this; omega, sli_of r0, sli_of r1, sli_of r2, sli_of r3, slc_of r4, sli_of r5, sln_of r6, sli_of r7, sls4_of r8, small_spec hsm⟩
    exact (h4.keep h2).more h2.size
  have HBW : Hid (∀ W, Below w2.heap.size w2 W → Below w.heap.size w W) := Lib.hid fun W hW => hb2.trans (hW.mono hb2.size)
  have hcl : Hid (∀ W, Below w2.heap.size w2 W → Calls Try.prog 7 #[] W fun e w' => e = .returned (.bool true) ∧ Below w.heap.size w w') := Lib.hid fun W hW => (splice_lives W).mono (by
    rintro e w' ⟨rfl, hb⟩
    exact ⟨rfl, (HBW.out W hW).trans (hb.mono (HBW.out W hW).size)⟩)
  obtain ⟨⟨e0, e1, e2, e3, e4, e5, e6, e7, e8, e9, e10⟩, b0, b1, b2, b3, b4⟩ := EQ.out w2 (Below.refl _ _)
  obtain ⟨sm, hsm⟩ : ∃ r, smallB n0 n1 n2 n3 n4 n5 n6 n7 n8 = r := ⟨_, rfl⟩
  rw [hsm] at cSm HFW
  have HSM : Hid (sm = true → n4 ≤ 150 ∧ n5 ≤ 150 ∧ n6 ≤ 20 ∧ n7 ≤ 150 ∧ n8 ≤ 150 ∧ n1 + n2 + n3 + n0 ≤ 300) := Lib.hid fun h => small_spec (hsm.trans h)
  clear hb2 ht r0 r1 r2 r3 r4 r5 r6 r7 r8 hnm hsm hs hb ec0 ec1
  go_enter Try.func3, Try.ntmps3
  go_wp2_with fail
  refine cSm.out.mono ?_
  rintro e w3 ⟨rfl, hb3⟩
  have HC3 := Lib.hid hb3
  clear hb3 cSm hw2 hg e0 e1 e2 e3 e4 e5 e6 e7 e8 e9 e10 b0 b1 b2 b3 b4
  cases sm with
  | false =>
    go_wp2_with fail
    refine (hcl.out w3 HC3.out).mono ?_
    rintro e w4 ⟨rfl, hb4⟩
    go_wp2_with fail
    go_ret
    exact ⟨rfl, hb4⟩
  | true =>
    have HF : Hid (∀ W, Below w2.heap.size w2 W → FnW W W.heap.size s b A0 n0 c0 A1 n1 c1 A2 n2 c2 A3 n3 c3 A4 n4 c4 A5 n5 c5 A6 n6 c6 A7 n7 c7 A8 n8 c8 x) := Lib.hid (HFW.out rfl)
    obtain ⟨s4, s5, s6, s7, s8, s0⟩ := HSM.out rfl
    have cCan := Lib.hid (can_any s b A0 n0 c0 A1 n1 c1 A2 n2 c2 A3 n3 c3 A4 n4 c4 A5 n5 c5 A6 n6 c6 A7 n7 c7 A8 n8 c8 x w3 (HF.out w3 HC3.out))
    obtain ⟨⟨e0, e1, e2, e3, e4, e5, e6, e7, e8, e9, e10⟩, b0, b1, b2, b3, b4⟩ := EQ.out w3 HC3.out
    clear HFW HSM
    go_wp2_with fail
    refine cCan.out.mono ?_
    rintro e w4 ⟨r, rfl, hcan, hb4⟩
    have HC4 : Hid (Below w2.heap.size w2 w4) := Lib.hid (HC3.out.trans (hb4.mono HC3.out.size))
    clear hb4 cCan e0 e1 e2 e3 e4 e5 e6 e7 e8 e9 e10 b0 b1 b2 b3 b4
    by_cases hr : r = 0
    · have t0 : (r != 0) = false := by simpa using hr
      have HOK := Lib.hid (hcan hr)
      have HF4 : Hid (∀ W, Below w4.heap.size w4 W → FnW W W.heap.size s b A0 n0 c0 A1 n1 c1 A2 n2 c2 A3 n3 c3 A4 n4 c4 A5 n5 c5 A6 n6 c6 A7 n7 c7 A8 n8 c8 x) := Lib.hid fun W hW => HF.out W (HC4.out.trans (hW.mono HC4.out.size))
      have hln : n5 = n4 := by have h1 := (HF4.out w4 (Below.refl _ _)).r5.1; have h2 := (HF4.out w4 (Below.refl _ _)).r4.1; have h3 := HOK.out.lines; omega
      have htb : n6 + n7 + n8 = 0 ∨ 1 ≤ n6 := by
        have h1 := (HF4.out w4 (Below.refl _ _)).r6.1
        have h2 := (HF4.out w4 (Below.refl _ _)).r7.1
        have h3 := (HF4.out w4 (Below.refl _ _)).r8.1
        rcases HOK.out.tab with ⟨e1, e2, e3⟩ | ⟨e1, _, _, _⟩
        · rw [e1] at h1; rw [e2] at h2; rw [e3] at h3; simp at h1 h2 h3; omega
        · right; have := e1.1; omega
      have cA : Hid (∀ W, Below w4.heap.size w4 W → Calls Try.prog 8 #[.int .i64 gi, .agg #[.string s, .bool b, .slice A0 n0 c0, .slice A1 n1 c1, .slice A2 n2 c2, .slice A3 n3 c3, .slice A4 n4 c4, .slice A5 n5 c5, .slice A6 n6 c6, .slice A7 n7 c7, .slice A8 n8 c8], .agg #[.int .i64 sa, .int .i64 sn, .int .i64 ss, .int .i64 sp, .int .i64 sl]] W (IsBd x gi sa sn ss sp sl n1 n2 n3 n4 n6 W)) := Lib.hid fun W hW => bd_any gi s b A0 n0 c0 A1 n1 c1 A2 n2 c2 A3 n3 c3 A4 n4 c4 A5 n5 c5 A6 n6 c6 A7 n7 c7 A8 n8 c8 sa sn ss sp sl x W (HF4.out W hW)
      have cB : Hid (∀ W, Below w4.heap.size w4 W → Calls Try.prog 9 #[.int .i64 gi, .agg #[.string s, .bool b, .slice A0 n0 c0, .slice A1 n1 c1, .slice A2 n2 c2, .slice A3 n3 c3, .slice A4 n4 c4, .slice A5 n5 c5, .slice A6 n6 c6, .slice A7 n7 c7, .slice A8 n8 c8], .agg #[.int .i64 sa, .int .i64 sn, .int .i64 ss, .int .i64 sp, .int .i64 sl]] W (IsBd x gi sa sn ss sp sl n1 n2 n3 n4 n6 W)) := Lib.hid fun W hW => rbd_any gi s b A0 n0 c0 A1 n1 c1 A2 n2 c2 A3 n3 c3 A4 n4 c4 A5 n5 c5 A6 n6 c6 A7 n7 c7 A8 n8 c8 sa sn ss sp sl x W (HF4.out W hW) htb hln
      have HTB := Lib.hid htb
      have EQ4 : Hid (∀ W, Below w4.heap.size w4 W → (W.cell? ⟨g, 0, none⟩ = some (.string s) ∧ W.cell? ⟨g, 1, none⟩ = some (.bool b) ∧ W.cell? ⟨g, 2, none⟩ = some (.slice A0 n0 c0) ∧ W.cell? ⟨g, 3, none⟩ = some (.slice A1 n1 c1) ∧ W.cell? ⟨g, 4, none⟩ = some (.slice A2 n2 c2) ∧ W.cell? ⟨g, 5, none⟩ = some (.slice A3 n3 c3) ∧ W.cell? ⟨g, 6, none⟩ = some (.slice A4 n4 c4) ∧ W.cell? ⟨g, 7, none⟩ = some (.slice A5 n5 c5) ∧ W.cell? ⟨g, 8, none⟩ = some (.slice A6 n6 c6) ∧ W.cell? ⟨g, 9, none⟩ = some (.slice A7 n7 c7) ∧ W.cell? ⟨g, 10, none⟩ = some (.slice A8 n8 c8)) ∧ W.cell? ⟨g + 1, 0, none⟩ = some (.int .i64 sa) ∧ W.cell? ⟨g + 1, 1, none⟩ = some (.int .i64 sn) ∧ W.cell? ⟨g + 1, 2, none⟩ = some (.int .i64 ss) ∧ W.cell? ⟨g + 1, 3, none⟩ = some (.int .i64 sp) ∧ W.cell? ⟨g + 1, 4, none⟩ = some (.int .i64 sl)) := Lib.hid fun W hW => EQ.out W (HC4.out.trans (hW.mono HC4.out.size))
      have HBND : Hid (n1 + n2 + n3 ≤ 300 ∧ n4 ≤ 150 ∧ n6 ≤ 20) := Lib.hid ⟨by omega, by omega, by omega⟩
      clear hr hcan hln htb s4 s5 s6 s7 s8 s0
      go_wp2_with fail
      refine wp_region_held (S := fun W => Below w4.heap.size w4 W) (by kernel_rfl) ?_
      change wpAnyH _ _ _ _ _ _ _ _ (World.drew _)
      have hS0 : Below w4.heap.size w4 w4.drew := (Below.refl _ _).drew
      refine wpAnyH_take (i := 0) (v := .int .i64 gi) rfl (by kernel_rfl) (by kernel_rfl) (by kernel_rfl) (fun _ _ _ h => h) (Or.inl ⟨by rfl, by intro W hW; go_simp; try (first | (with_reducible rfl) | omega)⟩) hS0 ?_
      refine wpAnyH_take (i := 1) (v := .agg #[.string s, .bool b, .slice A0 n0 c0, .slice A1 n1 c1, .slice A2 n2 c2, .slice A3 n3 c3, .slice A4 n4 c4, .slice A5 n5 c5, .slice A6 n6 c6, .slice A7 n7 c7, .slice A8 n8 c8]) rfl (by kernel_rfl) (by kernel_rfl) (by kernel_rfl) (fun _ _ _ h => h) (Or.inl ⟨by rfl, by intro W hW; obtain ⟨⟨e0, e1, e2, e3, e4, e5, e6, e7, e8, e9, e10⟩, b0, b1, b2, b3, b4⟩ := EQ4.out W hW; go_simp; try (first | (with_reducible rfl) | omega)⟩) hS0 ?_
      refine wpAnyH_take (i := 2) (v := .agg #[.int .i64 sa, .int .i64 sn, .int .i64 ss, .int .i64 sp, .int .i64 sl]) rfl (by kernel_rfl) (by kernel_rfl) (by kernel_rfl) (fun _ _ _ h => h) (Or.inl ⟨by rfl, by intro W hW; obtain ⟨⟨e0, e1, e2, e3, e4, e5, e6, e7, e8, e9, e10⟩, b0, b1, b2, b3, b4⟩ := EQ4.out W hW; go_simp; try (first | (with_reducible rfl) | omega)⟩) hS0 ?_
      refine wpAnyH_take (i := 4) (v := .int .i64 gi) rfl (by kernel_rfl) (by kernel_rfl) (by kernel_rfl) (fun _ _ _ h => h) (Or.inl ⟨by rfl, by intro W hW; go_simp; try (first | (with_reducible rfl) | omega)⟩) hS0 ?_
      refine wpAnyH_take (i := 5) (v := .agg #[.string s, .bool b, .slice A0 n0 c0, .slice A1 n1 c1, .slice A2 n2 c2, .slice A3 n3 c3, .slice A4 n4 c4, .slice A5 n5 c5, .slice A6 n6 c6, .slice A7 n7 c7, .slice A8 n8 c8]) rfl (by kernel_rfl) (by kernel_rfl) (by kernel_rfl) (fun _ _ _ h => h) (Or.inl ⟨by rfl, by intro W hW; obtain ⟨⟨e0, e1, e2, e3, e4, e5, e6, e7, e8, e9, e10⟩, b0, b1, b2, b3, b4⟩ := EQ4.out W hW; go_simp; try (first | (with_reducible rfl) | omega)⟩) hS0 ?_
      refine wpAnyH_take (i := 6) (v := .agg #[.int .i64 sa, .int .i64 sn, .int .i64 ss, .int .i64 sp, .int .i64 sl]) rfl (by kernel_rfl) (by kernel_rfl) (by kernel_rfl) (fun _ _ _ h => h) (Or.inl ⟨by rfl, by intro W hW; obtain ⟨⟨e0, e1, e2, e3, e4, e5, e6, e7, e8, e9, e10⟩, b0, b1, b2, b3, b4⟩ := EQ4.out W hW; go_simp; try (first | (with_reducible rfl) | omega)⟩) hS0 ?_
      try go_simp
      obtain ⟨wd, hwd⟩ : ∃ X, w4.drew = X := ⟨_, rfl⟩
      rw [hwd] at hS0
      rw [hwd]
      clear hwd
      have HQd : Hid (Pr w4 NoP NoP none none none none wd) := Lib.hid (Pr.start hS0)
      clear hS0
      refine (fun (hT : ∀ (ba bb : Nat) (D0 : Option Addr) (d0 : Nat) (D1 : Option Addr) (d1 : Nat) (D2 : Option Addr) (d2 : Nat) (D3 : Option Addr) (d3 : Nat) (D4 : Option Addr) (d4 : Nat) (E0 : Option Addr) (t0 : Nat) (E1 : Option Addr) (t1 : Nat) (E2 : Option Addr) (t2 : Nat) (E3 : Option Addr) (t3 : Nat) (E4 : Option Addr) (t4 : Nat) (w9 : World), Hid (∃ la lb, Pr w4 (BdP x gi sa sn ss sp sl n1 n2 n3 n4 n6 D0 d0 D1 d1 D2 d2 D3 d3 D4 d4) (BdP x gi sa sn ss sp sl n1 n2 n3 n4 n6 E0 t0 E1 t1 E2 t2 E3 t3 E4 t4) (some ba) (some bb) (some la) (some lb) w9) → (?T : Nat → Nat → Option Addr → Nat → Option Addr → Nat → Option Addr → Nat → Option Addr → Nat → Option Addr → Nat → Option Addr → Nat → Option Addr → Nat → Option Addr → Nat → Option Addr → Nat → Option Addr → Nat → World → Prop) ba bb D0 d0 D1 d1 D2 d2 D3 d3 D4 d4 E0 t0 E1 t1 E2 t2 E3 t3 E4 t4 w9) => ?main) ?tail
      case main =>
        refine wpAnyH_three (i := 3) (j := 8) (l := 9) (by kernel_rfl) rfl rfl rfl (fun K hK => ?_) (fun K hK => ?_) (fun K hK => ?_)
        · go_simp
          refine (cA.out _ HQd.out.pre).mono ?_
          rintro e w11 hb
          obtain ⟨D0, d0, D1, d1, D2, d2, D3, d3, D4, d4, rfl, hN, hbl⟩ := hb.get
          have H1 := Lib.hid (HQd.out.cA hbl (QA := BdP x gi sa sn ss sp sl n1 n2 n3 n4 n6 D0 d0 D1 d1 D2 d2 D3 d3 D4 d4) (fun l hl => by injection hl with hl; subst hl; exact hN) (NoP.on HQd.out.b _ hbl))
          clear hb hN hbl
          go_simp
          refine hK _ _ ⟨H1.out.pre, ?_⟩; clear hK K
          try go_simp
          refine wpAnyH_three (i := 7) (j := 8) (l := 9) (by kernel_rfl) rfl rfl rfl (fun K hK => ?_) (fun K hK => ?_) (fun K hK => ?_)
          · go_simp
            refine (cB.out _ H1.out.pre).mono ?_
            rintro e w12 hb
            obtain ⟨E0, t0, E1, t1, E2, t2, E3, t3, E4, t4, rfl, hN, hbl⟩ := hb.get
            have H2 := Lib.hid (H1.out.cB hbl (QB := BdP x gi sa sn ss sp sl n1 n2 n3 n4 n6 E0 t0 E1 t1 E2 t2 E3 t3 E4 t4) (BdP.on H1.out.a _ hbl) (fun l hl => by injection hl with hl; subst hl; exact hN))
            clear hb hN hbl
            go_simp
            refine hK _ _ ⟨H2.out.pre, ?_⟩; clear hK K
            try go_simp
            refine wpAnyH_two (i := 8) (j := 9) (by kernel_rfl) rfl rfl (fun K hK => ?_) (fun K hK => ?_)
            · obtain ⟨w13, hw13⟩ : ∃ X, World.alloc w12 (.cells #[.slice none 0 0, .slice none 0 0, .slice none 0 0, .slice none 0 0, .slice none 0 0] 36) = X := ⟨_, rfl⟩
              obtain ⟨g3, hg3⟩ : ∃ X, (World.heap w12).size = X := ⟨_, rfl⟩
              have H3 := Lib.hid (H2.out.m8 (BdP.on H2.out.a) (BdP.on H2.out.b))
              rw [hw13, hg3] at H3
              go_simp
              refine hK _ _ ⟨H3.out.pre, ?_⟩; clear hK K hw13 hg3
              try go_simp
              refine wpAnyH_one (i := 9) (by kernel_rfl) rfl (fun K hK => ?_)
              obtain ⟨w14, hw14⟩ : ∃ X, World.alloc w13 (.cells #[.slice none 0 0, .slice none 0 0, .slice none 0 0, .slice none 0 0, .slice none 0 0] 38) = X := ⟨_, rfl⟩
              obtain ⟨g4, hg4⟩ : ∃ X, (World.heap w13).size = X := ⟨_, rfl⟩
              have H4 := Lib.hid (H3.out.m9 (BdP.on H3.out.a) (BdP.on H3.out.b))
              rw [hw14, hg4] at H4
              go_simp
              refine hK _ _ ⟨H4.out.pre, ?_⟩; clear hK K hw14 hg4
              try go_simp
              exact hT g3 g4 D0 d0 D1 d1 D2 d2 D3 d3 D4 d4 E0 t0 E1 t1 E2 t2 E3 t3 E4 t4 w14 (Lib.hid ⟨_, _, H4.out⟩)
            · obtain ⟨w15, hw15⟩ : ∃ X, World.alloc w12 (.cells #[.slice none 0 0, .slice none 0 0, .slice none 0 0, .slice none 0 0, .slice none 0 0] 38) = X := ⟨_, rfl⟩
              obtain ⟨g5, hg5⟩ : ∃ X, (World.heap w12).size = X := ⟨_, rfl⟩
              have H5 := Lib.hid (H2.out.m9 (BdP.on H2.out.a) (BdP.on H2.out.b))
              rw [hw15, hg5] at H5
              go_simp
              refine hK _ _ ⟨H5.out.pre, ?_⟩; clear hK K hw15 hg5
              try go_simp
              refine wpAnyH_one (i := 8) (by kernel_rfl) rfl (fun K hK => ?_)
              obtain ⟨w16, hw16⟩ : ∃ X, World.alloc w15 (.cells #[.slice none 0 0, .slice none 0 0, .slice none 0 0, .slice none 0 0, .slice none 0 0] 36) = X := ⟨_, rfl⟩
              obtain ⟨g6, hg6⟩ : ∃ X, (World.heap w15).size = X := ⟨_, rfl⟩
              have H6 := Lib.hid (H5.out.m8 (BdP.on H5.out.a) (BdP.on H5.out.b))
              rw [hw16, hg6] at H6
              go_simp
              refine hK _ _ ⟨H6.out.pre, ?_⟩; clear hK K hw16 hg6
              try go_simp
              exact hT g6 g5 D0 d0 D1 d1 D2 d2 D3 d3 D4 d4 E0 t0 E1 t1 E2 t2 E3 t3 E4 t4 w16 (Lib.hid ⟨_, _, H6.out⟩)
          · obtain ⟨w17, hw17⟩ : ∃ X, World.alloc w11 (.cells #[.slice none 0 0, .slice none 0 0, .slice none 0 0, .slice none 0 0, .slice none 0 0] 36) = X := ⟨_, rfl⟩
            obtain ⟨g7, hg7⟩ : ∃ X, (World.heap w11).size = X := ⟨_, rfl⟩
            have H7 := Lib.hid (H1.out.m8 (BdP.on H1.out.a) (NoP.on H1.out.b))
            rw [hw17, hg7] at H7
            go_simp
            refine hK _ _ ⟨H7.out.pre, ?_⟩; clear hK K hw17 hg7
            try go_simp
            refine wpAnyH_two (i := 7) (j := 9) (by kernel_rfl) rfl rfl (fun K hK => ?_) (fun K hK => ?_)
            · go_simp
              refine (cB.out _ H7.out.pre).mono ?_
              rintro e w18 hb
              obtain ⟨E0, t0, E1, t1, E2, t2, E3, t3, E4, t4, rfl, hN, hbl⟩ := hb.get
              have H8 := Lib.hid (H7.out.cB hbl (QB := BdP x gi sa sn ss sp sl n1 n2 n3 n4 n6 E0 t0 E1 t1 E2 t2 E3 t3 E4 t4) (BdP.on H7.out.a _ hbl) (fun l hl => by injection hl with hl; subst hl; exact hN))
              clear hb hN hbl
              go_simp
              refine hK _ _ ⟨H8.out.pre, ?_⟩; clear hK K
              try go_simp
              refine wpAnyH_one (i := 9) (by kernel_rfl) rfl (fun K hK => ?_)
              obtain ⟨w19, hw19⟩ : ∃ X, World.alloc w18 (.cells #[.slice none 0 0, .slice none 0 0, .slice none 0 0, .slice none 0 0, .slice none 0 0] 38) = X := ⟨_, rfl⟩
              obtain ⟨g9, hg9⟩ : ∃ X, (World.heap w18).size = X := ⟨_, rfl⟩
              have H9 := Lib.hid (H8.out.m9 (BdP.on H8.out.a) (BdP.on H8.out.b))
              rw [hw19, hg9] at H9
              go_simp
              refine hK _ _ ⟨H9.out.pre, ?_⟩; clear hK K hw19 hg9
              try go_simp
              exact hT g7 g9 D0 d0 D1 d1 D2 d2 D3 d3 D4 d4 E0 t0 E1 t1 E2 t2 E3 t3 E4 t4 w19 (Lib.hid ⟨_, _, H9.out⟩)
            · obtain ⟨w20, hw20⟩ : ∃ X, World.alloc w17 (.cells #[.slice none 0 0, .slice none 0 0, .slice none 0 0, .slice none 0 0, .slice none 0 0] 38) = X := ⟨_, rfl⟩
              obtain ⟨g10, hg10⟩ : ∃ X, (World.heap w17).size = X := ⟨_, rfl⟩
              have H10 := Lib.hid (H7.out.m9 (BdP.on H7.out.a) (NoP.on H7.out.b))
              rw [hw20, hg10] at H10
              go_simp
              refine hK _ _ ⟨H10.out.pre, ?_⟩; clear hK K hw20 hg10
              try go_simp
              refine wpAnyH_one (i := 7) (by kernel_rfl) rfl (fun K hK => ?_)
              go_simp
              refine (cB.out _ H10.out.pre).mono ?_
              rintro e w21 hb
              obtain ⟨E0, t0, E1, t1, E2, t2, E3, t3, E4, t4, rfl, hN, hbl⟩ := hb.get
              have H11 := Lib.hid (H10.out.cB hbl (QB := BdP x gi sa sn ss sp sl n1 n2 n3 n4 n6 E0 t0 E1 t1 E2 t2 E3 t3 E4 t4) (BdP.on H10.out.a _ hbl) (fun l hl => by injection hl with hl; subst hl; exact hN))
              clear hb hN hbl
              go_simp
              refine hK _ _ ⟨H11.out.pre, ?_⟩; clear hK K
              try go_simp
              exact hT g7 g10 D0 d0 D1 d1 D2 d2 D3 d3 D4 d4 E0 t0 E1 t1 E2 t2 E3 t3 E4 t4 w21 (Lib.hid ⟨_, _, H11.out⟩)
          · obtain ⟨w22, hw22⟩ : ∃ X, World.alloc w11 (.cells #[.slice none 0 0, .slice none 0 0, .slice none 0 0, .slice none 0 0, .slice none 0 0] 38) = X := ⟨_, rfl⟩
            obtain ⟨g12, hg12⟩ : ∃ X, (World.heap w11).size = X := ⟨_, rfl⟩
            have H12 := Lib.hid (H1.out.m9 (BdP.on H1.out.a) (NoP.on H1.out.b))
            rw [hw22, hg12] at H12
            go_simp
            refine hK _ _ ⟨H12.out.pre, ?_⟩; clear hK K hw22 hg12
            try go_simp
            refine wpAnyH_two (i := 7) (j := 8) (by kernel_rfl) rfl rfl (fun K hK => ?_) (fun K hK => ?_)
            · go_simp
              refine (cB.out _ H12.out.pre).mono ?_
              rintro e w23 hb
              obtain ⟨E0, t0, E1, t1, E2, t2, E3, t3, E4, t4, rfl, hN, hbl⟩ := hb.get
              have H13 := Lib.hid (H12.out.cB hbl (QB := BdP x gi sa sn ss sp sl n1 n2 n3 n4 n6 E0 t0 E1 t1 E2 t2 E3 t3 E4 t4) (BdP.on H12.out.a _ hbl) (fun l hl => by injection hl with hl; subst hl; exact hN))
              clear hb hN hbl
              go_simp
              refine hK _ _ ⟨H13.out.pre, ?_⟩; clear hK K
              try go_simp
              refine wpAnyH_one (i := 8) (by kernel_rfl) rfl (fun K hK => ?_)
              obtain ⟨w24, hw24⟩ : ∃ X, World.alloc w23 (.cells #[.slice none 0 0, .slice none 0 0, .slice none 0 0, .slice none 0 0, .slice none 0 0] 36) = X := ⟨_, rfl⟩
              obtain ⟨g14, hg14⟩ : ∃ X, (World.heap w23).size = X := ⟨_, rfl⟩
              have H14 := Lib.hid (H13.out.m8 (BdP.on H13.out.a) (BdP.on H13.out.b))
              rw [hw24, hg14] at H14
              go_simp
              refine hK _ _ ⟨H14.out.pre, ?_⟩; clear hK K hw24 hg14
              try go_simp
              exact hT g14 g12 D0 d0 D1 d1 D2 d2 D3 d3 D4 d4 E0 t0 E1 t1 E2 t2 E3 t3 E4 t4 w24 (Lib.hid ⟨_, _, H14.out⟩)
            · obtain ⟨w25, hw25⟩ : ∃ X, World.alloc w22 (.cells #[.slice none 0 0, .slice none 0 0, .slice none 0 0, .slice none 0 0, .slice none 0 0] 36) = X := ⟨_, rfl⟩
              obtain ⟨g15, hg15⟩ : ∃ X, (World.heap w22).size = X := ⟨_, rfl⟩
              have H15 := Lib.hid (H12.out.m8 (BdP.on H12.out.a) (NoP.on H12.out.b))
              rw [hw25, hg15] at H15
              go_simp
              refine hK _ _ ⟨H15.out.pre, ?_⟩; clear hK K hw25 hg15
              try go_simp
              refine wpAnyH_one (i := 7) (by kernel_rfl) rfl (fun K hK => ?_)
              go_simp
              refine (cB.out _ H15.out.pre).mono ?_
              rintro e w26 hb
              obtain ⟨E0, t0, E1, t1, E2, t2, E3, t3, E4, t4, rfl, hN, hbl⟩ := hb.get
              have H16 := Lib.hid (H15.out.cB hbl (QB := BdP x gi sa sn ss sp sl n1 n2 n3 n4 n6 E0 t0 E1 t1 E2 t2 E3 t3 E4 t4) (BdP.on H15.out.a _ hbl) (fun l hl => by injection hl with hl; subst hl; exact hN))
              clear hb hN hbl
              go_simp
              refine hK _ _ ⟨H16.out.pre, ?_⟩; clear hK K
              try go_simp
              exact hT g15 g12 D0 d0 D1 d1 D2 d2 D3 d3 D4 d4 E0 t0 E1 t1 E2 t2 E3 t3 E4 t4 w26 (Lib.hid ⟨_, _, H16.out⟩)
        · obtain ⟨w27, hw27⟩ : ∃ X, World.alloc wd (.cells #[.slice none 0 0, .slice none 0 0, .slice none 0 0, .slice none 0 0, .slice none 0 0] 36) = X := ⟨_, rfl⟩
          obtain ⟨g17, hg17⟩ : ∃ X, (World.heap wd).size = X := ⟨_, rfl⟩
          have H17 := Lib.hid (HQd.out.m8 (NoP.on HQd.out.a) (NoP.on HQd.out.b))
          rw [hw27, hg17] at H17
          go_simp
          refine hK _ _ ⟨H17.out.pre, ?_⟩; clear hK K hw27 hg17
          try go_simp
          refine wpAnyH_two (i := 3) (j := 9) (by kernel_rfl) rfl rfl (fun K hK => ?_) (fun K hK => ?_)
          · go_simp
            refine (cA.out _ H17.out.pre).mono ?_
            rintro e w28 hb
            obtain ⟨D0, d0, D1, d1, D2, d2, D3, d3, D4, d4, rfl, hN, hbl⟩ := hb.get
            have H18 := Lib.hid (H17.out.cA hbl (QA := BdP x gi sa sn ss sp sl n1 n2 n3 n4 n6 D0 d0 D1 d1 D2 d2 D3 d3 D4 d4) (fun l hl => by injection hl with hl; subst hl; exact hN) (NoP.on H17.out.b _ hbl))
            clear hb hN hbl
            go_simp
            refine hK _ _ ⟨H18.out.pre, ?_⟩; clear hK K
            try go_simp
            refine wpAnyH_two (i := 7) (j := 9) (by kernel_rfl) rfl rfl (fun K hK => ?_) (fun K hK => ?_)
            · go_simp
              refine (cB.out _ H18.out.pre).mono ?_
              rintro e w29 hb
              obtain ⟨E0, t0, E1, t1, E2, t2, E3, t3, E4, t4, rfl, hN, hbl⟩ := hb.get
              have H19 := Lib.hid (H18.out.cB hbl (QB := BdP x gi sa sn ss sp sl n1 n2 n3 n4 n6 E0 t0 E1 t1 E2 t2 E3 t3 E4 t4) (BdP.on H18.out.a _ hbl) (fun l hl => by injection hl with hl; subst hl; exact hN))
              clear hb hN hbl
              go_simp
              refine hK _ _ ⟨H19.out.pre, ?_⟩; clear hK K
              try go_simp
              refine wpAnyH_one (i := 9) (by kernel_rfl) rfl (fun K hK => ?_)
              obtain ⟨w30, hw30⟩ : ∃ X, World.alloc w29 (.cells #[.slice none 0 0, .slice none 0 0, .slice none 0 0, .slice none 0 0, .slice none 0 0] 38) = X := ⟨_, rfl⟩
              obtain ⟨g20, hg20⟩ : ∃ X, (World.heap w29).size = X := ⟨_, rfl⟩
              have H20 := Lib.hid (H19.out.m9 (BdP.on H19.out.a) (BdP.on H19.out.b))
              rw [hw30, hg20] at H20
              go_simp
              refine hK _ _ ⟨H20.out.pre, ?_⟩; clear hK K hw30 hg20
              try go_simp
              exact hT g17 g20 D0 d0 D1 d1 D2 d2 D3 d3 D4 d4 E0 t0 E1 t1 E2 t2 E3 t3 E4 t4 w30 (Lib.hid ⟨_, _, H20.out⟩)
            · obtain ⟨w31, hw31⟩ : ∃ X, World.alloc w28 (.cells #[.slice none 0 0, .slice none 0 0, .slice none 0 0, .slice none 0 0, .slice none 0 0] 38) = X := ⟨_, rfl⟩
              obtain ⟨g21, hg21⟩ : ∃ X, (World.heap w28).size = X := ⟨_, rfl⟩
              have H21 := Lib.hid (H18.out.m9 (BdP.on H18.out.a) (NoP.on H18.out.b))
              rw [hw31, hg21] at H21
              go_simp
              refine hK _ _ ⟨H21.out.pre, ?_⟩; clear hK K hw31 hg21
              try go_simp
              refine wpAnyH_one (i := 7) (by kernel_rfl) rfl (fun K hK => ?_)
              go_simp
              refine (cB.out _ H21.out.pre).mono ?_
              rintro e w32 hb
              obtain ⟨E0, t0, E1, t1, E2, t2, E3, t3, E4, t4, rfl, hN, hbl⟩ := hb.get
              have H22 := Lib.hid (H21.out.cB hbl (QB := BdP x gi sa sn ss sp sl n1 n2 n3 n4 n6 E0 t0 E1 t1 E2 t2 E3 t3 E4 t4) (BdP.on H21.out.a _ hbl) (fun l hl => by injection hl with hl; subst hl; exact hN))
              clear hb hN hbl
              go_simp
              refine hK _ _ ⟨H22.out.pre, ?_⟩; clear hK K
              try go_simp
              exact hT g17 g21 D0 d0 D1 d1 D2 d2 D3 d3 D4 d4 E0 t0 E1 t1 E2 t2 E3 t3 E4 t4 w32 (Lib.hid ⟨_, _, H22.out⟩)
          · obtain ⟨w33, hw33⟩ : ∃ X, World.alloc w27 (.cells #[.slice none 0 0, .slice none 0 0, .slice none 0 0, .slice none 0 0, .slice none 0 0] 38) = X := ⟨_, rfl⟩
            obtain ⟨g23, hg23⟩ : ∃ X, (World.heap w27).size = X := ⟨_, rfl⟩
            have H23 := Lib.hid (H17.out.m9 (NoP.on H17.out.a) (NoP.on H17.out.b))
            rw [hw33, hg23] at H23
            go_simp
            refine hK _ _ ⟨H23.out.pre, ?_⟩; clear hK K hw33 hg23
            try go_simp
            refine wpAnyH_one (i := 3) (by kernel_rfl) rfl (fun K hK => ?_)
            go_simp
            refine (cA.out _ H23.out.pre).mono ?_
            rintro e w34 hb
            obtain ⟨D0, d0, D1, d1, D2, d2, D3, d3, D4, d4, rfl, hN, hbl⟩ := hb.get
            have H24 := Lib.hid (H23.out.cA hbl (QA := BdP x gi sa sn ss sp sl n1 n2 n3 n4 n6 D0 d0 D1 d1 D2 d2 D3 d3 D4 d4) (fun l hl => by injection hl with hl; subst hl; exact hN) (NoP.on H23.out.b _ hbl))
            clear hb hN hbl
            go_simp
            refine hK _ _ ⟨H24.out.pre, ?_⟩; clear hK K
            try go_simp
            refine wpAnyH_one (i := 7) (by kernel_rfl) rfl (fun K hK => ?_)
            go_simp
            refine (cB.out _ H24.out.pre).mono ?_
            rintro e w35 hb
            obtain ⟨E0, t0, E1, t1, E2, t2, E3, t3, E4, t4, rfl, hN, hbl⟩ := hb.get
            have H25 := Lib.hid (H24.out.cB hbl (QB := BdP x gi sa sn ss sp sl n1 n2 n3 n4 n6 E0 t0 E1 t1 E2 t2 E3 t3 E4 t4) (BdP.on H24.out.a _ hbl) (fun l hl => by injection hl with hl; subst hl; exact hN))
            clear hb hN hbl
            go_simp
            refine hK _ _ ⟨H25.out.pre, ?_⟩; clear hK K
            try go_simp
            exact hT g17 g23 D0 d0 D1 d1 D2 d2 D3 d3 D4 d4 E0 t0 E1 t1 E2 t2 E3 t3 E4 t4 w35 (Lib.hid ⟨_, _, H25.out⟩)
        · obtain ⟨w36, hw36⟩ : ∃ X, World.alloc wd (.cells #[.slice none 0 0, .slice none 0 0, .slice none 0 0, .slice none 0 0, .slice none 0 0] 38) = X := ⟨_, rfl⟩
          obtain ⟨g26, hg26⟩ : ∃ X, (World.heap wd).size = X := ⟨_, rfl⟩
          have H26 := Lib.hid (HQd.out.m9 (NoP.on HQd.out.a) (NoP.on HQd.out.b))
          rw [hw36, hg26] at H26
          go_simp
          refine hK _ _ ⟨H26.out.pre, ?_⟩; clear hK K hw36 hg26
          try go_simp
          refine wpAnyH_two (i := 3) (j := 8) (by kernel_rfl) rfl rfl (fun K hK => ?_) (fun K hK => ?_)
          · go_simp
            refine (cA.out _ H26.out.pre).mono ?_
            rintro e w37 hb
            obtain ⟨D0, d0, D1, d1, D2, d2, D3, d3, D4, d4, rfl, hN, hbl⟩ := hb.get
            have H27 := Lib.hid (H26.out.cA hbl (QA := BdP x gi sa sn ss sp sl n1 n2 n3 n4 n6 D0 d0 D1 d1 D2 d2 D3 d3 D4 d4) (fun l hl => by injection hl with hl; subst hl; exact hN) (NoP.on H26.out.b _ hbl))
            clear hb hN hbl
            go_simp
            refine hK _ _ ⟨H27.out.pre, ?_⟩; clear hK K
            try go_simp
            refine wpAnyH_two (i := 7) (j := 8) (by kernel_rfl) rfl rfl (fun K hK => ?_) (fun K hK => ?_)
            · go_simp
              refine (cB.out _ H27.out.pre).mono ?_
              rintro e w38 hb
              obtain ⟨E0, t0, E1, t1, E2, t2, E3, t3, E4, t4, rfl, hN, hbl⟩ := hb.get
              have H28 := Lib.hid (H27.out.cB hbl (QB := BdP x gi sa sn ss sp sl n1 n2 n3 n4 n6 E0 t0 E1 t1 E2 t2 E3 t3 E4 t4) (BdP.on H27.out.a _ hbl) (fun l hl => by injection hl with hl; subst hl; exact hN))
              clear hb hN hbl
              go_simp
              refine hK _ _ ⟨H28.out.pre, ?_⟩; clear hK K
              try go_simp
              refine wpAnyH_one (i := 8) (by kernel_rfl) rfl (fun K hK => ?_)
              obtain ⟨w39, hw39⟩ : ∃ X, World.alloc w38 (.cells #[.slice none 0 0, .slice none 0 0, .slice none 0 0, .slice none 0 0, .slice none 0 0] 36) = X := ⟨_, rfl⟩
              obtain ⟨g29, hg29⟩ : ∃ X, (World.heap w38).size = X := ⟨_, rfl⟩
              have H29 := Lib.hid (H28.out.m8 (BdP.on H28.out.a) (BdP.on H28.out.b))
              rw [hw39, hg29] at H29
              go_simp
              refine hK _ _ ⟨H29.out.pre, ?_⟩; clear hK K hw39 hg29
              try go_simp
              exact hT g29 g26 D0 d0 D1 d1 D2 d2 D3 d3 D4 d4 E0 t0 E1 t1 E2 t2 E3 t3 E4 t4 w39 (Lib.hid ⟨_, _, H29.out⟩)
            · obtain ⟨w40, hw40⟩ : ∃ X, World.alloc w37 (.cells #[.slice none 0 0, .slice none 0 0, .slice none 0 0, .slice none 0 0, .slice none 0 0] 36) = X := ⟨_, rfl⟩
              obtain ⟨g30, hg30⟩ : ∃ X, (World.heap w37).size = X := ⟨_, rfl⟩
              have H30 := Lib.hid (H27.out.m8 (BdP.on H27.out.a) (NoP.on H27.out.b))
              rw [hw40, hg30] at H30
              go_simp
              refine hK _ _ ⟨H30.out.pre, ?_⟩; clear hK K hw40 hg30
              try go_simp
              refine wpAnyH_one (i := 7) (by kernel_rfl) rfl (fun K hK => ?_)
              go_simp
              refine (cB.out _ H30.out.pre).mono ?_
              rintro e w41 hb
              obtain ⟨E0, t0, E1, t1, E2, t2, E3, t3, E4, t4, rfl, hN, hbl⟩ := hb.get
              have H31 := Lib.hid (H30.out.cB hbl (QB := BdP x gi sa sn ss sp sl n1 n2 n3 n4 n6 E0 t0 E1 t1 E2 t2 E3 t3 E4 t4) (BdP.on H30.out.a _ hbl) (fun l hl => by injection hl with hl; subst hl; exact hN))
              clear hb hN hbl
              go_simp
              refine hK _ _ ⟨H31.out.pre, ?_⟩; clear hK K
              try go_simp
              exact hT g30 g26 D0 d0 D1 d1 D2 d2 D3 d3 D4 d4 E0 t0 E1 t1 E2 t2 E3 t3 E4 t4 w41 (Lib.hid ⟨_, _, H31.out⟩)
          · obtain ⟨w42, hw42⟩ : ∃ X, World.alloc w36 (.cells #[.slice none 0 0, .slice none 0 0, .slice none 0 0, .slice none 0 0, .slice none 0 0] 36) = X := ⟨_, rfl⟩
            obtain ⟨g32, hg32⟩ : ∃ X, (World.heap w36).size = X := ⟨_, rfl⟩
            have H32 := Lib.hid (H26.out.m8 (NoP.on H26.out.a) (NoP.on H26.out.b))
            rw [hw42, hg32] at H32
            go_simp
            refine hK _ _ ⟨H32.out.pre, ?_⟩; clear hK K hw42 hg32
            try go_simp
            refine wpAnyH_one (i := 3) (by kernel_rfl) rfl (fun K hK => ?_)
            go_simp
            refine (cA.out _ H32.out.pre).mono ?_
            rintro e w43 hb
            obtain ⟨D0, d0, D1, d1, D2, d2, D3, d3, D4, d4, rfl, hN, hbl⟩ := hb.get
            have H33 := Lib.hid (H32.out.cA hbl (QA := BdP x gi sa sn ss sp sl n1 n2 n3 n4 n6 D0 d0 D1 d1 D2 d2 D3 d3 D4 d4) (fun l hl => by injection hl with hl; subst hl; exact hN) (NoP.on H32.out.b _ hbl))
            clear hb hN hbl
            go_simp
            refine hK _ _ ⟨H33.out.pre, ?_⟩; clear hK K
            try go_simp
            refine wpAnyH_one (i := 7) (by kernel_rfl) rfl (fun K hK => ?_)
            go_simp
            refine (cB.out _ H33.out.pre).mono ?_
            rintro e w44 hb
            obtain ⟨E0, t0, E1, t1, E2, t2, E3, t3, E4, t4, rfl, hN, hbl⟩ := hb.get
            have H34 := Lib.hid (H33.out.cB hbl (QB := BdP x gi sa sn ss sp sl n1 n2 n3 n4 n6 E0 t0 E1 t1 E2 t2 E3 t3 E4 t4) (BdP.on H33.out.a _ hbl) (fun l hl => by injection hl with hl; subst hl; exact hN))
            clear hb hN hbl
            go_simp
            refine hK _ _ ⟨H34.out.pre, ?_⟩; clear hK K
            try go_simp
            exact hT g32 g26 D0 d0 D1 d1 D2 d2 D3 d3 D4 d4 E0 t0 E1 t1 E2 t2 E3 t3 E4 t4 w44 (Lib.hid ⟨_, _, H34.out⟩)
      case tail =>
        intro ba bb D0 d0 D1 d1 D2 d2 D3 d3 D4 d4 E0 t0 E1 t1 E2 t2 E3 t3 E4 t4 w9 H9
        clear cA cB HQd
        obtain ⟨la, lb, h9⟩ := H9.out
        have hx := (h9.c8 ba rfl).1
        have hy := (h9.c9 bb rfl).1
        have hxs := (h9.c8 ba rfl).2
        have hys := (h9.c9 bb rfl).2
        have hne := h9.ne ba bb rfl rfl
        have hpre := h9.pre
        have hua := h9.a la rfl
        have hub := h9.b lb rfl
        have a8 := h9.a8 la ba rfl rfl
        have a9 := h9.a9 la bb rfl rfl
        have b8 := h9.b8 lb ba rfl rfl
        have b9 := h9.b9 lb bb rfl rfl
        clear h9 H9
        obtain ⟨wx, hwx⟩ : ∃ X, set5 w9 ba (.slice D0 (n1 + 1 + n4 + n2) d0) (.slice D1 (n1 + 1 + n4 + n2) d1) (.slice D2 (n1 + 1 + n4 + n2) d2) (.slice D3 (1 + (n6 - 1)) d3) (.slice D4 (n1 + n2 + n3) d4) = X := ⟨_, rfl⟩
        obtain ⟨wz, hwz⟩ : ∃ X, set5 wx bb (.slice E0 (n1 + 1 + n4 + n2) t0) (.slice E1 (n1 + 1 + n4 + n2) t1) (.slice E2 (n1 + 1 + n4 + n2) t2) (.slice E3 (1 + (n6 - 1)) t3) (.slice E4 (n1 + n2 + n3) t4) = X := ⟨_, rfl⟩
        have hkx : Kp (fun j => j = ba) w9 wx := by rw [← hwx]; exact kp_set5 _ _ _ _ _ _ _
        have hkz : Kp (fun j => j = bb) wx wz := by rw [← hwz]; exact kp_set5 _ _ _ _ _ _ _
        have hprx : Below w4.heap.size w4 wx := by rw [← hwx]; exact bl_set5 hpre hxs
        have hprz : Below w4.heap.size w4 wz := by rw [← hwz]; exact bl_set5 hprx hys
        have hcx : Cells wz ba [.slice D0 (n1 + 1 + n4 + n2) d0, .slice D1 (n1 + 1 + n4 + n2) d1, .slice D2 (n1 + 1 + n4 + n2) d2, .slice D3 (1 + (n6 - 1)) d3, .slice D4 (n1 + n2 + n3) d4] := Cells.kp (by rw [← hwx]; exact cells_set5 hx) hkz hne
        have hyx : Cells wx bb #[.slice none 0 0, .slice none 0 0, .slice none 0 0, .slice none 0 0, .slice none 0 0].toList := hy.kp hkx (fun e => hne e.symm)
        have hcy : Cells wz bb [.slice E0 (n1 + 1 + n4 + n2) t0, .slice E1 (n1 + 1 + n4 + n2) t1, .slice E2 (n1 + 1 + n4 + n2) t2, .slice E3 (1 + (n6 - 1)) t3, .slice E4 (n1 + n2 + n3) t4] := by rw [← hwz]; exact cells_set5 hyx
        have HA9 : Hid (BdR x gi sa sn ss sp sl n1 n2 n3 n4 n6 la.1 la.2 D0 d0 D1 d1 D2 d2 D3 d3 D4 d4 wz) := Lib.hid ((hua.kp hkx (fun j h1 h2 e => by subst e; omega)).kp hkz (fun j h1 h2 e => by subst e; omega))
        have HB9 : Hid (BdR x gi sa sn ss sp sl n1 n2 n3 n4 n6 lb.1 lb.2 E0 t0 E1 t1 E2 t2 E3 t3 E4 t4 wz) := Lib.hid ((hub.kp hkx (fun j h1 h2 e => by subst e; omega)).kp hkz (fun j h1 h2 e => by subst e; omega))
        have HCX := Lib.hid hcx
        have HCY := Lib.hid hcy
        have HPZ := Lib.hid hprz
        have HZX := Lib.hid hyx
        have x0 := hx.at_ 0 _ rfl
        have x1 := hx.at_ 1 _ rfl
        have x2 := hx.at_ 2 _ rfl
        have x3 := hx.at_ 3 _ rfl
        have x4 := hx.at_ 4 _ rfl
        have f0 := hx.fz 0 (by simp)
        have f1 := hx.fz 1 (by simp)
        have f2 := hx.fz 2 (by simp)
        have f3 := hx.fz 3 (by simp)
        have f4 := hx.fz 4 (by simp)
        have HWE := Lib.hid hwz
        clear hx hy hxs hys hua hub a8 a9 b8 b9 hkx hkz hcx hcy hyx hpre hprz hne hwz
        refine wpAnyH_one (i := 10) (by kernel_rfl) rfl (fun K hK => ?_)
        go_simp
        refine hK _ _ ⟨hprx, ?_⟩; clear hK K x0 x1 x2 x3 x4 f0 f1 f2 f3 f4 hwx
        have hwz := HWE.out
        have x0 := HZX.out.at_ 0 _ rfl
        have x1 := HZX.out.at_ 1 _ rfl
        have x2 := HZX.out.at_ 2 _ rfl
        have x3 := HZX.out.at_ 3 _ rfl
        have x4 := HZX.out.at_ 4 _ rfl
        have f0 := HZX.out.fz 0 (by simp)
        have f1 := HZX.out.fz 1 (by simp)
        have f2 := HZX.out.fz 2 (by simp)
        have f3 := HZX.out.fz 3 (by simp)
        have f4 := HZX.out.fz 4 (by simp)
        refine wpAnyH_one (i := 11) (by kernel_rfl) rfl (fun K hK => ?_)
        go_simp
        refine hK _ _ ⟨HPZ.out, ?_⟩; clear hK K x0 x1 x2 x3 x4 f0 f1 f2 f3 f4 hwz
        refine wpAnyH_done (by kernel_rfl) ?_ _
        try go_simp
        have kc0 : Hid (∀ W, Below wz.heap.size wz W → Calls Try.prog 10 #[.slice D0 (n1 + 1 + n4 + n2) d0, .slice E0 (n1 + 1 + n4 + n2) t0] W fun e w' => e = .returned (.bool true) ∧ Below W.heap.size W w') := Lib.hid fun W hW => codes_same (n1 + 1 + n4 + n2) d0 t0 D0 E0 (codeL x sa sn ss n1 n2) W ((HA9.out.on hW).read HBND.out).1 ((HB9.out.on hW).read HBND.out).1 (by have := HBND.out; omega)
        have kc1 : Hid (∀ W, Below wz.heap.size wz W → Calls Try.prog 11 #[.slice D1 (n1 + 1 + n4 + n2) d1, .slice E1 (n1 + 1 + n4 + n2) t1] W fun e w' => e = .returned (.bool true) ∧ Below W.heap.size W w') := Lib.hid fun W hW => ints_same (n1 + 1 + n4 + n2) d1 t1 D1 E1 (lineL x sl n1 n2 n4) W ((HA9.out.on hW).read HBND.out).2.1 ((HB9.out.on hW).read HBND.out).2.1 (by have := HBND.out; omega)
        have kc2 : Hid (∀ W, Below wz.heap.size wz W → Calls Try.prog 11 #[.slice D2 (n1 + 1 + n4 + n2) d2, .slice E2 (n1 + 1 + n4 + n2) t2] W fun e w' => e = .returned (.bool true) ∧ Below W.heap.size W w') := Lib.hid fun W hW => ints_same (n1 + 1 + n4 + n2) d2 t2 D2 E2 (atL x sn sp n1 n2 n4) W ((HA9.out.on hW).read HBND.out).2.2.1 ((HB9.out.on hW).read HBND.out).2.2.1 (by have := HBND.out; omega)
        have kc3 : Hid (∀ W, Below wz.heap.size wz W → Calls Try.prog 12 #[.slice D3 (1 + (n6 - 1)) d3, .slice E3 (1 + (n6 - 1)) t3] W fun e w' => e = .returned (.bool true) ∧ Below W.heap.size W w') := Lib.hid fun W hW => nodes_same (1 + (n6 - 1)) d3 t3 D3 E3 (nodeL x gi sa sn ss sp sl n1 n2 n3 n4) W ((HA9.out.on hW).read HBND.out).2.2.2.1 ((HB9.out.on hW).read HBND.out).2.2.2.1 (by have := HBND.out; omega)
        have kc4 : Hid (∀ W, Below wz.heap.size wz W → Calls Try.prog 13 #[.slice D4 (n1 + n2 + n3) d4, .slice E4 (n1 + n2 + n3) t4] W fun e w' => e = .returned (.bool true) ∧ Below W.heap.size W w') := Lib.hid fun W hW => types_same (n1 + n2 + n3) d4 t4 D4 E4 (x.params ++ x.results ++ x.locals) W ((HA9.out.on hW).read HBND.out).2.2.2.2 ((HB9.out.on hW).read HBND.out).2.2.2.2 (by have := HBND.out; omega)
        have HWZ : Hid (∀ W, Below wz.heap.size wz W → Below w4.heap.size w4 W) := Lib.hid fun W hW => HPZ.out.trans (hW.mono HPZ.out.size)
        have EQZ : Hid (∀ W, Below wz.heap.size wz W → (W.cell? ⟨g, 0, none⟩ = some (.string s) ∧ W.cell? ⟨g, 1, none⟩ = some (.bool b) ∧ W.cell? ⟨g, 2, none⟩ = some (.slice A0 n0 c0) ∧ W.cell? ⟨g, 3, none⟩ = some (.slice A1 n1 c1) ∧ W.cell? ⟨g, 4, none⟩ = some (.slice A2 n2 c2) ∧ W.cell? ⟨g, 5, none⟩ = some (.slice A3 n3 c3) ∧ W.cell? ⟨g, 6, none⟩ = some (.slice A4 n4 c4) ∧ W.cell? ⟨g, 7, none⟩ = some (.slice A5 n5 c5) ∧ W.cell? ⟨g, 8, none⟩ = some (.slice A6 n6 c6) ∧ W.cell? ⟨g, 9, none⟩ = some (.slice A7 n7 c7) ∧ W.cell? ⟨g, 10, none⟩ = some (.slice A8 n8 c8)) ∧ W.cell? ⟨g + 1, 0, none⟩ = some (.int .i64 sa) ∧ W.cell? ⟨g + 1, 1, none⟩ = some (.int .i64 sn) ∧ W.cell? ⟨g + 1, 2, none⟩ = some (.int .i64 ss) ∧ W.cell? ⟨g + 1, 3, none⟩ = some (.int .i64 sp) ∧ W.cell? ⟨g + 1, 4, none⟩ = some (.int .i64 sl)) := Lib.hid fun W hW => EQ4.out W (HWZ.out W hW)
        obtain ⟨lg, hlg⟩ : ∃ v : Int, ((n1 + 1 + n4 + n2 : Nat) : Int) = v := ⟨_, rfl⟩
        obtain ⟨ow, how⟩ : ∃ v : Int, ownM x (n1 + n2 + n3) = v := ⟨_, rfl⟩
        have kc5 : Hid (∀ W, Below wz.heap.size wz W → Calls Try.prog 14 #[.agg #[.string s, .bool b, .slice A0 n0 c0, .slice A1 n1 c1, .slice A2 n2 c2, .slice A3 n3 c3, .slice A4 n4 c4, .slice A5 n5 c5, .slice A6 n6 c6, .slice A7 n7 c7, .slice A8 n8 c8]] W fun e w' => e = .returned (.int .i64 lg) ∧ Below W.heap.size W w') := Lib.hid fun W hW => by rw [← hlg]; exact long_any s b A0 n0 c0 A1 n1 c1 A2 n2 c2 A3 n3 c3 A4 n4 c4 A5 n5 c5 A6 n6 c6 A7 n7 c7 A8 n8 c8 W (by have := HBND.out; omega) (by have := HBND.out; omega) (by have := HBND.out; omega)
        have kc6 : Hid (∀ W, Below wz.heap.size wz W → Calls Try.prog 15 #[.agg #[.string s, .bool b, .slice A0 n0 c0, .slice A1 n1 c1, .slice A2 n2 c2, .slice A3 n3 c3, .slice A4 n4 c4, .slice A5 n5 c5, .slice A6 n6 c6, .slice A7 n7 c7, .slice A8 n8 c8]] W fun e w' => e = .returned (.int .i64 lg) ∧ Below W.heap.size W w') := Lib.hid fun W hW => by rw [← hlg]; exact rlong_any s b A0 n0 c0 A1 n1 c1 A2 n2 c2 A3 n3 c3 A4 n4 c4 A5 n5 c5 A6 n6 c6 A7 n7 c7 A8 n8 c8 W (by have := HBND.out; omega) (by have := HBND.out; omega) (by have := HBND.out; omega)
        have kc7 : Hid (∀ W, Below wz.heap.size wz W → Calls Try.prog 16 #[.agg #[.string s, .bool b, .slice A0 n0 c0, .slice A1 n1 c1, .slice A2 n2 c2, .slice A3 n3 c3, .slice A4 n4 c4, .slice A5 n5 c5, .slice A6 n6 c6, .slice A7 n7 c7, .slice A8 n8 c8]] W fun e w' => e = .returned (.int .i64 ow) ∧ Below W.heap.size W w') := Lib.hid fun W hW => by rw [← how]; exact own_any s b A0 n0 c0 A1 n1 c1 A2 n2 c2 A3 n3 c3 A4 n4 c4 A5 n5 c5 A6 n6 c6 A7 n7 c7 A8 n8 c8 x W (HF4.out W (HWZ.out W hW))
        have kc8 : Hid (∀ W, Below wz.heap.size wz W → Calls Try.prog 17 #[.agg #[.string s, .bool b, .slice A0 n0 c0, .slice A1 n1 c1, .slice A2 n2 c2, .slice A3 n3 c3, .slice A4 n4 c4, .slice A5 n5 c5, .slice A6 n6 c6, .slice A7 n7 c7, .slice A8 n8 c8]] W fun e w' => e = .returned (.int .i64 ow) ∧ Below W.heap.size W w') := Lib.hid fun W hW => by rw [← how]; exact rown_any s b A0 n0 c0 A1 n1 c1 A2 n2 c2 A3 n3 c3 A4 n4 c4 A5 n5 c5 A6 n6 c6 A7 n7 c7 A8 n8 c8 x W (HF4.out W (HWZ.out W hW)) HTB.out
        have kc9 : Hid (∀ W, Below wz.heap.size wz W → Calls Try.prog 7 #[] W fun e w' => e = .returned (.bool true) ∧ Below W.heap.size W w') := Lib.hid fun W hW => splice_lives W
        have HFZ : Hid (∀ W, Below wz.heap.size wz W → Below w.heap.size w W) := Lib.hid fun W hW => HBW.out W (HC4.out.trans ((HWZ.out W hW).mono HC4.out.size))
        clear hlg how
        go_wp2_with fail
        refine wp_region_held (S := fun W => Below wz.heap.size wz W) (by kernel_rfl) ?_
        change wpAnyH _ _ _ _ _ _ _ _ (World.drew _)
        have hS0 : Below wz.heap.size wz wz.drew := (Below.refl _ _).drew
        refine wpAnyH_take (i := 0) (v := .pointer (some ⟨ba, 0, none⟩)) rfl (by kernel_rfl) (by kernel_rfl) (by kernel_rfl) (fun _ _ _ h => h) (Or.inl ⟨by rfl, by intro W hW; go_simp; try (first | (with_reducible rfl) | omega)⟩) hS0 ?_
        refine wpAnyH_take (i := 2) (v := .pointer (some ⟨bb, 0, none⟩)) rfl (by kernel_rfl) (by kernel_rfl) (by kernel_rfl) (fun _ _ _ h => h) (Or.inl ⟨by rfl, by intro W hW; go_simp; try (first | (with_reducible rfl) | omega)⟩) hS0 ?_
        try go_simp
        refine wpAnyH_take (i := 1) (v := .slice D0 (n1 + 1 + n4 + n2) d0) rfl (by kernel_rfl) (by kernel_rfl) (by kernel_rfl) (fun _ _ _ h => h) (Or.inl ⟨by rfl, by intro W hW; have hA := HCX.out.on hW; have z0 := hA.at_ 0 _ rfl; have z1 := hA.at_ 1 _ rfl; have z2 := hA.at_ 2 _ rfl; have z3 := hA.at_ 3 _ rfl; have z4 := hA.at_ 4 _ rfl; have hB := HCY.out.on hW; have y0 := hB.at_ 0 _ rfl; have y1 := hB.at_ 1 _ rfl; have y2 := hB.at_ 2 _ rfl; have y3 := hB.at_ 3 _ rfl; have y4 := hB.at_ 4 _ rfl; go_simp; try (first | (with_reducible rfl) | omega)⟩) hS0 ?_
        refine wpAnyH_take (i := 3) (v := .slice E0 (n1 + 1 + n4 + n2) t0) rfl (by kernel_rfl) (by kernel_rfl) (by kernel_rfl) (fun _ _ _ h => h) (Or.inl ⟨by rfl, by intro W hW; have hA := HCX.out.on hW; have z0 := hA.at_ 0 _ rfl; have z1 := hA.at_ 1 _ rfl; have z2 := hA.at_ 2 _ rfl; have z3 := hA.at_ 3 _ rfl; have z4 := hA.at_ 4 _ rfl; have hB := HCY.out.on hW; have y0 := hB.at_ 0 _ rfl; have y1 := hB.at_ 1 _ rfl; have y2 := hB.at_ 2 _ rfl; have y3 := hB.at_ 3 _ rfl; have y4 := hB.at_ 4 _ rfl; go_simp; try (first | (with_reducible rfl) | omega)⟩) hS0 ?_
        try go_simp
        refine wpAnyH_one (i := 4) (by kernel_rfl) rfl (fun K hK => ?_)
        go_simp
        refine (kc0.out _ hS0).mono ?_
        rintro e v1 ⟨rfl, hb1⟩
        have hS1 : Below wz.heap.size wz v1 := hS0.trans (hb1.mono hS0.size)
        clear hb1
        go_simp
        refine hK _ _ ⟨hS1, ?_⟩; clear hK K
        try go_simp
        refine wpAnyH_take (i := 5) (v := .bool true) rfl (by kernel_rfl) (by kernel_rfl) (by kernel_rfl) (fun _ _ _ h => h) (Or.inl ⟨by rfl, by intro W hW; go_simp; try (first | (with_reducible rfl) | omega)⟩) hS1 ?_
        try go_simp
        refine wpAnyH_take (i := 6) (v := .pointer (some ⟨ba, 1, none⟩)) rfl (by kernel_rfl) (by kernel_rfl) (by kernel_rfl) (fun _ _ _ h => h) (Or.inl ⟨by rfl, by intro W hW; go_simp; try (first | (with_reducible rfl) | omega)⟩) hS1 ?_
        refine wpAnyH_take (i := 8) (v := .pointer (some ⟨bb, 1, none⟩)) rfl (by kernel_rfl) (by kernel_rfl) (by kernel_rfl) (fun _ _ _ h => h) (Or.inl ⟨by rfl, by intro W hW; go_simp; try (first | (with_reducible rfl) | omega)⟩) hS1 ?_
        try go_simp
        refine wpAnyH_take (i := 7) (v := .slice D1 (n1 + 1 + n4 + n2) d1) rfl (by kernel_rfl) (by kernel_rfl) (by kernel_rfl) (fun _ _ _ h => h) (Or.inl ⟨by rfl, by intro W hW; have hA := HCX.out.on hW; have z0 := hA.at_ 0 _ rfl; have z1 := hA.at_ 1 _ rfl; have z2 := hA.at_ 2 _ rfl; have z3 := hA.at_ 3 _ rfl; have z4 := hA.at_ 4 _ rfl; have hB := HCY.out.on hW; have y0 := hB.at_ 0 _ rfl; have y1 := hB.at_ 1 _ rfl; have y2 := hB.at_ 2 _ rfl; have y3 := hB.at_ 3 _ rfl; have y4 := hB.at_ 4 _ rfl; go_simp; try (first | (with_reducible rfl) | omega)⟩) hS1 ?_
        refine wpAnyH_take (i := 9) (v := .slice E1 (n1 + 1 + n4 + n2) t1) rfl (by kernel_rfl) (by kernel_rfl) (by kernel_rfl) (fun _ _ _ h => h) (Or.inl ⟨by rfl, by intro W hW; have hA := HCX.out.on hW; have z0 := hA.at_ 0 _ rfl; have z1 := hA.at_ 1 _ rfl; have z2 := hA.at_ 2 _ rfl; have z3 := hA.at_ 3 _ rfl; have z4 := hA.at_ 4 _ rfl; have hB := HCY.out.on hW; have y0 := hB.at_ 0 _ rfl; have y1 := hB.at_ 1 _ rfl; have y2 := hB.at_ 2 _ rfl; have y3 := hB.at_ 3 _ rfl; have y4 := hB.at_ 4 _ rfl; go_simp; try (first | (with_reducible rfl) | omega)⟩) hS1 ?_
        try go_simp
        refine wpAnyH_one (i := 10) (by kernel_rfl) rfl (fun K hK => ?_)
        go_simp
        refine (kc1.out _ hS1).mono ?_
        rintro e v2 ⟨rfl, hb2⟩
        have hS2 : Below wz.heap.size wz v2 := hS1.trans (hb2.mono hS1.size)
        clear hb2
        go_simp
        refine hK _ _ ⟨hS2, ?_⟩; clear hK K
        try go_simp
        refine wpAnyH_take (i := 11) (v := .bool true) rfl (by kernel_rfl) (by kernel_rfl) (by kernel_rfl) (fun _ _ _ h => h) (Or.inl ⟨by rfl, by intro W hW; go_simp; try (first | (with_reducible rfl) | omega)⟩) hS2 ?_
        try go_simp
        refine wpAnyH_take (i := 12) (v := .bool true) rfl (by kernel_rfl) (by kernel_rfl) (by kernel_rfl) (fun _ _ _ h => h) (Or.inl ⟨by rfl, by intro W hW; go_simp; try (first | (with_reducible rfl) | omega)⟩) hS2 ?_
        try go_simp
        refine wpAnyH_take (i := 13) (v := .pointer (some ⟨ba, 2, none⟩)) rfl (by kernel_rfl) (by kernel_rfl) (by kernel_rfl) (fun _ _ _ h => h) (Or.inl ⟨by rfl, by intro W hW; go_simp; try (first | (with_reducible rfl) | omega)⟩) hS2 ?_
        refine wpAnyH_take (i := 15) (v := .pointer (some ⟨bb, 2, none⟩)) rfl (by kernel_rfl) (by kernel_rfl) (by kernel_rfl) (fun _ _ _ h => h) (Or.inl ⟨by rfl, by intro W hW; go_simp; try (first | (with_reducible rfl) | omega)⟩) hS2 ?_
        try go_simp
        refine wpAnyH_take (i := 14) (v := .slice D2 (n1 + 1 + n4 + n2) d2) rfl (by kernel_rfl) (by kernel_rfl) (by kernel_rfl) (fun _ _ _ h => h) (Or.inl ⟨by rfl, by intro W hW; have hA := HCX.out.on hW; have z0 := hA.at_ 0 _ rfl; have z1 := hA.at_ 1 _ rfl; have z2 := hA.at_ 2 _ rfl; have z3 := hA.at_ 3 _ rfl; have z4 := hA.at_ 4 _ rfl; have hB := HCY.out.on hW; have y0 := hB.at_ 0 _ rfl; have y1 := hB.at_ 1 _ rfl; have y2 := hB.at_ 2 _ rfl; have y3 := hB.at_ 3 _ rfl; have y4 := hB.at_ 4 _ rfl; go_simp; try (first | (with_reducible rfl) | omega)⟩) hS2 ?_
        refine wpAnyH_take (i := 16) (v := .slice E2 (n1 + 1 + n4 + n2) t2) rfl (by kernel_rfl) (by kernel_rfl) (by kernel_rfl) (fun _ _ _ h => h) (Or.inl ⟨by rfl, by intro W hW; have hA := HCX.out.on hW; have z0 := hA.at_ 0 _ rfl; have z1 := hA.at_ 1 _ rfl; have z2 := hA.at_ 2 _ rfl; have z3 := hA.at_ 3 _ rfl; have z4 := hA.at_ 4 _ rfl; have hB := HCY.out.on hW; have y0 := hB.at_ 0 _ rfl; have y1 := hB.at_ 1 _ rfl; have y2 := hB.at_ 2 _ rfl; have y3 := hB.at_ 3 _ rfl; have y4 := hB.at_ 4 _ rfl; go_simp; try (first | (with_reducible rfl) | omega)⟩) hS2 ?_
        try go_simp
        refine wpAnyH_one (i := 17) (by kernel_rfl) rfl (fun K hK => ?_)
        go_simp
        refine (kc2.out _ hS2).mono ?_
        rintro e v3 ⟨rfl, hb3⟩
        have hS3 : Below wz.heap.size wz v3 := hS2.trans (hb3.mono hS2.size)
        clear hb3
        go_simp
        refine hK _ _ ⟨hS3, ?_⟩; clear hK K
        try go_simp
        refine wpAnyH_take (i := 18) (v := .bool true) rfl (by kernel_rfl) (by kernel_rfl) (by kernel_rfl) (fun _ _ _ h => h) (Or.inl ⟨by rfl, by intro W hW; go_simp; try (first | (with_reducible rfl) | omega)⟩) hS3 ?_
        try go_simp
        refine wpAnyH_take (i := 19) (v := .bool true) rfl (by kernel_rfl) (by kernel_rfl) (by kernel_rfl) (fun _ _ _ h => h) (Or.inl ⟨by rfl, by intro W hW; go_simp; try (first | (with_reducible rfl) | omega)⟩) hS3 ?_
        try go_simp
        refine wpAnyH_take (i := 20) (v := .pointer (some ⟨ba, 3, none⟩)) rfl (by kernel_rfl) (by kernel_rfl) (by kernel_rfl) (fun _ _ _ h => h) (Or.inl ⟨by rfl, by intro W hW; go_simp; try (first | (with_reducible rfl) | omega)⟩) hS3 ?_
        refine wpAnyH_take (i := 22) (v := .pointer (some ⟨bb, 3, none⟩)) rfl (by kernel_rfl) (by kernel_rfl) (by kernel_rfl) (fun _ _ _ h => h) (Or.inl ⟨by rfl, by intro W hW; go_simp; try (first | (with_reducible rfl) | omega)⟩) hS3 ?_
        try go_simp
        refine wpAnyH_take (i := 21) (v := .slice D3 (1 + (n6 - 1)) d3) rfl (by kernel_rfl) (by kernel_rfl) (by kernel_rfl) (fun _ _ _ h => h) (Or.inl ⟨by rfl, by intro W hW; have hA := HCX.out.on hW; have z0 := hA.at_ 0 _ rfl; have z1 := hA.at_ 1 _ rfl; have z2 := hA.at_ 2 _ rfl; have z3 := hA.at_ 3 _ rfl; have z4 := hA.at_ 4 _ rfl; have hB := HCY.out.on hW; have y0 := hB.at_ 0 _ rfl; have y1 := hB.at_ 1 _ rfl; have y2 := hB.at_ 2 _ rfl; have y3 := hB.at_ 3 _ rfl; have y4 := hB.at_ 4 _ rfl; go_simp; try (first | (with_reducible rfl) | omega)⟩) hS3 ?_
        refine wpAnyH_take (i := 23) (v := .slice E3 (1 + (n6 - 1)) t3) rfl (by kernel_rfl) (by kernel_rfl) (by kernel_rfl) (fun _ _ _ h => h) (Or.inl ⟨by rfl, by intro W hW; have hA := HCX.out.on hW; have z0 := hA.at_ 0 _ rfl; have z1 := hA.at_ 1 _ rfl; have z2 := hA.at_ 2 _ rfl; have z3 := hA.at_ 3 _ rfl; have z4 := hA.at_ 4 _ rfl; have hB := HCY.out.on hW; have y0 := hB.at_ 0 _ rfl; have y1 := hB.at_ 1 _ rfl; have y2 := hB.at_ 2 _ rfl; have y3 := hB.at_ 3 _ rfl; have y4 := hB.at_ 4 _ rfl; go_simp; try (first | (with_reducible rfl) | omega)⟩) hS3 ?_
        try go_simp
        refine wpAnyH_one (i := 24) (by kernel_rfl) rfl (fun K hK => ?_)
        go_simp
        refine (kc3.out _ hS3).mono ?_
        rintro e v4 ⟨rfl, hb4⟩
        have hS4 : Below wz.heap.size wz v4 := hS3.trans (hb4.mono hS3.size)
        clear hb4
        go_simp
        refine hK _ _ ⟨hS4, ?_⟩; clear hK K
        try go_simp
        refine wpAnyH_take (i := 25) (v := .bool true) rfl (by kernel_rfl) (by kernel_rfl) (by kernel_rfl) (fun _ _ _ h => h) (Or.inl ⟨by rfl, by intro W hW; go_simp; try (first | (with_reducible rfl) | omega)⟩) hS4 ?_
        try go_simp
        refine wpAnyH_take (i := 26) (v := .bool true) rfl (by kernel_rfl) (by kernel_rfl) (by kernel_rfl) (fun _ _ _ h => h) (Or.inl ⟨by rfl, by intro W hW; go_simp; try (first | (with_reducible rfl) | omega)⟩) hS4 ?_
        try go_simp
        refine wpAnyH_take (i := 27) (v := .pointer (some ⟨ba, 4, none⟩)) rfl (by kernel_rfl) (by kernel_rfl) (by kernel_rfl) (fun _ _ _ h => h) (Or.inl ⟨by rfl, by intro W hW; go_simp; try (first | (with_reducible rfl) | omega)⟩) hS4 ?_
        refine wpAnyH_take (i := 29) (v := .pointer (some ⟨bb, 4, none⟩)) rfl (by kernel_rfl) (by kernel_rfl) (by kernel_rfl) (fun _ _ _ h => h) (Or.inl ⟨by rfl, by intro W hW; go_simp; try (first | (with_reducible rfl) | omega)⟩) hS4 ?_
        try go_simp
        refine wpAnyH_take (i := 28) (v := .slice D4 (n1 + n2 + n3) d4) rfl (by kernel_rfl) (by kernel_rfl) (by kernel_rfl) (fun _ _ _ h => h) (Or.inl ⟨by rfl, by intro W hW; have hA := HCX.out.on hW; have z0 := hA.at_ 0 _ rfl; have z1 := hA.at_ 1 _ rfl; have z2 := hA.at_ 2 _ rfl; have z3 := hA.at_ 3 _ rfl; have z4 := hA.at_ 4 _ rfl; have hB := HCY.out.on hW; have y0 := hB.at_ 0 _ rfl; have y1 := hB.at_ 1 _ rfl; have y2 := hB.at_ 2 _ rfl; have y3 := hB.at_ 3 _ rfl; have y4 := hB.at_ 4 _ rfl; go_simp; try (first | (with_reducible rfl) | omega)⟩) hS4 ?_
        refine wpAnyH_take (i := 30) (v := .slice E4 (n1 + n2 + n3) t4) rfl (by kernel_rfl) (by kernel_rfl) (by kernel_rfl) (fun _ _ _ h => h) (Or.inl ⟨by rfl, by intro W hW; have hA := HCX.out.on hW; have z0 := hA.at_ 0 _ rfl; have z1 := hA.at_ 1 _ rfl; have z2 := hA.at_ 2 _ rfl; have z3 := hA.at_ 3 _ rfl; have z4 := hA.at_ 4 _ rfl; have hB := HCY.out.on hW; have y0 := hB.at_ 0 _ rfl; have y1 := hB.at_ 1 _ rfl; have y2 := hB.at_ 2 _ rfl; have y3 := hB.at_ 3 _ rfl; have y4 := hB.at_ 4 _ rfl; go_simp; try (first | (with_reducible rfl) | omega)⟩) hS4 ?_
        try go_simp
        refine wpAnyH_one (i := 31) (by kernel_rfl) rfl (fun K hK => ?_)
        go_simp
        refine (kc4.out _ hS4).mono ?_
        rintro e v5 ⟨rfl, hb5⟩
        have hS5 : Below wz.heap.size wz v5 := hS4.trans (hb5.mono hS4.size)
        clear hb5
        go_simp
        refine hK _ _ ⟨hS5, ?_⟩; clear hK K
        try go_simp
        refine wpAnyH_take (i := 32) (v := .bool true) rfl (by kernel_rfl) (by kernel_rfl) (by kernel_rfl) (fun _ _ _ h => h) (Or.inl ⟨by rfl, by intro W hW; go_simp; try (first | (with_reducible rfl) | omega)⟩) hS5 ?_
        try go_simp
        refine wpAnyH_take (i := 33) (v := .bool true) rfl (by kernel_rfl) (by kernel_rfl) (by kernel_rfl) (fun _ _ _ h => h) (Or.inl ⟨by rfl, by intro W hW; go_simp; try (first | (with_reducible rfl) | omega)⟩) hS5 ?_
        try go_simp
        refine wpAnyH_take (i := 34) (v := .agg #[.string s, .bool b, .slice A0 n0 c0, .slice A1 n1 c1, .slice A2 n2 c2, .slice A3 n3 c3, .slice A4 n4 c4, .slice A5 n5 c5, .slice A6 n6 c6, .slice A7 n7 c7, .slice A8 n8 c8]) rfl (by kernel_rfl) (by kernel_rfl) (by kernel_rfl) (fun _ _ _ h => h) (Or.inl ⟨by rfl, by intro W hW; obtain ⟨⟨e0, e1, e2, e3, e4, e5, e6, e7, e8, e9, e10⟩, b0, b1, b2, b3, b4⟩ := EQZ.out W hW; go_simp; try (first | (with_reducible rfl) | omega)⟩) hS5 ?_
        refine wpAnyH_take (i := 36) (v := .agg #[.string s, .bool b, .slice A0 n0 c0, .slice A1 n1 c1, .slice A2 n2 c2, .slice A3 n3 c3, .slice A4 n4 c4, .slice A5 n5 c5, .slice A6 n6 c6, .slice A7 n7 c7, .slice A8 n8 c8]) rfl (by kernel_rfl) (by kernel_rfl) (by kernel_rfl) (fun _ _ _ h => h) (Or.inl ⟨by rfl, by intro W hW; obtain ⟨⟨e0, e1, e2, e3, e4, e5, e6, e7, e8, e9, e10⟩, b0, b1, b2, b3, b4⟩ := EQZ.out W hW; go_simp; try (first | (with_reducible rfl) | omega)⟩) hS5 ?_
        try go_simp
        refine wpAnyH_one (i := 35) (by kernel_rfl) rfl (fun K hK => ?_)
        go_simp
        refine (kc5.out _ hS5).mono ?_
        rintro e v6 ⟨rfl, hb6⟩
        have hS6 : Below wz.heap.size wz v6 := hS5.trans (hb6.mono hS5.size)
        clear hb6
        go_simp
        refine hK _ _ ⟨hS6, ?_⟩; clear hK K
        try go_simp
        refine wpAnyH_one (i := 37) (by kernel_rfl) rfl (fun K hK => ?_)
        go_simp
        refine (kc6.out _ hS6).mono ?_
        rintro e v7 ⟨rfl, hb7⟩
        have hS7 : Below wz.heap.size wz v7 := hS6.trans (hb7.mono hS6.size)
        clear hb7
        go_simp
        refine hK _ _ ⟨hS7, ?_⟩; clear hK K
        try go_simp
        refine wpAnyH_take (i := 38) (v := .bool true) rfl (by kernel_rfl) (by kernel_rfl) (by kernel_rfl) (fun _ _ _ h => h) (Or.inl ⟨by rfl, by intro W hW; go_simp; try (first | (with_reducible rfl) | omega)⟩) hS7 ?_
        try go_simp
        refine wpAnyH_take (i := 39) (v := .bool true) rfl (by kernel_rfl) (by kernel_rfl) (by kernel_rfl) (fun _ _ _ h => h) (Or.inl ⟨by rfl, by intro W hW; go_simp; try (first | (with_reducible rfl) | omega)⟩) hS7 ?_
        try go_simp
        refine wpAnyH_take (i := 40) (v := .bool true) rfl (by kernel_rfl) (by kernel_rfl) (by kernel_rfl) (fun _ _ _ h => h) (Or.inl ⟨by rfl, by intro W hW; go_simp; try (first | (with_reducible rfl) | omega)⟩) hS7 ?_
        try go_simp
        refine wpAnyH_take (i := 41) (v := .agg #[.string s, .bool b, .slice A0 n0 c0, .slice A1 n1 c1, .slice A2 n2 c2, .slice A3 n3 c3, .slice A4 n4 c4, .slice A5 n5 c5, .slice A6 n6 c6, .slice A7 n7 c7, .slice A8 n8 c8]) rfl (by kernel_rfl) (by kernel_rfl) (by kernel_rfl) (fun _ _ _ h => h) (Or.inl ⟨by rfl, by intro W hW; obtain ⟨⟨e0, e1, e2, e3, e4, e5, e6, e7, e8, e9, e10⟩, b0, b1, b2, b3, b4⟩ := EQZ.out W hW; go_simp; try (first | (with_reducible rfl) | omega)⟩) hS7 ?_
        refine wpAnyH_take (i := 43) (v := .agg #[.string s, .bool b, .slice A0 n0 c0, .slice A1 n1 c1, .slice A2 n2 c2, .slice A3 n3 c3, .slice A4 n4 c4, .slice A5 n5 c5, .slice A6 n6 c6, .slice A7 n7 c7, .slice A8 n8 c8]) rfl (by kernel_rfl) (by kernel_rfl) (by kernel_rfl) (fun _ _ _ h => h) (Or.inl ⟨by rfl, by intro W hW; obtain ⟨⟨e0, e1, e2, e3, e4, e5, e6, e7, e8, e9, e10⟩, b0, b1, b2, b3, b4⟩ := EQZ.out W hW; go_simp; try (first | (with_reducible rfl) | omega)⟩) hS7 ?_
        try go_simp
        refine wpAnyH_one (i := 42) (by kernel_rfl) rfl (fun K hK => ?_)
        go_simp
        refine (kc7.out _ hS7).mono ?_
        rintro e v8 ⟨rfl, hb8⟩
        have hS8 : Below wz.heap.size wz v8 := hS7.trans (hb8.mono hS7.size)
        clear hb8
        go_simp
        refine hK _ _ ⟨hS8, ?_⟩; clear hK K
        try go_simp
        refine wpAnyH_one (i := 44) (by kernel_rfl) rfl (fun K hK => ?_)
        go_simp
        refine (kc8.out _ hS8).mono ?_
        rintro e v9 ⟨rfl, hb9⟩
        have hS9 : Below wz.heap.size wz v9 := hS8.trans (hb9.mono hS8.size)
        clear hb9
        go_simp
        refine hK _ _ ⟨hS9, ?_⟩; clear hK K
        try go_simp
        refine wpAnyH_take (i := 45) (v := .bool true) rfl (by kernel_rfl) (by kernel_rfl) (by kernel_rfl) (fun _ _ _ h => h) (Or.inl ⟨by rfl, by intro W hW; go_simp; try (first | (with_reducible rfl) | omega)⟩) hS9 ?_
        try go_simp
        refine wpAnyH_take (i := 46) (v := .bool true) rfl (by kernel_rfl) (by kernel_rfl) (by kernel_rfl) (fun _ _ _ h => h) (Or.inl ⟨by rfl, by intro W hW; go_simp; try (first | (with_reducible rfl) | omega)⟩) hS9 ?_
        try go_simp
        refine wpAnyH_take (i := 47) (v := .bool true) rfl (by kernel_rfl) (by kernel_rfl) (by kernel_rfl) (fun _ _ _ h => h) (Or.inl ⟨by rfl, by intro W hW; go_simp; try (first | (with_reducible rfl) | omega)⟩) hS9 ?_
        try go_simp
        refine wpAnyH_one (i := 48) (by kernel_rfl) rfl (fun K hK => ?_)
        go_simp
        refine (kc9.out _ hS9).mono ?_
        rintro e v10 ⟨rfl, hb10⟩
        have hS10 : Below wz.heap.size wz v10 := hS9.trans (hb10.mono hS9.size)
        clear hb10
        go_simp
        refine hK _ _ ⟨hS10, ?_⟩; clear hK K
        try go_simp
        refine wpAnyH_take (i := 49) (v := .bool true) rfl (by kernel_rfl) (by kernel_rfl) (by kernel_rfl) (fun _ _ _ h => h) (Or.inl ⟨by rfl, by intro W hW; go_simp; try (first | (with_reducible rfl) | omega)⟩) hS10 ?_
        try go_simp
        refine wpAnyH_one (i := 50) (by kernel_rfl) rfl (fun K hK => ?_)
        go_simp
        refine hK _ _ ⟨hS10, ?_⟩; clear hK K
        try go_simp
        refine wpAnyH_done (by kernel_rfl) ?_ _
        try go_simp
        go_wp2_with fail
        go_ret
        exact ⟨rfl, HFZ.out _ hS10⟩
    · have t0 : (r != 0) = true := by simpa using hr
      clear hr
      go_wp2_with fail
      refine (hcl.out w4 HC4.out).mono ?_
      rintro e w5 ⟨rfl, hb5⟩
      go_wp2_with fail
      go_ret
      exact ⟨rfl, hb5⟩
end Go.Proofs.Ythfdmpcnebjkjaa
