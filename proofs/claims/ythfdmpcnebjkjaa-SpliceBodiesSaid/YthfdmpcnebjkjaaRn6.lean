/-
  Other numbers: the nodes of a tree.
-/
import Derived.Test.YthfdmpcnebjkjaaSp0
import Derived.Test.YthfdmpcnebjkjaaSpT
namespace Go.Proofs.Ythfdmpcnebjkjaa
open Go.RowKit
set_option linter.unusedSimpArgs false
set_option linter.unusedVariables false

def cellsN (x : DNode) : List Value := [.int .i64 x.parent, .int .i64 x.fn, .int .i64 x.line, .int .i64 x.from_, .int .i64 x.args, .int .i64 x.to_, .int .i64 x.resume]
abbrev SlN (w : World) (B : Nat) (A : Option Addr) (n c : Nat) (xs : List DNode) : Prop := SlR 7 56 (RC cellsN) w B A n c xs
theorem sln_of {w : World} {B : Nat} {A : Option Addr} {n c : Nat} {xs : List DNode} (h : SlR 7 56 RNode w B A n c xs) : SlN w B A n c xs := h.imp fun cs x _ hr => hr.1
theorem sln_at {w : World} {B : Nat} {A : Option Addr} {n c : Nat} {xs : List DNode} (h : SlN w B A n c xs) {k : Nat} (hk : k < n) : ∃ b off x, A = some ⟨b, off, none⟩ ∧ b < B ∧ xs[k]? = some x ∧ w.cell? ⟨b, off + k * 7, none⟩ = some (.int .i64 x.parent) ∧ w.cell? ⟨b, off + k * 7 + 1, none⟩ = some (.int .i64 x.fn) ∧ w.cell? ⟨b, off + k * 7 + 2, none⟩ = some (.int .i64 x.line) ∧ w.cell? ⟨b, off + k * 7 + 3, none⟩ = some (.int .i64 x.from_) ∧ w.cell? ⟨b, off + k * 7 + 4, none⟩ = some (.int .i64 x.args) ∧ w.cell? ⟨b, off + k * 7 + 5, none⟩ = some (.int .i64 x.to_) ∧ w.cell? ⟨b, off + k * 7 + 6, none⟩ = some (.int .i64 x.resume) := by
  obtain ⟨b, off, x, cs, hA, hb, hx, _, hc, hr⟩ := h.at_ hk
  unfold RC at hr
  subst hr
  exact ⟨b, off, x, hA, hb, hx, by simpa using hc 0 _ rfl, by simpa [Nat.add_assoc] using hc 1 _ rfl, by simpa [Nat.add_assoc] using hc 2 _ rfl, by simpa [Nat.add_assoc] using hc 3 _ rfl, by simpa [Nat.add_assoc] using hc 4 _ rfl, by simpa [Nat.add_assoc] using hc 5 _ rfl, by simpa [Nat.add_assoc] using hc 6 _ rfl⟩
theorem SlN.on {w w' : World} {A : Option Addr} {n c : Nat} {xs : List DNode} (h : SlN w w.heap.size A n c xs) (hb : Below w.heap.size w w') : SlN w' w'.heap.size A n c xs := (SlR.keep (stable_rc _) h fun p hp => hb.cell hp).more hb.size
theorem info_node : (Try.prog.info? 58).map (fun i => (i.zero, i.size, i.bytes)) = some (some (.agg #[.int .i64 0, .int .i64 0, .int .i64 0, .int .i64 0, .int .i64 0, .int .i64 0, .int .i64 0]), 7, 56) := by kernel_rfl
def nodeM (a b d : Int) (x : DNode) : DNode := { x with parent := wrap64 (x.parent + a), from_ := wrap64 (x.from_ + b), to_ := wrap64 (x.to_ + b), resume := wrap64 (x.resume + d) }
def treeM (a b d : Int) (xs : List DNode) : List DNode := (xs.drop 1).map (nodeM a b d)
def IsN (n : Nat) (ys : List DNode) (w : World) (e : Ending) (w' : World) : Prop := ∃ A c, e = .returned (.slice A n c) ∧ SlN w' w'.heap.size A n c ys ∧ Below w.heap.size w w'
theorem src_node (w : World) (cs : Array Value) (h : cs.size = 7) : SrcCells (w.alloc (.cells cs 58)) (some ⟨w.heap.size, 0, none⟩) 1 7 cs.toList :=
  own_src (World.ownsRow_lit (base := w.heap.size) (e := 58) (size := 7) w cs 1 (Nat.le_refl _) (by unfold maxLen; omega) (by omega))
theorem app_node {w wr W w3 : World} {k c : Nat} {A : Option Addr} {l news : List Value} {v' : Value} (hb : Below w.heap.size w W) (hz : w.heap.size ≤ W.heap.size) (hown : wr.ownsRow w.heap.size 58 7 (.slice A k c) k l)
    (hown' : w3.ownsRow w.heap.size 58 7 v' (k + 1) (l ++ news)) (hgrow : W.grownBy w3 (Value.slice A k c).ownBlock) :
    ∃ A' c', v' = .slice A' (k + 1) c' ∧ w3.ownsRow w.heap.size 58 7 (.slice A' (k + 1) c') (k + 1) (l ++ news) ∧ Below w.heap.size w w3 ∧ w.heap.size ≤ w3.heap.size := by
  obtain ⟨A', c', hv, _⟩ := own_form hown'
  subst hv
  exact ⟨A', c', rfl, hown', Below.grown hb hgrow hz (fun j hj => (hown.lt _ hj).1), Nat.le_trans hz hgrow.size⟩

set_option maxRecDepth 100000 in
set_option maxHeartbeats 2000000 in
theorem tree_any (n c : Nat) (A : Option Addr) (xs : List DNode) (a b d : Int) (w : World) (h : SlN w w.heap.size A n c xs) (hn : n ≤ 1000) :
    Calls Try.prog 26 #[.slice A n c, .int .i64 a, .int .i64 b, .int .i64 d] w (IsN (n - 1) (treeM a b d xs) w) := by
  obtain ⟨i0, hi, hz0, hz1, hz2⟩ := info_parts info_node
  have H := Lib.hid h
  have HLn := Lib.hid h.1
  clear h
  go_enter Try.func26, Try.ntmps26
  go_wp2_with fail
  go_loopw [9, 10] (fun o i wr => ∃ (k j : Nat) (A1 : Option Addr) (cc : Nat), o = .slice A1 k cc ∧ i = .int .i64 j ∧ Hid (j = k + 1) ∧ k ≤ n - 1 ∧ Hid (wr.ownsRow w.heap.size 58 7 (.slice A1 k cc) k (((treeM a b d xs).take k).flatMap cellsN)) ∧ Hid (Below w.heap.size w wr) ∧ Hid (w.heap.size ≤ wr.heap.size)) (fun _ i _ => n - (intOf i).toNat)
  case atStart => exact ⟨0, 1, none, 0, rfl, rfl, rfl, Nat.zero_le _, Lib.hid (World.ownsRow_nil _ _ _ _), Lib.hid (Below.refl _ _), Lib.hid (Nat.le_refl _)⟩
  case round =>
    obtain ⟨k, j, A1, cc, rfl, rfl, hj, hk, ho, hb, hz⟩ := hrel
    by_cases hlt : j < n
    · obtain ⟨bb, off, x, rfl, hbB, hx, r0, r1, r2, r3, r4, r5, r6⟩ := sln_at H.out hlt
      have q0 : wr.cell? ⟨bb, off + j * 7, none⟩ = some (.int .i64 x.parent) := (hb.out.cell (by show bb < _; exact hbB)).trans r0
      have q1 : wr.cell? ⟨bb, off + j * 7 + 1, none⟩ = some (.int .i64 x.fn) := (hb.out.cell (by show bb < _; exact hbB)).trans r1
      have q2 : wr.cell? ⟨bb, off + j * 7 + 2, none⟩ = some (.int .i64 x.line) := (hb.out.cell (by show bb < _; exact hbB)).trans r2
      have q3 : wr.cell? ⟨bb, off + j * 7 + 3, none⟩ = some (.int .i64 x.from_) := (hb.out.cell (by show bb < _; exact hbB)).trans r3
      have q4 : wr.cell? ⟨bb, off + j * 7 + 4, none⟩ = some (.int .i64 x.args) := (hb.out.cell (by show bb < _; exact hbB)).trans r4
      have q5 : wr.cell? ⟨bb, off + j * 7 + 5, none⟩ = some (.int .i64 x.to_) := (hb.out.cell (by show bb < _; exact hbB)).trans r5
      have q6 : wr.cell? ⟨bb, off + j * 7 + 6, none⟩ = some (.int .i64 x.resume) := (hb.out.cell (by show bb < _; exact hbB)).trans r6
      have hy : (treeM a b d xs)[k]? = some (nodeM a b d x) := by
        unfold treeM
        rw [List.getElem?_map, List.getElem?_drop, Nat.add_comm 1 k, ← hj.out, hx]
        rfl
      have hsn := Lib.hid (flatMap_snoc cellsN _ k _ hy)
      have hj0 : (0 : Int) ≤ (j : Int) := by omega
      have hjn : (j : Int) < (n : Int) := by omega
      obtain ⟨x0, x1, x2, x3, x4, x5, x6⟩ := x
      have hsn : Hid (List.flatMap cellsN (List.take k (treeM a b d xs)) ++ [Value.int .i64 (wrap64 (x0 + a)), .int .i64 x1, .int .i64 x2, .int .i64 (wrap64 (x3 + b)), .int .i64 x4, .int .i64 (wrap64 (x5 + b)), .int .i64 (wrap64 (x6 + d))] = List.flatMap cellsN (List.take (k + 1) (treeM a b d xs))) := hsn
      simp only at q0 q1 q2 q3 q4 q5 q6
      clear hx hy hbB r0 r1 r2 r3 r4 r5 r6
      have hown := Lib.hid ((ho.out.alloc (.cells #[Value.int .i64 (wrap64 (x0 + a)), .int .i64 x1, .int .i64 x2, .int .i64 (wrap64 (x3 + b)), .int .i64 x4, .int .i64 (wrap64 (x5 + b)), .int .i64 (wrap64 (x6 + d))] 58)).alloc (.cells #[Value.int .i64 (wrap64 (x0 + a)), .int .i64 x1, .int .i64 x2, .int .i64 (wrap64 (x3 + b)), .int .i64 x4, .int .i64 (wrap64 (x5 + b)), .int .i64 (wrap64 (x6 + d))] 58))
      have hsrc := Lib.hid (src_node (wr.alloc (.cells #[Value.int .i64 (wrap64 (x0 + a)), .int .i64 x1, .int .i64 x2, .int .i64 (wrap64 (x3 + b)), .int .i64 x4, .int .i64 (wrap64 (x5 + b)), .int .i64 (wrap64 (x6 + d))] 58)) #[Value.int .i64 (wrap64 (x0 + a)), .int .i64 x1, .int .i64 x2, .int .i64 (wrap64 (x3 + b)), .int .i64 x4, .int .i64 (wrap64 (x5 + b)), .int .i64 (wrap64 (x6 + d))] rfl)
      have hz9 : (wr.alloc (.cells #[Value.int .i64 (wrap64 (x0 + a)), .int .i64 x1, .int .i64 x2, .int .i64 (wrap64 (x3 + b)), .int .i64 x4, .int .i64 (wrap64 (x5 + b)), .int .i64 (wrap64 (x6 + d))] 58)).heap.size = wr.heap.size + 1 := by simp
      rw [hz9] at hsrc
      have hone : Hid (∀ u ∈ [Value.int .i64 (wrap64 (x0 + a)), .int .i64 x1, .int .i64 x2, .int .i64 (wrap64 (x3 + b)), .int .i64 x4, .int .i64 (wrap64 (x5 + b)), .int .i64 (wrap64 (x6 + d))], u.oneCell' = true) := Lib.hid (by
        intro u hu
        simp at hu
        rcases hu with rfl | rfl | rfl | rfl | rfl | rfl | rfl <;> rfl)
      have hzb : w.heap.size ≤ ((wr.alloc (.cells #[Value.int .i64 (wrap64 (x0 + a)), .int .i64 x1, .int .i64 x2, .int .i64 (wrap64 (x3 + b)), .int .i64 x4, .int .i64 (wrap64 (x5 + b)), .int .i64 (wrap64 (x6 + d))] 58)).alloc (.cells #[Value.int .i64 (wrap64 (x0 + a)), .int .i64 x1, .int .i64 x2, .int .i64 (wrap64 (x3 + b)), .int .i64 x4, .int .i64 (wrap64 (x5 + b)), .int .i64 (wrap64 (x6 + d))] 58)).heap.size := by have := hz.out; simp; omega
      have HB2 := Lib.hid ((hb.out.alloc hz.out (.cells #[Value.int .i64 (wrap64 (x0 + a)), .int .i64 x1, .int .i64 x2, .int .i64 (wrap64 (x3 + b)), .int .i64 x4, .int .i64 (wrap64 (x5 + b)), .int .i64 (wrap64 (x6 + d))] 58)).alloc (by have := hz.out; simp; omega) (.cells #[Value.int .i64 (wrap64 (x0 + a)), .int .i64 x1, .int .i64 x2, .int .i64 (wrap64 (x3 + b)), .int .i64 x4, .int .i64 (wrap64 (x5 + b)), .int .i64 (wrap64 (x6 + d))] 58))
      clear hz9
      go_wp2_with (first
        | (at_builtin; go_must (refine wpList_append_src _ rfl _ _ 25 rfl w.heap.size 58 i0 (.agg #[.int .i64 0, .int .i64 0, .int .i64 0, .int .i64 0, .int .i64 0, .int .i64 0, .int .i64 0]) 7 56 Try.underlying25 hi hz0 hz1 hz2 rfl (by decide) _ _ _ rfl hown.out (some ⟨wr.heap.size + 1, 0, none⟩) 1 1 [Value.int .i64 (wrap64 (x0 + a)), .int .i64 x1, .int .i64 x2, .int .i64 (wrap64 (x3 + b)), .int .i64 x4, .int .i64 (wrap64 (x5 + b)), .int .i64 (wrap64 (x6 + d))] rfl hsrc.out hone.out (by unfold maxLen; omega) (by omega) hzb ?_)
           intro v' w3 hown' hgrow3 hat3
           obtain ⟨A', c', rfl, o3, b3, z3⟩ := app_node HB2.out hzb ho.out hown' hgrow3
           have O3 : Hid (w3.ownsRow w.heap.size 58 7 (.slice A' (k + 1) c') (k + 1) (List.flatMap cellsN (List.take (k + 1) (treeM a b d xs)))) := Lib.hid (by rw [← hsn.out]; exact o3)
           have B3 := Lib.hid b3
           have Z3 := Lib.hid z3
           clear hown' hgrow3 hat3 o3 b3 z3))
      go_roundw
      case rel => exact ⟨k + 1, j + 1, A', c', rfl, by go_num, Lib.hid (by rw [hj.out]), by have := hj.out; omega, O3, B3, Z3⟩
      case measure => simp [intOf]; omega
    · have hkn : k = n - 1 := by have := hj.out; omega
      subst hkn
      have hlen : (treeM a b d xs).length = n - 1 := by unfold treeM; rw [List.length_map, List.length_drop, HLn.out]
      have hfin := ho.out
      rw [List.take_of_length_le (by omega)] at hfin
      have X := Lib.hid (SlR.of_ownN (sz := 7) (bytes := 56) (f := cellsN) (fun _ => rfl) (by omega) hfin (by unfold reachBytes; omega))
      clear hlen hfin
      go_wp2_with fail
      go_ret
      exact ⟨A1, cc, rfl, X.out, hb.out⟩
set_option maxRecDepth 100000 in
set_option maxHeartbeats 2000000 in
theorem refTree_any (n c : Nat) (A : Option Addr) (xs : List DNode) (a b d : Int) (w : World) (h : SlN w w.heap.size A n c xs) (hn : n ≤ 1000) :
    Calls Try.prog 32 #[.slice A n c, .int .i64 a, .int .i64 b, .int .i64 d] w (IsN (n - 1) (treeM a b d xs) w) := by
  obtain ⟨i0, hi, hz0, hz1, hz2⟩ := info_parts info_node
  have H := Lib.hid h
  have HLn := Lib.hid h.1
  clear h
  go_enter Try.func32, Try.ntmps32
  go_wp2_with fail
  go_loopw [9, 10] (fun o i wr => ∃ (k j : Nat) (A1 : Option Addr) (cc : Nat), o = .slice A1 k cc ∧ i = .int .i64 j ∧ Hid (j = k + 1) ∧ k ≤ n - 1 ∧ Hid (wr.ownsRow w.heap.size 58 7 (.slice A1 k cc) k (((treeM a b d xs).take k).flatMap cellsN)) ∧ Hid (Below w.heap.size w wr) ∧ Hid (w.heap.size ≤ wr.heap.size)) (fun _ i _ => n - (intOf i).toNat)
  case atStart => exact ⟨0, 1, none, 0, rfl, rfl, rfl, Nat.zero_le _, Lib.hid (World.ownsRow_nil _ _ _ _), Lib.hid (Below.refl _ _), Lib.hid (Nat.le_refl _)⟩
  case round =>
    obtain ⟨k, j, A1, cc, rfl, rfl, hj, hk, ho, hb, hz⟩ := hrel
    by_cases hlt : j < n
    · obtain ⟨bb, off, x, rfl, hbB, hx, r0, r1, r2, r3, r4, r5, r6⟩ := sln_at H.out hlt
      have q0 : wr.cell? ⟨bb, off + j * 7, none⟩ = some (.int .i64 x.parent) := (hb.out.cell (by show bb < _; exact hbB)).trans r0
      have q1 : wr.cell? ⟨bb, off + j * 7 + 1, none⟩ = some (.int .i64 x.fn) := (hb.out.cell (by show bb < _; exact hbB)).trans r1
      have q2 : wr.cell? ⟨bb, off + j * 7 + 2, none⟩ = some (.int .i64 x.line) := (hb.out.cell (by show bb < _; exact hbB)).trans r2
      have q3 : wr.cell? ⟨bb, off + j * 7 + 3, none⟩ = some (.int .i64 x.from_) := (hb.out.cell (by show bb < _; exact hbB)).trans r3
      have q4 : wr.cell? ⟨bb, off + j * 7 + 4, none⟩ = some (.int .i64 x.args) := (hb.out.cell (by show bb < _; exact hbB)).trans r4
      have q5 : wr.cell? ⟨bb, off + j * 7 + 5, none⟩ = some (.int .i64 x.to_) := (hb.out.cell (by show bb < _; exact hbB)).trans r5
      have q6 : wr.cell? ⟨bb, off + j * 7 + 6, none⟩ = some (.int .i64 x.resume) := (hb.out.cell (by show bb < _; exact hbB)).trans r6
      have hy : (treeM a b d xs)[k]? = some (nodeM a b d x) := by
        unfold treeM
        rw [List.getElem?_map, List.getElem?_drop, Nat.add_comm 1 k, ← hj.out, hx]
        rfl
      have hsn := Lib.hid (flatMap_snoc cellsN _ k _ hy)
      have hj0 : (0 : Int) ≤ (j : Int) := by omega
      have hjn : (j : Int) < (n : Int) := by omega
      obtain ⟨x0, x1, x2, x3, x4, x5, x6⟩ := x
      have hsn : Hid (List.flatMap cellsN (List.take k (treeM a b d xs)) ++ [Value.int .i64 (wrap64 (x0 + a)), .int .i64 x1, .int .i64 x2, .int .i64 (wrap64 (x3 + b)), .int .i64 x4, .int .i64 (wrap64 (x5 + b)), .int .i64 (wrap64 (x6 + d))] = List.flatMap cellsN (List.take (k + 1) (treeM a b d xs))) := hsn
      simp only at q0 q1 q2 q3 q4 q5 q6
      clear hx hy hbB r0 r1 r2 r3 r4 r5 r6
      have hown := Lib.hid ((ho.out.alloc (.cells #[Value.int .i64 (wrap64 (x0 + a)), .int .i64 x1, .int .i64 x2, .int .i64 (wrap64 (x3 + b)), .int .i64 x4, .int .i64 (wrap64 (x5 + b)), .int .i64 (wrap64 (x6 + d))] 58)).alloc (.cells #[Value.int .i64 (wrap64 (x0 + a)), .int .i64 x1, .int .i64 x2, .int .i64 (wrap64 (x3 + b)), .int .i64 x4, .int .i64 (wrap64 (x5 + b)), .int .i64 (wrap64 (x6 + d))] 58))
      have hsrc := Lib.hid (src_node (wr.alloc (.cells #[Value.int .i64 (wrap64 (x0 + a)), .int .i64 x1, .int .i64 x2, .int .i64 (wrap64 (x3 + b)), .int .i64 x4, .int .i64 (wrap64 (x5 + b)), .int .i64 (wrap64 (x6 + d))] 58)) #[Value.int .i64 (wrap64 (x0 + a)), .int .i64 x1, .int .i64 x2, .int .i64 (wrap64 (x3 + b)), .int .i64 x4, .int .i64 (wrap64 (x5 + b)), .int .i64 (wrap64 (x6 + d))] rfl)
      have hz9 : (wr.alloc (.cells #[Value.int .i64 (wrap64 (x0 + a)), .int .i64 x1, .int .i64 x2, .int .i64 (wrap64 (x3 + b)), .int .i64 x4, .int .i64 (wrap64 (x5 + b)), .int .i64 (wrap64 (x6 + d))] 58)).heap.size = wr.heap.size + 1 := by simp
      rw [hz9] at hsrc
      have hone : Hid (∀ u ∈ [Value.int .i64 (wrap64 (x0 + a)), .int .i64 x1, .int .i64 x2, .int .i64 (wrap64 (x3 + b)), .int .i64 x4, .int .i64 (wrap64 (x5 + b)), .int .i64 (wrap64 (x6 + d))], u.oneCell' = true) := Lib.hid (by
        intro u hu
        simp at hu
        rcases hu with rfl | rfl | rfl | rfl | rfl | rfl | rfl <;> rfl)
      have hzb : w.heap.size ≤ ((wr.alloc (.cells #[Value.int .i64 (wrap64 (x0 + a)), .int .i64 x1, .int .i64 x2, .int .i64 (wrap64 (x3 + b)), .int .i64 x4, .int .i64 (wrap64 (x5 + b)), .int .i64 (wrap64 (x6 + d))] 58)).alloc (.cells #[Value.int .i64 (wrap64 (x0 + a)), .int .i64 x1, .int .i64 x2, .int .i64 (wrap64 (x3 + b)), .int .i64 x4, .int .i64 (wrap64 (x5 + b)), .int .i64 (wrap64 (x6 + d))] 58)).heap.size := by have := hz.out; simp; omega
      have HB2 := Lib.hid ((hb.out.alloc hz.out (.cells #[Value.int .i64 (wrap64 (x0 + a)), .int .i64 x1, .int .i64 x2, .int .i64 (wrap64 (x3 + b)), .int .i64 x4, .int .i64 (wrap64 (x5 + b)), .int .i64 (wrap64 (x6 + d))] 58)).alloc (by have := hz.out; simp; omega) (.cells #[Value.int .i64 (wrap64 (x0 + a)), .int .i64 x1, .int .i64 x2, .int .i64 (wrap64 (x3 + b)), .int .i64 x4, .int .i64 (wrap64 (x5 + b)), .int .i64 (wrap64 (x6 + d))] 58))
      clear hz9
      go_wp2_with (first
        | (at_builtin; go_must (refine wpList_append_src _ rfl _ _ 25 rfl w.heap.size 58 i0 (.agg #[.int .i64 0, .int .i64 0, .int .i64 0, .int .i64 0, .int .i64 0, .int .i64 0, .int .i64 0]) 7 56 Try.underlying25 hi hz0 hz1 hz2 rfl (by decide) _ _ _ rfl hown.out (some ⟨wr.heap.size + 1, 0, none⟩) 1 1 [Value.int .i64 (wrap64 (x0 + a)), .int .i64 x1, .int .i64 x2, .int .i64 (wrap64 (x3 + b)), .int .i64 x4, .int .i64 (wrap64 (x5 + b)), .int .i64 (wrap64 (x6 + d))] rfl hsrc.out hone.out (by unfold maxLen; omega) (by omega) hzb ?_)
           intro v' w3 hown' hgrow3 hat3
           obtain ⟨A', c', rfl, o3, b3, z3⟩ := app_node HB2.out hzb ho.out hown' hgrow3
           have O3 : Hid (w3.ownsRow w.heap.size 58 7 (.slice A' (k + 1) c') (k + 1) (List.flatMap cellsN (List.take (k + 1) (treeM a b d xs)))) := Lib.hid (by rw [← hsn.out]; exact o3)
           have B3 := Lib.hid b3
           have Z3 := Lib.hid z3
           clear hown' hgrow3 hat3 o3 b3 z3))
      go_roundw
      case rel => exact ⟨k + 1, j + 1, A', c', rfl, by go_num, Lib.hid (by rw [hj.out]), by have := hj.out; omega, O3, B3, Z3⟩
      case measure => simp [intOf]; omega
    · have hkn : k = n - 1 := by have := hj.out; omega
      subst hkn
      have hlen : (treeM a b d xs).length = n - 1 := by unfold treeM; rw [List.length_map, List.length_drop, HLn.out]
      have hfin := ho.out
      rw [List.take_of_length_le (by omega)] at hfin
      have X := Lib.hid (SlR.of_ownN (sz := 7) (bytes := 56) (f := cellsN) (fun _ => rfl) (by omega) hfin (by unfold reachBytes; omega))
      clear hlen hfin
      go_wp2_with fail
      go_ret
      exact ⟨A1, cc, rfl, X.out, hb.out⟩

set_option maxRecDepth 100000 in
set_option maxHeartbeats 1000000 in
theorem nodes_same (n c c' : Nat) (A A' : Option Addr) (xs : List DNode) (w : World) (h : SlN w w.heap.size A n c xs) (h' : SlN w w.heap.size A' n c' xs) (hn : n ≤ 100000) :
    Calls Try.prog 12 #[.slice A n c, .slice A' n c'] w fun e w' => e = .returned (.bool true) ∧ Below w.heap.size w w' := by
  have H := Lib.hid h
  have H' := Lib.hid h'
  have t0 : ((n : Int) != (n : Int)) = false := by simp
  clear h h'
  go_enter Try.func12, Try.ntmps12
  go_wp2_with fail
  go_loopw [5] (fun i wr => ∃ k : Nat, i = .int .i64 k ∧ k ≤ n ∧ Hid (Below w.heap.size w wr)) (fun i _ => n - (intOf i).toNat)
  case atStart => exact ⟨0, rfl, Nat.zero_le _, Lib.hid (Below.refl _ _)⟩
  case round =>
    obtain ⟨k, rfl, hk, hb⟩ := hrel
    by_cases hlt : k < n
    · obtain ⟨b, off, x, rfl, hbB, hx, r0, r1, r2, r3, r4, r5, r6⟩ := sln_at H.out hlt
      obtain ⟨b', off', x', rfl, hbB', hx', s0, s1, s2, s3, s4, s5, s6⟩ := sln_at H'.out hlt
      rw [hx] at hx'
      injection hx' with hx'
      subst hx'
      have hw := Lib.hid hb.out
      have q0 : wr.cell? ⟨b, off + k * 7, none⟩ = some (.int .i64 x.parent) := (hb.out.cell hbB).trans r0
      have q1 : wr.cell? ⟨b, off + k * 7 + 1, none⟩ = some (.int .i64 x.fn) := (hb.out.cell hbB).trans r1
      have q2 : wr.cell? ⟨b, off + k * 7 + 2, none⟩ = some (.int .i64 x.line) := (hb.out.cell hbB).trans r2
      have q3 : wr.cell? ⟨b, off + k * 7 + 3, none⟩ = some (.int .i64 x.from_) := (hb.out.cell hbB).trans r3
      have q4 : wr.cell? ⟨b, off + k * 7 + 4, none⟩ = some (.int .i64 x.args) := (hb.out.cell hbB).trans r4
      have q5 : wr.cell? ⟨b, off + k * 7 + 5, none⟩ = some (.int .i64 x.to_) := (hb.out.cell hbB).trans r5
      have q6 : wr.cell? ⟨b, off + k * 7 + 6, none⟩ = some (.int .i64 x.resume) := (hb.out.cell hbB).trans r6
      have p0 : wr.cell? ⟨b', off' + k * 7, none⟩ = some (.int .i64 x.parent) := (hb.out.cell hbB').trans s0
      have p1 : wr.cell? ⟨b', off' + k * 7 + 1, none⟩ = some (.int .i64 x.fn) := (hb.out.cell hbB').trans s1
      have p2 : wr.cell? ⟨b', off' + k * 7 + 2, none⟩ = some (.int .i64 x.line) := (hb.out.cell hbB').trans s2
      have p3 : wr.cell? ⟨b', off' + k * 7 + 3, none⟩ = some (.int .i64 x.from_) := (hb.out.cell hbB').trans s3
      have p4 : wr.cell? ⟨b', off' + k * 7 + 4, none⟩ = some (.int .i64 x.args) := (hb.out.cell hbB').trans s4
      have p5 : wr.cell? ⟨b', off' + k * 7 + 5, none⟩ = some (.int .i64 x.to_) := (hb.out.cell hbB').trans s5
      have p6 : wr.cell? ⟨b', off' + k * 7 + 6, none⟩ = some (.int .i64 x.resume) := (hb.out.cell hbB').trans s6
      obtain ⟨x0, x1, x2, x3, x4, x5, x6⟩ := x
      simp only at q0 q1 q2 q3 q4 q5 q6 p0 p1 p2 p3 p4 p5 p6
      have hka : (k : Int) < (n : Int) := by omega
      have hk0 : (0 : Int) ≤ (k : Int) := by omega
      clear r0 r1 r2 r3 r4 r5 r6 s0 s1 s2 s3 s4 s5 s6 hx hbB hbB'
      go_wp2_with fail
      go_quiet (fail)
      go_wp2_with fail
      go_roundw
      case rel => exact ⟨k + 1, by go_num, by omega, Lib.hid (below_drewN' hb.out _)⟩
      case measure => simp [intOf]; omega
    · have hkn : k = n := by omega
      subst hkn
      go_wp2_with fail
      go_ret
      exact ⟨rfl, hb.out⟩
end Go.Proofs.Ythfdmpcnebjkjaa
