import Derived.Test.YtobmjnmcjddhcaaGreatRg25
import Derived.Laws.OwnMore
import Derived.Laws.MakeOwn
import Derived.OrdersHeld
set_option linter.unusedSimpArgs false
set_option linter.unusedVariables false
set_option maxRecDepth 100000
set_option maxHeartbeats 2000000
namespace Go.Proofs.YtobmjnmcjddhcaaGreat
namespace Bm
open Go.RowKit
abbrev DEntry : Type := Int × Int
abbrev DBlame : Type := Bl
abbrev cellsE : DEntry → List Value := enC
def REntry : Rd DEntry := RC cellsE
theorem stable_Entry : Stable REntry := stable_rc _
def RBlame : Rd DBlame := fun w B cs x => ∃ A0 n0 c0, cs = [.int .i64 x.k, .int .i64 x.n, .bool x.rc, .slice A0 n0 c0] ∧ True ∧ True ∧ SlR 2 16 REntry w B A0 n0 c0 x.tr
theorem stable_Blame : Stable RBlame := by
 intro w w' B cs x h hk
 obtain ⟨A0, n0, c0, e, q0, q1, h3⟩ := h
 exact ⟨A0, n0, c0, e, q0, q1, SlR.keep stable_Entry h3 hk⟩
abbrev OkE (e : DEntry) : Prop := True
abbrev SlE (w : World) (B : Nat) (A : Option Addr) (n c : Nat) (es : List DEntry) : Prop := SlR 2 16 REntry w B A n c es
theorem sle_rc {w : World} {B : Nat} {A : Option Addr} {n c : Nat} {es : List DEntry} (h : SlE w B A n c es) : SlR 2 16 (RC cellsE) w B A n c es := h
theorem sle_ok {w : World} {B : Nat} {A : Option Addr} {n c : Nat} {es : List DEntry} (h : SlE w B A n c es) : ∀ e ∈ es, OkE e := fun _ _ => trivial
theorem sle_of {w : World} {B : Nat} {A : Option Addr} {n c : Nat} {es : List DEntry} (h : SlR 2 16 (RC cellsE) w B A n c es) (hok : ∀ e ∈ es, OkE e) : SlE w B A n c es := h
theorem SlE.keep {w w' : World} {B : Nat} {A : Option Addr} {n c : Nat} {es : List DEntry} (h : SlE w B A n c es) (hb : Below B w w') : SlE w' B A n c es := SlR.below (R := REntry) stable_Entry h hb
theorem SlE.up {w : World} {B B' : Nat} {A : Option Addr} {n c : Nat} {es : List DEntry} (h : SlE w B A n c es) (hB : B ≤ B') : SlE w B' A n c es := sle_of ((sle_rc h).more hB) (sle_ok h)
theorem SlE.keepAt {w w' : World} {B B' : Nat} {A : Option Addr} {n c : Nat} {es : List DEntry} (h : SlE w B A n c es) (p : Nat → Prop) (hA : ∀ ad, A = some ad → p ad.block) (hk : ∀ q : Addr, p q.block → q.block < B → w'.cell? q = w.cell? q) (hB : B ≤ B') : SlE w' B' A n c es := by
 refine sle_of ?_ (sle_ok h)
 obtain ⟨h1, h2, h3, h4, h5⟩ := sle_rc h
 refine ⟨h1, h2, h3, h4, fun hn => ?_⟩
 obtain ⟨b, off, hb1, hb2, hx⟩ := h5 hn
 refine ⟨b, off, hb1, by omega, fun i x hi => ?_⟩
 obtain ⟨cs, hl, hc, hr⟩ := hx i x hi
 exact ⟨cs, hl, fun j u hj => (hk ⟨b, off + (i * 2 + j), none⟩ (by have := hA _ hb1; exact this) hb2).trans (hc j u hj), hr⟩
theorem sle_own {w : World} {base : Nat} {A : Option Addr} {n c : Nat} {es : List DEntry} (h : w.ownsRow base 169 2 (.slice A n c) n (es.flatMap cellsE)) (hb : n * 16 ≤ reachBytes) (hok : ∀ e ∈ es, OkE e) : SlE w w.heap.size A n c es := by
 refine sle_of ?_ hok
 have hl : es.length = n := by
  have h1 := h.1
  have h2 : (es.flatMap cellsE).length = es.length * 2 := by
   clear h h1 hok
   induction es with
   | nil => rfl
   | cons a l ih => rw [List.flatMap_cons, List.length_append, ih, List.length_cons]; simp [cellsE, enC]; omega
  omega
 have h' := h
 rcases h.2 with ⟨hv, rfl⟩ | ⟨g, cap, cur, hv, h1, h2, h3, h4, h5, h6⟩
 ·simp only [Value.slice.injEq] at hv
  obtain ⟨rfl, _, rfl⟩ := hv
  have : es = [] := List.eq_nil_of_length_eq_zero hl
  subst this
  exact SlR.nil_ w _
 ·simp only [Value.slice.injEq, true_and] at hv
  obtain ⟨rfl, rfl⟩ := hv
  refine ⟨hl, h3, h4, hb, fun hn => ⟨g, 0, rfl, (Array.getElem?_eq_some_iff.1 h2).1, fun i x hi => ⟨cellsE x, rfl, fun j u hj => ?_, rfl⟩⟩⟩
  have hj2 : j < 2 := (List.getElem?_eq_some_iff.1 hj).1
  have hi2 := (List.getElem?_eq_some_iff.1 hi).1
  have := h'.cellAt (i * 2 + j) (by omega)
  rw [Nat.zero_add, this]
  have key : ∀ (l : List DEntry) (i : Nat), l[i]? = some x → (l.flatMap cellsE)[i * 2 + j]? = some u := by
   intro l
   induction l with
   | nil => intro i h; simp at h
   | cons a l ih =>
    intro i h
    rw [List.flatMap_cons]
    cases i with
    | zero =>
     simp at h
     subst h
     rw [List.getElem?_append_left (by simp [cellsE, enC]; omega)]
     simpa using hj
    | succ i =>
     rw [List.getElem?_append_right (by simp [cellsE, enC]; omega)]
     have : (i + 1) * 2 + j - (cellsE a).length = i * 2 + j := by simp [cellsE, enC]; omega
     rw [this]
     exact ih i (by simpa using h)
  exact key es i hi
theorem info_entry : (Tryz.prog.info? 169).map (fun i => (i.zero, i.size, i.bytes)) = some (some (.agg #[.int .i64 0, .int .i64 0]), 2, 16) := by kernel_rfl
def IsEntries (es : List DEntry) (w : World) (e : Ending) (w' : World) : Prop := ∃ A n c, e = .returned (.slice A n c) ∧ SlE w' w'.heap.size A n c es ∧ Below w.heap.size w w' ∧ ∀ ad, A = some ad → w.heap.size ≤ ad.block
theorem clone_fin {w w3 : World} {n : Nat} {es : List DEntry} {v' : Value} (hb : n * 16 ≤ 140737488351232) (hok : ∀ e ∈ es, OkE e)
  (hown : w3.ownsRow w.heap.size 169 2 v' (0 + n) ((#[] : Array Value).toList ++ es.flatMap cellsE)) (hgrow : (w.alloc (.cells #[] 169)).grownBy w3 (Value.slice (some ⟨w.heap.size, 0, none⟩) 0 0).ownBlock) :
  ∃ A c, v' = .slice A n c ∧ SlE w3 w3.heap.size A n c es ∧ Below w.heap.size w w3 ∧ ∀ ad, A = some ad → w.heap.size ≤ ad.block := by
 rw [Nat.zero_add] at hown
 obtain ⟨A', c', hv, _, hat⟩ := own_form hown
 rw [hv] at hown
 exact ⟨A', c', hv, sle_own (by simpa using hown) (by unfold reachBytes; omega) hok, Below.grown ((Below.refl _ _).alloc (Nat.le_refl _) _) hgrow (by simp) (fun j hj => by simp [Value.ownBlock] at hj; omega), fun ad had => by
  obtain ⟨g, rfl, hg, _⟩ := hat ad had
  exact hg⟩
theorem clone_any (B : Nat) (A : Option Addr) (n c : Nat) (es : List DEntry) (w : World) (h : SlE w B A n c es) :
  Calls Tryz.prog 105 #[.slice A n c] w (IsEntries es w) := by
 obtain ⟨i0, hi, hz0, hz1, hz2⟩ := info_parts info_entry
 have hnil := fun w => Lib.run_eql_slice_nil (P := Tryz.prog) w 114 169 A n c 0 0 Tryz.underlying114
 cases A with
 | none =>
  have hn : n = 0 := by
   rcases Nat.eq_zero_or_pos n with h0 | h0
   ·exact h0
   ·obtain ⟨b, off, hA, _⟩ := h.2.2.2.2 h0
    cases hA
  subst hn
  have he : es = [] := List.eq_nil_of_length_eq_zero h.1
  subst he
  clear h
  go_in
  go_wp2
  go_ret
  exact ⟨none, 0, 0, rfl, SlR.nil_ _ _, Below.refl _ _, fun ad had => by cases had⟩
 | some ad =>
  have hsrc := SlR.src (f := cellsE) (fun _ => rfl) (sle_rc h)
  have hok := sle_ok h
  have hb := h.2.2.2.1
  unfold reachBytes at hb
  have HK := Hd hok
  clear h hok
  have hone : ∀ u ∈ es.flatMap cellsE, u.oneCell' = true := by
   intro u hu
   obtain ⟨x, _, hx⟩ := List.mem_flatMap.1 hu
   simp [cellsE, enC] at hx
   rcases hx with rfl | rfl <;> rfl
  have hsrc1 : SrcCells (w.alloc (.cells #[] 169)) (some ad) n 2 (es.flatMap cellsE) := hsrc.keep fun a j u ha hu => (World.cell?_alloc_lt _ _ _ (World.block_lt_of_cell? _ _ hu)).trans hu
  have HO := Hd hone
  clear hsrc hone
  go_in
  go_wp2_with (first
    | (at_builtin; go_must (refine wpList_append_src _ rfl _ _ 114 rfl w.heap.size 169 i0 (.agg #[.int .i64 0, .int .i64 0]) 2 16 Tryz.underlying114 hi hz0 hz1 hz2 rfl (by decide) _ _ _ rfl (World.ownsRow_lit w #[] 0 (Nat.le_refl _) (by unfold maxLen; omega) rfl) (some ad) n c (es.flatMap cellsE) rfl hsrc1 HO.out (by unfold maxLen; omega) (by omega) (by simp) ?_)
       intro v' w3 hown' hgrow3 hat3
       have X := Hd (clone_fin hb HK.out hown' hgrow3)
       clear hown' hgrow3 hat3))
  go_ret
  obtain ⟨A', c', rfl, h1, h2, h3⟩ := X.out
  exact ⟨A', n, c', rfl, h1, h2, h3⟩
abbrev blameV (k n : Int) (r : Bool) (A : Option Addr) (m c : Nat) : Value := .agg #[.int .i64 k, .int .i64 n, .bool r, .slice A m c]
theorem new_any (k n : Int) (B : Nat) (A : Option Addr) (m c : Nat) (es : List DEntry) (w : World) (h : SlE w B A m c es) (hB : B ≤ w.heap.size) :
  Calls Tryz.prog 182 #[.int .i64 k, .int .i64 n, .slice A m c] w fun e w' => ∃ A' m' c', e = .returned (blameV k n false A' m' c') ∧ SlE w' w'.heap.size A' m' c' es ∧ Below w.heap.size w w' ∧ ∀ ad, A' = some ad → w.heap.size ≤ ad.block := by
 have c1 : ∀ W : World, Below B w W → Hid (Calls Tryz.prog 105 #[.slice A m c] W (IsEntries es W)) := fun W hW => clone_any B A m c es W (h.keep hW)
 clear h
 go_in
 go_wp2_with fail
 refine Calls.mono (c1 _ ((Below.refl _ _).alloc hB _)).out ?_
 rintro e w1 ⟨A', m', c', rfl, hs, hb, hat⟩
 obtain ⟨q0, f0⟩ := new_cells hb 0 (.int .i64 0) rfl
 obtain ⟨q1, f1⟩ := new_cells hb 1 (.int .i64 0) rfl
 obtain ⟨q2, f2⟩ := new_cells hb 2 (.bool false) rfl
 obtain ⟨q3, f3⟩ := new_cells hb 3 (.slice none 0 0) rfl
 have hb' : Below w.heap.size w w1 := ((Below.refl _ _).alloc (Nat.le_refl _) _).trans (hb.mono (by simp))
 have hlt : w.heap.size < w1.heap.size := by have := hb.size; simp at this; omega
 clear hb
 go_wp2_with fail
 go_outline
 refine bodyPost_ret (v := blameV k n false A' m' c') (by simp [results, Tryz.results182, go_sem, q0, q1, q2, q3]) rfl ⟨A', m', c', rfl, ?_, ?_, fun ad had => by have := hat ad had; simp at this; omega⟩
 ·refine hs.keepAt (fun b => w.heap.size + 1 ≤ b) (fun ad had => by have := hat ad had; simpa using this) (fun q hq _ => ?_) (by simp)
  have hne : q.block ≠ w.heap.size := by omega
  repeat rw [World.cell?_setCell_far _ _ _ _ (Ne.symm hne)]
 ·repeat (first | exact hb' | (refine Below.setCell ?_ (by simp) _))
theorem bl_trans {B : Nat} {a b c : World} (h : Below B a b) (hB : B ≤ b.heap.size) (k : Below b.heap.size b c) : Below B a c := h.trans (k.mono hB)
theorem info_blame : (Tryz.prog.info? 135).map (fun i => (i.zero, i.size, i.bytes)) = some (some (.agg #[.int .i64 0, .int .i64 0, .bool false, .slice none 0 0]), 4, 48) := by kernel_rfl
abbrev SlC (w : World) (B : Nat) (A : Option Addr) (n c : Nat) (xs : List DBlame) : Prop := SlR 4 48 RBlame w B A n c xs
def lay4 (cells : List Value) (k : Nat) (a b c d : Value) : List Value := (((cells.set (k * 4) a).set (k * 4 + 1) b).set (k * 4 + 2) c).set (k * 4 + 3) d
theorem lay4_in {cells : List Value} {n k : Nat} (hl : cells.length = n * 4) (hk : k < n) (a b c d : Value) :
  (lay4 cells k a b c d)[k * 4]? = some a ∧ (lay4 cells k a b c d)[k * 4 + 1]? = some b ∧ (lay4 cells k a b c d)[k * 4 + 2]? = some c ∧ (lay4 cells k a b c d)[k * 4 + 3]? = some d := by
 unfold lay4
 refine ⟨?_, ?_, ?_, ?_⟩ <;> simp [List.getElem?_set, hl] <;> omega
theorem lay4_out {cells : List Value} {k i j : Nat} (hi : i < k) (hj : j < 4) (a b c d : Value) : (lay4 cells k a b c d)[i * 4 + j]? = cells[i * 4 + j]? := by
 unfold lay4
 rw [List.getElem?_set_ne (by omega), List.getElem?_set_ne (by omega), List.getElem?_set_ne (by omega), List.getElem?_set_ne (by omega)]
theorem below_set {B : Nat} {a w : World} {b o : Nat} (h : Below B a w) (hb : B ≤ b) (v : Value) : Below B a (w.setCell ⟨b, o, none⟩ v) := h.setCell (p := ⟨b, o, none⟩) hb v
structure AtL (w : World) (g : Nat) (cells : List Value) (i : Nat) (x : DBlame) (A : Option Addr) (m c : Nat) : Prop where
 h0 : cells[i * 4]? = some (.int .i64 x.k)
 h1 : cells[i * 4 + 1]? = some (.int .i64 x.n)
 h2 : cells[i * 4 + 2]? = some (.bool x.rc)
 h3 : cells[i * 4 + 3]? = some (.slice A m c)
 tr : SlE w w.heap.size A m c x.tr
 far : ∀ ad, A = some ad → g < ad.block
 ok0 : True
 ok1 : True
def FilledL (w : World) (g : Nat) (cells : List Value) (xs : List DBlame) (k : Nat) : Prop := ∀ i x, i < k → xs[i]? = some x → ∃ A m c, AtL w g cells i x A m c
theorem FilledL.start (w : World) (g : Nat) (cells : List Value) (xs : List DBlame) : FilledL w g cells xs 0 := fun i x h => absurd h (by omega)
theorem AtL.keep {w w' : World} {g : Nat} {cells cells' : List Value} {i : Nat} {x : DBlame} {A : Option Addr} {m c : Nat} (h : AtL w g cells i x A m c)
  (hc : ∀ j, j < 4 → cells'[i * 4 + j]? = cells[i * 4 + j]?) (hk : ∀ q : Addr, g < q.block → q.block < w.heap.size → w'.cell? q = w.cell? q) (hs : w.heap.size ≤ w'.heap.size) : AtL w' g cells' i x A m c :=
 ⟨by have := hc 0 (by omega); rw [Nat.add_zero] at this; rw [this]; exact h.h0, by rw [hc 1 (by omega)]; exact h.h1, by rw [hc 2 (by omega)]; exact h.h2, by rw [hc 3 (by omega)]; exact h.h3,
 h.tr.keepAt (fun b => g < b) h.far hk hs, h.far, h.ok0, h.ok1⟩
theorem filledL_sl {w : World} {base g n : Nat} {cells : List Value} {xs : List DBlame} (hown : w.ownsRow base 135 4 (.slice (some ⟨g, 0, none⟩) n n) n cells) (hf : FilledL w g cells xs n) (hl : xs.length = n) (hm : n ≤ maxLen) (hb : n * 48 ≤ reachBytes) : SlC w w.heap.size (some ⟨g, 0, none⟩) n n xs := by
 refine ⟨hl, Nat.le_refl _, hm, hb, fun hn => ⟨g, 0, rfl, (hown.lt _ rfl).2, fun i x hi => ?_⟩⟩
 have hlt := (List.getElem?_eq_some_iff.1 hi).1
 obtain ⟨A, m, c, h⟩ := hf i x (by omega) hi
 refine ⟨[.int .i64 x.k, .int .i64 x.n, .bool x.rc, .slice A m c], rfl, fun j u hj => ?_, ⟨A, m, c, rfl, h.ok0, h.ok1, h.tr⟩⟩
 have hj4 : j < 4 := (List.getElem?_eq_some_iff.1 hj).1
 rw [Nat.zero_add, hown.cellAt _ (by omega)]
 match j, hj4 with
 | 0, _ => rw [Nat.add_zero, h.h0]; simpa using hj
 | 1, _ => rw [h.h1]; simpa using hj
 | 2, _ => rw [h.h2]; simpa using hj
 | 3, _ => rw [h.h3]; simpa using hj
def IsChainL (n : Nat) (xs : List DBlame) (w : World) (e : Ending) (w' : World) : Prop := ∃ g cells, e = .returned (.slice (some ⟨g, 0, none⟩) n n) ∧ w'.ownsRow w.heap.size 135 4 (.slice (some ⟨g, 0, none⟩) n n) n cells ∧ FilledL w' g cells xs n ∧ Below w.heap.size w w'
theorem copyL_step {w wr w2 : World} {n k : Nat} {cells : List Value} {xs : List DBlame} {x : DBlame} {A A0 : Option Addr} {m c m0 c0 : Nat} (hk : k < n) (hx : xs[k]? = some x)
  (hg : w.heap.size < wr.heap.size)
  (hown : wr.ownsRow w.heap.size 135 4 (.slice (some ⟨w.heap.size, 0, none⟩) n n) n cells) (hf : FilledL wr w.heap.size cells xs k) (hbw : Below w.heap.size w wr)
  {w1 : World} (hw1 : w1 = (((wr.setCell ⟨w.heap.size, k * 4, none⟩ (.int .i64 x.k)).setCell ⟨w.heap.size, k * 4 + 1, none⟩ (.int .i64 x.n)).setCell ⟨w.heap.size, k * 4 + 2, none⟩ (.bool x.rc)).setCell ⟨w.heap.size, k * 4 + 3, none⟩ (.slice A0 m0 c0))
  (hs : SlE w2 w2.heap.size A m c x.tr) (hb : Below w1.heap.size w1 w2) (hat : ∀ ad, A = some ad → w1.heap.size ≤ ad.block) (ok0 : True) (ok1 : True) :
  ∃ cells', (w2.setCell ⟨w.heap.size, k * 4 + 3, none⟩ (.slice A m c)).ownsRow w.heap.size 135 4 (.slice (some ⟨w.heap.size, 0, none⟩) n n) n cells' ∧ FilledL (w2.setCell ⟨w.heap.size, k * 4 + 3, none⟩ (.slice A m c)) w.heap.size cells' xs (k + 1) ∧
   Below w.heap.size w (w2.setCell ⟨w.heap.size, k * 4 + 3, none⟩ (.slice A m c)) := by
 have hl : cells.length = n * 4 := hown.1
 have hz : w1.heap.size = wr.heap.size := by rw [hw1]; simp
 have hown1 : w1.ownsRow w.heap.size 135 4 (.slice (some ⟨w.heap.size, 0, none⟩) n n) n (lay4 cells k (.int .i64 x.k) (.int .i64 x.n) (.bool x.rc) (.slice A0 m0 c0)) := by
  rw [hw1]
  exact ((((hown.stored _ _).1.stored _ _).1.stored _ _).1.stored _ _).1
 have hown2 := own_keep hown1 hb
 have hown3 := (hown2.stored (k * 4 + 3) (.slice A m c)).1
 have e3 : (lay4 cells k (.int .i64 x.k) (.int .i64 x.n) (.bool x.rc) (.slice A0 m0 c0)).set (k * 4 + 3) (.slice A m c) = lay4 cells k (.int .i64 x.k) (.int .i64 x.n) (.bool x.rc) (.slice A m c) := by
  unfold lay4
  rw [List.set_set]
 rw [e3] at hown3
 have hcell : ∀ q : Addr, w.heap.size < q.block → q.block < wr.heap.size → (w2.setCell ⟨w.heap.size, k * 4 + 3, none⟩ (.slice A m c)).cell? q = wr.cell? q := by
  intro q hq1 hq2
  rw [World.cell?_setCell_far _ _ _ _ (by show w.heap.size ≠ q.block; exact Nat.ne_of_lt hq1), hb.cell (by omega), hw1]
  rw [World.cell?_setCell_far _ _ _ _ (by show w.heap.size ≠ q.block; exact Nat.ne_of_lt hq1), World.cell?_setCell_far _ _ _ _ (by show w.heap.size ≠ q.block; exact Nat.ne_of_lt hq1), World.cell?_setCell_far _ _ _ _ (by show w.heap.size ≠ q.block; exact Nat.ne_of_lt hq1), World.cell?_setCell_far _ _ _ _ (by show w.heap.size ≠ q.block; exact Nat.ne_of_lt hq1)]
 refine ⟨_, hown3, fun i y hi hy => ?_, ?_⟩
 ·by_cases hik : i = k
  ·subst hik
   rw [hx] at hy
   injection hy with hy
   subst hy
   obtain ⟨a0, a1, a2, a3⟩ := lay4_in hl hk (.int .i64 x.k) (.int .i64 x.n) (.bool x.rc) (.slice A m c)
   refine ⟨A, m, c, a0, a1, a2, a3, hs.keepAt (fun b => w.heap.size < b) (fun ad had => by have := hat ad had; omega) (fun q hq1 _ => ?_) (by simp), fun ad had => by have := hat ad had; omega, ok0, ok1⟩
   rw [World.cell?_setCell_far _ _ _ _ (by show w.heap.size ≠ q.block; exact Nat.ne_of_lt hq1)]
  ·obtain ⟨A', m', c', h⟩ := hf i y (by omega) hy
   refine ⟨A', m', c', h.keep (fun j hj => lay4_out (by omega) hj _ _ _ _) hcell ?_⟩
   have := hb.size
   simp
   omega
 ·refine below_set ?_ (Nat.le_refl _) _
  refine Below.trans ?_ (hb.mono (by omega))
  rw [hw1]
  exact below_set (below_set (below_set (below_set hbw (Nat.le_refl _) _) (Nat.le_refl _) _) (Nat.le_refl _) _) (Nat.le_refl _) _
theorem SlR.cell4 {w : World} {B : Nat} {A : Option Addr} {n c : Nat} {xs : List DBlame} (h : SlC w B A n c xs) {i : Nat} (hi : i < n) :
  ∃ b off x A0 n0 c0, A = some ⟨b, off, none⟩ ∧ b < B ∧ xs[i]? = some x ∧ w.cell? ⟨b, off + i * 4, none⟩ = some (.int .i64 x.k) ∧ w.cell? ⟨b, off + i * 4 + 1, none⟩ = some (.int .i64 x.n) ∧ w.cell? ⟨b, off + i * 4 + 2, none⟩ = some (.bool x.rc) ∧ w.cell? ⟨b, off + i * 4 + 3, none⟩ = some (.slice A0 n0 c0) ∧
   SlE w B A0 n0 c0 x.tr ∧ True ∧ True := by
 obtain ⟨b, off, x, cs, hA, hb, hx, _, hc, hr⟩ := h.at_ hi
 obtain ⟨A0, n0, c0, rfl, h1, h2, h3⟩ := hr
 exact ⟨b, off, x, A0, n0, c0, hA, hb, hx, by simpa using hc 0 _ rfl, by simpa [Nat.add_assoc] using hc 1 _ rfl, by simpa [Nat.add_assoc] using hc 2 _ rfl, by simpa [Nat.add_assoc] using hc 3 _ rfl, h3, h1, h2⟩
theorem copyL_any (A : Option Addr) (n c : Nat) (xs : List DBlame) (w : World) (h : SlC w w.heap.size A n c xs) (hn : n ≤ 3000) :
  Calls Tryz.prog 77 #[.slice A n c] w (IsChainL n xs w) := by
 obtain ⟨i0, hi, hz0, hz1, hz2⟩ := info_parts info_blame
 obtain ⟨MC, hMC, hsz⟩ : ∃ MC : Array Value, (∀ W, (Instr.makeSlice 69 (.int .i64 (n : Int)) (.int .i64 (n : Int))).run Tryz.prog W = .ok (.slice (some ⟨W.heap.size, 0, none⟩) n n) (W.alloc (.cells MC 135))) ∧ MC.size = n * 4 := by
  refine ⟨madeCells (Value.agg #[.int .i64 0, .int .i64 0, .bool false, .slice none 0 0]).cells (n * i0.size), fun W => ?_, by rw [size_madeCells, hz1]⟩
  have := run_make (P := Tryz.prog) W 69 135 i0 _ Tryz.underlying69 hi hz0 .i64 .i64 (n : Int) (n : Int) (by omega) (by omega) (by rw [hz2]; omega) (by omega)
  simpa using this
 have hl := h.1
 have H := Hd h
 have c1 : ∀ (B : Nat) (A0 : Option Addr) (n0 c0 : Nat) (es : List DEntry) (W : World), SlE W B A0 n0 c0 es → Hid (Calls Tryz.prog 105 #[.slice A0 n0 c0] W (IsEntries es W)) := fun B A0 n0 c0 es W hs => clone_any B A0 n0 c0 es W hs
 have hown0 := Hd (World.ownsRow_lit (base := w.heap.size) (e := 135) (size := 4) w MC n (Nat.le_refl _) (by unfold maxLen; omega) hsz)
 have hnm : n ≤ 9223372036854775807 := by omega
 clear h hi hz0 hz1 hz2 hsz
 go_in
 go_wp2
 go_loopw [10] (fun i wr => ∃ (k : Nat) (cells : List Value), i = .int .i64 k ∧ k ≤ n ∧ wr.ownsRow w.heap.size 135 4 (.slice (some ⟨w.heap.size, 0, none⟩) n n) n cells ∧ FilledL wr w.heap.size cells xs k ∧ Below w.heap.size w wr ∧ w.heap.size < wr.heap.size) (fun i _ => n - (intOf i).toNat)
 case atStart => exact ⟨0, MC.toList, rfl, Nat.zero_le _, hown0.out, FilledL.start _ _ _ _, (Below.refl _ _).alloc (Nat.le_refl _) _, by simp⟩
 case round =>
  obtain ⟨k, cells, rfl, hk, hown, hf, hbw, hgt⟩ := hrel
  have HO := Hd hown
  have HF := Hd hf
  have HB := Hd hbw
  have HG := Hd hgt
  clear hown hf hbw hgt
  by_cases hlt : k < n
  ·obtain ⟨b, off, x, A0, n0, c0, rfl, hb, hx, q0, q1, q2, q3, hs, ok0, ok1⟩ := SlR.cell4 H.out hlt
   have hll : cells.length = n * 4 := HO.out.1
   obtain ⟨u0, d0⟩ : ∃ u, wr.cell? ⟨w.heap.size, k * 4, none⟩ = some u := ⟨cells[k * 4]'(by omega), by rw [HO.out.cellAt _ (by omega)]; exact List.getElem?_eq_getElem _⟩
   obtain ⟨u1, d1⟩ : ∃ u, wr.cell? ⟨w.heap.size, k * 4 + 1, none⟩ = some u := ⟨cells[k * 4 + 1]'(by omega), by rw [HO.out.cellAt _ (by omega)]; exact List.getElem?_eq_getElem _⟩
   obtain ⟨u2, d2⟩ : ∃ u, wr.cell? ⟨w.heap.size, k * 4 + 2, none⟩ = some u := ⟨cells[k * 4 + 2]'(by omega), by rw [HO.out.cellAt _ (by omega)]; exact List.getElem?_eq_getElem _⟩
   obtain ⟨u3, d3⟩ : ∃ u, wr.cell? ⟨w.heap.size, k * 4 + 3, none⟩ = some u := ⟨cells[k * 4 + 3]'(by omega), by rw [HO.out.cellAt _ (by omega)]; exact List.getElem?_eq_getElem _⟩
   have f0 := HO.out.frozenAt (k * 4)
   have f1 := HO.out.frozenAt (k * 4 + 1)
   have f2 := HO.out.frozenAt (k * 4 + 2)
   have f3 := HO.out.frozenAt (k * 4 + 3)
   have p0 : wr.cell? ⟨b, off + k * 4, none⟩ = some (.int .i64 x.k) := (HB.out.cell hb).trans q0
   have p1 : wr.cell? ⟨b, off + k * 4 + 1, none⟩ = some (.int .i64 x.n) := (HB.out.cell hb).trans q1
   have p2 : wr.cell? ⟨b, off + k * 4 + 2, none⟩ = some (.bool x.rc) := (HB.out.cell hb).trans q2
   have p3 : wr.cell? ⟨b, off + k * 4 + 3, none⟩ = some (.slice A0 n0 c0) := (HB.out.cell hb).trans q3
   have hne : ¬ w.heap.size = b := by omega
   have hne' : ¬ b = w.heap.size := by omega
   have HX := Hd hx
   have HS := Hd hs
   have HK := Hd ok0
   have HN := Hd ok1
   obtain ⟨x0, hx0⟩ : ∃ z, x.k = z := ⟨_, rfl⟩
   obtain ⟨x1, hx1⟩ : ∃ z, x.n = z := ⟨_, rfl⟩
   obtain ⟨x2, hx2⟩ : ∃ z, x.rc = z := ⟨_, rfl⟩
   rw [hx0] at p0
   rw [hx1] at p1
   rw [hx2] at p2
   have E0 := Hd hx0
   have E1 := Hd hx1
   have E2 := Hd hx2
   clear hx hs ok0 ok1 q0 q1 q2 q3 hll hx0 hx1 hx2
   go_wp2_with fail
   obtain ⟨w1, hw1⟩ : ∃ w1, (((wr.setCell ⟨w.heap.size, k * 4, none⟩ (.int .i64 x0)).setCell ⟨w.heap.size, k * 4 + 1, none⟩ (.int .i64 x1)).setCell ⟨w.heap.size, k * 4 + 2, none⟩ (.bool x2)).setCell ⟨w.heap.size, k * 4 + 3, none⟩ (.slice A0 n0 c0) = w1 := ⟨_, rfl⟩
   rw [hw1]
   have HW : Hid (w1 = (((wr.setCell ⟨w.heap.size, k * 4, none⟩ (.int .i64 x.k)).setCell ⟨w.heap.size, k * 4 + 1, none⟩ (.int .i64 x.n)).setCell ⟨w.heap.size, k * 4 + 2, none⟩ (.bool x.rc)).setCell ⟨w.heap.size, k * 4 + 3, none⟩ (.slice A0 n0 c0)) := by
    show w1 = _
    rw [E0.out, E1.out, E2.out, hw1]
   have hb1 : Below w.heap.size w w1 := by
    rw [← hw1]
    exact below_set (below_set (below_set (below_set HB.out (Nat.le_refl _) _) (Nat.le_refl _) _) (Nat.le_refl _) _) (Nat.le_refl _) _
   have hown1 := ((((HO.out.stored (k * 4) (.int .i64 x0)).1.stored (k * 4 + 1) (.int .i64 x1)).1.stored (k * 4 + 2) (.bool x2)).1.stored (k * 4 + 3) (.slice A0 n0 c0)).1
   rw [hw1] at hown1
   clear hw1 d0 d1 d2 d3 f0 f1 f2 f3 p0 p1 p2 p3
   refine Calls.mono (c1 w.heap.size A0 n0 c0 x.tr w1 (HS.out.keep hb1)).out ?_
   rintro e w2 ⟨A', m', c', rfl, hs2, hb2, hat⟩
   have hown2 := own_keep hown1 hb2
   obtain ⟨u3, d3⟩ : ∃ u, w2.cell? ⟨w.heap.size, k * 4 + 3, none⟩ = some u := by
    have := hown2.cellAt (k * 4 + 3) (by omega)
    have hl4 := hown2.1
    exact ⟨_, this.trans (List.getElem?_eq_getElem (by omega))⟩
   have f3 := hown2.frozenAt (k * 4 + 3)
   have X := Hd (copyL_step hlt HX.out HG.out HO.out HF.out HB.out HW.out hs2 hb2 hat HK.out HN.out)
   have hsz2 : Hid (w.heap.size < w2.heap.size) := by
    show _ < _
    have h1 := hb2.size
    have h2 := HG.out
    have h3 : w1.heap.size = wr.heap.size := by rw [HW.out]; simp
    omega
   clear hown1 hown2 hs2 hb2 hat hb1
   go_wp2_with fail
   go_roundw
   case rel =>
    obtain ⟨cells', h1, h2, h3⟩ := X.out
    exact ⟨k + 1, cells', by go_num, by omega, h1, h2, h3, by simpa using hsz2.out⟩
   case measure => simp [intOf]; omega
  ·have hkn : k = n := by omega
   subst hkn
   go_wp2
   go_ret
   exact ⟨_, cells, rfl, HO.out, HF.out, HB.out⟩
end Bm
end Go.Proofs.YtobmjnmcjddhcaaGreat
