import Derived.Test.YtobmjnmcjddhcaaGreatCB1
import Derived.ArgAppend
import Derived.Deep.MidRow
set_option linter.unusedSimpArgs false
set_option linter.unusedVariables false
namespace Go.Proofs.YtobmjnmcjddhcaaGreat
open Go.RowKit
structure QuW (W : World) (base : Nat) (A : Option Addr) (n c : Nat) (xs : List Int) : Prop where
 len : xs.length = n
 le : n ≤ c
 mx : c ≤ maxLen
 at_ : (A = none ∧ n = 0 ∧ c = 0) ∨ ∃ g o, A = some ⟨g, o, none⟩ ∧ base ≤ g ∧ g < W.heap.size ∧ W.there g o c ∧ W.rangeAt g o (rowI xs)
theorem QuW.kp {S : Nat → Prop} {W W' : World} {base : Nat} {A : Option Addr} {n c : Nat} {xs : List Int} (h : QuW W base A n c xs) (hk : Kp S W W') (hS : ∀ g o, A = some ⟨g, o, none⟩ → ¬ S g) : QuW W' base A n c xs := by
 refine ⟨h.len, h.le, h.mx, ?_⟩
 rcases h.at_ with h1 | ⟨g, o, hA, hb, hlt, ht, hr⟩
 ·exact .inl h1
 ·have hn := hS g o hA
  exact .inr ⟨g, o, hA, hb, Nat.lt_of_lt_of_le hlt hk.size, fun j hj => ⟨by rw [hk.cell (p := ⟨g, o + j, none⟩) hlt hn]; exact (ht j hj).1, by rw [hk.frozen (p := ⟨g, o + j, none⟩) hlt hn]; exact (ht j hj).2⟩, fun j v hv => hk.cellv (hr j v hv) hn⟩
theorem QuW.on {W W' : World} {base : Nat} {A : Option Addr} {n c : Nat} {xs : List Int} (h : QuW W base A n c xs) (hb : Below W.heap.size W W') : QuW W' base A n c xs := h.kp ((Kp.refl (fun _ => False) W).ofBelow hb) fun _ _ _ h => h
theorem QuW.ofOwn {W : World} {base : Nat} {A : Option Addr} {n c : Nat} {xs : List Int} (h : W.ownsRow base 3 1 (.slice A n c) n (rowI xs)) : QuW W base A n c xs := by
 have hl := h.1
 rcases h.2 with ⟨hv, h0⟩ | ⟨g, cap, cur, hv, h1, h2, h3, h4, h5, h6⟩
 ·simp only [Value.slice.injEq] at hv
  obtain ⟨rfl, rfl, rfl⟩ := hv
  exact ⟨by simpa [rowI] using hl, Nat.le_refl _, by unfold maxLen; omega, .inl ⟨rfl, rfl, rfl⟩⟩
 ·simp only [Value.slice.injEq, true_and] at hv
  obtain ⟨rfl, rfl⟩ := hv
  refine ⟨by simpa [rowI] using hl, h3, h4, .inr ⟨g, 0, rfl, h1, (Array.getElem?_eq_some_iff.1 h2).1, fun j hj => ?_, fun j v hv => ?_⟩⟩
  ·refine ⟨?_, by simp [World.frozen?, h2]⟩
   simp only [World.cell?, h2, Nat.zero_add]
   have hj2 : j < cur.size := by omega
   simp [hj2]
  ·have hj := (List.getElem?_eq_some_iff.1 hv).1
   rw [← h6, List.getElem?_take, if_pos (by rw [hl] at hj; omega)] at hv
   simp only [World.cell?, h2, Nat.zero_add]
   simpa using hv
theorem QuW.tail {W : World} {base : Nat} {g o n c : Nat} {x : Int} {xs : List Int} (h : QuW W base (some ⟨g, o, none⟩) n c (x :: xs)) {A : Option Addr} (hA : A = some ⟨g, o + 1, none⟩ ∨ (A = some ⟨g, o, none⟩ ∧ c = 1)) : QuW W base A (n - 1) (c - 1) xs := by
 have hl := h.len
 have hle := h.le
 have hmx := h.mx
 simp at hl
 refine ⟨by omega, by omega, by omega, ?_⟩
 rcases h.at_ with h1 | ⟨g', o', hA', hb, hlt, ht, hr⟩
 ·cases h1.1
 ·injection hA' with hA'
  injection hA' with e1 e2
  subst e1
  subst e2
  rcases hA with rfl | ⟨rfl, hc⟩
  ·refine .inr ⟨g, o + 1, rfl, hb, hlt, fun j hj => ?_, fun j v hv => ?_⟩
   ·have := ht (1 + j) (by omega)
    rwa [← Nat.add_assoc] at this
   ·have := hr (j + 1) v (by simpa [rowI] using hv)
    rwa [Nat.add_comm j 1, ← Nat.add_assoc] at this
  ·refine .inr ⟨g, o, rfl, hb, hlt, fun j hj => by omega, fun j v hv => ?_⟩
   have := (List.getElem?_eq_some_iff.1 hv).1
   have e : xs = [] := List.eq_nil_of_length_eq_zero (by omega)
   subst e
   simp [rowI] at this
section
variable {P : Program} (w : World)
theorem run_append_qu (base : Nat) (t ty e : TypeId) (i : TypeInfo) (z : Value) (ht : P.underlying t = some (.slice e)) (hi : P.info? e = some i) (hz : i.zero = some z)
  (hsize : i.size = 1) (hby : i.bytes = 8) (hzs : z.cells.size = 1) (he : e = 3)
  (A : Option Addr) (n c : Nat) (xs : List Int) (hq : QuW w base A n c xs) (B : Option Addr) (m c2 : Nat) (ys : List Int) (hr : SrcCells w B m 1 (rowI ys)) (h63 : n + m ≤ 1000000000) (hbase : base ≤ w.heap.size) :
  ∃ A' c' w', (Builtin.append_ #[t, t] ty #[.slice A n c, .slice B m c2]).run P w = .ok (.slice A' (n + m) c') w' ∧ QuW w' base A' (n + m) c' (xs ++ ys) ∧ Kp (fun j => ∃ o, A = some ⟨j, o, none⟩) w w' := by
 subst he
 have h1 : ∀ u ∈ rowI ys, u.oneCell' = true := fun u hu => by
  obtain ⟨v, _, rfl⟩ := List.mem_map.1 hu
  rfl
 have hlx := hq.len
 have hly : ys.length = m := by have := hr.1; simpa [rowI] using this
 have happ : rowI xs ++ rowI ys = rowI (xs ++ ys) := by simp [rowI]
 rcases hq.at_ with ⟨rfl, rfl, rfl⟩ | ⟨g, o, rfl, hb, hlt, hth, hra⟩
 ·have hx : xs = [] := List.eq_nil_of_length_eq_zero hlx
  subst hx
  obtain ⟨v', w', hrun, h2, h3, h4⟩ := run_append_src (P := P) w base t ty 3 i z 1 8 ht hi hz hsize hby hzs (by decide) (.slice none 0 0) 0 [] ⟨rfl, .inl ⟨rfl, rfl⟩⟩ B m c2 (rowI ys) hr h1 (by unfold maxLen; omega) (by omega) hbase
  obtain ⟨A', c', rfl, _⟩ := own_form h2
  exact ⟨A', c', w', hrun, QuW.ofOwn (by simpa using h2), ⟨h3.os, h3.tape, h3.output, h3.size, fun k hk _ => h3.block k hk (by simp [Value.ownBlock])⟩⟩
 ·rcases B with _ | ad
  ·have hm := hr.2.1 rfl
   subst hm
   have hy : ys = [] := List.eq_nil_of_length_eq_zero hly
   subst hy
   refine ⟨some ⟨g, o, none⟩, c, w, ?_, by simpa using hq, Kp.refl _ _⟩
   have hle := hq.le
   simp [Builtin.append_, run_underlying ht, sizeOf, typeInfo, hi, Builtin.lenOf, Builtin.firstCells, hle, storeCells]
  ·have hnews : ∀ j u, (rowI ys)[j]? = some u → w.cell? (ad.add j) = some u := hr.2.2 ad rfl
   have hlr : (rowI ys).length = m * 1 := by simp [rowI, hly]
   by_cases hroom : n + m ≤ c
   ·have hrun := run_append_room_cells (P := P) w t ty 3 i ht hi g o n c ad m c2 (rowI ys) (by rw [hsize]; exact hlr) hnews h1 hroom (fun j hj => by
     have := (hth (n + j) (by rw [hlr] at hj; omega)).1
     rw [hsize, Nat.mul_one, Nat.add_assoc]
     exact this) (fun j hj => by
     have := (hth (n + j) (by rw [hlr] at hj; omega)).2
     rw [hsize, Nat.mul_one, Nat.add_assoc]
     exact this)
    rw [hsize, Nat.mul_one] at hrun
    refine ⟨_, _, _, hrun, ⟨by simp; omega, hroom, hq.mx, .inr ⟨g, o, rfl, hb, ?_, World.there_setCells hth _ _ _, fun j v hv => ?_⟩⟩, (Kp.refl _ w).setCells (fun _ => ⟨o, rfl⟩) _ _⟩
    ·exact Nat.lt_of_lt_of_le hlt ((Kp.refl (fun _ => True) w).setCells (g := g) (fun _ => trivial) (o + n) (rowI ys)).size
    ·rw [← happ] at hv
     by_cases hj : j < n
     ·rw [List.getElem?_append_left (by simpa [rowI, hlx] using hj)] at hv
      rw [World.cell?_setCells_out _ _ _ _ _ (fun _ _ => .inl (by show o + j < o + n; omega))]
      exact hra j v hv
     ·rw [List.getElem?_append_right (by simp [rowI, hlx]; omega)] at hv
      have hs := World.rangeAt_setCells_same w g (o + n) (rowI ys) (fun k hk => by
       have := hth (n + k) (by rw [hlr] at hk; omega)
       rwa [← Nat.add_assoc] at this)
      have := hs (j - (rowI xs).length) v hv
      have e : o + n + (j - (rowI xs).length) = o + j := by simp [rowI, hlx]; omega
      rwa [e] at this
   ·obtain ⟨v', w', hrun, h2, h3⟩ := run_append_arg_grows (P := P) w t ty 3 i z 1 8 ht hi hz hsize hby hzs (by decide) ⟨g, o, none⟩ n c (rowI xs) (by simp [rowI, hlx]) (fun j u hj => by rw [Addr.add_mid]; exact hra j u hj) ad m c2 (rowI ys) hlr hnews (by omega) (by unfold maxLen; omega) (by omega)
    rw [happ] at h2
    obtain ⟨A', c', rfl, _⟩ := own_form h2
    exact ⟨A', c', w', hrun, QuW.ofOwn (h2.mono hbase), ⟨h3.os, h3.tape, h3.output, h3.size, fun k hk _ => h3.block k hk (by simp)⟩⟩
theorem wp_append_qu {o : Oper} {a : Act} {K : Act → World → Prop} {Q : Exit → Act → World → Prop} (s x : Operand) (t : TypeId)
  (ho : o.op = .call { callee := .builtin .append, args := #[s, x], argTypes := #[t, t] })
  (base : Nat) (e : TypeId) (i : TypeInfo) (z : Value) (ht : P.underlying t = some (.slice e)) (hi : P.info? e = some i) (hz : i.zero = some z)
  (hsize : i.size = 1) (hby : i.bytes = 8) (hzs : z.cells.size = 1) (he : e = 3)
  (A : Option Addr) (n c : Nat) (xs : List Int) (hs : a.eval s = .slice A n c) (hq : QuW w base A n c xs) (B : Option Addr) (m c2 : Nat) (ys : List Int) (hx : a.eval x = .slice B m c2) (hr : SrcCells w B m 1 (rowI ys)) (h63 : n + m ≤ 1000000000) (hbase : base ≤ w.heap.size)
  (h : ∀ A' c' w', QuW w' base A' (n + m) c' (xs ++ ys) → Kp (fun j => ∃ o, A = some ⟨j, o, none⟩) w w' → K (a.put o.dst (.slice A' (n + m) c')) w') : o.wp P a w K Q := by
 obtain ⟨A', c', w', hrun, h2, h3⟩ := run_append_qu (P := P) w base t o.type e i z ht hi hz hsize hby hzs he A n c xs hq B m c2 ys hr h63 hbase
 unfold Oper.wp execOp
 simp only [ho, resolve, invoke, builtin, Sem.run_bind, Sem.run_pure, Result.andThen_ok, List.map_toArray, List.map_cons, List.map_nil, hs, hx, hrun]
 exact h A' c' w' h2 h3
theorem wpList_append_qu {ops : Array Oper} {rest : List Oper} {o : Oper} {a : Act} {Q : Exit → Act → World → Prop} (hgd : o.guard = none) (s x : Operand) (t : TypeId)
  (ho : o.op = .call { callee := .builtin .append, args := #[s, x], argTypes := #[t, t] })
  (base : Nat) (e : TypeId) (i : TypeInfo) (z : Value) (ht : P.underlying t = some (.slice e)) (hi : P.info? e = some i) (hz : i.zero = some z)
  (hsize : i.size = 1) (hby : i.bytes = 8) (hzs : z.cells.size = 1) (he : e = 3)
  (A : Option Addr) (n c : Nat) (xs : List Int) (hs : a.eval s = .slice A n c) (hq : QuW w base A n c xs) (B : Option Addr) (m c2 : Nat) (ys : List Int) (hx : a.eval x = .slice B m c2) (hr : SrcCells w B m 1 (rowI ys)) (h63 : n + m ≤ 1000000000) (hbase : base ≤ w.heap.size)
  (h : ∀ A' c' w', QuW w' base A' (n + m) c' (xs ++ ys) → Kp (fun j => ∃ o, A = some ⟨j, o, none⟩) w w' → wpList P ops Q rest (a.put o.dst (.slice A' (n + m) c')) w') : wpList P ops Q (o :: rest) a w :=
 wpList_plain hgd fun _ hK => wp_append_qu w s x t ho base e i z ht hi hz hsize hby hzs he A n c xs hs hq B m c2 ys hx hr h63 hbase fun A' c' w' h2 h3 => hK _ _ (h A' c' w' h2 h3)
end
end Go.Proofs.YtobmjnmcjddhcaaGreat
