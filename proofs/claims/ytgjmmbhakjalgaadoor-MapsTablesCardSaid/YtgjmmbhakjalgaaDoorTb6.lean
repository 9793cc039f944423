/-
  Tables of sets: a table's bytes behind others (maps.Put).
-/
import Derived.Test.YtgjmmbhakjalgaaDoorTb4
import Derived.Test.YtgjmmbhakjalgaaDoorTb5
namespace Go.Proofs.YtgjmmbhakjalgaaDoor
open Go.RowKit
set_option linter.unusedSimpArgs false
set_option linter.unusedVariables false
def runB (p : W4 × Nat) : List Nat := putM p.2 ++ putM p.1.a0 ++ putM p.1.a1 ++ putM p.1.a2 ++ putM p.1.a3
def putsM (ps : List (W4 × Nat)) : List Nat := ps.flatMap runB
theorem putM_len (n : Nat) : (putM n).length ≤ 10 := (putF_len 9 n).2
theorem runB_len (p : W4 × Nat) : (runB p).length ≤ 50 := by
  have h0 := putM_len p.2
  have h1 := putM_len p.1.a0
  have h2 := putM_len p.1.a1
  have h3 := putM_len p.1.a2
  have h4 := putM_len p.1.a3
  unfold runB
  simp only [List.length_append]
  omega
theorem putsM_len (ps : List (W4 × Nat)) : (putsM ps).length ≤ 50 * ps.length := by
  induction ps with
  | nil => exact Nat.le_refl _
  | cons p ps ih =>
    have h := runB_len p
    unfold putsM at *
    rw [List.flatMap_cons, List.length_append, List.length_cons]
    omega
theorem putsM_snoc (ps : List (W4 × Nat)) (k : Nat) (p : W4 × Nat) (h : ps[k]? = some p) : putsM (ps.take k) ++ runB p = putsM (ps.take (k + 1)) := by
  unfold putsM
  rw [← take_snoc' ps k p h, List.flatMap_append]
  simp
theorem cntStep_mem {out : List (W4 × Nat)} {s : W4} {p : W4 × Nat} (h : p ∈ cntStep out s) : (p.1 = s ∧ p.2 = 1) ∨ p ∈ out ∨ ∃ q ∈ out, p.1 = q.1 ∧ p.2 = q.2 + 1 := by
  unfold cntStep at h
  split at h
  · left
    simp at h
    rw [h]
    exact ⟨rfl, rfl⟩
  · rename_i q hq
    have hm : q ∈ out := List.mem_of_getLast? hq
    split at h
    · rcases List.mem_append.1 h with h | h
      · exact .inr (.inl (List.dropLast_subset _ h))
      · simp at h
        exact .inr (.inr ⟨q, hm, by rw [h], by rw [h]⟩)
    · rcases List.mem_append.1 h with h | h
      · exact .inr (.inl h)
      · simp at h
        left
        rw [h]
        exact ⟨rfl, rfl⟩
theorem cntM_mem (xs : List W4) : ∀ k, ∀ p ∈ cntM (xs.take k), p.1 ∈ xs ∧ p.2 ≤ k := by
  intro k
  induction k with
  | zero => intro p hp; simp [cntM] at hp
  | succ k ih =>
    by_cases hk : k < xs.length
    · have e : xs.take (k + 1) = xs.take k ++ [xs[k]] := (take_snoc' xs k xs[k] (List.getElem?_eq_getElem hk)).symm
      rw [e, cntM_snoc]
      intro p hp
      rcases cntStep_mem hp with ⟨h1, h2⟩ | h | ⟨q, hq, h1, h2⟩
      · exact ⟨by rw [h1]; exact List.getElem_mem hk, by omega⟩
      · have := ih p h
        exact ⟨this.1, by omega⟩
      · have := ih q hq
        exact ⟨by rw [h1]; exact this.1, by omega⟩
    · have e : xs.take (k + 1) = xs.take k := by rw [List.take_of_length_le (by omega), List.take_of_length_le (by omega)]
      rw [e]
      intro p hp
      have := ih p hp
      exact ⟨this.1, by omega⟩
/-- While the bytes are put: the row of bytes, and what stays. -/
structure PX (base : Nat) (A0 : Option Addr) (w w1 : World) (A : Option Addr) (k c : Nat) (l : List Nat) (W : World) : Prop where
  own : W.ownsRow base 5 1 (.slice A k c) k (rowB l)
  kp : Kp (fun j => A0 = some ⟨j, 0, none⟩ ∨ w1.heap.size ≤ j) w1 W
  ab : A = A0 ∨ ∃ j, A = some ⟨j, 0, none⟩ ∧ w1.heap.size ≤ j
  bw : Below base w W
  sz : base ≤ W.heap.size
theorem PX.alloc {base : Nat} {A0 : Option Addr} {w w1 : World} {A : Option Addr} {k c : Nat} {l : List Nat} {W : World} (h : PX base A0 w w1 A k c l W) (o : Obj) : PX base A0 w w1 A k c l (W.alloc o) :=
  ⟨h.own.alloc o, h.kp.alloc o, h.ab, h.bw.alloc h.sz o, by have := h.sz; simp; omega⟩
theorem PX.put {base : Nat} {A0 : Option Addr} {w w1 : World} {A : Option Addr} {k c : Nat} {l : List Nat} {W : World} (h : PX base A0 w w1 A k c l W) {k' : Nat} {l' : List Nat} {e : Ending} {W' : World} (hp : IsPut base A k' l' W e W') :
    ∃ A' c', e = .returned (.slice A' k' c') ∧ PX base A0 w w1 A' k' c' l' W' ∧ Kp (fun j => A = some ⟨j, 0, none⟩) W W' := by
  obtain ⟨A', c', rfl, hown, hk, hA⟩ := hp
  have hsz := hk.size
  have hs2 := h.sz
  have hab : ∀ j, A = some ⟨j, 0, none⟩ → A0 = some ⟨j, 0, none⟩ ∨ w1.heap.size ≤ j := fun j hj => by
    rcases h.ab with e | ⟨j', e, h'⟩
    · exact .inl (by rw [← e]; exact hj)
    · rw [e] at hj
      injection hj with hj
      injection hj with hj
      omega
  refine ⟨A', c', rfl, ⟨hown, h.kp.trans' hk (fun j hj hs => hs.elim id fun hs => hab j hs), ?_, ?_, by omega⟩, hk⟩
  · rcases hA with hA | ⟨j', hA, hj'⟩
    · rw [hA]; exact h.ab
    · exact .inr ⟨j', hA, by have := h.kp.size; omega⟩
  · exact h.bw.trans (hk.below h.sz fun j hj => by
      rcases own_form h.own with ⟨A2, c2, e2, _, h2⟩
      simp only [Value.slice.injEq, true_and] at e2
      obtain ⟨rfl, rfl⟩ := e2
      obtain ⟨g, e3, h3, _⟩ := h2 _ hj
      injection e3 with e3
      omega)
theorem PX.lt {base : Nat} {A0 : Option Addr} {w w1 : World} {A : Option Addr} {k c : Nat} {l : List Nat} {W : World} (h : PX base A0 w w1 A k c l W) {j : Nat} (hj : A = some ⟨j, 0, none⟩) : j < W.heap.size := by
  rcases own_form h.own with ⟨A2, c2, e2, _, h2⟩
  simp only [Value.slice.injEq, true_and] at e2
  obtain ⟨rfl, rfl⟩ := e2
  obtain ⟨g, e3, _, h3⟩ := h2 _ hj
  injection e3 with e3
  omega
set_option maxRecDepth 100000 in
set_option maxHeartbeats 4000000 in
theorem mPut_any (base m c0 : Nat) (A0 : Option Addr) (ys : List Nat) (A : Option Addr) (n c : Nat) (xs : List W4) (w : World) (h : SlW w w.heap.size A n c xs) (hok : ∀ x ∈ xs, x.Ok) (hn : n ≤ 100) (hm : m ≤ 10) (hbase : base ≤ w.heap.size) (hown : w.ownsRow base 5 1 (.slice A0 m c0) m (rowB ys)) :
    Calls Tryd.prog 11 #[.slice A0 m c0, .slice A n c] w fun e w' => ∃ A' k' c', e = .returned (.slice A' k' c') ∧ k' = m + (putsM (cntM xs)).length ∧ k' ≤ 6000 ∧ w'.ownsRow base 5 1 (.slice A' k' c') k' (rowB (ys ++ putsM (cntM xs))) ∧ Kp (fun j => A0 = some ⟨j, 0, none⟩) w w' := by
  have cC := Lib.hid (count_any A n c xs w h hn)
  have HOK := Lib.hid hok
  have HLN : Hid (xs.length = n) := Lib.hid h.1
  have HOWN := Lib.hid hown
  have hall : ∀ p ∈ cntM xs, p.1.Ok ∧ p.2 ≤ 100 := fun p hp => by
    have := cntM_mem xs n p (by rw [List.take_of_length_le (by have := HLN.out; omega)]; exact hp)
    exact ⟨HOK.out _ this.1, by omega⟩
  have HALL := Lib.hid hall
  generalize cntM xs = ps at *
  have HBS := Lib.hid hbase
  have HML : Hid (ys.length = m) := Lib.hid (by have := hown.1; simpa [rowB] using this)
  clear h hok hown hbase hall
  go_enter Tryd.func11, Tryd.ntmps11
  go_wp2_with fail
  refine cC.out.mono ?_
  rintro e w1 ⟨A1, k, c1, rfl, hlen, hkn, hrow, hb1⟩
  have HP0 : Hid (PX base A0 w w1 A0 m c0 (ys ++ putsM (ps.take 0)) w1) := Lib.hid ⟨by
      show w1.ownsRow base 5 1 (.slice A0 m c0) m (rowB (ys ++ []))
      rw [List.append_nil]
      exact own_keep HOWN.out hb1, Kp.refl _ _, .inl rfl, hb1.mono HBS.out, by have := hb1.size; have := HBS.out; omega⟩
  have HROW := Lib.hid hrow
  have HA0 : Hid (∀ j, A0 = some ⟨j, 0, none⟩ → j < w.heap.size) := Lib.hid fun j hj => by
      rcases own_form HOWN.out with ⟨A2, c2, e2, _, h2⟩
      simp only [Value.slice.injEq, true_and] at e2
      obtain ⟨rfl, rfl⟩ := e2
      obtain ⟨g, e3, _, h3⟩ := h2 _ hj
      injection e3 with e3
      omega
  have HB1 := Lib.hid hb1
  have HLEN := Lib.hid hlen
  clear hrow hb1 hlen cC
  go_wp2_with fail
  go_loopw [0, 12] (fun b i wr => ∃ (q kb cb : Nat) (Ab : Option Addr), b = .slice Ab kb cb ∧ i = .int .i64 q ∧ q ≤ k ∧ kb ≤ 10 + 50 * q ∧ Hid (PX base A0 w w1 Ab kb cb (ys ++ putsM (ps.take q)) wr)) (fun _ i _ => k - (intOf i).toNat)
  case atStart => exact ⟨0, m, c0, A0, rfl, rfl, Nat.zero_le _, by omega, HP0⟩
  case round =>
    obtain ⟨q, kb, cb, Ab, rfl, rfl, hq, hkb, HP⟩ := hrel
    by_cases hlt : q < k
    · obtain ⟨p, hp⟩ : ∃ p, ps[q]? = some p := ⟨ps[q]'(by have := HLEN.out; omega), List.getElem?_eq_getElem _⟩
      obtain ⟨⟨x0, x1, x2, x3⟩, mm⟩ := p
      obtain ⟨hx, hmm⟩ := HALL.out _ (List.mem_of_getElem? hp)
      obtain ⟨b0, b1, b2, b3⟩ : x0 < 18446744073709551616 ∧ x1 < 18446744073709551616 ∧ x2 < 18446744073709551616 ∧ x3 < 18446744073709551616 := ⟨hx.h0, hx.h1, hx.h2, hx.h3⟩
      have hmm' : mm ≤ 100 := hmm
      obtain ⟨rr, rfl⟩ : ∃ rr, A1 = some ⟨rr, 0, none⟩ := by
        obtain ⟨A2, c2, e, hA0, hA1⟩ := own_form HROW.out
        simp only [Value.slice.injEq, true_and] at e
        obtain ⟨rfl, rfl⟩ := e
        cases A1 with
        | none => exact absurd (hA0 rfl) (by omega)
        | some ad => obtain ⟨g9, e9, _⟩ := hA1 ad rfl; exact ⟨g9, by rw [e9]⟩
      have hrr := HROW.out.lt rr rfl
      have key : ∀ j v, (cellsC (⟨x0, x1, x2, x3⟩, mm))[j]? = some v → j < 5 → wr.cell? ⟨rr, q * 5 + j, none⟩ = some v := fun j v hj hj5 => by
        refine HP.out.kp.cellv (p := ⟨rr, q * 5 + j, none⟩) ?_ (fun hs => hs.elim (fun hs => by have := HA0.out rr hs; omega) fun hs => by have hs' : w1.heap.size ≤ rr := hs; omega)
        rw [HROW.out.cellAt (q * 5 + j) (by omega)]
        exact flatMap_at cellsC (fun _ => rfl) ps q j _ v hj5 hp hj
      have d0 : wr.cell? ⟨rr, q * 5, none⟩ = some (.int .u64 (x0 : Int)) := key 0 _ rfl (by omega)
      have d1 : wr.cell? ⟨rr, q * 5 + 1, none⟩ = some (.int .u64 (x1 : Int)) := key 1 _ rfl (by omega)
      have d2 : wr.cell? ⟨rr, q * 5 + 2, none⟩ = some (.int .u64 (x2 : Int)) := key 2 _ rfl (by omega)
      have d3 : wr.cell? ⟨rr, q * 5 + 3, none⟩ = some (.int .u64 (x3 : Int)) := key 3 _ rfl (by omega)
      have d4 : wr.cell? ⟨rr, q * 5 + 4, none⟩ = some (.int .i64 (mm : Int)) := key 4 _ rfl (by omega)
      have hq0 : (0 : Int) ≤ (q : Int) := by omega
      have hqk : (q : Int) < (k : Int) := by omega
      obtain ⟨w2, hw2⟩ : ∃ w2, wr.alloc (.cells #[.int .u64 (x0 : Int), .int .u64 (x1 : Int), .int .u64 (x2 : Int), .int .u64 (x3 : Int), .int .i64 (mm : Int)] 45) = w2 := ⟨_, rfl⟩
      have hcl : Cells w2 wr.heap.size [.int .u64 (x0 : Int), .int .u64 (x1 : Int), .int .u64 (x2 : Int), .int .u64 (x3 : Int), .int .i64 (mm : Int)] := by rw [← hw2]; exact Cells.new wr [.int .u64 (x0 : Int), .int .u64 (x1 : Int), .int .u64 (x2 : Int), .int .u64 (x3 : Int), .int .i64 (mm : Int)] _
      have z4 : w2.cell? ⟨wr.heap.size, 4, none⟩ = some (.int .i64 (mm : Int)) := hcl.at_ 4 _ rfl
      have HP2 : Hid (PX base A0 w w1 Ab kb cb (ys ++ putsM (ps.take q)) w2) := Lib.hid (by rw [← hw2]; exact HP.out.alloc _)
      have hnb : Hid (¬ Ab = some ⟨wr.heap.size, 0, none⟩) := Lib.hid fun e => by have := HP.out.lt e; omega
      have HX : Hid (ys ++ putsM (ps.take q) ++ putM mm ++ putM x0 ++ putM x1 ++ putM x2 ++ putM x3 = ys ++ putsM (ps.take (q + 1))) := Lib.hid (by rw [← putsM_snoc ps q _ hp]; simp [runB])
      have l4 := putM_len mm
      have l0 := putM_len x0
      have l1 := putM_len x1
      have l2 := putM_len x2
      have l3 := putM_len x3
      have hcu : (0 : Int) ≤ (mm : Int) := by omega
      have i0 : ∀ w, (Instr.index 27 (.agg #[.int .u64 (x0 : Int), .int .u64 (x1 : Int), .int .u64 (x2 : Int), .int .u64 (x3 : Int)]) (.int .i64 0)).run Tryd.prog w = .ok (.int .u64 (x0 : Int)) w := fun w => by kernel_rfl
      have i1 : ∀ w, (Instr.index 27 (.agg #[.int .u64 (x0 : Int), .int .u64 (x1 : Int), .int .u64 (x2 : Int), .int .u64 (x3 : Int)]) (.int .i64 1)).run Tryd.prog w = .ok (.int .u64 (x1 : Int)) w := fun w => by kernel_rfl
      have i2 : ∀ w, (Instr.index 27 (.agg #[.int .u64 (x0 : Int), .int .u64 (x1 : Int), .int .u64 (x2 : Int), .int .u64 (x3 : Int)]) (.int .i64 2)).run Tryd.prog w = .ok (.int .u64 (x2 : Int)) w := fun w => by kernel_rfl
      have i3 : ∀ w, (Instr.index 27 (.agg #[.int .u64 (x0 : Int), .int .u64 (x1 : Int), .int .u64 (x2 : Int), .int .u64 (x3 : Int)]) (.int .i64 3)).run Tryd.prog w = .ok (.int .u64 (x3 : Int)) w := fun w => by kernel_rfl
      have cP := Lib.hid (uvar_Put_kp base kb Ab cb (ys ++ putsM (ps.take q)) mm w2 (by omega) (by omega) HP2.out.sz HP2.out.own)
      generalize ys ++ putsM (ps.take q) = acc at *
      clear hx hmm key hrr hp HP
      go_wp2_with fail
      clear d0 d1 d2 d3 d4 hw2 z4
      refine cP.out.mono ?_
      rintro e w3 hput
      obtain ⟨A3, c3, rfl, hP3, hk3⟩ := HP2.out.put hput
      have hc3 := hcl.kp hk3 (fun e => hnb.out e)
      have z0 : w3.cell? ⟨wr.heap.size, 0, none⟩ = some (.int .u64 (x0 : Int)) := hc3.at_ 0 _ rfl
      have z1 : w3.cell? ⟨wr.heap.size, 1, none⟩ = some (.int .u64 (x1 : Int)) := hc3.at_ 1 _ rfl
      have z2 : w3.cell? ⟨wr.heap.size, 2, none⟩ = some (.int .u64 (x2 : Int)) := hc3.at_ 2 _ rfl
      have z3 : w3.cell? ⟨wr.heap.size, 3, none⟩ = some (.int .u64 (x3 : Int)) := hc3.at_ 3 _ rfl
      obtain ⟨k3, hk3E⟩ : ∃ k3, kb + (putM mm).length = k3 := ⟨_, rfl⟩
      rw [hk3E] at hP3 ⊢
      have hkk3 : k3 ≤ kb + 10 := by omega
      have HP3 := Lib.hid hP3
      clear hput hP3 hk3 hc3 hcl hnb cP HP2 hk3E
      have cP := Lib.hid (uvar_Put_kp base k3 A3 c3 (acc ++ putM mm) x0 w3 b0 (by omega) HP3.out.sz HP3.out.own)
      go_wp2_with fail
      refine wp_loop_rounds 5 ?_
      rw [rounds_succ]
      go_wp2_with fail
      clear z0 z1 z2 z3

      refine cP.out.mono ?_
      rintro e w4 hput
      obtain ⟨A4, c4, rfl, hP4, _⟩ := HP3.out.put hput
      obtain ⟨k4, hkE⟩ : ∃ k9, k3 + (putM x0).length = k9 := ⟨_, rfl⟩
      rw [hkE] at hP4 ⊢
      have hkk4 : k4 ≤ k3 + 10 := by omega
      have HP4 := Lib.hid hP4
      clear hput hP4 cP HP3 hkE

      have cP := Lib.hid (uvar_Put_kp base k4 A4 c4 (acc ++ putM mm ++ putM x0) x1 w4 b1 (by omega) HP4.out.sz HP4.out.own)
      go_wp2_with fail
      rw [rounds_succ]
      go_wp2_with fail

      refine cP.out.mono ?_
      rintro e w5 hput
      obtain ⟨A5, c5, rfl, hP5, _⟩ := HP4.out.put hput
      obtain ⟨k5, hkE⟩ : ∃ k9, k4 + (putM x1).length = k9 := ⟨_, rfl⟩
      rw [hkE] at hP5 ⊢
      have hkk5 : k5 ≤ k4 + 10 := by omega
      have HP5 := Lib.hid hP5
      clear hput hP5 cP HP4 hkE

      have cP := Lib.hid (uvar_Put_kp base k5 A5 c5 (acc ++ putM mm ++ putM x0 ++ putM x1) x2 w5 b2 (by omega) HP5.out.sz HP5.out.own)
      go_wp2_with fail
      rw [rounds_succ]
      go_wp2_with fail

      refine cP.out.mono ?_
      rintro e w6 hput
      obtain ⟨A6, c6, rfl, hP6, _⟩ := HP5.out.put hput
      obtain ⟨k6, hkE⟩ : ∃ k9, k5 + (putM x2).length = k9 := ⟨_, rfl⟩
      rw [hkE] at hP6 ⊢
      have hkk6 : k6 ≤ k5 + 10 := by omega
      have HP6 := Lib.hid hP6
      clear hput hP6 cP HP5 hkE

      have cP := Lib.hid (uvar_Put_kp base k6 A6 c6 (acc ++ putM mm ++ putM x0 ++ putM x1 ++ putM x2) x3 w6 b3 (by omega) HP6.out.sz HP6.out.own)
      go_wp2_with fail
      rw [rounds_succ]
      go_wp2_with fail

      refine cP.out.mono ?_
      rintro e w7 hput
      obtain ⟨A7, c7, rfl, hP7, _⟩ := HP6.out.put hput
      obtain ⟨k7, hkE⟩ : ∃ k9, k6 + (putM x3).length = k9 := ⟨_, rfl⟩
      rw [hkE] at hP7 ⊢
      have hkk7 : k7 ≤ k6 + 10 := by omega
      have HP7 := Lib.hid hP7
      clear hput hP7 cP HP6 hkE

      have HQ : Hid (PX base A0 w w1 A7 k7 c7 (ys ++ putsM (ps.take (q + 1))) w7) := Lib.hid (by rw [← HX.out]; exact HP7.out)
      clear HP7
      go_wp2_with fail
      rw [rounds_succ]
      go_wp2_with fail
      go_roundw
      case rel => exact ⟨q + 1, k7, c7, A7, rfl, by go_num, by omega, by omega, HQ⟩
      case measure => simp [intOf]; omega
    · obtain rfl : q = k := by omega
      go_wp2_with fail
      go_ret
      have hP := HP.out
      rw [List.take_of_length_le (by have := HLEN.out; omega)] at hP
      refine ⟨Ab, kb, cb, rfl, ?_, by omega, hP.own, ((Kp.refl (fun _ => False) w).ofBelow HB1.out).trans' hP.kp fun j hj hs => hs.elim (fun h => h.elim) fun hs => hs.elim id fun hs => by have := HB1.out.size; omega⟩
      have h1 := hP.own.1
      have h2 := HML.out
      simp [rowB] at h1
      omega
end Go.Proofs.YtgjmmbhakjalgaaDoor
