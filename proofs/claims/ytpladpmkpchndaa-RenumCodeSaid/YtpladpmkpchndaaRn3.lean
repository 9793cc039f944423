/-
  Other numbers: the walks of Places and Spread, the document's and the program's.
-/
import Derived.Test.YtpladpmkpchndaaRn2
namespace Go.Proofs.Ytpladpmkpchndaa
open Go.RowKit
set_option linter.unusedSimpArgs false
set_option linter.unusedVariables false

/-- What is asked of the two lists: places that are there, each once; lengths that are small. -/
structure Okl (ps ls : List Int) (n a : Nat) : Prop where
  inn : ∀ k, k < a → 0 ≤ ps.getD k (-1) ∧ ps.getD k (-1) < (n : Int)
  dis : ∀ j k, j < k → k < a → ps.getD j (-1) ≠ ps.getD k (-1)
  len : ∀ x ∈ ls, 0 ≤ x ∧ x ≤ 50

set_option maxRecDepth 100000 in
set_option maxHeartbeats 1000000 in
theorem refPlaces_any (n a c a' c' : Nat) (A A' : Option Addr) (ps ls : List Int) (w : World) (hn : n ≤ 200) (h : SlI w w.heap.size A a c ps) (h' : SlI w w.heap.size A' a c' ls) (ha : a ≤ 1000) (hok : Okl ps ls n a) :
    Calls Try.prog 30 #[.int .i64 (n : Int), .slice A a c, .slice A' a c'] w (IsL (n + 1) (upTo (lk ps ls a) n) w) := by
  obtain ⟨i0, hi, hz0, hz1, hz2⟩ := info_parts info_int
  have H := Lib.hid h
  have H' := Lib.hid h'
  have HK := Lib.hid hok
  have hf : ∀ i, 0 ≤ lk ps ls a i ∧ lk ps ls a i ≤ 50 := fun i => lk_bd hok.len i a
  have HF := Lib.hid hf
  have c1 : ∀ (i : Nat) (W : World), Below w.heap.size w W → Hid (Calls Try.prog 74 #[.int .i64 (i : Int), .slice A a c, .slice A' a c'] W fun e w' => e = .returned (.int .i64 (lk ps ls a i)) ∧ W = w') :=
    fun i W hW => long_any i a c a' c' w.heap.size A A' ps ls W (h.keep hW (Nat.le_refl _)) (h'.keep hW (Nat.le_refl _)) ha hok.dis
  generalize hfd : lk ps ls a = f at *
  clear h h' hok hf hfd
  go_enter Try.func30, Try.ntmps30
  go_wp2_with fail
  go_loopw [7, 8, 9] (fun t o i wr => ∃ (j : Nat) (A1 : Option Addr) (cc : Nat), t = .int .i64 (psum f j) ∧ o = .slice A1 (j + 1) cc ∧ i = .int .i64 j ∧ j ≤ n ∧ Hid (wr.ownsRow w.heap.size 3 1 (.slice A1 (j + 1) cc) (j + 1) (rowI (upTo f j))) ∧ Hid (Below w.heap.size w wr) ∧ Hid (w.heap.size ≤ wr.heap.size)) (fun _ _ i _ => n - (intOf i).toNat)
  case atStart => exact ⟨0, _, _, rfl, rfl, rfl, Nat.zero_le _, Lib.hid (World.ownsRow_lit (base := w.heap.size) (e := 3) (size := 1) w #[.int .i64 0] 1 (Nat.le_refl _) (by unfold maxLen; omega) rfl), Lib.hid ((Below.refl _ _).alloc (Nat.le_refl _) _), Lib.hid (by simp)⟩
  case round =>
    obtain ⟨j, A1, cc, rfl, rfl, rfl, hj, ho, hb, hz⟩ := hrel
    by_cases hlt : j < n
    · have hjn : (j : Int) < (n : Int) := by omega
      have b1 := psum_bd HF.out j
      have b2 := HF.out j
      obtain ⟨v, hv⟩ : ∃ v, f j = v := ⟨_, rfl⟩
      have hsv : Hid (psum f (j + 1) = psum f j + v) := Lib.hid (by show psum f j + f j = _; rw [hv])
      have c2 : Hid (Calls Try.prog 74 #[.int .i64 (j : Int), .slice A a c, .slice A' a c'] wr fun e w' => e = .returned (.int .i64 v) ∧ wr = w') := by rw [← hv]; exact c1 j wr hb.out
      rw [hv] at b2
      obtain ⟨b11, b12⟩ := b1
      obtain ⟨b21, b22⟩ := b2
      clear hv c1
      have hsrc := Lib.hid (src_int wr (psum f j + v))
      have hone := Lib.hid (one_int (psum f j + v))
      have hzb : w.heap.size ≤ (wr.alloc (.cells #[.int .i64 (psum f j + v)] 3)).heap.size := by have := hz.out; simp; omega
      go_wp2_with fail
      refine Calls.mono c2.out ?_
      rintro e w' ⟨rfl, rfl⟩
      clear c2
      go_wp2_with (first
        | (at_builtin; go_must (refine wpList_append_src _ rfl _ _ 50 rfl w.heap.size 3 i0 (.int .i64 0) 1 8 Try.underlying50 hi hz0 hz1 hz2 rfl (by decide) _ _ _ rfl (ho.out.alloc _) (some ⟨wr.heap.size, 0, none⟩) 1 1 [.int .i64 (psum f j + v)] rfl hsrc.out hone.out (by unfold maxLen; omega) (by omega) hzb ?_)
           intro v' w3 hown' hgrow3 hat3
           obtain ⟨A', c', rfl, o3, b3, z3⟩ := app_int hb.out hz.out ho.out hown' hgrow3
           have O3 := Lib.hid o3
           have B3 := Lib.hid b3
           have Z3 := Lib.hid z3
           clear hown' hgrow3 hat3 o3 b3 z3))
      go_roundw
      case rel => exact ⟨j + 1, A', c', by rw [hsv.out], rfl, by go_num, by omega, Lib.hid (by rw [upTo_succ, hsv.out]; exact O3.out), B3, Z3⟩
      case measure => simp [intOf]; omega
    · have hjn : j = n := by omega
      subst hjn
      go_wp2_with fail
      go_ret
      exact ⟨A1, cc, rfl, SlI.own ho.out (by omega), hb.out⟩

theorem own_far {w : World} {base g n c : Nat} {e : TypeId} {size : Nat} {A : Option Addr} {xs : List Value} (h : w.ownsRow base e size (.slice A n c) n xs) (hg : g < base) (o : Nat) (v : Value) : (w.setCell ⟨g, o, none⟩ v).ownsRow base e size (.slice A n c) n xs := by
  refine ⟨h.1, ?_⟩
  rcases h.2 with h2 | ⟨g', cap, cur, a, b, d, e'⟩
  · exact .inl h2
  · exact .inr ⟨g', cap, cur, a, b, by rw [heap_setCell_other w ⟨g, o, none⟩ g' v (by show g' ≠ g; omega)]; exact d, e'⟩
theorem places_step {w wr : World} {f : Nat → Int} {g n j : Nat} (hj : j < n) (hown : wr.ownsRow w.heap.size 3 1 (.slice (some ⟨g, 0, none⟩) (n + 1) (n + 1)) (n + 1) (rowI (fillTo f n j))) (hb : Below w.heap.size w wr) (v : Int) (hv : psum f j + f j = v) :
    (wr.setCell ⟨g, j + 1, none⟩ (.int .i64 v)).ownsRow w.heap.size 3 1 (.slice (some ⟨g, 0, none⟩) (n + 1) (n + 1)) (n + 1) (rowI (fillTo f n (j + 1))) ∧ Below w.heap.size w (wr.setCell ⟨g, j + 1, none⟩ (.int .i64 v)) := by
  have h := (hown.stored (j + 1) (.int .i64 v)).1
  rw [rowI_set, ← hv, fillTo_set f hj] at h
  rw [hv] at h
  exact ⟨h, below_set hb (hown.lt _ rfl).1 _⟩

set_option maxRecDepth 100000 in
set_option maxHeartbeats 1000000 in
theorem places_any (n a c a' c' : Nat) (A A' : Option Addr) (ps ls : List Int) (w : World) (hn : n ≤ 200) (h : SlI w w.heap.size A a c ps) (h' : SlI w w.heap.size A' a c' ls) (ha : a ≤ 1000) (hok : Okl ps ls n a) :
    Calls Try.prog 29 #[.int .i64 (n : Int), .slice A a c, .slice A' a c'] w (IsL (n + 1) (upTo (lk ps ls a) n) w) := by
  obtain ⟨i0, hi, hz0, hz1, hz2⟩ := info_parts info_int
  obtain ⟨MC, hMC, hMl⟩ : ∃ MC : Array Value, (∀ W, (Instr.makeSlice 50 (.int .i64 ((n : Int) + 1)) (.int .i64 ((n : Int) + 1))).run Try.prog W = .ok (.slice (some ⟨W.heap.size, 0, none⟩) (n + 1) (n + 1)) (W.alloc (.cells MC 3))) ∧ MC.toList = rowI (List.replicate (n + 1) 0) := by
    refine ⟨madeCells (Value.int .i64 0).cells ((n + 1) * i0.size), fun W => ?_, ?_⟩
    · have := run_make (P := Try.prog) W 50 3 i0 _ Try.underlying50 hi hz0 .i64 .i64 ((n : Int) + 1) ((n : Int) + 1) (by omega) (by omega) (by rw [hz2]; omega) (by omega)
      have e : ((n : Int) + 1).toNat = n + 1 := by omega
      rw [e] at this
      exact this
    · rw [hz1, Nat.mul_one]
      unfold madeCells rowI
      apply List.ext_getElem?
      intro i
      by_cases hi : i < n + 1
      · simp [hi, Value.cells, Nat.mod_one]
      · simp [hi]
  have hf : ∀ i, 0 ≤ lk ps ls a i ∧ lk ps ls a i ≤ 50 := fun i => lk_bd hok.len i a
  have HF := Lib.hid hf
  have hown1 : (w.alloc (.cells MC 3)).ownsRow w.heap.size 3 1 (.slice (some ⟨w.heap.size, 0, none⟩) (n + 1) (n + 1)) (n + 1) (rowI (fillTo (lk ps ls a) n 0)) := by
    rw [fillTo_zero, ← hMl]
    exact World.ownsRow_lit w MC (n + 1) (Nat.le_refl _) (by unfold maxLen; omega) (by rw [← Array.length_toList, hMl, rowI_len, List.length_replicate, Nat.mul_one])
  have hb1 : Below w.heap.size w (w.alloc (.cells MC 3)) := (Below.refl _ _).alloc (Nat.le_refl _) _
  have hs1 : (w.alloc (.cells MC 3)).heap.size = w.heap.size + 1 := by simp
  have c1 : Hid (Calls Try.prog 73 #[.int .i64 (n : Int), .slice A a c, .slice A' a c'] (w.alloc (.cells MC 3)) (IsRowI n (rowL ps ls n a) (w.alloc (.cells MC 3)))) :=
    longer_any n a c a' c' w.heap.size A A' ps ls _ (by omega) (h.keep hb1 (Nat.le_refl _)) (h'.keep hb1 (Nat.le_refl _)) (by omega) ha hok.inn
  have hat : Hid (∀ k, k < n → (rowI (rowL ps ls n a))[k]? = some (.int .i64 (lk ps ls a k))) := Lib.hid fun k hk => rowL_at ps ls hk
  generalize hfd : lk ps ls a = f at *
  generalize hrd : rowL ps ls n a = r at *
  have HO1 := Lib.hid hown1
  have HB1 := Lib.hid hb1
  have HS1 := Lib.hid hs1
  have hmax : max (n : Int) 0 = (n : Int) := by omega
  clear h h' hok hf hfd hrd hown1 hb1 hs1 hMl hi hz0 hz1 hz2
  go_enter Try.func29, Try.ntmps29
  go_wp2_with fail
  refine Calls.mono c1.out ?_
  rintro e w2 ⟨gL, rfl, hL, hb2⟩
  have HO2 : Hid (w2.ownsRow w.heap.size 3 1 (.slice (some ⟨w.heap.size, 0, none⟩) (n + 1) (n + 1)) (n + 1) (rowI (fillTo f n 0))) := Lib.hid (own_keep HO1.out hb2)
  have HL2 : Hid (w2.ownsRow (w.heap.size + 1) 3 1 (.slice (some ⟨gL, 0, none⟩) n n) n (rowI r)) := Lib.hid (hL.mono (by rw [HS1.out]; exact Nat.le_refl _))
  have HB2 : Hid (Below w.heap.size w w2) := Lib.hid (HB1.out.trans (hb2.mono (by rw [HS1.out]; omega)))
  clear hL hb2 c1
  go_wp2_with fail
  go_loopw [19] (fun i wr => ∃ j : Nat, i = .int .i64 j ∧ j ≤ n ∧ Hid (wr.ownsRow w.heap.size 3 1 (.slice (some ⟨w.heap.size, 0, none⟩) (n + 1) (n + 1)) (n + 1) (rowI (fillTo f n j))) ∧ Hid (wr.ownsRow (w.heap.size + 1) 3 1 (.slice (some ⟨gL, 0, none⟩) n n) n (rowI r)) ∧ Hid (Below w.heap.size w wr)) (fun i _ => n - (intOf i).toNat)
  case atStart => exact ⟨0, rfl, Nat.zero_le _, HO2, HL2, HB2⟩
  case round =>
    obtain ⟨j, rfl, hj, ho, hl, hb⟩ := hrel
    by_cases hlt : j < n
    · have hjn : (j : Int) < (n : Int) := by omega
      have hj0 : (0 : Int) ≤ (j : Int) := by omega
      obtain ⟨b11, b12⟩ := psum_bd HF.out j
      obtain ⟨b21, b22⟩ := HF.out j
      have q0 : wr.cell? ⟨gL, j, none⟩ = some (.int .i64 (f j)) := (hl.out.cellAt j (by omega)).trans (hat.out j hlt)
      have q1 : wr.cell? ⟨w.heap.size, j, none⟩ = some (.int .i64 (psum f j)) := (ho.out.cellAt j (by omega)).trans (fillTo_at f (by omega))
      have hlen := ho.out.1
      obtain ⟨u, d0⟩ : ∃ u, wr.cell? ⟨w.heap.size, j + 1, none⟩ = some u := ⟨_, (ho.out.cellAt (j + 1) (by omega)).trans (List.getElem?_eq_getElem (by omega))⟩
      have f0 := ho.out.frozenAt (j + 1)
      obtain ⟨s, hs⟩ : ∃ s, psum f j = s := ⟨_, rfl⟩
      obtain ⟨v, hv⟩ : ∃ v, f j = v := ⟨_, rfl⟩
      have X := Lib.hid (places_step hlt ho.out hb.out (s + v) (by rw [hs, hv]))
      have Y := Lib.hid (own_far hl.out (g := w.heap.size) (by omega) (j + 1) (.int .i64 (s + v)))
      rw [hs] at q1 b11 b12
      rw [hv] at q0 b21 b22
      clear hs hv hlen
      go_wp2_with fail
      go_roundw
      case rel => exact ⟨j + 1, by go_num, by omega, X.out.1, Y, X.out.2⟩
      case measure => simp [intOf]; omega
    · have hjn : j = n := by omega
      subst hjn
      go_wp2_with fail
      go_ret
      exact ⟨_, _, rfl, SlI.own (by have := ho.out; rw [fillTo_all] at this; exact this) (by omega), hb.out⟩
end Go.Proofs.Ytpladpmkpchndaa
