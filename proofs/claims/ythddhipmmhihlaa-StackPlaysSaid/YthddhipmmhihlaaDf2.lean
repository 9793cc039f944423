/-
  Calls that wait: records, a copy of a row of values, one record taken out of a row.
-/
import Derived.Test.YthddhipmmhihlaaDf1
import Derived.Lib.SliceRun
namespace Go.Proofs.Ythddhipmmhihlaa
open Go.RowKit Go.Maps
set_option linter.unusedSimpArgs false
set_option linter.unusedVariables false
structure GR where
  fr : Int
  fn : Int
  args : List DV
structure PR where
  x : GR
  A : Option Addr
  m : Nat
  c : Nat
def cellsP (p : PR) : List Value := [.int .i64 p.x.fr, .int .i64 p.x.fn, .slice p.A p.m p.c]
abbrev SlP (w : World) (B : Nat) (A : Option Addr) (n c : Nat) (ps : List PR) : Prop := SlR 3 40 (RC cellsP) w B A n c ps
theorem slp_at {w : World} {B : Nat} {A : Option Addr} {n c : Nat} {xs : List PR} (h : SlP w B A n c xs) {k : Nat} (hk : k < n) : ∃ b off v, A = some ⟨b, off, none⟩ ∧ b < B ∧ xs[k]? = some v ∧ w.cell? ⟨b, off + k * 3, none⟩ = some (.int .i64 v.x.fr) ∧ w.cell? ⟨b, off + k * 3 + 1, none⟩ = some (.int .i64 v.x.fn) ∧ w.cell? ⟨b, off + k * 3 + 2, none⟩ = some (.slice v.A v.m v.c) := by
  obtain ⟨b, off, x, cs, hA, hb, hx, _, hc, hr⟩ := h.at_ hk
  unfold RC at hr
  subst hr
  exact ⟨b, off, x, hA, hb, hx, by simpa using hc 0 _ rfl, by simpa [Nat.add_assoc] using hc 1 _ rfl, by simpa [Nat.add_assoc] using hc 2 _ rfl⟩
/-- A row that lies apart of some blocks. -/
def Ok (w : World) (T : Nat → Prop) (A : Option Addr) : Prop := ∀ ad, A = some ad → ad.block < w.heap.size ∧ ¬ T ad.block
theorem Ok.kp {w w' : World} {T T' : Nat → Prop} {A : Option Addr} (h : Ok w T A) (hs : w.heap.size ≤ w'.heap.size) (hT : ∀ j, T' j → T j ∨ w.heap.size ≤ j) : Ok w' T' A := fun ad ha => by
  obtain ⟨h1, h2⟩ := h ad ha
  exact ⟨by omega, fun ht => (hT _ ht).elim h2 (fun hl => by omega)⟩
theorem SlR.kp {α : Type} {sz bytes : Nat} {f : α → List Value} {w w' : World} {T : Nat → Prop} {B : Nat} {A : Option Addr} {n c : Nat} {xs : List α} (h : SlR sz bytes (RC f) w B A n c xs) (hB : B ≤ w.heap.size) (ho : ∀ ad, A = some ad → ¬ T ad.block) (hk : Kp T w w') : SlR sz bytes (RC f) w' w'.heap.size A n c xs := by
  obtain ⟨h1, h2, h3, h4, h5⟩ := h
  refine ⟨h1, h2, h3, h4, fun hn => ?_⟩
  obtain ⟨b, off, hA, hb, hx⟩ := h5 hn
  have hs := hk.size
  refine ⟨b, off, hA, by omega, fun i x hi => ?_⟩
  obtain ⟨cs, hl, hc, hr⟩ := hx i x hi
  exact ⟨cs, hl, fun j u hj => hk.cellv (hc j u hj) (show ¬ T b from ho _ hA), hr⟩
def PArgs (w : World) (T : Nat → Prop) (ps : List PR) : Prop := ∀ p ∈ ps, SlV w w.heap.size p.A p.m p.c p.x.args ∧ Ok w T p.A
theorem PArgs.kp {w w' : World} {T T' : Nat → Prop} {ps : List PR} (h : PArgs w T ps) (hk : Kp T w w') (hT : ∀ j, T' j → T j ∨ w.heap.size ≤ j) : PArgs w' T' ps := fun p hp =>
  ⟨SlR.kp (h p hp).1 (Nat.le_refl _) (fun ad ha => ((h p hp).2 ad ha).2) hk, (h p hp).2.kp hk.size hT⟩
theorem flatMap_take {α : Type} {sz : Nat} (f : α → List Value) (hf : ∀ x, (f x).length = sz) : ∀ (l : List α) (i : Nat), (l.take i).flatMap f = (l.flatMap f).take (i * sz)
  | [], i => by simp
  | a :: l, 0 => by simp
  | a :: l, i + 1 => by
    rw [List.take_succ_cons, List.flatMap_cons, List.flatMap_cons, flatMap_take f hf l i, Nat.succ_mul, Nat.add_comm (i * sz) sz, List.take_append, hf]
    rw [show (f a).take (sz + i * sz) = f a from List.take_of_length_le (by rw [hf]; omega), Nat.add_sub_cancel_left]
theorem flatMap_drop {α : Type} {sz : Nat} (f : α → List Value) (hf : ∀ x, (f x).length = sz) : ∀ (l : List α) (i : Nat), (l.drop i).flatMap f = (l.flatMap f).drop (i * sz)
  | [], i => by simp
  | a :: l, 0 => by simp
  | a :: l, i + 1 => by
    rw [List.drop_succ_cons, List.flatMap_cons, flatMap_drop f hf l i, Nat.succ_mul, Nat.add_comm (i * sz) sz, ← List.drop_drop, List.drop_append_of_le_length (by rw [hf]; omega)]
    rw [show (f a).drop sz = [] from List.drop_of_length_le (by rw [hf]; omega), List.nil_append]
theorem flat_erase {α : Type} {sz : Nat} (f : α → List Value) (hf : ∀ x, (f x).length = sz) (l : List α) (i : Nat) : (l.eraseIdx i).flatMap f = (l.flatMap f).take (i * sz) ++ (l.flatMap f).drop ((i + 1) * sz) := by
  rw [List.eraseIdx_eq_take_drop_succ, List.flatMap_append, flatMap_take f hf, flatMap_drop f hf]
theorem heap_setCells {r : Nat} {e : TypeId} {fz : Nat × Nat} : ∀ (vs : List Value) (o : Nat) (w : World) (cur : Array Value), w.heap[r]? = some (.cells cur e fz) →
    ∃ cur', (w.setCells r o vs).heap[r]? = some (.cells cur' e fz) ∧ cur'.size = cur.size ∧ ∀ j, cur'[j]? = if o ≤ j ∧ j < o + vs.length ∧ j < cur.size then vs[j - o]? else cur[j]?
  | [], o, w, cur, h => ⟨cur, h, rfl, fun j => by rw [if_neg (by simp; omega)]⟩
  | v :: vs, o, w, cur, h => by
    have h1 : (w.setCell ⟨r, o, none⟩ v).heap[r]? = some (.cells (cur.setIfInBounds o v) e fz) := by simp [World.setCell, Array.getElem?_modify, h]
    obtain ⟨cur', hh, hs, hj⟩ := heap_setCells vs (o + 1) _ _ h1
    refine ⟨cur', hh, by rw [hs]; simp, fun j => ?_⟩
    rw [hj j]
    simp only [Array.size_setIfInBounds, List.length_cons, Array.getElem?_setIfInBounds]
    by_cases e1 : o = j
    · subst e1
      rw [if_neg (by omega), if_pos rfl]
      by_cases hl : o < cur.size
      · rw [if_pos hl, if_pos (by omega), Nat.sub_self]; rfl
      · rw [if_neg hl, if_neg (by omega), Array.getElem?_eq_none (by omega)]
    · rw [if_neg e1]
      by_cases h2 : o + 1 ≤ j ∧ j < o + 1 + vs.length ∧ j < cur.size
      · rw [if_pos h2, if_pos (by omega), show j - o = (j - (o + 1)) + 1 by omega]; rfl
      · rw [if_neg h2, if_neg (by omega)]
abbrev zR : Value := .agg #[.int .i64 0, .int .i64 0, .slice none 0 0]
theorem info_rec : (Try.prog.info? 26).map (fun i => (i.zero, i.size, i.bytes)) = some (some (.agg #[.int .i64 0, .int .i64 0, .slice none 0 0]), 3, 40) := by kernel_rfl
theorem run_clear_one (w : World) (ty : TypeId) (b o c : Nat) (hc : ∀ j, j < 3 → (w.cell? ⟨b, o + j, none⟩).isSome = true) (hf : ∀ j, j < 3 → w.frozen? ⟨b, o + j, none⟩ = false) :
    (Builtin.clear_ #[34] ty #[.slice (some ⟨b, o, none⟩) 1 c]).run Try.prog w = .ok (.tuple #[]) (w.setCells b o [.int .i64 0, .int .i64 0, .slice none 0 0]) := by
  have hv : ∀ w, (zeroValue 26).run Try.prog w = .ok zR w := fun w => by kernel_rfl
  have hst := run_storeCells_cells (P := Try.prog) b o [.int .i64 0, .int .i64 0, .slice none 0 0] 0 w (by simpa using hc) (by simpa using hf) (by intro v hv'; simp at hv'; rcases hv' with rfl | rfl <;> rfl)
  simp only [Nat.add_zero] at hst
  have hz : (Builtin.zeroCells #[.int .i64 0, .int .i64 0, .slice none 0 0] 1).toList = [.int .i64 0, .int .i64 0, .slice none 0 0] := by
    simp [Builtin.zeroCells, show List.range 3 = [0, 1, 2] from rfl]
  simp [Builtin.clear_, run_underlying Try.underlying34, hv, Value.cells, hz, hst]

theorem eq_slN (c : Nat) : ∀ W : World, (binOp .eql 24 (.slice none 0 c) (.slice none 0 0)).run Try.prog W = .ok (.bool true) W := fun W => by kernel_rfl
theorem eq_slS (ad : Addr) (n c : Nat) : ∀ W : World, (binOp .eql 24 (.slice (some ad) n c) (.slice none 0 0)).run Try.prog W = .ok (.bool false) W := fun W => by kernel_rfl
def IsClone (args : List DV) (m : Nat) (w : World) (e : Ending) (w' : World) : Prop := ∃ A' c', e = .returned (.slice A' m c') ∧ SlV w' w'.heap.size A' m c' args ∧ (∀ ad, A' = some ad → w.heap.size ≤ ad.block ∧ ad.block < w'.heap.size) ∧ Below w.heap.size w w'
set_option maxRecDepth 100000 in
set_option maxHeartbeats 1000000 in
theorem clone_any (A : Option Addr) (m c B : Nat) (args : List DV) (w : World) (h : SlV w B A m c args) (hB : B ≤ w.heap.size) (hm : m ≤ 1000) :
    Calls Try.prog 19 #[.slice A m c] w (IsClone args m w) := by
  obtain ⟨i0, hi, hz0, hz1, hz2⟩ := info_parts info_val
  rcases A with _ | ad
  · obtain rfl := h.none_
    have H : Hid (SlV w w.heap.size none 0 0 args) := Lib.hid (by have e := h.empty; subst e; exact SlR.nil_ _ _)
    have he := eq_slN c
    clear h
    go_enter Try.func19, Try.ntmps19
    go_wp2_with fail
    go_ret
    exact ⟨_, _, rfl, H.out, (fun ad ha => by cases ha), Below.refl _ _⟩
  · have he := eq_slS ad m c
    have hl := h.1
    have hsrc : Hid (SrcCells (w.alloc (.cells #[] 45)) (some ad) m 3 (args.flatMap cellsV)) := Lib.hid ((SlR.src (sz := 3) (f := cellsV) (fun _ => rfl) h).keep fun ad j u ha hc => (World.cell?_alloc_lt _ _ _ (World.block_lt_of_cell? _ _ hc)).trans hc)
    have hown : Hid ((w.alloc (.cells #[] 45)).ownsRow w.heap.size 45 3 (.slice (some ⟨w.heap.size, 0, none⟩) 0 0) 0 []) := Lib.hid (World.ownsRow_lit (base := w.heap.size) (e := 45) (size := 3) w #[] 0 (Nat.le_refl _) (by unfold maxLen; omega) rfl)
    have hone : Hid (∀ u ∈ args.flatMap cellsV, u.oneCell' = true) := Lib.hid fun u hu => by
      obtain ⟨v, _, hv⟩ := List.mem_flatMap.1 hu
      simp [cellsV] at hv
      rcases hv with rfl | rfl | rfl <;> rfl
    have hsz : w.heap.size ≤ (w.alloc (.cells #[] 45)).heap.size := by simp
    have h63 : 0 + m ≤ maxLen := by unfold maxLen; omega
    have hbz : (0 + m) * 32 ≤ 140737488355328 := by omega
    clear h
    go_enter Try.func19, Try.ntmps19
    go_wp2_with (first
      | (at_builtin; go_must (refine wpList_append_src _ rfl _ _ 24 rfl w.heap.size 45 i0 (.agg #[.int .i64 0, .int .i64 0, .complex .f64 0 0]) 3 32 Try.underlying24 hi hz0 hz1 hz2 rfl (by decide) _ _ _ rfl hown.out (some ad) m c (args.flatMap cellsV) rfl hsrc.out hone.out h63 hbz hsz ?_)
         intro v' w3 hown' hgrow3 hat3
         obtain ⟨A', c', rfl, hA0, hA1⟩ := own_form hown'
         have F : Hid (SlV w3 w3.heap.size A' (0 + m) c' args ∧ (∀ ad, A' = some ad → w.heap.size ≤ ad.block ∧ ad.block < w3.heap.size) ∧ Below w.heap.size w w3) := Lib.hid ⟨SlR.of_ownN (sz := 3) (bytes := 32) (f := cellsV) (fun _ => rfl) (by decide) hown' (by unfold reachBytes; omega), fun ad ha => by obtain ⟨g, rfl, h1, h2⟩ := hA1 ad ha; exact ⟨h1, h2⟩, Below.grown ((Below.refl _ _).alloc (Nat.le_refl _) _) hgrow3 (by simp) (fun j hj => (hown.out.lt j hj).1)⟩
         clear hown' hgrow3 hat3 hA0 hA1))
    go_ret
    rw [Nat.zero_add] at F
    exact ⟨A', c', by simp, F.out.1, F.out.2.1, F.out.2.2⟩

set_option maxRecDepth 100000 in
set_option maxHeartbeats 1000000 in
theorem delete_any (r i k c base : Nat) (xs : List Value) (w : World) (h : w.ownsRow base 26 3 (.slice (some ⟨r, 0, none⟩) (i + k + 1) c) (i + k + 1) xs) (hn : i + k + 1 ≤ 1000) (h1c : ∀ u ∈ xs, u.oneCell' = true) :
    Calls Try.prog 21 #[.slice (some ⟨r, 0, none⟩) (i + k + 1) c, .int .i64 i, .int .i64 ((i : Int) + 1)] w fun e w' => e = .returned (.slice (some ⟨r, 0, none⟩) (i + k) c) ∧ w'.ownsRow base 26 3 (.slice (some ⟨r, 0, none⟩) (i + k) c) (i + k) (xs.take (i * 3) ++ xs.drop ((i + 1) * 3)) ∧ Kp (fun j => j = r) w w' := by
  obtain ⟨i0, hi, hz0, hz1, hz2⟩ := info_parts info_rec
  obtain ⟨hl, h3⟩ := h
  obtain ⟨cur, hbr, hh, hnc, hcm, hc, ht⟩ : ∃ cur, base ≤ r ∧ w.heap[r]? = some (.cells cur 26 (0, 0)) ∧ i + k + 1 ≤ c ∧ c ≤ maxLen ∧ cur.size = c * 3 ∧ cur.toList.take ((i + k + 1) * 3) = xs := by
    rcases h3 with ⟨h, _⟩ | ⟨r', cap, cur, e, h1, h2, h3, h4, h5, h6⟩
    · simp at h
    · simp only [Value.slice.injEq, Option.some.injEq, Addr.mk.injEq, true_and, and_true] at e
      obtain ⟨rfl, rfl⟩ := e
      exact ⟨cur, h1, h2, h3, h4, h5, h6⟩
  have hcs : (i + k + 1) * 3 ≤ cur.size := by
    rw [hc]
    exact Nat.mul_le_mul_right _ hnc
  have hat : ∀ j, j < (i + k + 1) * 3 → w.cell? ⟨r, j, none⟩ = xs[j]? ∧ (w.cell? ⟨r, j, none⟩).isSome = true := fun j hj => by
    have e1 : w.cell? ⟨r, j, none⟩ = cur[j]? := by simp [World.cell?, hh]
    refine ⟨?_, ?_⟩
    · rw [e1, ← ht, List.getElem?_take, if_pos hj]; simp
    · rw [e1, Array.getElem?_eq_getElem (by omega)]; rfl
  have hfz : ∀ j, w.frozen? ⟨r, j, none⟩ = false := fun j => by simp [World.frozen?, hh]
  obtain ⟨news, hnews⟩ : ∃ news, news = xs.drop ((i + 1) * 3) := ⟨_, rfl⟩
  have hnl : news.length = k * 3 := by rw [hnews, List.length_drop, hl]; omega
  obtain ⟨ad, had, hsrc⟩ : ∃ ad : Addr, (if c = i + 1 then (⟨r, 0, none⟩ : Addr) else ⟨r, (i + 1) * 3, none⟩) = ad ∧ Hid (∀ t u, news[t]? = some u → w.drew.cell? (ad.add t) = some u) := by
    by_cases hci : c = i + 1
    · refine ⟨_, by rw [if_pos hci], fun t u hu => ?_⟩
      have : k = 0 := by omega
      subst this
      have := List.eq_nil_of_length_eq_zero (by rw [hnl] : news.length = 0)
      rw [this] at hu
      simp at hu
    · refine ⟨_, by rw [if_neg hci], fun t u hu => ?_⟩
      have htl : t < k * 3 := by rw [← hnl]; exact (List.getElem?_eq_some_iff.1 hu).1
      rw [addr_add]
      rw [hnews, List.getElem?_drop] at hu
      exact (hat _ (by omega)).1.trans hu
  have s1 : Hid (news.length = k * 3) := hnl
  have s2 : Hid (∀ u ∈ news, u.oneCell' = true) := Lib.hid fun u hu => h1c u (by rw [hnews] at hu; exact List.mem_of_mem_drop hu)
  have s3 : Hid (∀ t, t < news.length → (w.drew.cell? ⟨r, 0 + i * 3 + t, none⟩).isSome = true ∧ w.drew.frozen? ⟨r, 0 + i * 3 + t, none⟩ = false) := Lib.hid fun t ht' => by
    rw [hnl] at ht'
    exact ⟨(hat (0 + i * 3 + t) (by omega)).2, hfz _⟩
  obtain ⟨W1, hW1⟩ : ∃ W1, W1 = w.drew.setCells r (0 + i * 3) news := ⟨_, rfl⟩
  obtain ⟨cur1, hh1, hs1, hj1⟩ := heap_setCells news (0 + i * 3) w.drew cur hh
  rw [← hW1] at hh1
  have hat1 : ∀ j, j < (i + k + 1) * 3 → (W1.cell? ⟨r, j, none⟩).isSome = true := fun j hj => by
    have e1 : W1.cell? ⟨r, j, none⟩ = cur1[j]? := by simp [World.cell?, hh1]
    rw [e1, Array.getElem?_eq_getElem (by omega)]; rfl
  have hfz1 : ∀ j, W1.frozen? ⟨r, j, none⟩ = false := fun j => by simp [World.frozen?, hh1]
  obtain ⟨cur2, hh2, hs2, hj2⟩ := heap_setCells [.int .i64 0, .int .i64 0, .slice none 0 0] ((i + k) * 3) W1 cur1 hh1
  have F : Hid ((W1.setCells r ((i + k) * 3) [.int .i64 0, .int .i64 0, .slice none 0 0]).ownsRow base 26 3 (.slice (some ⟨r, 0, none⟩) (i + k) c) (i + k) (xs.take (i * 3) ++ xs.drop ((i + 1) * 3)) ∧ Kp (fun j => j = r) w (W1.setCells r ((i + k) * 3) [.int .i64 0, .int .i64 0, .slice none 0 0])) := Lib.hid (by
    have hxl : (xs.take (i * 3) ++ xs.drop ((i + 1) * 3)).length = (i + k) * 3 := by simp [hl]; omega
    refine ⟨⟨hxl, .inr ⟨r, c, cur2, rfl, hbr, hh2, by omega, hcm, by rw [hs2, hs1, hc], ?_⟩⟩, ?_⟩
    · apply List.ext_getElem?
      intro j
      by_cases hj : j < (i + k) * 3
      · rw [List.getElem?_take, if_pos hj]
        have e2 : cur2.toList[j]? = cur2[j]? := by simp
        rw [e2, hj2 j, if_neg (by omega), hj1 j, hnl]
        by_cases hji : j < i * 3
        · rw [if_neg (by omega), List.getElem?_append_left (by simp [hl]; omega), List.getElem?_take, if_pos hji, ← ht, List.getElem?_take, if_pos (by omega)]
          simp
        · rw [if_pos (by omega), List.getElem?_append_right (by simp [hl]; omega), hnews]
          congr 1
          simp [hl]; omega
      · rw [List.getElem?_take, if_neg hj, List.getElem?_eq_none (by omega)]
    · rw [hW1]
      have a1 : Kp (fun j => j = r) w (w.drew.setCells r (0 + i * 3) news) := Kp.setCells ((Kp.refl (fun j => j = r) w).drew) (fun _ => rfl) _ _
      exact a1.setCells (fun _ => rfl) _ _)
  have hcl : ∀ ty, (Builtin.clear_ #[34] ty #[.slice (some ⟨r, (i + k) * 3, none⟩) 1 (c - (i + k))]).run Try.prog W1 = .ok (.tuple #[]) (W1.setCells r ((i + k) * 3) [.int .i64 0, .int .i64 0, .slice none 0 0]) :=
    fun ty => run_clear_one W1 ty r ((i + k) * 3) _ (fun j hj => hat1 _ (by omega)) (fun j hj => hfz1 _)
  have hW : Hid (W1 = w.drew.setCells r (0 + i * 3) news) := hW1
  have hne : ((i : Int) == (i : Int) + 1) = false := by simp; omega
  unfold maxLen at hcm
  have hic : i ≤ c := by omega
  have hac : (i : Int) + 1 ≤ c := by omega
  have hik : ((i + k + 1 : Nat) : Int) = (i : Int) + k + 1 := by omega
  clear hW1 hh hh1 hh2 hj1 hj2 hs1 hs2 hat hat1 hfz hfz1 hnews hnl h1c hl h3 ht hc hcs
  go_enter Try.func21, Try.ntmps21
  go_wp2_with fail
  by_cases hci : c = i + 1
  · rw [if_pos hci] at had
    subst had
    have hk0 : k = 0 := by omega
    have hcl2 : ∀ ty, (Builtin.clear_ #[34] ty #[.slice (some ⟨r, i * 3, none⟩) 1 1]).run Try.prog W1 = .ok (.tuple #[]) (W1.setCells r (i * 3) [.int .i64 0, .int .i64 0, .slice none 0 0]) := fun ty => by have := hcl ty; rw [show (i + k) * 3 = i * 3 by omega, show c - (i + k) = 1 by omega] at this; exact this
    have F2 := Lib.hid F.out
    rw [show (i + k) * 3 = i * 3 by omega] at F2
    have HK := Lib.hid hk0
    have HC := Lib.hid hci
    refine wp_region_held (S := fun _ => True) (by kernel_rfl) ?_
    change wpAnyH _ _ _ _ _ _ _ _ (World.drew _)
    refine wpAnyH_take (i := 0) (v := .slice (some ⟨r, 0, none⟩) (i + k + 1) c) rfl (by kernel_rfl) (by kernel_rfl) (by kernel_rfl) (fun _ _ _ h => h) (Or.inl ⟨by rfl, by intro W hW; go_simp; try (first | (with_reducible rfl) | omega)⟩) trivial ?_
    refine wpAnyH_take (i := 1) (v := .int .i64 i) rfl (by kernel_rfl) (by kernel_rfl) (by kernel_rfl) (fun _ _ _ h => h) (Or.inl ⟨by rfl, by intro W hW; go_simp; try (first | (with_reducible rfl) | omega)⟩) trivial ?_
    refine wpAnyH_take (i := 2) (v := .slice (some ⟨r, 0, none⟩) i c) rfl (by kernel_rfl) (by kernel_rfl) (by kernel_rfl) (fun _ _ _ h => h) (Or.inl ⟨by rfl, by intro W hW; go_simp; try (first | (with_reducible rfl) | omega)⟩) trivial ?_
    refine wpAnyH_take (i := 3) (v := .slice (some ⟨r, 0, none⟩) (i + k + 1) c) rfl (by kernel_rfl) (by kernel_rfl) (by kernel_rfl) (fun _ _ _ h => h) (Or.inl ⟨by rfl, by intro W hW; go_simp; try (first | (with_reducible rfl) | omega)⟩) trivial ?_
    refine wpAnyH_take (i := 4) (v := .int .i64 ((i : Int) + 1)) rfl (by kernel_rfl) (by kernel_rfl) (by kernel_rfl) (fun _ _ _ h => h) (Or.inl ⟨by rfl, by intro W hW; go_simp; try (first | (with_reducible rfl) | omega)⟩) trivial ?_
    refine wpAnyH_take (i := 5) (v := .slice (some ⟨r, 0, none⟩) k (c - (i + 1))) rfl (by kernel_rfl) (by kernel_rfl) (by kernel_rfl) (fun _ _ _ h => h) (Or.inl ⟨by rfl, by intro W hW; go_simp; try (first | (with_reducible rfl) | omega)⟩) trivial ?_
    refine wpAnyH_one (i := 6) (by kernel_rfl) rfl (fun K hK => ?_)
    refine step_append_room rfl (.tmp 22) (.tmp 25) 34 rfl 26 i0 3 Try.underlying34 hi hz1 r 0 i c ?qq1 ⟨r, 0, none⟩ k (c - (i + 1)) news ?qq2 s1.out hsrc.out s2.out (by omega) s3.out ?_
    case qq1 => go_simp
    case qq2 => go_simp
    rw [← hW.out]
    refine hK _ _ ⟨trivial, ?_⟩; clear hK K
    refine wpAnyH_take (i := 7) (v := .slice (some ⟨r, 0, none⟩) (i + k) c) rfl (by kernel_rfl) (by kernel_rfl) (by kernel_rfl) (fun _ _ _ h => h) (Or.inl ⟨by rfl, by intro W hW; go_simp; try (first | (with_reducible rfl) | omega)⟩) trivial ?_
    refine wpAnyH_done (by kernel_rfl) ?_ _
    go_wp2_with fail
    go_ret
    exact ⟨by rw [HK.out, HC.out]; rfl, F2.out.1, F2.out.2⟩
  · rw [if_neg hci] at had
    subst had
    have hlt : i + 1 < c := by omega
    refine wp_region_held (S := fun _ => True) (by kernel_rfl) ?_
    change wpAnyH _ _ _ _ _ _ _ _ (World.drew _)
    refine wpAnyH_take (i := 0) (v := .slice (some ⟨r, 0, none⟩) (i + k + 1) c) rfl (by kernel_rfl) (by kernel_rfl) (by kernel_rfl) (fun _ _ _ h => h) (Or.inl ⟨by rfl, by intro W hW; go_simp; try (first | (with_reducible rfl) | omega)⟩) trivial ?_
    refine wpAnyH_take (i := 1) (v := .int .i64 i) rfl (by kernel_rfl) (by kernel_rfl) (by kernel_rfl) (fun _ _ _ h => h) (Or.inl ⟨by rfl, by intro W hW; go_simp; try (first | (with_reducible rfl) | omega)⟩) trivial ?_
    refine wpAnyH_take (i := 2) (v := .slice (some ⟨r, 0, none⟩) i c) rfl (by kernel_rfl) (by kernel_rfl) (by kernel_rfl) (fun _ _ _ h => h) (Or.inl ⟨by rfl, by intro W hW; go_simp; try (first | (with_reducible rfl) | omega)⟩) trivial ?_
    refine wpAnyH_take (i := 3) (v := .slice (some ⟨r, 0, none⟩) (i + k + 1) c) rfl (by kernel_rfl) (by kernel_rfl) (by kernel_rfl) (fun _ _ _ h => h) (Or.inl ⟨by rfl, by intro W hW; go_simp; try (first | (with_reducible rfl) | omega)⟩) trivial ?_
    refine wpAnyH_take (i := 4) (v := .int .i64 ((i : Int) + 1)) rfl (by kernel_rfl) (by kernel_rfl) (by kernel_rfl) (fun _ _ _ h => h) (Or.inl ⟨by rfl, by intro W hW; go_simp; try (first | (with_reducible rfl) | omega)⟩) trivial ?_
    refine wpAnyH_take (i := 5) (v := .slice (some ⟨r, (i + 1) * 3, none⟩) k (c - (i + 1))) rfl (by kernel_rfl) (by kernel_rfl) (by kernel_rfl) (fun _ _ _ h => h) (Or.inl ⟨by rfl, by intro W hW; go_simp; try (first | (with_reducible rfl) | omega)⟩) trivial ?_
    refine wpAnyH_one (i := 6) (by kernel_rfl) rfl (fun K hK => ?_)
    refine step_append_room rfl (.tmp 22) (.tmp 25) 34 rfl 26 i0 3 Try.underlying34 hi hz1 r 0 i c ?qq1 ⟨r, (i + 1) * 3, none⟩ k (c - (i + 1)) news ?qq2 s1.out hsrc.out s2.out (by omega) s3.out ?_
    case qq1 => go_simp
    case qq2 => go_simp
    rw [← hW.out]
    refine hK _ _ ⟨trivial, ?_⟩; clear hK K
    refine wpAnyH_take (i := 7) (v := .slice (some ⟨r, 0, none⟩) (i + k) c) rfl (by kernel_rfl) (by kernel_rfl) (by kernel_rfl) (fun _ _ _ h => h) (Or.inl ⟨by rfl, by intro W hW; go_simp; try (first | (with_reducible rfl) | omega)⟩) trivial ?_
    refine wpAnyH_done (by kernel_rfl) ?_ _
    go_wp2_with fail
    go_ret
    exact ⟨rfl, F.out.1, F.out.2⟩
end Go.Proofs.Ythddhipmmhihlaa
