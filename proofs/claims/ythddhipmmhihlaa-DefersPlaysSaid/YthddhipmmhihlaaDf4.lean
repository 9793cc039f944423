/-
  Calls that wait: one is taken.
-/
import Derived.Test.YthddhipmmhihlaaDf3
namespace Go.Proofs.Ythddhipmmhihlaa
open Go.RowKit Go.Maps
set_option linter.unusedSimpArgs false
set_option linter.unusedVariables false
theorem last_of {f : Int} : ∀ (ps : List PR), 0 < cntP ps f → ∃ (i : Nat) (q : PR), ps[i]? = some q ∧ q.x.fr = f ∧ ∀ (j : Nat) (q' : PR), i < j → ps[j]? = some q' → q'.x.fr ≠ f := by
  intro ps
  obtain ⟨rs, rfl⟩ : ∃ rs, ps = rs.reverse := ⟨ps.reverse, by simp⟩
  induction rs with
  | nil => intro h; simp [cntP] at h
  | cons q rs ih =>
    rw [List.reverse_cons]
    intro h
    by_cases e : q.x.fr = f
    · refine ⟨rs.reverse.length, q, by simp, e, fun j q' hj hq => ?_⟩
      have := (List.getElem?_eq_some_iff.1 hq).1
      simp at this hj
      omega
    · have h' : 0 < cntP rs.reverse f := by
        rw [cntP_app] at h
        unfold addM at h
        rw [if_neg (fun h => e h.symm)] at h
        exact h
      obtain ⟨i, q1, h1, h2, h3⟩ := ih h'
      have hi := (List.getElem?_eq_some_iff.1 h1).1
      refine ⟨i, q1, by rw [List.getElem?_append_left hi]; exact h1, h2, fun j q' hj hq => ?_⟩
      by_cases hjl : j < rs.reverse.length
      · rw [List.getElem?_append_left hjl] at hq
        exact h3 j q' hj hq
      · have hl := (List.getElem?_eq_some_iff.1 hq).1
        have hje : j = rs.reverse.length := by simp at hl hjl ⊢; omega
        subst hje
        simp at hq
        subst hq
        exact e
theorem cntP_erase {ps : List PR} {i : Nat} {q : PR} (h : ps[i]? = some q) (g : Int) : cntP (ps.eraseIdx i) g = addM (cntP ps) q.x.fr (-1) g := by
  have hl := (List.getElem?_eq_some_iff.1 h).1
  have e : ps = ps.take i ++ q :: ps.drop (i + 1) := by
    have e2 : ps[i] = q := (List.getElem?_eq_some_iff.1 h).2
    rw [← e2, List.getElem_cons_drop, List.take_append_drop]
  have e1 : ps.eraseIdx i = ps.take i ++ ps.drop (i + 1) := List.eraseIdx_eq_take_drop_succ ps i
  have key : ∀ g, cntP ps g = cntP (ps.eraseIdx i) g + (if q.x.fr = g then 1 else 0) := fun g => by
    rw [e1]
    conv => lhs; rw [e]
    unfold cntP
    rw [List.filter_append, List.filter_append, List.filter_cons]
    by_cases hq : q.x.fr = g
    · subst hq; simp; omega
    · have : (q.x.fr == g) = false := by simpa using hq
      simp [this, hq]
  unfold addM
  by_cases hg : g = q.x.fr
  · subst hg
    rw [if_pos rfl, key, if_pos rfl]
    omega
  · rw [if_neg hg, key, if_neg (fun h => hg h.symm)]
    omega
theorem PileW.kpd {T : Nat → Prop} {w w' : World} {pb c k : Nat} {A : Option Addr} {mo : Option Nat} {ps : List PR} (h : PileW w pb A c mo k ps) (hk : Kp T w w') (hT : ∀ j, Blk pb A mo j → ¬ T j) (hA : ∀ p ∈ ps, ∀ ad, p.A = some ad → ¬ T ad.block) : PileW w' pb A c mo k ps :=
  ⟨hk.cellv h.c0 (hT _ (.inl rfl)), (hk.frozen (World.block_lt_of_cell? _ _ h.c0) (hT _ (.inl rfl))).trans h.f0, hk.own h.row (fun j hj => hT _ (.inr (.inl (own_block h.row hj)))), h.mp.kp hk (hT _ (.inl rfl)) (fun b hb => hT _ (.inr (.inr hb))),
   fun p hp => ⟨SlR.kp (h.args p hp).1 (Nat.le_refl _) (hA p hp) hk, (h.args p hp).2.kp hk.size (fun j hj => .inl hj)⟩⟩
def cellsAgg (q : PR) : Value := .agg #[.int .i64 q.x.fr, .int .i64 q.x.fn, .slice q.A q.m q.c]
def IsTaken (w : World) (pb : Nat) (A : Option Addr) (c : Nat) (mo : Option Nat) (k : Nat) (ps : List PR) (i : Nat) (q : PR) (e : Ending) (w' : World) : Prop :=
  e = .returned (.tuple #[cellsAgg q, .bool true]) ∧ ∃ mo', PileW w' pb A c mo' (k + 1) (ps.eraseIdx i) ∧ SlV w' w'.heap.size q.A q.m q.c q.x.args ∧ Kp (Blk pb A mo) w w' ∧ (∀ j, Blk pb A mo' j → Blk pb A mo j ∨ w.heap.size ≤ j)
theorem take_fin {w w2 w3 w5 w6 : World} {pb c k i kk r vb : Nat} {mo mo' : Option Nat} {ps : List PR} {q : PR} {f : Int} (h : PileW w pb (some ⟨r, 0, none⟩) c mo k ps) (h2 : Kp (fun _ => False) w w2) (hl : ps.length = i + kk + 1) (hq : ps[i]? = some q) (hf : q.x.fr = f)
    (hown : w3.ownsRow (pb + 1) 26 3 (.slice (some ⟨r, 0, none⟩) (i + kk) c) (i + kk) ((ps.flatMap cellsP).take (i * 3) ++ (ps.flatMap cellsP).drop ((i + 1) * 3))) (hk3 : Kp (fun j => j = r) w2 w3)
    (hm : MapC w5 pb mo' (k + 1) (addM (cntP ps) f (-1))) (hk5 : Kp (fun j => j = pb ∨ mo = some j) (w3.setCell ⟨pb, 0, none⟩ (.slice (some ⟨r, 0, none⟩) (i + kk) c)) w5) (hmo : mo' = mo ∨ ∃ b, mo' = some b ∧ (w3.setCell ⟨pb, 0, none⟩ (.slice (some ⟨r, 0, none⟩) (i + kk) c)).heap.size ≤ b)
    (hc5 : w5.cell? ⟨pb, 0, none⟩ = (w3.setCell ⟨pb, 0, none⟩ (.slice (some ⟨r, 0, none⟩) (i + kk) c)).cell? ⟨pb, 0, none⟩) (hf5 : w5.frozen? ⟨pb, 0, none⟩ = (w3.setCell ⟨pb, 0, none⟩ (.slice (some ⟨r, 0, none⟩) (i + kk) c)).frozen? ⟨pb, 0, none⟩)
    (hvb : w.heap.size ≤ vb) (hvb2 : vb < w2.heap.size) (h6 : Kp (fun j => j = vb) w5 w6) :
    ∃ mo', PileW w6 pb (some ⟨r, 0, none⟩) c mo' (k + 1) (ps.eraseIdx i) ∧ SlV w6 w6.heap.size q.A q.m q.c q.x.args ∧ Kp (Blk pb (some ⟨r, 0, none⟩) mo) w w6 ∧ (∀ j, Blk pb (some ⟨r, 0, none⟩) mo' j → Blk pb (some ⟨r, 0, none⟩) mo j ∨ w.heap.size ≤ j) := by
  have p2 := h.on h2
  have hpr : ¬ pb = r := fun e => by have := (own_lt h.row rfl).1; omega
  have hpl : pb < w2.heap.size := World.block_lt_of_cell? _ _ p2.c0
  have c3 : w3.cell? ⟨pb, 0, none⟩ = some (.slice (some ⟨r, 0, none⟩) ps.length c) := hk3.cellv p2.c0 hpr
  have f3 : w3.frozen? ⟨pb, 0, none⟩ = false := (hk3.frozen (p := ⟨pb, 0, none⟩) hpl hpr).trans p2.f0
  have hks := hk3.size
  have k4 : Kp (Blk pb (some ⟨r, 0, none⟩) mo) w2 (w3.setCell ⟨pb, 0, none⟩ (.slice (some ⟨r, 0, none⟩) (i + kk) c)) := (hk3.mono (T := Blk pb (some ⟨r, 0, none⟩) mo) fun j _ hj => .inr (.inl (by rw [hj]))).setCell (p := ⟨pb, 0, none⟩) (fun _ => .inl rfl) _
  have k5 : Kp (Blk pb (some ⟨r, 0, none⟩) mo) w2 w5 := k4.trans (hk5.mono fun j _ hj => hj.elim .inl (fun h => .inr (.inr h)))
  have hs4 := k4.size
  have hT2 : ∀ j, Blk pb (some ⟨r, 0, none⟩) mo' j → Blk pb (some ⟨r, 0, none⟩) mo j ∨ w2.heap.size ≤ j := by
    intro j hj
    rcases hj with rfl | hA | hm'
    · exact .inl (.inl rfl)
    · exact .inl (.inr (.inl hA))
    · rcases hmo with rfl | ⟨b, rfl, hb⟩
      · exact .inl (.inr (.inr hm'))
      · injection hm' with hm'
        exact .inr (by omega)
  have hs2 := h2.size
  have hT : ∀ j, Blk pb (some ⟨r, 0, none⟩) mo' j → Blk pb (some ⟨r, 0, none⟩) mo j ∨ w.heap.size ≤ j := fun j hj => (hT2 j hj).imp id (fun h => by omega)
  have hel : (ps.eraseIdx i).length = i + kk := by
    rw [List.length_eraseIdx_of_lt (by omega), hl]
    omega
  have hrow4 : (w3.setCell ⟨pb, 0, none⟩ (.slice (some ⟨r, 0, none⟩) (i + kk) c)).ownsRow (pb + 1) 26 3 (.slice (some ⟨r, 0, none⟩) (i + kk) c) (i + kk) ((ps.eraseIdx i).flatMap cellsP) := by
    rw [flat_erase (sz := 3) cellsP (fun _ => rfl)]
    exact ((Kp.refl (fun j => j = pb) w3).setCell (p := ⟨pb, 0, none⟩) (fun _ => rfl) _).own hown (fun j hj e => by have := (hown.lt j hj).1; omega)
  have hrow5 : w5.ownsRow (pb + 1) 26 3 (.slice (some ⟨r, 0, none⟩) (i + kk) c) (i + kk) ((ps.eraseIdx i).flatMap cellsP) := by
    refine hk5.own hrow4 (fun j hj e => ?_)
    have hjr : j = r := by simp [Value.ownBlock] at hj; exact hj.symm
    subst hjr
    rcases e with rfl | e
    · exact hpr rfl
    · exact h.map_ne rfl e
  have p5 : PileW w5 pb (some ⟨r, 0, none⟩) c mo' (k + 1) (ps.eraseIdx i) := by
    refine ⟨?_, ?_, ?_, hm.eqm fun g => by rw [cntP_erase hq, hf], ?_⟩
    · rw [hel, hc5]
      simp [go_sem, c3]
    · rw [hf5, World.frozen?_setCell]
      exact f3
    · rw [hel]
      exact hrow5
    · have : PArgs w2 (Blk pb (some ⟨r, 0, none⟩) mo) (ps.eraseIdx i) := fun p hp => p2.args p (List.mem_of_mem_eraseIdx hp)
      exact this.kp k5 hT2
  have hargs : ∀ p ∈ ps, ∀ ad, p.A = some ad → ad.block ≠ vb := fun p hp ad ha e => by
    have := ((h.args p hp).2 ad ha).1
    omega
  have hqm : q ∈ ps := List.mem_of_getElem? hq
  have hq5 : SlV w5 w5.heap.size q.A q.m q.c q.x.args := SlR.kp (p2.args q hqm).1 (Nat.le_refl _) (fun ad ha => ((p2.args q hqm).2 ad ha).2) k5
  have hbv : ∀ j, Blk pb (some ⟨r, 0, none⟩) mo' j → ¬ j = vb := fun j hj e => by
    rcases hT2 j hj with h' | h'
    · have := h.blk_lt h'; omega
    · omega
  exact ⟨mo', p5.kpd h6 hbv (fun p hp => hargs p (List.mem_of_mem_eraseIdx hp)), SlR.kp hq5 (Nat.le_refl _) (hargs q hqm) h6, ((h2.mono (T := Blk pb (some ⟨r, 0, none⟩) mo) (fun _ _ h => h.elim)).trans k5).trans' h6 (fun j hj hh => hh.elim id (fun e => absurd hj (by omega))), hT⟩
set_option maxRecDepth 100000 in
set_option maxHeartbeats 1000000 in
theorem take_none (pb k : Nat) (mo : Option Nat) (m : Int → Int) (f : Int) (w : World) (h : MapC w pb mo k m) (hf : (Lit.int .i64 f).wf = true) (h0 : m f = 0) :
    Calls Try.prog 7 #[.pointer (some ⟨pb, 0, none⟩), .int .i64 f] w fun e w' => e = .returned (.tuple #[zR, .bool false]) ∧ Below w.heap.size w w' := by
  have hb : Below w.heap.size w (w.alloc (.cells #[.int .i64 0, .int .i64 0, .slice none 0 0] 26)) := (Below.refl _ _).alloc (Nat.le_refl _) _
  have c1 : Hid (Calls Try.prog 9 #[.pointer (some ⟨pb, 0, none⟩), .int .i64 f] (w.alloc (.cells #[.int .i64 0, .int .i64 0, .slice none 0 0] 26)) fun e w' => e = .returned (.int .i64 0) ∧ (w.alloc (.cells #[.int .i64 0, .int .i64 0, .slice none 0 0] 26)) = w') := Lib.hid (by
    have := pof_any pb mo k m f _ (h.kp (S := fun _ => False) ((Kp.refl _ _).ofBelow hb) id (fun _ _ => id)) hf
    rw [h0] at this
    exact this)
  clear h hb
  go_enter Try.func7, Try.ntmps7
  go_wp2_with fail
  refine c1.out.mono ?_
  rintro e w1 ⟨rfl, rfl⟩
  go_wp2_with fail
  exact bodyPost_ret (v := .tuple #[zR, .bool false]) (by simp [results, Try.results7, go_sem]) rfl ⟨rfl, by repeat (first | exact Below.refl _ _ | (refine Below.setCell ?_ (by simp) _) | (refine Below.alloc ?_ (by simp) _))⟩
set_option maxRecDepth 100000 in
theorem take_nil (f : Int) (w : World) : Calls Try.prog 7 #[.pointer none, .int .i64 f] w fun e w' => e = .returned (.tuple #[zR, .bool false]) ∧ Below w.heap.size w w' := by
  have c1 : Hid (∀ w : World, Calls Try.prog 9 #[.pointer none, .int .i64 f] w fun e w' => e = .returned (.int .i64 0) ∧ w = w') := Lib.hid fun w => pof_nil f w
  go_enter Try.func7, Try.ntmps7
  go_wp2_with fail
  refine (c1.out _).mono ?_
  rintro e w1 ⟨rfl, rfl⟩
  go_wp2_with fail
  exact bodyPost_ret (v := .tuple #[zR, .bool false]) (by simp [results, Try.results7, go_sem]) rfl ⟨rfl, by repeat (first | exact Below.refl _ _ | (refine Below.setCell ?_ (by simp) _) | (refine Below.alloc ?_ (by simp) _))⟩
set_option maxRecDepth 100000 in
theorem push_nil (a : Value) (w : World) (fr fn : Int) (A : Option Addr) (m c : Nat) : Calls Try.prog 6 #[.pointer none, .agg #[.int .i64 fr, .int .i64 fn, .slice A m c]] w fun e w' => (∃ v, e = .returned v) ∧ Below w.heap.size w w' := by
  go_enter Try.func6, Try.ntmps6
  go_wp2_with fail
  exact bodyPost_ret (v := .tuple #[]) (by simp [results, Try.results6, go_sem]) rfl ⟨⟨_, rfl⟩, (Below.refl _ _).alloc (Nat.le_refl _) _⟩
set_option maxRecDepth 100000 in
set_option maxHeartbeats 4000000 in
theorem take_some (pb c k r : Nat) (mo : Option Nat) (ps : List PR) (f : Int) (i : Nat) (q : PR) (w : World) (h : PileW w pb (some ⟨r, 0, none⟩) c mo k ps) (hf : (Lit.int .i64 f).wf = true) (hq : ps[i]? = some q) (hqf : q.x.fr = f) (hlast : ∀ (j : Nat) (q' : PR), i < j → ps[j]? = some q' → q'.x.fr ≠ f) (hn : ps.length ≤ 100) (hk : k ≤ 500) :
    Calls Try.prog 7 #[.pointer (some ⟨pb, 0, none⟩), .int .i64 f] w (IsTaken w pb (some ⟨r, 0, none⟩) c mo k ps i q) := by
  have hil := (List.getElem?_eq_some_iff.1 hq).1
  obtain ⟨kk, hl⟩ : ∃ kk, ps.length = i + kk + 1 := ⟨ps.length - i - 1, by omega⟩
  have hcnt : cntP ps f ≠ 0 := by
    have := cntP_erase hq f
    unfold addM at this
    rw [if_pos hqf.symm, hqf] at this
    have h2 := (cntP_le (ps.eraseIdx i) f).1
    omega
  have hcle := cntP_le ps f
  have hmo : mo ≠ none := by
    rcases h.mp.2.2 with ⟨_, h1⟩ | ⟨b, D, rfl, _⟩
    · exact absurd (h1 f) hcnt
    · simp
  obtain ⟨w1, hw1⟩ : ∃ w1, w.alloc (.cells #[.int .i64 0, .int .i64 0, .slice none 0 0] 26) = w1 := ⟨_, rfl⟩
  have hb1 : Below w.heap.size w w1 := by rw [← hw1]; exact (Below.refl _ _).alloc (Nat.le_refl _) _
  have hs1 : w1.heap.size = w.heap.size + 1 := by rw [← hw1]; simp
  have z : ∀ j u, #[Value.int .i64 0, .int .i64 0, .slice none 0 0][j]? = some u → w1.cell? ⟨w.heap.size, j, none⟩ = some u ∧ w1.frozen? ⟨w.heap.size, j, none⟩ = false := fun j u hu => by
    rw [← hw1]
    exact new_cells (Below.refl _ _) j u hu
  have h1 : PileW w1 pb (some ⟨r, 0, none⟩) c mo k ps := h.onB hb1
  have c1 := Lib.hid (pof_any pb mo k (cntP ps) f w1 h1.mp hf)
  have hsl : SlP w1 w1.heap.size (some ⟨r, 0, none⟩) ps.length c ps := SlR.of_ownN (sz := 3) (bytes := 40) (f := cellsP) (fun _ => rfl) (by decide) h1.row (by unfold reachBytes; omega)
  have hrd : Hid (∀ j, j < i + kk + 1 → ∃ v, ps[j]? = some v ∧ w1.cell? ⟨r, j * 3, none⟩ = some (.int .i64 v.x.fr) ∧ w1.cell? ⟨r, j * 3 + 1, none⟩ = some (.int .i64 v.x.fn) ∧ w1.cell? ⟨r, j * 3 + 2, none⟩ = some (.slice v.A v.m v.c)) := Lib.hid fun j hj => by
    obtain ⟨b, off, v, e, hb, hx, p0, p1, p2⟩ := slp_at hsl (show j < ps.length by omega)
    simp at e
    obtain ⟨rfl, rfl⟩ := e
    simp only [Nat.zero_add] at p0 p1 p2
    exact ⟨v, hx, p0, p1, p2⟩
  have g0 : w1.cell? ⟨pb, 0, none⟩ = some (.slice (some ⟨r, 0, none⟩) (i + kk + 1) c) := by rw [← hl]; exact h1.c0
  have hmf : (cntP ps f == 0) = false := by simpa using hcnt
  have hcm : c ≤ 9223372036854775807 ∧ i + kk + 1 ≤ c := by
    have := hsl.2.1
    have := hsl.2.2.1
    unfold maxLen at this
    omega
  have H := Lib.hid h
  have H1 := Lib.hid h1
  have HL := Lib.hid hl
  have HQ := Lib.hid hq
  have HQF := Lib.hid hqf
  have HLA := Lib.hid hlast
  have HC := Lib.hid hcle
  have HZ := Lib.hid z
  have HB1 := Lib.hid hb1
  have HE := Lib.hid hw1
  have HMO := Lib.hid hmo
  have HS1 := Lib.hid hs1
  have hik : ((i + kk + 1 : Nat) : Int) = (i : Int) + kk + 1 := by omega
  have hbig : i + kk + 1 ≤ 100 := by omega
  generalize cntP ps f = cnt at c1 hmf
  clear h h1 hq hqf hlast hcle z hb1 hw1 hmo hs1 hsl hcnt hil hn hl
  go_enter Try.func7, Try.ntmps7
  go_wp2_with fail
  rw [HE.out]
  refine c1.out.mono ?_
  rintro e w' ⟨rfl, rfl⟩
  go_wp2_with fail
  go_loopw [6] (fun s wr => ∃ j : Nat, s = .int .i64 j ∧ i ≤ j ∧ j < i + kk + 1 ∧ wr = w1) (fun s _ => (intOf s).toNat)
  case atStart => exact ⟨i + kk, by go_num, by omega, by omega, rfl⟩
  case round =>
    obtain ⟨j, rfl, hij, hjl, rfl⟩ := hrel
    obtain ⟨v, hv, q0, q1, q2⟩ := hrd.out j hjl
    have hj9 : (j : Int) < 9223372036854775807 := by omega
    have hjn : ((j : Nat) : Int) < (i : Int) + kk + 1 := by omega
    by_cases hje : j = i
    · subst hje
      have hvq : v = q := by have := HQ.out; rw [hv] at this; injection this
      subst hvq
      have hfe : v.x.fr = f := HQF.out
      rw [hfe] at q0
      have ht : (f != f) = false := by simp
      obtain ⟨⟨fr, fn, ar⟩, qA, qm, qc⟩ := v
      simp only at hfe
      subst hfe
      obtain ⟨w2, hw2⟩ : ∃ w2, wr.alloc (.cells #[.int .i64 fr, .int .i64 fn, .slice qA qm qc] 26) = w2 := ⟨_, rfl⟩
      have hk2 : Kp (fun _ => False) wr w2 := by rw [← hw2]; exact (Kp.refl _ _).alloc _
      have hs2 : w2.heap.size = wr.heap.size + 1 := by rw [← hw2]; simp
      have y : ∀ j u, #[Value.int .i64 fr, .int .i64 fn, .slice qA qm qc][j]? = some u → w2.cell? ⟨wr.heap.size, j, none⟩ = some u := fun j u hu => by
        rw [← hw2]
        exact (new_cells (Below.refl _ _) j u hu).1
      have h2 : PileW w2 pb (some ⟨r, 0, none⟩) c mo k ps := H1.out.on hk2
      have hown2 : w2.ownsRow (pb + 1) 26 3 (.slice (some ⟨r, 0, none⟩) (j + kk + 1) c) (j + kk + 1) (ps.flatMap cellsP) := by
        have := h2.row
        rw [HL.out] at this
        exact this
      have cd := Lib.hid (delete_any r j kk c (pb + 1) (ps.flatMap cellsP) w2 hown2 (by omega) (fun u hu => by
        obtain ⟨v, _, hv⟩ := List.mem_flatMap.1 hu
        simp [cellsP] at hv
        rcases hv with rfl | rfl | rfl <;> rfl))
      have g2 : w2.cell? ⟨pb, 0, none⟩ = some (.slice (some ⟨r, 0, none⟩) (j + kk + 1) c) := hk2.cellv g0 id
      have g2' : (wr.alloc (.cells #[.int .i64 fr, .int .i64 fn, .slice qA qm qc] 26)).cell? ⟨pb, 0, none⟩ = some (.slice (some ⟨r, 0, none⟩) (j + kk + 1) c) := by rw [hw2]; exact g2
      have HE2 := Lib.hid hw2
      have HK2 := Lib.hid hk2
      have H2 := Lib.hid h2
      have HY := Lib.hid y
      have HS2 := Lib.hid hs2
      clear hw2 hk2 hs2 y h2 hown2 hv
      go_wp2_with fail
      rw [HE2.out]
      refine cd.out.mono ?_
      rintro e w3 ⟨rfl, hown3, hk3⟩
      have hpr : ¬ pb = r := fun e => by have := (own_lt hown3 rfl).1; omega
      have hpl2 : pb < w2.heap.size := World.block_lt_of_cell? _ _ g2
      have g3 : w3.cell? ⟨pb, 0, none⟩ = some (.slice (some ⟨r, 0, none⟩) (j + kk + 1) c) := hk3.cellv g2 hpr
      have f3 : w3.frozen? ⟨pb, 0, none⟩ = false := (hk3.frozen (p := ⟨pb, 0, none⟩) hpl2 hpr).trans H2.out.f0
      have hm3 : MapC w3 pb mo k (cntP ps) := H2.out.mp.kp hk3 hpr (fun b hb e => H2.out.map_ne (by rw [e]) hb)
      obtain ⟨w4, hw4⟩ : ∃ w4, w3.setCell ⟨pb, 0, none⟩ (.slice (some ⟨r, 0, none⟩) (j + kk) c) = w4 := ⟨_, rfl⟩
      have hm4 : MapC w4 pb mo k (cntP ps) := by rw [← hw4]; exact hm3.set0 _
      have cc := Lib.hid (count_any pb mo k (cntP ps) fr (-1) w4 hm4 hf (.inr ⟨rfl, HMO.out⟩) (by have := HC.out; have := HL.out; omega) (by omega))
      have HOW3 := Lib.hid hown3
      have HK3 := Lib.hid hk3
      have HE4 := Lib.hid hw4
      clear hown3 hk3 hpr hm3 hm4 hw4
      go_wp2_with fail
      rw [HE4.out]
      refine cc.out.mono ?_
      rintro e w5 ⟨⟨v5, rfl⟩, mo', hmn, hm5, hk5, hmo5, hc5, hf5⟩
      have hk25 : Kp (Blk pb (some ⟨r, 0, none⟩) mo) w2 w5 := ((HK3.out.mono (T := Blk pb (some ⟨r, 0, none⟩) mo) fun j _ hj => .inr (.inl (by rw [hj]))).setCell (p := ⟨pb, 0, none⟩) (fun _ => .inl rfl) _).trans (show Kp _ (w3.setCell ⟨pb, 0, none⟩ (.slice (some ⟨r, 0, none⟩) (j + kk) c)) w5 by rw [HE4.out]; exact hk5.mono fun j _ hj => hj.elim .inl (fun h => .inr (.inr h)))
      have nb1 : ¬ Blk pb (some ⟨r, 0, none⟩) mo wr.heap.size := fun hB => by have := H1.out.blk_lt hB; omega
      have nb0 : ¬ Blk pb (some ⟨r, 0, none⟩) mo w.heap.size := fun hB => by have := H.out.blk_lt hB; omega
      have y0 := hk25.cellv (HY.out 0 _ rfl) nb1
      have y1 := hk25.cellv (HY.out 1 _ rfl) nb1
      have y2 := hk25.cellv (HY.out 2 _ rfl) nb1
      have x0 := hk25.cellv (HK2.out.cellv (HZ.out 0 _ rfl).1 id) nb0
      have x1 := hk25.cellv (HK2.out.cellv (HZ.out 1 _ rfl).1 id) nb0
      have x2 := hk25.cellv (HK2.out.cellv (HZ.out 2 _ rfl).1 id) nb0
      have hwl : w.heap.size < wr.heap.size := by have := HS1.out; omega
      have hwl2 : w.heap.size < w2.heap.size := by have := HS2.out; omega
      have e0 : w5.frozen? ⟨w.heap.size, 0, none⟩ = false := (hk25.frozen (p := ⟨w.heap.size, 0, none⟩) hwl2 nb0).trans ((HK2.out.frozen (p := ⟨w.heap.size, 0, none⟩) hwl id).trans (HZ.out 0 _ rfl).2)
      have e1 : w5.frozen? ⟨w.heap.size, 1, none⟩ = false := (hk25.frozen (p := ⟨w.heap.size, 1, none⟩) hwl2 nb0).trans ((HK2.out.frozen (p := ⟨w.heap.size, 1, none⟩) hwl id).trans (HZ.out 1 _ rfl).2)
      have e2 : w5.frozen? ⟨w.heap.size, 2, none⟩ = false := (hk25.frozen (p := ⟨w.heap.size, 2, none⟩) hwl2 nb0).trans ((HK2.out.frozen (p := ⟨w.heap.size, 2, none⟩) hwl id).trans (HZ.out 2 _ rfl).2)
      have hk02 : Kp (fun _ => False) w w2 := (((Kp.refl _ _).ofBelow HB1.out)).trans HK2.out
      have F : Hid (∀ w6, Kp (fun j => j = w.heap.size) w5 w6 → _) := Lib.hid fun w6 h6 => take_fin H.out hk02 HL.out HQ.out rfl HOW3.out HK3.out hm5 (by rw [HE4.out]; exact hk5) (by rw [HE4.out]; exact hmo5) (by rw [HE4.out]; exact hc5) (by rw [HE4.out]; exact hf5) (Nat.le_refl _) hwl2 h6
      clear hk25 nb1 nb0 hwl hwl2 hk02 hm5 hk5 hmo5 hc5 hf5 hmn
      go_wp2_with fail
      exact bodyPost_ret (v := .tuple #[.agg #[.int .i64 fr, .int .i64 fn, .slice qA qm qc], .bool true]) (by simp [results, Try.results7, go_sem, x0, x1, x2]) rfl ⟨rfl, F.out _ ((((Kp.refl (fun j => j = w.heap.size) w5).setCell (p := ⟨w.heap.size, 0, none⟩) (fun _ => rfl) _).setCell (p := ⟨w.heap.size, 1, none⟩) (fun _ => rfl) _).setCell (p := ⟨w.heap.size, 2, none⟩) (fun _ => rfl) _)⟩
    · have hne := HLA.out j v (by omega) hv
      have ht : (v.x.fr != f) = true := by simpa using hne
      obtain ⟨vf, hvf⟩ : ∃ x, v.x.fr = x := ⟨_, rfl⟩
      rw [hvf] at q0 ht
      clear q1 q2 hv hne hvf
      have hj1 : (1 : Int) ≤ j := by omega
      go_wp2_with fail
      go_roundw
      case rel => exact ⟨j - 1, by go_num, by omega, by omega, trivial⟩
      case measure => simp [intOf]; omega
end Go.Proofs.Ythddhipmmhihlaa
