/-
  Calls that wait: a pile, one more.
-/
import Derived.Test.YthddhipmmhihlaaDf2
namespace Go.Proofs.Ythddhipmmhihlaa
open Go.RowKit Go.Maps
set_option linter.unusedSimpArgs false
set_option linter.unusedVariables false
theorem wpAnyH_two {P : Program} {ops : Array Oper} {Q : Exit → Act → World → Prop} {md : Region.Mode} {S : World → Prop} {i j fuel : Nat} {oi oj : Oper} {listed : Array Bool} {a : Act} {w : World}
    (hr : Region.ready md ops listed = [i, j]) (hi : ops[i]? = some oi) (hj : ops[j]? = some oj)
    (h : ∀ K' : Act → World → Prop, (∀ a w, S w ∧ wpAnyH P md ops Q S fuel (listed.setIfInBounds i true) a w → K' a w) → if Region.wanted oi (yielded ops a.tmps) = true then Oper.wp P oi a w K' Q else K' (a.put oi.dst undef) w)
    (k : ∀ K' : Act → World → Prop, (∀ a w, S w ∧ wpAnyH P md ops Q S fuel (listed.setIfInBounds j true) a w → K' a w) → if Region.wanted oj (yielded ops a.tmps) = true then Oper.wp P oj a w K' Q else K' (a.put oj.dst undef) w) :
    wpAnyH P md ops Q S (fuel + 1) listed a w :=
  wpAnyH_all hr (by simp) (fun x hx => by
    simp only [List.mem_cons, List.not_mem_nil, or_false] at hx
    rcases hx with rfl | rfl
    · exact wpOp_step hi h
    · exact wpOp_step hj k)
def Blk (pb : Nat) (A : Option Addr) (mo : Option Nat) (j : Nat) : Prop := j = pb ∨ A = some ⟨j, 0, none⟩ ∨ mo = some j
def cntP (ps : List PR) (f : Int) : Int := ((ps.filter fun p => p.x.fr == f).length : Int)
structure PileW (w : World) (pb : Nat) (A : Option Addr) (c : Nat) (mo : Option Nat) (k : Nat) (ps : List PR) : Prop where
  c0 : w.cell? ⟨pb, 0, none⟩ = some (.slice A ps.length c)
  f0 : w.frozen? ⟨pb, 0, none⟩ = false
  row : w.ownsRow (pb + 1) 26 3 (.slice A ps.length c) ps.length (ps.flatMap cellsP)
  mp : MapC w pb mo k (cntP ps)
  args : PArgs w (Blk pb A mo) ps
theorem own_lt {w : World} {base : Nat} {e : TypeId} {size n c : Nat} {A : Option Addr} {xs : List Value} (h : w.ownsRow base e size (.slice A n c) n xs) {j : Nat} (hA : A = some ⟨j, 0, none⟩) : base ≤ j ∧ j < w.heap.size := by
  subst hA
  exact h.lt j rfl
theorem own_block {w : World} {base : Nat} {e : TypeId} {size n c : Nat} {A : Option Addr} {xs : List Value} (h : w.ownsRow base e size (.slice A n c) n xs) {j : Nat} (hj : (Value.slice A n c).ownBlock = some j) : A = some ⟨j, 0, none⟩ := by
  rcases h.2 with ⟨hv, _⟩ | ⟨g, cap, cur, hv, _⟩
  · rw [hv] at hj; simp [Value.ownBlock] at hj
  · simp only [Value.slice.injEq, true_and] at hv
    obtain ⟨rfl, rfl⟩ := hv
    simp [Value.ownBlock] at hj
    rw [hj]
theorem own_not_map {w : World} {base : Nat} {e : TypeId} {size n c : Nat} {A : Option Addr} {xs : List Value} (h : w.ownsRow base e size (.slice A n c) n xs) {j k : Nat} {D : DataW Unit} (hA : A = some ⟨j, 0, none⟩) (hm : OM w j k D) : False := by
  obtain ⟨es, clock, hb, r⟩ := hm
  rcases h.2 with ⟨hv, _⟩ | ⟨g, cap, cur, hv, h1, h2, _⟩
  · rw [hA] at hv; simp at hv
  · rw [hA] at hv
    simp only [Value.slice.injEq, Option.some.injEq, Addr.mk.injEq, true_and, and_true] at hv
    rw [← hv.1] at h2
    rw [hb] at h2
    cases h2
theorem PileW.blk_lt {w : World} {pb c k : Nat} {A : Option Addr} {mo : Option Nat} {ps : List PR} (h : PileW w pb A c mo k ps) {j : Nat} (hj : Blk pb A mo j) : j < w.heap.size := by
  rcases hj with rfl | hA | hm
  · exact World.block_lt_of_cell? _ _ h.c0
  · exact (own_lt h.row hA).2
  · rcases h.mp.2.2 with ⟨h1, _⟩ | ⟨b, D, h1, ho, _⟩
    · rw [h1] at hm; cases hm
    · rw [h1] at hm
      injection hm with hm
      subst hm
      exact ho.lt
theorem PileW.map_ne {w : World} {pb c k : Nat} {A : Option Addr} {mo : Option Nat} {ps : List PR} (h : PileW w pb A c mo k ps) {j : Nat} (hA : A = some ⟨j, 0, none⟩) (hm : mo = some j) : False := by
  rcases h.mp.2.2 with ⟨h1, _⟩ | ⟨b, D, h1, ho, _⟩
  · rw [h1] at hm; cases hm
  · rw [h1] at hm
    injection hm with hm
    subst hm
    exact own_not_map h.row hA ho
/-- Nothing of a pile has turned. -/
theorem PileW.on {w w' : World} {pb c k : Nat} {A : Option Addr} {mo : Option Nat} {ps : List PR} (h : PileW w pb A c mo k ps) (hk : Kp (fun _ => False) w w') : PileW w' pb A c mo k ps :=
  ⟨hk.cellv h.c0 id, (hk.frozen (World.block_lt_of_cell? _ _ h.c0) id).trans h.f0, hk.own h.row (fun _ _ => id), h.mp.kp hk id (fun _ _ => id), h.args.kp (hk.mono fun _ _ h => h.elim) (fun j hj => .inl hj)⟩
theorem PileW.onB {w w' : World} {pb c k : Nat} {A : Option Addr} {mo : Option Nat} {ps : List PR} (h : PileW w pb A c mo k ps) (hb : Below w.heap.size w w') : PileW w' pb A c mo k ps := h.on ((Kp.refl _ _).ofBelow hb)
theorem cntP_app (ps : List PR) (q : PR) (f : Int) : cntP (ps ++ [q]) f = addM (cntP ps) q.x.fr 1 f := by
  unfold cntP addM
  by_cases e : f = q.x.fr
  · subst e; simp
  · rw [if_neg e]
    have : (q.x.fr == f) = false := by simp; exact fun h => e h.symm
    simp [this]
theorem cntP_le (ps : List PR) (f : Int) : 0 ≤ cntP ps f ∧ cntP ps f ≤ ps.length := by
  unfold cntP
  have := List.length_filter_le (fun p : PR => p.x.fr == f) ps
  omega
theorem MapC.eqm {w : World} {pb k : Nat} {mo : Option Nat} {m m' : Int → Int} (h : MapC w pb mo k m) (e : ∀ f, m f = m' f) : MapC w pb mo k m' := by
  obtain ⟨h1, h2, ⟨h3, h4⟩ | ⟨b, D, h3, h4, h5⟩⟩ := h
  · exact ⟨h1, h2, .inl ⟨h3, fun f => by rw [← e]; exact h4 f⟩⟩
  · exact ⟨h1, h2, .inr ⟨b, D, h3, h4, cnts_eq h5 e⟩⟩
theorem MapC.set0 {w : World} {pb k : Nat} {mo : Option Nat} {m : Int → Int} (h : MapC w pb mo k m) (v : Value) : MapC (w.setCell ⟨pb, 0, none⟩ v) pb mo k m := by
  obtain ⟨h1, h2, h3⟩ := h
  refine ⟨(World.cell?_setCell_other _ _ _ _ (by simp)).trans h1, by rw [World.frozen?_setCell]; exact h2, ?_⟩
  rcases h3 with h3 | ⟨b, D, h3, h4, h5⟩
  · exact .inl h3
  · exact .inr ⟨b, D, h3, World.ownsMap.setCell h4 (by intro e; subst e; exact h4.not_cells h1) v, h5⟩
def Pushed (w : World) (pb : Nat) (A : Option Addr) (mo : Option Nat) (k : Nat) (ps : List PR) (x : GR) (e : Ending) (w' : World) : Prop :=
  (∃ v, e = .returned v) ∧ ∃ A' c' mo' q, PileW w' pb A' c' mo' (k + 1) (ps ++ [q]) ∧ q.x = x ∧ Kp (Blk pb A mo) w w' ∧ (∀ j, Blk pb A' mo' j → Blk pb A mo j ∨ w.heap.size ≤ j)
theorem push_fin {w w3 w4 w5 w7 : World} {pb c c' k : Nat} {A A' A2 : Option Addr} {mo mo' : Option Nat} {ps : List PR} {fr fn : Int} {args : List DV} {m c2 : Nat}
    (h3 : PileW w3 pb A c mo k ps) (hw3 : Kp (fun _ => False) w w3) (hsl : SlV w3 w3.heap.size A2 m c2 args) (hok : Ok w3 (Blk pb A mo) A2)
    (h4 : Kp (fun _ => False) w3 w4) (hown : w5.ownsRow (pb + 1) 26 3 (.slice A' (ps.length + 1) c') (ps.length + 1) ((ps ++ [PR.mk ⟨fr, fn, args⟩ A2 m c2]).flatMap cellsP)) (hgrow : w4.grownBy w5 (Value.slice A ps.length c).ownBlock) (hat : (Value.slice A' (ps.length + 1) c').ownBlock = (Value.slice A ps.length c).ownBlock ∨ (Value.slice A' (ps.length + 1) c').ownBlock = some w4.heap.size)
    (hm : MapC w7 pb mo' (k + 1) (addM (cntP ps) fr 1)) (hk7 : Kp (fun j => j = pb ∨ mo = some j) (w5.setCell ⟨pb, 0, none⟩ (.slice A' (ps.length + 1) c')) w7) (hmo : mo' = mo ∨ ∃ b, mo' = some b ∧ (w5.setCell ⟨pb, 0, none⟩ (.slice A' (ps.length + 1) c')).heap.size ≤ b)
    (hc7 : w7.cell? ⟨pb, 0, none⟩ = (w5.setCell ⟨pb, 0, none⟩ (.slice A' (ps.length + 1) c')).cell? ⟨pb, 0, none⟩) (hf7 : w7.frozen? ⟨pb, 0, none⟩ = (w5.setCell ⟨pb, 0, none⟩ (.slice A' (ps.length + 1) c')).frozen? ⟨pb, 0, none⟩) :
    ∃ A' c' mo' q, PileW w7 pb A' c' mo' (k + 1) (ps ++ [q]) ∧ q.x = ⟨fr, fn, args⟩ ∧ Kp (Blk pb A mo) w w7 ∧ (∀ j, Blk pb A' mo' j → Blk pb A mo j ∨ w.heap.size ≤ j) := by
  have hpl : pb < w3.heap.size := World.block_lt_of_cell? _ _ h3.c0
  have hgb : ∀ j, (Value.slice A ps.length c).ownBlock = some j → A = some ⟨j, 0, none⟩ := fun j hj => own_block h3.row hj
  have k5 : Kp (fun j => A = some ⟨j, 0, none⟩) w3 w5 := (h4.mono (fun _ _ h => h.elim)).ofGrown hgrow (fun j hj _ => hgb j hj)
  have hpbA : ¬ A = some ⟨pb, 0, none⟩ := fun hA => by have := (own_lt h3.row hA).1; omega
  have c5 : w5.cell? ⟨pb, 0, none⟩ = some (.slice A ps.length c) := k5.cellv h3.c0 hpbA
  have f5 : w5.frozen? ⟨pb, 0, none⟩ = false := (k5.frozen (p := ⟨pb, 0, none⟩) hpl hpbA).trans h3.f0
  have k6 : Kp (Blk pb A mo) w3 (w5.setCell ⟨pb, 0, none⟩ (.slice A' (ps.length + 1) c')) := (k5.mono (T := Blk pb A mo) fun j _ hj => .inr (.inl hj)).setCell (p := ⟨pb, 0, none⟩) (fun _ => .inl rfl) _
  have k7 : Kp (Blk pb A mo) w3 w7 := k6.trans (hk7.mono fun j _ hj => hj.elim .inl (fun h => .inr (.inr h)))
  have hs4 := h4.size
  have hs5 := k6.size
  have hT : ∀ j, Blk pb A' mo' j → Blk pb A mo j ∨ w3.heap.size ≤ j := by
    intro j hj
    rcases hj with rfl | hA | hm'
    · exact .inl (.inl rfl)
    · have e : (Value.slice A' (ps.length + 1) c').ownBlock = some j := by rw [hA]; rfl
      rcases hat with hat | hat
      · exact .inl (.inr (.inl (hgb j (hat.symm.trans e))))
      · rw [e] at hat
        injection hat with hat
        exact .inr (by omega)
    · rcases hmo with rfl | ⟨b, rfl, hb⟩
      · exact .inl (.inr (.inr hm'))
      · injection hm' with hm'
        exact .inr (by omega)
  have hrow6 : (w5.setCell ⟨pb, 0, none⟩ (.slice A' (ps.length + 1) c')).ownsRow (pb + 1) 26 3 (.slice A' (ps.length + 1) c') (ps.length + 1) ((ps ++ [PR.mk ⟨fr, fn, args⟩ A2 m c2]).flatMap cellsP) :=
    ((Kp.refl (fun j => j = pb) w5).setCell (p := ⟨pb, 0, none⟩) (fun _ => rfl) _).own hown (fun j hj e => by have := (hown.lt j hj).1; omega)
  have hrow7 : w7.ownsRow (pb + 1) 26 3 (.slice A' (ps.length + 1) c') (ps.length + 1) ((ps ++ [PR.mk ⟨fr, fn, args⟩ A2 m c2]).flatMap cellsP) := by
    refine hk7.own hrow6 (fun j hj e => ?_)
    rcases e with rfl | e
    · have := (hrow6.lt j hj).1; omega
    · -- a map's block is no row's
      rcases h3.mp.2.2 with ⟨h1, _⟩ | ⟨b, D, h1, ho, _⟩
      · rw [h1] at e; cases e
      · rw [h1] at e
        injection e with e
        subst e
        have hbA : ¬ A = some ⟨b, 0, none⟩ := fun hA => own_not_map h3.row hA ho
        have o5 : OM w5 b k D := k5.map ho hbA
        exact own_not_map hown (own_block hown hj) o5
  have hlen : (ps ++ [PR.mk ⟨fr, fn, args⟩ A2 m c2]).length = ps.length + 1 := by simp
  refine ⟨A', c', mo', ⟨⟨fr, fn, args⟩, A2, m, c2⟩, ⟨?_, ?_, ?_, ?_, ?_⟩, rfl, ?_, fun j hj => (hT j hj).imp id (fun h => by have := hw3.size; omega)⟩
  · rw [hlen, hc7]
    simp [go_sem, c5]
  · rw [hf7, World.frozen?_setCell]
    exact f5
  · rw [hlen]
    exact hrow7
  · exact hm.eqm fun f => (cntP_app ps (PR.mk ⟨fr, fn, args⟩ A2 m c2) f).symm
  · have : PArgs w3 (Blk pb A mo) (ps ++ [PR.mk ⟨fr, fn, args⟩ A2 m c2]) := fun p hp => by
      rcases List.mem_append.1 hp with hp | hp
      · exact h3.args p hp
      · simp at hp
        subst hp
        exact ⟨hsl, hok⟩
    exact this.kp k7 hT
  · exact (hw3.mono fun _ _ h => h.elim).trans k7

set_option maxRecDepth 100000 in
set_option maxHeartbeats 4000000 in
theorem push_any (pb c k : Nat) (A : Option Addr) (mo : Option Nat) (ps : List PR) (fr fn : Int) (Aa : Option Addr) (m ca : Nat) (args : List DV) (w : World) (h : PileW w pb A c mo k ps) (hf : (Lit.int .i64 fr).wf = true) (ha : SlV w w.heap.size Aa m ca args) (hm : m ≤ 1) (hn : ps.length ≤ 100) (hk : k ≤ 500) :
    Calls Try.prog 6 #[.pointer (some ⟨pb, 0, none⟩), .agg #[.int .i64 fr, .int .i64 fn, .slice Aa m ca]] w (Pushed w pb A mo k ps ⟨fr, fn, args⟩) := by
  obtain ⟨i0, hi, hz0, hz1, hz2⟩ := info_parts info_rec
  obtain ⟨vb, hvb⟩ : ∃ vb, w.heap.size = vb := ⟨_, rfl⟩
  have hbw1 : Below w.heap.size w (w.alloc (.cells #[.int .i64 fr, .int .i64 fn, .slice Aa m ca] 26)) := (Below.refl _ _).alloc (Nat.le_refl _) _
  have c1 := Lib.hid (clone_any Aa m ca w.heap.size args (w.alloc (.cells #[.int .i64 fr, .int .i64 fn, .slice Aa m ca] 26)) (SlR.keep (stable_rc _) ha fun p hp => hbw1.cell hp) hbw1.size (by omega))
  have H := Lib.hid h
  have HBW1 := Lib.hid hbw1
  have HVB := Lib.hid hvb
  clear h ha hbw1 hvb
  go_enter Try.func6, Try.ntmps6
  go_wp2_with fail
  refine c1.out.mono ?_
  rintro e w2 ⟨A2, c2, rfl, hsl2, hA2, hb2⟩
  obtain ⟨q0, f0⟩ := new_cells hb2 0 (.int .i64 fr) rfl
  obtain ⟨q1, f1⟩ := new_cells hb2 1 (.int .i64 fn) rfl
  obtain ⟨q2, f2⟩ := new_cells hb2 2 (.slice Aa m ca) rfl
  have hbw2 : Below w.heap.size w w2 := HBW1.out.trans (hb2.mono HBW1.out.size)
  have hlt2 : w.heap.size < w2.heap.size := by have := hb2.size; simp at this; omega
  obtain ⟨w3, hw3⟩ : ∃ w3, w2.setCell ⟨w.heap.size, 2, none⟩ (.slice A2 m c2) = w3 := ⟨_, rfl⟩
  have hk3 : Kp (fun _ => False) w w3 := by
    rw [← hw3]
    exact ((Kp.refl _ _).ofBelow hbw2).setCell (p := ⟨w.heap.size, 2, none⟩) (fun hl => absurd hl (Nat.lt_irrefl _)) _
  have hk23 : Kp (fun j => j = w.heap.size) w2 w3 := by rw [← hw3]; exact (Kp.refl (fun j => j = w.heap.size) w2).setCell (p := ⟨w.heap.size, 2, none⟩) (fun _ => rfl) _
  have r0 : w3.cell? ⟨w.heap.size, 0, none⟩ = some (.int .i64 fr) := by rw [← hw3]; exact (World.cell?_setCell_other _ _ _ _ (by simp)).trans q0
  have r1 : w3.cell? ⟨w.heap.size, 1, none⟩ = some (.int .i64 fn) := by rw [← hw3]; exact (World.cell?_setCell_other _ _ _ _ (by simp)).trans q1
  have r2 : w3.cell? ⟨w.heap.size, 2, none⟩ = some (.slice A2 m c2) := by rw [← hw3]; exact World.cell?_setCell_same _ _ _ q2
  have hnA2 : ∀ ad, A2 = some ad → w.heap.size < ad.block ∧ ad.block < w2.heap.size := fun ad hd => by have := hA2 ad hd; simp at this; omega
  have hsl3 : SlV w3 w3.heap.size A2 m c2 args := SlR.kp (B := w2.heap.size) hsl2 (Nat.le_refl _) (fun ad hd e => by have := hnA2 ad hd; omega) hk23
  have hok3 : Ok w3 (Blk pb A mo) A2 := fun ad hd => ⟨by have := hnA2 ad hd; have := hk23.size; omega, fun hB => by have := H.out.blk_lt hB; have := hnA2 ad hd; omega⟩
  have hp3 : PileW w3 pb A c mo k ps := H.out.on hk3
  have hvlt : w.heap.size < w3.heap.size := by have := hk23.size; omega
  have hnB : ¬ Blk pb A mo w.heap.size := fun hB => by have := H.out.blk_lt hB; omega
  have HK3 := Lib.hid hk3
  have HP3 := Lib.hid hp3
  have HS3 := Lib.hid hsl3
  have HO3 := Lib.hid hok3
  have HQ : Hid (∀ W : World, Kp (Blk pb A mo) w3 W → W.cell? ⟨w.heap.size, 0, none⟩ = some (.int .i64 fr) ∧ W.cell? ⟨w.heap.size, 1, none⟩ = some (.int .i64 fn) ∧ W.cell? ⟨w.heap.size, 2, none⟩ = some (.slice A2 m c2)) := Lib.hid fun W hW => ⟨hW.cellv r0 hnB, hW.cellv r1 hnB, hW.cellv r2 hnB⟩
  have HE := Lib.hid hw3
  clear hsl2 hA2 hb2 hbw2 hk23 hnA2 hsl3 hok3 hp3 hnB r0 r1 r2 hvlt hk3 hw3
  go_wp2_with fail
  rw [HE.out]
  have hlt4 : pb < w3.heap.size := World.block_lt_of_cell? _ _ HP3.out.c0
  have g0 : w3.cell? ⟨pb, 0, none⟩ = some (.slice A ps.length c) := HP3.out.c0
  have gf : w3.frozen? ⟨pb, 0, none⟩ = false := HP3.out.f0
  have hk4 : Kp (fun _ => False) w3 (w3.drew.alloc (.cells #[.int .i64 fr, .int .i64 fn, .slice A2 m c2] 26)) := ((Kp.refl _ _).drew).alloc _
  have HK4 := Lib.hid hk4
  have g4 : (w3.drew.alloc (.cells #[.int .i64 fr, .int .i64 fn, .slice A2 m c2] 26)).cell? ⟨pb, 0, none⟩ = some (.slice A ps.length c) := hk4.cellv g0 id
  have hS4 : Kp (Blk pb A mo) w3 (w3.drew.alloc (.cells #[.int .i64 fr, .int .i64 fn, .slice A2 m c2] 26)) := hk4.mono fun _ _ h => h.elim
  have HOW : Hid ((w3.drew.alloc (.cells #[.int .i64 fr, .int .i64 fn, .slice A2 m c2] 26)).ownsRow (pb + 1) 26 3 (.slice A ps.length c) ps.length (ps.flatMap cellsP)) := Lib.hid (HP3.out.on hk4).row
  have hsrc : Hid (SrcCells (w3.drew.alloc (.cells #[.int .i64 fr, .int .i64 fn, .slice A2 m c2] 26)) (some ⟨w3.heap.size, 0, none⟩) 1 3 [.int .i64 fr, .int .i64 fn, .slice A2 m c2]) :=
    Lib.hid (own_src (World.ownsRow_lit (base := w3.heap.size) (e := 26) (size := 3) w3.drew #[.int .i64 fr, .int .i64 fn, .slice A2 m c2] 1 (Nat.le_refl _) (by unfold maxLen; omega) rfl))
  have hone : Hid (∀ u ∈ [Value.int .i64 fr, .int .i64 fn, .slice A2 m c2], u.oneCell' = true) := Lib.hid (by
    intro u hu
    simp at hu
    rcases hu with rfl | rfl | rfl <;> rfl)
  have hbase : pb + 1 ≤ (w3.drew.alloc (.cells #[.int .i64 fr, .int .i64 fn, .slice A2 m c2] 26)).heap.size := by simp; omega
  have hflat : Hid (ps.flatMap cellsP ++ [.int .i64 fr, .int .i64 fn, .slice A2 m c2] = (ps ++ [PR.mk ⟨fr, fn, args⟩ A2 m c2]).flatMap cellsP) := Lib.hid (by simp [cellsP])
  have h63 : ps.length + 1 ≤ maxLen := by unfold maxLen; omega
  have hby : (ps.length + 1) * 40 ≤ 140737488355328 := by omega
  have hS0 : Kp (Blk pb A mo) w3 w3.drew := (Kp.refl _ _).drew
  clear hk4
  refine wp_region_held (S := fun W => Kp (Blk pb A mo) w3 W) (by kernel_rfl) ?_
  change wpAnyH _ _ _ _ _ _ _ _ (World.drew _)
  refine wpAnyH_take (i := 0) (v := .pointer (some ⟨pb, 0, none⟩)) rfl (by kernel_rfl) (by kernel_rfl) (by kernel_rfl) (fun _ _ _ h => h) (Or.inl ⟨by rfl, by intro W hW; go_simp; try (first | (with_reducible rfl) | omega)⟩) hS0 ?_
  refine wpAnyH_take (i := 1) (v := .pointer (some ⟨pb, 0, none⟩)) rfl (by kernel_rfl) (by kernel_rfl) (by kernel_rfl) (fun _ _ _ h => h) (Or.inl ⟨by rfl, by intro W hW; go_simp; try (first | (with_reducible rfl) | omega)⟩) hS0 ?_
  refine wpAnyH_take (i := 2) (v := .pointer (some ⟨pb, 0, none⟩)) rfl (by kernel_rfl) (by kernel_rfl) (by kernel_rfl) (fun _ _ _ h => h) (Or.inl ⟨by rfl, by intro W hW; go_simp; try (first | (with_reducible rfl) | omega)⟩) hS0 ?_
  refine wpAnyH_take (i := 3) (v := .pointer (some ⟨pb, 0, none⟩)) rfl (by kernel_rfl) (by kernel_rfl) (by kernel_rfl) (fun _ _ _ h => h) (Or.inl ⟨by rfl, by intro W hW; go_simp; try (first | (with_reducible rfl) | omega)⟩) hS0 ?_
  refine wpAnyH_take (i := 5) (v := .agg #[.int .i64 fr, .int .i64 fn, .slice A2 m c2]) rfl (by kernel_rfl) (by kernel_rfl) (by kernel_rfl) (fun _ _ _ h => h) (Or.inl ⟨by rfl, by intro W hW; obtain ⟨g0, g1, g2⟩ := HQ.out W hW; go_simp; try (first | (with_reducible rfl) | omega)⟩) hS0 ?_
  refine wpAnyH_two (i := 4) (j := 6) (by kernel_rfl) rfl rfl (fun K hK => ?_) (fun K hK => ?_)
  · go_simp
    refine hK _ _ ⟨hS0, ?_⟩; clear hK K
    refine wpAnyH_one (i := 6) (by kernel_rfl) rfl (fun K hK => ?_)
    go_simp
    refine hK _ _ ⟨hS4, ?_⟩; clear hK K
    refine wpAnyH_one (i := 7) (by kernel_rfl) rfl (fun K hK => ?_)
    refine step_append_src _ rfl (.tmp 14) (.tmp 16) 34 rfl (pb + 1) 26 i0 (.agg #[.int .i64 0, .int .i64 0, .slice none 0 0]) 3 40 Try.underlying34 hi hz0 hz1 hz2 rfl (by decide) (.slice A ps.length c) ps.length (ps.flatMap cellsP) ?qq1 HOW.out (some ⟨w3.heap.size, 0, none⟩) 1 1 [.int .i64 fr, .int .i64 fn, .slice A2 m c2] ?qq2 hsrc.out hone.out h63 hby hbase ?_
    case qq1 => go_simp
    case qq2 => go_simp
    intro v' w5 hown hgrow hat
    obtain ⟨A', c', rfl, _⟩ := own_form hown
    rw [hflat.out] at hown
    have hS5 : Kp (Blk pb A mo) w3 w5 := hS4.ofGrown hgrow (fun j hj _ => .inr (.inl (own_block HOW.out hj)))
    have hpbA : ¬ A = some ⟨pb, 0, none⟩ := fun hA => by have := (own_lt HOW.out hA).1; omega
    have k5 : Kp (fun j => A = some ⟨j, 0, none⟩) w3 w5 := (HK4.out.mono (fun _ _ h => h.elim)).ofGrown hgrow (fun j hj _ => own_block HOW.out hj)
    have g5 : w5.cell? ⟨pb, 0, none⟩ = some (.slice A ps.length c) := k5.cellv g0 hpbA
    have gf5 : w5.frozen? ⟨pb, 0, none⟩ = false := (k5.frozen (p := ⟨pb, 0, none⟩) hlt4 hpbA).trans gf
    have hm5 : MapC w5 pb mo k (cntP ps) := HP3.out.mp.kp k5 hpbA (fun b hb hA => HP3.out.map_ne hA hb)
    have HOWN := Lib.hid hown
    have HGR := Lib.hid hgrow
    have HAT := Lib.hid hat
    have HM5 := Lib.hid hm5
    clear hown hgrow hat k5 hpbA hm5
    refine hK _ _ ⟨hS5, ?_⟩; clear hK K
    refine wpAnyH_one (i := 8) (by kernel_rfl) rfl (fun K hK => ?_)
    go_simp
    refine hK _ _ ⟨hS5, ?_⟩; clear hK K
    refine wpAnyH_one (i := 9) (by kernel_rfl) rfl (fun K hK => ?_)
    go_simp
    refine hK _ _ ⟨hS5, ?_⟩; clear hK K
    refine wpAnyH_one (i := 10) (by kernel_rfl) rfl (fun K hK => ?_)
    go_simp
    refine hK _ _ ⟨(hS5.setCell (p := ⟨pb, 0, none⟩) (fun _ => .inl rfl) _), ?_⟩; clear hK K
    refine wpAnyH_done (by kernel_rfl) ?_ _
    obtain ⟨w6, hw6⟩ : ∃ w6, w5.setCell ⟨pb, 0, none⟩ (.slice A' (ps.length + 1) c') = w6 := ⟨_, rfl⟩
    have r0 : w6.cell? ⟨w.heap.size, 0, none⟩ = some (.int .i64 fr) := by rw [← hw6]; exact (HQ.out _ (hS5.setCell (p := ⟨pb, 0, none⟩) (fun _ => .inl rfl) _)).1
    have hm6 : MapC w6 pb mo k (cntP ps) := by rw [← hw6]; exact HM5.out.set0 _
    have HW6 := Lib.hid hw6
    have hle := cntP_le ps fr
    have cc := Lib.hid (count_any pb mo k (cntP ps) fr 1 w6 hm6 hf (.inl rfl) (by omega) (by omega))
    clear hm6 hle
    rw [hw6]
    clear hw6
    go_wp2_with fail
    refine cc.out.mono ?_
    rintro e w7 ⟨⟨v, rfl⟩, mo', hmn, hm7, hk7, hmo7, hc7, hf7⟩
    have F := Lib.hid (push_fin HP3.out HK3.out HS3.out HO3.out HK4.out HOWN.out HGR.out HAT.out hm7 (by rw [HW6.out]; exact hk7) (by rw [HW6.out]; exact hmo7) (by rw [HW6.out]; exact hc7) (by rw [HW6.out]; exact hf7))
    clear hm7 hk7 hmo7 hc7 hf7 hmn
    go_wp2_with fail
    go_end0
    exact ⟨⟨_, rfl⟩, F.out⟩
  · go_simp
    refine hK _ _ ⟨hS4, ?_⟩; clear hK K
    refine wpAnyH_one (i := 4) (by kernel_rfl) rfl (fun K hK => ?_)
    go_simp
    refine hK _ _ ⟨hS4, ?_⟩; clear hK K
    refine wpAnyH_one (i := 7) (by kernel_rfl) rfl (fun K hK => ?_)
    refine step_append_src _ rfl (.tmp 14) (.tmp 16) 34 rfl (pb + 1) 26 i0 (.agg #[.int .i64 0, .int .i64 0, .slice none 0 0]) 3 40 Try.underlying34 hi hz0 hz1 hz2 rfl (by decide) (.slice A ps.length c) ps.length (ps.flatMap cellsP) ?qq1 HOW.out (some ⟨w3.heap.size, 0, none⟩) 1 1 [.int .i64 fr, .int .i64 fn, .slice A2 m c2] ?qq2 hsrc.out hone.out h63 hby hbase ?_
    case qq1 => go_simp
    case qq2 => go_simp
    intro v' w5 hown hgrow hat
    obtain ⟨A', c', rfl, _⟩ := own_form hown
    rw [hflat.out] at hown
    have hS5 : Kp (Blk pb A mo) w3 w5 := hS4.ofGrown hgrow (fun j hj _ => .inr (.inl (own_block HOW.out hj)))
    have hpbA : ¬ A = some ⟨pb, 0, none⟩ := fun hA => by have := (own_lt HOW.out hA).1; omega
    have k5 : Kp (fun j => A = some ⟨j, 0, none⟩) w3 w5 := (HK4.out.mono (fun _ _ h => h.elim)).ofGrown hgrow (fun j hj _ => own_block HOW.out hj)
    have g5 : w5.cell? ⟨pb, 0, none⟩ = some (.slice A ps.length c) := k5.cellv g0 hpbA
    have gf5 : w5.frozen? ⟨pb, 0, none⟩ = false := (k5.frozen (p := ⟨pb, 0, none⟩) hlt4 hpbA).trans gf
    have hm5 : MapC w5 pb mo k (cntP ps) := HP3.out.mp.kp k5 hpbA (fun b hb hA => HP3.out.map_ne hA hb)
    have HOWN := Lib.hid hown
    have HGR := Lib.hid hgrow
    have HAT := Lib.hid hat
    have HM5 := Lib.hid hm5
    clear hown hgrow hat k5 hpbA hm5
    refine hK _ _ ⟨hS5, ?_⟩; clear hK K
    refine wpAnyH_one (i := 8) (by kernel_rfl) rfl (fun K hK => ?_)
    go_simp
    refine hK _ _ ⟨hS5, ?_⟩; clear hK K
    refine wpAnyH_one (i := 9) (by kernel_rfl) rfl (fun K hK => ?_)
    go_simp
    refine hK _ _ ⟨hS5, ?_⟩; clear hK K
    refine wpAnyH_one (i := 10) (by kernel_rfl) rfl (fun K hK => ?_)
    go_simp
    refine hK _ _ ⟨(hS5.setCell (p := ⟨pb, 0, none⟩) (fun _ => .inl rfl) _), ?_⟩; clear hK K
    refine wpAnyH_done (by kernel_rfl) ?_ _
    obtain ⟨w6, hw6⟩ : ∃ w6, w5.setCell ⟨pb, 0, none⟩ (.slice A' (ps.length + 1) c') = w6 := ⟨_, rfl⟩
    have r0 : w6.cell? ⟨w.heap.size, 0, none⟩ = some (.int .i64 fr) := by rw [← hw6]; exact (HQ.out _ (hS5.setCell (p := ⟨pb, 0, none⟩) (fun _ => .inl rfl) _)).1
    have hm6 : MapC w6 pb mo k (cntP ps) := by rw [← hw6]; exact HM5.out.set0 _
    have HW6 := Lib.hid hw6
    have hle := cntP_le ps fr
    have cc := Lib.hid (count_any pb mo k (cntP ps) fr 1 w6 hm6 hf (.inl rfl) (by omega) (by omega))
    clear hm6 hle
    rw [hw6]
    clear hw6
    go_wp2_with fail
    refine cc.out.mono ?_
    rintro e w7 ⟨⟨v, rfl⟩, mo', hmn, hm7, hk7, hmo7, hc7, hf7⟩
    have F := Lib.hid (push_fin HP3.out HK3.out HS3.out HO3.out HK4.out HOWN.out HGR.out HAT.out hm7 (by rw [HW6.out]; exact hk7) (by rw [HW6.out]; exact hmo7) (by rw [HW6.out]; exact hc7) (by rw [HW6.out]; exact hf7))
    clear hm7 hk7 hmo7 hc7 hf7 hmn
    go_wp2_with fail
    go_end0
    exact ⟨⟨_, rfl⟩, F.out⟩
end Go.Proofs.Ythddhipmmhihlaa
