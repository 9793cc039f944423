import Derived.Test.YtobmjnmcjddhcaaGreatRg9
import Derived.Test.YtobmjnmcjddhcaaGreatRg11
set_option linter.unusedSimpArgs false
set_option linter.unusedVariables false
namespace Go.Proofs.YtobmjnmcjddhcaaGreat
section
open Go.RowKit
def updT (T : Nat → List Int) (q : Nat) (l : List Int) : Nat → List Int := fun i => if i = q then l else T i
theorem updT_same {T : Nat → List Int} {q : Nat} {l : List Int} : updT T q l q = l := by unfold updT; rw [if_pos rfl]
theorem updT_other {T : Nat → List Int} {i q : Nat} {l : List Int} (h : ¬ i = q) : updT T q l i = T i := by unfold updT; rw [if_neg h]
def Hit (R : Nat → Bool) (T : Nat → List Int) (n : Nat) (z : List Int) (k : Int) : Prop := ∃ q : Nat, k = (q : Int) ∧ q < n ∧ R q = true ∧ T q = z
section
variable {E : Nat → List Int → List Int → Prop} {S : Nat → List Int} {n p : Nat} {R D : Nat → Bool} {T : Nat → List Int}
theorem Hit.put {z w : List Int} {k : Int} (h : Hit R T n z k) {q : Nat} (hq : R q = false) : Hit (upd R q true) (updT T q w) n z k := by
 obtain ⟨q', e, h1, h2, h3⟩ := h
 have hne : ¬ q' = q := fun e => by rw [e, hq] at h2; cases h2
 exact ⟨q', e, h1, by rw [upd_other _ _ hne]; exact h2, by rw [updT_other hne]; exact h3⟩
structure TI (E : Nat → List Int → List Int → Prop) (S : Nat → List Int) (n p : Nat) (R D : Nat → Bool) (T : Nat → List Int) : Prop where
 r0 : R 0 = true
 t0 : T 0 = []
 dn : ∀ p', p' < n → D p' = true → R p' = true ∧ ∃ z, E p' (T p') z ∧ ∀ k ∈ S p', Hit R T n z k
 up : ∀ p', p' < p → R p' = true → D p' = true
theorem TI.skip (h : TI E S n p R D T) (hs : R p = false ∨ D p = true) : TI E S n (p + 1) R D T :=
 ⟨h.r0, h.t0, h.dn, fun p' hp' hr => by
  rcases Nat.lt_or_ge p' p with hl | hl
  ·exact h.up p' hl hr
  ·obtain rfl : p' = p := by omega
   rcases hs with hs | hs
   ·rw [hs] at hr; cases hr
   ·exact hs⟩
structure TQ (E : Nat → List Int → List Int → Prop) (S : Nat → List Int) (n p : Nat) (D : Nat → Bool) (tl el : List Int) (j : Nat) (a : Int) (R : Nat → Bool) (T : Nat → List Int) : Prop where
 r0 : R 0 = true
 t0 : T 0 = []
 rp : R p = true
 ep : E p (T p) el
 dn : ∀ p', p' < n → D p' = true → R p' = true ∧ ∃ z, E p' (T p') z ∧ ∀ k ∈ S p', Hit R T n z k
 hit : ∀ (i : Nat) (v : Int), i < j → tl[i]? = some v → Hit R T n el v
 up : ∀ p' : Nat, (p' : Int) ≤ a → R p' = true → upd D p true p' = true
variable {tl el : List Int} {j : Nat} {a : Int}
theorem TI.start (h : TI E S n p R D T) (hr : R p = true) (he : E p (T p) el) : TQ E S n p D tl el 0 (p : Int) R T :=
 ⟨h.r0, h.t0, hr, he, h.dn, fun i v hi => by omega, fun p' hp' hr' => by
  by_cases e : p' = p
  ·rw [e, upd_same]
  ·rw [upd_other _ _ e]; exact h.up p' (by omega) hr'⟩
theorem TQ.same (h : TQ E S n p D tl el j a R T) {q : Nat} (hv : tl[j]? = some (q : Int)) (hq : q < n) (hr : R q = true) (ht : T q = el) : TQ E S n p D tl el (j + 1) a R T :=
 ⟨h.r0, h.t0, h.rp, h.ep, h.dn, fun i v hi hiv => by
  rcases Nat.lt_or_ge i j with hl | hl
  ·exact h.hit i v hl hiv
  ·obtain rfl : i = j := by omega
   rw [hv] at hiv
   injection hiv with hiv
   exact ⟨q, hiv.symm, hq, hr, ht⟩, h.up⟩
theorem TQ.new (h : TQ E S n p D tl el j a R T) {q : Nat} (hv : tl[j]? = some (q : Int)) (hq : q < n) (hr : R q = false) {a' : Int} (h1 : a' ≤ a) (h2 : a' ≤ (q : Int) - 1) : TQ E S n p D tl el (j + 1) a' (upd R q true) (updT T q el) := by
 have n0 : ¬ 0 = q := fun e => by rw [← e, h.r0] at hr; cases hr
 have np : ¬ p = q := fun e => by rw [← e, h.rp] at hr; cases hr
 refine ⟨by rw [upd_other _ _ n0]; exact h.r0, by rw [updT_other n0]; exact h.t0, by rw [upd_other _ _ np]; exact h.rp, by rw [updT_other np]; exact h.ep, fun p' hp' hd => ?_, fun i v hi hiv => ?_, fun p' hp' hr' => ?_⟩
 ·obtain ⟨a1, z, a2, a3⟩ := h.dn p' hp' hd
  have np' : ¬ p' = q := fun e => by rw [e, hr] at a1; cases a1
  exact ⟨by rw [upd_other _ _ np']; exact a1, z, by rw [updT_other np']; exact a2, fun k hk => (a3 k hk).put hr⟩
 ·rcases Nat.lt_or_ge i j with hl | hl
  ·exact (h.hit i v hl hiv).put hr
  ·obtain rfl : i = j := by omega
   rw [hv] at hiv
   injection hiv with hiv
   exact ⟨q, hiv.symm, hq, upd_same _ _ _, updT_same⟩
 ·have np' : ¬ p' = q := fun e => by omega
  rw [upd_other _ _ np'] at hr'
  exact h.up p' (by omega) hr'
theorem TQ.fin (h : TQ E S n p D tl el j a R T) (htl : S p = tl) (hl : tl.length = j) (ha : -1 ≤ a) : TI E S n (a + 1).toNat R (upd D p true) T :=
 ⟨h.r0, h.t0, fun p' hp' hd => by
  by_cases e : p' = p
  ·subst e
   refine ⟨h.rp, el, h.ep, fun k hk => ?_⟩
   rw [htl] at hk
   obtain ⟨i, hi, hik⟩ := List.mem_iff_getElem.1 hk
   exact h.hit i k (by omega) (by rw [List.getElem?_eq_getElem hi, hik])
  ·rw [upd_other _ _ e] at hd
   exact h.dn p' hp' hd, fun p' hp' hr => h.up p' (by omega) hr⟩
end
def TyOk (fs : List DFunc) (x : DFunc) : Prop := ∃ (R : Nat → Bool) (T : Nat → List Int), R 0 = true ∧ T 0 = [] ∧ ∀ p, p < x.code.length → R p = true → ∃ z, EffK fs x p (T p) z ∧ ∀ k ∈ nextM x p ++ opensM x p, Hit R T x.code.length z k
def OfX (W : World) (ob n : Nat) (T : Nat → List Int) : Prop := ∃ vs : List Value, vs.length = n ∧ Cells W ob vs ∧ ∀ (i : Nat) (v : Value), vs[i]? = some v → ∃ A k c, v = Value.slice A k c ∧ k ≤ 60 ∧ SlI W W.heap.size A k c (T i)
theorem OfX.at_ {W : World} {ob n : Nat} {T : Nat → List Int} (h : OfX W ob n T) {i : Nat} (hi : i < n) : ∃ A k c, W.cell? ⟨ob, i, none⟩ = some (.slice A k c) ∧ k ≤ 60 ∧ SlI W W.heap.size A k c (T i) := by
 obtain ⟨vs, hl, hc, hx⟩ := h
 obtain ⟨v, hv⟩ : ∃ v, vs[i]? = some v := ⟨_, List.getElem?_eq_getElem (by omega)⟩
 obtain ⟨A, k, c, rfl, hk, hs⟩ := hx i v hv
 exact ⟨A, k, c, hc.at_ i _ hv, hk, hs⟩
theorem OfX.fz {W : World} {ob n : Nat} {T : Nat → List Int} (h : OfX W ob n T) {i : Nat} (hi : i < n) : W.frozen? ⟨ob, i, none⟩ = false := by
 obtain ⟨vs, hl, hc, hx⟩ := h
 exact hc.fz i (by omega)
theorem OfX.on {W W' : World} {ob n : Nat} {T : Nat → List Int} (h : OfX W ob n T) (hb : Below W.heap.size W W') : OfX W' ob n T := by
 obtain ⟨vs, hl, hc, hx⟩ := h
 exact ⟨vs, hl, hc.on hb, fun i v hv => by
  obtain ⟨A, k, c, e, hk, hs⟩ := hx i v hv
  exact ⟨A, k, c, e, hk, hs.on hb⟩⟩
theorem OfX.far {W : World} {ob n : Nat} {T : Nat → List Int} (h : OfX W ob n T) {b q : Nat} (hne : ob ≠ b) {v : Value} (hp : W.cell? ⟨b, q, none⟩ = some v) (hv : ∀ z, v ≠ .int .i64 z) (u : Value) : OfX (W.setCell ⟨b, q, none⟩ u) ob n T := by
 obtain ⟨vs, hl, hc, hx⟩ := h
 refine ⟨vs, hl, hc.far hne u, fun i v hv' => ?_⟩
 obtain ⟨A, k, c, e, hk, hs⟩ := hx i v hv'
 refine ⟨A, k, c, e, hk, ?_⟩
 have := sli_set hs hp hv u
 rwa [show (W.setCell ⟨b, q, none⟩ u).heap.size = W.heap.size by simp [World.setCell]]
theorem OfX.put {W : World} {ob n : Nat} {T : Nat → List Int} (h : OfX W ob n T) {q : Nat} (hq : q < n) {A : Option Addr} {k c : Nat} {l : List Int} (hk : k ≤ 60) (hs : SlI W W.heap.size A k c l) : OfX (W.setCell ⟨ob, q, none⟩ (.slice A k c)) ob n (updT T q l) := by
 obtain ⟨A0, k0, c0, hp, _, _⟩ := h.at_ hq
 have hz : (W.setCell ⟨ob, q, none⟩ (.slice A k c)).heap.size = W.heap.size := by simp [World.setCell]
 obtain ⟨vs, hl, hc, hx⟩ := h
 refine ⟨vs.set q (.slice A k c), by simp [hl], hc.put q (by omega) _, fun i v hv => ?_⟩
 by_cases e : i = q
 ·subst e
  rw [List.getElem?_set_self (by omega)] at hv
  injection hv with hv
  subst hv
  exact ⟨A, k, c, rfl, hk, by rw [hz, updT_same]; exact sli_set hs hp (fun z h => by cases h) _⟩
 ·rw [List.getElem?_set_ne (Ne.symm e)] at hv
  obtain ⟨A1, k1, c1, e1, hk1, hs1⟩ := hx i v hv
  exact ⟨A1, k1, c1, e1, hk1, by rw [hz, updT_other e]; exact sli_set hs1 hp (fun z h => by cases h) _⟩
structure StX (w2 : World) (tb ob rb db n : Nat) (W : World) (fR fD : Nat → Bool) (T : Nat → List Int) : Prop where
 w : Below w2.heap.size w2 W
 t : Cells W tb [.slice (some ⟨ob, 0, none⟩) n n, .slice (some ⟨rb, 0, none⟩) n n]
 o : OfX W ob n T
 r : Cells W rb (arrB n fR)
 d : Cells W db (arrB n fD)
 l1 : w2.heap.size ≤ tb ∧ w2.heap.size ≤ ob ∧ w2.heap.size ≤ rb ∧ w2.heap.size ≤ db
 ne : tb ≠ ob ∧ tb ≠ rb ∧ tb ≠ db ∧ ob ≠ rb ∧ ob ≠ db ∧ rb ≠ db
variable {w2 W W' : World} {tb ob rb db n : Nat} {fR fD : Nat → Bool} {T : Nat → List Int}
theorem StX.on (h : StX w2 tb ob rb db n W fR fD T) (hb : Below W.heap.size W W') : StX w2 tb ob rb db n W' fR fD T :=
 ⟨h.w.trans (hb.mono h.w.size), h.t.on hb, h.o.on hb, h.r.on hb, h.d.on hb, h.l1, h.ne⟩
theorem StX.yesR (h : StX w2 tb ob rb db n W fR fD T) {q : Nat} (hq : q < n) : StX w2 tb ob rb db n (W.setCell ⟨rb, q, none⟩ (.bool true)) (upd fR q true) fD T := by
 have hc := h.r.at_ q _ (arrB_at fR hq)
 have hv : ∀ z, Value.bool (fR q) ≠ .int .i64 z := fun z h => by cases h
 obtain ⟨a1, a2, a3, a4, a5, a6⟩ := h.ne
 refine ⟨h.w.setCell (p := ⟨rb, q, none⟩) h.l1.2.2.1 _, h.t.far a2 _, h.o.far a4 hc hv _, ?_, h.d.far (Ne.symm a6) _, h.l1, h.ne⟩
 have := h.r.put q (by rw [arrB_len]; exact hq) (.bool true)
 rwa [arrB_set] at this
theorem StX.yesD (h : StX w2 tb ob rb db n W fR fD T) {q : Nat} (hq : q < n) : StX w2 tb ob rb db n (W.setCell ⟨db, q, none⟩ (.bool true)) fR (upd fD q true) T := by
 have hc := h.d.at_ q _ (arrB_at fD hq)
 have hv : ∀ z, Value.bool (fD q) ≠ .int .i64 z := fun z h => by cases h
 obtain ⟨a1, a2, a3, a4, a5, a6⟩ := h.ne
 refine ⟨h.w.setCell (p := ⟨db, q, none⟩) h.l1.2.2.2 _, h.t.far a3 _, h.o.far a5 hc hv _, h.r.far a6 _, ?_, h.l1, h.ne⟩
 have := h.d.put q (by rw [arrB_len]; exact hq) (.bool true)
 rwa [arrB_set] at this
theorem StX.put (h : StX w2 tb ob rb db n W fR fD T) {q : Nat} (hq : q < n) {A : Option Addr} {k c : Nat} {l : List Int} (hk : k ≤ 60) (hs : SlI W W.heap.size A k c l) : StX w2 tb ob rb db n (W.setCell ⟨ob, q, none⟩ (.slice A k c)) fR fD (updT T q l) := by
 obtain ⟨a1, a2, a3, a4, a5, a6⟩ := h.ne
 exact ⟨h.w.setCell (p := ⟨ob, q, none⟩) h.l1.2.1 _, h.t.far a1 _, h.o.put hq hk hs, h.r.far (Ne.symm a4) _, h.d.far (Ne.symm a5) _, h.l1, h.ne⟩
theorem StX.sliR (h : StX w2 tb ob rb db n W fR fD T) {q : Nat} (hq : q < n) {A : Option Addr} {k c : Nat} {l : List Int} (hs : SlI W W.heap.size A k c l) : SlI (W.setCell ⟨rb, q, none⟩ (.bool true)) (W.setCell ⟨rb, q, none⟩ (.bool true)).heap.size A k c l := by
 have := sli_set hs (h.r.at_ q _ (arrB_at fR hq)) (fun z h => by cases h) (.bool true)
 rwa [show (W.setCell ⟨rb, q, none⟩ (.bool true)).heap.size = W.heap.size by simp [World.setCell]]
theorem StX.sliO (h : StX w2 tb ob rb db n W fR fD T) {q : Nat} (hq : q < n) {A : Option Addr} {k c : Nat} {l : List Int} (hs : SlI W W.heap.size A k c l) (u : Value) : SlI (W.setCell ⟨ob, q, none⟩ u) (W.setCell ⟨ob, q, none⟩ u).heap.size A k c l := by
 obtain ⟨A0, k0, c0, hp, _, _⟩ := h.o.at_ hq
 have := sli_set hs hp (fun z h => by cases h) u
 rwa [show (W.setCell ⟨ob, q, none⟩ u).heap.size = W.heap.size by simp [World.setCell]]
theorem ofx_start {n : Nat} (h : Cells W ob (List.replicate n (.slice none 0 0))) : OfX W ob n (fun _ => []) :=
 ⟨_, by simp, h, fun i v hv => by
  rw [List.getElem?_replicate] at hv
  split at hv
  ·injection hv with hv; exact ⟨none, 0, 0, hv.symm, by omega, sli_nil _⟩
  ·cases hv⟩
end
section
open Go.RowKit
theorem wpAnyH_two {P : Program} {ops : Array Oper} {Q : Exit → Act → World → Prop} {md : Region.Mode} {S : World → Prop} {i j fuel : Nat} {oi oj : Oper} {listed : Array Bool} {a : Act} {w : World}
  (hr : Region.ready md ops listed = [i, j]) (hi : ops[i]? = some oi) (hj : ops[j]? = some oj)
  (h : ∀ K' : Act → World → Prop, (∀ a w, S w ∧ wpAnyH P md ops Q S fuel (listed.setIfInBounds i true) a w → K' a w) → if Region.wanted oi (yielded ops a.tmps) = true then Oper.wp P oi a w K' Q else K' (a.put oi.dst undef) w)
  (k : ∀ K' : Act → World → Prop, (∀ a w, S w ∧ wpAnyH P md ops Q S fuel (listed.setIfInBounds j true) a w → K' a w) → if Region.wanted oj (yielded ops a.tmps) = true then Oper.wp P oj a w K' Q else K' (a.put oj.dst undef) w) :
  wpAnyH P md ops Q S (fuel + 1) listed a w :=
 wpAnyH_all hr (by simp) (fun x hx => by
  simp only [List.mem_cons, List.not_mem_nil, or_false] at hx
  rcases hx with rfl | rfl
  ·exact wpOp_step hi h
  ·exact wpOp_step hj k)
theorem wpAnyH_three {P : Program} {ops : Array Oper} {Q : Exit → Act → World → Prop} {md : Region.Mode} {S : World → Prop} {i j l fuel : Nat} {oi oj ol : Oper} {listed : Array Bool} {a : Act} {w : World}
  (hr : Region.ready md ops listed = [i, j, l]) (hi : ops[i]? = some oi) (hj : ops[j]? = some oj) (hl : ops[l]? = some ol)
  (h : ∀ K' : Act → World → Prop, (∀ a w, S w ∧ wpAnyH P md ops Q S fuel (listed.setIfInBounds i true) a w → K' a w) → if Region.wanted oi (yielded ops a.tmps) = true then Oper.wp P oi a w K' Q else K' (a.put oi.dst undef) w)
  (k : ∀ K' : Act → World → Prop, (∀ a w, S w ∧ wpAnyH P md ops Q S fuel (listed.setIfInBounds j true) a w → K' a w) → if Region.wanted oj (yielded ops a.tmps) = true then Oper.wp P oj a w K' Q else K' (a.put oj.dst undef) w)
  (m : ∀ K' : Act → World → Prop, (∀ a w, S w ∧ wpAnyH P md ops Q S fuel (listed.setIfInBounds l true) a w → K' a w) → if Region.wanted ol (yielded ops a.tmps) = true then Oper.wp P ol a w K' Q else K' (a.put ol.dst undef) w) :
  wpAnyH P md ops Q S (fuel + 1) listed a w :=
 wpAnyH_all hr (by simp) (fun x hx => by
  simp only [List.mem_cons, List.not_mem_nil, or_false] at hx
  rcases hx with rfl | rfl | rfl
  ·exact wpOp_step hi h
  ·exact wpOp_step hj k
  ·exact wpOp_step hl m)
end
end Go.Proofs.YtobmjnmcjddhcaaGreat
