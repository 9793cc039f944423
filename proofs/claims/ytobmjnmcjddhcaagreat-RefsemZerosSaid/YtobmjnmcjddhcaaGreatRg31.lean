import Derived.Test.YtobmjnmcjddhcaaGreatRg2
import Derived.Test.YtobmjnmcjddhcaaGreatRg30
set_option linter.unusedSimpArgs false
set_option linter.unusedVariables false
namespace Go.Proofs.YtobmjnmcjddhcaaGreat
section
open Go.RowKit
variable {T : Tag → Prop} {K : RK} {τ τ' : Nat → Tag} {w w' : World} {gs : List Nat} {g : Nat} {fr fp : Option Addr} {cb L : Nat} {s s' t : Ms} {x x' : Fr} {ys ys' : List Fr} {ch : List Bl}
abbrev RchK (K : RK) (s t : Ms) : Prop := Reach K.fs K.ds K.fuel s t
theorem reach_steps {fs : List DFunc} {ds : List Int} {f : Nat} {s t : Ms} (r : Reach fs ds f s t) : s.steps ≤ t.steps := by
 induction r with
 | refl => exact Nat.le_refl _
 | tail r e ih =>
  rcases step_cases e with ⟨x, r', e1, e2, e3, rfl⟩ | ⟨x, r', e1, e2, rfl⟩
  ·have := (do_sz fs ds { (‹Ms› : Ms) with steps := (‹Ms› : Ms).steps + 1 }).2.2.2.2
   simp only at this
   omega
  ·have := (end_sz fs (‹Ms› : Ms)).2.2.2.2
   omega
structure CI (K : RK) (τ : Nat → Tag) (w : World) (gs : List Nat) (fr fp : Option Addr) (cb : Nat) (s : Ms) (ys : List Fr) (dfd by_ : Bool) : Prop where
 env : Env K τ w
 vm : VM K τ w gs s
 tb : TBs K τ w gs ys
 pr : ys = [] ∨ ∃ y r gp gs', ys = y :: r ∧ gs = gp :: gs' ∧ FZ K τ ys.length w gp fp y ∧ (dfd = true → fr = some ⟨gp, 0, none⟩)
 nf : dfd = false → fr = none
 dn : dfd = true → ys ≠ []
 bd : by_ = true → dfd = true
 ct : by_ = true → CtxZ τ w ys.length cb (chOf ys)
def DryP (K : RK) (τ : Nat → Tag) (w : World) (L : Nat) (s0 : Ms) (gs : List Nat) (e : Ending) (w' : World) : Prop := e = .panicked dryE ∧ ∃ τ' t, Tr (TT L) τ w τ' w' ∧ Env K τ' w' ∧ VM K τ' w' gs t ∧ RchK K s0 t ∧ t.fr ≠ [] ∧ stepM K.fs K.ds K.fuel t = none
theorem DryP.from {e : Ending} {τ1 : Nat → Tag} {w1 : World} (h : DryP K τ1 w1 L t gs e w') (r : RchK K s t) (k : Tr (TT L) τ w τ1 w1) : DryP K τ w L s gs e w' := by
 obtain ⟨h1, τ', u, h0, h2, h3, h4, h5⟩ := h
 exact ⟨h1, τ', u, k.trans h0, h2, h3, r.trans h4, h5⟩
theorem DryP.up {e : Ending} (h : DryP K τ w (L + 1) t gs e w') : DryP K τ w L t gs e w' := by
 obtain ⟨h1, τ', u, h0, h2⟩ := h
 exact ⟨h1, τ', u, h0.up, h2⟩
theorem DryP.lv {e : Ending} (h : DryP K τ w (ys'.length + 1) t gs e w') (hu : Und ys ys') : DryP K τ w (ys.length + 1) t gs e w' := by
 rw [hu.len] at h
 exact h
def CallP (K : RK) (τ : Nat → Tag) (w : World) (gs : List Nat) (fr fp : Option Addr) (cb : Nat) (s0 : Ms) (ys : List Fr) (dfd by_ : Bool) (e : Ending) (w' : World) : Prop :=
 DryP K τ w (ys.length + 1) s0 gs e w' ∨ ∃ τ' t x' ys', s0.steps < t.steps ∧ RchK K s0 t ∧ t.fr = x' :: ys' ∧ x'.cs = [] ∧ x'.dfd = dfd ∧ CI K τ' w' gs fr fp cb t ys' dfd by_ ∧ Tr (TT (ys.length + 1)) τ w τ' w' ∧ Und ys ys' ∧
  ((x'.mode = 1 ∧ ∃ A n c l, e = .returned (.tuple #[.slice A n c, .slice none 0 0]) ∧ cnL l = resultsM K.fs x' ∧ Im τ' w' A n 3 (rowVl l)) ∨ (x'.mode = 2 ∧ openB x'.ch = true ∧ ∃ ad n c, e = .returned (.tuple #[.slice none 0 0, .slice (some ad) n c]) ∧ ChZ τ' w' (some ad) n c x'.ch))
def CallC (K : RK) (u : Nat) : Prop := ∀ (τ : Nat → Tag) (w : World) (gs : List Nat) (fr fp : Option Addr) (cb : Nat) (s : Ms) (ys : List Fr) (f : Nat) (A : Option Addr) (n c : Nat) (l : List DV) (dfd by_ : Bool),
 CI K τ w gs fr fp cb s ys dfd by_ → OkM K.fs K.fuel { s with fr := openF K.fs f (cnL l) dfd by_ :: ys } → f < K.fn → n ≤ 300 → Im τ w A n 3 (rowVl l) → K.fuel - s.steps ≤ u →
 Calls Tryz.prog 75 #[ptrV K.m, .int .i64 (f : Int), .slice A n c, .pointer fr, if by_ = true then .pointer (some ⟨cb, 0, none⟩) else .pointer none] w (CallP K τ w gs fr fp cb { s with fr := openF K.fs f (cnL l) dfd by_ :: ys } ys dfd by_)
def BodyP (K : RK) (τ : Nat → Tag) (w : World) (gs : List Nat) (g : Nat) (fr fp : Option Addr) (cb : Nat) (s0 : Ms) (x : Fr) (ys : List Fr) (N : Nat) (m1 : Nat) (e : Ending) (w' : World) : Prop :=
 DryP K τ w (ys.length + 1) s0 (g :: gs) e w' ∨ ∃ τ' t x' ys', N ≤ t.steps ∧ RchK K s0 t ∧ XI K τ' w' gs g fr fp cb t x' ys' ∧ Tr (TT (ys.length + 1)) τ w τ' w' ∧ x'.dfd = x.dfd ∧ x'.by_ = x.by_ ∧ Und ys ys' ∧
  ((x'.mode = m1 ∧ e = .returned (.slice none 0 0)) ∨ (x'.mode = 2 ∧ openB x'.ch = true ∧ ∃ ad n c, e = .returned (.slice (some ad) n c) ∧ ChZ τ' w' (some ad) n c x'.ch))
def LvP (K : RK) (τ : Nat → Tag) (w : World) (gs : List Nat) (g : Nat) (fr fp : Option Addr) (cb : Nat) (s0 : Ms) (x : Fr) (ys : List Fr) (e : Ending) (w' : World) : Prop :=
 DryP K τ w (ys.length + 1) s0 (g :: gs) e w' ∨ ∃ τ' t x' ys', s0.steps ≤ t.steps ∧ RchK K s0 t ∧ XI K τ' w' gs g fr fp cb t x' ys' ∧ Tr (TT (ys.length + 1)) τ w τ' w' ∧ x'.dfd = x.dfd ∧ x'.by_ = x.by_ ∧ Und ys ys' ∧ x'.cs = [] ∧
  ((x'.mode = 1 ∧ e = .returned (.slice none 0 0)) ∨ (x'.mode = 2 ∧ openB x'.ch = true ∧ ∃ ad n c, e = .returned (.slice (some ad) n c) ∧ ChZ τ' w' (some ad) n c x'.ch))
theorem XI.back {d b : Bool} {fr' : Option Addr} {cb' : Nat} (h : XI K τ w gs g fr fp cb s x ys) (k : Tr (TT (ys.length + 1 + 1)) τ w τ' w') (hc : CI K τ' w' (g :: gs) fr' fr cb' t (x' :: ys) d b) (hd : x'.dfd = x.dfd) (hb : x'.by_ = x.by_) : XI K τ' w' gs g fr fp cb { t with fr := x' :: ys } x' ys := by
 have n0 : ¬ TT (ys.length + 1 + 1) (0, 0) := TT.no (by omega)
 have n1 : ∀ l j, 1 ≤ l → l ≤ ys.length → ¬ TT (ys.length + 1 + 1) (l, j) := fun l j h1 h2 e => by
  rcases e with ⟨e, _⟩ | e | ⟨e, _⟩ <;> simp at e <;> omega
 refine ⟨hc.env, hc.vm.same rfl rfl rfl, h.tb.tr k fun l h1 h2 => n1 l 0 h1 h2, ?_, ?_, fun e => h.nf (by rw [← hd]; exact e), fun e => h.dn (by rw [← hd]; exact e), fun e => by rw [hd]; exact h.bd (by rw [← hb]; exact e), fun e => ?_, rfl⟩
 ·rcases hc.pr with e | ⟨y, r, gp, gs', e1, e2, e3, e4⟩
  ·cases e
  ·injection e1 with e1 e1'
   injection e2 with e2 e2'
   subst e1; subst e1'; subst e2; subst e2'
   exact e3
 ·rcases h.pr with e | ⟨y, r, gp, gs', e1, e2, e3, e4⟩
  ·exact .inl e
  ·exact .inr ⟨y, r, gp, gs', e1, e2, e3.tr k (fun j _ => n1 _ j (by rw [e1]; simp) (Nat.le_refl _)) n0, by rw [hd]; exact e4⟩
 ·have hb' : x.by_ = true := by rw [← hb]; exact e
  exact (h.ct hb').tr k (n1 _ 4 (List.length_pos_iff.2 (h.dn (h.bd hb'))) (Nat.le_refl _)) n0
theorem XI.sub {b : Bool} {cb' : Nat} (h : XI K τ w gs g fr fp cb s x ys) (hb : b = true → CtxZ τ w (ys.length + 1) cb' x.ch) : CI K τ w (g :: gs) (some ⟨g, 0, none⟩) fr cb' s (x :: ys) true b :=
 ⟨h.env, h.vm, ⟨h.fz.tb, h.tb⟩, .inr ⟨x, ys, g, gs, rfl, rfl, h.fz, fun _ => rfl⟩, (fun e => by cases e), (fun _ e => by cases e), fun _ => rfl, hb⟩
theorem XI.sub0 (h : XI K τ w gs g fr fp cb s x ys) : CI K τ w (g :: gs) none fr 0 s (x :: ys) false false :=
 ⟨h.env, h.vm, ⟨h.fz.tb, h.tb⟩, .inr ⟨x, ys, g, gs, rfl, rfl, h.fz, (fun e => by cases e)⟩, fun _ => rfl, (fun e => by cases e), (fun e => by cases e), (fun e => by cases e)⟩
theorem XI.re (h : XI K τ w gs g fr fp cb s x ys) (k : Tr (fun _ => False) τ w τ' w') : XI K τ' w' gs g fr fp cb s x ys :=
 ⟨h.env.tr k id, h.vm.tr k fun _ => id, h.tb.tr k fun _ _ _ => id, h.fz.tr k (fun _ _ => id) id, pr_tr h k rfl (fun _ => id) id, h.nf, h.dn, h.bd, fun hb' => (h.ct hb').tr k id id, h.fre⟩
theorem XI.ms (h : XI K τ w gs g fr fp cb s x ys) (hf : FZ K τ (ys.length + 1) w g fr x → FZ K τ (ys.length + 1) w g fr x') (hd : x'.dfd = x.dfd) (hb : x'.by_ = x.by_) (e1 : t.drawn = s.drawn) (e2 : t.steps = s.steps) (e3 : t.evs = s.evs) (e4 : t.fr = x' :: ys) : XI K τ w gs g fr fp cb t x' ys :=
 ⟨h.env, h.vm.same e1 e2 e3, h.tb, hf h.fz, by rw [hd]; exact h.pr, by rw [hd]; exact h.nf, by rw [hd]; exact h.dn, by rw [hd, hb]; exact h.bd, by rw [hb]; exact h.ct, e4⟩
theorem FZ.leave {m : Nat} {st : List DV} {c : List Bl} (h : FZ K τ L w g fr x) (hm : m ≠ 0) : FZ K τ L w g fr { x with st := st, mode := m, ch := c } := by
 obtain ⟨R, h⟩ := h
 exact ⟨R, h.fn, h.fv, h.e11, h.e12, h.e13, h.e14, h.e15, h.e16, h.fz, h.r13, h.r14, h.r15, h.tg, h.t13, h.t14, h.t15, h.args, h.asl, fun e => absurd e hm, h.acs⟩
theorem open_ne {c : List Bl} (h : openB c = true) : c ≠ [] := by
 intro e
 subst e
 cases h
theorem ChZ.some_ {A : Option Addr} {n c : Nat} (h : ChZ τ w A n c ch) (ho : openB ch = true) : ∃ ad, A = some ad := by
 cases A with
 | some ad => exact ⟨ad, rfl⟩
 | none =>
  obtain ⟨h1, h2, h3, cells, h4, _⟩ := h
  have := h4.src.2.1 rfl
  exact absurd (List.eq_nil_of_length_eq_zero (h3.trans this)) (open_ne ho)
end
section
set_option maxRecDepth 100000
set_option maxHeartbeats 8000000
open Go.RowKit
attribute [local go_sem] run_store_cplx
variable {T : Tag → Prop} {K : RK} {τ τ' : Nat → Tag} {w w' : World} {gs : List Nat} {g : Nat} {fr fp : Option Addr} {cb L : Nat} {s s' t : Ms} {x x' : Fr} {ys ys' : List Fr} {ch : List Bl}
def ClP (K : RK) (τ : Nat → Tag) (w : World) (gs : List Nat) (g : Nat) (fr fp : Option Addr) (cb : Nat) (s : Ms) (x : Fr) (ys : List Fr) (e : Ending) (w' : World) : Prop :=
 DryP K τ w (ys.length + 1) (doM K.fs K.ds s) (g :: gs) e w' ∨ ∃ τ' s' x' ys', s.steps ≤ s'.steps ∧ XI K τ' w' gs g fr fp cb s' x' ys' ∧ Tr (TT (ys.length + 1)) τ w τ' w' ∧ x'.dfd = x.dfd ∧ x'.by_ = x.by_ ∧ Und ys ys' ∧
  ((x'.mode = 0 ∧ x'.pc = x.pc ∧ RchK K (doM K.fs K.ds s) (nextM' s' x' ys') ∧ e = .returned (.slice none 0 0)) ∨ (RchK K (doM K.fs K.ds s) s' ∧ x'.mode = 2 ∧ openB x'.ch = true ∧ ∃ ad n c, e = .returned (.slice (some ad) n c) ∧ ChZ τ' w' (some ad) n c x'.ch))
theorem res_le (hG : KG K) (f : Nat) : (fnOf K.fs f).results.length ≤ 300 := by
 by_cases h : f < K.fs.length
 ·have hf := hG.pg.pg.sm _ (fnOf_mem h)
  unfold smallF smallB at hf
  simp only [Bool.and_eq_true, decide_eq_true_eq] at hf
  omega
 ·unfold fnOf
  rw [List.getD_eq_getElem?_getD, List.getElem?_eq_none (by omega)]
  exact Nat.zero_le _
theorem calls_24 (hG : KG K) (h : XI K τ w gs g fr fp cb s x ys) (hm : x.mode = 0) (hl : x.st.length ≤ 9000) (hcs : x.cs.length ≤ 9000) (q : Nat) (hq : q < K.fn) (ho : (atM K.fs x).op = 24) (ha : (atM K.fs x).a = (q : Int)) (hnp : (fnOf K.fs q).params.length ≤ x.st.length) :
  Calls Tryz.prog 167 #[ptrV K.m, ptrV g, .agg #[.int .i64 24, .int .i64 (q : Int)]] w (ClP K τ w gs g fr fp cb s x ys) := by
 have hd := doM_24 (ds := K.ds) h.fre ho
 rw [ha, Int.toNat_natCast] at hd
 have HD := Hd hd
 have HCS := Hd hcs
 have hIb := hG.pg.get hq
 obtain ⟨bk, off, s9, b9, A0, n0, c0, A1, n1, c1, A2, n2, c2, A3, n3, c3, A4, n4, c4, A5, n5, c5, A6, n6, c6, A7, n7, c7, A8, n8, c8, xq, hFA, hbk, hxq, hcf, hfw, hcan⟩ := hIb
 obtain rfl := fnOf_of hxq
 have hn1 : n1 = (fnOf K.fs q).params.length := hfw.r1.1.symm
 have hn300 : n1 ≤ 300 := by have := hfw.sm; omega
 obtain ⟨PA, pn, pc, EA, en, ec, evs, hv⟩ := h.vm
 obtain ⟨m, hkm⟩ : ∃ m, K.m = m := ⟨_, rfl⟩
 have d0 := hv.c0
 have dml := hv.lt
 have dtm := hv.tm
 rw [hFA, hkm] at d0
 rw [hkm] at dml dtm
 have dq : w.cell? ⟨bk, off + q * 11 + 3, none⟩ = some (.slice A1 n1 c1) := (h.env.b0.cell (p := ⟨bk, off + q * 11 + 3, none⟩) hbk).trans (hcf 3 _ rfl)
 have dbk : bk < w.heap.size := Nat.lt_of_lt_of_le hbk h.env.b0.size
 have HB0 : Hid (Below w.heap.size w (w.alloc (.cells #[.int .i64 24, .int .i64 (q : Int)] 113)).drew) := Hd (below_drewN' ((Below.refl _ _).alloc (Nat.le_refl _) _) 1)
 have HT : Hid (τ w.heap.size = (0, 0) ∧ τ bk = (0, 0) ∧ τ m = (0, 1)) := Hd ⟨h.hz _ (Nat.le_refl _), h.env.t0 bk hbk, dtm⟩
 have HX := Hd h
 have HM := Hd hm
 have HL := Hd hl
 have HG := Hd hG
 have HKM := Hd hkm
 have HQ := Hd hq
 have HN1 := Hd hn1
 have HNP : Hid (n1 ≤ x.st.length) := Hd (by rw [hn1]; exact hnp)
 have HN3 := Hd hn300
 have hqi : (0 : Int) ≤ (q : Int) := by omega
 have hqn : (q : Int) < (K.fn : Int) := by omega
 have hqn2 : q < K.fn := hq
 obtain ⟨kn, hkn⟩ : ∃ kn, K.fn = kn := ⟨_, rfl⟩
 obtain ⟨kc, hkc⟩ : ∃ kc, K.fc = kc := ⟨_, rfl⟩
 rw [hkn] at d0 hqn hqn2
 rw [hkc] at d0
 have hkn50 : (kn : Int) ≤ 50 := by have := hG.pg.pg.le; omega
 rw [hkm]
 clear h hm hl hG hkm hcf hfw hcan hxq hv dtm hFA hnp hn300 hq hkn hkc hn1 hd ho ha hcs
 go_in
 go_wp2_with fail
 refine wp_region_held (S := fun W => W.cell? ⟨w.heap.size, 0, none⟩ = some (.int .i64 24) ∧ W.cell? ⟨w.heap.size, 1, none⟩ = some (.int .i64 (q : Int)) ∧ W.cell? ⟨m, 0, none⟩ = some (.slice (some ⟨bk, off, none⟩) kn kc) ∧ W.cell? ⟨bk, off + q * 11 + 3, none⟩ = some (.slice A1 n1 c1)) (by kernel_rfl) ?_
 change wpAnyH _ _ _ _ _ _ _ _ (World.drew _)
 obtain ⟨w1, hw1⟩ : ∃ W, (w.alloc (.cells #[.int .i64 24, .int .i64 (q : Int)] 113)).drew = W := ⟨_, rfl⟩
 have hb1 := HB0.out
 have hS0 : w1.cell? ⟨w.heap.size, 0, none⟩ = some (.int .i64 24) ∧ w1.cell? ⟨w.heap.size, 1, none⟩ = some (.int .i64 (q : Int)) ∧ w1.cell? ⟨m, 0, none⟩ = some (.slice (some ⟨bk, off, none⟩) kn kc) ∧ w1.cell? ⟨bk, off + q * 11 + 3, none⟩ = some (.slice A1 n1 c1) := by
  rw [hw1] at hb1
  exact ⟨by rw [← hw1]; simp [go_sem], by rw [← hw1]; simp [go_sem], (hb1.cell (p := ⟨m, 0, none⟩) dml).trans d0, (hb1.cell (p := ⟨bk, off + q * 11 + 3, none⟩) dbk).trans dq⟩
 rw [hw1] at hb1 ⊢
 have HX1 := Hd (HX.out.on hb1)
 have HK1 := Hd (Tr.below (T := TT (ys.length + 1)) HX.out.hz hb1)
 clear HB0 hw1 hb1 d0 dq dml dbk
 refine tkH 0 rfl (by intro W hW; go_simp; first | done | exact rfl) hS0 ?_
 try go_simp
 refine tkH 1 rfl (by intro W hW; go_simp; first | done | exact rfl) hS0 ?_
 try go_simp
 refine tkH 2 rfl (by intro W hW; go_simp; first | done | exact rfl) hS0 ?_
 try go_simp
 refine tkH 3 rfl (by intro W hW; go_simp; first | done | exact rfl) hS0 ?_
 try go_simp
 refine tkH 4 rfl (by intro W hW; go_simp; first | done | exact rfl) hS0 ?_
 try go_simp
 refine tkH 5 rfl (by intro W hW; obtain ⟨e0, e1, e2, e3⟩ := hW; go_simp; first | done | exact rfl) hS0 ?_
 try go_simp
 refine tkH 6 rfl (by intro W hW; go_simp; first | done | exact rfl) hS0 ?_
 try go_simp
 refine tkH 7 rfl (by intro W hW; obtain ⟨e0, e1, e2, e3⟩ := hW; go_simp; first | done | exact rfl) hS0 ?_
 try go_simp
 refine tkH 8 rfl (by intro W hW; obtain ⟨e0, e1, e2, e3⟩ := hW; go_simp; first | done | exact rfl) hS0 ?_
 try go_simp
 refine tkH 9 rfl (by intro W hW; go_simp; first | done | exact rfl) hS0 ?_
 try go_simp
 refine tkH 10 rfl (by intro W hW; obtain ⟨e0, e1, e2, e3⟩ := hW; go_simp; first | done | exact rfl) hS0 ?_
 try go_simp
 refine tkH 11 rfl (by intro W hW; go_simp; first | done | exact rfl) hS0 ?_
 try go_simp
 refine wpAnyH_one (i := 12) (by kernel_rfl) rfl (fun K' hK => ?_)
 go_simp
 refine (ztake HX1.out.fz (by omega) HX1.out.hz HM.out (by have := HL.out; omega) n1 HNP.out).mono ?_
 rintro e w2 ⟨A, c, l, rfl, hll, hown, τ2, hf, hk2, him⟩
 have hS2 : w2.cell? ⟨w.heap.size, 0, none⟩ = some (.int .i64 24) ∧ w2.cell? ⟨w.heap.size, 1, none⟩ = some (.int .i64 (q : Int)) ∧ w2.cell? ⟨m, 0, none⟩ = some (.slice (some ⟨bk, off, none⟩) kn kc) ∧ w2.cell? ⟨bk, off + q * 11 + 3, none⟩ = some (.slice A1 n1 c1) := by
  obtain ⟨e0, e1, e2, e3⟩ := hS0
  obtain ⟨t0, t1, t2⟩ := HT.out
  exact ⟨hk2.cellv e0 (by rw [t0]; exact TF.no (by omega)), hk2.cellv e1 (by rw [t0]; exact TF.no (by omega)), hk2.cellv e2 (by rw [t2]; exact fun e => by have h9 : 0 = ys.length + 1 := e.1; omega), hk2.cellv e3 (by rw [t1]; exact TF.no (by omega))⟩
 have HX2 := Hd (HX1.out.own hk2 hf rfl rfl)
 have HK2 := Hd (HK1.out.trans (hk2.mono fun _ => TT.tf))
 have HLL := Hd hll
 have HIM := Hd him
 clear hll hown hf hk2 him hS0
 refine hK _ _ ⟨hS2, ?_⟩; clear hK K'
 try go_simp
 refine tkH 13 rfl (by intro W hW; go_simp; first | done | exact rfl) hS2 ?_
 try go_simp
 refine wpAnyH_done (by kernel_rfl) ?_ _
 obtain ⟨e0, e1, e2, e3⟩ := hS2
 go_wp2_with fail
 have cD := Hd (zdefer (mc := c) HX2.out.fz (by omega) HX2.out.hz (Nat.le_trans HCS.out (by omega)) q HIM.out.srcv (by have := HN3.out; omega))
 refine cD.out.mono ?_
 rintro e w3 ⟨⟨u, rfl⟩, τ3, hf, hk3⟩
 have HX3 := Hd (HX2.out.own hk3 hf rfl rfl)
 have HK3 := Hd (HK2.out.trans (hk3.mono fun _ => TT.tf))
 clear hf hk3 cD e0 e1 e2 e3
 go_wp2_with fail
 go_ret
 refine .inr ⟨τ3, { s with fr := { x with st := x.st.take (x.st.length - n1), cs := x.cs ++ [⟨q, cnL l⟩] } :: ys }, { x with st := x.st.take (x.st.length - n1), cs := x.cs ++ [⟨q, cnL l⟩] }, ys, Nat.le_refl _, HX3.out, HK3.out, rfl, rfl, .inl rfl, .inl ⟨HM.out, rfl, ?_, rfl⟩⟩
 rw [HD.out, HLL.out, HN1.out]
 exact .refl _
theorem calls_23 {v : Nat} (hI : CallC K v) (hG : KG K) (h : XI K τ w gs g fr fp cb s x ys) (hm : x.mode = 0) (hl : x.st.length ≤ 9000) (hok : OkM K.fs K.fuel (doM K.fs K.ds s)) (hsv : K.fuel - s.steps ≤ v) (q : Nat) (hq : q < K.fn) (ho : (atM K.fs x).op = 23) (ha : (atM K.fs x).a = (q : Int)) (hnp : (fnOf K.fs q).params.length ≤ x.st.length) :
  Calls Tryz.prog 167 #[ptrV K.m, ptrV g, .agg #[.int .i64 23, .int .i64 (q : Int)]] w (ClP K τ w gs g fr fp cb s x ys) := by
 have hd := doM_23 (ds := K.ds) h.fre ho
 rw [ha, Int.toNat_natCast] at hd
 have HD := Hd hd
 have HOK := Hd hok
 have HI := Hd hI
 have HSV := Hd hsv
 have hIb := hG.pg.get hq
 obtain ⟨bk, off, s9, b9, A0, n0, c0, A1, n1, c1, A2, n2, c2, A3, n3, c3, A4, n4, c4, A5, n5, c5, A6, n6, c6, A7, n7, c7, A8, n8, c8, xq, hFA, hbk, hxq, hcf, hfw, hcan⟩ := hIb
 obtain rfl := fnOf_of hxq
 have hn1 : n1 = (fnOf K.fs q).params.length := hfw.r1.1.symm
 have hn300 : n1 ≤ 300 := by have := hfw.sm; omega
 obtain ⟨PA, pn, pc, EA, en, ec, evs, hv⟩ := h.vm
 obtain ⟨m, hkm⟩ : ∃ m, K.m = m := ⟨_, rfl⟩
 have d0 := hv.c0
 have dml := hv.lt
 have dtm := hv.tm
 rw [hFA, hkm] at d0
 rw [hkm] at dml dtm
 have dq : w.cell? ⟨bk, off + q * 11 + 3, none⟩ = some (.slice A1 n1 c1) := (h.env.b0.cell (p := ⟨bk, off + q * 11 + 3, none⟩) hbk).trans (hcf 3 _ rfl)
 have dbk : bk < w.heap.size := Nat.lt_of_lt_of_le hbk h.env.b0.size
 have HB0 : Hid (Below w.heap.size w (w.alloc (.cells #[.int .i64 23, .int .i64 (q : Int)] 113)).drew) := Hd (below_drewN' ((Below.refl _ _).alloc (Nat.le_refl _) _) 1)
 have HT : Hid (τ w.heap.size = (0, 0) ∧ τ bk = (0, 0) ∧ τ m = (0, 1)) := Hd ⟨h.hz _ (Nat.le_refl _), h.env.t0 bk hbk, dtm⟩
 have HX := Hd h
 have HM := Hd hm
 have HL := Hd hl
 have HG := Hd hG
 have HKM := Hd hkm
 have HQ := Hd hq
 have HN1 := Hd hn1
 have HNP : Hid (n1 ≤ x.st.length) := Hd (by rw [hn1]; exact hnp)
 have HN3 := Hd hn300
 have hqi : (0 : Int) ≤ (q : Int) := by omega
 have hqn : (q : Int) < (K.fn : Int) := by omega
 have hqn2 : q < K.fn := hq
 obtain ⟨kn, hkn⟩ : ∃ kn, K.fn = kn := ⟨_, rfl⟩
 obtain ⟨kc, hkc⟩ : ∃ kc, K.fc = kc := ⟨_, rfl⟩
 rw [hkn] at d0 hqn hqn2
 rw [hkc] at d0
 have hkn50 : (kn : Int) ≤ 50 := by have := hG.pg.pg.le; omega
 rw [hkm]
 clear h hm hl hG hkm hcf hfw hcan hxq hv dtm hFA hnp hn300 hq hkn hkc hn1 hd ho ha hok hI hsv
 go_in
 go_wp2_with fail
 refine wp_region_held (S := fun W => W.cell? ⟨w.heap.size, 0, none⟩ = some (.int .i64 23) ∧ W.cell? ⟨w.heap.size, 1, none⟩ = some (.int .i64 (q : Int)) ∧ W.cell? ⟨m, 0, none⟩ = some (.slice (some ⟨bk, off, none⟩) kn kc) ∧ W.cell? ⟨bk, off + q * 11 + 3, none⟩ = some (.slice A1 n1 c1)) (by kernel_rfl) ?_
 change wpAnyH _ _ _ _ _ _ _ _ (World.drew _)
 obtain ⟨w1, hw1⟩ : ∃ W, (w.alloc (.cells #[.int .i64 23, .int .i64 (q : Int)] 113)).drew = W := ⟨_, rfl⟩
 have hb1 := HB0.out
 have hS0 : w1.cell? ⟨w.heap.size, 0, none⟩ = some (.int .i64 23) ∧ w1.cell? ⟨w.heap.size, 1, none⟩ = some (.int .i64 (q : Int)) ∧ w1.cell? ⟨m, 0, none⟩ = some (.slice (some ⟨bk, off, none⟩) kn kc) ∧ w1.cell? ⟨bk, off + q * 11 + 3, none⟩ = some (.slice A1 n1 c1) := by
  rw [hw1] at hb1
  exact ⟨by rw [← hw1]; simp [go_sem], by rw [← hw1]; simp [go_sem], (hb1.cell (p := ⟨m, 0, none⟩) dml).trans d0, (hb1.cell (p := ⟨bk, off + q * 11 + 3, none⟩) dbk).trans dq⟩
 rw [hw1] at hb1 ⊢
 have HX1 := Hd (HX.out.on hb1)
 have HK1 := Hd (Tr.below (T := TT (ys.length + 1)) HX.out.hz hb1)
 clear HB0 hw1 hb1 d0 dq dml dbk
 refine tkH 0 rfl (by intro W hW; go_simp; first | done | exact rfl) hS0 ?_
 try go_simp
 refine tkH 1 rfl (by intro W hW; go_simp; first | done | exact rfl) hS0 ?_
 try go_simp
 refine tkH 2 rfl (by intro W hW; go_simp; first | done | exact rfl) hS0 ?_
 try go_simp
 refine tkH 3 rfl (by intro W hW; go_simp; first | done | exact rfl) hS0 ?_
 try go_simp
 refine tkH 4 rfl (by intro W hW; go_simp; first | done | exact rfl) hS0 ?_
 try go_simp
 refine tkH 5 rfl (by intro W hW; obtain ⟨e0, e1, e2, e3⟩ := hW; go_simp; first | done | exact rfl) hS0 ?_
 try go_simp
 refine tkH 6 rfl (by intro W hW; go_simp; first | done | exact rfl) hS0 ?_
 try go_simp
 refine tkH 7 rfl (by intro W hW; obtain ⟨e0, e1, e2, e3⟩ := hW; go_simp; first | done | exact rfl) hS0 ?_
 try go_simp
 refine tkH 8 rfl (by intro W hW; obtain ⟨e0, e1, e2, e3⟩ := hW; go_simp; first | done | exact rfl) hS0 ?_
 try go_simp
 refine tkH 9 rfl (by intro W hW; go_simp; first | done | exact rfl) hS0 ?_
 try go_simp
 refine tkH 10 rfl (by intro W hW; obtain ⟨e0, e1, e2, e3⟩ := hW; go_simp; first | done | exact rfl) hS0 ?_
 try go_simp
 refine tkH 11 rfl (by intro W hW; go_simp; first | done | exact rfl) hS0 ?_
 try go_simp
 refine wpAnyH_one (i := 12) (by kernel_rfl) rfl (fun K' hK => ?_)
 go_simp
 refine (ztake HX1.out.fz (by omega) HX1.out.hz HM.out (by have := HL.out; omega) n1 HNP.out).mono ?_
 rintro e w2 ⟨A, c, l, rfl, hll, hown, τ2, hf, hk2, him⟩
 have hS2 : w2.cell? ⟨w.heap.size, 0, none⟩ = some (.int .i64 23) ∧ w2.cell? ⟨w.heap.size, 1, none⟩ = some (.int .i64 (q : Int)) ∧ w2.cell? ⟨m, 0, none⟩ = some (.slice (some ⟨bk, off, none⟩) kn kc) ∧ w2.cell? ⟨bk, off + q * 11 + 3, none⟩ = some (.slice A1 n1 c1) := by
  obtain ⟨e0, e1, e2, e3⟩ := hS0
  obtain ⟨t0, t1, t2⟩ := HT.out
  exact ⟨hk2.cellv e0 (by rw [t0]; exact TF.no (by omega)), hk2.cellv e1 (by rw [t0]; exact TF.no (by omega)), hk2.cellv e2 (by rw [t2]; exact fun e => by have h9 : 0 = ys.length + 1 := e.1; omega), hk2.cellv e3 (by rw [t1]; exact TF.no (by omega))⟩
 have HX2 := Hd (HX1.out.own hk2 hf rfl rfl)
 have HK2 := Hd (HK1.out.trans (hk2.mono fun _ => TT.tf))
 have HLL := Hd hll
 have HIM := Hd him
 clear hll hown hf hk2 him hS0
 refine hK _ _ ⟨hS2, ?_⟩; clear hK K'
 try go_simp
 refine tkH 13 rfl (by intro W hW; go_simp; first | done | exact rfl) hS2 ?_
 try go_simp
 refine wpAnyH_done (by kernel_rfl) ?_ _
 obtain ⟨e0, e1, e2, e3⟩ := hS2
 go_wp2_with fail
 obtain ⟨ys1, hys1⟩ : ∃ z : Fr, z = { x with st := x.st.take (x.st.length - n1) } := ⟨_, rfl⟩
 have hdd : doM K.fs K.ds s = { s with fr := openF K.fs q (cnL l) false false :: ys1 :: ys } := by rw [HD.out, HLL.out, hys1, HN1.out]
 have hx2 := HX2.out
 rw [← hys1] at hx2
 have cC := Hd (HI.out τ2 w2 (g :: gs) none fr 0 { s with fr := ys1 :: ys } (ys1 :: ys) q A n1 c l false false hx2.sub0 (by have := HOK.out; rw [hdd] at this; exact this) HQ.out HN3.out HIM.out HSV.out)
 rw [HKM.out, if_neg (by decide)] at cC
 have HDD := Hd hdd
 have HX2b := Hd hx2
 have HY1 := Hd hys1
 clear hdd hx2 hys1 e2 e3
 refine cC.out.mono ?_
 rintro e w3 (hdry | ⟨τ3, t, xc, yt, hst, hr, hfr, hcs, hdf, hci, hk3, hu, hres⟩)
 ·obtain ⟨rfl, hdr⟩ := hdry
  have HF : Hid (ClP K τ w gs g fr fp cb s x ys (.panicked dryE) w3) := Hd (.inl (DryP.from (DryP.up ⟨rfl, hdr⟩) (by rw [HDD.out]; exact .refl _) HK2.out))
  clear hdr cC
  go_wp2_with fail
  exact ⟨rfl, HF.out⟩
 ·obtain ⟨y, rfl, hy1, hy2, hy3, hy4, hy5⟩ : ∃ y, yt = y :: ys ∧ y.dfd = ys1.dfd ∧ y.by_ = ys1.by_ ∧ y.pc = ys1.pc ∧ y.mode = ys1.mode ∧ y.st = ys1.st := by
   rcases hu with rfl | ⟨y, r, sl, ch, e1, rfl⟩
   ·exact ⟨ys1, rfl, rfl, rfl, rfl, rfl, rfl⟩
   ·injection e1 with e1 e2
    subst e1; subst e2
    exact ⟨_, rfl, rfl, rfl, rfl, rfl, rfl⟩
  have hxb := HX2b.out.back hk3 hci hy1 hy2
  have hkk : Tr (TT (ys.length + 1)) τ w τ3 w3 := HK2.out.trans hk3.up
  have HYD : Hid (y.dfd = x.dfd ∧ y.by_ = x.by_ ∧ y.pc = x.pc ∧ y.mode = 0 ∧ y.st = x.st.take (x.st.length - n1)) := Hd (by rw [hy1, hy2, hy3, hy4, hy5, HY1.out]; exact ⟨rfl, rfl, rfl, HM.out, rfl⟩)
  have HXB := Hd hxb
  have HKK := Hd hkk
  have HR : Hid (RchK K (doM K.fs K.ds s) t) := Hd (by rw [HDD.out]; exact hr)
  have HST : Hid (s.steps ≤ t.steps) := Hd (Nat.le_of_lt hst)
  have HFR := Hd hfr
  have HCS := Hd hcs
  have HDF := Hd hdf
  clear hst hr hfr hcs hdf hci hk3 hu hxb hkk cC hy1 hy2 hy3 hy4 hy5
  rcases hres with ⟨hmo, A2, n, c2, l2, rfl, hl2, him2⟩ | ⟨hmo, hop, ad, n, c2, rfl, hcz⟩
  ·have hEnd : RchK K (doM K.fs K.ds s) { t with fr := { y with st := y.st ++ resultsM K.fs xc, pc := y.pc + 1 } :: ys } := by
    refine HR.out.tail ?_
    rw [stepM_end HFR.out (by rw [hmo]; decide)]
    unfold endM
    rw [HFR.out]
    dsimp only
    rw [if_neg (by rw [hmo]; simp), HCS.out]
    dsimp only [List.getLast?]
    rw [if_neg (by rw [hmo]; decide)]
    unfold goneM
    rw [if_neg (by rw [HDF.out]; decide)]
   have HEND := Hd hEnd
   have HL2 := Hd hl2
   obtain ⟨A, n', hA2, hn'⟩ : ∃ A n', A = A2 ∧ n' = n := ⟨_, _, rfl, rfl⟩
   obtain rfl := hA2
   obtain rfl := hn'
   obtain ⟨l, hl⟩ : ∃ l, l = l2 := ⟨_, rfl⟩
   obtain rfl := hl
   obtain ⟨w0, τ0, L0, hw0, hτ0, hL0⟩ : ∃ w0 τ0 L0, w0 = w ∧ τ0 = τ ∧ L0 = ys.length + 1 := ⟨_, _, _, rfl, rfl, rfl⟩
   obtain ⟨s0, hs0⟩ : ∃ s0 : Ms, { t with fr := y :: ys } = s0 := ⟨_, rfl⟩
   obtain ⟨x0, hx0⟩ : ∃ x0 : Fr, y = x0 := ⟨_, rfl⟩
   have hxx := HXB.out
   rw [hs0, hx0] at hxx
   have HP0 : Hid (PushI K τ0 w0 gs g fr fp cb s0 x0 ys L0 A n' l 0 w3) := Hd ⟨τ3, by simp only [List.take_zero, List.append_nil]; rw [← hs0, ← hx0] at hxx ⊢; exact hxx, by rw [hw0, hτ0]; exact HKK.out, him2⟩
   have HM0 : Hid (x0.mode = 0) := Hd (by rw [← hx0]; exact HYD.out.2.2.2.1)
   have HL0 : Hid (x0.st.length ≤ 9000) := Hd (by rw [← hx0, HYD.out.2.2.2.2, List.length_take]; have := HL.out; omega)
   have HNL := Hd him2.len
   have HN9 : Hid (n' ≤ 300) := Hd (by
    have h1 := him2.len
    have h2 := congrArg List.length hl2
    rw [List.length_map] at h2
    have h3 : (resultsM K.fs xc).length ≤ (fnOf K.fs xc.f).results.length := by unfold resultsM; rw [List.length_take]; omega
    have h4 := res_le HG.out xc.f
    omega)
   have hn9i : (n' : Int) ≤ 300 := by have := HN9.out; omega
   have HE := Hd (And.intro hx0 (And.intro hs0 (And.intro hw0 hτ0)))
   clear him2 hl2 hmo hEnd hx0 hs0 hxx hw0 hτ0 hL0 HM HL
   have HM := HM0
   have HL := HL0
   clear HM0 HL0
   go_wp2_with fail
   go_loopw [11, 43] (fun _ iv wr => ∃ k : Nat, iv = .int .i64 (k : Int) ∧ k ≤ n' ∧ Hid (PushI K τ0 w0 gs g fr fp cb s0 x0 ys L0 A n' l k wr)) (fun _ iv _ => n' - (intOf iv).toNat)
   case atStart => exact ⟨0, rfl, Nat.zero_le _, HP0⟩
   case round =>
    obtain ⟨k, rfl, hk, HP⟩ := hrel
    by_cases hlt : k < n'
    ·obtain ⟨τ', hx, hkt, him⟩ := HP.out
     obtain ⟨⟨vk, vn, vx, vy⟩, hv⟩ : ∃ v, l[k]? = some v := ⟨_, List.getElem?_eq_getElem (by have := him.len; omega)⟩
     obtain ⟨b, off, rfl, hbl, hbt, q0, q1, q2⟩ := him.at3 hv
     obtain ⟨w3, hw3⟩ : ∃ W, wr.alloc (.cells #[.int .i64 vk, .int .i64 vn, .complex .f64 vx vy] 43) = W := ⟨_, rfl⟩
     have hb3 : Below wr.heap.size wr w3 := by rw [← hw3]; exact (Below.refl _ _).alloc (Nat.le_refl _) _
     have c0 : w3.cell? ⟨wr.heap.size, 0, none⟩ = some (.int .i64 vk) := by rw [← hw3]; simp [go_sem]
     have c1 : w3.cell? ⟨wr.heap.size, 1, none⟩ = some (.int .i64 vn) := by rw [← hw3]; simp [go_sem]
     have c2 : w3.cell? ⟨wr.heap.size, 2, none⟩ = some (.complex .f64 vx vy) := by rw [← hw3]; simp [go_sem]
     have HW3 := Hd hw3
     have hx3 := hx.on hb3
     have HX3 := Hd hx3
     have HK3 := Hd (hkt.trans (Tr.below hx.hz hb3))
     have HI3 := Hd (him.on hb3)
     have HV := Hd hv
     have HKN : Hid (k < n') := Hd hlt
     have cP := Hd (zpush hx3.fz (by omega) hx3.hz HM.out (by have h1 := HL.out; have h2 := HKN.out; have h3 := HN9.out; simp only [List.length_append, List.length_take]; omega) ⟨vk, vn, vx, vy⟩)
     have hk0 : (0 : Int) ≤ (k : Int) := by omega
     have hk1 : (k : Int) < (n' : Int) := by omega
     have hk2 : (k : Int) < 9000 := by have := HN9.out; omega
     clear hx hkt him hbl hbt hw3 hb3 hx3 hv HP
     unfold DV.v at cP
     go_wp2_with fail
     rw [HW3.out]
     go_wp2_with fail
     refine cP.out.mono ?_
     rintro e w4 ⟨⟨u, rfl⟩, τ2, hf, hk3⟩
     have HPN : Hid (PushI K τ0 w0 gs g fr fp cb s0 x0 ys L0 (some ⟨b, off, none⟩) n' l (k + 1) w4) := Hd (by
      refine ⟨τ2, ?_, HK3.out.trans (hk3.mono fun _ => TT.tf), Im.tr HI3.out hk3 (TF.no (by omega))⟩
      have h1 := HX3.out.own hk3 hf rfl rfl
      have e : x0.st ++ (cnL l).take k ++ [cnV ⟨vk, vn, vx, vy⟩] = x0.st ++ (cnL l).take (k + 1) := by
       rw [List.append_assoc, take_snoc' (cnL l) k (cnV ⟨vk, vn, vx, vy⟩) (by rw [List.getElem?_map, HV.out]; rfl)]
      simp only [e] at h1
      exact h1)
     clear hf hk3 c0 c1 c2 q0 q1 q2
     go_wp2_with fail
     go_roundw
     case rel => exact ⟨k + 1, by simp, by have := HKN.out; omega, HPN⟩
     case measure => first | (have h2 := HKN.out; simp [intOf]; done) | (have h2 := HKN.out; simp [intOf]; omega)
    ·obtain rfl : k = n' := by omega
     go_wp2_with fail
     go_ret
     obtain ⟨rfl, rfl, rfl, rfl⟩ := HE.out
     obtain ⟨τ', hx, hkt, him⟩ := HP.out
     have e0 : (cnL l).take k = cnL l := List.take_of_length_le (by rw [List.length_map, HNL.out]; omega)
     rw [e0] at hx
     obtain ⟨hy1, hy2, hy3, hy4, hy5⟩ := HYD.out
     refine .inr ⟨τ', { t with fr := { y with st := y.st ++ cnL l } :: ys }, { y with st := y.st ++ cnL l }, ys, HST.out, hx, hkt, hy1, hy2, .inl rfl, .inl ⟨hy4, hy3, ?_, rfl⟩⟩
     rw [HL2.out]
     exact HEND.out
  ·have hEnd : RchK K (doM K.fs K.ds s) { t with fr := { y with st := [], mode := 2, ch := xc.ch } :: ys } := by
    refine HR.out.tail ?_
    rw [stepM_end HFR.out (by rw [hmo]; decide)]
    unfold endM
    rw [HFR.out]
    dsimp only
    rw [if_neg (by rw [hop]; simp), HCS.out]
    dsimp only [List.getLast?]
    rw [if_pos hmo]
    unfold fallM
    dsimp only
    rw [if_neg (by rw [HDF.out]; simp)]
   have HF : Hid (ClP K τ w gs g fr fp cb s x ys (.returned (.slice (some ad) n c2)) w3) := Hd (.inr ⟨τ3, { t with fr := { y with st := [], mode := 2, ch := xc.ch } :: ys }, { y with st := [], mode := 2, ch := xc.ch }, ys, HST.out, HXB.out.ms (fun hf => hf.leave (by decide)) rfl rfl rfl rfl rfl rfl, HKK.out, HYD.out.1, HYD.out.2.1, .inl rfl, .inr ⟨hEnd, rfl, hop, ad, n, c2, rfl, hcz⟩⟩)
   clear hEnd hmo hop hcz
   go_wp2_with fail
   go_loopw [11, 43] (fun _ iv wr => iv = .int .i64 0 ∧ wr = w3) (fun _ _ _ => 0)
   case atStart => exact ⟨rfl, rfl⟩
   case round =>
    obtain ⟨rfl, rfl⟩ := hrel
    go_wp2_with fail
    go_ret
    exact HF.out
end
end Go.Proofs.YtobmjnmcjddhcaaGreat
