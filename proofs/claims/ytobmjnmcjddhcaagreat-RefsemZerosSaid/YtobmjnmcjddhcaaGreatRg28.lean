import Derived.Test.YtobmjnmcjddhcaaGreatRg27
import Derived.Test.YtobmjnmcjddhcaaGreatRg2
set_option linter.unusedSimpArgs false
set_option linter.unusedVariables false
namespace Go.Proofs.YtobmjnmcjddhcaaGreat
section
open Go.RowKit
abbrev byV (x : Fr) (cb : Nat) : Value := if x.by_ = true then .pointer (some ⟨cb, 0, none⟩) else .pointer none
structure CtxZ (τ : Nat → Tag) (w : World) (L cb : Nat) (ch : List Bl) : Prop where
 tg : τ cb = (L, 4)
 fz : w.frozen? ⟨cb, 0, none⟩ = false
 at_ : ∃ A n c, w.cell? ⟨cb, 0, none⟩ = some (.slice A n c) ∧ ChZ τ w A n c ch
structure XI (K : RK) (τ : Nat → Tag) (w : World) (gs : List Nat) (g : Nat) (fr fp : Option Addr) (cb : Nat) (s : Ms) (x : Fr) (ys : List Fr) : Prop where
 env : Env K τ w
 vm : VM K τ w (g :: gs) s
 tb : TBs K τ w gs ys
 fz : FZ K τ (ys.length + 1) w g fr x
 pr : ys = [] ∨ ∃ y r gp gs', ys = y :: r ∧ gs = gp :: gs' ∧ FZ K τ ys.length w gp fp y ∧ (x.dfd = true → fr = some ⟨gp, 0, none⟩)
 nf : x.dfd = false → fr = none
 dn : x.dfd = true → ys ≠ []
 bd : x.by_ = true → x.dfd = true
 ct : x.by_ = true → CtxZ τ w ys.length cb (chOf ys)
 fre : s.fr = x :: ys
variable {T : Tag → Prop} {K : RK} {τ τ' : Nat → Tag} {w w' : World} {gs : List Nat} {g : Nat} {fr fp : Option Addr} {cb L : Nat} {s s' : Ms} {x x' : Fr} {ys : List Fr} {ch : List Bl}
theorem CtxZ.lt (h : CtxZ τ w L cb ch) : cb < w.heap.size := by obtain ⟨A, n, c, h1, _⟩ := h.at_; exact World.block_lt_of_cell? _ _ h1
theorem CtxZ.tr (h : CtxZ τ w L cb ch) (k : Tr T τ w τ' w') (h4 : ¬ T (L, 4)) (hT : ¬ T (0, 0)) : CtxZ τ' w' L cb ch := by
 obtain ⟨A, n, c, h1, h2⟩ := h.at_
 have hg : ¬ T (τ cb) := by rw [h.tg]; exact h4
 exact ⟨(k.eq cb h.lt).trans h.tg, (k.kp.frozen h.lt hg).trans h.fz, A, n, c, k.cellv h1 hg, h2.tr k hT⟩
theorem FZ.tr {x : Fr} (h : FZ K τ L w g fr x) (k : Tr T τ w τ' w') (h0 : ∀ j, j < 4 → ¬ T (L, j)) (hT : ¬ T (0, 0)) : FZ K τ' L w' g fr x := by
 obtain ⟨R, h⟩ := h
 exact ⟨R, h.tr k (h0 0 (by decide)) (h0 1 (by decide)) (h0 2 (by decide)) (h0 3 (by decide)) hT⟩
theorem VM.tr (h : VM K τ w gs s) (k : Tr T τ w τ' w') (hT : ∀ j, ¬ T (0, j)) : VM K τ' w' gs s := by
 obtain ⟨PA, pn, pc, EA, en, ec, evs, h⟩ := h
 exact ⟨PA, pn, pc, EA, en, ec, evs, h.tr' k hT⟩
theorem VM.same (h : VM K τ w gs s) (e1 : s'.drawn = s.drawn) (e2 : s'.steps = s.steps) (e3 : s'.evs = s.evs) : VM K τ w gs s' := by
 obtain ⟨PA, pn, pc, EA, en, ec, evs, h⟩ := h
 exact ⟨PA, pn, pc, EA, en, ec, evs, h.c0, h.c1, h.c2, h.c3, by rw [e1]; exact h.c4, h.c5, h.c6, h.c7, h.c8, h.c9, by rw [e2]; exact h.c10, h.fz, h.r5, h.r6, h.tm, h.t5, h.t6, h.tr, by rw [e3]; exact h.ab⟩
theorem XI.hz (h : XI K τ w gs g fr fp cb s x ys) : ∀ j, w.heap.size ≤ j → τ j = (0, 0) := h.env.z
theorem XI.pz {y : Fr} {r : List Fr} {gp : Nat} {gs' : List Nat} (h : XI K τ w (gp :: gs') g fr fp cb s x (y :: r)) : FZ K τ (r.length + 1) w gp fp y ∧ (x.dfd = true → fr = some ⟨gp, 0, none⟩) := by
 rcases h.pr with e | ⟨y', r', gp', gs'', e1, e2, e3, e4⟩
 ·cases e
 ·injection e1 with e1 e1'
  injection e2 with e2 e2'
  subst e1; subst e1'; subst e2; subst e2'
  exact ⟨e3, e4⟩
theorem pr_tr (h : XI K τ w gs g fr fp cb s x ys) (k : Tr T τ w τ' w') (hx : x'.dfd = x.dfd) (h1 : ∀ j, ¬ T (ys.length, j)) (hT : ¬ T (0, 0)) : ys = [] ∨ ∃ y r gp gs', ys = y :: r ∧ gs = gp :: gs' ∧ FZ K τ' ys.length w' gp fp y ∧ (x'.dfd = true → fr = some ⟨gp, 0, none⟩) := by
 rcases h.pr with e | ⟨y, r, gp, gs', e1, e2, e3, e4⟩
 ·exact .inl e
 ·exact .inr ⟨y, r, gp, gs', e1, e2, e3.tr k (fun j _ => h1 j) hT, by rw [hx]; exact e4⟩
theorem XI.on (h : XI K τ w gs g fr fp cb s x ys) (hb : Below w.heap.size w w') : XI K τ w' gs g fr fp cb s x ys := by
 have k : Tr (fun _ => False) τ w τ w' := Tr.below h.hz hb
 exact ⟨h.env.tr k id, h.vm.tr k fun _ => id, h.tb.tr k fun _ _ _ => id, h.fz.tr k (fun _ _ => id) id, pr_tr h k rfl (fun _ => id) id, h.nf, h.dn, h.bd, fun hb' => (h.ct hb').tr k id id, h.fre⟩
theorem XI.own (h : XI K τ w gs g fr fp cb s x ys) (k : Tr (TF (ys.length + 1)) τ w τ' w') (hf : FZ K τ' (ys.length + 1) w' g fr x') (hd : x'.dfd = x.dfd) (hb : x'.by_ = x.by_) : XI K τ' w' gs g fr fp cb { s with fr := x' :: ys } x' ys := by
 have n0 : ¬ TF (ys.length + 1) (0, 0) := TF.no (by omega)
 exact ⟨h.env.tr k n0, (h.vm.tr k fun j e => by have h9 : 0 = ys.length + 1 := e.1; omega).same rfl rfl rfl, h.tb.tr k fun l h1 h2 e => by have h9 : l = ys.length + 1 := e.1; omega, hf, pr_tr h k hd (fun j e => by have h9 : ys.length = ys.length + 1 := e.1; omega) n0, (fun hd' => h.nf (by rw [← hd]; exact hd')), (fun hd' => h.dn (by rw [← hd]; exact hd')), (fun hb' => by rw [hd]; exact h.bd (by rw [← hb]; exact hb')), fun hb' => (h.ct (by rw [← hb]; exact hb')).tr k (fun e => by have h9 : ys.length = ys.length + 1 := e.1; omega) n0, rfl⟩
theorem XI.run (h : XI K τ w gs g fr fp cb s x ys) (k : Tr TV τ w τ' w') (hv : VM K τ' w' (g :: gs) s') (hfr : s'.fr = s.fr) : XI K τ' w' gs g fr fp cb s' x ys := by
 have n0 := TV.no
 have n1 : ∀ l j, 1 ≤ l → ¬ TV (l, j) := fun l j hl e => by have := e.1; simp at this; omega
 refine ⟨h.env.tr k n0, hv, h.tb.tr k fun l h1 _ => n1 l 0 h1, h.fz.tr k (fun j _ => n1 _ j (by omega)) n0, ?_, h.nf, h.dn, h.bd, fun hb => ?_, hfr.trans h.fre⟩
 ·rcases h.pr with e | ⟨y, r, gp, gs', e1, e2, e3, e4⟩
  ·exact .inl e
  ·exact .inr ⟨y, r, gp, gs', e1, e2, e3.tr k (fun j _ => n1 _ j (by rw [e1]; simp)) n0, e4⟩
 ·exact (h.ct hb).tr k (n1 _ 4 (by have := h.dn (h.bd hb); exact List.length_pos_iff.2 this)) n0
theorem TBs.head {y y' : Fr} {r : List Fr} {gs : List Nat} (h : TBs K τ w gs (y :: r)) (h1 : y'.f = y.f) (h2 : y'.pc = y.pc) : TBs K τ w gs (y' :: r) := by
 cases gs with
 | nil => exact h.elim
 | cons g gs => exact ⟨⟨h.1.tg, by rw [h1]; exact h.1.e11, by rw [h2]; exact h.1.e12, by rw [h1]; exact h.1.e7⟩, h.2⟩
theorem XI.par {y : Fr} {r : List Fr} {gp : Nat} {gs' : List Nat} {sl' : List DV} (h : XI K τ w (gp :: gs') g fr fp cb s x (y :: r)) (k : Tr (fun t => t = (r.length + 1, 1)) τ w τ' w') (hp : FZ K τ' (r.length + 1) w' gp fp { y with sl := sl' }) : XI K τ' w' (gp :: gs') g fr fp cb { s with fr := x :: { y with sl := sl' } :: r } x ({ y with sl := sl' } :: r) := by
 have n0 : ¬ ((0, 0) : Tag) = (r.length + 1, 1) := by simp
 have h3 := h.tb.tr k fun l _ _ e => by simp at e
 refine ⟨h.env.tr k n0, (h.vm.tr k fun j e => by simp at e).same rfl rfl rfl, h3.head rfl rfl, h.fz.tr k (fun j hj e => by simp at e) n0, .inr ⟨_, r, gp, gs', rfl, rfl, hp, h.pz.2⟩, h.nf, (fun _ e => by cases e), h.bd, fun hb => ?_, rfl⟩
 exact (h.ct hb).tr k (by simp) n0
theorem XI.ctx {y : Fr} {r : List Fr} {gp : Nat} {gs' : List Nat} {A : Option Addr} {n c : Nat} {ch' : List Bl} (h : XI K τ w (gp :: gs') g fr fp cb s x (y :: r)) (hb : x.by_ = true) (hc : ChZ τ w A n c ch') : XI K τ (w.setCell ⟨cb, 0, none⟩ (.slice A n c)) (gp :: gs') g fr fp cb { s with fr := x :: { y with ch := ch' } :: r } x ({ y with ch := ch' } :: r) ∧ Tr (fun t => t = (r.length + 1, 4)) τ w τ (w.setCell ⟨cb, 0, none⟩ (.slice A n c)) := by
 obtain ⟨e4, e3⟩ := h.pz
 have hct := h.ct hb
 have hk : Kp (fun j => j = cb) w (w.setCell ⟨cb, 0, none⟩ (.slice A n c)) := (Kp.refl (fun j => j = cb) w).setCell (p := ⟨cb, 0, none⟩) (fun _ => rfl) _
 have hsz : (w.setCell ⟨cb, 0, none⟩ (.slice A n c)).heap.size = w.heap.size := by simp [World.setCell]
 have k : Tr (fun t => t = (r.length + 1, 4)) τ w τ (w.setCell ⟨cb, 0, none⟩ (.slice A n c)) := ⟨hk.mono fun j _ e => by rw [e]; exact hct.tg, fun _ _ => rfl, fun j hj => h.hz j (by omega)⟩
 have n0 : ¬ ((0, 0) : Tag) = (r.length + 1, 4) := by simp
 have h3 := h.tb.tr k fun l _ _ e => by simp at e
 refine ⟨⟨h.env.tr k n0, (h.vm.tr k fun j e => by simp at e).same rfl rfl rfl, h3.head rfl rfl, h.fz.tr k (fun j hj e => by simp at e) n0, .inr ⟨_, r, gp, gs', rfl, rfl, ?_, e3⟩, h.nf, (fun _ e => by cases e), h.bd, fun _ => ?_, rfl⟩, k⟩
 ·obtain ⟨R, e4⟩ := e4
  have := e4.tr k (by simp) (by simp) (by simp) (by simp) n0
  exact ⟨R, this.fn, this.fv, this.e11, this.e12, this.e13, this.e14, this.e15, this.e16, this.fz, this.r13, this.r14, this.r15, this.tg, this.t13, this.t14, this.t15, this.args, this.asl, this.ast, this.acs⟩
 ·obtain ⟨A0, n1, c1, a1, a2⟩ := hct.at_
  exact ⟨hct.tg, (World.frozen?_setCell _ _ _ _).trans hct.fz, A, n, c, by simp [go_sem, a1], hc.tr k n0⟩
end
section
set_option maxRecDepth 100000
set_option maxHeartbeats 4000000
open Go.RowKit
theorem doM_0 {fs : List DFunc} {ds : List Int} {s : Ms} {x : Fr} {r : List Fr} (hfr : s.fr = x :: r) (ho : (atM fs x).op = 0) : doM fs ds s = nextM' s x r := by
 unfold doM
 rw [hfr]
 dsimp only
 rw [ho]
 rfl
theorem doM_1 {fs : List DFunc} {ds : List Int} {s : Ms} {x : Fr} {r : List Fr} (hfr : s.fr = x :: r) (ho : (atM fs x).op = 1) : doM fs ds s = nextM' s { x with st := x.st ++ [numV (atM fs x).a] } r := by
 unfold doM
 rw [hfr]
 dsimp only
 rw [ho]
 rfl
theorem doM_2 {fs : List DFunc} {ds : List Int} {s : Ms} {x : Fr} {r : List Fr} (hfr : s.fr = x :: r) (ho : (atM fs x).op = 2) : doM fs ds s = nextM' s { x with st := x.st ++ [slotM x.sl (atM fs x).a] } r := by
 unfold doM
 rw [hfr]
 dsimp only
 rw [ho]
 rfl
theorem doM_3 {fs : List DFunc} {ds : List Int} {s : Ms} {x : Fr} {r : List Fr} (hfr : s.fr = x :: r) (ho : (atM fs x).op = 3) : doM fs ds s = nextM' s { x with st := initV x.st, sl := setM x.sl (atM fs x).a (topV x.st) } r := by
 unfold doM
 rw [hfr]
 dsimp only
 rw [ho]
 rfl
theorem doM_4 {fs : List DFunc} {ds : List Int} {s : Ms} {x : Fr} {r : List Fr} (hfr : s.fr = x :: r) (ho : (atM fs x).op = 4) : doM fs ds s = nextM' s { x with st := initV x.st } r := by
 unfold doM
 rw [hfr]
 dsimp only
 rw [ho]
 rfl
theorem doM_5 {fs : List DFunc} {ds : List Int} {s : Ms} {x : Fr} {r : List Fr} (hfr : s.fr = x :: r) (ho : (atM fs x).op = 5) : doM fs ds s = nextM' s { x with st := initV x.st ++ [topV x.st, topV x.st] } r := by
 unfold doM
 rw [hfr]
 dsimp only
 rw [ho]
 rfl
theorem doM_21 {fs : List DFunc} {ds : List Int} {s : Ms} {x : Fr} {r : List Fr} (hfr : s.fr = x :: r) (ho : (atM fs x).op = 21) : doM fs ds s = { s with fr := { x with pc := (atM fs x).a.toNat } :: r } := by
 unfold doM
 rw [hfr]
 dsimp only
 rw [ho]
 rfl
theorem doM_22 {fs : List DFunc} {ds : List Int} {s : Ms} {x : Fr} {r : List Fr} (hfr : s.fr = x :: r) (ho : (atM fs x).op = 22) : doM fs ds s = { s with fr := { x with st := initV x.st, pc := if (topV x.st).n = 0 then x.pc + 1 else (atM fs x).a.toNat } :: r } := by
 unfold doM
 rw [hfr]
 dsimp only
 rw [ho]
 rfl
theorem doM_23 {fs : List DFunc} {ds : List Int} {s : Ms} {x : Fr} {r : List Fr} (hfr : s.fr = x :: r) (ho : (atM fs x).op = 23) : doM fs ds s = { s with fr := openF fs (atM fs x).a.toNat (x.st.drop (x.st.length - (fnOf fs (atM fs x).a.toNat).params.length)) false false :: { x with st := x.st.take (x.st.length - (fnOf fs (atM fs x).a.toNat).params.length) } :: r } := by
 unfold doM
 rw [hfr]
 dsimp only
 rw [ho]
 rfl
theorem doM_24 {fs : List DFunc} {ds : List Int} {s : Ms} {x : Fr} {r : List Fr} (hfr : s.fr = x :: r) (ho : (atM fs x).op = 24) : doM fs ds s = nextM' s { x with st := x.st.take (x.st.length - (fnOf fs (atM fs x).a.toNat).params.length), cs := x.cs ++ [⟨(atM fs x).a.toNat, x.st.drop (x.st.length - (fnOf fs (atM fs x).a.toNat).params.length)⟩] } r := by
 unfold doM
 rw [hfr]
 dsimp only
 rw [ho]
 rfl
theorem doM_25 {fs : List DFunc} {ds : List Int} {s : Ms} {x : Fr} {r : List Fr} (hfr : s.fr = x :: r) (ho : (atM fs x).op = 25) : doM fs ds s = { s with fr := { x with st := [], mode := 1 } :: r } := by
 unfold doM
 rw [hfr]
 dsimp only
 rw [ho]
 rfl
theorem doM_26 {fs : List DFunc} {ds : List Int} {s : Ms} {x : Fr} {r : List Fr} (hfr : s.fr = x :: r) (ho : (atM fs x).op = 26) : doM fs ds s = raiseM fs s x r 1 (topV x.st).n := by
 unfold doM
 rw [hfr]
 dsimp only
 rw [ho]
 rfl
theorem doM_27 {fs : List DFunc} {ds : List Int} {s : Ms} {x : Fr} {r : List Fr} (hfr : s.fr = x :: r) (ho : (atM fs x).op = 27) : doM fs ds s = { nextM' s { x with st := x.st ++ [numV (if x.by_ = true then recM (chOf r) else (chOf r, 0, 0)).2.1, numV (if x.by_ = true then recM (chOf r) else (chOf r, 0, 0)).2.2] } (setCh r (if x.by_ = true then recM (chOf r) else (chOf r, 0, 0)).1) with evs := s.evs ++ [⟨3, (if x.by_ = true then recM (chOf r) else (chOf r, 0, 0)).2.1, (if x.by_ = true then recM (chOf r) else (chOf r, 0, 0)).2.2, []⟩] } := by
 unfold doM
 rw [hfr]
 dsimp only
 rw [ho]
 rfl
theorem doM_28 {fs : List DFunc} {ds : List Int} {s : Ms} {x : Fr} {r : List Fr} (hfr : s.fr = x :: r) (ho : (atM fs x).op = 28) : doM fs ds s = nextM' s { x with st := x.st ++ [if x.dfd = true then slotM (slOf r) (resAt fs r (atM fs x).a) else z0] } r := by
 unfold doM
 rw [hfr]
 dsimp only
 rw [ho]
 rfl
theorem doM_29 {fs : List DFunc} {ds : List Int} {s : Ms} {x : Fr} {r : List Fr} (hfr : s.fr = x :: r) (ho : (atM fs x).op = 29) : doM fs ds s = nextM' s { x with st := initV x.st } (if x.dfd = true then setSl r (setM (slOf r) (resAt fs r (atM fs x).a) (topV x.st)) else r) := by
 unfold doM
 rw [hfr]
 dsimp only
 rw [ho]
 rfl
theorem doM_30 {fs : List DFunc} {ds : List Int} {s : Ms} {x : Fr} {r : List Fr} (hfr : s.fr = x :: r) (ho : (atM fs x).op = 30) : doM fs ds s = { nextM' s { x with st := initV x.st } r with evs := s.evs ++ [⟨1, (topV x.st).n, 0, []⟩] } := by
 unfold doM
 rw [hfr]
 dsimp only
 rw [ho]
 rfl
theorem doM_31 {fs : List DFunc} {ds : List Int} {s : Ms} {x : Fr} {r : List Fr} (hfr : s.fr = x :: r) (ho : (atM fs x).op = 31) : doM fs ds s = { nextM' s x r with evs := s.evs ++ [⟨2, 0, 0, traceM fs (x :: r)⟩] } := by
 unfold doM
 rw [hfr]
 dsimp only
 rw [ho]
 rfl
theorem doM_32 {fs : List DFunc} {ds : List Int} {s : Ms} {x : Fr} {r : List Fr} (hfr : s.fr = x :: r) (ho : (atM fs x).op = 32) : doM fs ds s = { nextM' s { x with st := x.st ++ [numV (ds.getD s.drawn 0)] } r with drawn := s.drawn + 1 } := by
 unfold doM
 rw [hfr]
 dsimp only
 rw [ho]
 rfl
theorem doM_op {fs : List DFunc} {ds : List Int} {s : Ms} {x : Fr} {r : List Fr} (hfr : s.fr = x :: r) (h1 : 6 ≤ (atM fs x).op) (h2 : (atM fs x).op ≤ 20 ∨ 33 ≤ (atM fs x).op) : doM fs ds s = reckM fs s x r (atM fs x).op := by
 unfold doM
 rw [hfr]
 dsimp only
 rw [if_neg (by omega), if_neg (by omega), if_neg (by omega), if_neg (by omega), if_neg (by omega), if_neg (by omega), if_neg (by omega), if_neg (by omega), if_neg (by omega), if_neg (by omega), if_neg (by omega), if_neg (by omega), if_neg (by omega), if_neg (by omega), if_neg (by omega), if_neg (by omega), if_neg (by omega), if_neg (by omega)]
structure KG (K : RK) : Prop where
 hf : FineB K.fs
 pg : PgC K.wI K.FA K.fn K.fc K.fs
 ar : SlI K.wI K.wI.heap.size K.AA K.an K.ac K.ags
 an : K.an ≤ 200
 dr : SlI K.wI K.wI.heap.size K.DA K.dn K.dc K.ds
 dn : K.dn ≤ 200
 fu : K.fuel ≤ 1500
variable {T : Tag → Prop} {K : RK} {τ τ' : Nat → Tag} {w w' : World} {gs : List Nat} {g : Nat} {fr fp : Option Addr} {cb L : Nat} {s s' : Ms} {x x' : Fr} {ys : List Fr} {ch : List Bl}
def Und (ys ys' : List Fr) : Prop := ys' = ys ∨ ∃ y r sl ch, ys = y :: r ∧ ys' = { y with sl := sl, ch := ch } :: r
theorem Und.trans {a b c : List Fr} (h : Und a b) (k : Und b c) : Und a c := by
 rcases h with rfl | ⟨y, r, sl, ch, rfl, rfl⟩
 ·exact k
 ·rcases k with rfl | ⟨y', r', sl', ch', e, rfl⟩
  ·exact .inr ⟨y, r, sl, ch, rfl, rfl⟩
  ·injection e with e1 e2
   subst e1; subst e2
   exact .inr ⟨y, r, sl', ch', rfl, rfl⟩
theorem Und.len {a b : List Fr} (h : Und a b) : b.length = a.length := by
 rcases h with rfl | ⟨y, r, sl, ch, rfl, rfl⟩ <;> rfl
def MvP (K : RK) (τ : Nat → Tag) (w : World) (gs : List Nat) (g : Nat) (fr fp : Option Addr) (cb : Nat) (x : Fr) (ys : List Fr) (t : Ms) (e : Ending) (w' : World) : Prop := (∃ u, e = .returned u) ∧ ∃ τ' s' x' ys', XI K τ' w' gs g fr fp cb s' x' ys' ∧ Tr (TT (ys.length + 1)) τ w τ' w' ∧ t = nextM' s' x' ys' ∧ x'.mode = 0 ∧ x'.pc = x.pc ∧ x'.dfd = x.dfd ∧ x'.by_ = x.by_ ∧ Und ys ys'
theorem TT.tf {L : Nat} {t : Tag} (h : TF L t) : TT L t := .inr (.inl (by have h : t.1 = L := h.1; omega))
theorem TT.p1 {L : Nat} {t : Tag} (h : t = (L, 1)) : TT (L + 1) t := by subst h; exact .inr (.inr ⟨rfl, .inl rfl⟩)
theorem TT.p4 {L : Nat} {t : Tag} (h : t = (L, 4)) : TT (L + 1) t := by subst h; exact .inr (.inr ⟨rfl, .inr rfl⟩)
theorem XI.mv (h : XI K τ w gs g fr fp cb s x ys) (k : Tr (TF (ys.length + 1)) τ w τ' w') (hf : FZ K τ' (ys.length + 1) w' g fr x') (hd : x'.dfd = x.dfd) (hb : x'.by_ = x.by_) (hm : x'.mode = 0) (hp : x'.pc = x.pc) {t : Ms} (ht : t = nextM' { s with fr := x' :: ys } x' ys) {u : Value} : MvP K τ w gs g fr fp cb x ys t (.returned u) w' :=
 ⟨⟨_, rfl⟩, τ', _, x', ys, h.own k hf hd hb, k.mono fun _ => TT.tf, ht, hm, hp, hd, hb, .inl rfl⟩
theorem mvp_from {t : Ms} {e : Ending} {w1 : World} {τ1 : Nat → Tag} (k : Tr (TT (ys.length + 1)) τ w τ1 w1) (h : MvP K τ1 w1 gs g fr fp cb x ys t e w') : MvP K τ w gs g fr fp cb x ys t e w' := by
 obtain ⟨h1, τ', s', x', ys', h2, h3, h4⟩ := h
 exact ⟨h1, τ', s', x', ys', h2, k.trans h3, h4⟩
theorem draw_any (hG : KG K) (h : XI K τ w gs g fr fp cb s x ys) (hs : s.drawn ≤ 100000) : Calls Tryz.prog 178 #[ptrV K.m] w fun e w' => e = .returned (.int .i64 (K.ds.getD s.drawn 0)) ∧ XI K τ w' gs g fr fp cb { s with drawn := s.drawn + 1 } x ys ∧ Tr TV τ w τ w' := by
 obtain ⟨PA, pn, pc, EA, en, ec, evs, hv⟩ := h.vm
 obtain ⟨m, hm⟩ : ∃ m, K.m = m := ⟨_, rfl⟩
 obtain ⟨d, hd⟩ : ∃ f, s.drawn = f := ⟨_, rfl⟩
 obtain ⟨A, hA⟩ : ∃ f, K.DA = f := ⟨_, rfl⟩
 obtain ⟨n, hn⟩ : ∃ f, K.dn = f := ⟨_, rfl⟩
 obtain ⟨c, hc⟩ : ∃ f, K.dc = f := ⟨_, rfl⟩
 obtain ⟨v, hvv⟩ : ∃ v, K.ds.getD s.drawn 0 = v := ⟨_, rfl⟩
 have HF : Hid (∀ q, XI K τ ((w.drewN q).setCell ⟨m, 4, none⟩ (.int .i64 ((d + 1 : Nat) : Int))) gs g fr fp cb { s with drawn := s.drawn + 1 } x ys ∧ Tr TV τ w τ ((w.drewN q).setCell ⟨m, 4, none⟩ (.int .i64 ((d + 1 : Nat) : Int)))) := Hd fun q => by
  have hb : Below w.heap.size w (w.drewN q) := below_drewN' (Below.refl _ _) q
  have ht : Tr TV τ w τ (w.drewN q) := Tr.below h.hz hb
  obtain ⟨h1, h2⟩ := (hv.tr' (T := fun _ => False) (Tr.below h.hz hb) (fun _ => id)).put (fun j hj => h.hz j hj) 4 (.inl rfl) (d + 1) _ rfl
  rw [hm] at h1 h2
  rw [if_pos rfl] at h1
  exact ⟨(h.on hb).run h2 ⟨_, _, _, _, _, _, _, by rw [← hd] at h1 ⊢; exact h1⟩ rfl, ht.trans h2⟩
 have c2 := hv.c2
 have c4 := hv.c4
 have f4 := hv.fz 4
 rw [hm, hA, hn, hc] at c2
 rw [hm, hd] at c4
 rw [hm] at f4
 rw [hd] at hs
 have hlen : K.ds.length = n := by rw [← hn]; exact hG.dr.1
 have hs1 : (d : Int) ≤ 100000 := by omega
 have hmb : m < w.heap.size := by rw [← hm]; exact hv.lt
 rw [hm, hvv]
 by_cases hlt : d < n
 ·have HD : ∃ b off, A = some ⟨b, off, none⟩ ∧ w.cell? ⟨b, off + d, none⟩ = some (.int .i64 v) ∧ ¬ b = m := by
   have hq : d < K.dn := by omega
   obtain ⟨b, off, e1, e2, e3⟩ := SlR.getD hG.dr hq 0
   refine ⟨b, off, hA ▸ e1, (h.env.b0.cell (p := ⟨b, off + d, none⟩) e2).trans (by rw [e3, ← hvv, hd]), fun e => ?_⟩
   have := h.env.t0 b e2
   rw [e, ← hm, hv.tm] at this
   simp at this
  obtain ⟨b, off, rfl, hcell, hne⟩ := HD
  have t1 : decide ((d : Int) ≥ (n : Int)) = false := dcF (by omega)
  have t1b : decide (n ≤ d) = false := dcF (by omega)
  have t2 : decide (0 ≤ (d : Int)) = true := dcT (by omega)
  have hd0 : (0 : Int) ≤ (d : Int) := by omega
  have hdn : (d : Int) < (n : Int) := by omega
  have hdn2 : d < n := hlt
  clear h hv hG hm hd hA hn hc hvv hlen
  go_in
  go_wp2_with fail
  go_ret
  exact ⟨rfl, HF.out 0⟩
 ·have hv0 : v = 0 := by rw [← hvv, List.getD_eq_getElem?_getD, List.getElem?_eq_none (by omega)]; rfl
  subst hv0
  have t1 : decide ((d : Int) ≥ (n : Int)) = true := dcT (by omega)
  have t1b : decide (n ≤ d) = true := dcT (by omega)
  clear h hv hG hm hd hA hn hc hvv hlen
  go_in
  go_wp2_with fail
  go_ret
  exact ⟨rfl, HF.out 0⟩
end
section
set_option maxRecDepth 100000
set_option maxHeartbeats 4000000
open Go.RowKit
attribute [local go_sem] run_store_cplx
variable {K : RK} {τ τ' : Nat → Tag} {w w' : World} {gs : List Nat} {g : Nat} {fr fp : Option Addr} {cb L : Nat} {s s' : Ms} {x x' : Fr} {ys : List Fr} {ch : List Bl}
theorem cn_num (n : Int) : cnV (numV n) = numV n := by unfold cnV numV; rw [cnF_zero]
theorem move_1 (hG : KG K) (h : XI K τ w gs g fr fp cb s x ys) (hm : x.mode = 0) (hl : x.st.length ≤ 9000) (hs : s.drawn ≤ 100000) (a : Int) (ho : (atM K.fs x).op = 1) (ha : (atM K.fs x).a = a) :
  Calls Tryz.prog 165 #[ptrV K.m, ptrV g, .agg #[.int .i64 1, .int .i64 a]] w (MvP K τ w gs g fr fp cb x ys (doM K.fs K.ds s)) := by
 obtain ⟨t, ht⟩ : ∃ t, doM K.fs K.ds s = t := ⟨_, rfl⟩
 have hd := doM_1 (ds := K.ds) h.fre ho
 try rw [ha] at hd
 rw [ht] at hd ⊢
 have HX : Hid (∀ W, Below w.heap.size w W → XI K τ W gs g fr fp cb s x ys ∧ Tr (TT (ys.length + 1)) τ w τ W) := Hd fun W hW => ⟨h.on hW, Tr.below h.hz hW⟩
 have HD := Hd hd
 have HM := Hd hm
 have HL := Hd hl
 have HG := Hd hG
 have HS := Hd hs
 obtain ⟨m, hkm⟩ : ∃ m, K.m = m := ⟨_, rfl⟩
 have HKM := Hd hkm
 rw [hkm]
 have hbx : Below w.heap.size w (w.alloc (.cells #[.int .i64 1, .int .i64 a] 113)) := (Below.refl _ _).alloc (Nat.le_refl _) _
 clear h hm hl hs ho ha ht hd hG hkm
 go_in
 go_wp2_with fail
 refine (num_any a _).mono ?_
 rintro e w2 ⟨rfl, hb⟩
 have hb2 : Below w.heap.size w w2 := ((Below.refl _ _).alloc (Nat.le_refl _) _).trans (hb.mono (by simp))
 obtain ⟨hx, hk⟩ := HX.out w2 hb2
 have HK := Hd hk
 have HX2 := Hd hx
 have cP := Hd (zpush hx.fz (by omega) hx.hz HM.out (by have := HL.out; omega) (numV a))
 clear hb hb2 hx hk hbx
 go_wp2_with fail
 refine cP.out.mono ?_
 rintro e w3 ⟨⟨u, rfl⟩, τ', hf, hk3⟩
 have F := Hd (mvp_from HK.out (HX2.out.mv hk3 hf rfl rfl HM.out rfl (t := t) (u := .tuple #[]) (by rw [HD.out, cn_num]; rfl)))
 clear hf hk3
 go_wp2_with fail
 go_end0
 exact F.out
theorem move_2 (hG : KG K) (h : XI K τ w gs g fr fp cb s x ys) (hm : x.mode = 0) (hl : x.st.length ≤ 9000) (hs : s.drawn ≤ 100000) (a : Int) (ho : (atM K.fs x).op = 2) (ha : (atM K.fs x).a = a) :
  Calls Tryz.prog 165 #[ptrV K.m, ptrV g, .agg #[.int .i64 2, .int .i64 a]] w (MvP K τ w gs g fr fp cb x ys (doM K.fs K.ds s)) := by
 obtain ⟨t, ht⟩ : ∃ t, doM K.fs K.ds s = t := ⟨_, rfl⟩
 have hd := doM_2 (ds := K.ds) h.fre ho
 try rw [ha] at hd
 rw [ht] at hd ⊢
 have HX : Hid (∀ W, Below w.heap.size w W → XI K τ W gs g fr fp cb s x ys ∧ Tr (TT (ys.length + 1)) τ w τ W) := Hd fun W hW => ⟨h.on hW, Tr.below h.hz hW⟩
 have HD := Hd hd
 have HM := Hd hm
 have HL := Hd hl
 have HG := Hd hG
 have HS := Hd hs
 obtain ⟨m, hkm⟩ : ∃ m, K.m = m := ⟨_, rfl⟩
 have HKM := Hd hkm
 rw [hkm]
 have hbx : Below w.heap.size w (w.alloc (.cells #[.int .i64 2, .int .i64 a] 113)) := (Below.refl _ _).alloc (Nat.le_refl _) _
 clear h hm hl hs ho ha ht hd hG hkm
 go_in
 go_wp2_with fail
 refine (zslot (HX.out _ hbx).1.fz a).mono ?_
 rintro e w2 ⟨v, hv, rfl, hb⟩
 have hb2 : Below w.heap.size w w2 := ((Below.refl _ _).alloc (Nat.le_refl _) _).trans (hb.mono (by simp))
 obtain ⟨hx, hk⟩ := HX.out w2 hb2
 have HK := Hd hk
 have HX2 := Hd hx
 have HV := Hd hv
 have cP := Hd (zpush hx.fz (by omega) hx.hz HM.out (by have := HL.out; omega) v)
 clear hb hb2 hx hk hv hbx
 go_wp2_with fail
 refine cP.out.mono ?_
 rintro e w3 ⟨⟨u, rfl⟩, τ', hf, hk3⟩
 have F := Hd (mvp_from HK.out (HX2.out.mv hk3 hf rfl rfl HM.out rfl (t := t) (u := .tuple #[]) (by rw [HD.out, HV.out]; rfl)))
 clear hf hk3
 go_wp2_with fail
 go_end0
 exact F.out
theorem move_4 (hG : KG K) (h : XI K τ w gs g fr fp cb s x ys) (hm : x.mode = 0) (hl : x.st.length ≤ 9000) (hs : s.drawn ≤ 100000) (a : Int) (ho : (atM K.fs x).op = 4) (ha : (atM K.fs x).a = a) :
  Calls Tryz.prog 165 #[ptrV K.m, ptrV g, .agg #[.int .i64 4, .int .i64 a]] w (MvP K τ w gs g fr fp cb x ys (doM K.fs K.ds s)) := by
 obtain ⟨t, ht⟩ : ∃ t, doM K.fs K.ds s = t := ⟨_, rfl⟩
 have hd := doM_4 (ds := K.ds) h.fre ho
 try rw [ha] at hd
 rw [ht] at hd ⊢
 have HX : Hid (∀ W, Below w.heap.size w W → XI K τ W gs g fr fp cb s x ys ∧ Tr (TT (ys.length + 1)) τ w τ W) := Hd fun W hW => ⟨h.on hW, Tr.below h.hz hW⟩
 have HD := Hd hd
 have HM := Hd hm
 have HL := Hd hl
 have HG := Hd hG
 have HS := Hd hs
 obtain ⟨m, hkm⟩ : ∃ m, K.m = m := ⟨_, rfl⟩
 have HKM := Hd hkm
 rw [hkm]
 have hbx : Below w.heap.size w (w.alloc (.cells #[.int .i64 4, .int .i64 a] 113)) := (Below.refl _ _).alloc (Nat.le_refl _) _
 clear h hm hl hs ho ha ht hd hG hkm
 go_in
 go_wp2_with fail
 obtain ⟨hx, hk⟩ := HX.out _ hbx
 refine (zpop hx.fz (by omega) hx.hz HM.out (by have := HL.out; omega)).mono ?_
 rintro e w2 ⟨v, hv, rfl, τ', hf, hk3⟩
 have F := Hd (mvp_from hk (hx.mv hk3 hf rfl rfl HM.out rfl (t := t) (u := .tuple #[]) (by rw [HD.out]; rfl)))
 clear hf hk3 hv hbx hx hk
 go_wp2_with fail
 go_end0
 exact F.out
theorem move_32 (hG : KG K) (h : XI K τ w gs g fr fp cb s x ys) (hm : x.mode = 0) (hl : x.st.length ≤ 9000) (hs : s.drawn ≤ 100000) (a : Int) (ho : (atM K.fs x).op = 32) (ha : (atM K.fs x).a = a) :
  Calls Tryz.prog 165 #[ptrV K.m, ptrV g, .agg #[.int .i64 32, .int .i64 a]] w (MvP K τ w gs g fr fp cb x ys (doM K.fs K.ds s)) := by
 obtain ⟨t, ht⟩ : ∃ t, doM K.fs K.ds s = t := ⟨_, rfl⟩
 have hd := doM_32 (ds := K.ds) h.fre ho
 try rw [ha] at hd
 rw [ht] at hd ⊢
 have HX : Hid (∀ W, Below w.heap.size w W → XI K τ W gs g fr fp cb s x ys ∧ Tr (TT (ys.length + 1)) τ w τ W) := Hd fun W hW => ⟨h.on hW, Tr.below h.hz hW⟩
 have HD := Hd hd
 have HM := Hd hm
 have HL := Hd hl
 have HG := Hd hG
 have HS := Hd hs
 obtain ⟨m, hkm⟩ : ∃ m, K.m = m := ⟨_, rfl⟩
 have HKM := Hd hkm
 rw [hkm]
 have hbx : Below w.heap.size w (w.alloc (.cells #[.int .i64 32, .int .i64 a] 113)) := (Below.refl _ _).alloc (Nat.le_refl _) _
 clear h hm hl hs ho ha ht hd hG hkm
 go_in
 go_wp2_with fail
 obtain ⟨hx, hk⟩ := HX.out _ hbx
 have cD := Hd (draw_any HG.out hx HS.out)
 rw [HKM.out] at cD
 have HK := Hd hk
 clear hbx hx hk
 refine cD.out.mono ?_
 rintro e w2 ⟨rfl, hx, hk2⟩
 have HX2 : Hid (∀ W, Below w2.heap.size w2 W → XI K τ W gs g fr fp cb { s with drawn := s.drawn + 1 } x ys ∧ Tr (TT (ys.length + 1)) τ w τ W) := Hd fun W hW => ⟨hx.on hW, HK.out.trans ((hk2.mono fun _ => TV.tt).trans (Tr.below hx.hz hW))⟩
 clear hx hk2 cD
 go_wp2_with fail
 refine (num_any _ _).mono ?_
 rintro e w3 ⟨rfl, hb⟩
 obtain ⟨hx, hk⟩ := HX2.out w3 hb
 have HK3 := Hd hk
 have HX3 := Hd hx
 have cP := Hd (zpush hx.fz (by omega) hx.hz HM.out (by have := HL.out; omega) (numV (K.ds.getD s.drawn 0)))
 clear hb hx hk
 go_wp2_with fail
 refine cP.out.mono ?_
 rintro e w4 ⟨⟨u, rfl⟩, τ', hf, hk3⟩
 have F := Hd (mvp_from HK3.out (HX3.out.mv hk3 hf rfl rfl HM.out rfl (t := t) (u := .tuple #[]) (by rw [HD.out, cn_num]; rfl)))
 clear hf hk3
 go_wp2_with fail
 go_end0
 exact F.out
theorem move_5 (hG : KG K) (h : XI K τ w gs g fr fp cb s x ys) (hm : x.mode = 0) (hl : x.st.length ≤ 9000) (hs : s.drawn ≤ 100000) (a : Int) (ho : (atM K.fs x).op = 5) (ha : (atM K.fs x).a = a) :
  Calls Tryz.prog 165 #[ptrV K.m, ptrV g, .agg #[.int .i64 5, .int .i64 a]] w (MvP K τ w gs g fr fp cb x ys (doM K.fs K.ds s)) := by
 obtain ⟨t, ht⟩ : ∃ t, doM K.fs K.ds s = t := ⟨_, rfl⟩
 have hd := doM_5 (ds := K.ds) h.fre ho
 try rw [ha] at hd
 rw [ht] at hd ⊢
 have HX : Hid (∀ W, Below w.heap.size w W → XI K τ W gs g fr fp cb s x ys ∧ Tr (TT (ys.length + 1)) τ w τ W) := Hd fun W hW => ⟨h.on hW, Tr.below h.hz hW⟩
 have HD := Hd hd
 have HM := Hd hm
 have HL := Hd hl
 have HG := Hd hG
 have HS := Hd hs
 obtain ⟨m, hkm⟩ : ∃ m, K.m = m := ⟨_, rfl⟩
 have HKM := Hd hkm
 rw [hkm]
 have hbx : Below w.heap.size w (w.alloc (.cells #[.int .i64 5, .int .i64 a] 113)) := (Below.refl _ _).alloc (Nat.le_refl _) _
 clear h hm hl hs ho ha ht hd hG hkm
 go_in
 go_wp2_with fail
 obtain ⟨hx, hk⟩ := HX.out _ hbx
 have cQ := Hd (zpop hx.fz (by omega) hx.hz HM.out (by have := HL.out; omega))
 have HX1 := Hd hx
 have HK := Hd hk
 clear hbx hx hk
 refine cQ.out.mono ?_
 rintro e w2 ⟨⟨vk, vn, vx, vy⟩, hv, rfl, τ1, hf, hk1⟩
 have HX2 := Hd (HX1.out.own hk1 hf rfl rfl)
 have HK2 := Hd (HK.out.trans (hk1.mono fun _ => TT.tf))
 have HV := Hd hv
 clear hf hk1 hv cQ
 obtain ⟨w3, hw3⟩ : ∃ W, w2.alloc (.cells #[.int .i64 vk, .int .i64 vn, .complex .f64 vx vy] 43) = W := ⟨_, rfl⟩
 have hb3 : Below w2.heap.size w2 w3 := by rw [← hw3]; exact (Below.refl _ _).alloc (Nat.le_refl _) _
 have c0 : w3.cell? ⟨w2.heap.size, 0, none⟩ = some (.int .i64 vk) := by rw [← hw3]; simp [go_sem]
 have c1 : w3.cell? ⟨w2.heap.size, 1, none⟩ = some (.int .i64 vn) := by rw [← hw3]; simp [go_sem]
 have c2 : w3.cell? ⟨w2.heap.size, 2, none⟩ = some (.complex .f64 vx vy) := by rw [← hw3]; simp [go_sem]
 have HW3 := Hd hw3
 have hx3 := HX2.out.on hb3
 have HX3 := Hd hx3
 have HK3 := Hd (HK2.out.trans (Tr.below HX2.out.hz hb3))
 have hlt : w2.heap.size < w3.heap.size := World.block_lt_of_cell? _ _ c0
 have ht0 : τ1 w2.heap.size = (0, 0) := HX2.out.hz _ (Nat.le_refl _)
 have HB : Hid (τ1 w2.heap.size = (0, 0) ∧ w2.heap.size < w3.heap.size) := Hd ⟨ht0, hlt⟩
 have cP := Hd (zpush hx3.fz (by omega) hx3.hz HM.out (by have := HL.out; simp [initV]; omega) ⟨vk, vn, vx, vy⟩)
 have C0 := Hd c0
 have C1 := Hd c1
 have C2 := Hd c2
 clear hw3 hb3 hx3 hlt ht0
 unfold DV.v
 go_wp2_with fail
 rw [HW3.out]
 go_wp2_with fail
 refine cP.out.mono ?_
 rintro e w4 ⟨⟨u, rfl⟩, τ2, hf, hk3⟩
 have HX4 := Hd (HX3.out.own hk3 hf rfl rfl)
 have HK4 := Hd (HK3.out.trans (hk3.mono fun _ => TT.tf))
 have d0 : w4.cell? ⟨w2.heap.size, 0, none⟩ = some (.int .i64 vk) := hk3.cellv C0.out (by rw [HB.out.1]; exact TF.no (by omega))
 have d1 : w4.cell? ⟨w2.heap.size, 1, none⟩ = some (.int .i64 vn) := hk3.cellv C1.out (by rw [HB.out.1]; exact TF.no (by omega))
 have d2 : w4.cell? ⟨w2.heap.size, 2, none⟩ = some (.complex .f64 vx vy) := hk3.cellv C2.out (by rw [HB.out.1]; exact TF.no (by omega))
 have cP2 := Hd (zpush HX4.out.fz (by omega) HX4.out.hz HM.out (by have := HL.out; simp [initV]; omega) ⟨vk, vn, vx, vy⟩)
 clear hf hk3 c0 c1 c2 cP
 go_wp2_with fail
 refine cP2.out.mono ?_
 rintro e w5 ⟨⟨u, rfl⟩, τ3, hf, hk3⟩
 have F := Hd (mvp_from HK4.out (HX4.out.mv hk3 hf rfl rfl HM.out rfl (t := t) (u := .tuple #[]) (by rw [HD.out, HV.out]; simp [nextM'])))
 clear hf hk3 d0 d1 d2 cP2
 go_wp2_with fail
 go_end0
 exact F.out
end
end Go.Proofs.YtobmjnmcjddhcaaGreat
