import Derived.Test.YtobmjnmcjddhcaaGreatRg23
import Derived.BigRegion
set_option linter.unusedSimpArgs false
set_option linter.unusedVariables false
namespace Go.Proofs.YtobmjnmcjddhcaaGreat
section
set_option maxRecDepth 100000
set_option maxHeartbeats 4000000
open Go.RowKit
attribute [local go_sem] run_store_cplx
theorem fresultv_any (g base : Nat) (s : ByteArray) (b : Bool) (A0 : Option Addr) (n0 c0 : Nat) (A1 : Option Addr) (n1 c1 : Nat) (A2 : Option Addr) (n2 c2 : Nat) (A3 : Option Addr) (n3 c3 : Nat) (A4 : Option Addr) (n4 c4 : Nat) (A5 : Option Addr) (n5 c5 : Nat) (A6 : Option Addr) (n6 c6 : Nat) (A7 : Option Addr) (n7 c7 : Nat) (A8 : Option Addr) (n8 c8 : Nat) (A : Option Addr) (m c : Nat) (l : List DV) (n : Int) (w : World) (h : FnC w g s b A0 n0 c0 A1 n1 c1 A2 n2 c2 A3 n3 c3 A4 n4 c4 A5 n5 c5 A6 n6 c6 A7 n7 c7 A8 n8 c8) (h13 : w.cell? ⟨g, 13, none⟩ = some (.slice A m c)) (hr : RowV w base A m c l) (hn1 : n1 ≤ 100000) (hn2 : n2 ≤ 100000) :
  Calls Tryz.prog 177 #[.pointer (some ⟨g, 0, none⟩), .int .i64 n] w fun e w' => e = .returned (slotM l (fresM n1 n2 n)).v ∧ Below w.heap.size w w' := by
 obtain ⟨r, hrr⟩ : ∃ r, fresM n1 n2 n = r := ⟨_, rfl⟩
 obtain ⟨w1, hw1⟩ : ∃ X, w.alloc (.cells #[.int .i64 0, .int .i64 0, .complex .f64 0 0] 43) = X := ⟨_, rfl⟩
 obtain ⟨z, hz⟩ : ∃ z, w.heap.size = z := ⟨_, rfl⟩
 have hb1 : Below w.heap.size w w1 := by rw [← hw1]; exact bl_one _
 have hc1 : Cells w1 z [.int .i64 0, .int .i64 0, .complex .f64 0 0] := by rw [← hw1, ← hz]; exact Cells.new w [.int .i64 0, .int .i64 0, .complex .f64 0 0] _
 have cR := Hd (fresult_any g s b A0 n0 c0 A1 n1 c1 A2 n2 c2 A3 n3 c3 A4 n4 c4 A5 n5 c5 A6 n6 c6 A7 n7 c7 A8 n8 c8 n w1 (h.kp ((Kp.refl (fun _ => False) w).ofBelow hb1) (fun h => h)) hn1 hn2)
 have cS : Hid (∀ W, Below w1.heap.size w1 W → Calls Tryz.prog 26 #[.pointer (some ⟨g, 0, none⟩), .int .i64 r] W fun e w' => e = .returned (slotM l r).v ∧ Below W.heap.size W w') := Hd fun W hW => by
  have hb2 := hb1.trans (hW.mono hb1.size)
  exact fslot_any g base A m c l r W ((hb2.cell (World.block_lt_of_cell? _ _ h13)).trans h13) (RowF.kp hr ((Kp.refl (fun _ => False) w).ofBelow hb2) (fun _ _ h => h))
 rw [hrr] at cR ⊢
 obtain ⟨⟨a0, a1, a2, a3⟩, ha⟩ : ∃ a, slotM l r = a := ⟨_, rfl⟩
 rw [ha] at cS ⊢
 rw [show (⟨a0, a1, a2, a3⟩ : DV).v = .agg #[.int .i64 a0, .int .i64 a1, .complex .f64 a2 a3] from rfl] at cS ⊢
 have HB1 := Hd hb1
 have HC1 := Hd hc1
 have HZ : Hid (w.heap.size = z) := Hd hz
 clear h h13 hr hrr ha hb1 hc1
 go_in
 go_wp2_with fail
 refine cR.out.mono ?_
 rintro e w2 ⟨rfl, hb2⟩
 have HB2 := Hd hb2
 have cS2 := Hd (cS.out w2 hb2)
 clear hb2 cR
 go_wp2_with fail
 refine cS2.out.mono ?_
 rintro e w3 ⟨rfl, hb3⟩
 have HB3 : Hid (Below w1.heap.size w1 w3) := Hd (HB2.out.trans (hb3.mono HB2.out.size))
 have hc3 := HC1.out.on HB3.out
 have q0 := hc3.at_ 0 _ rfl
 have q1 := hc3.at_ 1 _ rfl
 have q2 := hc3.at_ 2 _ rfl
 have f0 := hc3.fz 0 (by simp)
 have f1 := hc3.fz 1 (by simp)
 have f2 := hc3.fz 2 (by simp)
 have HBF : Hid (Below w.heap.size w w3) := Hd (HB1.out.trans (HB3.out.mono HB1.out.size))
 clear hb3 hc3 cS cS2
 go_wp2_with fail
 exact bodyPost_ret (v := .agg #[.int .i64 a0, .int .i64 a1, .complex .f64 a2 a3]) (by simp [results, Tryz.results177, go_sem, q0, q1, q2, f0, f1, f2]) rfl ⟨rfl, by
  have h := HBF.out
  rw [HZ.out] at h ⊢
  exact ((h.setCell (by simp) _).setCell (by simp) _).setCell (by simp) _⟩
variable {K : RK} {τ : Nat → Tag} {w : World} {L g : Nat} {fr : Option Addr} {x : Fr}
theorem cn_z0 : cnV z0 = z0 := by unfold cnV z0; rw [cnF_zero]
theorem cn_topV (l : List DV) : cnV (topV l) = topV (cnL l) := by
 unfold topV
 rw [List.length_map, List.getD_eq_getElem?_getD, List.getD_eq_getElem?_getD, List.getElem?_map]
 cases l[l.length - 1]? with
 | none => exact cn_z0
 | some a => rfl
theorem cn_initV (l : List DV) : cnL (initV l) = initV (cnL l) := by unfold initV; rw [cnL, List.map_take, List.length_map]
theorem cn_slotM (l : List DV) (n : Int) : cnV (slotM l n) = slotM (cnL l) n := by
 unfold slotM
 rw [List.length_map]
 split
 ·rw [List.getD_eq_getElem?_getD, List.getD_eq_getElem?_getD, List.getElem?_map]
  cases l[n.toNat]? with
  | none => exact cn_z0
  | some a => rfl
 ·exact cn_z0
theorem cn_setM (l : List DV) (n : Int) (a : DV) : cnL (setM l n a) = setM (cnL l) n (cnV a) := by
 unfold setM
 rw [List.length_map]
 split
 ·rw [cnL, List.map_set]
 ·rfl
def IsZ (K : RK) (τ : Nat → Tag) (L : Nat) (w : World) (g : Nat) (fr : Option Addr) (x' : Fr) (e : Ending) (w' : World) : Prop := (∃ u, e = .returned u) ∧ ∃ τ', FZ K τ' L w' g fr x' ∧ Tr (TF L) τ w τ' w'
theorem FZr.stl {R : RawF} (h : FZr K τ L w g fr x R) (hm : x.mode = 0) : R.st.length = x.st.length ∧ R.st.length = R.n14 := by
 refine ⟨?_, h.r14.len⟩
 have := congrArg List.length (h.ast hm)
 simpa using this
theorem FZr.csl {R : RawF} (h : FZr K τ L w g fr x R) : R.cs.length = x.cs.length ∧ R.cs.length = R.n15 := by
 refine ⟨?_, h.r15.len⟩
 have := congrArg List.length h.acs
 simpa using this
theorem zpush (h : FZ K τ L w g fr x) (hL : 1 ≤ L) (hz : ∀ j, w.heap.size ≤ j → τ j = (0, 0)) (hm : x.mode = 0) (hl : x.st.length ≤ 10000) (v : DV) :
  Calls Tryz.prog 37 #[.pointer (some ⟨g, 0, none⟩), v.v] w (IsZ K τ L w g fr { x with st := x.st ++ [cnV v] }) := by
 obtain ⟨R, h⟩ := h
 obtain ⟨l1, l2⟩ := h.stl hm
 refine (fpush_any g (g + 1) R.A14 R.n14 R.c14 R.st v w h.e14 (h.fz 14) h.r14 (Nat.lt_succ_self g) h.lt (by omega)).mono ?_
 rintro e w' ⟨hu, A', c', hp⟩
 obtain ⟨τ', h1, h2, _⟩ := h.stack hL hp.kp hp.ci hp.co hp.fz hp.row hp.nw hz
 have e : cnL (R.st ++ [v]) = x.st ++ [cnV v] := by rw [cnL, List.map_append, show R.st.map cnV = _ from h.ast hm]; rfl
 rw [e] at h1
 exact ⟨hu, τ', ⟨_, h1⟩, h2⟩
theorem zpop (h : FZ K τ L w g fr x) (hL : 1 ≤ L) (hz : ∀ j, w.heap.size ≤ j → τ j = (0, 0)) (hm : x.mode = 0) (hl : x.st.length ≤ 10000) :
  Calls Tryz.prog 38 #[.pointer (some ⟨g, 0, none⟩)] w fun e w' => ∃ v : DV, cnV v = topV x.st ∧ e = .returned v.v ∧ ∃ τ', FZ K τ' L w' g fr { x with st := initV x.st } ∧ Tr (TF L) τ w τ' w' := by
 obtain ⟨R, h⟩ := h
 obtain ⟨l1, l2⟩ := h.stl hm
 refine (fpop_any g (g + 1) R.A14 R.n14 R.c14 R.st w h.e14 (h.fz 14) h.r14 (Nat.lt_succ_self g) (by omega)).mono ?_
 rintro e w' ⟨rfl, hp⟩
 have hk : Kp (fun j => j = g ∨ R.A14 = some ⟨j, 0, none⟩) w w' := hp.kp.mono fun j _ e => .inl e
 have hr : RowV w' (g + 1) R.A14 (R.n14 - 1) (R.n14 - 1) (R.st.take (R.n14 - 1)) := RowV.cut (n := R.n14) (c := R.c14) (l := R.st) (RowF.kp h.r14 hp.kp (fun j e e' => by have := (row_ge h.r14 e).1; omega)) (by omega)
 obtain ⟨τ', h1, h2, _⟩ := h.stack hL hk hp.ci hp.co hp.fz hr (Nw.rfl' _ _) hz
 have e : cnL (R.st.take (R.n14 - 1)) = initV x.st := by rw [← l2, show R.st.take (R.st.length - 1) = initV R.st from rfl, cn_initV, h.ast hm]
 rw [e] at h1
 exact ⟨topV R.st, by rw [cn_topV, h.ast hm], rfl, τ', ⟨_, h1⟩, h2⟩
theorem ztake (h : FZ K τ L w g fr x) (hL : 1 ≤ L) (hz : ∀ j, w.heap.size ≤ j → τ j = (0, 0)) (hm : x.mode = 0) (hl : x.st.length ≤ 10000) (k : Nat) (hk : k ≤ x.st.length) :
  Calls Tryz.prog 42 #[.pointer (some ⟨g, 0, none⟩), .int .i64 (k : Int)] w fun e w' => ∃ (A : Option Addr) (c : Nat) (l : List DV), e = .returned (.slice A k c) ∧ cnL l = x.st.drop (x.st.length - k) ∧ w'.ownsRow w.heap.size 43 3 (.slice A k c) k (rowVl l) ∧ ∃ τ', FZ K τ' L w' g fr { x with st := x.st.take (x.st.length - k) } ∧ Tr (TF L) τ w τ' w' ∧ Im τ' w' A k 3 (rowVl l) := by
 obtain ⟨R, h⟩ := h
 obtain ⟨l1, l2⟩ := h.stl hm
 refine (ftake_any g (g + 1) R.A14 R.n14 R.c14 R.st (k : Int) w h.e14 (h.fz 14) h.r14 (Nat.lt_succ_self g) (by omega) (by omega)).mono ?_
 rintro e w' ⟨A', c', rfl, hown, hp⟩
 have ht : topM R.n14 (k : Int) = k := by unfold topM; omega
 rw [ht] at hown hp ⊢
 have hkk : Kp (fun j => j = g ∨ R.A14 = some ⟨j, 0, none⟩) w w' := hp.kp.mono fun j _ e => .inl e
 have hr : RowV w' (g + 1) R.A14 (R.n14 - k) (R.n14 - k) (R.st.take (R.n14 - k)) := RowV.cut (n := R.n14) (c := R.c14) (l := R.st) (RowF.kp h.r14 hp.kp (fun j e e' => by have := (row_ge h.r14 e).1; omega)) (by omega)
 obtain ⟨τ', h1, h2, h3⟩ := h.stack hL hkk hp.ci hp.co hp.fz hr (Nw.rfl' _ _) hz
 have e : cnL (R.st.take (R.n14 - k)) = x.st.take (x.st.length - k) := by rw [← l2, cnL, List.map_take, show R.st.map cnV = _ from h.ast hm, l1]
 rw [e] at h1
 exact ⟨A', c', R.st.drop (R.n14 - k), rfl, by rw [← l2, cnL, List.map_drop, show R.st.map cnV = _ from h.ast hm, l1], hown, τ', ⟨_, h1⟩, h2, Rdv.own hown fun j hj _ hne => hne (h3 j hj fun e => by have := (row_ge h.r14 e).2; omega)⟩
theorem zslot (h : FZ K τ L w g fr x) (a : Int) :
  Calls Tryz.prog 26 #[.pointer (some ⟨g, 0, none⟩), .int .i64 a] w fun e w' => ∃ v : DV, cnV v = slotM x.sl a ∧ e = .returned v.v ∧ Below w.heap.size w w' := by
 obtain ⟨R, h⟩ := h
 refine (fslot_any g (g + 1) R.A13 R.m13 R.c13 R.sl a w h.e13 h.r13).mono ?_
 rintro e w' ⟨rfl, hb⟩
 exact ⟨slotM R.sl a, by rw [cn_slotM, h.asl], rfl, hb⟩
theorem zsetslot (h : FZ K τ L w g fr x) (hL : 1 ≤ L) (hz : ∀ j, w.heap.size ≤ j → τ j = (0, 0)) (a : Int) (v : DV) :
  Calls Tryz.prog 43 #[.pointer (some ⟨g, 0, none⟩), .int .i64 a, v.v] w (IsZ K τ L w g fr { x with sl := setM x.sl a (cnV v) }) := by
 obtain ⟨R, h⟩ := h
 refine (fsetslot_any g (g + 1) R.A13 R.m13 R.c13 R.sl a v w h.e13 h.r13 (Nat.lt_succ_self g)).mono ?_
 rintro e w' ⟨hu, hr, hk⟩
 have ht : Tr (fun t => t = (L, 1)) τ w τ w' := ⟨hk.mono fun j _ e => h.t13 j e, fun _ _ => rfl, fun j hj => hz j (Nat.le_trans hk.size hj)⟩
 have h1 := h.slots ht (by simp) (by simp) (by simp) (by simp) hr
 rw [cn_setM, h.asl] at h1
 exact ⟨hu, τ, ⟨_, h1⟩, ht.mono fun t e => by rw [e]; exact ⟨rfl, by simp⟩⟩
theorem FZr.np {R : RawF} (h : FZr K τ L w g fr x R) : R.V.n1 = (fnOf K.fs x.f).params.length ∧ R.V.n2 = (fnOf K.fs x.f).results.length ∧ R.V.n1 ≤ 300 ∧ R.V.n2 ≤ 300 ∧ R.V.n1 + R.V.n2 + R.V.n3 ≤ 300 := by
 have h1 := h.fv.r1.1
 have h2 := h.fv.r2.1
 have h3 := h.fv.sm
 exact ⟨h1.symm, h2.symm, by omega, by omega, by omega⟩
theorem zresultv (h : FZ K τ L w g fr x) (a : Int) :
  Calls Tryz.prog 177 #[.pointer (some ⟨g, 0, none⟩), .int .i64 a] w fun e w' => ∃ v : DV, cnV v = slotM x.sl (fresM (fnOf K.fs x.f).params.length (fnOf K.fs x.f).results.length a) ∧ e = .returned v.v ∧ Below w.heap.size w w' := by
 obtain ⟨R, h⟩ := h
 obtain ⟨p1, p2, p3, p4, _⟩ := h.np
 refine (fresultv_any g (g + 1) R.V.s R.V.b R.V.A0 R.V.n0 R.V.c0 R.V.A1 R.V.n1 R.V.c1 R.V.A2 R.V.n2 R.V.c2 R.V.A3 R.V.n3 R.V.c3 R.V.A4 R.V.n4 R.V.c4 R.V.A5 R.V.n5 R.V.c5 R.V.A6 R.V.n6 R.V.c6 R.V.A7 R.V.n7 R.V.c7 R.V.A8 R.V.n8 R.V.c8 R.A13 R.m13 R.c13 R.sl a w h.fn h.e13 h.r13 (by omega) (by omega)).mono ?_
 rintro e w' ⟨rfl, hb⟩
 exact ⟨_, by rw [cn_slotM, h.asl, p1, p2], rfl, hb⟩
theorem zsetresult (h : FZ K τ L w g fr x) (hL : 1 ≤ L) (hz : ∀ j, w.heap.size ≤ j → τ j = (0, 0)) (a : Int) (v : DV) :
  Calls Tryz.prog 44 #[.pointer (some ⟨g, 0, none⟩), .int .i64 a, v.v] w fun e w' => (∃ u, e = .returned u) ∧ FZ K τ L w' g fr { x with sl := setM x.sl (fresM (fnOf K.fs x.f).params.length (fnOf K.fs x.f).results.length a) (cnV v) } ∧ Tr (fun t => t = (L, 1)) τ w τ w' := by
 obtain ⟨R, h⟩ := h
 obtain ⟨p1, p2, p3, p4, _⟩ := h.np
 refine (fsetresult_any g (g + 1) R.V.s R.V.b R.V.A0 R.V.n0 R.V.c0 R.V.A1 R.V.n1 R.V.c1 R.V.A2 R.V.n2 R.V.c2 R.V.A3 R.V.n3 R.V.c3 R.V.A4 R.V.n4 R.V.c4 R.V.A5 R.V.n5 R.V.c5 R.V.A6 R.V.n6 R.V.c6 R.V.A7 R.V.n7 R.V.c7 R.V.A8 R.V.n8 R.V.c8 R.A13 R.m13 R.c13 R.sl a v w h.fn h.e13 h.r13 (Nat.lt_succ_self g) (by omega) (by omega)).mono ?_
 rintro e w' ⟨hu, hr, hk⟩
 have ht : Tr (fun t => t = (L, 1)) τ w τ w' := ⟨hk.mono fun j _ e => h.t13 j e, fun _ _ => rfl, fun j hj => hz j (Nat.le_trans hk.size hj)⟩
 have h1 := h.slots ht (by simp) (by simp) (by simp) (by simp) hr
 rw [cn_setM, h.asl, p1, p2] at h1
 exact ⟨hu, ⟨_, h1⟩, ht⟩
theorem zresults (h : FZ K τ L w g fr x) (hz : ∀ j, w.heap.size ≤ j → τ j = (0, 0)) (hs : x.sl.length = (typesM (fnOf K.fs x.f)).length) :
  Calls Tryz.prog 24 #[.pointer (some ⟨g, 0, none⟩)] w fun e w' => ∃ (A : Option Addr) (n c : Nat) (l : List DV), e = .returned (.slice A n c) ∧ cnL l = resultsM K.fs x ∧ l.length = n ∧ Im τ w' A n 3 (rowVl l) ∧ Below w.heap.size w w' := by
 obtain ⟨R, h⟩ := h
 obtain ⟨p1, p2, p3, p4, p5⟩ := h.np
 have hl3 := h.fv.r3.1
 have hm : R.m13 = R.V.n1 + R.V.n2 + R.V.n3 := by
  have h1 := h.r13.len
  have h2 := congrArg List.length h.asl
  rw [List.length_map] at h2
  rw [List.length_append, List.length_append] at hs
  omega
 refine (fresults_any g (g + 1) R.V.s R.V.b R.V.A0 R.V.n0 R.V.c0 R.V.A1 R.V.n1 R.V.c1 R.V.A2 R.V.n2 R.V.c2 R.V.A3 R.V.n3 R.V.c3 R.V.A4 R.V.n4 R.V.c4 R.V.A5 R.V.n5 R.V.c5 R.V.A6 R.V.n6 R.V.c6 R.V.A7 R.V.n7 R.V.c7 R.V.A8 R.V.n8 R.V.c8 R.A13 R.m13 R.c13 R.sl w h.fn h.e13 h.r13 (by omega) (by omega)).mono ?_
 rintro e w' ⟨A, n, c, rfl, hown, hb⟩
 have hri : Im τ w' A n 3 (rowVl ((R.sl.drop R.V.n1).take R.V.n2)) := Rdv.own hown fun j hj _ hne => hne (hz j hj)
 exact ⟨A, n, c, _, rfl, by rw [cnL, List.map_take, List.map_drop, show R.sl.map cnV = _ from h.asl, p1, p2]; rfl, hri.len, hri, hb⟩
theorem zfunc (h : FZ K τ L w g fr x) : Calls Tryz.prog 21 #[.pointer (some ⟨g, 0, none⟩)] w fun e w' => e = .returned (.int .i64 (x.f : Int)) ∧ Below w.heap.size w w' := by
 obtain ⟨R, h⟩ := h
 exact ffunc_any g _ w h.e11
theorem zpc (h : FZ K τ L w g fr x) : Calls Tryz.prog 18 #[.pointer (some ⟨g, 0, none⟩)] w fun e w' => e = .returned (.int .i64 (x.pc : Int)) ∧ Below w.heap.size w w' := by
 obtain ⟨R, h⟩ := h
 exact fpc_any g _ w h.e12
theorem zfrom (h : FZ K τ L w g fr x) : Calls Tryz.prog 22 #[.pointer (some ⟨g, 0, none⟩)] w fun e w' => e = .returned (.pointer fr) ∧ Below w.heap.size w w' := by
 obtain ⟨R, h⟩ := h
 exact fromz_any g fr w h.e16
theorem zgo (h : FZ K τ L w g fr x) (hL : 1 ≤ L) (hz : ∀ j, w.heap.size ≤ j → τ j = (0, 0)) (p : Nat) : Calls Tryz.prog 45 #[.pointer (some ⟨g, 0, none⟩), .int .i64 (p : Int)] w (IsZ K τ L w g fr { x with pc := p }) := by
 obtain ⟨R, h⟩ := h
 refine (fgo_any g _ _ w h.e12 (h.fz 12)).mono ?_
 rintro e w' ⟨hu, rfl⟩
 obtain ⟨h1, h2⟩ := h.pc hL hz p
 exact ⟨hu, τ, ⟨_, h1⟩, h2⟩
end
section
open Go.RowKit
variable {K : RK} {τ : Nat → Tag} {w : World} {L g : Nat} {fr : Option Addr} {x : Fr}
theorem zdefer (h : FZ K τ L w g fr x) (hL : 1 ≤ L) (hz : ∀ j, w.heap.size ≤ j → τ j = (0, 0)) (hc : x.cs.length ≤ 90000) (f : Nat) {B : Option Addr} {m mc : Nat} {l : List DV} (hs : SrcV w B m l) (hm : m ≤ 90000) :
  Calls Tryz.prog 46 #[.pointer (some ⟨g, 0, none⟩), .int .i64 (f : Int), .slice B m mc] w (IsZ K τ L w g fr { x with cs := x.cs ++ [⟨f, cnL l⟩] }) := by
 obtain ⟨R, h⟩ := h
 obtain ⟨l1, l2⟩ := h.csl
 refine (fdefer_any g (g + 1) R.A15 R.n15 R.c15 R.cs (f : Int) B m mc l w h.e15 (h.fz 15) h.r15 (Nat.lt_succ_self g) h.lt (by omega) hs (by omega)).mono ?_
 rintro e w' ⟨hu, q, A', c', q1, q2, q3, q4, hp⟩
 obtain ⟨τ', h1, h2, _⟩ := h.calls hL (ws := x.cs ++ [⟨f, cnL l⟩]) hp.kp hp.ci hp.co hp.fz hp.row hp.nw hz (fun q' hq' => by
  rcases List.mem_append.1 hq' with hq' | hq'
  ·exact .inl hq'
  ·rw [List.mem_singleton] at hq'; subst hq'; exact .inr q4) (by rw [List.map_append, List.map_append, h.acs]; simp [q1, q2])
 exact ⟨hu, τ', ⟨_, h1⟩, h2⟩
theorem znext (h : FZ K τ L w g fr x) (hL : 1 ≤ L) (hz : ∀ j, w.heap.size ≤ j → τ j = (0, 0)) (hc : x.cs.length ≤ 90000) :
  Calls Tryz.prog 47 #[.pointer (some ⟨g, 0, none⟩)] w fun e w' => (∃ τ', FZ K τ' L w' g fr { x with cs := x.cs.dropLast } ∧ Tr (TF L) τ w τ' w' ∧ ((x.cs = [] ∧ e = .returned (.tuple #[.int .i64 0, .slice none 0 0, .bool false])) ∨ ∃ (c : Wt) (A : Option Addr) (n cc : Nat) (l : List DV), x.cs.getLast? = some c ∧ e = .returned (.tuple #[.int .i64 (c.f : Int), .slice A n cc, .bool true]) ∧ cnL l = c.args ∧ Im τ' w' A n 3 (rowVl l))) := by
 obtain ⟨R, h⟩ := h
 obtain ⟨l1, l2⟩ := h.csl
 refine (fnext_any g (g + 1) R.A15 R.n15 R.c15 R.cs w h.e15 (h.fz 15) h.r15 (Nat.lt_succ_self g) (by omega)).mono ?_
 rintro e w' ⟨rfl, hp⟩
 have hk : Kp (fun j => j = g ∨ R.A15 = some ⟨j, 0, none⟩) w w' := hp.kp.mono fun j _ e => .inl e
 have hr : RowC w' (g + 1) R.A15 (R.n15 - 1) (R.n15 - 1) (R.cs.take (R.n15 - 1)) := RowC.cut (n := R.n15) (c := R.c15) (l := R.cs) (RowF.kp h.r15 hp.kp (fun j e e' => by have := (row_ge h.r15 e).1; omega)) (by omega)
 obtain ⟨τ', h1, h2, h3⟩ := h.calls hL (ws := x.cs.dropLast) hk hp.ci hp.co hp.fz hr (Nw.rfl' _ _) hz (fun q hq => .inl (List.mem_of_mem_take hq)) (by
  rw [← l2, List.map_take, h.acs, List.dropLast_eq_take, List.map_take, l1])
 refine ⟨τ', ⟨_, h1⟩, h2, ?_⟩
 by_cases hn : x.cs = []
 ·have hc0 : R.cs = [] := List.eq_nil_of_length_eq_zero (by rw [l1, hn]; rfl)
  refine .inl ⟨hn, ?_⟩
  have : R.n15 = 0 := by rw [← l2, hc0]; rfl
  rw [hc0, this]
  rfl
 ·obtain ⟨c, hcl⟩ : ∃ c, x.cs.getLast? = some c := ⟨_, List.getLast?_eq_some_getLast hn⟩
  have hpos : 0 < x.cs.length := List.length_pos_iff.2 hn
  have hq : R.cs[R.cs.length - 1]? = some (topC R.cs) := by
   unfold topC
   rw [List.getD_eq_getElem?_getD, List.getElem?_eq_getElem (by omega)]
   rfl
  have hmap : (R.cs.map fun q => (q.f, cnL q.l))[R.cs.length - 1]? = some ((topC R.cs).f, cnL (topC R.cs).l) := by rw [List.getElem?_map, hq]; rfl
  rw [h.acs, List.getElem?_map, l1, ← List.getLast?_eq_getElem?, hcl] at hmap
  simp only [Option.map_some, Option.some.injEq, Prod.mk.injEq] at hmap
  have hmem : topC R.cs ∈ R.cs := List.mem_of_getElem? hq
  exact .inr ⟨c, _, _, _, _, hcl, by rw [hmap.1, show decide (0 < R.n15) = true from dcT (by omega)], hmap.2.symm, (h.args _ hmem).tr h2 (TF.no hL)⟩
theorem cn_zD (t : Int) : cnV (zD t) = zD t := by unfold cnV zD; simp only [cnF_zero]
theorem cn_slM (ts : List Int) (n : Nat) (l : List DV) : cnL (slM ts n l) = slM ts n (cnL l) := by
 unfold slM
 rw [cnL, List.map_append, List.map_take, List.map_drop, List.map_map, ← List.map_take, List.length_map, show (cnV ∘ zD) = zD from funext cn_zD]
theorem znew (hP : PgC K.wI K.FA K.fn K.fc K.fs) (hE : Env K τ w) (hL : 1 ≤ L) {f : Nat} (hf : f < K.fn) {B : Option Addr} {m mc : Nat} {l : List DV} (hs : SrcV w B m l) (hm : m ≤ 300) (fr : Option Addr) (dfd by_ : Bool) :
  Calls Tryz.prog 13 #[.agg #[.slice K.FA K.fn K.fc], .int .i64 (f : Int), .slice B m mc, .pointer fr] w fun e w' => ∃ g, e = .returned (.pointer (some ⟨g, 0, none⟩)) ∧ w.heap.size ≤ g ∧ ∃ τ', FZ K τ' L w' g fr (openF K.fs f (cnL l) dfd by_) ∧ Tr (fun _ => False) τ w τ' w' := by
 obtain ⟨bk, off, s, b, A0, n0, c0, A1, n1, c1, A2, n2, c2, A3, n3, c3, A4, n4, c4, A5, n5, c5, A6, n6, c6, A7, n7, c7, A8, n8, c8, x, hA, hbk, hx, hcf, hfw, hcan⟩ := hP.get hf
 rw [hA]
 have hbk2 : bk < w.heap.size := Nat.lt_of_lt_of_le hbk hE.b0.size
 have hfn := hP.pg.le
 have hfw2 := (hfw.keep hE.b0).more hE.b0.size
 refine (newz_any s b A0 n0 c0 A1 n1 c1 A2 n2 c2 A3 n3 c3 A4 n4 c4 A5 n5 c5 A6 n6 c6 A7 n7 c7 A8 n8 c8 x bk off K.fn K.fc f B m mc l w hbk2 (fun j u hj => (hE.b0.cell (p := ⟨bk, off + f * 11 + j, none⟩) hbk).trans (hcf j u hj)) (fns_of hfw2) hf hfn hs hm fr).mono ?_
 rintro e w' ⟨g, A13, m13, c13, rfl, hg, hn, hb⟩
 obtain rfl := fnOf_of hx
 have hgl : g < w'.heap.size := World.block_lt_of_cell? _ _ hn.e11
 have hge : ∀ j, A13 = some ⟨j, 0, none⟩ → g + 1 ≤ j ∧ j < w'.heap.size := fun j e => row_ge hn.r13 e
 have hn1 : n1 = (fnOf K.fs f).params.length := hfw.r1.1.symm
 refine ⟨g, rfl, hg, fun j => if j = g then (L, 0) else if A13 = some ⟨j, 0, none⟩ then (L, 1) else τ j, ⟨⟨⟨s, b, A0, n0, c0, A1, n1, c1, A2, n2, c2, A3, n3, c3, A4, n4, c4, A5, n5, c5, A6, n6, c6, A7, n7, c7, A8, n8, c8⟩, A13, m13, c13, none, 0, 0, none, 0, 0, slM (typesM (fnOf K.fs f)) n1 l, [], []⟩, ?_⟩, ⟨(Kp.refl _ _).ofBelow hb, fun j hj => ?_, fun j hj => ?_⟩⟩
 ·refine ⟨hn.fn, hfw, hn.e11, hn.e12, hn.e13, hn.e14, hn.e15, hn.e16, hn.fz, hn.r13, (RowF.ofOwn (World.ownsRow_nil _ _ _ _) : RowV w' (g + 1) none 0 0 []), (RowF.ofOwn (World.ownsRow_nil _ _ _ _) : RowC w' (g + 1) none 0 0 []), if_pos rfl, fun j e => ?_, (fun j e => by cases e), (fun j e => by cases e), (fun q hq => by cases hq), ?_, fun _ => rfl, rfl⟩
  ·have := hge j e
   show (if j = g then (L, 0) else if A13 = some ⟨j, 0, none⟩ then (L, 1) else τ j) = (L, 1)
   rw [if_neg (by omega), if_pos e]
  ·show cnL (slM (typesM (fnOf K.fs f)) n1 l) = slM (typesM (fnOf K.fs f)) (fnOf K.fs f).params.length (cnL l)
   rw [cn_slM, hn1]
 ·show (if j = g then (L, 0) else if A13 = some ⟨j, 0, none⟩ then (L, 1) else τ j) = τ j
  rw [if_neg (by omega), if_neg (fun e => by have := (hge j e).1; omega)]
 ·show (if j = g then (L, 0) else if A13 = some ⟨j, 0, none⟩ then (L, 1) else τ j) = (0, 0)
  rw [if_neg (by omega), if_neg (fun e => by have := (hge j e).2; omega)]
  exact hE.z j (Nat.le_trans hb.size hj)
end
section
set_option maxRecDepth 100000
set_option maxHeartbeats 4000000
open Go.RowKit
def TV (t : Tag) : Prop := t.1 = 0 ∧ (t.2 ≠ 0 ∧ t.2 ≤ 3)
theorem TV.tt {L : Nat} {t : Tag} (h : TV t) : TT L t := .inl h
theorem TV.no : ¬ TV (0, 0) := fun h => h.2.1 rfl
abbrev ptrV (g : Nat) : Value := .pointer (some ⟨g, 0, none⟩)
def enC (p : Int × Int) : List Value := [.int .i64 p.1, .int .i64 p.2]
abbrev rowEn (l : List (Int × Int)) : List Value := l.flatMap enC
structure EvV where
 k : Int
 n : Int
 m : Int
 A : Option Addr
 l : Nat
 c : Nat
 tr : List (Int × Int)
def EvV.cells (e : EvV) : List Value := [.int .i64 e.k, .int .i64 e.n, .int .i64 e.m, .slice e.A e.l e.c]
def EvV.ab (e : EvV) : Ev := ⟨e.k, e.n, e.m, e.tr⟩
theorem EvV.len (e : EvV) : e.cells.length = 4 := rfl
abbrev rowE (l : List EvV) : List Value := l.flatMap EvV.cells
theorem own_kpF {S : Nat → Prop} {w w' : World} {base : Nat} {e : TypeId} {sz n c : Nat} {A : Option Addr} {xs : List Value} (h : w.ownsRow base e sz (.slice A n c) n xs) (k : Kp S w w') (hs : ∀ j, A = some ⟨j, 0, none⟩ → ¬ S j) : w'.ownsRow base e sz (.slice A n c) n xs := by
 refine k.own h fun j e' => ?_
 obtain ⟨A2, c2, hv, _, hat⟩ := own_form h
 simp only [Value.slice.injEq, true_and] at hv
 obtain ⟨rfl, rfl⟩ := hv
 cases A with
 | none => cases e'
 | some ad =>
  obtain ⟨g, rfl, _⟩ := hat ad rfl
  injection e' with e'
  exact hs j (by rw [← e'])
structure VMr (K : RK) (τ : Nat → Tag) (w : World) (gs : List Nat) (s : Ms) (PA : Option Addr) (pn pc : Nat) (EA : Option Addr) (en ec : Nat) (evs : List EvV) : Prop where
 c0 : w.cell? ⟨K.m, 0, none⟩ = some (.slice K.FA K.fn K.fc)
 c1 : w.cell? ⟨K.m, 1, none⟩ = some (.slice K.AA K.an K.ac)
 c2 : w.cell? ⟨K.m, 2, none⟩ = some (.slice K.DA K.dn K.dc)
 c3 : w.cell? ⟨K.m, 3, none⟩ = some (.int .i64 (K.fuel : Int))
 c4 : w.cell? ⟨K.m, 4, none⟩ = some (.int .i64 (s.drawn : Int))
 c5 : w.cell? ⟨K.m, 5, none⟩ = some (.slice PA pn pc)
 c6 : w.cell? ⟨K.m, 6, none⟩ = some (.slice EA en ec)
 c7 : w.cell? ⟨K.m, 7, none⟩ = some (.int .i64 0)
 c8 : w.cell? ⟨K.m, 8, none⟩ = some (.slice none 0 0)
 c9 : w.cell? ⟨K.m, 9, none⟩ = some (.slice none 0 0)
 c10 : w.cell? ⟨K.m, 10, none⟩ = some (.int .i64 (s.steps : Int))
 fz : ∀ i, w.frozen? ⟨K.m, i, none⟩ = false
 r5 : w.ownsRow (K.m + 1) 47 1 (.slice PA pn pc) pn (gs.reverse.map ptrV)
 r6 : RowF w (K.m + 1) 116 4 EA en ec (rowE evs)
 tm : τ K.m = (0, 1)
 t5 : ∀ j, PA = some ⟨j, 0, none⟩ → τ j = (0, 2)
 t6 : ∀ j, EA = some ⟨j, 0, none⟩ → τ j = (0, 3)
 tr : ∀ e ∈ evs, Im τ w e.A e.l 2 (rowEn e.tr)
 ab : evs.map EvV.ab = s.evs
def VM (K : RK) (τ : Nat → Tag) (w : World) (gs : List Nat) (s : Ms) : Prop := ∃ PA pn pc EA en ec evs, VMr K τ w gs s PA pn pc EA en ec evs
variable {K : RK} {τ τ' : Nat → Tag} {w w' : World} {gs : List Nat} {s : Ms} {PA : Option Addr} {pn pc : Nat} {EA : Option Addr} {en ec : Nat} {evs : List EvV} {T : Tag → Prop}
theorem VMr.lt (h : VMr K τ w gs s PA pn pc EA en ec evs) : K.m < w.heap.size := World.block_lt_of_cell? _ _ h.c0
theorem VMr.tr' (h : VMr K τ w gs s PA pn pc EA en ec evs) (k : Tr T τ w τ' w') (hT : ∀ j, ¬ T (0, j)) : VMr K τ' w' gs s PA pn pc EA en ec evs := by
 have hg : ¬ T (τ K.m) := by rw [h.tm]; exact hT 1
 have q : ∀ {i : Nat} {v : Value}, w.cell? ⟨K.m, i, none⟩ = some v → w'.cell? ⟨K.m, i, none⟩ = some v := fun hc => k.cellv hc hg
 exact ⟨q h.c0, q h.c1, q h.c2, q h.c3, q h.c4, q h.c5, q h.c6, q h.c7, q h.c8, q h.c9, q h.c10, fun i => (k.kp.frozen h.lt hg).trans (h.fz i), own_kpF h.r5 k.kp fun j e => by rw [h.t5 j e]; exact hT 2, RowF.kp h.r6 k.kp fun j e => by rw [h.t6 j e]; exact hT 3, (k.eq _ h.lt).trans h.tm, fun j e => (k.eq j (row_ge (RowF.ofOwn h.r5) e).2).trans (h.t5 j e), fun j e => (k.eq j (row_ge h.r6 e).2).trans (h.t6 j e), fun e he => (h.tr e he).tr k (hT 0), h.ab⟩
theorem VMr.put (h : VMr K τ w gs s PA pn pc EA en ec evs) (hz : ∀ j, w.heap.size ≤ j → τ j = (0, 0)) (i : Nat) (hi : i = 4 ∨ i = 10) (n : Nat) (s' : Ms) (hs : s' = if i = 4 then { s with drawn := n } else { s with steps := n }) : VMr K τ (w.setCell ⟨K.m, i, none⟩ (.int .i64 (n : Int))) gs s' PA pn pc EA en ec evs ∧ Tr TV τ w τ (w.setCell ⟨K.m, i, none⟩ (.int .i64 (n : Int))) := by
 have hk : Kp (fun j => j = K.m) w (w.setCell ⟨K.m, i, none⟩ (.int .i64 (n : Int))) := (Kp.refl (fun j => j = K.m) w).setCell (p := ⟨K.m, i, none⟩) (fun _ => rfl) _
 have hc : ∀ q, q ≠ i → (w.setCell ⟨K.m, i, none⟩ (.int .i64 (n : Int))).cell? ⟨K.m, q, none⟩ = w.cell? ⟨K.m, q, none⟩ := fun q hq => World.cell?_setCell_other _ _ _ _ (by simp; try omega)
 have hsz : (w.setCell ⟨K.m, i, none⟩ (.int .i64 (n : Int))).heap.size = w.heap.size := by simp [World.setCell]
 have n5 : ∀ j, PA = some ⟨j, 0, none⟩ → ¬ j = K.m := fun j e e' => by have := (row_ge (RowF.ofOwn h.r5) e).1; omega
 have n6 : ∀ j, EA = some ⟨j, 0, none⟩ → ¬ j = K.m := fun j e e' => by have := (row_ge h.r6 e).1; omega
 have him : ∀ e ∈ evs, Im τ (w.setCell ⟨K.m, i, none⟩ (.int .i64 (n : Int))) e.A e.l 2 (rowEn e.tr) := fun e he => (h.tr e he).re (fun _ _ => rfl) hk fun j _ e e' => absurd ((by rw [← e]; exact e' : τ K.m = (0, 0)).symm.trans h.tm) (by decide)
 refine ⟨?_, ⟨hk.mono fun j _ e => by show TV (τ j); rw [e, h.tm]; exact ⟨rfl, by simp⟩, fun _ _ => rfl, fun j hj => hz j (by omega)⟩⟩
 rcases hi with rfl | rfl
 ·rw [if_pos rfl] at hs
  subst hs
  exact ⟨(hc 0 (by decide)).trans h.c0, (hc 1 (by decide)).trans h.c1, (hc 2 (by decide)).trans h.c2, (hc 3 (by decide)).trans h.c3, by simp [go_sem, h.c4], (hc 5 (by decide)).trans h.c5, (hc 6 (by decide)).trans h.c6, (hc 7 (by decide)).trans h.c7, (hc 8 (by decide)).trans h.c8, (hc 9 (by decide)).trans h.c9, (hc 10 (by decide)).trans h.c10, fun i => (World.frozen?_setCell _ _ _ _).trans (h.fz i), own_kpF h.r5 hk n5, RowF.kp h.r6 hk n6, h.tm, h.t5, h.t6, him, h.ab⟩
 ·rw [if_neg (by decide)] at hs
  subst hs
  exact ⟨(hc 0 (by decide)).trans h.c0, (hc 1 (by decide)).trans h.c1, (hc 2 (by decide)).trans h.c2, (hc 3 (by decide)).trans h.c3, (hc 4 (by decide)).trans h.c4, (hc 5 (by decide)).trans h.c5, (hc 6 (by decide)).trans h.c6, (hc 7 (by decide)).trans h.c7, (hc 8 (by decide)).trans h.c8, (hc 9 (by decide)).trans h.c9, by simp [go_sem, h.c10], fun i => (World.frozen?_setCell _ _ _ _).trans (h.fz i), own_kpF h.r5 hk n5, RowF.kp h.r6 hk n6, h.tm, h.t5, h.t6, him, h.ab⟩
abbrev dryE : List PanicEntry := [{ v := .iface 122 (.agg #[]), recovered := false }]
def IsBurn (K : RK) (τ : Nat → Tag) (w : World) (gs : List Nat) (s : Ms) (e : Ending) (w' : World) : Prop := (s.steps < K.fuel ∧ (∃ u, e = .returned u) ∧ ∃ τ', VM K τ' w' gs { s with steps := s.steps + 1 } ∧ Tr TV τ w τ' w') ∨ (¬ s.steps < K.fuel ∧ e = .panicked dryE ∧ ∃ τ', VM K τ' w' gs s ∧ Tr TV τ w τ' w')
theorem burn_any (h : VM K τ w gs s) (hz : ∀ j, w.heap.size ≤ j → τ j = (0, 0)) (hf : K.fuel ≤ 100000) (hs : s.steps ≤ 100000) : Calls Tryz.prog 133 #[ptrV K.m] w (IsBurn K τ w gs s) := by
 obtain ⟨PA, pn, pc, EA, en, ec, evs, h⟩ := h
 obtain ⟨m, hm⟩ : ∃ m, K.m = m := ⟨_, rfl⟩
 obtain ⟨f, hfu⟩ : ∃ f, K.fuel = f := ⟨_, rfl⟩
 obtain ⟨st, hst⟩ : ∃ f, s.steps = f := ⟨_, rfl⟩
 have c3 := h.c3
 have c10 := h.c10
 have f10 := h.fz 10
 rw [hm, hfu] at c3
 rw [hm, hst] at c10
 rw [hm] at f10
 rw [hfu] at hf
 rw [hst] at hs
 have hs1 : (st : Int) ≤ 100000 := by omega
 rw [hm]
 by_cases hlt : st < f
 ·have HF : Hid (IsBurn K τ w gs s (.returned (.tuple #[])) (w.drew.setCell ⟨m, 10, none⟩ (.int .i64 ((st + 1 : Nat) : Int))) ∧ ∀ q u, IsBurn K τ w gs s (.returned u) ((w.drewN q).setCell ⟨m, 10, none⟩ (.int .i64 ((st + 1 : Nat) : Int)))) := Hd (by
   have key : ∀ (q : Nat) (u : Value), IsBurn K τ w gs s (.returned u) ((w.drewN q).setCell ⟨m, 10, none⟩ (.int .i64 ((st + 1 : Nat) : Int))) := fun q u => by
    have ht : Tr TV τ w τ (w.drewN q) := Tr.below hz (below_drewN' (Below.refl _ _) q)
    obtain ⟨h1, h2⟩ := (h.tr' (T := fun _ => False) (Tr.below hz (below_drewN' (Below.refl _ _) q)) (fun _ => id)).put (fun j hj => hz j hj) 10 (.inr rfl) (st + 1) _ rfl
    rw [hm] at h1 h2
    rw [if_neg (by decide)] at h1
    exact .inl ⟨by omega, ⟨_, rfl⟩, τ, ⟨_, _, _, _, _, _, _, by rw [← hst] at h1 ⊢; exact h1⟩, ht.trans h2⟩
   exact ⟨key 1 _, key⟩)
  have t1 : decide ((st : Int) ≥ (f : Int)) = false := dcF (by omega)
  have t1b : decide (f ≤ st) = false := dcF (by omega)
  clear h hz hm hfu hst
  go_in
  go_wp2_with fail
  go_quiet (fail)
  go_wp2_with fail
  go_end0
  exact HF.out.2 _ _
 ·have HF : Hid (∀ q, IsBurn K τ w gs s (.panicked dryE) (w.drewN q)) := Hd fun q => .inr ⟨by omega, rfl, τ, ⟨_, _, _, _, _, _, _, h.tr' (T := fun _ => False) (Tr.below hz (below_drewN' (Below.refl _ _) q)) (fun _ => id)⟩, Tr.below hz (below_drewN' (Below.refl _ _) q)⟩
  have t1 : decide ((st : Int) ≥ (f : Int)) = true := dcT (by omega)
  have t1b : decide (f ≤ st) = true := dcT (by omega)
  clear h hz hm hfu hst
  go_in
  go_wp2_with fail
  go_quiet (fail)
  go_wp2_with fail
  exact ⟨rfl, HF.out _⟩
end
end Go.Proofs.YtobmjnmcjddhcaaGreat
