import Derived.Test.YtobmjnmcjddhcaaGreatRg2
import Derived.Test.YtobmjnmcjddhcaaGreatRg24
import Derived.OrdersHeld
set_option linter.unusedSimpArgs false
set_option linter.unusedVariables false
namespace Go.Proofs.YtobmjnmcjddhcaaGreat
section
set_option maxRecDepth 100000
set_option maxHeartbeats 4000000
open Go.RowKit
theorem info_ev : (Tryz.prog.info? 116).map (fun i => (i.zero, i.size, i.bytes)) = some (some (.agg #[.int .i64 0, .int .i64 0, .int .i64 0, .slice none 0 0]), 4, 48) := by kernel_rfl
theorem src_ev (W : World) (vk vn vm : Int) (vA : Option Addr) (vl vc : Nat) : SrcCells (W.alloc (.cells #[.int .i64 vk, .int .i64 vn, .int .i64 vm, .slice vA vl vc] 116)) (some ⟨W.heap.size, 0, none⟩) 1 4 [.int .i64 vk, .int .i64 vn, .int .i64 vm, .slice vA vl vc] :=
 own_src (World.ownsRow_lit (base := W.heap.size) (e := 116) (size := 4) W #[.int .i64 vk, .int .i64 vn, .int .i64 vm, .slice vA vl vc] 1 (Nat.le_refl _) (by unfold maxLen; omega) rfl)
theorem one_ev (vk vn vm : Int) (vA : Option Addr) (vl vc : Nat) : ∀ u ∈ [Value.int .i64 vk, .int .i64 vn, .int .i64 vm, .slice vA vl vc], u.oneCell' = true := by
 intro u hu
 simp at hu
 rcases hu with rfl | rfl | rfl | rfl <;> rfl
theorem tellr_any (g base : Nat) (A : Option Addr) (n c : Nat) (xs : List Value) (vk vn vm : Int) (vA : Option Addr) (vl vc : Nat) (w : World) (h : w.cell? ⟨g, 6, none⟩ = some (.slice A n c)) (hf : w.frozen? ⟨g, 6, none⟩ = false) (hr : RowF w base 116 4 A n c xs) (hgb : g < base) (hbs : base ≤ w.heap.size) (hn : n ≤ 100000) :
  Calls Tryz.prog 179 #[.pointer (some ⟨g, 0, none⟩), .agg #[.int .i64 vk, .int .i64 vn, .int .i64 vm, .slice vA vl vc]] w fun e w' => (∃ u, e = .returned u) ∧ ∃ A' c', Pushed 6 base 116 4 g A n (xs ++ [.int .i64 vk, .int .i64 vn, .int .i64 vm, .slice vA vl vc]) A' c' w w' := by
 obtain ⟨i0, hi, hz0, hz1, hz2⟩ := info_parts info_ev
 obtain ⟨w1, hw1⟩ : ∃ w1, w.alloc (.cells #[.int .i64 vk, .int .i64 vn, .int .i64 vm, .slice vA vl vc] 116) = w1 := ⟨_, rfl⟩
 have hk1 : Kp (fun _ => False) w w1 := by rw [← hw1]; exact (Kp.refl _ _).alloc _
 have hlt : g < w.heap.size := World.block_lt_of_cell? _ _ h
 have z : ∀ j u, #[.int .i64 vk, .int .i64 vn, .int .i64 vm, .slice vA vl vc][j]? = some u → w1.cell? ⟨w.heap.size, j, none⟩ = some u := fun j u hu => by
  rw [← hw1]
  exact (new_cells (Below.refl _ _) j u hu).1
 have hsz1 : w1.heap.size = w.heap.size + 1 := by rw [← hw1]; simp
 have hAz : ¬ A = some ⟨w.heap.size, 0, none⟩ := fun e => by have := (row_ge hr e).2; omega
 have HQ : Hid (∀ W : World, Kp (fun k => k = g ∨ A = some ⟨k, 0, none⟩) w1 W → W.cell? ⟨w.heap.size, 0, none⟩ = some (.int .i64 vk) ∧ W.cell? ⟨w.heap.size, 1, none⟩ = some (.int .i64 vn) ∧ W.cell? ⟨w.heap.size, 2, none⟩ = some (.int .i64 vm) ∧ W.cell? ⟨w.heap.size, 3, none⟩ = some (.slice vA vl vc)) := Hd fun W hW => by
  have nb : ¬ (w.heap.size = g ∨ A = some ⟨w.heap.size, 0, none⟩) := fun h => h.elim (fun e => by omega) hAz
  exact ⟨hW.cellv (z 0 _ rfl) nb, hW.cellv (z 1 _ rfl) nb, hW.cellv (z 2 _ rfl) nb, hW.cellv (z 3 _ rfl) nb⟩
 have hk4 : Kp (fun _ => False) w1 (w1.drew.alloc (.cells #[.int .i64 vk, .int .i64 vn, .int .i64 vm, .slice vA vl vc] 116)) := ((Kp.refl _ _).drew).alloc _
 have g0 : w1.cell? ⟨g, 6, none⟩ = some (.slice A n c) := hk1.cellv h id
 have g4 : (w1.drew.alloc (.cells #[.int .i64 vk, .int .i64 vn, .int .i64 vm, .slice vA vl vc] 116)).cell? ⟨g, 6, none⟩ = some (.slice A n c) := hk4.cellv g0 id
 have HF : Hid (∀ (W' : World) (A' : Option Addr) (c' : Nat), W'.ownsRow base 116 4 (.slice A' (n + 1) c') (n + 1) (xs ++ [.int .i64 vk, .int .i64 vn, .int .i64 vm, .slice vA vl vc]) → Kp (fun k => A = some (⟨k, 0, none⟩ : Addr)) (w1.drew.alloc (.cells #[.int .i64 vk, .int .i64 vn, .int .i64 vm, .slice vA vl vc] 116)) W' → (A' = A ∨ ∃ k, A' = some ⟨k, 0, none⟩ ∧ (w1.drew.alloc (.cells #[.int .i64 vk, .int .i64 vn, .int .i64 vm, .slice vA vl vc] 116)).heap.size ≤ k) → Pushed 6 base 116 4 g A n (xs ++ [.int .i64 vk, .int .i64 vn, .int .i64 vm, .slice vA vl vc]) A' c' w (W'.setCell ⟨g, 6, none⟩ (.slice A' (n + 1) c')) ∧ W'.cell? ⟨g, 6, none⟩ = some (.slice A n c) ∧ W'.frozen? ⟨g, 6, none⟩ = false) := Hd fun W' A' c' hown hk hA => push_fin h hf hgb hr (hk1.trans hk4) hown hk hA
 have hsrc := Hd (src_ev w1.drew vk vn vm vA vl vc)
 have hone := Hd (one_ev vk vn vm vA vl vc)
 have hrow : Hid (RowF (w1.drew.alloc (.cells #[.int .i64 vk, .int .i64 vn, .int .i64 vm, .slice vA vl vc] 116)) base 116 4 A n c xs) := Hd (RowF.kp hr (hk1.trans hk4) fun _ _ h => h)
 have hbase : Hid (base ≤ (w1.drew.alloc (.cells #[.int .i64 vk, .int .i64 vn, .int .i64 vm, .slice vA vl vc] 116)).heap.size) := Hd (Nat.le_trans hbs (hk1.trans hk4).size)
 have hS0 : Kp (fun k => k = g ∨ A = some ⟨k, 0, none⟩) w1 w1.drew := (Kp.refl _ _).drew
 have hS4 : Kp (fun k => k = g ∨ A = some ⟨k, 0, none⟩) w1 (w1.drew.alloc (.cells #[.int .i64 vk, .int .i64 vn, .int .i64 vm, .slice vA vl vc] 116)) := hk4.mono fun _ _ h => h.elim
 have HE := Hd hw1
 clear h hf z hk1 hk4 hw1 hr hAz hbs
 go_in
 go_wp2_with fail
 rw [HE.out]
 refine wp_region_held (S := fun W => Kp (fun k => k = g ∨ A = some ⟨k, 0, none⟩) w1 W) (by kernel_rfl) ?_
 change wpAnyH _ _ _ _ _ _ _ _ (World.drew _)
 refine teH 0 (.pointer (some ⟨g, 0, none⟩)) rfl (by intro W hW; go_simp; try (first | (with_reducible rfl) | omega)) hS0 ?_
 refine teH 1 (.pointer (some ⟨g, 0, none⟩)) rfl (by intro W hW; go_simp; try (first | (with_reducible rfl) | omega)) hS0 ?_
 refine teH 2 (.pointer (some ⟨g, 0, none⟩)) rfl (by intro W hW; go_simp; try (first | (with_reducible rfl) | omega)) hS0 ?_
 refine teH 3 (.pointer (some ⟨g, 6, none⟩)) rfl (by intro W hW; go_simp; try (first | (with_reducible rfl) | omega)) hS0 ?_
 refine teH 4 (.pointer (some ⟨g, 6, none⟩)) rfl (by intro W hW; go_simp; try (first | (with_reducible rfl) | omega)) hS0 ?_
 refine teH 6 (.agg #[.int .i64 vk, .int .i64 vn, .int .i64 vm, .slice vA vl vc]) rfl (by intro W hW; obtain ⟨g10, g11, g12, g13⟩ := HQ.out W hW; go_simp; try (first | (with_reducible rfl) | omega)) hS0 ?_
 refine wpAnyH_two (i := 5) (j := 7) (by kernel_rfl) rfl rfl (fun K hK => ?_) (fun K hK => ?_)
 ·go_simp
  refine hK _ _ ⟨hS0, ?_⟩; clear hK K
  refine wpAnyH_one (i := 7) (by kernel_rfl) rfl (fun K hK => ?_)
  go_simp
  refine hK _ _ ⟨hS4, ?_⟩; clear hK K
  refine wpAnyH_one (i := 8) (by kernel_rfl) rfl (fun K hK => ?_)
  refine step_append_rowF _ rfl (.tmp 9) (.tmp 11) 68 rfl base 116 i0 (.agg #[.int .i64 0, .int .i64 0, .int .i64 0, .slice none 0 0]) 4 48 Tryz.underlying68 hi hz0 hz1 hz2 rfl (by decide) A n c xs ?qq1 hrow.out ⟨w1.heap.size, 0, none⟩ 1 1 (by decide) [.int .i64 vk, .int .i64 vn, .int .i64 vm, .slice vA vl vc] ?qq2 hsrc.out hone.out (by unfold maxLen; omega) (by omega) hbase.out ?_
  case qq1 => go_simp
  case qq2 => go_simp
  intro A' c' W' hown hkA hA
  have F := Hd (HF.out W' A' c' hown hkA hA)
  have e0 := F.out.2.1
  have e1 := F.out.2.2
  have hS5 : Kp (fun k => k = g ∨ A = some ⟨k, 0, none⟩) w1 W' := hS4.trans (hkA.mono fun j _ e => .inr e)
  clear hown hkA hA
  refine hK _ _ ⟨hS5, ?_⟩; clear hK K
  refine wpAnyH_one (i := 9) (by kernel_rfl) rfl (fun K hK => ?_)
  go_simp
  refine hK _ _ ⟨hS5, ?_⟩; clear hK K
  refine wpAnyH_one (i := 10) (by kernel_rfl) rfl (fun K hK => ?_)
  go_simp
  refine hK _ _ ⟨hS5, ?_⟩; clear hK K
  refine wpAnyH_one (i := 11) (by kernel_rfl) rfl (fun K hK => ?_)
  go_simp
  refine hK _ _ ⟨hS5, ?_⟩; clear hK K
  refine wpAnyH_one (i := 12) (by kernel_rfl) rfl (fun K hK => ?_)
  go_simp
  refine hK _ _ ⟨(hS5.setCell (p := ⟨g, 6, none⟩) (fun _ => .inl rfl) _), ?_⟩; clear hK K
  refine wpAnyH_done (by kernel_rfl) ?_ _
  go_wp2_with fail
  go_end0
  exact ⟨⟨_, rfl⟩, A', c', F.out.1⟩
 ·go_simp
  refine hK _ _ ⟨hS4, ?_⟩; clear hK K
  refine wpAnyH_one (i := 5) (by kernel_rfl) rfl (fun K hK => ?_)
  go_simp
  refine hK _ _ ⟨hS4, ?_⟩; clear hK K
  refine wpAnyH_one (i := 8) (by kernel_rfl) rfl (fun K hK => ?_)
  refine step_append_rowF _ rfl (.tmp 9) (.tmp 11) 68 rfl base 116 i0 (.agg #[.int .i64 0, .int .i64 0, .int .i64 0, .slice none 0 0]) 4 48 Tryz.underlying68 hi hz0 hz1 hz2 rfl (by decide) A n c xs ?qq1 hrow.out ⟨w1.heap.size, 0, none⟩ 1 1 (by decide) [.int .i64 vk, .int .i64 vn, .int .i64 vm, .slice vA vl vc] ?qq2 hsrc.out hone.out (by unfold maxLen; omega) (by omega) hbase.out ?_
  case qq1 => go_simp
  case qq2 => go_simp
  intro A' c' W' hown hkA hA
  have F := Hd (HF.out W' A' c' hown hkA hA)
  have e0 := F.out.2.1
  have e1 := F.out.2.2
  have hS5 : Kp (fun k => k = g ∨ A = some ⟨k, 0, none⟩) w1 W' := hS4.trans (hkA.mono fun j _ e => .inr e)
  clear hown hkA hA
  refine hK _ _ ⟨hS5, ?_⟩; clear hK K
  refine wpAnyH_one (i := 9) (by kernel_rfl) rfl (fun K hK => ?_)
  go_simp
  refine hK _ _ ⟨hS5, ?_⟩; clear hK K
  refine wpAnyH_one (i := 10) (by kernel_rfl) rfl (fun K hK => ?_)
  go_simp
  refine hK _ _ ⟨hS5, ?_⟩; clear hK K
  refine wpAnyH_one (i := 11) (by kernel_rfl) rfl (fun K hK => ?_)
  go_simp
  refine hK _ _ ⟨hS5, ?_⟩; clear hK K
  refine wpAnyH_one (i := 12) (by kernel_rfl) rfl (fun K hK => ?_)
  go_simp
  refine hK _ _ ⟨(hS5.setCell (p := ⟨g, 6, none⟩) (fun _ => .inl rfl) _), ?_⟩; clear hK K
  refine wpAnyH_done (by kernel_rfl) ?_ _
  go_wp2_with fail
  go_end0
  exact ⟨⟨_, rfl⟩, A', c', F.out.1⟩
variable {K : RK} {τ τ' : Nat → Tag} {w w' : World} {gs : List Nat} {s : Ms}
theorem rowE_snoc (l : List EvV) (e : EvV) : rowE (l ++ [e]) = rowE l ++ e.cells := by simp [rowE]
theorem tell_any (h : VM K τ w gs s) (hz : ∀ j, w.heap.size ≤ j → τ j = (0, 0)) (hl : s.evs.length ≤ 90000) (e : EvV) (he : Im τ w e.A e.l 2 (rowEn e.tr)) :
  Calls Tryz.prog 179 #[ptrV K.m, .agg #[.int .i64 e.k, .int .i64 e.n, .int .i64 e.m, .slice e.A e.l e.c]] w fun en w' => (∃ u, en = .returned u) ∧ ∃ τ', VM K τ' w' gs { s with evs := s.evs ++ [e.ab] } ∧ Tr TV τ w τ' w' := by
 obtain ⟨PA, pn, pc, EA, en, ec, evs, h⟩ := h
 have hle : evs.length = s.evs.length := by rw [← h.ab]; simp
 have hlen : en = evs.length := by
  have := h.r6.1
  rw [flatMap_len EvV.cells EvV.len] at this
  omega
 refine (tellr_any K.m (K.m + 1) EA en ec (rowE evs) e.k e.n e.m e.A e.l e.c w h.c6 (h.fz 6) h.r6 (Nat.lt_succ_self _) h.lt (by omega)).mono ?_
 rintro en' w' ⟨hu, A', c', hp⟩
 refine ⟨hu, ?_⟩
 have hrow := hp.row
 rw [show rowE evs ++ [Value.int .i64 e.k, .int .i64 e.n, .int .i64 e.m, .slice e.A e.l e.c] = rowE (evs ++ [e]) from (rowE_snoc evs e).symm] at hrow
 obtain ⟨τ', t1, t2, t3, t4⟩ := tag_row (τ := τ) (t := (0, 3)) hp.nw h.t6 hz (fun j e => (row_ge hrow e).2) hp.kp.size
 have hS : ∀ j, (j = K.m ∨ EA = some ⟨j, 0, none⟩) → τ j = (0, 1) ∨ τ j = (0, 3) := fun j hj => hj.elim (fun e => by rw [e]; exact .inl h.tm) fun e => .inr (h.t6 j e)
 have n5 : ∀ j, PA = some ⟨j, 0, none⟩ → ¬ (j = K.m ∨ EA = some ⟨j, 0, none⟩) := fun j e hj => by
  have := hS j hj
  rw [h.t5 j e] at this
  simp at this
 have him : ∀ {A : Option Addr} {n : Nat} {l : List (Int × Int)}, Im τ w A n 2 (rowEn l) → Im τ' w' A n 2 (rowEn l) := fun hi => hi.re t1 hp.kp fun j _ hj e0 => by
  rcases hS j hj with e' | e' <;> exact absurd (e0.symm.trans e') (by decide)
 have hc := hp.co
 refine ⟨τ', ⟨PA, pn, pc, A', en + 1, c', evs ++ [e], (hc 0 (by decide)).trans h.c0, (hc 1 (by decide)).trans h.c1, (hc 2 (by decide)).trans h.c2, (hc 3 (by decide)).trans h.c3, (hc 4 (by decide)).trans h.c4, (hc 5 (by decide)).trans h.c5, hp.ci, (hc 7 (by decide)).trans h.c7, (hc 8 (by decide)).trans h.c8, (hc 9 (by decide)).trans h.c9, (hc 10 (by decide)).trans h.c10, fun i => (hp.fz i).trans (h.fz i), own_kpF h.r5 hp.kp n5, hrow, (t1 _ h.lt).trans h.tm, fun j e => (t1 j (row_ge (RowF.ofOwn h.r5) e).2).trans (h.t5 j e), t2, fun q hq => ?_, by rw [List.map_append, h.ab]; rfl⟩, ⟨hp.kp.mono fun j _ hj => ?_, t1, t3⟩⟩
 ·rcases List.mem_append.1 hq with hq | hq
  ·exact him (h.tr q hq)
  ·rw [List.mem_singleton] at hq
   subst hq
   exact him he
 ·rcases hS j hj with e' | e' <;> (show TV (τ j); rw [e']; exact ⟨rfl, by decide⟩)
end
section
set_option maxRecDepth 100000
set_option maxHeartbeats 8000000
open Go.RowKit
structure TB (K : RK) (τ : Nat → Tag) (w : World) (L g : Nat) (y : Fr) : Prop where
 tg : τ g = (L, 0)
 e11 : w.cell? ⟨g, 11, none⟩ = some (.int .i64 (y.f : Int))
 e12 : w.cell? ⟨g, 12, none⟩ = some (.int .i64 (y.pc : Int))
 e7 : ∃ A n c, w.cell? ⟨g, 7, none⟩ = some (.slice A n c) ∧ SlI K.wI K.wI.heap.size A n c (fnOf K.fs y.f).lines
def TBs (K : RK) (τ : Nat → Tag) (w : World) : List Nat → List Fr → Prop
 | [], [] => True
 | g :: gs, y :: ys => TB K τ w (ys.length + 1) g y ∧ TBs K τ w gs ys
 | _, _ => False
variable {K : RK} {τ τ' : Nat → Tag} {w w' : World} {gs : List Nat} {s : Ms} {T : Tag → Prop} {L g : Nat} {fr : Option Addr} {x : Fr} {ys : List Fr}
theorem TB.tr (h : TB K τ w L g x) (k : Tr T τ w τ' w') (h0 : ¬ T (L, 0)) : TB K τ' w' L g x := by
 have hg : ¬ T (τ g) := by rw [h.tg]; exact h0
 obtain ⟨A, n, c, h1, h2⟩ := h.e7
 exact ⟨(k.eq g (World.block_lt_of_cell? _ _ h.e11)).trans h.tg, k.cellv h.e11 hg, k.cellv h.e12 hg, A, n, c, k.cellv h1 hg, h2⟩
theorem TBs.tr : ∀ {gs : List Nat} {ys : List Fr}, TBs K τ w gs ys → Tr T τ w τ' w' → (∀ l, 1 ≤ l → l ≤ ys.length → ¬ T (l, 0)) → TBs K τ' w' gs ys
 | [], [], _, _, _ => trivial
 | g :: gs, y :: ys, h, k, hT => ⟨h.1.tr k (hT _ (by omega) (by simp)), h.2.tr k fun l h1 h2 => hT l h1 (by simp; omega)⟩
 | [], _ :: _, h, _, _ => h.elim
 | _ :: _, [], h, _, _ => h.elim
theorem TBs.at_ : ∀ {gs : List Nat} {ys : List Fr}, TBs K τ w gs ys → gs.length = ys.length ∧ ∀ (k : Nat) (y : Fr), ys[k]? = some y → ∃ g L, gs[k]? = some g ∧ TB K τ w L g y
 | [], [], _ => ⟨rfl, fun k y h => by cases h⟩
 | g :: gs, y :: ys, h => by
  obtain ⟨h1, h2⟩ := h.2.at_
  refine ⟨by simp [h1], fun k z hk => ?_⟩
  cases k with
  | zero => injection hk with hk; subst hk; exact ⟨g, _, rfl, h.1⟩
  | succ k => exact h2 k z hk
 | [], _ :: _, h => h.elim
 | _ :: _, [], h => h.elim
theorem FZ.tb (h : FZ K τ L w g fr x) : TB K τ w L g x := by
 obtain ⟨R, h⟩ := h
 exact ⟨h.tg, h.e11, h.e12, R.V.A5, R.V.n5, R.V.c5, h.fn.e7, h.fv.r5⟩
theorem info_en : (Tryz.prog.info? 169).map (fun i => (i.zero, i.size, i.bytes)) = some (some (.agg #[.int .i64 0, .int .i64 0]), 2, 16) := by kernel_rfl
theorem one_en (a b : Int) : ∀ u ∈ [Value.int .i64 a, .int .i64 b], u.oneCell' = true := by
 intro u hu
 simp at hu
 rcases hu with rfl | rfl <;> rfl
def IsTrace (l : List (Int × Int)) (w : World) (e : Ending) (w' : World) : Prop := ∃ A n c, e = .returned (.slice A n c) ∧ l.length = n ∧ w'.ownsRow w.heap.size 169 2 (.slice A n c) n (rowEn l) ∧ Below w.heap.size w w'
theorem trace_any (h : VM K τ w gs s) (hE : Env K τ w) (ht : TBs K τ w gs ys) (hl : ys.length ≤ 90000) :
  Calls Tryz.prog 180 #[ptrV K.m] w (IsTrace (traceM K.fs ys) w) := by
 obtain ⟨PA, pn, pc, EA, en, ec, evs, h⟩ := h
 obtain ⟨i0, hi, hz0, hz1, hz2⟩ := info_parts info_en
 obtain ⟨hgl, hat⟩ := ht.at_
 obtain ⟨m, hm⟩ : ∃ m, K.m = m := ⟨_, rfl⟩
 obtain ⟨tr, htr⟩ : ∃ tr, traceM K.fs ys = tr := ⟨_, rfl⟩
 have htl : tr.length = ys.length := by rw [← htr]; simp [traceM]
 have hpn : pn = ys.length := by
  have := h.r5.1
  simp at this
  omega
 subst hpn
 obtain ⟨d, hd⟩ : ∃ d, ys.length = d := ⟨_, rfl⟩
 have c5 := h.c5
 rw [hm, hd] at c5
 -- the k-th frame from the top: its cell in the row, its function, its line
 have HX : Hid (∀ k, k < d → ∃ pb g, PA = some ⟨pb, 0, none⟩ ∧ pb < w.heap.size ∧ w.cell? ⟨pb, d - 1 - k, none⟩ = some (ptrV g) ∧ ∃ a b, tr[k]? = some (a, b) ∧ (∀ W, Below w.heap.size w W → Calls Tryz.prog 21 #[ptrV g] W fun e w' => e = .returned (.int .i64 a) ∧ Below W.heap.size W w') ∧ ∀ W, Below w.heap.size w W → Calls Tryz.prog 19 #[ptrV g] W fun e w' => e = .returned (.int .i64 b) ∧ Below W.heap.size W w') := Hd fun k hk => by
  obtain ⟨y, hy⟩ : ∃ y, ys[k]? = some y := ⟨_, List.getElem?_eq_getElem (by omega)⟩
  obtain ⟨g, L, hg, hb⟩ := hat k y hy
  rcases (RowF.ofOwn h.r5).form with ⟨rfl, h0, _⟩ | ⟨pb, rfl, _, hpb⟩
  ·omega
  ·have hr : (gs.reverse.map ptrV)[d - 1 - k]? = some (ptrV g) := by
    rw [List.getElem?_map, List.getElem?_reverse (by omega), show gs.length - 1 - (d - 1 - k) = k by omega, hg]
    rfl
   obtain ⟨A, n, c, q1, q2⟩ := hb.e7
   have hlt : g < w.heap.size := World.block_lt_of_cell? _ _ hb.e11
   refine ⟨pb, g, rfl, hpb, (RowF.cells (RowF.ofOwn h.r5)).2.2.1 _ _ hr, (y.f : Int), lineZ (fnOf K.fs y.f).lines (y.pc : Int), by rw [← htr]; simp [traceM, hy], fun W hW => ffunc_any g _ W ((hW.cell (p := ⟨g, 11, none⟩) hlt).trans hb.e11), fun W hW => fline_any g A n c _ _ W ((hW.cell (p := ⟨g, 7, none⟩) hlt).trans q1) ((hW.cell (p := ⟨g, 12, none⟩) hlt).trans hb.e12) (SlI.on q2 (hE.b0.trans (hW.mono hE.b0.size)))⟩
 have HM : Hid (∀ W, Below w.heap.size w W → W.cell? ⟨m, 5, none⟩ = some (.slice PA d pc)) := Hd fun W hW => (hW.cell (p := ⟨m, 5, none⟩) (by rw [← hm]; exact h.lt)).trans c5
 have HTL : Hid (tr.length = d) := Hd (htl.trans hd)
 have hd1 : (d : Int) ≤ 90000 := by omega
 rw [htr, hm]
 clear h hE ht hgl hat hm htr htl hd hl
 go_in
 go_wp2_with fail
 go_loopw [3, 4, 5] (fun ov iv _ wr => ∃ (k : Nat) (A : Option Addr) (c : Nat), ov = .slice A k c ∧ iv = .int .i64 ((d : Int) - 1 - (k : Int)) ∧ k ≤ d ∧ Hid (wr.ownsRow w.heap.size 169 2 (.slice A k c) k (rowEn (tr.take k)) ∧ Below w.heap.size w wr)) (fun _ iv _ _ => (intOf iv + 1).toNat)
 case atStart => exact ⟨0, none, 0, rfl, by simp; try omega, Nat.zero_le _, Hd ⟨⟨rfl, .inl ⟨rfl, rfl⟩⟩, Below.refl _ _⟩⟩
 case round =>
  obtain ⟨k, A, c, rfl, rfl, hk, HK⟩ := hrel
  have hk0 : (0 : Int) ≤ (k : Int) := by omega
  have cm := HM.out wr HK.out.2
  by_cases hlt : k < d
  ·obtain ⟨q, hq⟩ : ∃ q : Nat, d - 1 - k = q := ⟨_, rfl⟩
   have hqi : (d : Int) - 1 - (k : Int) = (q : Int) := by omega
   rw [hqi]
   have HQK : Hid (q + 1 + k = d) := Hd (by omega)
   obtain ⟨pb, g, hA, hpb, hc, a, b, hab, cF, cL⟩ := HX.out k hlt
   subst hA
   rw [hq] at hc
   have hc2 := (HK.out.2.cell (p := ⟨pb, q, none⟩) hpb).trans hc
   have CF := Hd cF
   have CL := Hd cL
   have HAB := Hd hab
   have hq0 : (0 : Int) ≤ (q : Int) := by omega
   have hq1 : (q : Int) < (d : Int) := by omega
   have t1 : decide ((q : Int) ≥ 0) = true := dcT (by omega)
   have hZ : Hid (w.heap.size ≤ wr.heap.size) := Hd HK.out.2.size
   have HKB := Hd HK.out.2
   clear hc hpb cF cL hab hqi
   go_wp2_with fail
   refine (CF.out wr HKB.out).mono ?_
   rintro e w2 ⟨rfl, hb2⟩
   have HB2 : Hid (Below w.heap.size w w2) := Hd (HKB.out.trans (hb2.mono HKB.out.size))
   have HO2 := Hd (own_keep HK.out.1 hb2)
   have cL2 := Hd (CL.out w2 HB2.out)
   clear hb2 cm hc2
   go_wp2_with fail
   refine cL2.out.mono ?_
   rintro e w3 ⟨rfl, hb3⟩
   have HB3 : Hid (Below w.heap.size w w3) := Hd (HB2.out.trans (hb3.mono HB2.out.size))
   have HO3 := Hd (own_keep HO2.out hb3)
   have hZ3 : Hid (w.heap.size ≤ w3.heap.size) := Hd HB3.out.size
   have hsrc : Hid (SrcCells (w3.alloc (.cells #[.int .i64 a, .int .i64 b] 169)) (some ⟨w3.heap.size, 0, none⟩) 1 2 [.int .i64 a, .int .i64 b]) := Hd (own_src (World.ownsRow_lit (base := w3.heap.size) (e := 169) (size := 2) w3 #[.int .i64 a, .int .i64 b] 1 (Nat.le_refl _) (by unfold maxLen; omega) rfl))
   clear hb3 cL2
   go_wp2_with (first
     | (at_builtin; go_must (refine wpList_append_src _ rfl _ _ 114 rfl w.heap.size 169 i0 (.agg #[.int .i64 0, .int .i64 0]) 2 16 Tryz.underlying114 hi hz0 hz1 hz2 rfl (by decide) _ _ _ rfl (HO3.out.alloc _) (some ⟨w3.heap.size, 0, none⟩) 1 1 [.int .i64 a, .int .i64 b] rfl hsrc.out (one_en _ _) (by unfold maxLen; omega) (by omega) (by have := hZ3.out; simp; omega) ?_)
        intro v' w7 hown' hgrow3 hat3
        obtain ⟨A2, c2, rfl, _⟩ := own_form hown'
        have XR : Hid (w7.ownsRow w.heap.size 169 2 (.slice A2 (k + 1) c2) (k + 1) (rowEn (tr.take (k + 1)))) := Hd (by rw [← take_snoc' tr k _ HAB.out, rowEn, List.flatMap_append]; simpa [enC] using hown')
        have XB : Hid (Below w.heap.size w w7) := Hd (Below.grown (HB3.out.alloc hZ3.out _) hgrow3 (by have := hZ3.out; simp; omega) (fun j hj => (HO3.out.lt _ hj).1))
        clear hown' hgrow3 hat3)
     | fail)
   go_roundw
   case rel => exact ⟨k + 1, A2, c2, rfl, by have := HQK.out; simp; omega, by omega, Hd ⟨XR.out, XB.out⟩⟩
   case measure => first | (simp [intOf]; done) | (simp [intOf]; omega)
  ·obtain rfl : k = d := by omega
   have t1 : decide ((k : Int) - 1 - (k : Int) ≥ 0) = false := dcF (by omega)
   have t2 : (k : Int) - 1 - (k : Int) = -1 := by omega
   rw [t2]
   go_wp2_with fail
   go_ret
   exact ⟨A, k, c, rfl, HTL.out, by have := HK.out.1; rwa [List.take_of_length_le (by have := HTL.out; omega)] at this, HK.out.2⟩
end
end Go.Proofs.YtobmjnmcjddhcaaGreat
