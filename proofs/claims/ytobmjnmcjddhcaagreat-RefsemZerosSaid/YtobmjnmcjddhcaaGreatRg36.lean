import Derived.Test.YtobmjnmcjddhcaaGreatRg2
import Derived.Test.YtobmjnmcjddhcaaGreatRg35
import Derived.Defers
import Derived.Recover
set_option linter.unusedSimpArgs false
set_option linter.unusedVariables false
set_option maxRecDepth 100000
set_option maxHeartbeats 4000000
namespace Go.Proofs.YtobmjnmcjddhcaaGreat
open Go.RowKit
variable {T : Tag → Prop} {K : RK} {τ τ' τ3 τ4 : Nat → Tag} {w w' w3 w4 : World} {gs : List Nat} {g : Nat} {fr fp : Option Addr} {cb L : Nat} {s s' s3 t : Ms} {x x' x3 : Fr} {ys ys' ys3 : List Fr} {ch : List Bl}
theorem info_frp : (Tryz.prog.info? 47).map (fun i => (i.zero, i.size, i.bytes)) = some (some (.pointer none), 1, 8) := by kernel_rfl
theorem vm_push {PA : Option Addr} {pn pc : Nat} {EA : Option Addr} {en ec : Nat} {evs : List EvV} (h : VMr K τ w gs s PA pn pc EA en ec evs) (hz : ∀ j, w.heap.size ≤ j → τ j = (0, 0)) {A' : Option Addr} {c' : Nat} (hp : Pushed 5 (K.m + 1) 47 1 K.m PA pn (gs.reverse.map ptrV ++ [ptrV g]) A' c' w w') (ho : w'.ownsRow (K.m + 1) 47 1 (.slice A' (pn + 1) c') (pn + 1) (gs.reverse.map ptrV ++ [ptrV g])) : ∃ τ', VM K τ' w' (g :: gs) s ∧ Tr TV τ w τ' w' := by
 have hrow := hp.row
 obtain ⟨τ', t1, t2, t3, t4⟩ := tag_row (τ := τ) (t := (0, 2)) hp.nw h.t5 hz (fun j e => (row_ge hrow e).2) hp.kp.size
 have hS : ∀ j, (j = K.m ∨ PA = some ⟨j, 0, none⟩) → τ j = (0, 1) ∨ τ j = (0, 2) := fun j hj => hj.elim (fun e => by rw [e]; exact .inl h.tm) fun e => .inr (h.t5 j e)
 have n6 : ∀ j, EA = some ⟨j, 0, none⟩ → ¬ (j = K.m ∨ PA = some ⟨j, 0, none⟩) := fun j e hj => by
  have := hS j hj
  rw [h.t6 j e] at this
  simp at this
 have him : ∀ {A : Option Addr} {n : Nat} {l : List (Int × Int)}, Im τ w A n 2 (rowEn l) → Im τ' w' A n 2 (rowEn l) := fun hi => hi.re t1 hp.kp fun j _ hj e0 => by
  rcases hS j hj with e' | e' <;> exact absurd (e0.symm.trans e') (by decide)
 have hc := hp.co
 refine ⟨τ', ⟨A', pn + 1, c', EA, en, ec, evs, (hc 0 (by decide)).trans h.c0, (hc 1 (by decide)).trans h.c1, (hc 2 (by decide)).trans h.c2, (hc 3 (by decide)).trans h.c3, (hc 4 (by decide)).trans h.c4, hp.ci, (hc 6 (by decide)).trans h.c6, (hc 7 (by decide)).trans h.c7, (hc 8 (by decide)).trans h.c8, (hc 9 (by decide)).trans h.c9, (hc 10 (by decide)).trans h.c10, fun i => (hp.fz i).trans (h.fz i), by rw [List.reverse_cons, List.map_append]; exact ho, RowF.kp h.r6 hp.kp n6, (t1 _ h.lt).trans h.tm, t2, fun j e => (t1 j (row_ge h.r6 e).2).trans (h.t6 j e), fun q hq => him (h.tr q hq), h.ab⟩, ⟨hp.kp.mono fun j _ hj => ?_, t1, t3⟩⟩
 rcases hS j hj with e' | e' <;> (show TV (τ j); rw [e']; exact ⟨rfl, by decide⟩)
theorem vm_pop {PA : Option Addr} {pn pc : Nat} {EA : Option Addr} {en ec : Nat} {evs : List EvV} (h : VMr K τ w (g :: gs) s PA (pn + 1) pc EA en ec evs) (hz : ∀ j, w.heap.size ≤ j → τ j = (0, 0)) : VM K τ (w.setCell ⟨K.m, 5, none⟩ (.slice PA pn pc)) gs s ∧ Tr TV τ w τ (w.setCell ⟨K.m, 5, none⟩ (.slice PA pn pc)) := by
 have hk : Kp (fun j => j = K.m) w (w.setCell ⟨K.m, 5, none⟩ (.slice PA pn pc)) := (Kp.refl (fun j => j = K.m) w).setCell (p := ⟨K.m, 5, none⟩) (fun _ => rfl) _
 have hc : ∀ q, q ≠ 5 → (w.setCell ⟨K.m, 5, none⟩ (.slice PA pn pc)).cell? ⟨K.m, q, none⟩ = w.cell? ⟨K.m, q, none⟩ := fun q hq => World.cell?_setCell_other _ _ _ _ (by simp; try omega)
 have hsz : (w.setCell ⟨K.m, 5, none⟩ (.slice PA pn pc)).heap.size = w.heap.size := by simp [World.setCell]
 have n5 : ∀ j, PA = some ⟨j, 0, none⟩ → ¬ j = K.m := fun j e e' => by have := (row_ge (RowF.ofOwn h.r5) e).1; omega
 have n6 : ∀ j, EA = some ⟨j, 0, none⟩ → ¬ j = K.m := fun j e e' => by have := (row_ge h.r6 e).1; omega
 have him : ∀ e ∈ evs, Im τ (w.setCell ⟨K.m, 5, none⟩ (.slice PA pn pc)) e.A e.l 2 (rowEn e.tr) := fun e he => (h.tr e he).re (fun _ _ => rfl) hk fun j _ e e' => absurd ((by rw [← e]; exact e' : τ K.m = (0, 0)).symm.trans h.tm) (by decide)
 have hr5 := own_kpF h.r5 hk n5
 have hr : (w.setCell ⟨K.m, 5, none⟩ (.slice PA pn pc)).ownsRow (K.m + 1) 47 1 (.slice PA pn pc) pn (gs.reverse.map ptrV) := by
  obtain ⟨h1, h2⟩ := hr5
  have hl : gs.length = pn := by simpa using h1
  refine ⟨by simp [hl], ?_⟩
  rcases h2 with ⟨e, h0⟩ | ⟨r, cap, cur, e, a1, a2, a3, a4, a5, a6⟩
  ·omega
  ·simp only [Value.slice.injEq, true_and] at e
   obtain ⟨rfl, rfl⟩ := e
   refine .inr ⟨r, pc, cur, rfl, a1, a2, by omega, a4, a5, ?_⟩
   have h9 := congrArg (List.take pn) a6
   rw [List.take_take, Nat.min_eq_left (by omega), List.reverse_cons, List.map_append, List.take_append_of_le_length (by simp [hl])] at h9
   rw [Nat.mul_one]
   exact h9.trans (List.take_of_length_le (by simp [hl]))
 refine ⟨⟨PA, pn, pc, EA, en, ec, evs, (hc 0 (by decide)).trans h.c0, (hc 1 (by decide)).trans h.c1, (hc 2 (by decide)).trans h.c2, (hc 3 (by decide)).trans h.c3, (hc 4 (by decide)).trans h.c4, by simp [go_sem, h.c5], (hc 6 (by decide)).trans h.c6, (hc 7 (by decide)).trans h.c7, (hc 8 (by decide)).trans h.c8, (hc 9 (by decide)).trans h.c9, (hc 10 (by decide)).trans h.c10, fun i => (World.frozen?_setCell _ _ _ _).trans (h.fz i), hr, RowF.kp h.r6 hk n6, h.tm, h.t5, h.t6, him, h.ab⟩, ⟨hk.mono fun j _ e => by show TV (τ j); rw [e, h.tm]; exact ⟨rfl, by simp⟩, fun _ _ => rfl, fun j hj => hz j (by omega)⟩⟩
theorem CI.xi {d b : Bool} (h : CI K τ w gs fr fp cb s ys d b) (k : Tr TV τ w τ' w') (hv : VM K τ' w' (g :: gs) s) (hf : FZ K τ' (ys.length + 1) w' g fr x) (hd : x.dfd = d) (hb : x.by_ = b) : XI K τ' w' gs g fr fp cb { s with fr := x :: ys } x ys := by
 have n0 := TV.no
 have n1 : ∀ l j, 1 ≤ l → ¬ TV (l, j) := fun l j hl e => by have := e.1; simp at this; omega
 subst hd
 subst hb
 refine ⟨h.env.tr k n0, hv.same rfl rfl rfl, h.tb.tr k fun l h1 _ => n1 l 0 h1, hf, ?_, h.nf, h.dn, h.bd, fun hb => ?_, rfl⟩
 ·rcases h.pr with e | ⟨y, r, gp, gs', e1, e2, e3, e4⟩
  ·exact .inl e
  ·exact .inr ⟨y, r, gp, gs', e1, e2, e3.tr k (fun j _ => n1 _ j (by rw [e1]; simp)) n0, e4⟩
 ·exact (h.ct hb).tr k (n1 _ 4 (List.length_pos_iff.2 (h.dn (h.bd hb)))) n0
theorem XI.popd (h : XI K τ w gs g fr fp cb s x ys) (k : Tr TV τ w τ' w') (hv : VM K τ' w' gs s) : CI K τ' w' gs fr fp cb s ys x.dfd x.by_ := by
 have n0 := TV.no
 have n1 : ∀ l j, 1 ≤ l → ¬ TV (l, j) := fun l j hl e => by have := e.1; simp at this; omega
 refine ⟨h.env.tr k n0, hv, h.tb.tr k fun l h1 _ => n1 l 0 h1, ?_, h.nf, h.dn, h.bd, fun hb => ?_⟩
 ·rcases h.pr with e | ⟨y, r, gp, gs', e1, e2, e3, e4⟩
  ·exact .inl e
  ·exact .inr ⟨y, r, gp, gs', e1, e2, e3.tr k (fun j _ => n1 _ j (by rw [e1]; simp)) n0, e4⟩
 ·exact (h.ct hb).tr k (n1 _ 4 (List.length_pos_iff.2 (h.dn (h.bd hb)))) n0
theorem pop_any (b5 : Nat) (h : VM K τ w (g :: gs) s) (hz : ∀ j, w.heap.size ≤ j → τ j = (0, 0)) (hb : w.cell? ⟨b5, 0, none⟩ = some (ptrV K.m)) (hbt : τ b5 = (0, 0)) (hl : gs.length ≤ 100000) (u : FrameMode) :
  CallsD Tryz.prog 99 #[.pointer (some ⟨b5, 0, none⟩)] u w fun e u' w' => u' = u ∧ ((∃ v, e = .returned v) ∧ VM K τ w' gs s ∧ Tr TV τ w τ w') := by
 obtain ⟨PA, pn, pc, EA, en, ec, evs, hv⟩ := h
 obtain ⟨q, rfl⟩ : ∃ q, pn = q + 1 := ⟨gs.length, by have := hv.r5.1; simp at this; omega⟩
 have hq : q ≤ 100000 := by have := hv.r5.1; simp at this; omega
 obtain ⟨m, hkm⟩ : ∃ m, K.m = m := ⟨_, rfl⟩
 have hqc : q + 1 ≤ pc := (RowF.ofOwn hv.r5).2.1
 have hc5 := hv.c5
 have hf5 := hv.fz 5
 obtain ⟨pb, rfl⟩ : ∃ pb, PA = some ⟨pb, 0, none⟩ := by
  rcases (RowF.ofOwn hv.r5).form with ⟨_, h0, _⟩ | ⟨r, e, _⟩
  ·omega
  ·exact ⟨r, e⟩
 have HF : Hid (∀ k, VM K τ ((w.drewN k).setCell ⟨m, 5, none⟩ (.slice (some ⟨pb, 0, none⟩) q pc)) gs s ∧ Tr TV τ w τ ((w.drewN k).setCell ⟨m, 5, none⟩ (.slice (some ⟨pb, 0, none⟩) q pc))) := Hd fun k => by
  have hbl : Below w.heap.size w (w.drewN k) := below_drewN' (Below.refl _ _) k
  have h1 := vm_pop (hv.tr' (T := fun _ => False) (Tr.below hz hbl) (fun _ => id)) (fun j hj => hz j hj)
  rw [hkm] at h1
  exact ⟨h1.1, (Tr.below hz hbl).trans h1.2⟩
 have hbm : ¬ b5 = m := fun e => by rw [e, ← hkm, hv.tm] at hbt; simp at hbt
 rw [hkm] at hc5 hf5 hb
 have hq1 : (q : Int) ≤ 100000 := by omega
 have hqi : ((q + 1 : Nat) : Int) - 1 = (q : Int) := by omega
 have tw : IntKind.i64.wrap (((q + 1 : Nat) : Int) - 1) = (q : Int) := by rw [hqi, IntKind.wrap_i64]; omega
 have tw2 : IntKind.i64.wrap (q : Int) = (q : Int) := by rw [IntKind.wrap_i64]; omega
 have hq0 : (0 : Int) ≤ (q : Int) := by omega
 have hqpc : (q : Int) ≤ (pc : Int) := by omega
 have hqpc2 : q ≤ pc := by omega
 clear hv hz hl
 go_enter_d Tryz.func99, Tryz.ntmps99
 go_wp2_with fail
 refine wp_region_held (S := fun W => W.cell? ⟨b5, 0, none⟩ = some (ptrV m)) (by kernel_rfl) ?_
 change wpAnyH _ _ _ _ _ _ _ _ (World.drew _)
 have hS0 : w.drew.cell? ⟨b5, 0, none⟩ = some (ptrV m) := hb
 have hS1 : ((w.setCell ⟨m, 5, none⟩ (.slice (some ⟨pb, 0, none⟩) q pc)).drew).cell? ⟨b5, 0, none⟩ = some (ptrV m) := by
  show (w.setCell ⟨m, 5, none⟩ (.slice (some ⟨pb, 0, none⟩) q pc)).cell? ⟨b5, 0, none⟩ = some (ptrV m)
  rw [World.cell?_setCell_other _ _ _ _ (by first | (simp; done) | (simp; exact hbm))]
  exact hb
 refine tkH 0 rfl (by intro W hW; have hW : W.cell? _ = _ := hW; go_simp; first | done | exact rfl) hS0 ?_
 try go_simp
 refine tkH 1 rfl (by intro W hW; have hW : W.cell? _ = _ := hW; go_simp; first | done | exact rfl) hS0 ?_
 try go_simp
 refine tkH 2 rfl (by intro W hW; go_simp; first | done | exact rfl) hS0 ?_
 try go_simp
 refine tkH 3 rfl (by intro W hW; go_simp; first | done | exact rfl) hS0 ?_
 try go_simp
 refine tkH 5 rfl (by intro W hW; have hW : W.cell? _ = _ := hW; go_simp; first | done | exact rfl) hS0 ?_
 try go_simp
 refine tkH 6 rfl (by intro W hW; go_simp; first | done | exact rfl) hS0 ?_
 try go_simp
 refine tkH 7 rfl (by intro W hW; go_simp; first | done | exact rfl) hS0 ?_
 try go_simp
 refine wpAnyH_two (i := 4) (j := 8) (by kernel_rfl) rfl rfl (fun K' hK => ?_) (fun K' hK => ?_)
 ·go_simp
  refine hK _ _ ⟨hS0, ?_⟩; clear hK K'
  try go_simp
  refine wpAnyH_one (i := 8) (by kernel_rfl) rfl (fun K' hK => ?_)
  go_simp
  refine hK _ _ ⟨hS0, ?_⟩; clear hK K'
  try go_simp
  refine tkH 9 rfl (by intro W hW; go_simp; first | done | exact rfl) hS0 ?_
  try go_simp
  refine tkH 10 rfl (by intro W hW; go_simp; first | done | exact rfl) hS0 ?_
  try go_simp
  refine tkH 11 rfl (by intro W hW; go_simp; first | done | exact rfl) hS0 ?_
  try go_simp
  refine tkH 12 rfl (by intro W hW; go_simp; first | done | exact rfl) hS0 ?_
  try go_simp
  refine tkH 13 rfl (by intro W hW; go_simp; first | done | exact rfl) hS0 ?_
  try go_simp
  refine wpAnyH_one (i := 14) (by kernel_rfl) rfl (fun K' hK => ?_)
  go_simp
  refine hK _ _ ⟨hS1, ?_⟩; clear hK K'
  try go_simp
  refine wpAnyH_done (by kernel_rfl) ?_ _
  go_wp2_with fail
  go_end0
  exact ⟨⟨_, rfl⟩, HF.out 1⟩
 ·go_simp
  refine hK _ _ ⟨hS0, ?_⟩; clear hK K'
  try go_simp
  refine tkH 9 rfl (by intro W hW; go_simp; first | done | exact rfl) hS0 ?_
  try go_simp
  refine tkH 10 rfl (by intro W hW; go_simp; first | done | exact rfl) hS0 ?_
  try go_simp
  refine wpAnyH_one (i := 4) (by kernel_rfl) rfl (fun K' hK => ?_)
  go_simp
  refine hK _ _ ⟨hS0, ?_⟩; clear hK K'
  try go_simp
  refine tkH 11 rfl (by intro W hW; go_simp; first | done | exact rfl) hS0 ?_
  try go_simp
  refine tkH 12 rfl (by intro W hW; go_simp; first | done | exact rfl) hS0 ?_
  try go_simp
  refine tkH 13 rfl (by intro W hW; go_simp; first | done | exact rfl) hS0 ?_
  try go_simp
  refine wpAnyH_one (i := 14) (by kernel_rfl) rfl (fun K' hK => ?_)
  go_simp
  refine hK _ _ ⟨hS1, ?_⟩; clear hK K'
  try go_simp
  refine wpAnyH_done (by kernel_rfl) ?_ _
  go_wp2_with fail
  go_end0
  exact ⟨⟨_, rfl⟩, HF.out 1⟩
end Go.Proofs.YtobmjnmcjddhcaaGreat
