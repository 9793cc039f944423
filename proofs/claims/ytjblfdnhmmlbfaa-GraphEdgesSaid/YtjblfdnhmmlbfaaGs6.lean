/-
  Graphs of programs: the chapter's example.
-/
import Derived.Test.YtjblfdnhmmlbfaaGs5
import Derived.WalkMore
namespace Go.Proofs.Ytjblfdnhmmlbfaa
open Go.RowKit Go.Maps
set_option linter.unusedSimpArgs false
set_option linter.unusedVariables false
def fCells (nm : ByteArray) (cb cn lb ln : Nat) : List Value := [.string nm, .bool false, .slice none 0 0, .slice none 0 0, .slice none 0 0, .slice none 0 0, .slice (some ⟨cb, 0, none⟩) cn cn, .slice (some ⟨lb, 0, none⟩) ln ln, .slice none 0 0, .slice none 0 0, .slice none 0 0]
set_option maxRecDepth 100000 in
set_option maxHeartbeats 2000000 in
theorem plain_any (w : World) : Calls Try.prog 24 #[] w fun e w' => ∃ b cb lb, e = .returned (.agg #[.slice (some ⟨b, 0, none⟩) 1 1]) ∧ Cells w' b (fCells ⟨#[102]⟩ cb 1 lb 1) ∧ Cells w' cb [.int .i64 25, .int .i64 0] ∧ w.heap.size ≤ cb ∧ Below w.heap.size w w' := by
  go_enter Try.func24, Try.ntmps24
  go_wp2_with fail
  refine bodyPost_ret (v := .agg #[.slice (some ⟨w.heap.size + 1 + 1 + 1, 0, none⟩) 1 1]) (by simp [results, Try.results24, go_sem]) rfl ⟨_, w.heap.size + 1, w.heap.size + 1 + 1, rfl, ?_, ?_, by omega, ?_⟩
  · exact cells_new_at (by simp) (fCells _ _ _ _ _) _
  · exact ((cells_new_at (by simp) [.int .i64 25, .int .i64 0] _).on (bl_one _)).on (bl_one _)
  · exact (((((Below.refl _ _).alloc (Nat.le_refl _) _).alloc (by simp) _).alloc (by simp; omega) _).alloc (by simp; omega) _)
def fCellsZ : List Value := [.string ⟨#[]⟩, .bool false, .slice none 0 0, .slice none 0 0, .slice none 0 0, .slice none 0 0, .slice none 0 0, .slice none 0 0, .slice none 0 0, .slice none 0 0, .slice none 0 0]
def PROGT : List Value → Obj := fun l => .cells l.toArray 24
def TW (w2 : World) (b g : Nat) : World := ((((w2.alloc (.cells #[.slice (some ⟨b, 0, none⟩) 1 1] 24)).alloc (.cells (fCells ⟨#[103]⟩ (g + 1 + 1) 3 (g + 1 + 1 + 1) 3).toArray 42)).alloc (.cells #[.int .i64 23, .int .i64 1, .int .i64 23, .int .i64 1, .int .i64 25, .int .i64 0] 53)).alloc (.cells #[.int .i64 1, .int .i64 2, .int .i64 3] 3)).alloc (.cells (fCells ⟨#[103]⟩ (g + 1 + 1) 3 (g + 1 + 1 + 1) 3).toArray 42)
theorem tw_size (w2 : World) (b g : Nat) (hg : w2.heap.size = g) : (TW w2 b g).heap.size = g + 1 + 1 + 1 + 1 + 1 := by
  subst hg
  simp [TW]
theorem tw_p (w2 : World) (b g : Nat) (hg : w2.heap.size = g) : Cells (TW w2 b g) g [.slice (some ⟨b, 0, none⟩) 1 1] :=
  ((((cells_new_at hg [.slice (some ⟨b, 0, none⟩) 1 1] _).on (bl_one _)).on (bl_one _)).on (bl_one _)).on (bl_one _)
theorem tw_c (w2 : World) (b g : Nat) (hg : w2.heap.size = g) : Cells (TW w2 b g) (g + 1 + 1) [.int .i64 23, .int .i64 1, .int .i64 23, .int .i64 1, .int .i64 25, .int .i64 0] :=
  ((cells_new_at (by simp [hg]) [.int .i64 23, .int .i64 1, .int .i64 23, .int .i64 1, .int .i64 25, .int .i64 0] _).on (bl_one _)).on (bl_one _)
theorem tw_b (w2 : World) (b g : Nat) : Below w2.heap.size w2 (TW w2 b g) := by
  have h1 : Below w2.heap.size w2 (w2.alloc (.cells #[.slice (some ⟨b, 0, none⟩) 1 1] 24)) := bl_one _
  exact (((h1.alloc h1.size _).alloc (by simp; omega) _).alloc (by simp; omega) _).alloc (by simp; omega) _
theorem info_func : (Try.prog.info? 42).map (fun i => (i.zero, i.size, i.bytes)) = some (some (.agg (fCellsZ.toArray)), 11, 240) := by kernel_rfl
theorem one_fc (nm : ByteArray) (cb cn lb ln : Nat) : ∀ u ∈ fCells nm cb cn lb ln, u.oneCell' = true := by
  intro u hu
  simp [fCells] at hu
  rcases hu with rfl | rfl | rfl | rfl | rfl | rfl <;> rfl
theorem two_pg {W : World} {w5 : World} {base : Nat} {A' : Option Addr} {c' g cb lb : Nat} (hW : W = (w5.setCell ⟨g, 0, none⟩ (.slice A' 2 c')).setCell ⟨base, 0, none⟩ (.slice A' 2 c'))
    (hown : w5.ownsRow base 42 11 (.slice A' 2 c') 2 (fCells ⟨#[103]⟩ (g + 1 + 1) 3 (g + 1 + 1 + 1) 3 ++ fCells ⟨#[102]⟩ cb 1 lb 1)) (hne : ∀ r, A' = some ⟨r, 0, none⟩ → r ≠ g ∧ r ≠ base)
    (hc : Cells w5 (g + 1 + 1) [.int .i64 23, .int .i64 1, .int .i64 23, .int .i64 1, .int .i64 25, .int .i64 0]) (hcb : Cells w5 cb [.int .i64 25, .int .i64 0]) (hn : cb ≠ g ∧ cb ≠ base ∧ g + 1 + 1 ≠ base) :
    PgW W W.heap.size A' 2 c' [[⟨23, 1⟩, ⟨23, 1⟩, ⟨25, 0⟩], [⟨25, 0⟩]] := by
  subst hW
  have hk : Kp (fun k => k = g ∨ k = base) w5 ((w5.setCell ⟨g, 0, none⟩ (.slice A' 2 c')).setCell ⟨base, 0, none⟩ (.slice A' 2 c')) := ((Kp.refl _ _).setCell (p := ⟨g, 0, none⟩) (fun _ => .inl rfl) _).setCell (p := ⟨base, 0, none⟩) (fun _ => .inr rfl) _
  have hO := hk.own hown (fun k hk' hS => by
    rcases hA : A' with _ | ad
    · subst hA; simp [Value.ownBlock] at hk'
    · obtain ⟨A2, c2, hv, _, hf⟩ := own_form hown
      injection hv with hv1 hv2 hv3
      subst hv1
      obtain ⟨r, rfl, _, _⟩ := hf ad hA
      have := hne r hA
      rw [hA] at hk'
      simp [Value.ownBlock] at hk'
      omega)
  have hC := hc.kp hk (fun h => by rcases h with h | h <;> omega)
  have hCB := hcb.kp hk (fun h => by rcases h with h | h <;> omega)
  obtain ⟨A2, c2, hv, _, hf⟩ := own_form hO
  injection hv with hv1 hv2 hv3
  subst hv1
  subst hv3
  rcases hO.2 with ⟨h2, _⟩ | ⟨r, cap, cur, h2, h3, h4, h5, h6, h7, h8⟩
  · simp at h2
  · simp only [Value.slice.injEq, true_and] at h2
    obtain ⟨rfl, rfl⟩ := h2
    refine ⟨rfl, h5, h6, by unfold reachBytes; omega, fun _ => ⟨r, 0, rfl, (Array.getElem?_eq_some_iff.1 h4).1, fun i x hi => ?_⟩⟩
    have hcell := fun j u hj => hO.cells (g := r) rfl j u hj
    have h01 : i = 0 ∨ i = 1 := by
      have := (List.getElem?_eq_some_iff.1 hi).1
      simp at this
      omega
    rcases h01 with rfl | rfl
    · simp at hi
      subst hi
      refine ⟨fCells ⟨#[103]⟩ (g + 1 + 1) 3 (g + 1 + 1 + 1) 3, rfl, fun j u hj => ?_, ⟨#[103]⟩, false, _, _, _, _, _, _, _, _, _, _, _, _, _, _, _, _, _, _, _, _, _, _, _, _, _, _, _, rfl, ?_⟩
      · have := hcell j u (by rw [List.getElem?_append_left (by exact (List.getElem?_eq_some_iff.1 hj).1)]; exact hj)
        rw [add_zero_at] at this
        simpa using this
      · exact slr_of_cells (f := cellsI) (xs := [⟨23, 1⟩, ⟨23, 1⟩, ⟨25, 0⟩]) (fun _ => rfl) hC rfl hC.lt (by unfold maxLen; omega) (by unfold reachBytes; omega)
    · simp at hi
      subst hi
      refine ⟨fCells ⟨#[102]⟩ cb 1 lb 1, rfl, fun j u hj => ?_, ⟨#[102]⟩, false, _, _, _, _, _, _, _, _, _, _, _, _, _, _, _, _, _, _, _, _, _, _, _, _, _, _, _, rfl, ?_⟩
      · have := hcell (11 + j) u (by rw [List.getElem?_append_right (by show 11 ≤ 11 + j; omega)]; simpa [fCells] using hj)
        rw [add_zero_at] at this
        simpa [Nat.add_comm] using this
      · exact slr_of_cells (f := cellsI) (xs := [⟨25, 0⟩]) (fun _ => rfl) hCB rfl hCB.lt (by unfold maxLen; omega) (by unfold reachBytes; omega)
set_option maxRecDepth 100000 in
set_option maxHeartbeats 4000000 in
theorem two_any (w : World) : Calls Try.prog 15 #[] w fun e w' => ∃ A c, e = .returned (.agg #[.slice A 2 c]) ∧ PgW w' w'.heap.size A 2 c [[⟨23, 1⟩, ⟨23, 1⟩, ⟨25, 0⟩], [⟨25, 0⟩]] ∧ Below w.heap.size w w' := by
  obtain ⟨i0, hi, hz0, hz1, hz2⟩ := info_parts info_func
  have cP := fun w1 => Lib.hid (plain_any w1)
  go_enter Try.func15, Try.ntmps15
  go_wp2_with fail
  refine (cP _).out.mono ?_
  rintro e w2 ⟨b, cb, lb, rfl, hF, hC, hcbge, hb2⟩
  have HF := Lib.hid hF
  have HC := Lib.hid hC
  have HB := Lib.hid hb2
  obtain ⟨g2, hg2⟩ : ∃ X, w2.heap.size = X := ⟨_, rfl⟩
  have HG := Lib.hid hg2
  have e0 := hF.at_ 0 _ rfl
  have e1 := hF.at_ 1 _ rfl
  have e2 := hF.at_ 2 _ rfl
  have e3 := hF.at_ 3 _ rfl
  have e4 := hF.at_ 4 _ rfl
  have e5 := hF.at_ 5 _ rfl
  have e6 := hF.at_ 6 _ rfl
  have e7 := hF.at_ 7 _ rfl
  have e8 := hF.at_ 8 _ rfl
  have e9 := hF.at_ 9 _ rfl
  have e10 := hF.at_ 10 _ rfl
  have hbl : b < g2 := by have := hF.lt; omega
  have hbn : ¬ b = g2 := by omega
  have HBL := Lib.hid hbl
  have HCL : Hid (cb ≠ g2 ∧ cb ≠ w.heap.size ∧ g2 + 1 + 1 ≠ w.heap.size) := Lib.hid (by have h1 := hC.lt; have h2 := hb2.size; simp at h2 hcbge; omega)
  have hwg : w.heap.size + 1 ≤ g2 := by have := hb2.size; simp at this; omega
  clear hF hC hb2 cP hcbge
  go_wp2_with (first
    | (at_builtin; go_loud (refine wpList_append_src _ rfl _ _ 22 rfl w.heap.size 42 i0 (.agg (fCellsZ.toArray)) 11 240 Try.underlying22 hi hz0 hz1 hz2 rfl (by decide) _ _ _ rfl (own_at (W := _) (by simp [HG.out]) w.heap.size (by omega) (fCells ⟨#[103]⟩ (g2 + 1 + 1) 3 (g2 + 1 + 1 + 1) 3) _ 11 1 (by unfold maxLen; omega) rfl) (some ⟨b, 0, none⟩) 1 1 (fCells ⟨#[102]⟩ cb 1 lb 1) rfl (src_of_cells (HF.out.on (tw_b w2 b g2)) 1 11 rfl) (one_fc _ _ _ _ _) (by unfold maxLen; omega) (by omega) (by simp; omega) ?_)
       intro v' w5 hown' hgrow hat
       obtain ⟨A', c', rfl, _, hform⟩ := own_form hown'
       have hk : Kp (fun k => k = g2 + 1 + 1 + 1 + 1) (TW w2 b g2) w5 := (Kp.refl _ _).ofGrown hgrow (fun k hk _ => own_blk hk)
       have hne : Hid (∀ r, A' = some ⟨r, 0, none⟩ → r ≠ g2 ∧ r ≠ w.heap.size) := Lib.hid (fun r hr => by
         have h1 := tw_size w2 b g2 HG.out
         rw [hr] at hat
         have h2 : r = g2 + 1 + 1 + 1 + 1 ∨ r = (TW w2 b g2).heap.size := by
           rcases hat with e | e
           · exact .inl (own_blk e.symm)
           · exact .inr (Option.some.inj e)
         omega)
       have cp : Cells w5 g2 [.slice (some ⟨b, 0, none⟩) 1 1] := (tw_p w2 b g2 HG.out).kp hk (fun h => by omega)
       have cc : Hid (Cells w5 (g2 + 1 + 1) [.int .i64 23, .int .i64 1, .int .i64 23, .int .i64 1, .int .i64 25, .int .i64 0]) := Lib.hid ((tw_c w2 b g2 HG.out).kp hk (fun h => by omega))
       have cb2 : Hid (Cells w5 cb [.int .i64 25, .int .i64 0]) := Lib.hid ((HC.out.on (tw_b w2 b g2)).kp hk (fun h => by have := HC.out.lt; have := HG.out; omega))
       have cw : Cells w5 w.heap.size [.slice none 0 0] := (((Cells.new w [.slice none 0 0] 24).on HB.out).on (tw_b w2 b g2)).kp hk (fun h => by omega)
       have x0 := cp.at_ 0 _ rfl
       have f0 := cp.fz 0 (by simp)
       have x1 := cw.at_ 0 _ rfl
       have f1 := cw.fz 0 (by simp)
       have HO := Lib.hid hown'
       have HB5 : Hid (Below w.heap.size w w5) := Lib.hid ((((bl_one (w := w) (.cells #[.slice none 0 0] 24)).trans (HB.out.mono (by simp))).trans ((tw_b w2 b g2).mono (by omega))).trans ((hk.below (B := w.heap.size) (by have := tw_size w2 b g2 HG.out; omega) (fun k hk => by omega))))
       have HS5 : Hid (w.heap.size ≤ w5.heap.size) := Lib.hid HB5.out.size
       clear hown' hgrow hat hform hk cp cw)
    | fail)
  have hnw : ¬ g2 = w.heap.size := by omega
  have hnw2 : ¬ w.heap.size = g2 := by omega
  refine bodyPost_ret (v := .agg #[.slice A' 2 c']) (by simp [results, Try.results15, go_sem, x1]) rfl ⟨A', c', rfl, two_pg rfl HO.out hne.out cc.out cb2.out HCL.out, ?_⟩
  exact ((Kp.refl (fun k => k = g2 ∨ k = w.heap.size) w5).setCell (p := ⟨g2, 0, none⟩) (fun _ => .inl rfl) _ |>.setCell (p := ⟨w.heap.size, 0, none⟩) (fun _ => .inr rfl) _ |>.below HS5.out (fun k hk => by rcases hk with h | h <;> omega)) |> HB5.out.trans

end Go.Proofs.Ytjblfdnhmmlbfaa
