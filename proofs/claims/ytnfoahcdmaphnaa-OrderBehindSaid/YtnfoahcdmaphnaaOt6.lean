/-
  Order: with no circle each function stands in it once; the chapter's example.
-/
import Derived.Test.YtnfoahcdmaphnaaOt5
import Derived.Test.YtnfoahcdmaphnaaOs8
namespace Go.Proofs.Ytnfoahcdmaphnaa
open Go.RowKit
set_option linter.unusedSimpArgs false
set_option linter.unusedVariables false
theorem lst_self {g : Gr} {l : Nat → Nat} (hl : LstF g l) (hn : ∀ i, i < g.length → ¬ Rp g i i) {a : Nat} (ha : a < g.length) : l a = a := by
  obtain ⟨⟨h1, h2⟩, _⟩ := hl a ha
  generalize hk : l a = k at h1 h2 ⊢
  cases h1 with
  | refl => rfl
  | step hE hr => exact absurd ⟨_, hE, hr.trans h2⟩ (hn a ha)
theorem order_len {g : Gr} {l : Nat → Nat} (hl : LstF g l) (hn : ∀ i, i < g.length → ¬ Rp g i i) {d : Nat → Bool} {o : List Nat} (hp : Picks g l d o) (hc : ∀ x, ¬ Cand g l d x) : o.length = g.length := by
  have h1 := hp.nodup
  have hperm : o.Perm (List.range g.length) := (List.perm_ext_iff_of_nodup h1.1 List.nodup_range).2 fun a => ⟨fun h => List.mem_range.2 (h1.2 a h).1, fun h => hp.all hl hc a (List.mem_range.1 h) (lst_self hl hn (List.mem_range.1 h))⟩
  rw [hperm.length_eq, List.length_range]
def fCells (nm : ByteArray) (cb cn lb ln : Nat) : List Value := [.string nm, .bool false, .slice none 0 0, .slice none 0 0, .slice none 0 0, .slice none 0 0, .slice (some ⟨cb, 0, none⟩) cn cn, .slice (some ⟨lb, 0, none⟩) ln ln, .slice none 0 0, .slice none 0 0, .slice none 0 0]
set_option maxRecDepth 100000 in
set_option maxHeartbeats 2000000 in
theorem plain_any (w : World) : Calls Try.prog 13 #[] w fun e w' => ∃ b cb lb, e = .returned (.agg #[.slice (some ⟨b, 0, none⟩) 1 1]) ∧ Cells w' b (fCells ⟨#[102]⟩ cb 1 lb 1) ∧ Cells w' cb [.int .i64 25, .int .i64 0] ∧ w.heap.size ≤ cb ∧ Below w.heap.size w w' := by
  go_enter Try.func13, Try.ntmps13
  go_wp2_with fail
  refine bodyPost_ret (v := .agg #[.slice (some ⟨w.heap.size + 1 + 1 + 1, 0, none⟩) 1 1]) (by simp [results, Try.results13, go_sem]) rfl ⟨_, w.heap.size + 1, w.heap.size + 1 + 1, rfl, ?_, ?_, by omega, ?_⟩
  · exact cells_new_at (by simp) (fCells _ _ _ _ _) _
  · exact ((cells_new_at (by simp) [.int .i64 25, .int .i64 0] _).on (bl_one _)).on (bl_one _)
  · exact (((((Below.refl _ _).alloc (Nat.le_refl _) _).alloc (by simp) _).alloc (by simp; omega) _).alloc (by simp; omega) _)
theorem plain_pg {W : World} {b cb lb : Nat} (hF : Cells W b (fCells ⟨#[102]⟩ cb 1 lb 1)) (hC : Cells W cb [.int .i64 25, .int .i64 0]) : PgW W W.heap.size (some ⟨b, 0, none⟩) 1 1 [[⟨25, 0⟩]] := by
  refine ⟨rfl, Nat.le_refl _, by unfold maxLen; omega, by unfold reachBytes; omega, fun _ => ⟨b, 0, rfl, hF.lt, fun i x hi => ?_⟩⟩
  have h0 : i = 0 := by
    have := (List.getElem?_eq_some_iff.1 hi).1
    simp at this
    omega
  subst h0
  simp at hi
  subst hi
  refine ⟨fCells ⟨#[102]⟩ cb 1 lb 1, rfl, fun j u hj => ?_, ⟨#[102]⟩, false, _, _, _, _, _, _, _, _, _, _, _, _, _, _, _, _, _, _, _, _, _, _, _, _, _, _, _, rfl, ?_⟩
  · simpa using hF.at_ j u hj
  · exact slr_of_cells (f := cellsI) (xs := [⟨25, 0⟩]) (fun _ => rfl) hC rfl hC.lt (by unfold maxLen; omega) (by unfold reachBytes; omega)
theorem nil_sites (W : World) : SlS W W.heap.size none 0 0 [] := ⟨rfl, Nat.le_refl _, by unfold maxLen; omega, by simp, fun h => by omega⟩
theorem plain_free (i : Nat) : ¬ Rp (takesU [[⟨25, 0⟩]] [] 1) i i := by
  rintro ⟨m, ⟨_, hE⟩, _⟩
  by_cases hi : i < 1
  · rw [takesU_row _ _ hi, rowU_mem] at hE
    obtain ⟨s, hs, _⟩ := hE
    cases hs
  · have : rowG (takesU [[⟨25, 0⟩]] [] 1) i = [] := by
      unfold rowG takesU
      simp [List.getElem?_eq_none, hi]
    rw [this] at hE
    cases hE
set_option maxRecDepth 100000 in
set_option maxHeartbeats 2000000 in
theorem order_lives (w : World) : Calls Try.prog 6 #[] w fun e w' => e = .returned (.bool true) ∧ Below w.heap.size w w' := by
  have cP := Lib.hid (plain_any w)
  go_enter Try.func6, Try.ntmps6
  go_wp2_with fail
  refine cP.out.mono ?_
  rintro e w1 ⟨b, cb, lb, rfl, hF, hC, _, hb1⟩
  have cO := Lib.hid (of_any (some ⟨b, 0, none⟩) 1 1 [[⟨25, 0⟩]] none 0 0 [] w1 (plain_pg hF hC) (nil_sites w1) (by omega) (by omega))
  have HB1 := Lib.hid hb1
  clear hb1 cP hF hC
  go_wp2_with fail
  refine cO.out.mono ?_
  rintro e w2 he
  obtain ⟨A, m, c, o, lf, d, rfl, ho, hl, hp, hn, hb2⟩ : ∃ (A : Option Addr) (m c : Nat) (o : List Nat) (lf : Nat → Nat) (d : Nat → Bool), e = .returned (.tuple #[.slice A m c, .int .i64 0]) ∧ w2.ownsRow w1.heap.size 3 1 (.slice A m c) m (rowN o) ∧ LstF (takesU [[⟨25, 0⟩]] [] 1) lf ∧ Picks (takesU [[⟨25, 0⟩]] [] 1) lf d o ∧ (∀ x, ¬ Cand (takesU [[⟨25, 0⟩]] [] 1) lf d x) ∧ Below w1.heap.size w1 w2 := by
    rcases he with ⟨⟨i, _, hi⟩, _⟩ | ⟨_, h⟩
    · exact absurd hi (plain_free i)
    · exact h
  obtain rfl : m = 1 := by
    have h1 := order_len hl (fun i _ => plain_free i) hp hn
    rw [takesU_len] at h1
    have h2 := ho.1
    unfold rowN at h2
    rw [List.length_map] at h2
    omega
  have HB2 : Hid (Below w.heap.size w w2) := Lib.hid (HB1.out.trans (hb2.mono HB1.out.size))
  clear hb2 cO ho hl hp hn
  have cS := Lib.hid (sorted_two w2 ⟨0, 1⟩ ⟨1, 0⟩ true (by decide))
  go_wp2_with fail
  refine cS.out.mono ?_
  rintro e w3 ⟨rfl, hb3⟩
  have HB3 : Hid (Below w.heap.size w w3) := Lib.hid (HB2.out.trans (hb3.mono HB2.out.size))
  clear hb3 cS
  have cS := Lib.hid (sorted_two w3 ⟨0, 1⟩ ⟨0, 1⟩ false (by decide))
  go_wp2_with fail
  refine cS.out.mono ?_
  rintro e w4 ⟨rfl, hb4⟩
  go_wp2_with fail
  go_ret
  exact ⟨rfl, HB3.out.trans (hb4.mono HB3.out.size)⟩
end Go.Proofs.Ytnfoahcdmaphnaa
