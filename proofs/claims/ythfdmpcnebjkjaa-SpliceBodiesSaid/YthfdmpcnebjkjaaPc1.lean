/-
  Pieces of bodies: a piece in its cells; one instruction more.
-/
import Derived.Test.YthfdmpcnebjkjaaLn2
namespace Go.Proofs.Ythfdmpcnebjkjaa
open Go.RowKit
set_option linter.unusedSimpArgs false
set_option linter.unusedVariables false
structure PcAt (base : Nat) (F : Nat → Prop) (pb k : Nat) (l0 : List DInstr) (l1 l2 : List Int) (v3 v4 : Value) (A0 : Option Addr) (c0 : Nat) (A1 : Option Addr) (c1 : Nat) (A2 : Option Addr) (c2 : Nat) (W : World) : Prop where
  hd : Cells W pb [.slice A0 k c0, .slice A1 k c1, .slice A2 k c2, v3, v4]
  ro : Rw base (fun j => F j ∨ j = pb) (.slice A0 k c0) (.slice A1 k c1) (.slice A2 k c2) k k k l0 l1 l2 W
  nf : ¬ F pb
def PcW (base : Nat) (F : Nat → Prop) (pb k : Nat) (l0 : List DInstr) (l1 l2 : List Int) (v3 v4 : Value) (W : World) : Prop := ∃ A0 c0 A1 c1 A2 c2, PcAt base F pb k l0 l1 l2 v3 v4 A0 c0 A1 c1 A2 c2 W
variable {base : Nat} {F : Nat → Prop} {pb k : Nat} {l0 : List DInstr} {l1 l2 : List Int} {v3 v4 : Value} {W W' : World}
theorem PcW.on (h : PcW base F pb k l0 l1 l2 v3 v4 W) (hb : Below W.heap.size W W') : PcW base F pb k l0 l1 l2 v3 v4 W' := by
  obtain ⟨A0, c0, A1, c1, A2, c2, h⟩ := h
  exact ⟨A0, c0, A1, c1, A2, c2, h.hd.on hb, h.ro.on hb, h.nf⟩
theorem PcW.widen (h : PcW base F pb k l0 l1 l2 v3 v4 W) (hb : Below W.heap.size W W') : PcW base (fun j => F j ∨ (W.heap.size ≤ j ∧ j < W'.heap.size)) pb k l0 l1 l2 v3 v4 W' := by
  obtain ⟨A0, c0, A1, c1, A2, c2, h⟩ := h
  exact ⟨A0, c0, A1, c1, A2, c2, h.hd.on hb, (h.ro.widen hb).less (fun j hj => by
    rcases hj with (hj | hj) | hj
    · exact .inl (.inl hj)
    · exact .inr hj
    · exact .inl (.inr hj)), fun hF => hF.elim h.nf fun hp => by have := h.hd.lt; omega⟩
theorem PcW.less (h : PcW base F pb k l0 l1 l2 v3 v4 W) {G : Nat → Prop} (hG : ∀ j, G j → F j) : PcW base G pb k l0 l1 l2 v3 v4 W := by
  obtain ⟨A0, c0, A1, c1, A2, c2, h⟩ := h
  exact ⟨A0, c0, A1, c1, A2, c2, h.hd, h.ro.less (fun j hj => hj.imp (hG j) id), fun hF => h.nf (hG _ hF)⟩
theorem Kp.less {S T : Nat → Prop} {a b : World} (h : Kp (fun j => ¬ S j) a b) (hT : ∀ j, T j → S j) : Kp (fun j => ¬ T j) a b := h.mono fun k _ hk hT' => hk (hT k hT')
def IsPc (base : Nat) (F : Nat → Prop) (pb k : Nat) (l0 : List DInstr) (l1 l2 : List Int) (v3 v4 : Value) (w : World) (e : Ending) (w' : World) : Prop :=
  (∃ v, e = .returned v) ∧ PcW base F pb k l0 l1 l2 v3 v4 w' ∧ Kp (fun j => ¬ F j) w w'
theorem line_pc (lb : Nat) (li nd xo xa : Int) (w : World) (h : PcW base F pb k l0 l1 l2 v3 v4 w) (p0 : w.cell? ⟨lb, 0, none⟩ = some (.int .i64 xo)) (p1 : w.cell? ⟨lb, 1, none⟩ = some (.int .i64 xa)) (hk : k ≤ 100000) :
    Calls Try.prog 40 #[.pointer (some ⟨pb, 0, none⟩), .int .i64 li, .int .i64 nd, .slice (some ⟨lb, 0, none⟩) 1 1] w (IsPc base F pb (k + 1) (l0 ++ [⟨xo, xa⟩]) (l1 ++ [li]) (l2 ++ [nd]) v3 v4 w) := by
  obtain ⟨A0, c0, A1, c1, A2, c2, h⟩ := h
  refine (line_any base F pb lb k A0 A1 A2 c0 c1 c2 l0 l1 l2 v3 v4 li nd xo xa w h.hd h.ro h.nf p0 p1 hk).mono ?_
  rintro e w' ⟨hv, B0, d0, B1, d1, B2, d2, hc, hr, hk⟩
  exact ⟨hv, ⟨B0, d0, B1, d1, B2, d2, hc, hr, h.nf⟩, hk⟩
/-- .. out of a source that has just been made. -/
theorem line_new (li nd xo xa : Int) (w : World) (h : PcW base F pb k l0 l1 l2 v3 v4 w) (hk : k ≤ 100000) :
    Calls Try.prog 40 #[.pointer (some ⟨pb, 0, none⟩), .int .i64 li, .int .i64 nd, .slice (some ⟨w.heap.size, 0, none⟩) 1 1] (w.alloc (.cells #[.int .i64 xo, .int .i64 xa] 49)) (IsPc base F pb (k + 1) (l0 ++ [⟨xo, xa⟩]) (l1 ++ [li]) (l2 ++ [nd]) v3 v4 w) := by
  have hc := Cells.new w [.int .i64 xo, .int .i64 xa] 49
  refine (line_pc w.heap.size li nd xo xa _ (h.on (bl_one _)) (hc.at_ 0 _ rfl) (hc.at_ 1 _ rfl) hk).mono ?_
  rintro e w' ⟨hv, hp, hk⟩
  exact ⟨hv, hp, ((Kp.refl _ w).ofBelow (bl_one _)).trans hk⟩
end Go.Proofs.Ythfdmpcnebjkjaa
