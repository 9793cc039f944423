/-
  EventBegins: for every input the call returns true and leaves what was there as it was. No condition of its own.
-/
import Derived.Test.YtpladpmkpchndaaEv11
namespace Go.Proofs.Ytpladpmkpchndaa
open Go.ChangeShapes Go.WideShapes Go.ChangeAt Go.RowKit Go.Deep
open Go.ChangeMaps (open_string shut_string)
set_option linter.unusedVariables false
set_option linter.unusedSimpArgs false

set_option maxRecDepth 100000 in
theorem eventBegins_lifted (os : Os) (started : os.Started) (H : Type) (enc : TypeId × Value → H) :
    ReturnsInHanded {} Try.checked os 12 .any (Rows.eventBeginsSpec.pre6 enc Try.prog Try.f12 Rows.eventBeginsRow.domain false) (Rows.eventBeginsSpec.post enc Try.prog Try.f12 false true false false) := by
  refine lawFrame (C := Try.checked) (tb := 4) (by kernel_rfl) (by kernel_rfl) started (by kernel_rfl) Try.func12 rfl ?_ (by rw [show Try.f12.resultTypes = #[4] from by kernel_rfl]) Try.underlying4 ?_
    (ChangeSpec.witness6 (enc := enc) (C := Try.checked) false ⟨#[], #[.slice none 0 0, .slice none 0 0, .int .i64 0], []⟩ 12 (by kernel_rfl) (by kernel_rfl) (by kernel_rfl) (by kernel_rfl)) ?_
  · intro ds hl
    rw [Try.params12] at hl
    obtain ⟨d0, d1, d2, rfl⟩ := len3 hl
    rfl
  · have hall : (Try.f12.params.toList.all fun t => Try.checked.prog.readableRec t && decide (t < Try.checked.prog.types.size)) = true := by kernel_rfl
    intro t ht
    have := List.all_eq_true.1 hall t ht
    simpa using this
  intro W base args ds p hval0 hA0 hlt hsz0
  have hval : ∀ (j : Nat) t v, Try.f12.params[j]? = some t → args[j]? = some v → Value.okWide Try.prog W .any base t v := hval0
  have hA : DataW.TrodAll enc Try.prog W 0 (fun _ => true) true Try.f12.params.toList args.toList ds p := hA0
  have hsz : (DataW.weightsEach Try.prog Try.f12.params.toList ds).all (· ≤ reachBytes) = true := hsz0
  clear hA0 hval0 hsz0
  rw [Try.params12] at hA hval hsz
  obtain ⟨v0, vs0, d0, ds0, p0, q0, hargs, rfl, rfl, h0, r0⟩ := trodAll_cons hA
  obtain ⟨v1, vs1, d1, ds1, p1, q1, rfl, rfl, rfl, h1, r1⟩ := trodAll_cons r0
  obtain ⟨v2, vs2, d2, ds2, p2, q2, rfl, rfl, rfl, h2, r2⟩ := trodAll_cons r1
  obtain ⟨rfl, rfl, rfl⟩ := trodAll_nil r2
  obtain rfl : args = #[v0, v1, v2] := by cases args; simp_all
  obtain ⟨A0, n0, c0, rfl⟩ := okWide_slice Try.underlying94 (hval 0 94 v0 rfl rfl)
  obtain ⟨x0, A0', n0', c0', ea0, w0⟩ := open_arg (conv_sl (sz := 4) (bytes := 48) (R := REvent) Try.underlying94 (by kernel_rfl) (by kernel_rfl) (by omega) conv_Event) h0 (fun x hx => hlt x (by simp [hx])) (fun m hm => of_decide_eq_true (List.all_eq_true.1 hsz m (DataW.weights_mem_each (j := 0) (t := 94) rfl rfl m hm)))
  simp only [Value.cells, List.cons.injEq, and_true, Value.slice.injEq] at ea0
  obtain ⟨rfl, rfl, rfl⟩ := ea0
  obtain ⟨A1, n1, c1, rfl⟩ := okWide_slice Try.underlying94 (hval 1 94 v1 rfl rfl)
  obtain ⟨x1, A1', n1', c1', ea1, w1⟩ := open_arg (conv_sl (sz := 4) (bytes := 48) (R := REvent) Try.underlying94 (by kernel_rfl) (by kernel_rfl) (by omega) conv_Event) h1 (fun x hx => hlt x (by simp [hx])) (fun m hm => of_decide_eq_true (List.all_eq_true.1 hsz m (DataW.weights_mem_each (j := 1) (t := 94) rfl rfl m hm)))
  simp only [Value.cells, List.cons.injEq, and_true, Value.slice.injEq] at ea1
  obtain ⟨rfl, rfl, rfl⟩ := ea1
  obtain ⟨a2, rfl, rfl, rfl, w2⟩ := open_int Try.underlying3 (hval 2 3 v2 rfl rfl) h2
  exact eventBegins_law A0 n0 c0 x0 A1 n1 c1 x1 a2 W w0 w1 w2

/-- The statement. -/
theorem eventBegins_holds : Rows.EventBeginsSaid :=
  OpenClaim.holds_of_wide 12 Try.f12 rfl rfl rfl rfl rfl rfl rfl ⟨rfl, rfl, rfl, rfl, rfl⟩ rfl rfl rfl rfl rfl (by kernel_rfl) Try.func12 (by kernel_rfl)
    (of_decide_eq_true (by kernel_rfl)) (by unfold Func.isWrapper; rw [if_neg (of_decide_eq_false (by kernel_rfl))]; exact ⟨rfl, rfl⟩)
    (fun os started H enc _ => eventBegins_lifted os started H enc)
#print axioms eventBegins_holds
end Go.Proofs.Ytpladpmkpchndaa
