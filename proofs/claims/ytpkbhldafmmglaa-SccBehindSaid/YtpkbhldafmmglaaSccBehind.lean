/-
  SccBehind: for every input the call returns true and leaves what was there as it was. No condition of its own.
-/
import Derived.Test.YtpkbhldafmmglaaSc13
import Derived.Test.YtpkbhldafmmglaaFrame
namespace Go.Proofs.Ytpkbhldafmmglaa
open Go.ChangeShapes Go.WideShapes Go.ChangeAt Go.RowKit Go.Deep
open Go.ChangeMaps (open_string shut_string)
set_option linter.unusedVariables false
set_option linter.unusedSimpArgs false

set_option maxRecDepth 100000 in
theorem sccBehind_lifted (os : Os) (started : os.Started) (H : Type) (enc : TypeId × Value → H) :
    ReturnsInHanded {} Try.checked os 4 .any (Rows.sccBehindSpec.pre6 enc Try.prog Try.f4 Rows.sccBehindRow.domain false) (Rows.sccBehindSpec.post enc Try.prog Try.f4 false true false false) := by
  refine lawFrame (C := Try.checked) (tb := 4) (by kernel_rfl) (by kernel_rfl) started (by kernel_rfl) Try.func4 rfl ?_ (by rw [show Try.f4.resultTypes = #[4] from by kernel_rfl]) Try.underlying4 ?_
    (ChangeSpec.witness6 (enc := enc) (C := Try.checked) false ⟨#[], #[.slice none 0 0], []⟩ 12 (by kernel_rfl) (by kernel_rfl) (by kernel_rfl) (by kernel_rfl)) ?_
  · intro ds hl
    rw [Try.params4] at hl
    obtain ⟨d0, rfl⟩ := len1 hl
    rfl
  · have hall : (Try.f4.params.toList.all fun t => Try.checked.prog.readableRec t && decide (t < Try.checked.prog.types.size)) = true := by kernel_rfl
    intro t ht
    have := List.all_eq_true.1 hall t ht
    simpa using this
  intro W base args ds p hval0 hA0 hlt hsz0
  have hval : ∀ (j : Nat) t v, Try.f4.params[j]? = some t → args[j]? = some v → Value.okWide Try.prog W .any base t v := hval0
  have hA : DataW.TrodAll enc Try.prog W 0 (fun _ => true) true Try.f4.params.toList args.toList ds p := hA0
  have hsz : (DataW.weightsEach Try.prog Try.f4.params.toList ds).all (· ≤ reachBytes) = true := hsz0
  clear hA0 hval0 hsz0
  rw [Try.params4] at hA hval hsz
  obtain ⟨v0, vs0, d0, ds0, p0, q0, hargs, rfl, rfl, h0, r0⟩ := trodAll_cons hA
  obtain ⟨rfl, rfl, rfl⟩ := trodAll_nil r0
  obtain rfl : args = #[v0] := by cases args; simp_all
  obtain ⟨A0, n0, c0, rfl⟩ := okWide_slice Try.underlying22 (hval 0 22 v0 rfl rfl)
  obtain ⟨x0, A0', n0', c0', ea0, w0⟩ := open_arg (conv_sl (sz := 1) (bytes := 24) (R := RSl 1 8 (RInt .i64)) Try.underlying22 (by kernel_rfl) (by kernel_rfl) (by omega) (conv_sl (sz := 1) (bytes := 8) (R := RInt .i64) Try.underlying26 (by kernel_rfl) (by kernel_rfl) (by omega) (conv_int Try.underlying3))) h0 (fun x hx => hlt x (by simp [hx])) (fun m hm => of_decide_eq_true (List.all_eq_true.1 hsz m (DataW.weights_mem_each (j := 0) (t := 22) rfl rfl m hm)))
  simp only [Value.cells, List.cons.injEq, and_true, Value.slice.injEq] at ea0
  obtain ⟨rfl, rfl, rfl⟩ := ea0
  exact sccBehind_walk A0 n0 c0 x0 W w0

/-- The statement. -/
theorem sccBehind_holds : Rows.SccBehindSaid :=
  OpenClaim.holds_of_wide 4 Try.f4 rfl rfl rfl rfl rfl rfl rfl ⟨rfl, rfl, rfl, rfl, rfl⟩ rfl rfl rfl rfl rfl (by kernel_rfl) Try.func4 (by kernel_rfl)
    (of_decide_eq_true (by kernel_rfl)) (by unfold Func.isWrapper; rw [if_neg (of_decide_eq_false (by kernel_rfl))]; exact ⟨rfl, rfl⟩)
    (fun os started H enc _ => sccBehind_lifted os started H enc)
#print axioms sccBehind_holds
end Go.Proofs.Ytpkbhldafmmglaa
