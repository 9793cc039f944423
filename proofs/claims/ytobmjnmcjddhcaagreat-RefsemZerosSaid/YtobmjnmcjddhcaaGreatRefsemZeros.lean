/-
  RefsemZeros: for every input the call returns true and leaves what was there as it was. No condition of its own.
-/
import Derived.Test.YtobmjnmcjddhcaaGreatRq2
set_option linter.unusedSimpArgs false
set_option linter.unusedVariables false
set_option maxRecDepth 100000
namespace Go.Proofs.YtobmjnmcjddhcaaGreat
open Go.ChangeShapes Go.WideShapes Go.ChangeAt Go.RowKit Go.Deep
open Go.ChangeMaps (open_string shut_string)
theorem refsemZeros_lifted (os : Os) (started : os.Started) (H : Type) (enc : TypeId × Value → H) :
  ReturnsInHanded {} Tryz.checked os 7 .any (Rows.refsemZerosSpec.pre6 enc Tryz.prog Tryz.f7 Rows.refsemZerosRow.domain false) (Rows.refsemZerosSpec.post enc Tryz.prog Tryz.f7 false true false false) := by
 refine lawFrame (C := Tryz.checked) (tb := 4) (by kernel_rfl) (by kernel_rfl) started (by kernel_rfl) Tryz.func7 rfl ?_ (by rw [show Tryz.f7.resultTypes = #[4] from by kernel_rfl]) Tryz.underlying4 ?_
  (ChangeSpec.witness6 (enc := enc) (C := Tryz.checked) false ⟨#[], #[.agg #[.slice none 0 0], .agg #[.slice none 0 0, .slice none 0 0], .agg #[.int .i64 0, .int .i64 0, .int .i64 0]], []⟩ 12 (by kernel_rfl) (by kernel_rfl) (by kernel_rfl) (by kernel_rfl)) ?_
 ·intro ds hl
  rw [Tryz.params7] at hl
  obtain ⟨d0, d1, d2, rfl⟩ := len3 hl
  rfl
 ·have hall : (Tryz.f7.params.toList.all fun t => Tryz.checked.prog.readableRec t && decide (t < Tryz.checked.prog.types.size)) = true := by kernel_rfl
  intro t ht
  have := List.all_eq_true.1 hall t ht
  simpa using this
 intro W base args ds p hval0 hA0 hlt hsz0
 have hval : ∀ (j : Nat) t v, Tryz.f7.params[j]? = some t → args[j]? = some v → Value.okWide Tryz.prog W .any base t v := hval0
 have hA : DataW.TrodAll enc Tryz.prog W 0 (fun _ => true) true Tryz.f7.params.toList args.toList ds p := hA0
 have hsz : (DataW.weightsEach Tryz.prog Tryz.f7.params.toList ds).all (· ≤ reachBytes) = true := hsz0
 clear hA0 hval0 hsz0
 rw [Tryz.params7] at hA hval hsz
 obtain ⟨v0, vs0, d0, ds0, p0, q0, hargs, rfl, rfl, h0, r0⟩ := trodAll_cons hA
 obtain ⟨v1, vs1, d1, ds1, p1, q1, rfl, rfl, rfl, h1, r1⟩ := trodAll_cons r0
 obtain ⟨v2, vs2, d2, ds2, p2, q2, rfl, rfl, rfl, h2, r2⟩ := trodAll_cons r1
 obtain ⟨rfl, rfl, rfl⟩ := trodAll_nil r2
 obtain rfl : args = #[v0, v1, v2] := by cases args; simp_all
 obtain ⟨cs0, rfl, hz0⟩ := okWide_struct Tryz.underlying24 (hval 0 24 v0 rfl rfl)
 obtain ⟨x0, w0⟩ := open_arg conv_Program h0 (fun x hx => hlt x (by simp [hx])) (fun m hm => of_decide_eq_true (List.all_eq_true.1 hsz m (DataW.weights_mem_each (j := 0) (t := 24) rfl rfl m hm)))
 simp only [Value.cells] at w0
 obtain ⟨cs1, rfl, hz1⟩ := okWide_struct Tryz.underlying66 (hval 1 66 v1 rfl rfl)
 obtain ⟨x1, w1⟩ := open_arg conv_Input h1 (fun x hx => hlt x (by simp [hx])) (fun m hm => of_decide_eq_true (List.all_eq_true.1 hsz m (DataW.weights_mem_each (j := 1) (t := 66) rfl rfl m hm)))
 simp only [Value.cells] at w1
 obtain ⟨cs2, rfl, hz2⟩ := okWide_array Tryz.underlying80 (hval 2 80 v2 rfl rfl)
 obtain ⟨x2, w2⟩ := open_arg conv_Int3 h2 (fun x hx => hlt x (by simp [hx])) (fun m hm => of_decide_eq_true (List.all_eq_true.1 hsz m (DataW.weights_mem_each (j := 2) (t := 80) rfl rfl m hm)))
 simp only [Value.cells] at w2
 exact refsemZeros_walk cs0 x0 cs1 x1 cs2 x2 W w0 w1 w2
theorem refsemZeros_holds : Rows.RefsemZerosSaid :=
 OpenClaim.holds_of_wide 7 Tryz.f7 rfl rfl rfl rfl rfl rfl rfl ⟨rfl, rfl, rfl, rfl, rfl⟩ rfl rfl rfl rfl rfl (by kernel_rfl) Tryz.func7 (by kernel_rfl)
  (of_decide_eq_true (by kernel_rfl)) (by unfold Func.isWrapper; rw [if_neg (of_decide_eq_false (by kernel_rfl))]; exact ⟨rfl, rfl⟩)
  (fun os started H enc _ => refsemZeros_lifted os started H enc)
#print axioms refsemZeros_holds
end Go.Proofs.YtobmjnmcjddhcaaGreat
