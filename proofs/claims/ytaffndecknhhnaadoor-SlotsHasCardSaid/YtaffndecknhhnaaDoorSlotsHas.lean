/-
  SlotsHas: for every input the call returns true and leaves what was there as it was. No condition of its own.
-/
import Derived.Test.YtaffndecknhhnaaDoorSl20
import Derived.Test.YtaffndecknhhnaaDoorSl16
import Derived.Test.YtaffndecknhhnaaDoorMpT
import Derived.Test.YtaffndecknhhnaaDoorCards
import Derived.Test.YtaffndecknhhnaaDoorTie
namespace Go.Proofs.YtaffndecknhhnaaDoor
open Go.ChangeShapes Go.WideShapes Go.ChangeAt Go.RowKit Go.Deep
open Go.ChangeMaps (open_string shut_string)
set_option linter.unusedVariables false
set_option linter.unusedSimpArgs false

theorem slotsHas_open (cs : Array Value) (x : DSet) (n : Int) (A : Option Addr) (ln lc : Nat) (xs : List Int) (W : World) (h : RSet W W.heap.size cs.toList x) (hn : (Lit.int .i64 n).wf = true) (hl : SlR 1 8 (RInt .i64) W W.heap.size A ln lc xs) (hT : Tab W) (hw0 : 0 < W.heap.size) :
    Calls Tryd.prog 3 #[.agg cs, .int .i64 n, .slice A ln lc] W fun e w' => e = .returned (.bool true) ∧ Below W.heap.size W w' := by
  obtain ⟨s, hs, e⟩ := set_open h
  rw [e]
  exact slotsHas_walk s hs n hn A ln lc xs W hl hT hw0
set_option maxRecDepth 100000 in
theorem slotsHas_lifted (os : Os) (started : os.Started) (H : Type) (enc : TypeId × Value → H) :
    ReturnsInHanded {} Tryd.checked os 3 .any (fun w args => (Rows.slotsHasSpec.pre enc Tryd.prog Tryd.f3 Rows.slotsHasRow.domain false w args ∧ laidMetH Tryd.prog tabL w) ∧ sizedMet enc Tryd.prog Tryd.f3 (OpenSpec.ofChange Rows.slotsHasSpec) false w args) (Rows.slotsHasSpec.post enc Tryd.prog Tryd.f3 false true false false) := by
  refine lawFrameL (L := tabL) (C := Tryd.checked) (tb := 4) (by kernel_rfl) (by kernel_rfl) started (by kernel_rfl) Tryd.func3 rfl ?_ (by rw [show Tryd.f3.resultTypes = #[4] from by kernel_rfl]) Tryd.underlying4 ?_
    (ChangeSpec.witness_shaped (enc := enc) (C := Tryd.checked) (os := os) (X := fun w _ => laidMetH Tryd.prog tabL w) false (World.doorLaid Tryd.prog 400 os) #[.agg #[.int .u64 0, .int .u64 0, .int .u64 0, .int .u64 0], .int .i64 0, .slice none 0 0] 12 rfl (World.shaped_of_RefB (by kernel_rfl) (by kernel_rfl)) (by kernel_rfl) (by kernel_rfl) (by kernel_rfl) (door_met os _)) ?_
  · intro ds hl
    rw [Tryd.params3] at hl
    obtain ⟨d0, d1, d2, rfl⟩ := len3 hl
    rfl
  · have hall : (Tryd.f3.params.toList.all fun t => Tryd.checked.prog.readableRec t && decide (t < Tryd.checked.prog.types.size)) = true := by kernel_rfl
    intro t ht
    have := List.all_eq_true.1 hall t ht
    simpa using this
  intro W base args ds p hval0 hA0 hlt hsz0 hL
  have hval : ∀ (j : Nat) t v, Tryd.f3.params[j]? = some t → args[j]? = some v → Value.okWide Tryd.prog W .any base t v := hval0
  have hA : DataW.TrodAll enc Tryd.prog W 0 (fun _ => true) true Tryd.f3.params.toList args.toList ds p := hA0
  have hsz : (DataW.weightsEach Tryd.prog Tryd.f3.params.toList ds).all (· ≤ reachBytes) = true := hsz0
  clear hA0 hval0 hsz0
  rw [Tryd.params3] at hA hval hsz
  obtain ⟨v0, vs0, d0, ds0, p0, q0, hargs, rfl, rfl, h0, r0⟩ := trodAll_cons hA
  obtain ⟨v1, vs1, d1, ds1, p1, q1, rfl, rfl, rfl, h1, r1⟩ := trodAll_cons r0
  obtain ⟨v2, vs2, d2, ds2, p2, q2, rfl, rfl, rfl, h2, r2⟩ := trodAll_cons r1
  obtain ⟨rfl, rfl, rfl⟩ := trodAll_nil r2
  obtain rfl : args = #[v0, v1, v2] := by cases args; simp_all
  obtain ⟨cs0, rfl, hz0⟩ := okWide_array Tryd.underlying24 (hval 0 24 v0 rfl rfl)
  obtain ⟨x0, w0⟩ := open_arg conv_Set h0 (fun x hx => hlt x (by simp [hx])) (fun m hm => of_decide_eq_true (List.all_eq_true.1 hsz m (DataW.weights_mem_each (j := 0) (t := 24) rfl rfl m hm)))
  simp only [Value.cells] at w0
  obtain ⟨a1, rfl, rfl, rfl, w1⟩ := open_int Tryd.underlying3 (hval 1 3 v1 rfl rfl) h1
  obtain ⟨A2, n2, c2, rfl⟩ := okWide_slice Tryd.underlying25 (hval 2 25 v2 rfl rfl)
  obtain ⟨x2, A2', n2', c2', ea2, w2⟩ := open_arg (conv_sl (sz := 1) (bytes := 8) (R := RInt .i64) Tryd.underlying25 (by kernel_rfl) (by kernel_rfl) (by omega) (conv_int Tryd.underlying3)) h2 (fun x hx => hlt x (by simp [hx])) (fun m hm => of_decide_eq_true (List.all_eq_true.1 hsz m (DataW.weights_mem_each (j := 2) (t := 25) rfl rfl m hm)))
  simp only [Value.cells, List.cons.injEq, and_true, Value.slice.injEq] at ea2
  obtain ⟨rfl, rfl, rfl⟩ := ea2
  exact slotsHas_open cs0 x0 a1 A2 n2 c2 x2 W w0 w1 w2 (tab_of_laid hL).1 (tab_of_laid hL).2

/-- The statement. -/
theorem slotsHas_holds : Rows.SlotsHasSaid :=
  OpenClaim.holds_of_wide 3 Tryd.f3 rfl rfl rfl rfl rfl rfl rfl ⟨rfl, rfl, rfl, rfl, rfl⟩ rfl rfl rfl rfl rfl (by kernel_rfl) Tryd.func3 (by kernel_rfl)
    (of_decide_eq_true (by kernel_rfl)) (by unfold Func.isWrapper; rw [if_neg (of_decide_eq_false (by kernel_rfl))]; exact ⟨rfl, rfl⟩)
    (fun os started H enc _ => slotsHas_lifted os started H enc)
theorem slotsHas_card : Rows.SlotsHasCardSaid :=
  Claim7.holds_tied_plain_at .later [] [.data] true (true, "87faba1c35e496fe57251b7a19b3161a1a959889d3886511a46faf57fcf11e40") false
    slotsHas_holds (fun _ h => by cases h) (by kernel_rfl) (fun _ h => by cases h) slotsHas_row_tie rfl ⟨rfl, rfl⟩ (by kernel_rfl) rfl
    (fun f fn hf hfn => by
      obtain rfl : f = 3 := Option.some.inj ((show Tryd.prog.funcNamed "inlay/inlaylaw03.SlotsHas" = some 3 by kernel_rfl).symm.trans hf) |>.symm
      obtain rfl : fn = Tryd.f3 := (Option.some.inj (Tryd.func3.symm.trans hfn)).symm
      exact ⟨by kernel_rfl, fun j t ht => by
        rw [Tryd.params3] at ht
        have hm : t ∈ [24, 3, 25] := by simpa using Array.mem_of_getElem? ht
        have hall : ([24, 3, 25].all fun u => !Tryd.prog.wantsStandIn u) = true := by kernel_rfl
        exact (show Tryd.prog.wantsStandIn t = false by simpa using List.all_eq_true.1 hall t hm)⟩)
    (by kernel_rfl)
#print axioms slotsHas_card
end Go.Proofs.YtaffndecknhhnaaDoor
