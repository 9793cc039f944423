/-
  SlotsSets: for every input the call returns true and leaves what was there as it was. No condition of its own.
-/
import Derived.Test.YtaffndecknhhnaaDoorSl22
import Derived.Test.YtaffndecknhhnaaDoorSl16
import Derived.Test.YtaffndecknhhnaaDoorMpT
import Derived.Test.YtaffndecknhhnaaDoorCards
import Derived.Test.YtaffndecknhhnaaDoorTie
namespace Go.Proofs.YtaffndecknhhnaaDoor
open Go.ChangeShapes Go.WideShapes Go.ChangeAt Go.RowKit Go.Deep
open Go.ChangeMaps (open_string shut_string)
set_option linter.unusedVariables false
set_option linter.unusedSimpArgs false

theorem slotsSets_open (cs : Array Value) (x : DSet) (cs2 : Array Value) (x2 : DSet) (W : World) (h : RSet W W.heap.size cs.toList x) (h2 : RSet W W.heap.size cs2.toList x2) (hT : Tab W) (hw0 : 0 < W.heap.size) :
    Calls Tryd.prog 4 #[.agg cs, .agg cs2] W fun e w' => e = .returned (.bool true) ∧ Below W.heap.size W w' := by
  obtain ⟨s, hs, e⟩ := set_open h
  obtain ⟨t, ht, e2⟩ := set_open h2
  rw [e, e2]
  exact slotsSets_walk s t hs ht W hT hw0
set_option maxRecDepth 100000 in
theorem slotsSets_lifted (os : Os) (started : os.Started) (H : Type) (enc : TypeId × Value → H) :
    ReturnsInHanded {} Tryd.checked os 4 .any (fun w args => (Rows.slotsSetsSpec.pre enc Tryd.prog Tryd.f4 Rows.slotsSetsRow.domain false w args ∧ laidMetH Tryd.prog tabL w) ∧ sizedMet enc Tryd.prog Tryd.f4 (OpenSpec.ofChange Rows.slotsSetsSpec) false w args) (Rows.slotsSetsSpec.post enc Tryd.prog Tryd.f4 false true false false) := by
  refine lawFrameL (L := tabL) (C := Tryd.checked) (tb := 4) (by kernel_rfl) (by kernel_rfl) started (by kernel_rfl) Tryd.func4 rfl ?_ (by rw [show Tryd.f4.resultTypes = #[4] from by kernel_rfl]) Tryd.underlying4 ?_
    (ChangeSpec.witness_shaped (enc := enc) (C := Tryd.checked) (os := os) (X := fun w _ => laidMetH Tryd.prog tabL w) false (World.doorLaid Tryd.prog 400 os) #[.agg #[.int .u64 0, .int .u64 0, .int .u64 0, .int .u64 0], .agg #[.int .u64 0, .int .u64 0, .int .u64 0, .int .u64 0]] 12 rfl (World.shaped_of_RefB (by kernel_rfl) (by kernel_rfl)) (by kernel_rfl) (by kernel_rfl) (by kernel_rfl) (door_met os _)) ?_
  · intro ds hl
    rw [Tryd.params4] at hl
    obtain ⟨d0, d1, rfl⟩ := len2 hl
    rfl
  · have hall : (Tryd.f4.params.toList.all fun t => Tryd.checked.prog.readableRec t && decide (t < Tryd.checked.prog.types.size)) = true := by kernel_rfl
    intro t ht
    have := List.all_eq_true.1 hall t ht
    simpa using this
  intro W base args ds p hval0 hA0 hlt hsz0 hL
  have hval : ∀ (j : Nat) t v, Tryd.f4.params[j]? = some t → args[j]? = some v → Value.okWide Tryd.prog W .any base t v := hval0
  have hA : DataW.TrodAll enc Tryd.prog W 0 (fun _ => true) true Tryd.f4.params.toList args.toList ds p := hA0
  have hsz : (DataW.weightsEach Tryd.prog Tryd.f4.params.toList ds).all (· ≤ reachBytes) = true := hsz0
  clear hA0 hval0 hsz0
  rw [Tryd.params4] at hA hval hsz
  obtain ⟨v0, vs0, d0, ds0, p0, q0, hargs, rfl, rfl, h0, r0⟩ := trodAll_cons hA
  obtain ⟨v1, vs1, d1, ds1, p1, q1, rfl, rfl, rfl, h1, r1⟩ := trodAll_cons r0
  obtain ⟨rfl, rfl, rfl⟩ := trodAll_nil r1
  obtain rfl : args = #[v0, v1] := by cases args; simp_all
  obtain ⟨cs0, rfl, hz0⟩ := okWide_array Tryd.underlying24 (hval 0 24 v0 rfl rfl)
  obtain ⟨x0, w0⟩ := open_arg conv_Set h0 (fun x hx => hlt x (by simp [hx])) (fun m hm => of_decide_eq_true (List.all_eq_true.1 hsz m (DataW.weights_mem_each (j := 0) (t := 24) rfl rfl m hm)))
  simp only [Value.cells] at w0
  obtain ⟨cs1, rfl, hz1⟩ := okWide_array Tryd.underlying24 (hval 1 24 v1 rfl rfl)
  obtain ⟨x1, w1⟩ := open_arg conv_Set h1 (fun x hx => hlt x (by simp [hx])) (fun m hm => of_decide_eq_true (List.all_eq_true.1 hsz m (DataW.weights_mem_each (j := 1) (t := 24) rfl rfl m hm)))
  simp only [Value.cells] at w1
  exact slotsSets_open cs0 x0 cs1 x1 W w0 w1 (tab_of_laid hL).1 (tab_of_laid hL).2

/-- The statement. -/
theorem slotsSets_holds : Rows.SlotsSetsSaid :=
  OpenClaim.holds_of_wide 4 Tryd.f4 rfl rfl rfl rfl rfl rfl rfl ⟨rfl, rfl, rfl, rfl, rfl⟩ rfl rfl rfl rfl rfl (by kernel_rfl) Tryd.func4 (by kernel_rfl)
    (of_decide_eq_true (by kernel_rfl)) (by unfold Func.isWrapper; rw [if_neg (of_decide_eq_false (by kernel_rfl))]; exact ⟨rfl, rfl⟩)
    (fun os started H enc _ => slotsSets_lifted os started H enc)
theorem slotsSets_card : Rows.SlotsSetsCardSaid :=
  Claim7.holds_tied_plain_at .later [] [.data] true (true, "87faba1c35e496fe57251b7a19b3161a1a959889d3886511a46faf57fcf11e40") false
    slotsSets_holds (fun _ h => by cases h) (by kernel_rfl) (fun _ h => by cases h) slotsSets_row_tie rfl ⟨rfl, rfl⟩ (by kernel_rfl) rfl
    (fun f fn hf hfn => by
      obtain rfl : f = 4 := Option.some.inj ((show Tryd.prog.funcNamed "inlay/inlaylaw03.SlotsSets" = some 4 by kernel_rfl).symm.trans hf) |>.symm
      obtain rfl : fn = Tryd.f4 := (Option.some.inj (Tryd.func4.symm.trans hfn)).symm
      exact ⟨by kernel_rfl, fun j t ht => by
        rw [Tryd.params4] at ht
        have hm : t ∈ [24, 24] := by simpa using Array.mem_of_getElem? ht
        have hall : ([24, 24].all fun u => !Tryd.prog.wantsStandIn u) = true := by kernel_rfl
        exact (show Tryd.prog.wantsStandIn t = false by simpa using List.all_eq_true.1 hall t hm)⟩)
    (by kernel_rfl)
#print axioms slotsSets_card
end Go.Proofs.YtaffndecknhhnaaDoor
