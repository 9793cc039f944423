/-
  MapsTables: for every input the call returns true and leaves what was there as it was. No condition of its own.
-/
import Derived.Test.YtgjmmbhakjalgaaDoorTb8
import Derived.Test.YtgjmmbhakjalgaaDoorSl16
import Derived.Test.YtgjmmbhakjalgaaDoorMpT
import Derived.Test.YtgjmmbhakjalgaaDoorCards
import Derived.Test.YtgjmmbhakjalgaaDoorTie
namespace Go.Proofs.YtgjmmbhakjalgaaDoor
open Go.ChangeShapes Go.WideShapes Go.ChangeAt Go.RowKit Go.Deep
open Go.ChangeMaps (open_string shut_string)
set_option linter.unusedVariables false
set_option linter.unusedSimpArgs false

theorem mapsTables_open (A : Option Addr) (n c : Nat) (xs : List DSet) (many pc : Int) (W : World) (h : SlR 4 32 RSet W W.heap.size A n c xs) (w1 : (Lit.int .i64 many).wf = true) (w2 : (Lit.int .i64 pc).wf = true) (hT : Tab W) (hw0 : 0 < W.heap.size) :
    Calls Tryd.prog 3 #[.slice A n c, .int .i64 many, .int .i64 pc] W fun e w' => e = .returned (.bool true) ∧ Below W.heap.size W w' :=
  mapsTables_walk A n c (xs.map ofD) many pc W (slw_of h).1 (slw_of h).2 hT hw0
set_option maxRecDepth 100000 in
theorem mapsTables_lifted (os : Os) (started : os.Started) (H : Type) (enc : TypeId × Value → H) :
    ReturnsInHanded {} Tryd.checked os 3 .any (fun w args => (Rows.mapsTablesSpec.pre enc Tryd.prog Tryd.f3 Rows.mapsTablesRow.domain false w args ∧ laidMetH Tryd.prog tabL w) ∧ sizedMet enc Tryd.prog Tryd.f3 (OpenSpec.ofChange Rows.mapsTablesSpec) false w args) (Rows.mapsTablesSpec.post enc Tryd.prog Tryd.f3 false true false false) := by
  refine lawFrameL (L := tabL) (C := Tryd.checked) (tb := 4) (by kernel_rfl) (by kernel_rfl) started (by kernel_rfl) Tryd.func3 rfl ?_ (by rw [show Tryd.f3.resultTypes = #[4] from by kernel_rfl]) Tryd.underlying4 ?_
    (ChangeSpec.witness_shaped (enc := enc) (C := Tryd.checked) (os := os) (X := fun w _ => laidMetH Tryd.prog tabL w) false (World.doorLaid Tryd.prog 400 os) #[.slice none 0 0, .int .i64 0, .int .i64 0] 12 rfl (World.shaped_of_RefB (by kernel_rfl) (by kernel_rfl)) (by kernel_rfl) (by kernel_rfl) (by kernel_rfl) (door_met os _)) ?_
  · intro ds hl
    rw [Tryd.params3] at hl
    obtain ⟨d0, d1, d2, rfl⟩ := len3 hl
    rfl
  · have hall : (Tryd.f3.params.toList.all fun t => Tryd.checked.prog.readableRec t && decide (t < Tryd.checked.prog.types.size)) = true := by kernel_rfl
    intro t ht
    have := List.all_eq_true.1 hall t ht
    simpa using this
  intro W base args ds p hval0 hA0 hlt hsz0 hL
  have hval : ∀ (j : Nat) t v, Tryd.f3.params[j]? = some t → args[j]? = some v → Value.okWide Tryd.prog W .any base t v := hval0
  have hA : DataW.TrodAll enc Tryd.prog W 0 (fun _ => true) true Tryd.f3.params.toList args.toList ds p := hA0
  have hsz : (DataW.weightsEach Tryd.prog Tryd.f3.params.toList ds).all (· ≤ reachBytes) = true := hsz0
  clear hA0 hval0 hsz0
  rw [Tryd.params3] at hA hval hsz
  obtain ⟨v0, vs0, d0, ds0, p0, q0, hargs, rfl, rfl, h0, r0⟩ := trodAll_cons hA
  obtain ⟨v1, vs1, d1, ds1, p1, q1, rfl, rfl, rfl, h1, r1⟩ := trodAll_cons r0
  obtain ⟨v2, vs2, d2, ds2, p2, q2, rfl, rfl, rfl, h2, r2⟩ := trodAll_cons r1
  obtain ⟨rfl, rfl, rfl⟩ := trodAll_nil r2
  obtain rfl : args = #[v0, v1, v2] := by cases args; simp_all
  obtain ⟨A0, n0, c0, rfl⟩ := okWide_slice Tryd.underlying22 (hval 0 22 v0 rfl rfl)
  obtain ⟨x0, A0', n0', c0', ea0, w0⟩ := open_arg (conv_sl (sz := 4) (bytes := 32) (R := RSet) Tryd.underlying22 (by kernel_rfl) (by kernel_rfl) (by omega) conv_Set) h0 (fun x hx => hlt x (by simp [hx])) (fun m hm => of_decide_eq_true (List.all_eq_true.1 hsz m (DataW.weights_mem_each (j := 0) (t := 22) rfl rfl m hm)))
  simp only [Value.cells, List.cons.injEq, and_true, Value.slice.injEq] at ea0
  obtain ⟨rfl, rfl, rfl⟩ := ea0
  obtain ⟨a1, rfl, rfl, rfl, w1⟩ := open_int Tryd.underlying3 (hval 1 3 v1 rfl rfl) h1
  obtain ⟨a2, rfl, rfl, rfl, w2⟩ := open_int Tryd.underlying3 (hval 2 3 v2 rfl rfl) h2
  exact mapsTables_open A0 n0 c0 x0 a1 a2 W w0 w1 w2 (tab_of_laid hL).1 (tab_of_laid hL).2

/-- The statement. -/
theorem mapsTables_holds : Rows.MapsTablesSaid :=
  OpenClaim.holds_of_wide 3 Tryd.f3 rfl rfl rfl rfl rfl rfl rfl ⟨rfl, rfl, rfl, rfl, rfl⟩ rfl rfl rfl rfl rfl (by kernel_rfl) Tryd.func3 (by kernel_rfl)
    (of_decide_eq_true (by kernel_rfl)) (by unfold Func.isWrapper; rw [if_neg (of_decide_eq_false (by kernel_rfl))]; exact ⟨rfl, rfl⟩)
    (fun os started H enc _ => mapsTables_lifted os started H enc)
theorem mapsTables_card : Rows.MapsTablesCardSaid :=
  Claim7.holds_tied_plain_at .later [] [.data] true (true, "db2d71ce7b54e3f2e1307df51f4db95b0f84d32113169ae3f2262ce1ad62ef6d") false
    mapsTables_holds (fun _ h => by cases h) (by kernel_rfl) (fun _ h => by cases h) mapsTables_row_tie rfl ⟨rfl, rfl⟩ (by kernel_rfl) rfl
    (fun f fn hf hfn => by
      obtain rfl : f = 3 := Option.some.inj ((show Tryd.prog.funcNamed "inlay/inlaylaw14.MapsTables" = some 3 by kernel_rfl).symm.trans hf) |>.symm
      obtain rfl : fn = Tryd.f3 := (Option.some.inj (Tryd.func3.symm.trans hfn)).symm
      exact ⟨by kernel_rfl, fun j t ht => by
        rw [Tryd.params3] at ht
        have hm : t ∈ [22, 3, 3] := by simpa using Array.mem_of_getElem? ht
        have hall : ([22, 3, 3].all fun u => !Tryd.prog.wantsStandIn u) = true := by kernel_rfl
        exact (show Tryd.prog.wantsStandIn t = false by simpa using List.all_eq_true.1 hall t hm)⟩)
    (by kernel_rfl)
#print axioms mapsTables_card
end Go.Proofs.YtgjmmbhakjalgaaDoor
