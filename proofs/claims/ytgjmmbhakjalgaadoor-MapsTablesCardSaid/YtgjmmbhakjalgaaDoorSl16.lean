/-
  One frame for every law of this seat whose row lists the table that math/bits reads: where the law's walk returns true and turns nothing that was there, the row's step follows. The table's cells, out of the row's condition.
-/
import Derived.Test.YtgjmmbhakjalgaaDoorSl10
import Derived.Test.YtgjmmbhakjalgaaDoorMpT
import Derived.Lib.LaidTab
import Derived.LaidMore
import Derived.Stop.Joined
import Derived.SevenTiedAt
namespace Go.Proofs.YtgjmmbhakjalgaaDoor
open Go.ChangeShapes Go.WideShapes Go.ChangeAt Go.RowKit
theorem lawFrameL {H : Type} {enc : TypeId × Value → H} {C : Checked} {os : Os} {f : FuncId} {fn : Func} {s : ChangeSpec} {dom : List PathCond} {tb : TypeId} {L : List (String × DataW Unit)}
    (own : ownKnob C.prog.godebug = none) (laid : laidOutB C.prog = true) (started : os.Started) (noInit : C.prog.inits.idxOf? f = none) (hfn : C.prog.funcs[f]? = some fn)
    (hvars : s.vars = []) (hspec : ∀ ds : List (DataW H), ds.length = fn.params.toList.length → s.fn H (ds ++ []) = { results := [.lit (.bool true)], args := ds, vars := [] })
    (hres : fn.resultTypes.toList = [tb]) (htb : C.prog.underlying tb = some .bool)
    (hread : ∀ t ∈ fn.params.toList, C.prog.readableRec t = true ∧ t < C.prog.types.size)
    (witness : ∃ (w : World) (tape : Tape) (i : Input), w.os = os ∧ (w.forCall tape i).Shaped C.prog ∧ i.vars = [] ∧ Input.okWide C.prog (w.forCall tape i) .any w.heap.size f i ∧
      ((s.pre enc C.prog fn dom false (w.forCall tape i).memory i.args ∧ laidMetH C.prog L (w.forCall tape i).memory) ∧ sizedMet enc C.prog fn (OpenSpec.ofChange s) false (w.forCall tape i).memory i.args) ∧ ({} : Assume).holds C.prog (lone (Frame.enter C.prog f i.args .normal) [] (w.forCall tape i)))
    (walk : ∀ (W : World) (base : Nat) (args : Array Value) (ds : List (DataW H)) (ps : List MemPlace),
      (∀ (j : Nat) t v, fn.params[j]? = some t → args[j]? = some v → Value.okWide C.prog W .any base t v) →
      DataW.TrodAll enc C.prog W 0 (fun _ => true) true fn.params.toList args.toList ds ps →
      (∀ x ∈ ps, x.block < W.heap.size) →
      (DataW.weightsEach C.prog fn.params.toList ds).all (· ≤ reachBytes) = true → laidMetH C.prog L W →
      Calls C.prog f args W fun e W' => e = .returned (.bool true) ∧ Below W.heap.size W W') :
    ReturnsInHanded {} C os f .any (fun w args => (s.pre enc C.prog fn dom false w args ∧ laidMetH C.prog L w) ∧ sizedMet enc C.prog fn (OpenSpec.ofChange s) false w args) (s.post enc C.prog fn false true false false) := by
  refine returnsInHanded_of_change_and (C := C) (X := fun w _ => laidMetH C.prog L w) (fun _ _ _ hh h => h.of_heap hh) own started noInit hfn witness ?_
  intro W base args ds gs before hval hW _ hsz hL _
  have hW' := hW
  obtain ⟨p, q, hA0, hV, hb, hfz, hnd⟩ := hW
  subst hb
  rw [hvars] at hV
  obtain ⟨rfl, rfl⟩ := trodVars_none hV
  have hA : DataW.TrodAll enc C.prog W 0 (fun _ => true) true fn.params.toList args.toList ds p := hA0
  have hlt : ∀ x ∈ p, x.block < W.heap.size := fun x hx => by simpa using hW'.lt x (by simp [hx])
  have hvt : s.plain.varTypes C.prog = [] := by
    have : s.plain.vars = [] := hvars
    simp [DataSpec.varTypes, this]
  rw [hvt, List.append_nil, List.append_nil] at hsz
  refine (walk W base args ds p hval hA hlt hsz hL).mono fun e W' ⟨he, bel⟩ => ?_
  subst he
  have e1 : s.fn H (ds ++ []) = { results := [.lit (.bool true)], args := ds, vars := [] } := hspec ds (trodAll_length hA)
  refine ⟨_, rfl, _, _, _, [], p, [], hW', ?_, ?_, ?_, bel.frame _, fun h => by cases h⟩
  · rw [e1, hres]
    have hrs : fn.resultTypes.size = 1 := by rw [← Array.length_toList, hres]; rfl
    rw [hrs]
    exact trodAll_mk1 (shut_bool htb _)
  · rw [e1]
    exact below_trodAll laid bel hread hA hlt
  · rw [e1, hvars]
    exact rfl
/-- What the rows list. -/
abbrev tabL : List (String × DataW Unit) := [("math/bits.deBruijn64tab", Rows.laid_math_bits_deBruijn64tab)]
theorem gTab : Tryd.prog.globalNamed "math/bits.deBruijn64tab" = some 0 := by kernel_rfl
theorem tTab : (Tryd.prog.globals[0]?).map (·.type) = some 55 := by kernel_rfl
theorem tab_data : (Rows.laid_math_bits_deBruijn64tab : DataW Unit) = Lib.tabData .u8 (Lib.deBruijn64tab.map fun (n : Nat) => (n : Int)) := by kernel_rfl
theorem tab_of_laid {W : World} (h : laidMetH Tryd.prog tabL W) : Tab W ∧ 0 < W.heap.size := by
  have h2 : laidMet Tryd.prog tabL W := h
  unfold tabL at h2
  rw [tab_data] at h2
  have ht := Lib.tabIs_of_head gTab tTab Tryd.underlying55 Tryd.underlying5 (by kernel_rfl) (by kernel_rfl) h2
  have hc : Tab W := fun j hj => by
    have := ht.cell gTab j (by simpa [Lib.deBruijn64tab] using hj)
    rw [this]
    congr 2
    have : ∀ j, j < 64 → (Lib.deBruijn64tab.map fun (n : Nat) => (n : Int)).getD j 0 = ((Lib.deBruijn64tab.getD j 0 : Nat) : Int) := by decide +kernel
    exact this j hj
  exact ⟨hc, Nat.lt_of_le_of_lt (Nat.zero_le _) (World.block_lt_of_cell? _ _ (hc 0 (by omega)))⟩
/-- The door's own heap meets the condition. -/
theorem door_met (os : Os) (args : Array Value) : laidMetH Tryd.prog tabL ((World.doorLaid Tryd.prog 400 os).forCall (fun _ _ => 0) ⟨#[], args, []⟩).memory :=
  laidMetH_of_parts3 (fuel := 8) (laidMet_of_run' 8 (by kernel_rfl) (by kernel_rfl)) (by kernel_rfl) (by kernel_rfl)
theorem wf_u {x : Int} (h : (Lit.int .u64 x).wf = true) : 0 ≤ x ∧ x < 18446744073709551616 := by
  simp [Lit.wf, IntKind.min, IntKind.max, IntKind.signed, IntKind.bits] at h
  omega
theorem wf_i {x : Int} (h : (Lit.int .i64 x).wf = true) : -9223372036854775808 ≤ x ∧ x < 9223372036854775808 := by
  simp [Lit.wf, IntKind.min, IntKind.max, IntKind.signed, IntKind.bits] at h
  omega
theorem set_open {W : World} {B : Nat} {cs : Array Value} {x : DSet} (h : RSet W B cs.toList x) : ∃ s : W4, s.Ok ∧ Value.agg cs = aggW s := by
  obtain ⟨e, q0, q1, q2, q3⟩ := h
  have e' : cs = #[.int .u64 x.w0, .int .u64 x.w1, .int .u64 x.w2, .int .u64 x.w3] := by apply Array.toList_inj.1; exact e
  have b0 := wf_u q0
  have b1 := wf_u q1
  have b2 := wf_u q2
  have b3 := wf_u q3
  refine ⟨⟨x.w0.toNat, x.w1.toNat, x.w2.toNat, x.w3.toNat⟩, ⟨by show x.w0.toNat < _; omega, by show x.w1.toNat < _; omega, by show x.w2.toNat < _; omega, by show x.w3.toNat < _; omega⟩, ?_⟩
  rw [e', ← Int.toNat_of_nonneg b0.1, ← Int.toNat_of_nonneg b1.1, ← Int.toNat_of_nonneg b2.1, ← Int.toNat_of_nonneg b3.1]
  rfl
end Go.Proofs.YtgjmmbhakjalgaaDoor
