/-
  Sets of slots: the document's list of a set's slots.
-/
import Derived.Test.YtgjmmbhakjalgaaDoorSl7
import Derived.Test.YtgjmmbhakjalgaaDoorKp
namespace Go.Proofs.YtgjmmbhakjalgaaDoor
open Go.RowKit
set_option linter.unusedSimpArgs false
set_option linter.unusedVariables false
def iC (x : Int) : List Value := [.int .i64 x]
def listK (s : W4) (k : Nat) : List Int := ((List.range k).filter fun (m : Nat) => memM s (m : Int)).map fun (m : Nat) => (m : Int)
abbrev listM (s : W4) : List Int := listK s 256
theorem listK_succ (s : W4) (k : Nat) : listK s (k + 1) = if memM s (k : Int) = true then listK s k ++ [(k : Int)] else listK s k := by
  unfold listK
  rw [List.range_succ, List.filter_append, List.map_append]
  by_cases h : memM s (k : Int) = true
  · simp [h]
  · simp [h]
theorem listK_len (s : W4) (k : Nat) : (listK s k).length ≤ k := by
  unfold listK
  rw [List.length_map]
  have := List.length_filter_le (fun (m : Nat) => memM s (m : Int)) (List.range k)
  simpa using this
theorem info_int : (Tryd.prog.info? 3).map (fun i => (i.zero, i.size, i.bytes)) = some (some (.int .i64 0), 1, 8) := by kernel_rfl
def IsIRow (xs : List Int) (w : World) (e : Ending) (w' : World) : Prop := ∃ A c, e = .returned (.slice A xs.length c) ∧ w'.ownsRow w.heap.size 3 1 (.slice A xs.length c) xs.length (xs.flatMap iC) ∧ Below w.heap.size w w'
theorem src_i (W : World) (x : Int) : SrcCells (W.alloc (.cells #[.int .i64 x] 3)) (some ⟨W.heap.size, 0, none⟩) 1 1 [.int .i64 x] :=
  own_src (World.ownsRow_lit (base := W.heap.size) (e := 3) (size := 1) W #[.int .i64 x] 1 (Nat.le_refl _) (by unfold maxLen; omega) rfl)
theorem one_i (x : Int) : ∀ u ∈ [Value.int .i64 x], u.oneCell' = true := by
  intro u hu
  simp at hu
  subst hu
  rfl
theorem app1i {w w1 w3 : World} {o : Obj} {k c : Nat} {A : Option Addr} {ys : List Value} {v' : Value} (hb : Below w.heap.size w w1) (hown' : w3.ownsRow w.heap.size 3 1 v' (k + 1) ys) (hgrow : (w1.alloc o).grownBy w3 (Value.slice A k c).ownBlock) (hlt : ∀ j, (Value.slice A k c).ownBlock = some j → w.heap.size ≤ j) :
    ∃ A' c', v' = .slice A' (k + 1) c' ∧ w3.ownsRow w.heap.size 3 1 (.slice A' (k + 1) c') (k + 1) ys ∧ Below w.heap.size w w3 := by
  obtain ⟨A', c', hv, _⟩ := own_form hown'
  subst hv
  exact ⟨A', c', rfl, hown', Below.grown (hb.alloc hb.size _) hgrow (by have := hb.size; simp; omega) hlt⟩
theorem own_on {w w' : World} {base : Nat} {e : TypeId} {size : Nat} {v : Value} {n : Nat} {xs : List Value} (h : w.ownsRow base e size v n xs) (hb : Below w.heap.size w w') : w'.ownsRow base e size v n xs :=
  (Kp.belowOf hb).own h fun k hk => by have := (h.lt k hk).2; omega
theorem cells_keep {w W W' : World} {s : W4} {g : Nat} (h : ∀ q, q < 4 → W.cell? ⟨g, q, none⟩ = some (.int .u64 (s.get q : Int))) (hk : ∀ p : Addr, p.block = g → W'.cell? p = W.cell? p) : ∀ q, q < 4 → W'.cell? ⟨g, q, none⟩ = some (.int .u64 (s.get q : Int)) := fun q hq => (hk ⟨g, q, none⟩ rfl).trans (h q hq)
set_option maxRecDepth 100000 in
set_option maxHeartbeats 2000000 in
theorem rlist_any (s : W4) (hok : s.Ok) (w : World) : Calls Tryd.prog 15 #[aggW s] w (IsIRow (listM s) w) := by
  obtain ⟨i0, hi, hz0, hz1, hz2⟩ := info_parts info_int
  have HC := Lib.hid (fun q hq => set_new w s q hq)
  have HB0 : Hid (Below w.heap.size w (w.alloc (.cells #[.int .u64 (s.a0 : Int), .int .u64 (s.a1 : Int), .int .u64 (s.a2 : Int), .int .u64 (s.a3 : Int)] 27))) := Lib.hid (bl_one _)
  have HLS := Lib.hid (World.size_alloc w (.cells #[.int .u64 (s.a0 : Int), .int .u64 (s.a1 : Int), .int .u64 (s.a2 : Int), .int .u64 (s.a3 : Int)] 27))
  go_enter Tryd.func15, Tryd.ntmps15
  go_wp2_with fail
  go_loopw [3, 4] (fun o i wr => ∃ (k : Nat) (A1 : Option Addr) (cc : Nat), o = .slice A1 (listK s k).length cc ∧ i = .int .i64 k ∧ k ≤ 256 ∧ Hid (wr.ownsRow (w.heap.size + 1) 3 1 (.slice A1 (listK s k).length cc) (listK s k).length ((listK s k).flatMap iC)) ∧ Hid (Below w.heap.size w wr) ∧ Hid (∀ q, q < 4 → wr.cell? ⟨w.heap.size, q, none⟩ = some (.int .u64 (s.get q : Int))) ∧ Hid (w.heap.size < wr.heap.size)) (fun _ i _ => 256 - (intOf i).toNat)
  case atStart => exact ⟨0, none, 0, rfl, rfl, Nat.zero_le _, World.ownsRow_nil _ _ _ _, HB0, HC, Lib.hid (by rw [HLS.out]; omega)⟩
  case round =>
    obtain ⟨k, A1, cc, rfl, rfl, hk, HO, HW, HCC, HSZ⟩ := hrel
    have b0 : wr.cell? ⟨w.heap.size, 0, none⟩ = some (.int .u64 (s.a0 : Int)) := HCC.out 0 (by omega)
    have b1 : wr.cell? ⟨w.heap.size, 1, none⟩ = some (.int .u64 (s.a1 : Int)) := HCC.out 1 (by omega)
    have b2 : wr.cell? ⟨w.heap.size, 2, none⟩ = some (.int .u64 (s.a2 : Int)) := HCC.out 2 (by omega)
    have b3 : wr.cell? ⟨w.heap.size, 3, none⟩ = some (.int .u64 (s.a3 : Int)) := HCC.out 3 (by omega)
    by_cases hlt : k < 256
    · have hlen := listK_len s k
      have hsucc := listK_succ s k
      have ch := Lib.hid (fun w => rhas_any s hok (k : Int) w)
      cases hm : memM s (k : Int) with
      | false =>
        rw [hm] at hsucc ch
        have HX : Hid (listK s (k + 1) = listK s k) := Lib.hid (by rw [hsucc]; simp)
        generalize listK s k = xs at *
        clear hsucc hm
        go_wp2_with fail
        refine (ch.out _).mono ?_
        rintro e w1 ⟨rfl, hb1⟩
        have HW1 := Lib.hid (bl_trans HW.out HW.out.size hb1)
        have HO1 := Lib.hid (own_on HO.out hb1)
        have HC1 : Hid (∀ q, q < 4 → w1.cell? ⟨w.heap.size, q, none⟩ = some (.int .u64 (s.get q : Int))) := Lib.hid fun q hq => (hb1.cell (p := ⟨w.heap.size, q, none⟩) HSZ.out).trans (HCC.out q hq)
        have HSZ1 : Hid (w.heap.size < w1.heap.size) := Lib.hid (Nat.lt_of_lt_of_le HSZ.out hb1.size)
        clear hb1
        go_wp2_with fail
        go_roundw
        case rel => exact ⟨k + 1, A1, cc, by rw [HX.out], by go_num, by omega, by rw [HX.out]; exact HO1, HW1, HC1, HSZ1⟩
        case measure => simp [intOf]; omega
      | true =>
        rw [hm] at hsucc ch
        have HX : Hid (listK s (k + 1) = listK s k ++ [(k : Int)]) := Lib.hid (by rw [hsucc]; simp)
        generalize listK s k = xs at *
        clear hsucc hm
        have HF : Hid (xs.flatMap iC ++ [.int .i64 (k : Int)] = (xs ++ [(k : Int)]).flatMap iC) := Lib.hid (by simp [iC])
        obtain ⟨n, hn⟩ : ∃ n, xs.length = n := ⟨_, rfl⟩
        have HN : Hid ((xs ++ [(k : Int)]).length = n + 1) := Lib.hid (by simp [hn])
        rw [hn] at HO hlen
        rw [hn]
        go_wp2_with fail
        refine (ch.out _).mono ?_
        rintro e w1 ⟨rfl, hb1⟩
        have HW1 := Lib.hid (bl_trans HW.out HW.out.size hb1)
        have HO1 : Hid (w1.ownsRow (w.heap.size + 1) 3 1 (.slice A1 n cc) n (xs.flatMap iC)) := Lib.hid (own_on HO.out hb1)
        have HC1 : Hid (∀ q, q < 4 → w1.cell? ⟨w.heap.size, q, none⟩ = some (.int .u64 (s.get q : Int))) := Lib.hid fun q hq => (hb1.cell (p := ⟨w.heap.size, q, none⟩) HSZ.out).trans (HCC.out q hq)
        have HSZ1 : Hid (w.heap.size < w1.heap.size) := Lib.hid (Nat.lt_of_lt_of_le HSZ.out hb1.size)
        have hsz : w.heap.size + 1 ≤ (w1.alloc (.cells #[.int .i64 (k : Int)] 3)).heap.size := by have := HSZ1.out; simp; omega
        have hsrc := Lib.hid (src_i w1 (k : Int))
        have hone := Lib.hid (one_i (k : Int))
        clear hb1
        go_wp2_with (first
          | (at_builtin; go_must (refine wpList_append_src _ rfl _ _ 36 rfl (w.heap.size + 1) 3 i0 (.int .i64 0) 1 8 Tryd.underlying36 hi hz0 hz1 hz2 rfl (by decide) _ _ _ rfl (HO1.out.alloc _) (some ⟨w1.heap.size, 0, none⟩) 1 1 [.int .i64 (k : Int)] rfl hsrc.out hone.out (by unfold maxLen; omega) (by omega) hsz ?_)
             intro v' w3 hown' hgrow3 hat3
             rw [HF.out] at hown'
             obtain ⟨A', c', hv', _⟩ := own_form hown'
             subst hv'
             have HG3 : Hid (Below w.heap.size w w3 ∧ (∀ q, q < 4 → w3.cell? ⟨w.heap.size, q, none⟩ = some (.int .u64 (s.get q : Int))) ∧ w.heap.size < w3.heap.size) := Lib.hid (by
               have hb3 : Below w.heap.size w w3 := Below.grown (HW1.out.alloc HW1.out.size _) hgrow3 (by have := HW1.out.size; simp; omega) (fun j hj => by have := (HO1.out.lt j hj).1; omega)
               have hb4 : Below (w.heap.size + 1) w1 w3 := Below.grown ((Below.refl _ _).alloc (by have := HSZ1.out; omega) _) hgrow3 hsz (fun j hj => (HO1.out.lt j hj).1)
               exact ⟨hb3, fun q hq => (hb4.cell (p := ⟨w.heap.size, q, none⟩) (Nat.lt_succ_self _)).trans (HC1.out q hq), Nat.lt_of_lt_of_le HSZ1.out hb4.size⟩)
             have O3 := Lib.hid hown'
             clear hown' hgrow3 hat3))
        go_roundw
        case rel => exact ⟨k + 1, A', c', by rw [HX.out, HN.out], by go_num, by omega, by rw [HX.out, HN.out]; exact O3, Lib.hid HG3.out.1, Lib.hid HG3.out.2.1, Lib.hid HG3.out.2.2⟩
        case measure => simp [intOf]; omega
    · have hkn : k = 256 := by omega
      subst hkn
      obtain ⟨xs, hxs⟩ : ∃ xs, listK s 256 = xs := ⟨_, rfl⟩
      have HO2 : Hid (wr.ownsRow w.heap.size 3 1 (.slice A1 (listM s).length cc) (listM s).length ((listM s).flatMap iC)) := Lib.hid (HO.out.mono (Nat.le_succ _))
      unfold listM at *
      rw [hxs] at HO2 ⊢
      go_wp2_with fail
      go_ret
      subst hxs
      exact ⟨_, _, rfl, HO2.out, HW.out⟩
end Go.Proofs.YtgjmmbhakjalgaaDoor
