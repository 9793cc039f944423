/-
  Rows of sites: the sites of a function; the program's and the document's.
-/
import Derived.Test.YtpelnfpdchmcpaaOs6
namespace Go.Proofs.Ytpelnfpdchmcpaa
open Go.RowKit
set_option linter.unusedSimpArgs false
set_option linter.unusedVariables false
def rowI (l : List Int) : List Value := l.map (Value.int .i64)
abbrev SlI (w : World) (B : Nat) (A : Option Addr) (n c : Nat) (xs : List Int) : Prop := SlR 1 8 (RI .i64) w B A n c xs
theorem SlR.getD {bytes : Nat} {w : World} {B : Nat} {A : Option Addr} {n c : Nat} {xs : List Int} (h : SlR 1 bytes (RI .i64) w B A n c xs) {i : Nat} (hi : i < n) (d : Int) :
    ∃ b off, A = some ⟨b, off, none⟩ ∧ b < B ∧ w.cell? ⟨b, off + i, none⟩ = some (.int .i64 (xs.getD i d)) := by
  obtain ⟨b, off, x, hA, hb, hx, hc⟩ := SlR.cell1 (f := Value.int .i64) h hi
  refine ⟨b, off, hA, hb, ?_⟩
  rw [hc, List.getD_eq_getElem?_getD, hx]
  rfl
theorem SlI.own {w : World} {base : Nat} {A : Option Addr} {n c : Nat} {xs : List Int} (h : w.ownsRow base 3 1 (.slice A n c) n (rowI xs)) (hb : n ≤ 100000) : SlI w w.heap.size A n c xs := by
  have e : rowI xs = xs.flatMap fun x => [Value.int .i64 x] := by
    unfold rowI
    clear h
    induction xs with
    | nil => rfl
    | cons a l ih => rw [List.map_cons, List.flatMap_cons, ih]; rfl
  rw [e] at h
  exact SlR.of_ownN (sz := 1) (bytes := 8) (f := fun x => [Value.int .i64 x]) (fun _ => rfl) (by omega) h (by unfold reachBytes; omega)
theorem SlI.keep {w w' : World} {B : Nat} {A : Option Addr} {n c : Nat} {xs : List Int} (h : SlI w B A n c xs) (hb : Below w.heap.size w w') (hB : B ≤ w.heap.size) : SlI w' B A n c xs := SlR.keep (stable_rc _) h fun p hp => hb.cell (by omega)
theorem app_int {w wr w3 : World} {base k c : Nat} {A : Option Addr} {l : List Int} {v : Int} {v' : Value} (hb : Below base w wr) (hbw : base ≤ wr.heap.size) (hown : wr.ownsRow base 3 1 (.slice A k c) k (rowI l))
    (hown' : w3.ownsRow base 3 1 v' (k + 1) (rowI l ++ [.int .i64 v])) (hgrow : (wr.alloc (.cells #[.int .i64 v] 3)).grownBy w3 (Value.slice A k c).ownBlock) :
    ∃ A' c', v' = .slice A' (k + 1) c' ∧ w3.ownsRow base 3 1 (.slice A' (k + 1) c') (k + 1) (rowI (l ++ [v])) ∧ Below base w w3 ∧ base ≤ w3.heap.size := by
  have e : rowI l ++ [.int .i64 v] = rowI (l ++ [v]) := by simp [rowI]
  rw [e] at hown'
  obtain ⟨A', c', hv, _⟩ := own_form hown'
  subst hv
  have h3 : Below base w w3 := Below.grown (hb.alloc hbw _) hgrow (by simp; omega) (fun j hj => (hown.lt _ hj).1)
  refine ⟨A', c', rfl, hown', h3, ?_⟩
  have := hgrow.size
  simp at this
  omega
theorem src_int (w : World) (v : Int) : SrcCells (w.alloc (.cells #[.int .i64 v] 3)) (some ⟨w.heap.size, 0, none⟩) 1 1 [.int .i64 v] :=
  own_src (World.ownsRow_lit (base := w.heap.size) (e := 3) (size := 1) w #[.int .i64 v] 1 (Nat.le_refl _) (by unfold maxLen; omega) rfl)
theorem one_int (v : Int) : ∀ u ∈ [Value.int .i64 v], u.oneCell' = true := by
  intro u hu
  simp at hu
  subst hu
  rfl
set_option maxRecDepth 100000 in
set_option maxHeartbeats 1000000 in
theorem ints_same (n c c' : Nat) (A A' : Option Addr) (xs : List Int) (w : World) (h : SlI w w.heap.size A n c xs) (h' : SlI w w.heap.size A' n c' xs) (hn : n ≤ 100000) :
    Calls Try.prog 7 #[.slice A n c, .slice A' n c'] w fun e w' => e = .returned (.bool true) ∧ Below w.heap.size w w' := by
  have H := Lib.hid h
  have H' := Lib.hid h'
  have t0 : ((n : Int) != (n : Int)) = false := by simp
  clear h h'
  go_enter Try.func7, Try.ntmps7
  go_wp2_with fail
  go_loopw [5] (fun i wr => ∃ k : Nat, i = .int .i64 k ∧ k ≤ n ∧ Hid (Below w.heap.size w wr)) (fun i _ => n - (intOf i).toNat)
  case atStart => exact ⟨0, rfl, Nat.zero_le _, Lib.hid (Below.refl _ _)⟩
  case round =>
    obtain ⟨k, rfl, hk, hb⟩ := hrel
    by_cases hlt : k < n
    · obtain ⟨b, off, rfl, hbB, q0⟩ := H.out.getD hlt 0
      obtain ⟨b', off', rfl, hbB', q0'⟩ := H'.out.getD hlt 0
      have q1 : wr.cell? ⟨b, off + k, none⟩ = some (.int .i64 (xs.getD k 0)) := (hb.out.cell hbB).trans q0
      have q1' : wr.cell? ⟨b', off' + k, none⟩ = some (.int .i64 (xs.getD k 0)) := (hb.out.cell hbB').trans q0'
      obtain ⟨v, hv⟩ : ∃ v, xs.getD k 0 = v := ⟨_, rfl⟩
      rw [hv] at q1 q1'
      have tv : (v != v) = false := by simp
      have hka : (k : Int) < (n : Int) := by omega
      have hk0 : (0 : Int) ≤ (k : Int) := by omega
      clear q0 q0' hv hbB hbB'
      go_wp2_with fail
      go_quiet (fail)
      go_wp2_with fail
      go_roundw
      case rel => exact ⟨k + 1, by go_num, by omega, Lib.hid (below_drewN' hb.out _)⟩
      case measure => simp [intOf]; omega
    · have hkn : k = n := by omega
      subst hkn
      go_wp2_with fail
      go_ret
      exact ⟨rfl, hb.out⟩
def withinM (xs : List DSite) (f : Int) : List Int := (xs.filter fun x => x.fn == f).map DSite.pc
theorem within_yes {xs : List DSite} {f : Int} {k : Nat} {x : DSite} (hx : xs[k]? = some x) (h : (x.fn == f) = true) : withinM (xs.take k) f ++ [x.pc] = withinM (xs.take (k + 1)) f := by
  unfold withinM
  rw [← take_snoc' xs k x hx, List.filter_append, List.map_append]
  simp [h]
theorem within_no {xs : List DSite} {f : Int} {k : Nat} {x : DSite} (hx : xs[k]? = some x) (h : (x.fn == f) = false) : withinM (xs.take k) f = withinM (xs.take (k + 1)) f := by
  unfold withinM
  rw [← take_snoc' xs k x hx, List.filter_append, List.map_append]
  simp [h]
def IsW (l : List Int) (w : World) (e : Ending) (w' : World) : Prop := ∃ A m c, e = .returned (.slice A m c) ∧ m ≤ 100 ∧ w'.ownsRow w.heap.size 3 1 (.slice A m c) m (rowI l) ∧ Below w.heap.size w w'

set_option maxRecDepth 100000 in
set_option maxHeartbeats 4000000 in
theorem within_any (A : Option Addr) (n c : Nat) (xs : List DSite) (f : Int) (w : World) (h : SlS w w.heap.size A n c xs) (hn : n ≤ 100) :
    Calls Try.prog 8 #[.slice A n c, .int .i64 f] w (IsW (withinM xs f) w) := by
  obtain ⟨i0, hi, hz0, hz1, hz2⟩ := info_parts info_int
  have H := Lib.hid h
  have HLN : Hid (xs.length = n) := Lib.hid h.1
  clear h
  go_enter Try.func8, Try.ntmps8
  go_wp2_with fail
  go_loopw [5, 10] (fun o i wr => ∃ (k m : Nat) (A1 : Option Addr) (c1 : Nat), o = .slice A1 m c1 ∧ i = .int .i64 k ∧ k ≤ n ∧ m ≤ k ∧ Hid (wr.ownsRow w.heap.size 3 1 (.slice A1 m c1) m (rowI (withinM (xs.take k) f))) ∧ Hid (Below w.heap.size w wr)) (fun _ i _ => n - (intOf i).toNat)
  case atStart => exact ⟨0, 0, none, 0, rfl, rfl, Nat.zero_le _, Nat.le_refl _, Lib.hid ⟨rfl, .inl ⟨rfl, rfl⟩⟩, Lib.hid (Below.refl _ _)⟩
  case round =>
    obtain ⟨k, m, A1, c1, rfl, rfl, hk, hm, HR, HB⟩ := hrel
    by_cases hlt : k < n
    · obtain ⟨r, off, x, rfl, hr, hx, hc⟩ := H.out.get hlt
      obtain ⟨q0, q1⟩ := hc wr HB.out
      have hk0 : (0 : Int) ≤ (k : Int) := by omega
      have hkn : (k : Int) < (n : Int) := by omega
      have HX := Lib.hid hx
      have HY : Hid ((x.fn == f) = true → withinM (xs.take k) f ++ [x.pc] = withinM (xs.take (k + 1)) f) := Lib.hid (within_yes hx)
      have HN : Hid ((x.fn == f) = false → withinM (xs.take k) f = withinM (xs.take (k + 1)) f) := Lib.hid (within_no hx)
      clear hx hc hr
      obtain ⟨xf, xp⟩ := x
      dsimp only at q0 q1 HY HN

      obtain ⟨w1, hw1⟩ : ∃ X, wr.alloc (.cells #[.int .i64 xf, .int .i64 xp] 37) = X := ⟨_, rfl⟩
      have hb1 : Below wr.heap.size wr w1 := by rw [← hw1]; exact bl_one _
      have hcl : Cells w1 wr.heap.size [.int .i64 xf, .int .i64 xp] := by rw [← hw1]; exact Cells.new wr [.int .i64 xf, .int .i64 xp] _
      have z0 : w1.cell? ⟨wr.heap.size, 0, none⟩ = some (.int .i64 xf) := hcl.at_ 0 _ rfl
      have z1 : w1.cell? ⟨wr.heap.size, 1, none⟩ = some (.int .i64 xp) := hcl.at_ 1 _ rfl
      have HB1 : Hid (Below w.heap.size w w1) := Lib.hid (HB.out.trans (hb1.mono HB.out.size))
      have HR1 : Hid (w1.ownsRow w.heap.size 3 1 (.slice A1 m c1) m (rowI (withinM (xs.take k) f))) := Lib.hid (own_keep HR.out hb1)
      clear hb1 hcl

      have hzb : Hid (w.heap.size ≤ w1.heap.size) := Lib.hid HB1.out.size
      have hsrc := Lib.hid (src_int w1 xp)
      by_cases ht : (xf == f) = true
      · have HE := Lib.hid (HY.out ht)
        go_wp2_with (first
          | (at_builtin; go_must (refine wpList_append_src _ rfl _ _ 26 rfl w.heap.size 3 i0 (.int .i64 0) 1 8 Try.underlying26 hi hz0 hz1 hz2 rfl (by decide) _ _ _ rfl (HR1.out.alloc _) (some ⟨w1.heap.size, 0, none⟩) 1 1 [.int .i64 xp] rfl hsrc.out (one_int xp) (by unfold maxLen; omega) (by omega) (by have := hzb.out; simp; omega) ?_)
             intro v' w3 hown' hgrow3 hat3
             obtain ⟨A', c', rfl, X1, X2, _⟩ := app_int HB1.out hzb.out HR1.out hown' hgrow3
             have XR := Lib.hid X1
             have XB := Lib.hid X2
             clear X1 X2 hown' hgrow3 hat3)
          | fail)
        go_roundw
        case rel => exact ⟨k + 1, m + 1, A', c', rfl, by go_num, by omega, by omega, Lib.hid (by rw [← HE.out]; exact XR.out), XB⟩
        case measure => simp [intOf]; omega
      · have ht' : (xf == f) = false := by simpa using ht
        have HE := Lib.hid (HN.out ht')
        clear ht
        go_wp2_with fail
        go_roundw
        case rel => exact ⟨k + 1, m, A1, c1, rfl, by go_num, by omega, by omega, Lib.hid (by rw [← HE.out]; exact HR1.out), HB1⟩
        case measure => simp [intOf]; omega
    · obtain rfl : k = n := by omega
      go_wp2_with fail
      go_ret
      have hR := HR.out
      rw [List.take_of_length_le (by have := HLN.out; omega)] at hR
      exact ⟨A1, m, c1, rfl, by omega, hR, HB.out⟩

set_option maxRecDepth 100000 in
set_option maxHeartbeats 4000000 in
theorem rwithin_any (A : Option Addr) (n c : Nat) (xs : List DSite) (f : Int) (w : World) (h : SlS w w.heap.size A n c xs) (hn : n ≤ 100) :
    Calls Try.prog 9 #[.slice A n c, .int .i64 f] w (IsW (withinM xs f) w) := by
  obtain ⟨i0, hi, hz0, hz1, hz2⟩ := info_parts info_int
  have H := Lib.hid h
  have HLN : Hid (xs.length = n) := Lib.hid h.1
  clear h
  go_enter Try.func9, Try.ntmps9
  go_wp2_with fail
  go_loopw [5, 6] (fun o i wr => ∃ (k m : Nat) (A1 : Option Addr) (c1 : Nat), o = .slice A1 m c1 ∧ i = .int .i64 k ∧ k ≤ n ∧ m ≤ k ∧ Hid (wr.ownsRow w.heap.size 3 1 (.slice A1 m c1) m (rowI (withinM (xs.take k) f))) ∧ Hid (Below w.heap.size w wr)) (fun _ i _ => n - (intOf i).toNat)
  case atStart => exact ⟨0, 0, none, 0, rfl, rfl, Nat.zero_le _, Nat.le_refl _, Lib.hid ⟨rfl, .inl ⟨rfl, rfl⟩⟩, Lib.hid (Below.refl _ _)⟩
  case round =>
    obtain ⟨k, m, A1, c1, rfl, rfl, hk, hm, HR, HB⟩ := hrel
    by_cases hlt : k < n
    · obtain ⟨r, off, x, rfl, hr, hx, hc⟩ := H.out.get hlt
      obtain ⟨q0, q1⟩ := hc wr HB.out
      have hk0 : (0 : Int) ≤ (k : Int) := by omega
      have hkn : (k : Int) < (n : Int) := by omega
      have HX := Lib.hid hx
      have HY : Hid ((x.fn == f) = true → withinM (xs.take k) f ++ [x.pc] = withinM (xs.take (k + 1)) f) := Lib.hid (within_yes hx)
      have HN : Hid ((x.fn == f) = false → withinM (xs.take k) f = withinM (xs.take (k + 1)) f) := Lib.hid (within_no hx)
      clear hx hc hr
      obtain ⟨xf, xp⟩ := x
      dsimp only at q0 q1 HY HN

      have HB1 := HB
      have HR1 := HR

      have hzb : Hid (w.heap.size ≤ wr.heap.size) := Lib.hid HB1.out.size
      have hsrc := Lib.hid (src_int wr xp)
      by_cases ht : (xf == f) = true
      · have HE := Lib.hid (HY.out ht)
        go_wp2_with (first
          | (at_builtin; go_must (refine wpList_append_src _ rfl _ _ 26 rfl w.heap.size 3 i0 (.int .i64 0) 1 8 Try.underlying26 hi hz0 hz1 hz2 rfl (by decide) _ _ _ rfl (HR1.out.alloc _) (some ⟨wr.heap.size, 0, none⟩) 1 1 [.int .i64 xp] rfl hsrc.out (one_int xp) (by unfold maxLen; omega) (by omega) (by have := hzb.out; simp; omega) ?_)
             intro v' w3 hown' hgrow3 hat3
             obtain ⟨A', c', rfl, X1, X2, _⟩ := app_int HB1.out hzb.out HR1.out hown' hgrow3
             have XR := Lib.hid X1
             have XB := Lib.hid X2
             clear X1 X2 hown' hgrow3 hat3)
          | fail)
        go_roundw
        case rel => exact ⟨k + 1, m + 1, A', c', rfl, by go_num, by omega, by omega, Lib.hid (by rw [← HE.out]; exact XR.out), XB⟩
        case measure => simp [intOf]; omega
      · have ht' : (xf == f) = false := by simpa using ht
        have HE := Lib.hid (HN.out ht')
        clear ht
        go_wp2_with fail
        go_roundw
        case rel => exact ⟨k + 1, m, A1, c1, rfl, by go_num, by omega, by omega, Lib.hid (by rw [← HE.out]; exact HR1.out), HB1⟩
        case measure => simp [intOf]; omega
    · obtain rfl : k = n := by omega
      go_wp2_with fail
      go_ret
      have hR := HR.out
      rw [List.take_of_length_le (by have := HLN.out; omega)] at hR
      exact ⟨A1, m, c1, rfl, by omega, hR, HB.out⟩

end Go.Proofs.Ytpelnfpdchmcpaa
