/-
  Tables of sets: whether each set is inside the one of another table, program and document.
-/
import Derived.Test.YtdppmhkabpdfeaaMp1
namespace Go.Proofs.Ytdppmhkabpdfeaa
open Go.RowKit
set_option linter.unusedSimpArgs false
set_option linter.unusedVariables false

def cellsT (x : DSet) : List Value := [.int .u64 x.w0, .int .u64 x.w1, .int .u64 x.w2, .int .u64 x.w3]
abbrev SlT (w : World) (B : Nat) (A : Option Addr) (n c : Nat) (xs : List DSet) : Prop := SlR 4 32 (RC cellsT) w B A n c xs
theorem slt_of {w : World} {B : Nat} {A : Option Addr} {n c : Nat} {xs : List DSet} (h : SlR 4 32 RSet w B A n c xs) : SlT w B A n c xs := h.imp fun cs x _ hr => hr.1
theorem slt_at {w : World} {B : Nat} {A : Option Addr} {n c : Nat} {xs : List DSet} (h : SlT w B A n c xs) {k : Nat} (hk : k < n) : ∃ b off x, A = some ⟨b, off, none⟩ ∧ b < B ∧ xs[k]? = some x ∧ w.cell? ⟨b, off + k * 4, none⟩ = some (.int .u64 x.w0) ∧ w.cell? ⟨b, off + k * 4 + 1, none⟩ = some (.int .u64 x.w1) ∧ w.cell? ⟨b, off + k * 4 + 2, none⟩ = some (.int .u64 x.w2) ∧ w.cell? ⟨b, off + k * 4 + 3, none⟩ = some (.int .u64 x.w3) := by
  obtain ⟨b, off, x, cs, hA, hb, hx, _, hc, hr⟩ := h.at_ hk
  unfold RC at hr
  subst hr
  exact ⟨b, off, x, hA, hb, hx, by simpa using hc 0 _ rfl, by simpa [Nat.add_assoc] using hc 1 _ rfl, by simpa [Nat.add_assoc] using hc 2 _ rfl, by simpa [Nat.add_assoc] using hc 3 _ rfl⟩
theorem SlT.on {w w' : World} {A : Option Addr} {n c : Nat} {xs : List DSet} (h : SlT w w.heap.size A n c xs) (hb : Below w.heap.size w w') : SlT w' w'.heap.size A n c xs := (SlR.keep (stable_rc _) h fun p hp => hb.cell hp).more hb.size
def insX (x y : DSet) : Bool := insB x.w0 x.w1 x.w2 x.w3 y.w0 y.w1 y.w2 y.w3
theorem fU_self (x : Int) : fU x x = 0 := by
  show IntKind.u64.wrap ((BitVec.ofInt 64 x &&& ~~~ BitVec.ofInt 64 x).toNat : Int) = 0
  rw [BitVec.and_not_self]
  rfl
theorem insX_self (x : DSet) : insX x x = true := by
  unfold insX insB
  rw [fU_self, fU_self, fU_self, fU_self]
  rfl
def InsP (xs ys : List DSet) : Prop := ∀ (i : Nat) x y, xs[i]? = some x → ys[i]? = some y → insX x y = true
def IsIns (n m : Nat) (xs ys : List DSet) (w : World) (e : Ending) (w' : World) : Prop := ∃ r : Bool, e = .returned (.bool r) ∧ (r = true ↔ (n = m ∧ InsP xs ys)) ∧ Below w.heap.size w w'
set_option maxRecDepth 100000 in
set_option maxHeartbeats 2000000 in
theorem mIns_any_same (n c c' : Nat) (A A' : Option Addr) (xs ys : List DSet) (w : World) (h : SlT w w.heap.size A n c xs) (h' : SlT w w.heap.size A' n c' ys) (hn : n ≤ 100) :
    Calls Try.prog 8 #[.slice A n c, .slice A' n c'] w (IsIns n n xs ys w) := by
  have H := Lib.hid h
  have H' := Lib.hid h'
  have t0 : ((n : Int) != (n : Int)) = false := by simp
  clear h h'
  go_enter Try.func8, Try.ntmps8
  go_wp2_with fail
  go_loopw [13] (fun i wr => ∃ k : Nat, i = .int .i64 k ∧ k ≤ n ∧ Hid (∀ (i : Nat) x y, i < k → xs[i]? = some x → ys[i]? = some y → insX x y = true) ∧ Hid (Below w.heap.size w wr)) (fun i _ => n - (intOf i).toNat)
  case atStart => exact ⟨0, rfl, Nat.zero_le _, Lib.hid (fun i x y hi => absurd hi (by omega)), Lib.hid (Below.refl _ _)⟩
  case round =>
    obtain ⟨k, rfl, hk, hd, hb⟩ := hrel
    by_cases hlt : k < n
    · obtain ⟨b, off, x, rfl, hbB, hx, r0, r1, r2, r3⟩ := slt_at H.out hlt
      obtain ⟨b', off', y, rfl, hbB', hy, s0, s1, s2, s3⟩ := slt_at H'.out hlt
      have q0 : ∀ W, Below wr.heap.size wr W → W.cell? ⟨b, off + k * 4, none⟩ = some (.int .u64 x.w0) := fun W hW => ((hb.out.trans (hW.mono hb.out.size)).cell hbB).trans r0
      have q1 : ∀ W, Below wr.heap.size wr W → W.cell? ⟨b, off + k * 4 + 1, none⟩ = some (.int .u64 x.w1) := fun W hW => ((hb.out.trans (hW.mono hb.out.size)).cell hbB).trans r1
      have q2 : ∀ W, Below wr.heap.size wr W → W.cell? ⟨b, off + k * 4 + 2, none⟩ = some (.int .u64 x.w2) := fun W hW => ((hb.out.trans (hW.mono hb.out.size)).cell hbB).trans r2
      have q3 : ∀ W, Below wr.heap.size wr W → W.cell? ⟨b, off + k * 4 + 3, none⟩ = some (.int .u64 x.w3) := fun W hW => ((hb.out.trans (hW.mono hb.out.size)).cell hbB).trans r3
      have p0 : ∀ W, Below wr.heap.size wr W → W.cell? ⟨b', off' + k * 4, none⟩ = some (.int .u64 y.w0) := fun W hW => ((hb.out.trans (hW.mono hb.out.size)).cell hbB').trans s0
      have p1 : ∀ W, Below wr.heap.size wr W → W.cell? ⟨b', off' + k * 4 + 1, none⟩ = some (.int .u64 y.w1) := fun W hW => ((hb.out.trans (hW.mono hb.out.size)).cell hbB').trans s1
      have p2 : ∀ W, Below wr.heap.size wr W → W.cell? ⟨b', off' + k * 4 + 2, none⟩ = some (.int .u64 y.w2) := fun W hW => ((hb.out.trans (hW.mono hb.out.size)).cell hbB').trans s2
      have p3 : ∀ W, Below wr.heap.size wr W → W.cell? ⟨b', off' + k * 4 + 3, none⟩ = some (.int .u64 y.w3) := fun W hW => ((hb.out.trans (hW.mono hb.out.size)).cell hbB').trans s3
      have cI : ∀ W : World, Hid (Calls Try.prog 26 #[aggU x.w0 x.w1 x.w2 x.w3, aggU y.w0 y.w1 y.w2 y.w3] W fun e w' => e = .returned (.bool (insX x y)) ∧ Below W.heap.size W w') := fun W => inside_any x.w0 x.w1 x.w2 x.w3 y.w0 y.w1 y.w2 y.w3 W
      have hk0 : (0 : Int) ≤ (k : Int) := by omega
      have hkn : (k : Int) < (n : Int) := by omega
      have HX := Lib.hid hx
      have HY := Lib.hid hy
      obtain ⟨t, ht⟩ : ∃ t, insX x y = t := ⟨_, rfl⟩
      have HT := Lib.hid ht
      rw [ht] at cI
      generalize x.w0 = x0 at *
      generalize x.w1 = x1 at *
      generalize x.w2 = x2 at *
      generalize x.w3 = x3 at *
      generalize y.w0 = y0 at *
      generalize y.w1 = y1 at *
      generalize y.w2 = y2 at *
      generalize y.w3 = y3 at *
      clear ht hx hy r0 r1 r2 r3 s0 s1 s2 s3 hbB hbB'
      go_wp2_with fail
      refine wp_region_held (S := fun W => Below wr.heap.size wr W) (by kernel_rfl) ?_
      change wpAnyH _ _ _ _ _ _ _ _ (World.drew _)
      have hS0 : Below wr.heap.size wr wr.drew := (Below.refl _ _).drew
      refine wpAnyH_take (i := 0) (v := .slice (some ⟨b, off, none⟩) n c) rfl (by kernel_rfl) (by kernel_rfl) (by kernel_rfl) (fun _ _ _ h => h) (Or.inl ⟨by rfl, by intro W hW; go_simp; try (with_reducible rfl)⟩) hS0 ?_
      refine wpAnyH_take (i := 1) (v := .int .i64 (k : Int)) rfl (by kernel_rfl) (by kernel_rfl) (by kernel_rfl) (fun _ _ _ h => h) (Or.inl ⟨by rfl, by intro W hW; go_simp; try (with_reducible rfl)⟩) hS0 ?_
      refine wpAnyH_take (i := 2) (v := .pointer (some ⟨b, off + k * 4, none⟩)) rfl (by kernel_rfl) (by kernel_rfl) (by kernel_rfl) (fun _ _ _ h => h) (Or.inl ⟨by rfl, by intro W hW; go_simp; try (with_reducible rfl)⟩) hS0 ?_
      refine wpAnyH_take (i := 3) (v := aggU x0 x1 x2 x3) rfl (by kernel_rfl) (by kernel_rfl) (by kernel_rfl) (fun _ _ _ h => h) (Or.inl ⟨by rfl, by intro W hW; have e0 := q0 W hW; have e1 := q1 W hW; have e2 := q2 W hW; have e3 := q3 W hW; go_simp; try (with_reducible rfl)⟩) hS0 ?_
      refine wpAnyH_take (i := 4) (v := .slice (some ⟨b', off', none⟩) n c') rfl (by kernel_rfl) (by kernel_rfl) (by kernel_rfl) (fun _ _ _ h => h) (Or.inl ⟨by rfl, by intro W hW; go_simp; try (with_reducible rfl)⟩) hS0 ?_
      refine wpAnyH_take (i := 5) (v := .int .i64 (k : Int)) rfl (by kernel_rfl) (by kernel_rfl) (by kernel_rfl) (fun _ _ _ h => h) (Or.inl ⟨by rfl, by intro W hW; go_simp; try (with_reducible rfl)⟩) hS0 ?_
      refine wpAnyH_take (i := 6) (v := .pointer (some ⟨b', off' + k * 4, none⟩)) rfl (by kernel_rfl) (by kernel_rfl) (by kernel_rfl) (fun _ _ _ h => h) (Or.inl ⟨by rfl, by intro W hW; go_simp; try (with_reducible rfl)⟩) hS0 ?_
      refine wpAnyH_take (i := 7) (v := aggU y0 y1 y2 y3) rfl (by kernel_rfl) (by kernel_rfl) (by kernel_rfl) (fun _ _ _ h => h) (Or.inl ⟨by rfl, by intro W hW; have e0 := p0 W hW; have e1 := p1 W hW; have e2 := p2 W hW; have e3 := p3 W hW; go_simp; try (with_reducible rfl)⟩) hS0 ?_
      refine wpAnyH_one (i := 8) (by kernel_rfl) rfl (fun K hK => ?_)
      go_simp
      refine Calls.mono (cI _).out ?_
      rintro e w4 ⟨rfl, hb4⟩
      have hS4 : Below wr.heap.size wr w4 := bl_trans hS0 hS0.size hb4
      go_simp
      refine hK _ _ ⟨hS4, ?_⟩; clear hK K
      refine wpAnyH_one (i := 9) (by kernel_rfl) rfl (fun K hK => ?_)
      go_simp
      refine hK _ _ ⟨hS4, ?_⟩; clear hK K
      refine wpAnyH_done (by kernel_rfl) ?_ _
      have HS4 := Lib.hid hS4
      clear hS4 hb4 hS0 q0 q1 q2 q3 p0 p1 p2 p3 cI
      cases t
      · go_wp2_with fail
        go_ret
        exact ⟨false, rfl, ⟨(fun h => by cases h), (fun h => by have := h.2 k _ _ HX.out HY.out; rw [HT.out] at this; cases this)⟩, bl_trans hb.out hb.out.size HS4.out⟩
      · go_wp2_with fail
        go_roundw
        case rel => exact ⟨k + 1, by go_num, by omega, Lib.hid (fun i x' y' hi hx' hy' => by
            by_cases e : i = k
            · subst e
              have e1 := HX.out
              have e2 := HY.out
              rw [hx'] at e1
              rw [hy'] at e2
              injection e1 with e1
              injection e2 with e2
              subst e1 e2
              exact HT.out
            · exact hd.out i x' y' (by omega) hx' hy'), Lib.hid (bl_trans hb.out hb.out.size HS4.out)⟩
        case measure => simp [intOf]; omega
    · have hkn : k = n := by omega
      subst hkn
      have HL := Lib.hid H.out.1
      go_wp2_with fail
      go_ret
      exact ⟨true, rfl, ⟨fun _ => ⟨rfl, fun i x y hx hy => hd.out i x y (by have := (List.getElem?_eq_some_iff.1 hx).1; have := HL.out; omega) hx hy⟩, fun _ => rfl⟩, hb.out⟩
set_option maxRecDepth 100000 in
theorem mIns_any (n m c c' : Nat) (A A' : Option Addr) (xs ys : List DSet) (w : World) (h : SlT w w.heap.size A n c xs) (h' : SlT w w.heap.size A' m c' ys) (hn : n ≤ 100) (hm : m ≤ 100) :
    Calls Try.prog 8 #[.slice A n c, .slice A' m c'] w (IsIns n m xs ys w) := by
  by_cases e : n = m
  · subst e
    exact mIns_any_same n c c' A A' xs ys w h h' hn
  · have t0 : ((n : Int) != (m : Int)) = true := by simp; omega
    have HE := Lib.hid e
    clear h h' e
    go_enter Try.func8, Try.ntmps8
    go_wp2_with fail
    go_ret
    exact ⟨false, rfl, ⟨(fun h => by cases h), (fun h => absurd h.1 HE.out)⟩, Below.refl _ _⟩
set_option maxRecDepth 100000 in
set_option maxHeartbeats 2000000 in
theorem refMIns_any_same (n c c' : Nat) (A A' : Option Addr) (xs ys : List DSet) (w : World) (h : SlT w w.heap.size A n c xs) (h' : SlT w w.heap.size A' n c' ys) (hn : n ≤ 100) :
    Calls Try.prog 9 #[.slice A n c, .slice A' n c'] w (IsIns n n xs ys w) := by
  have H := Lib.hid h
  have H' := Lib.hid h'
  have t0 : ((n : Int) != (n : Int)) = false := by simp
  clear h h'
  go_enter Try.func9, Try.ntmps9
  go_wp2_with fail
  go_loopw [5] (fun i wr => ∃ k : Nat, i = .int .i64 k ∧ k ≤ n ∧ Hid (∀ (i : Nat) x y, i < k → xs[i]? = some x → ys[i]? = some y → insX x y = true) ∧ Hid (Below w.heap.size w wr)) (fun i _ => n - (intOf i).toNat)
  case atStart => exact ⟨0, rfl, Nat.zero_le _, Lib.hid (fun i x y hi => absurd hi (by omega)), Lib.hid (Below.refl _ _)⟩
  case round =>
    obtain ⟨k, rfl, hk, hd, hb⟩ := hrel
    by_cases hlt : k < n
    · obtain ⟨b, off, x, rfl, hbB, hx, r0, r1, r2, r3⟩ := slt_at H.out hlt
      obtain ⟨b', off', y, rfl, hbB', hy, s0, s1, s2, s3⟩ := slt_at H'.out hlt
      have q0 : ∀ W, Below wr.heap.size wr W → W.cell? ⟨b, off + k * 4, none⟩ = some (.int .u64 x.w0) := fun W hW => ((hb.out.trans (hW.mono hb.out.size)).cell hbB).trans r0
      have q1 : ∀ W, Below wr.heap.size wr W → W.cell? ⟨b, off + k * 4 + 1, none⟩ = some (.int .u64 x.w1) := fun W hW => ((hb.out.trans (hW.mono hb.out.size)).cell hbB).trans r1
      have q2 : ∀ W, Below wr.heap.size wr W → W.cell? ⟨b, off + k * 4 + 2, none⟩ = some (.int .u64 x.w2) := fun W hW => ((hb.out.trans (hW.mono hb.out.size)).cell hbB).trans r2
      have q3 : ∀ W, Below wr.heap.size wr W → W.cell? ⟨b, off + k * 4 + 3, none⟩ = some (.int .u64 x.w3) := fun W hW => ((hb.out.trans (hW.mono hb.out.size)).cell hbB).trans r3
      have p0 : ∀ W, Below wr.heap.size wr W → W.cell? ⟨b', off' + k * 4, none⟩ = some (.int .u64 y.w0) := fun W hW => ((hb.out.trans (hW.mono hb.out.size)).cell hbB').trans s0
      have p1 : ∀ W, Below wr.heap.size wr W → W.cell? ⟨b', off' + k * 4 + 1, none⟩ = some (.int .u64 y.w1) := fun W hW => ((hb.out.trans (hW.mono hb.out.size)).cell hbB').trans s1
      have p2 : ∀ W, Below wr.heap.size wr W → W.cell? ⟨b', off' + k * 4 + 2, none⟩ = some (.int .u64 y.w2) := fun W hW => ((hb.out.trans (hW.mono hb.out.size)).cell hbB').trans s2
      have p3 : ∀ W, Below wr.heap.size wr W → W.cell? ⟨b', off' + k * 4 + 3, none⟩ = some (.int .u64 y.w3) := fun W hW => ((hb.out.trans (hW.mono hb.out.size)).cell hbB').trans s3
      have cI : ∀ W : World, Hid (Calls Try.prog 27 #[aggU x.w0 x.w1 x.w2 x.w3, aggU y.w0 y.w1 y.w2 y.w3] W fun e w' => e = .returned (.bool (insX x y)) ∧ Below W.heap.size W w') := fun W => refInside_any x.w0 x.w1 x.w2 x.w3 y.w0 y.w1 y.w2 y.w3 W
      have hk0 : (0 : Int) ≤ (k : Int) := by omega
      have hkn : (k : Int) < (n : Int) := by omega
      have HX := Lib.hid hx
      have HY := Lib.hid hy
      obtain ⟨t, ht⟩ : ∃ t, insX x y = t := ⟨_, rfl⟩
      have HT := Lib.hid ht
      rw [ht] at cI
      generalize x.w0 = x0 at *
      generalize x.w1 = x1 at *
      generalize x.w2 = x2 at *
      generalize x.w3 = x3 at *
      generalize y.w0 = y0 at *
      generalize y.w1 = y1 at *
      generalize y.w2 = y2 at *
      generalize y.w3 = y3 at *
      clear ht hx hy r0 r1 r2 r3 s0 s1 s2 s3 hbB hbB'
      go_wp2_with fail
      refine wp_region_held (S := fun W => Below wr.heap.size wr W) (by kernel_rfl) ?_
      change wpAnyH _ _ _ _ _ _ _ _ (World.drew _)
      have hS0 : Below wr.heap.size wr wr.drew := (Below.refl _ _).drew
      refine wpAnyH_take (i := 0) (v := .slice (some ⟨b, off, none⟩) n c) rfl (by kernel_rfl) (by kernel_rfl) (by kernel_rfl) (fun _ _ _ h => h) (Or.inl ⟨by rfl, by intro W hW; go_simp; try (with_reducible rfl)⟩) hS0 ?_
      refine wpAnyH_take (i := 1) (v := .int .i64 (k : Int)) rfl (by kernel_rfl) (by kernel_rfl) (by kernel_rfl) (fun _ _ _ h => h) (Or.inl ⟨by rfl, by intro W hW; go_simp; try (with_reducible rfl)⟩) hS0 ?_
      refine wpAnyH_take (i := 2) (v := .pointer (some ⟨b, off + k * 4, none⟩)) rfl (by kernel_rfl) (by kernel_rfl) (by kernel_rfl) (fun _ _ _ h => h) (Or.inl ⟨by rfl, by intro W hW; go_simp; try (with_reducible rfl)⟩) hS0 ?_
      refine wpAnyH_take (i := 3) (v := aggU x0 x1 x2 x3) rfl (by kernel_rfl) (by kernel_rfl) (by kernel_rfl) (fun _ _ _ h => h) (Or.inl ⟨by rfl, by intro W hW; have e0 := q0 W hW; have e1 := q1 W hW; have e2 := q2 W hW; have e3 := q3 W hW; go_simp; try (with_reducible rfl)⟩) hS0 ?_
      refine wpAnyH_take (i := 4) (v := .slice (some ⟨b', off', none⟩) n c') rfl (by kernel_rfl) (by kernel_rfl) (by kernel_rfl) (fun _ _ _ h => h) (Or.inl ⟨by rfl, by intro W hW; go_simp; try (with_reducible rfl)⟩) hS0 ?_
      refine wpAnyH_take (i := 5) (v := .int .i64 (k : Int)) rfl (by kernel_rfl) (by kernel_rfl) (by kernel_rfl) (fun _ _ _ h => h) (Or.inl ⟨by rfl, by intro W hW; go_simp; try (with_reducible rfl)⟩) hS0 ?_
      refine wpAnyH_take (i := 6) (v := .pointer (some ⟨b', off' + k * 4, none⟩)) rfl (by kernel_rfl) (by kernel_rfl) (by kernel_rfl) (fun _ _ _ h => h) (Or.inl ⟨by rfl, by intro W hW; go_simp; try (with_reducible rfl)⟩) hS0 ?_
      refine wpAnyH_take (i := 7) (v := aggU y0 y1 y2 y3) rfl (by kernel_rfl) (by kernel_rfl) (by kernel_rfl) (fun _ _ _ h => h) (Or.inl ⟨by rfl, by intro W hW; have e0 := p0 W hW; have e1 := p1 W hW; have e2 := p2 W hW; have e3 := p3 W hW; go_simp; try (with_reducible rfl)⟩) hS0 ?_
      refine wpAnyH_one (i := 8) (by kernel_rfl) rfl (fun K hK => ?_)
      go_simp
      refine Calls.mono (cI _).out ?_
      rintro e w4 ⟨rfl, hb4⟩
      have hS4 : Below wr.heap.size wr w4 := bl_trans hS0 hS0.size hb4
      go_simp
      refine hK _ _ ⟨hS4, ?_⟩; clear hK K
      refine wpAnyH_one (i := 9) (by kernel_rfl) rfl (fun K hK => ?_)
      go_simp
      refine hK _ _ ⟨hS4, ?_⟩; clear hK K
      refine wpAnyH_done (by kernel_rfl) ?_ _
      have HS4 := Lib.hid hS4
      clear hS4 hb4 hS0 q0 q1 q2 q3 p0 p1 p2 p3 cI
      cases t
      · go_wp2_with fail
        go_ret
        exact ⟨false, rfl, ⟨(fun h => by cases h), (fun h => by have := h.2 k _ _ HX.out HY.out; rw [HT.out] at this; cases this)⟩, bl_trans hb.out hb.out.size HS4.out⟩
      · go_wp2_with fail
        go_roundw
        case rel => exact ⟨k + 1, by go_num, by omega, Lib.hid (fun i x' y' hi hx' hy' => by
            by_cases e : i = k
            · subst e
              have e1 := HX.out
              have e2 := HY.out
              rw [hx'] at e1
              rw [hy'] at e2
              injection e1 with e1
              injection e2 with e2
              subst e1 e2
              exact HT.out
            · exact hd.out i x' y' (by omega) hx' hy'), Lib.hid (bl_trans hb.out hb.out.size HS4.out)⟩
        case measure => simp [intOf]; omega
    · have hkn : k = n := by omega
      subst hkn
      have HL := Lib.hid H.out.1
      go_wp2_with fail
      go_ret
      exact ⟨true, rfl, ⟨fun _ => ⟨rfl, fun i x y hx hy => hd.out i x y (by have := (List.getElem?_eq_some_iff.1 hx).1; have := HL.out; omega) hx hy⟩, fun _ => rfl⟩, hb.out⟩
set_option maxRecDepth 100000 in
theorem refMIns_any (n m c c' : Nat) (A A' : Option Addr) (xs ys : List DSet) (w : World) (h : SlT w w.heap.size A n c xs) (h' : SlT w w.heap.size A' m c' ys) (hn : n ≤ 100) (hm : m ≤ 100) :
    Calls Try.prog 9 #[.slice A n c, .slice A' m c'] w (IsIns n m xs ys w) := by
  by_cases e : n = m
  · subst e
    exact refMIns_any_same n c c' A A' xs ys w h h' hn
  · have t0 : ((n : Int) != (m : Int)) = true := by simp; omega
    have HE := Lib.hid e
    clear h h' e
    go_enter Try.func9, Try.ntmps9
    go_wp2_with fail
    go_ret
    exact ⟨false, rfl, ⟨(fun h => by cases h), (fun h => absurd h.1 HE.out)⟩, Below.refl _ _⟩
end Go.Proofs.Ytdppmhkabpdfeaa
