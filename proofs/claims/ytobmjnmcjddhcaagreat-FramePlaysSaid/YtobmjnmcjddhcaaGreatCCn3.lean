import Derived.Test.YtobmjnmcjddhcaaGreatCTk
import Derived.Test.YtobmjnmcjddhcaaGreatCCn2
set_option linter.unusedSimpArgs false
set_option linter.unusedVariables false
set_option maxRecDepth 100000
set_option maxHeartbeats 8000000
namespace Go.Proofs.YtobmjnmcjddhcaaGreat
open Go.RowKit
def cellsS (x : DSet) : List Value := [.int .u64 x.w0, .int .u64 x.w1, .int .u64 x.w2, .int .u64 x.w3]
abbrev SlS4 (w : World) (B : Nat) (A : Option Addr) (n c : Nat) (xs : List DSet) : Prop := SlR 4 32 (RC cellsS) w B A n c xs
theorem sls4_of {w : World} {B : Nat} {A : Option Addr} {n c : Nat} {xs : List DSet} (h : SlR 4 32 RSet w B A n c xs) : SlS4 w B A n c xs := h.imp fun cs x _ hr => hr.1
theorem mright_any (A : Option Addr) (n c : Nat) (xs : List DSet) (m : Int) (w : World) (h : SlS4 w w.heap.size A n c xs) (hn : n ≤ 100000) (hm0 : -9223372036854775808 ≤ m) (hm1 : m < 9223372036854775808) :
  Calls Tryz.prog 146 #[.slice A n c, .int .i64 m] w (IsBool w) := by
 have HS : Hid (∀ W, Below w.heap.size w W → SlS4 W w.heap.size A n c xs) := Lib.hid fun W hW => SlR.keep (stable_rc _) h fun p hp => hW.cell hp
 clear h
 go_enter Tryz.func146, Tryz.ntmps146
 go_wp2_with fail
 go_loopw [5] (fun iv wr => ∃ (k : Nat), iv = .int .i64 k ∧ k ≤ n ∧ Hid (Below w.heap.size w wr)) (fun iv _ => n - (intOf iv).toNat)
 case atStart => exact ⟨0, rfl, Nat.zero_le _, Lib.hid (Below.refl _ _)⟩
 case round =>
  obtain ⟨k, rfl, hk, HK⟩ := hrel
  have hk0 : (0 : Int) ≤ (k : Int) := by omega
  have hkb : (k : Int) ≤ 100000 := by omega
  by_cases hlt : k < n
  ·have hkn : (k : Int) < (n : Int) := by omega
   obtain ⟨b, off, x, cs, rfl, hb, hx, hl, hc, hr⟩ := SlR.at_ (HS.out wr HK.out) hlt
   unfold RC at hr
   subst hr
   have HC : Hid (∀ W, Below wr.heap.size wr W → W.cell? ⟨b, off + k * 4, none⟩ = some (.int .u64 x.w0) ∧ W.cell? ⟨b, off + k * 4 + 1, none⟩ = some (.int .u64 x.w1) ∧ W.cell? ⟨b, off + k * 4 + 2, none⟩ = some (.int .u64 x.w2) ∧ W.cell? ⟨b, off + k * 4 + 3, none⟩ = some (.int .u64 x.w3)) := Lib.hid fun W hW => by
    have hbl : ∀ o, W.cell? ⟨b, o, none⟩ = wr.cell? ⟨b, o, none⟩ := fun o => hW.cell (p := ⟨b, o, none⟩) (Nat.lt_of_lt_of_le hb HK.out.size)
    have c0 := hc 0 _ rfl
    have c1 := hc 1 _ rfl
    have c2 := hc 2 _ rfl
    have c3 := hc 3 _ rfl
    simp only [Nat.add_zero, ← Nat.add_assoc] at c0 c1 c2 c3
    exact ⟨(hbl _).trans c0, (hbl _).trans c1, (hbl _).trans c2, (hbl _).trans c3⟩
   have cR : Hid (∀ W, Calls Tryz.prog 157 #[.int .i64 0, .int .i64 m] W (IsW (rangeM 0 m) W)) := Lib.hid fun W => rrange_any 0 m W (by omega) (by omega)
   have cI : Hid (∀ W, Calls Tryz.prog 131 #[aggU x.w0 x.w1 x.w2 x.w3, aggW (rangeM 0 m)] W fun e w' => e = .returned (.bool (insB x.w0 x.w1 x.w2 x.w3 (rangeM 0 m).a0 (rangeM 0 m).a1 (rangeM 0 m).a2 (rangeM 0 m).a3)) ∧ Below W.heap.size W w') := Lib.hid fun W => refInside_any _ _ _ _ _ _ _ _ W
   obtain ⟨s, hs⟩ : ∃ s, rangeM 0 m = s := ⟨_, rfl⟩
   rw [hs] at cR cI
   obtain ⟨r, hr⟩ : ∃ r, insB x.w0 x.w1 x.w2 x.w3 s.a0 s.a1 s.a2 s.a3 = r := ⟨_, rfl⟩
   simp only [hr] at cI
   clear hs hr hc hl hx hb
   go_wp2_with fail
   refine wp_region_held (S := fun W => Below wr.heap.size wr W) (by kernel_rfl) ?_
   change wpAnyH _ _ _ _ _ _ _ _ (World.drew _)
   have hS0 : Below wr.heap.size wr wr.drew := (Below.refl _ _).drew
   refine teH 0 (.slice (some ⟨b, off, none⟩) n c) rfl (by intro W hW; go_simp; try (first | (with_reducible rfl) | omega)) hS0 ?_
   refine teH 1 (.int .i64 (k : Int)) rfl (by intro W hW; go_simp; try (first | (with_reducible rfl) | omega)) hS0 ?_
   refine teH 4 (.int .i64 m) rfl (by intro W hW; go_simp; try (first | (with_reducible rfl) | omega)) hS0 ?_
   try go_simp
   refine teH 2 (.pointer (some ⟨b, off + k * 4, none⟩)) rfl (by intro W hW; go_simp; try (first | (with_reducible rfl) | omega)) hS0 ?_
   try go_simp
   refine teH 3 (aggU x.w0 x.w1 x.w2 x.w3) rfl (by intro W hW; obtain ⟨c0, c1, c2, c3⟩ := HC.out W hW; go_simp; try (first | (with_reducible rfl) | omega)) hS0 ?_
   try go_simp
   refine wpAnyH_one (i := 5) (by kernel_rfl) rfl (fun K hK => ?_)
   go_simp
   refine (cR.out _).mono ?_
   rintro e w4 ⟨rfl, hb4⟩
   have hS4 := hS0.trans (hb4.mono hS0.size)
   clear hb4
   go_simp
   refine hK _ _ ⟨hS4, ?_⟩; clear hK K
   refine wpAnyH_one (i := 6) (by kernel_rfl) rfl (fun K hK => ?_)
   go_simp
   refine (cI.out _).mono ?_
   rintro e w5 ⟨rfl, hb5⟩
   have hS5 := hS4.trans (hb5.mono hS4.size)
   clear hb5
   go_simp
   refine hK _ _ ⟨hS5, ?_⟩; clear hK K
   refine wpAnyH_one (i := 7) (by kernel_rfl) rfl (fun K hK => ?_)
   go_simp
   refine hK _ _ ⟨hS5, ?_⟩; clear hK K
   try go_simp
   refine wpAnyH_done (by kernel_rfl) ?_ _
   have HB6 : Hid (Below w.heap.size w w5) := Lib.hid (HK.out.trans (hS5.mono HK.out.size))
   clear hS0 hS4 hS5
   go_simp
   cases r with
   | true =>
    go_wp2_with fail
    go_roundw
    case rel => exact ⟨k + 1, by go_num, by omega, HB6⟩
    case measure => simp [intOf]; omega
   | false =>
    go_wp2_with fail
    go_ret
    exact ⟨⟨_, rfl⟩, HB6.out⟩
  ·obtain rfl : k = n := by omega
   go_wp2_with fail
   go_ret
   exact ⟨⟨_, rfl⟩, HK.out⟩
end Go.Proofs.YtobmjnmcjddhcaaGreat
