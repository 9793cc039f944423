import Derived.Test.YtobmjnmcjddhcaaGreatRg4
import Derived.Test.YtobmjnmcjddhcaaGreatRg1
import Derived.Test.YtobmjnmcjddhcaaGreatRg12
import Derived.Test.YtobmjnmcjddhcaaGreatRg2
import Derived.Test.YtobmjnmcjddhcaaGreatRg13
set_option linter.unusedSimpArgs false
set_option linter.unusedVariables false
namespace Go.Proofs.YtobmjnmcjddhcaaGreat
section
set_option maxRecDepth 100000
set_option maxHeartbeats 16000000
open Go.RowKit
def cS (s : ByteArray) : List Value := [.string s]
abbrev SlT (w : World) (B : Nat) (A : Option Addr) (n c : Nat) (xs : List ByteArray) : Prop := SlR 1 16 (RC cS) w B A n c xs
theorem slt_at {w : World} {B : Nat} {A : Option Addr} {n c : Nat} {xs : List ByteArray} (h : SlT w B A n c xs) {k : Nat} (hk : k < n) : ∃ b off x, A = some ⟨b, off, none⟩ ∧ b < B ∧ xs[k]? = some x ∧ w.cell? ⟨b, off + k, none⟩ = some (.string x) := by
 obtain ⟨b, off, x, cs, hA, hb, hx, _, hc, hr⟩ := SlR.at_ h hk
 unfold RC cS at hr
 subst hr
 exact ⟨b, off, x, hA, hb, hx, by simpa using hc 0 _ rfl⟩
theorem SlT.on {w w' : World} {A : Option Addr} {n c : Nat} {xs : List ByteArray} (h : SlT w w.heap.size A n c xs) (hb : Below w.heap.size w w') : SlT w' w'.heap.size A n c xs := (SlR.keep (stable_rc _) h fun p hp => hb.cell hp).more hb.size
def IsInt (w : World) (e : Ending) (w' : World) : Prop := (∃ r : Int, e = .returned (.int .i64 r)) ∧ Below w.heap.size w w'
theorem rfind_any (A : Option Addr) (n c : Nat) (xs : List ByteArray) (s : ByteArray) (w : World) (h : SlT w w.heap.size A n c xs) (hn : n ≤ 100) :
  Calls Tryz.prog 117 #[.slice A n c, .string s] w (IsInt w) := by
 have H := Hd h
 have hn0 : (n : Int) ≤ 100 := by omega
 clear h
 go_in
 go_wp2_with fail
 go_loopw [5] (fun iv wr => ∃ k : Nat, iv = .int .i64 (k : Int) ∧ k ≤ n ∧ wr = w) (fun iv _ => n - (intOf iv).toNat)
 case atStart => exact ⟨0, rfl, Nat.zero_le _, rfl⟩
 case round =>
  obtain ⟨k, rfl, hk, rfl⟩ := hrel
  have hk0 : (0 : Int) ≤ (k : Int) := by omega
  have hk1 : (k : Int) ≤ 100 := by omega
  by_cases hlt : k < n
  ·have hkn : (k : Int) < (n : Int) := by omega
   obtain ⟨b, off, z, rfl, hb, hz, q0⟩ := slt_at H.out hlt
   clear hz
   cases t : (z.toList == s.toList) with
   | true =>
    go_wp2_with fail
    go_ret
    exact ⟨⟨_, rfl⟩, Below.refl _ _⟩
   | false =>
    go_wp2_with fail
    go_roundw
    case rel => exact ⟨k + 1, by go_num, by omega, trivial⟩
    case measure => simp [intOf]; omega
  ·obtain rfl : k = n := by omega
   go_wp2_with fail
   go_ret
   exact ⟨⟨_, rfl⟩, Below.refl _ _⟩
theorem runlike_any (A : Option Addr) (n c : Nat) (xs : List ByteArray) (w : World) (h : SlT w w.heap.size A n c xs) (hn : n ≤ 100) :
  Calls Tryz.prog 92 #[.slice A n c] w (IsBool w) := by
 have H := Hd h
 have hn0 : (n : Int) ≤ 100 := by omega
 clear h
 go_in
 go_wp2_with fail
 go_loopw [3] (fun iv wr => ∃ k : Nat, iv = .int .i64 (k : Int) ∧ k ≤ n ∧ Hid (Below w.heap.size w wr)) (fun iv _ => n - (intOf iv).toNat)
 case atStart => exact ⟨0, rfl, Nat.zero_le _, Hd (Below.refl _ _)⟩
 case round =>
  obtain ⟨k, rfl, hk, HB⟩ := hrel
  have hk0 : (0 : Int) ≤ (k : Int) := by omega
  have hk1 : (k : Int) ≤ 100 := by omega
  by_cases hlt : k < n
  ·have hkn : (k : Int) < (n : Int) := by omega
   have H2 := Hd (SlT.on H.out HB.out)
   obtain ⟨b, off, z, rfl, hb, hz, q0⟩ := slt_at H2.out hlt
   have cF := Hd (rfind_any (some ⟨b, off, none⟩) n c xs z wr H2.out (by omega))
   clear hz hb
   go_wp2_with fail
   refine cF.out.mono ?_
   rintro e w2 ⟨⟨r, rfl⟩, hb2⟩
   have HB2 : Hid (Below w.heap.size w w2) := Hd (HB.out.trans (hb2.mono HB.out.size))
   clear hb2 q0 cF
   cases t : (r != (k : Int)) with
   | true =>
    go_wp2_with fail
    go_ret
    exact ⟨⟨_, rfl⟩, HB2.out⟩
   | false =>
    go_wp2_with fail
    go_roundw
    case rel => exact ⟨k + 1, by go_num, by omega, HB2⟩
    case measure => simp [intOf]; omega
  ·obtain rfl : k = n := by omega
   go_wp2_with fail
   go_ret
   exact ⟨⟨_, rfl⟩, HB.out⟩
theorem info_str : (Tryz.prog.info? 9).map (fun i => (i.zero, i.size, i.bytes)) = some (some (.string ByteArray.empty), 1, 16) := by kernel_rfl
def IsNm (n : Nat) (w : World) (e : Ending) (w' : World) : Prop := ∃ A c xs, e = .returned (.slice A n c) ∧ SlT w' w'.heap.size A n c xs ∧ Below w.heap.size w w'
theorem rnames_any (FA : Option Addr) (fn fc : Nat) (fs : List DFunc) (w : World) (h : PgO w FA fn fc fs) :
  Calls Tryz.prog 93 #[.agg #[.slice FA fn fc]] w (IsNm fn w) := by
 obtain ⟨i0, hi, hz0, hz1, hz2⟩ := info_parts info_str
 obtain ⟨w1, hw1⟩ : ∃ X, w.alloc (.cells #[.slice FA fn fc] 24) = X := ⟨_, rfl⟩
 obtain ⟨g, hg⟩ : ∃ g, w.heap.size = g := ⟨_, rfl⟩
 have hb1 : Below w.heap.size w w1 := by rw [← hw1]; exact bl_one _
 have hc1 : Cells w1 g [.slice FA fn fc] := by rw [← hw1, ← hg]; exact Cells.new w [.slice FA fn fc] _
 have EQ : Hid (∀ W, Below w1.heap.size w1 W → W.cell? ⟨g, 0, none⟩ = some (.slice FA fn fc)) := Hd fun W hW => (hc1.on hW).at_ 0 _ rfl
 have HP : Hid (∀ W, Below w1.heap.size w1 W → PgO W FA fn fc fs) := Hd fun W hW => h.on (hb1.trans (hW.mono hb1.size))
 have HB1 := Hd hb1
 have hfn := h.le
 have hn0 : (fn : Int) ≤ 50 := by omega
 clear h hb1 hc1
 go_in
 go_wp2_with fail
 clear hw1 hg
 go_loopw [3, 4] (fun ov iv wr => ∃ (k : Nat) (A' : Option Addr) (c' : Nat), ov = .slice A' k c' ∧ iv = .int .i64 (k : Int) ∧ k ≤ fn ∧ Hid (∃ l : List ByteArray, wr.ownsRow w1.heap.size 9 1 (.slice A' k c') k (l.flatMap cS) ∧ Below w1.heap.size w1 wr)) (fun _ iv _ => fn - (intOf iv).toNat)
 case atStart => exact ⟨0, none, 0, rfl, rfl, Nat.zero_le _, Hd ⟨[], ⟨rfl, .inl ⟨rfl, rfl⟩⟩, Below.refl _ _⟩⟩
 case round =>
  obtain ⟨k, A', c', rfl, rfl, hk, HK⟩ := hrel
  obtain ⟨l, hown, hbw⟩ := HK.out
  have HO := Hd hown
  have HB := Hd hbw
  have q0 := EQ.out wr hbw
  have hk0 : (0 : Int) ≤ (k : Int) := by omega
  have hk1 : (k : Int) ≤ 50 := by omega
  clear hown hbw HK
  by_cases hlt : k < fn
  ·have hkn : (k : Int) < (fn : Int) := by omega
   obtain ⟨b, off, V, x, rfl, hb, hx, hq, -⟩ := (HP.out wr HB.out).at_ hlt
   have y0 := hq.e0
   obtain ⟨s, hs⟩ : ∃ s, V.s = s := ⟨_, rfl⟩
   rw [hs] at y0
   have hZ : Hid (w1.heap.size ≤ wr.heap.size) := Hd HB.out.size
   have hsrc : Hid (SrcCells (wr.alloc (.cells #[.string s] 9)) (some ⟨wr.heap.size, 0, none⟩) 1 1 [.string s]) := Hd (own_src (World.ownsRow_lit (base := wr.heap.size) (e := 9) (size := 1) wr #[.string s] 1 (Nat.le_refl _) (by unfold maxLen; omega) rfl))
   clear hq hx hs hb
   go_wp2_with (first
     | (at_builtin; go_must (refine wpList_append_src _ rfl _ _ 173 rfl w1.heap.size 9 i0 (.string ByteArray.empty) 1 16 Tryz.underlying173 hi hz0 hz1 hz2 rfl (by decide) _ _ _ rfl (HO.out.alloc _) (some ⟨wr.heap.size, 0, none⟩) 1 1 [.string s] rfl hsrc.out (fun u hu => by simp at hu; subst hu; rfl) (by unfold maxLen; omega) (by omega) (by have := hZ.out; simp; omega) ?_)
        intro v' w7 hown' hgrow3 hat3
        obtain ⟨A2, c2, rfl, _⟩ := own_form hown'
        have XR : Hid (w7.ownsRow w1.heap.size 9 1 (.slice A2 (k + 1) c2) (k + 1) ((l ++ [s]).flatMap cS)) := Hd (by rw [List.flatMap_append]; simpa [cS] using hown')
        have XB : Hid (Below w1.heap.size w1 w7) := Hd (Below.grown (HB.out.alloc hZ.out _) hgrow3 (by have := hZ.out; simp; omega) (fun j hj => (HO.out.lt _ hj).1))
        clear hown' hgrow3 hat3)
     | fail)
   go_roundw
   case rel => exact ⟨k + 1, A2, c2, rfl, by go_num, by omega, Hd ⟨_, XR.out, XB.out⟩⟩
   case measure => simp [intOf]; omega
  ·obtain rfl : k = fn := by omega
   go_wp2_with fail
   go_ret
   exact ⟨A', c', l, rfl, SlR.of_ownN (sz := 1) (bytes := 16) (f := cS) (fun _ => rfl) (by omega) HO.out (by unfold reachBytes; omega), HB1.out.trans (HB.out.mono HB1.out.size)⟩
end
section
open Go.RowKit
theorem own_empty (W : World) (base : Nat) (hb : base ≤ W.heap.size) : (W.alloc (.cells #[] 40)).ownsRow base 40 1 (.slice (some ⟨W.heap.size, 0, none⟩) 0 0) 0 [] :=
 own_at rfl base hb [] 40 1 0 (by unfold maxLen; omega) rfl
end
section
set_option maxRecDepth 100000
set_option maxHeartbeats 32000000
open Go.RowKit
def IsBoolX (P : Prop) (w : World) (e : Ending) (w' : World) : Prop := (∃ b : Bool, e = .returned (.bool b) ∧ (b = true → P)) ∧ Below w.heap.size w w'
def IsIntX (P : Prop) (w : World) (e : Ending) (w' : World) : Prop := (∃ r : Int, e = .returned (.int .i64 r) ∧ (r = 0 → P)) ∧ Below w.heap.size w w'
def EntryR (fs : List DFunc) : Prop := ∃ x, fs[0]? = some x ∧ (∀ t ∈ x.params ++ x.results, t = 1) ∧ x.inner = false
def CallsR (fs : List DFunc) (x : DFunc) (k : Nat) : Prop := ∀ i, x.code[k]? = some i → (i.op = 23 ∨ i.op = 24) → ∃ (q : Nat) (g : DFunc), i.a = (q : Int) ∧ fs[q]? = some g ∧ (g.inner = true → i.op = 24 ∧ g.outer = x.results)
theorem CallsR.mk' {fs : List DFunc} {x g : DFunc} {k q : Nat} {o : Int} (hc : x.code[k]? = some ⟨o, (q : Int)⟩) (hg : fs[q]? = some g) (h : g.inner = true → o = 24 ∧ g.outer = x.results) : CallsR fs x k := fun i hi _ => by
 rw [hc] at hi
 injection hi with hi
 subst hi
 exact ⟨q, g, rfl, hg, h⟩
theorem CallsR.no {fs : List DFunc} {x : DFunc} {k : Nat} {o a : Int} (hc : x.code[k]? = some ⟨o, a⟩) (h : ¬(o = 23 ∨ o = 24)) : CallsR fs x k := fun i hi ho => by
 rw [hc] at hi
 injection hi with hi
 subst hi
 exact absurd ho h
theorem rentryx_any (FA : Option Addr) (fn fc : Nat) (fs : List DFunc) (w : World) (h : PgC w FA fn fc fs) (hi : 0 < fn) :
  Calls Tryz.prog 118 #[.agg #[.slice FA fn fc]] w (IsBoolX (EntryR fs) w) := by
 obtain ⟨i0, hi0, hz0, hz1, hz2⟩ := info_parts info_ty
 obtain ⟨w1, hw1⟩ : ∃ X, w.alloc (.cells #[.slice FA fn fc] 24) = X := ⟨_, rfl⟩
 obtain ⟨g, hg⟩ : ∃ g, w.heap.size = g := ⟨_, rfl⟩
 have hb1 : Below w.heap.size w w1 := by rw [← hw1]; exact bl_one _
 have hc1 : Cells w1 g [.slice FA fn fc] := by rw [← hw1, ← hg]; exact Cells.new w [.slice FA fn fc] _
 have EP : Hid (∀ W, Below w1.heap.size w1 W → W.cell? ⟨g, 0, none⟩ = some (.slice FA fn fc)) := Hd fun W hW => (hc1.on hW).at_ 0 _ rfl
 have HP : Hid (∀ W, Below w1.heap.size w1 W → PgC W FA fn fc fs) := Hd fun W hW => h.on (hb1.trans (hW.mono hb1.size))
 have HB1 := Hd hb1
 have HBW : Hid (∀ W, Below w1.heap.size w1 W → Below w.heap.size w W) := Hd fun W hW => hb1.trans (hW.mono hb1.size)
 have hfn := h.pg.le
 have hn0 : (fn : Int) ≤ 50 := by omega
 have p0 := EP.out w1 (Below.refl _ _)
 clear hb1 hc1
 obtain ⟨bk, off, s, b, A0, n0, c0, A1, n1, c1, A2, n2, c2, A3, n3, c3, A4, n4, c4, A5, n5, c5, A6, n6, c6, A7, n7, c7, A8, n8, c8, x, rfl, hbk, hx, hcf, hfw, hcan⟩ := (HP.out w1 (Below.refl _ _)).get (i := 0) hi
 have y0 := hcf 0 _ rfl
 have y1 := hcf 1 _ rfl
 have y2 := hcf 2 _ rfl
 have y3 := hcf 3 _ rfl
 have y4 := hcf 4 _ rfl
 have y5 := hcf 5 _ rfl
 have y6 := hcf 6 _ rfl
 have y7 := hcf 7 _ rfl
 have y8 := hcf 8 _ rfl
 have y9 := hcf 9 _ rfl
 have y10 := hcf 10 _ rfl
 simp only [Nat.add_zero] at y0
 simp only [Nat.zero_mul, Nat.add_zero] at y0 y1 y2 y3 y4 y5 y6 y7 y8 y9 y10
 obtain ⟨s4, s5, s6, s7, s8, s0⟩ := hfw.sm
 have HX0 := Hd hx
 have HBI := Hd (pgc_inner (HP.out w1 (Below.refl _ _)) hi rfl hbk hcf hx)
 have HR1 := Hd hfw.r1
 have HR2 := Hd hfw.r2
 have t0 : ((fn : Int) == 0) = false := by rw [beq_eq_false_iff_ne]; omega
 have t0b : (fn == 0) = false := by rw [beq_eq_false_iff_ne]; omega
 have hfi : (0 : Int) < (fn : Int) := by omega
 clear h hfw hcan hcf hx
 go_in
 go_upto_region 4 with fail
 clear y0 y1 y2 y3 y4 y5 y6 y7 y8 y9 y10
 obtain ⟨w2, hw2⟩ : ∃ X, World.alloc w1 (.cells #[.string s, .bool b, .slice A0 n0 c0, .slice A1 n1 c1, .slice A2 n2 c2, .slice A3 n3 c3, .slice A4 n4 c4, .slice A5 n5 c5, .slice A6 n6 c6, .slice A7 n7 c7, .slice A8 n8 c8] 38) = X := ⟨_, rfl⟩
 obtain ⟨g2, hg2⟩ : ∃ X, (World.heap w1).size = X := ⟨_, rfl⟩
 have hb2 : Below (World.heap w1).size w1 w2 := by rw [← hw2]; exact bl_one _
 have hc2 : Cells w2 g2 [.string s, .bool b, .slice A0 n0 c0, .slice A1 n1 c1, .slice A2 n2 c2, .slice A3 n3 c3, .slice A4 n4 c4, .slice A5 n5 c5, .slice A6 n6 c6, .slice A7 n7 c7, .slice A8 n8 c8] := by rw [← hw2, ← hg2]; exact Cells.new w1 [.string s, .bool b, .slice A0 n0 c0, .slice A1 n1 c1, .slice A2 n2 c2, .slice A3 n3 c3, .slice A4 n4 c4, .slice A5 n5 c5, .slice A6 n6 c6, .slice A7 n7 c7, .slice A8 n8 c8] _
 rw [hw2, hg2]
 have HC2 : Hid (∀ W, Below w2.heap.size w2 W → Cells W g2 [.string s, .bool b, .slice A0 n0 c0, .slice A1 n1 c1, .slice A2 n2 c2, .slice A3 n3 c3, .slice A4 n4 c4, .slice A5 n5 c5, .slice A6 n6 c6, .slice A7 n7 c7, .slice A8 n8 c8]) := Hd fun W hW => hc2.on hW
 have HB2 := Hd hb2
 have hp1 := Hd (HR1.out.on hb2)
 have hp2 := Hd (HR2.out.on hb2)
 clear hw2 hg2 hc2 hb2 hw1 hg p0
 refine wp_region_held (S := fun W => Below w2.heap.size w2 W) (by kernel_rfl) ?_
 change wpAnyH _ _ _ _ _ _ _ _ (World.drew _)
 have hS0 : Below w2.heap.size w2 w2.drew := (Below.refl _ _).drew
 refine teH 1 (.pointer (some ⟨g2, 3, none⟩)) rfl (by intro W hW; go_simp; try (first | (with_reducible rfl) | omega)) hS0 ?_
 refine teH 4 (.pointer (some ⟨g2, 4, none⟩)) rfl (by intro W hW; go_simp; try (first | (with_reducible rfl) | omega)) hS0 ?_
 try go_simp
 refine teH 2 (.slice A1 n1 c1) rfl (by intro W hW; have x9 := HC2.out W hW; have x3 := x9.at_ 3 _ rfl; have x4 := x9.at_ 4 _ rfl; go_simp; try (first | (with_reducible rfl) | omega)) hS0 ?_
 refine teH 5 (.slice A2 n2 c2) rfl (by intro W hW; have x9 := HC2.out W hW; have x3 := x9.at_ 3 _ rfl; have x4 := x9.at_ 4 _ rfl; go_simp; try (first | (with_reducible rfl) | omega)) hS0 ?_
 try go_simp
 obtain ⟨wd, hwd⟩ : ∃ X, w2.drew = X := ⟨_, rfl⟩
 rw [hwd] at hS0
 rw [hwd]
 clear hwd
 have hE0 := own_empty wd w2.heap.size hS0.size
 obtain ⟨u1, hu1⟩ : ∃ X, World.alloc wd (.cells #[] 40) = X := ⟨_, rfl⟩
 obtain ⟨q1, hq1⟩ : ∃ X, (World.heap wd).size = X := ⟨_, rfl⟩
 have hS1 : Below w2.heap.size w2 u1 := by rw [← hu1]; exact hS0.alloc hS0.size _
 rw [hu1, hq1] at hE0
 have HE0 := Hd hE0
 clear hE0
 refine wpAnyH_one (i := 0) (by kernel_rfl) rfl (fun K hK => ?_)
 go_simp
 refine hK _ _ ⟨hS1, ?_⟩; clear hK K
 try go_simp
 have O1 := Hd (one_ty x.params)
 have O2 := Hd (one_ty x.results)
 have hsr1 := Hd (sli_src (hp1.out.on hS1))
 refine wpAnyH_one (i := 3) (by kernel_rfl) rfl (fun K hK => ?_)
 refine step_append_src _ rfl _ _ 32 rfl w2.heap.size 40 i0 (.int .i64 0) 1 8 Tryz.underlying32 hi0 hz0 hz1 hz2 rfl (by decide) (.slice (some ⟨q1, 0, none⟩) 0 0) 0 [] ?qq1 HE0.out A1 n1 c1 (x.params.flatMap iC) ?qq2 hsr1.out O1.out (by unfold maxLen; omega) (by omega) hS1.size ?_
 case qq1 => go_simp
 case qq2 => go_simp
 intro v' u2 hown' hgrow3 hat3
 rw [List.nil_append, Nat.zero_add] at hown'
 obtain ⟨TA, tc, rfl, _⟩ := own_form hown'
 have hS2 : Below w2.heap.size w2 u2 := Below.grown hS1 hgrow3 hS1.size (fun j hj => (HE0.out.lt j hj).1)
 have HT := Hd hown'
 have hsr2 := Hd (sli_src (hp2.out.on hS2))
 clear hown' hgrow3 hat3
 try rw [Nat.zero_add]
 go_simp
 refine hK _ _ ⟨hS2, ?_⟩; clear hK K
 try go_simp
 refine wpAnyH_one (i := 6) (by kernel_rfl) rfl (fun K hK => ?_)
 refine step_append_src _ rfl _ _ 32 rfl w2.heap.size 40 i0 (.int .i64 0) 1 8 Tryz.underlying32 hi0 hz0 hz1 hz2 rfl (by decide) (.slice TA n1 tc) n1 (x.params.flatMap iC) ?qq3 HT.out A2 n2 c2 (x.results.flatMap iC) ?qq4 hsr2.out O2.out (by unfold maxLen; omega) (by omega) hS2.size ?_
 case qq3 => go_simp
 case qq4 => go_simp
 intro v' u3 hown' hgrow3 hat3
 obtain ⟨UA, uc, rfl, _⟩ := own_form hown'
 have hS3 : Below w2.heap.size w2 u3 := Below.grown hS2 hgrow3 hS2.size (fun j hj => (HT.out.lt j hj).1)
 have HU : Hid (SlI u3 u3.heap.size UA (n1 + n2) uc (x.params ++ x.results)) := Hd (SlR.of_ownN (sz := 1) (bytes := 8) (f := iC) (fun _ => rfl) (by omega) (by rw [List.flatMap_append]; exact hown') (by unfold reachBytes; omega))
 clear hown' hgrow3 hat3
 go_simp
 refine hK _ _ ⟨hS3, ?_⟩; clear hK K
 try go_simp
 refine wpAnyH_one (i := 7) (by kernel_rfl) rfl (fun K hK => ?_)
 go_simp
 refine hK _ _ ⟨hS3, ?_⟩; clear hK K
 try go_simp
 refine wpAnyH_done (by kernel_rfl) ?_ _
 try go_simp
 have HS3 := Hd hS3
 obtain ⟨m, hm⟩ : ∃ v, n1 + n2 = v := ⟨_, rfl⟩
 rw [hm] at HU
 simp only [hm]
 have hm1 : (m : Int) ≤ 300 := by omega
 have e1 := (HC2.out u3 hS3).at_ 1 _ rfl
 have HFIN : Hid (Below w.heap.size w u3) := Hd (HBW.out _ (HB2.out.trans (hS3.mono HB2.out.size)))
 clear hS0 hS1 hS2 hS3 hm HE0 HT hsr1 hsr2 O1 O2
 go_wp2_with fail
 go_loopw [5] (fun iv wr => ∃ j : Nat, iv = .int .i64 (j : Int) ∧ j ≤ m ∧ wr = u3 ∧ Hid (∀ (i : Nat) (v : Int), i < j → (x.params ++ x.results)[i]? = some v → v = 1)) (fun iv _ => m - (intOf iv).toNat)
 case atStart => exact ⟨0, rfl, Nat.zero_le _, rfl, Hd fun i v hi => by omega⟩
 case round =>
  obtain ⟨j, rfl, hj, rfl, HO⟩ := hrel
  have hj0 : (0 : Int) ≤ (j : Int) := by omega
  by_cases hlt : j < m
  ·have hjm : (j : Int) < (m : Int) := by omega
   obtain ⟨ub, uo, v, rfl, hub, huv, uc0⟩ := SlR.cell1 (f := Value.int .i64) HU.out (i := j) hlt
   have HUV := Hd huv
   clear huv
   by_cases hv : v = 1
   ·subst hv
    go_wp2_with fail
    go_roundw
    case rel => exact ⟨j + 1, by go_num, by omega, trivial, Hd fun i v hi hv => by
     rcases Nat.lt_or_ge i j with hl | hl
     ·exact HO.out i v hl hv
     ·obtain rfl : i = j := by omega
      have := HUV.out
      rw [hv] at this
      injection this⟩
    case measure => simp [intOf]; omega
   ·have tv : (v != 1) = true := by simpa using hv
    go_wp2_with fail
    go_ret
    exact ⟨⟨_, rfl, fun h => by cases h⟩, HFIN.out⟩
  ·obtain rfl : j = m := by omega
   go_wp2_with fail
   go_ret
   exact ⟨⟨_, rfl, fun h => ⟨x, HX0.out, fun t ht => by
    obtain ⟨i, hi, hit⟩ := List.mem_iff_getElem.1 ht
    exact HO.out i t (by have := HU.out.1; omega) (by rw [List.getElem?_eq_getElem hi, hit]), by rw [← HBI.out]; simpa using h⟩⟩, HFIN.out⟩
theorem rcallsx_any (FA : Option Addr) (fn fc : Nat) (fs : List DFunc) (f k : Nat) (x0 : DFunc) (w : World) (h : PgC w FA fn fc fs) (hi : f < fn) (hx0 : fs[f]? = some x0) (hk : k < x0.code.length) (hbare : bareF x0 = true) :
  Calls Tryz.prog 119 #[.agg #[.slice FA fn fc], .int .i64 (f : Int), .int .i64 (k : Int)] w (IsIntX (CallsR fs x0 k) w) := by
 obtain ⟨w1, hw1⟩ : ∃ X, w.alloc (.cells #[.slice FA fn fc] 24) = X := ⟨_, rfl⟩
 obtain ⟨g, hg⟩ : ∃ g, w.heap.size = g := ⟨_, rfl⟩
 have hb1 : Below w.heap.size w w1 := by rw [← hw1]; exact bl_one _
 have hc1 : Cells w1 g [.slice FA fn fc] := by rw [← hw1, ← hg]; exact Cells.new w [.slice FA fn fc] _
 have EP : Hid (∀ W, Below w1.heap.size w1 W → W.cell? ⟨g, 0, none⟩ = some (.slice FA fn fc)) := Hd fun W hW => (hc1.on hW).at_ 0 _ rfl
 have HP : Hid (∀ W, Below w1.heap.size w1 W → PgC W FA fn fc fs) := Hd fun W hW => h.on (hb1.trans (hW.mono hb1.size))
 have HB1 := Hd hb1
 have HBW : Hid (∀ W, Below w1.heap.size w1 W → Below w.heap.size w W) := Hd fun W hW => hb1.trans (hW.mono hb1.size)
 have hfn := h.pg.le
 have hn0 : (fn : Int) ≤ 50 := by omega
 have p0 := EP.out w1 (Below.refl _ _)
 clear hb1 hc1
 obtain ⟨ow, how⟩ : ∃ v, ownerM x0 f k = v := ⟨_, rfl⟩
 have cW : Hid (∀ W, Below w1.heap.size w1 W → Calls Tryz.prog 147 #[.agg #[.slice FA fn fc], .int .i64 (f : Int), .int .i64 (k : Int)] W fun e w' => e = .returned (.int .i64 ow) ∧ 0 ≤ ow ∧ ow ≤ 49 ∧ Below W.heap.size W w') := Hd fun W hW => by have := rowner_any FA fn fc fs f k x0 W (HP.out W hW) hi hx0 hk; rwa [how] at this
 obtain ⟨bk, off, s, b, A0, n0, c0, A1, n1, c1, A2, n2, c2, A3, n3, c3, A4, n4, c4, A5, n5, c5, A6, n6, c6, A7, n7, c7, A8, n8, c8, x, rfl, hbk, hx, hcf, hfw, hcan⟩ := (HP.out w1 (Below.refl _ _)).get (i := f) hi
 have y0 := hcf 0 _ rfl
 have y1 := hcf 1 _ rfl
 have y2 := hcf 2 _ rfl
 have y3 := hcf 3 _ rfl
 have y4 := hcf 4 _ rfl
 have y5 := hcf 5 _ rfl
 have y6 := hcf 6 _ rfl
 have y7 := hcf 7 _ rfl
 have y8 := hcf 8 _ rfl
 have y9 := hcf 9 _ rfl
 have y10 := hcf 10 _ rfl
 simp only [Nat.add_zero] at y0
 obtain rfl : x0 = x := by rw [hx0] at hx; injection hx
 have l4 := hfw.r4.1
 obtain ⟨cb, co, yo, ya, rfl, hcb, hca, hcd, u0, u1⟩ := code_get hfw.r4 (show k < n4 by omega)
 have HCD := Hd hcd
 have HX0 := Hd hx0
 have HOW : Hid (ow = (f : Int)) := Hd (by rw [← how]; unfold ownerM; rw [if_pos hbare])
 clear hbare
 have hins := hcan.ins _ (List.mem_of_getElem? hcd)
 have HIN : Hid (opndM yo ≠ 1 → 0 ≤ ya) := Hd fun h1 => (hins.2.2.resolve_left h1).1
 obtain ⟨s4, s5, s6, s7, s8, s0⟩ := hfw.sm
 have hf0 : (0 : Int) ≤ (f : Int) := by omega
 have hf1 : (f : Int) < (fn : Int) := by omega
 have hk0 : (0 : Int) ≤ (k : Int) := by omega
 have hk1 : (k : Int) ≤ 150 := by omega
 have hkn : (k : Int) < (n4 : Int) := by omega
 clear h hfw hcan hcf hx hx0 l4 hca hcd hins hk how
 go_in
 go_upto_region 2 with fail
 clear y0 y1 y2 y3 y4 y5 y6 y7 y8 y9 y10 u0 u1
 obtain ⟨w2, hw2⟩ : ∃ X, w1.alloc (.cells #[.int .i64 yo, .int .i64 ya] 113) = X := ⟨_, rfl⟩
 obtain ⟨g2, hg2⟩ : ∃ X, w1.heap.size = X := ⟨_, rfl⟩
 have hb2 : Below w1.heap.size w1 w2 := by rw [← hw2]; exact bl_one _
 have hc2 : Cells w2 g2 [.int .i64 yo, .int .i64 ya] := by rw [← hw2, ← hg2]; exact Cells.new w1 [.int .i64 yo, .int .i64 ya] _
 rw [hw2, hg2]
 have HC2 : Hid (∀ W, Below w2.heap.size w2 W → Cells W g2 [.int .i64 yo, .int .i64 ya]) := Hd fun W hW => hc2.on hW
 have H12 : Hid (∀ W, Below w2.heap.size w2 W → Below w1.heap.size w1 W) := Hd fun W hW => hb2.trans (hW.mono hb2.size)
 have HBW2 : Hid (∀ W, Below w2.heap.size w2 W → Below w.heap.size w W) := Hd fun W hW => HBW.out W (hb2.trans (hW.mono hb2.size))
 have i0 := hc2.at_ 0 _ rfl
 have i1 := hc2.at_ 1 _ rfl
 have p2 := EP.out w2 hb2
 clear hw2 hg2 hc2 hb2 hw1 hg p0
 by_cases oc : yo = 23 ∨ yo = 24
 ·obtain ⟨q, rfl⟩ := Int.eq_ofNat_of_zero_le (HIN.out (by rcases oc with rfl | rfl <;> decide))
  have hq0 : (0 : Int) ≤ (q : Int) := by omega
  by_cases hq : q < fn
  ·have d1 : decide ((q : Int) ≥ (fn : Int)) = false := dcF (by omega)
   have d1b : decide (fn ≤ q) = false := dcF (by omega)
   have hqs : (q : Int) < (fn : Int) := by omega
   obtain ⟨jb, jo, zs, zb, ZA0, zn0, zc0, ZA1, zn1, zc1, ZA2, zn2, zc2, ZA3, zn3, zc3, ZA4, zn4, zc4, ZA5, zn5, zc5, ZA6, zn6, zc6, ZA7, zn7, zc7, ZA8, zn8, zc8, xq, hjA, hjb, hjx, hjc, hjf, hjn⟩ := (HP.out w2 (H12.out w2 (Below.refl _ _))).get hq
   obtain ⟨rfl, rfl⟩ : jb = bk ∧ jo = off := by injection hjA with hjA; injection hjA with a1 a2; exact ⟨a1.symm, a2.symm⟩
   have y0 := hjc 0 _ rfl
   have y1 := hjc 1 _ rfl
   have y2 := hjc 2 _ rfl
   have y3 := hjc 3 _ rfl
   have y4 := hjc 4 _ rfl
   have y5 := hjc 5 _ rfl
   have y6 := hjc 6 _ rfl
   have y7 := hjc 7 _ rfl
   have y8 := hjc 8 _ rfl
   have y9 := hjc 9 _ rfl
   have y10 := hjc 10 _ rfl
   simp only [Nat.add_zero] at y0
   have HJ0 := Hd hjf.r0
   have hjs := hjf.sm
   have HJX := Hd hjx
   have HBI := Hd (pgc_inner (HP.out w2 (H12.out w2 (Below.refl _ _))) hq rfl hjb hjc hjx)
   have HJS := Hd hjs
   clear hjA hjx hjc hjf hjn hjs
   have HOC := Hd oc
   cases zb with
   | false =>
    rcases oc with rfl | rfl
    ·go_wp2_with fail
     go_ret
     exact ⟨⟨_, rfl, fun _ => CallsR.mk' HCD.out HJX.out (fun h => by rw [← HBI.out] at h; cases h)⟩, HBW2.out _ (bl_one _)⟩
    ·go_wp2_with fail
     go_ret
     exact ⟨⟨_, rfl, fun _ => CallsR.mk' HCD.out HJX.out (fun h => by rw [← HBI.out] at h; cases h)⟩, HBW2.out _ (bl_one _)⟩
   | true =>
    have HI2 : Hid (∀ W, Below w2.heap.size w2 W → W.cell? ⟨g2, 0, none⟩ = some (.int .i64 yo) ∧ W.cell? ⟨g, 0, none⟩ = some (.slice (some ⟨jb, jo, none⟩) fn fc)) := Hd fun W hW => ⟨(HC2.out W hW).at_ 0 _ rfl, EP.out W (H12.out W hW)⟩
    have p3 : ∀ o, (w2.alloc o).cell? ⟨g, 0, none⟩ = some (.slice (some ⟨jb, jo, none⟩) fn fc) := fun o => EP.out _ (H12.out _ (bl_one o))
    rcases oc with rfl | rfl
    ·go_upto_region 7 with fail
     clear y0 y1 y2 y3 y4 y5 y6 y7 y8 y9 y10
     obtain ⟨w3, hw3⟩ : ∃ X, w2.alloc (.cells #[.string zs, .bool true, .slice ZA0 zn0 zc0, .slice ZA1 zn1 zc1, .slice ZA2 zn2 zc2, .slice ZA3 zn3 zc3, .slice ZA4 zn4 zc4, .slice ZA5 zn5 zc5, .slice ZA6 zn6 zc6, .slice ZA7 zn7 zc7, .slice ZA8 zn8 zc8] 38) = X := ⟨_, rfl⟩
     obtain ⟨g3, hg3⟩ : ∃ X, w2.heap.size = X := ⟨_, rfl⟩
     have hb3 : Below w2.heap.size w2 w3 := by rw [← hw3]; exact bl_one _
     have hc3 : Cells w3 g3 [.string zs, .bool true, .slice ZA0 zn0 zc0, .slice ZA1 zn1 zc1, .slice ZA2 zn2 zc2, .slice ZA3 zn3 zc3, .slice ZA4 zn4 zc4, .slice ZA5 zn5 zc5, .slice ZA6 zn6 zc6, .slice ZA7 zn7 zc7, .slice ZA8 zn8 zc8] := by rw [← hw3, ← hg3]; exact Cells.new w2 [.string zs, .bool true, .slice ZA0 zn0 zc0, .slice ZA1 zn1 zc1, .slice ZA2 zn2 zc2, .slice ZA3 zn3 zc3, .slice ZA4 zn4 zc4, .slice ZA5 zn5 zc5, .slice ZA6 zn6 zc6, .slice ZA7 zn7 zc7, .slice ZA8 zn8 zc8] _
     rw [hw3, hg3]
     have HC3 : Hid (∀ W, Below w3.heap.size w3 W → Cells W g3 [.string zs, .bool true, .slice ZA0 zn0 zc0, .slice ZA1 zn1 zc1, .slice ZA2 zn2 zc2, .slice ZA3 zn3 zc3, .slice ZA4 zn4 zc4, .slice ZA5 zn5 zc5, .slice ZA6 zn6 zc6, .slice ZA7 zn7 zc7, .slice ZA8 zn8 zc8]) := Hd fun W hW => hc3.on hW
     have HB3 := Hd hb3
     have z1 := hc3.at_ 1 _ rfl
     have cW3 := Hd (cW.out w3 (H12.out w3 hb3))
     have p4 := EP.out w3 (H12.out w3 hb3)
     clear hw3 hg3 hc3 hb3 p3 i0 i1 p2
     go_wp2_with fail
     refine cW3.out.mono ?_
     rintro e w4 ⟨rfl, ho0, ho1, hb4⟩
     have HB4 : Hid (Below w2.heap.size w2 w4) := Hd (HB3.out.trans (hb4.mono HB3.out.size))
     have HB34 := Hd hb4
     have p5 := EP.out w4 (H12.out w4 HB4.out)
     have z0 := (HC2.out w4 HB4.out).at_ 0 _ rfl
     clear hb4 cW3 z1 p4
     go_wp2_with fail
     go_quiet (fail)
     go_wp2_with fail
     go_ret
     exact ⟨⟨_, rfl, fun h => absurd h (by decide)⟩, HBW2.out _ (below_drewN' HB4.out _)⟩
    ·go_upto_region 7 with fail
     clear y0 y1 y2 y3 y4 y5 y6 y7 y8 y9 y10
     obtain ⟨w3, hw3⟩ : ∃ X, w2.alloc (.cells #[.string zs, .bool true, .slice ZA0 zn0 zc0, .slice ZA1 zn1 zc1, .slice ZA2 zn2 zc2, .slice ZA3 zn3 zc3, .slice ZA4 zn4 zc4, .slice ZA5 zn5 zc5, .slice ZA6 zn6 zc6, .slice ZA7 zn7 zc7, .slice ZA8 zn8 zc8] 38) = X := ⟨_, rfl⟩
     obtain ⟨g3, hg3⟩ : ∃ X, w2.heap.size = X := ⟨_, rfl⟩
     have hb3 : Below w2.heap.size w2 w3 := by rw [← hw3]; exact bl_one _
     have hc3 : Cells w3 g3 [.string zs, .bool true, .slice ZA0 zn0 zc0, .slice ZA1 zn1 zc1, .slice ZA2 zn2 zc2, .slice ZA3 zn3 zc3, .slice ZA4 zn4 zc4, .slice ZA5 zn5 zc5, .slice ZA6 zn6 zc6, .slice ZA7 zn7 zc7, .slice ZA8 zn8 zc8] := by rw [← hw3, ← hg3]; exact Cells.new w2 [.string zs, .bool true, .slice ZA0 zn0 zc0, .slice ZA1 zn1 zc1, .slice ZA2 zn2 zc2, .slice ZA3 zn3 zc3, .slice ZA4 zn4 zc4, .slice ZA5 zn5 zc5, .slice ZA6 zn6 zc6, .slice ZA7 zn7 zc7, .slice ZA8 zn8 zc8] _
     rw [hw3, hg3]
     have HC3 : Hid (∀ W, Below w3.heap.size w3 W → Cells W g3 [.string zs, .bool true, .slice ZA0 zn0 zc0, .slice ZA1 zn1 zc1, .slice ZA2 zn2 zc2, .slice ZA3 zn3 zc3, .slice ZA4 zn4 zc4, .slice ZA5 zn5 zc5, .slice ZA6 zn6 zc6, .slice ZA7 zn7 zc7, .slice ZA8 zn8 zc8]) := Hd fun W hW => hc3.on hW
     have HB3 := Hd hb3
     have z1 := hc3.at_ 1 _ rfl
     have cW3 := Hd (cW.out w3 (H12.out w3 hb3))
     have p4 := EP.out w3 (H12.out w3 hb3)
     clear hw3 hg3 hc3 hb3 p3 i0 i1 p2
     go_wp2_with fail
     refine cW3.out.mono ?_
     rintro e w4 ⟨rfl, ho0, ho1, hb4⟩
     have HB4 : Hid (Below w2.heap.size w2 w4) := Hd (HB3.out.trans (hb4.mono HB3.out.size))
     have HB34 := Hd hb4
     have p5 := EP.out w4 (H12.out w4 HB4.out)
     have z0 := (HC2.out w4 HB4.out).at_ 0 _ rfl
     clear hb4 cW3 z1 p4
     by_cases hof : ow < (fn : Int)
     ·obtain ⟨oq, rfl⟩ := Int.eq_ofNat_of_zero_le ho0
      have hoq : oq < fn := by omega
      obtain ⟨kb, ko, ks, kb_, KA0, kn0, kc0, KA1, kn1, kc1, KA2, kn2, kc2, KA3, kn3, kc3, KA4, kn4, kc4, KA5, kn5, kc5, KA6, kn6, kc6, KA7, kn7, kc7, KA8, kn8, kc8, xk, hkA, hkb, hkx, hkc, hkf, hkn2⟩ := (HP.out w4 (H12.out w4 HB4.out)).get hoq
      obtain ⟨rfl, rfl⟩ : kb = jb ∧ ko = jo := by injection hkA with hkA; injection hkA with a1 a2; exact ⟨a1.symm, a2.symm⟩
      have HK4 : Hid (w4.cell? ⟨kb, ko + oq * 11 + 4, none⟩ = some (.slice KA2 kn2 kc2) ∧ kb < w4.heap.size) := Hd ⟨hkc 4 _ rfl, hkb⟩
      have HKR := Hd hkf.r2
      have hks := hkf.sm
      have cS : Hid (∀ W, Below w4.heap.size w4 W → Calls Tryz.prog 125 #[.slice ZA0 zn0 zc0, .slice KA2 kn2 kc2] W (IsSame xq.outer xk.results W)) := Hd fun W hW => rsame_any _ _ _ _ _ _ _ _ W (HJ0.out.on (HB4.out.trans (hW.mono HB4.out.size))) (HKR.out.on hW) (by have := HJS.out; omega) (by omega)
      have hqf : (oq : Int) < (fn : Int) := hof
      have hq00 : (0 : Int) ≤ (oq : Int) := by omega
      have HKX := Hd hkx
      clear hkA hkx hkc hkf hkn2 hks
      go_wp2_with fail
      refine wp_region_held (S := fun W => Below w4.heap.size w4 W) (by kernel_rfl) ?_
      change wpAnyH _ _ _ _ _ _ _ _ (World.drew _)
      have hS0 : Below w4.heap.size w4 w4.drew := (Below.refl _ _).drew
      refine teH 0 (.pointer (some ⟨g2, 0, none⟩)) rfl (by intro W hW; have hW2 : Below w2.heap.size w2 W := HB4.out.trans (hW.mono HB4.out.size); obtain ⟨a9, b9⟩ := HI2.out W hW2; have c9 := (HC3.out W (HB34.out.trans (hW.mono HB34.out.size))).at_ 2 _ rfl; have k9 := (hW.cell (p := ⟨kb, ko + oq * 11 + 4, none⟩) HK4.out.2).trans HK4.out.1; go_simp; try (first | (with_reducible rfl) | omega)) hS0 ?_
      try go_simp
      refine teH 1 (.int .i64 24) rfl (by intro W hW; have hW2 : Below w2.heap.size w2 W := HB4.out.trans (hW.mono HB4.out.size); obtain ⟨a9, b9⟩ := HI2.out W hW2; have c9 := (HC3.out W (HB34.out.trans (hW.mono HB34.out.size))).at_ 2 _ rfl; have k9 := (hW.cell (p := ⟨kb, ko + oq * 11 + 4, none⟩) HK4.out.2).trans HK4.out.1; go_simp; try (first | (with_reducible rfl) | omega)) hS0 ?_
      try go_simp
      refine teH 2 (.bool false) rfl (by intro W hW; have hW2 : Below w2.heap.size w2 W := HB4.out.trans (hW.mono HB4.out.size); obtain ⟨a9, b9⟩ := HI2.out W hW2; have c9 := (HC3.out W (HB34.out.trans (hW.mono HB34.out.size))).at_ 2 _ rfl; have k9 := (hW.cell (p := ⟨kb, ko + oq * 11 + 4, none⟩) HK4.out.2).trans HK4.out.1; go_simp; try (first | (with_reducible rfl) | omega)) hS0 ?_
      try go_simp
      refine teH 3 (.bool false) rfl (by intro W hW; have hW2 : Below w2.heap.size w2 W := HB4.out.trans (hW.mono HB4.out.size); obtain ⟨a9, b9⟩ := HI2.out W hW2; have c9 := (HC3.out W (HB34.out.trans (hW.mono HB34.out.size))).at_ 2 _ rfl; have k9 := (hW.cell (p := ⟨kb, ko + oq * 11 + 4, none⟩) HK4.out.2).trans HK4.out.1; go_simp; try (first | (with_reducible rfl) | omega)) hS0 ?_
      try go_simp
      refine teH 4 (.int .i64 (oq : Int)) rfl (by intro W hW; have hW2 : Below w2.heap.size w2 W := HB4.out.trans (hW.mono HB4.out.size); obtain ⟨a9, b9⟩ := HI2.out W hW2; have c9 := (HC3.out W (HB34.out.trans (hW.mono HB34.out.size))).at_ 2 _ rfl; have k9 := (hW.cell (p := ⟨kb, ko + oq * 11 + 4, none⟩) HK4.out.2).trans HK4.out.1; go_simp; try (first | (with_reducible rfl) | omega)) hS0 ?_
      try go_simp
      refine teH 5 (.pointer (some ⟨g, 0, none⟩)) rfl (by intro W hW; have hW2 : Below w2.heap.size w2 W := HB4.out.trans (hW.mono HB4.out.size); obtain ⟨a9, b9⟩ := HI2.out W hW2; have c9 := (HC3.out W (HB34.out.trans (hW.mono HB34.out.size))).at_ 2 _ rfl; have k9 := (hW.cell (p := ⟨kb, ko + oq * 11 + 4, none⟩) HK4.out.2).trans HK4.out.1; go_simp; try (first | (with_reducible rfl) | omega)) hS0 ?_
      try go_simp
      refine teH 6 (.slice (some ⟨kb, ko, none⟩) fn fc) rfl (by intro W hW; have hW2 : Below w2.heap.size w2 W := HB4.out.trans (hW.mono HB4.out.size); obtain ⟨a9, b9⟩ := HI2.out W hW2; have c9 := (HC3.out W (HB34.out.trans (hW.mono HB34.out.size))).at_ 2 _ rfl; have k9 := (hW.cell (p := ⟨kb, ko + oq * 11 + 4, none⟩) HK4.out.2).trans HK4.out.1; go_simp; try (first | (with_reducible rfl) | omega)) hS0 ?_
      try go_simp
      refine teH 7 (.int .i64 (fn : Int)) rfl (by intro W hW; have hW2 : Below w2.heap.size w2 W := HB4.out.trans (hW.mono HB4.out.size); obtain ⟨a9, b9⟩ := HI2.out W hW2; have c9 := (HC3.out W (HB34.out.trans (hW.mono HB34.out.size))).at_ 2 _ rfl; have k9 := (hW.cell (p := ⟨kb, ko + oq * 11 + 4, none⟩) HK4.out.2).trans HK4.out.1; go_simp; try (first | (with_reducible rfl) | omega)) hS0 ?_
      try go_simp
      refine teH 8 (.bool false) rfl (by intro W hW; have hW2 : Below w2.heap.size w2 W := HB4.out.trans (hW.mono HB4.out.size); obtain ⟨a9, b9⟩ := HI2.out W hW2; have c9 := (HC3.out W (HB34.out.trans (hW.mono HB34.out.size))).at_ 2 _ rfl; have k9 := (hW.cell (p := ⟨kb, ko + oq * 11 + 4, none⟩) HK4.out.2).trans HK4.out.1; go_simp; try (first | (with_reducible rfl) | omega)) hS0 ?_
      try go_simp
      refine teH 9 (.bool false) rfl (by intro W hW; have hW2 : Below w2.heap.size w2 W := HB4.out.trans (hW.mono HB4.out.size); obtain ⟨a9, b9⟩ := HI2.out W hW2; have c9 := (HC3.out W (HB34.out.trans (hW.mono HB34.out.size))).at_ 2 _ rfl; have k9 := (hW.cell (p := ⟨kb, ko + oq * 11 + 4, none⟩) HK4.out.2).trans HK4.out.1; go_simp; try (first | (with_reducible rfl) | omega)) hS0 ?_
      try go_simp
      refine teH 10 (.bool false) rfl (by intro W hW; have hW2 : Below w2.heap.size w2 W := HB4.out.trans (hW.mono HB4.out.size); obtain ⟨a9, b9⟩ := HI2.out W hW2; have c9 := (HC3.out W (HB34.out.trans (hW.mono HB34.out.size))).at_ 2 _ rfl; have k9 := (hW.cell (p := ⟨kb, ko + oq * 11 + 4, none⟩) HK4.out.2).trans HK4.out.1; go_simp; try (first | (with_reducible rfl) | omega)) hS0 ?_
      try go_simp
      refine teH 11 (.pointer (some ⟨g3, 2, none⟩)) rfl (by intro W hW; have hW2 : Below w2.heap.size w2 W := HB4.out.trans (hW.mono HB4.out.size); obtain ⟨a9, b9⟩ := HI2.out W hW2; have c9 := (HC3.out W (HB34.out.trans (hW.mono HB34.out.size))).at_ 2 _ rfl; have k9 := (hW.cell (p := ⟨kb, ko + oq * 11 + 4, none⟩) HK4.out.2).trans HK4.out.1; go_simp; try (first | (with_reducible rfl) | omega)) hS0 ?_
      try go_simp
      refine teH 12 (.slice ZA0 zn0 zc0) rfl (by intro W hW; have hW2 : Below w2.heap.size w2 W := HB4.out.trans (hW.mono HB4.out.size); obtain ⟨a9, b9⟩ := HI2.out W hW2; have c9 := (HC3.out W (HB34.out.trans (hW.mono HB34.out.size))).at_ 2 _ rfl; have k9 := (hW.cell (p := ⟨kb, ko + oq * 11 + 4, none⟩) HK4.out.2).trans HK4.out.1; go_simp; try (first | (with_reducible rfl) | omega)) hS0 ?_
      try go_simp
      refine teH 13 (.pointer (some ⟨g, 0, none⟩)) rfl (by intro W hW; have hW2 : Below w2.heap.size w2 W := HB4.out.trans (hW.mono HB4.out.size); obtain ⟨a9, b9⟩ := HI2.out W hW2; have c9 := (HC3.out W (HB34.out.trans (hW.mono HB34.out.size))).at_ 2 _ rfl; have k9 := (hW.cell (p := ⟨kb, ko + oq * 11 + 4, none⟩) HK4.out.2).trans HK4.out.1; go_simp; try (first | (with_reducible rfl) | omega)) hS0 ?_
      try go_simp
      refine teH 14 (.slice (some ⟨kb, ko, none⟩) fn fc) rfl (by intro W hW; have hW2 : Below w2.heap.size w2 W := HB4.out.trans (hW.mono HB4.out.size); obtain ⟨a9, b9⟩ := HI2.out W hW2; have c9 := (HC3.out W (HB34.out.trans (hW.mono HB34.out.size))).at_ 2 _ rfl; have k9 := (hW.cell (p := ⟨kb, ko + oq * 11 + 4, none⟩) HK4.out.2).trans HK4.out.1; go_simp; try (first | (with_reducible rfl) | omega)) hS0 ?_
      try go_simp
      refine teH 15 (.int .i64 (oq : Int)) rfl (by intro W hW; have hW2 : Below w2.heap.size w2 W := HB4.out.trans (hW.mono HB4.out.size); obtain ⟨a9, b9⟩ := HI2.out W hW2; have c9 := (HC3.out W (HB34.out.trans (hW.mono HB34.out.size))).at_ 2 _ rfl; have k9 := (hW.cell (p := ⟨kb, ko + oq * 11 + 4, none⟩) HK4.out.2).trans HK4.out.1; go_simp; try (first | (with_reducible rfl) | omega)) hS0 ?_
      try go_simp
      refine teH 16 (.pointer (some ⟨kb, ko + oq * 11, none⟩)) rfl (by intro W hW; have hW2 : Below w2.heap.size w2 W := HB4.out.trans (hW.mono HB4.out.size); obtain ⟨a9, b9⟩ := HI2.out W hW2; have c9 := (HC3.out W (HB34.out.trans (hW.mono HB34.out.size))).at_ 2 _ rfl; have k9 := (hW.cell (p := ⟨kb, ko + oq * 11 + 4, none⟩) HK4.out.2).trans HK4.out.1; go_simp; try (first | (with_reducible rfl) | omega)) hS0 ?_
      try go_simp
      refine teH 17 (.pointer (some ⟨kb, ko + oq * 11 + 4, none⟩)) rfl (by intro W hW; have hW2 : Below w2.heap.size w2 W := HB4.out.trans (hW.mono HB4.out.size); obtain ⟨a9, b9⟩ := HI2.out W hW2; have c9 := (HC3.out W (HB34.out.trans (hW.mono HB34.out.size))).at_ 2 _ rfl; have k9 := (hW.cell (p := ⟨kb, ko + oq * 11 + 4, none⟩) HK4.out.2).trans HK4.out.1; go_simp; try (first | (with_reducible rfl) | omega)) hS0 ?_
      try go_simp
      refine teH 18 (.slice KA2 kn2 kc2) rfl (by intro W hW; have hW2 : Below w2.heap.size w2 W := HB4.out.trans (hW.mono HB4.out.size); obtain ⟨a9, b9⟩ := HI2.out W hW2; have c9 := (HC3.out W (HB34.out.trans (hW.mono HB34.out.size))).at_ 2 _ rfl; have k9 := (hW.cell (p := ⟨kb, ko + oq * 11 + 4, none⟩) HK4.out.2).trans HK4.out.1; go_simp; try (first | (with_reducible rfl) | omega)) hS0 ?_
      try go_simp
      refine wpAnyH_one (i := 19) (by kernel_rfl) rfl (fun K hK => ?_)
      go_simp
      refine (cS.out _ hS0).mono ?_
      rintro e w5 ⟨r, rfl, hsm, hb5⟩
      have HSM := Hd hsm
      clear hsm
      have hS5 : Below w4.heap.size w4 w5 := hS0.trans (hb5.mono hS0.size)
      clear hb5
      go_simp
      refine hK _ _ ⟨hS5, ?_⟩; clear hK K
      try go_simp
      refine teH 20 (.bool (!r)) rfl (by intro W hW; go_simp; try (first | (with_reducible rfl) | omega)) hS5 ?_
      try go_simp
      refine teH 21 (.bool (!r)) rfl (by intro W hW; go_simp; try (first | (with_reducible rfl) | omega)) hS5 ?_
      try go_simp
      refine wpAnyH_done (by kernel_rfl) ?_ _
      try go_simp
      have HS5 : Hid (Below w.heap.size w w5) := Hd (HBW2.out _ (HB4.out.trans (hS5.mono HB4.out.size)))
      clear hS0 hS5
      cases r with
      | true =>
       go_wp2_with fail
       go_ret
       exact ⟨⟨_, rfl, fun _ => CallsR.mk' HCD.out HJX.out (fun _ => ⟨rfl, by
        obtain rfl : oq = f := by have := HOW.out; omega
        have h1 := HSM.out (by trivial)
        have h2 := HKX.out
        rw [HX0.out] at h2
        injection h2 with h2
        rw [h1, h2]⟩)⟩, HS5.out⟩
      | false =>
       go_wp2_with fail
       go_ret
       exact ⟨⟨_, rfl, fun h => absurd h (by decide)⟩, HS5.out⟩
     ·have d5 : decide (ow ≥ (fn : Int)) = true := dcT (by omega)
      have d5b : decide ((fn : Int) ≤ ow) = true := dcT (by omega)
      go_wp2_with fail
      go_quiet (fail)
      go_wp2_with fail
      go_ret
      exact ⟨⟨_, rfl, fun h => absurd h (by decide)⟩, HBW2.out _ (below_drewN' HB4.out _)⟩
  ·have d1 : decide ((q : Int) ≥ (fn : Int)) = true := dcT (by omega)
   have d1b : decide (fn ≤ q) = true := dcT (by omega)
   rcases oc with rfl | rfl
   ·go_wp2_with fail
    go_ret
    exact ⟨⟨_, rfl, fun h => absurd h (by decide)⟩, HBW2.out _ (Below.refl _ _)⟩
   ·go_wp2_with fail
    go_ret
    exact ⟨⟨_, rfl, fun h => absurd h (by decide)⟩, HBW2.out _ (Below.refl _ _)⟩
 ·have e1 : (yo != 23) = true := by rw [bne_iff_ne]; omega
  have e2 : (yo != 24) = true := by rw [bne_iff_ne]; omega
  have e3 : (yo == 23) = false := by rw [beq_eq_false_iff_ne]; omega
  have e4 : (yo == 24) = false := by rw [beq_eq_false_iff_ne]; omega
  go_wp2_with fail
  go_ret
  exact ⟨⟨_, rfl, fun _ => CallsR.no HCD.out oc⟩, HBW2.out _ (Below.refl _ _)⟩
end
end Go.Proofs.YtobmjnmcjddhcaaGreat
