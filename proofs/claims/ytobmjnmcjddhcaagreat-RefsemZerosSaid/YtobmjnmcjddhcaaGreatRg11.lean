import Derived.Test.YtobmjnmcjddhcaaGreatRg10
import Derived.Deep.DeepCutAuto
import Derived.Deep.LoopGhost
import Derived.Test.YtobmjnmcjddhcaaGreatRg8
set_option linter.unusedSimpArgs false
set_option linter.unusedVariables false
namespace Go.Proofs.YtobmjnmcjddhcaaGreat
section
set_option maxRecDepth 100000
set_option maxHeartbeats 16000000
open Go.RowKit
def notY (W : World) (ob i : Nat) : Bool := match W.cell? ⟨ob, i, none⟩ with
 | some (.bool b) => !b
 | _ => false
def muF (W : World) (ob n : Nat) : Nat := (List.range n).countP fun i => notY W ob i
def cntF (n : Nat) (f : Nat → Bool) : Nat := (List.range n).countP fun i => !f i
theorem muF_of {W : World} {ob n : Nat} {f : Nat → Bool} (h : Cells W ob (arrB n f)) : muF W ob n = cntF n f := by
 unfold muF cntF
 refine List.countP_congr fun i hi => ?_
 have hc := h.at_ i _ (arrB_at f (List.mem_range.1 hi))
 unfold notY
 rw [hc]
theorem cntF_le (n : Nat) (f : Nat → Bool) : cntF n f ≤ n := by
 have := List.countP_le_length (p := fun i => !f i) (l := List.range n)
 rw [List.length_range] at this
 exact this
theorem cntF_upd {n : Nat} {f : Nat → Bool} {p : Nat} (hp : p < n) (h : f p = false) : cntF n (upd f p true) < cntF n f := by
 refine countP_lt _ _ _ (fun i _ hi => ?_) ⟨p, List.mem_range.2 hp, by simp [upd], by simp [h]⟩
 by_cases e : i = p
 ·subst e; simp [upd] at hi
 ·simpa [upd, e] using hi
def outLen (v : Value) : Nat := match v with
 | .slice _ n _ => n
 | _ => 0
def IsReach (n : Nat) (w : World) (e : Ending) (w' : World) : Prop := ∃ ob f, e = .returned (.slice (some ⟨ob, 0, none⟩) n n) ∧ Cells w' ob (arrB n f) ∧ Below w.heap.size w w'
structure RS (w1 : World) (ob n4 : Nat) (W : World) (A : Option Addr) (n c : Nat) (xs : List Int) (f : Nat → Bool) : Prop where
 q : QuW W (ob + 1) A n c xs
 b : Cells W ob (arrB n4 f)
 w : Below w1.heap.size w1 W
 le : w1.heap.size ≤ ob
theorem RS.blk {w1 : World} {ob n4 : Nat} {W : World} {A : Option Addr} {n c : Nat} {xs : List Int} {f : Nat → Bool} (h : RS w1 ob n4 W A n c xs f) {g o : Nat} (hA : A = some ⟨g, o, none⟩) : ob + 1 ≤ g := by
 rcases h.q.at_ with ⟨h1, _⟩ | ⟨g', o', h1, h2, _⟩
 ·rw [h1] at hA; cases hA
 ·rw [h1] at hA; injection hA with hA; injection hA with e1 e2; omega
theorem RS.on {w1 : World} {ob n4 : Nat} {W W' : World} {A : Option Addr} {n c : Nat} {xs : List Int} {f : Nat → Bool} (h : RS w1 ob n4 W A n c xs f) (hb : Below W.heap.size W W') : RS w1 ob n4 W' A n c xs f :=
 ⟨h.q.on hb, h.b.on hb, h.w.trans (hb.mono h.w.size), h.le⟩
theorem RS.app {w1 : World} {ob n4 : Nat} {W W' : World} {A A' : Option Addr} {n c n' c' : Nat} {xs xs' : List Int} {f : Nat → Bool} (h : RS w1 ob n4 W A n c xs f) (hq : QuW W' (ob + 1) A' n' c' xs') (hk : Kp (fun j => ∃ o, A = some ⟨j, o, none⟩) W W') : RS w1 ob n4 W' A' n' c' xs' f :=
 ⟨hq, h.b.kp hk (fun ⟨o, ho⟩ => by have := h.blk ho; omega), h.w.trans (hk.below h.w.size fun j ⟨o, ho⟩ => by have := h.blk ho; have := h.le; omega), h.le⟩
theorem RS.yes {w1 : World} {ob n4 : Nat} {W : World} {A : Option Addr} {n c : Nat} {xs : List Int} {f : Nat → Bool} (h : RS w1 ob n4 W A n c xs f) {p : Nat} (hp : p < n4) : RS w1 ob n4 (W.setCell ⟨ob, p, none⟩ (.bool true)) A n c xs (upd f p true) :=
 ⟨h.q.kp (kp_set W ob p (.bool true)) (fun g o hA e => by have := h.blk hA; omega), by
  have := h.b.put p (by rw [arrB_len]; exact hp) (.bool true)
  rwa [arrB_set] at this, h.w.setCell (p := ⟨ob, p, none⟩) h.le _, h.le⟩
theorem RS.cut {w1 : World} {ob n4 : Nat} {W : World} {g o n c : Nat} {v : Int} {xs : List Int} {f : Nat → Bool} (h : RS w1 ob n4 W (some ⟨g, o, none⟩) (n + 1) c (v :: xs) f) {A : Option Addr} (hA : A = some ⟨g, o + 1, none⟩ ∨ (A = some ⟨g, o, none⟩ ∧ c = 1)) : RS w1 ob n4 W A n (c - 1) xs f :=
 ⟨h.q.tail hA, h.b, h.w, h.le⟩
theorem RS.mu {w1 : World} {ob n4 : Nat} {W : World} {A : Option Addr} {n c : Nat} {xs : List Int} {f : Nat → Bool} (h : RS w1 ob n4 W A n c xs f) : muF W ob n4 = cntF n4 f := muF_of h.b
theorem src_row {W : World} {base k c : Nat} {A : Option Addr} {l : List Int} (h : W.ownsRow base 3 1 (.slice A k c) k (rowI l)) (hk : k ≤ 100000) : SrcCells W A k 1 (rowI l) := by
 have h1 := SlI.own h hk
 have h2 := SlR.src (f := fun x : Int => [Value.int .i64 x]) (fun _ => rfl) h1
 have e : l.flatMap (fun x : Int => [Value.int .i64 x]) = rowI l := by
  unfold rowI
  clear h h1 h2
  induction l with
  | nil => rfl
  | cons a l ih => rw [List.flatMap_cons, ih]; rfl
 rwa [e] at h2
theorem rreach_any (s : ByteArray) (b : Bool) (A0 : Option Addr) (n0 c0 : Nat) (A1 : Option Addr) (n1 c1 : Nat) (A2 : Option Addr) (n2 c2 : Nat) (A3 : Option Addr) (n3 c3 : Nat) (A4 : Option Addr) (n4 c4 : Nat) (A5 : Option Addr) (n5 c5 : Nat) (A6 : Option Addr) (n6 c6 : Nat) (A7 : Option Addr) (n7 c7 : Nat) (A8 : Option Addr) (n8 c8 : Nat) (x : DFunc) (w : World) (h : FnW w w.heap.size s b A0 n0 c0 A1 n1 c1 A2 n2 c2 A3 n3 c3 A4 n4 c4 A5 n5 c5 A6 n6 c6 A7 n7 c7 A8 n8 c8 x) (hn4 : 1 ≤ n4) : Calls Tryz.prog 121 #[.agg #[.string s, .bool b, .slice A0 n0 c0, .slice A1 n1 c1, .slice A2 n2 c2, .slice A3 n3 c3, .slice A4 n4 c4, .slice A5 n5 c5, .slice A6 n6 c6, .slice A7 n7 c7, .slice A8 n8 c8]] w (IsReach n4 w) := by
 obtain ⟨i0, hi, hz0, hz1, hz2⟩ := info_parts info_int
 obtain ⟨w1, hw1⟩ : ∃ X, w.alloc (.cells #[.string s, .bool b, .slice A0 n0 c0, .slice A1 n1 c1, .slice A2 n2 c2, .slice A3 n3 c3, .slice A4 n4 c4, .slice A5 n5 c5, .slice A6 n6 c6, .slice A7 n7 c7, .slice A8 n8 c8] 38) = X := ⟨_, rfl⟩
 obtain ⟨g, hg⟩ : ∃ g, w.heap.size = g := ⟨_, rfl⟩
 have hb1 : Below w.heap.size w w1 := by rw [← hw1]; exact bl_one _
 have hc1 : Cells w1 g [.string s, .bool b, .slice A0 n0 c0, .slice A1 n1 c1, .slice A2 n2 c2, .slice A3 n3 c3, .slice A4 n4 c4, .slice A5 n5 c5, .slice A6 n6 c6, .slice A7 n7 c7, .slice A8 n8 c8] := by rw [← hw1, ← hg]; exact Cells.new w [.string s, .bool b, .slice A0 n0 c0, .slice A1 n1 c1, .slice A2 n2 c2, .slice A3 n3 c3, .slice A4 n4 c4, .slice A5 n5 c5, .slice A6 n6 c6, .slice A7 n7 c7, .slice A8 n8 c8] _
 have h1 := (h.keep hb1).more hb1.size
 have HB1 := Hd hb1
 obtain ⟨s4, s5, s6, s7, s8, s0⟩ := h.sm
 have HF : Hid (∀ W, Below w1.heap.size w1 W → FnW W W.heap.size s b A0 n0 c0 A1 n1 c1 A2 n2 c2 A3 n3 c3 A4 n4 c4 A5 n5 c5 A6 n6 c6 A7 n7 c7 A8 n8 c8 x) := Hd fun W hW => (h1.keep hW).more hW.size
 have HC : Hid (∀ W, Below w1.heap.size w1 W → Cells W g [.string s, .bool b, .slice A0 n0 c0, .slice A1 n1 c1, .slice A2 n2 c2, .slice A3 n3 c3, .slice A4 n4 c4, .slice A5 n5 c5, .slice A6 n6 c6, .slice A7 n7 c7, .slice A8 n8 c8]) := Hd fun W hW => hc1.on hW
 have EQ : Hid (∀ W, Below w1.heap.size w1 W → W.cell? ⟨g, 0, none⟩ = some (.string s) ∧ W.cell? ⟨g, 1, none⟩ = some (.bool b) ∧ W.cell? ⟨g, 2, none⟩ = some (.slice A0 n0 c0) ∧ W.cell? ⟨g, 3, none⟩ = some (.slice A1 n1 c1) ∧ W.cell? ⟨g, 4, none⟩ = some (.slice A2 n2 c2) ∧ W.cell? ⟨g, 5, none⟩ = some (.slice A3 n3 c3) ∧ W.cell? ⟨g, 6, none⟩ = some (.slice A4 n4 c4) ∧ W.cell? ⟨g, 7, none⟩ = some (.slice A5 n5 c5) ∧ W.cell? ⟨g, 8, none⟩ = some (.slice A6 n6 c6) ∧ W.cell? ⟨g, 9, none⟩ = some (.slice A7 n7 c7) ∧ W.cell? ⟨g, 10, none⟩ = some (.slice A8 n8 c8)) := Hd fun W hW => ⟨(HC.out W hW).at_ 0 _ rfl, (HC.out W hW).at_ 1 _ rfl, (HC.out W hW).at_ 2 _ rfl, (HC.out W hW).at_ 3 _ rfl, (HC.out W hW).at_ 4 _ rfl, (HC.out W hW).at_ 5 _ rfl, (HC.out W hW).at_ 6 _ rfl, (HC.out W hW).at_ 7 _ rfl, (HC.out W hW).at_ 8 _ rfl, (HC.out W hW).at_ 9 _ rfl, (HC.out W hW).at_ 10 _ rfl⟩
 have HBW : Hid (∀ W, Below w1.heap.size w1 W → Below w.heap.size w W) := Hd fun W hW => hb1.trans (hW.mono hb1.size)
 have HN6 : Hid (x.nodes.length = n6) := Hd h1.r6.1
 have hn40 : (n4 : Int) ≤ 150 := by omega
 have hn41 : (1 : Int) ≤ (n4 : Int) := by omega
 obtain ⟨zc, hzc, hmk⟩ := made_bool n4 (by omega)
 have e0 := hc1.at_ 0 _ rfl
 have e1 := hc1.at_ 1 _ rfl
 have e2 := hc1.at_ 2 _ rfl
 have e3 := hc1.at_ 3 _ rfl
 have e4 := hc1.at_ 4 _ rfl
 have e5 := hc1.at_ 5 _ rfl
 have e6 := hc1.at_ 6 _ rfl
 have e7 := hc1.at_ 7 _ rfl
 have e8 := hc1.at_ 8 _ rfl
 have e9 := hc1.at_ 9 _ rfl
 have e10 := hc1.at_ 10 _ rfl
 clear h h1 hb1 hc1
 go_in
 go_wp2_with fail
 obtain ⟨ob, hob⟩ : ∃ X, w1.heap.size = X := ⟨_, rfl⟩
 obtain ⟨w2, hw2⟩ : ∃ X, w1.alloc (.cells zc 4) = X := ⟨_, rfl⟩
 have hb2 : Below w1.heap.size w1 w2 := by rw [← hw2]; exact bl_one _
 have hz2' : w2.heap.size = ob + 1 := by rw [← hw2]; simp; omega
 have ho2 : Cells w2 ob (arrB n4 (fun _ => false)) := by rw [← hw2, ← hob, ← hzc]; exact Cells.new w1 zc.toList _
 obtain ⟨w3, hw3⟩ : ∃ X, w2.alloc (.cells #[.int .i64 0] 3) = X := ⟨_, rfl⟩
 have hb3 : Below w2.heap.size w2 w3 := by rw [← hw3]; exact bl_one _
 have hq3 : QuW w3 (ob + 1) (some ⟨ob + 1, 0, none⟩) 1 1 [0] := by
  rw [← hw3, ← hz2']
  exact QuW.ofOwn (row_one (Below.refl _ _) 0)
 have HO2 := Hd ho2
 have HR3 : Hid (RS w1 ob n4 w3 (some ⟨ob + 1, 0, none⟩) 1 1 [0] (fun _ => false)) := Hd ⟨hq3, ho2.on hb3, hb2.trans (hb3.mono hb2.size), by omega⟩
 have cN : Hid (∀ W, Below w1.heap.size w1 W → ∀ p, p < n4 → Calls Tryz.prog 123 #[.agg #[.string s, .bool b, .slice A0 n0 c0, .slice A1 n1 c1, .slice A2 n2 c2, .slice A3 n3 c3, .slice A4 n4 c4, .slice A5 n5 c5, .slice A6 n6 c6, .slice A7 n7 c7, .slice A8 n8 c8], .int .i64 (p : Int)] W (IsRow (nextM x p) W)) := Hd fun W hW p hp => rnext_any s b A0 n0 c0 A1 n1 c1 A2 n2 c2 A3 n3 c3 A4 n4 c4 A5 n5 c5 A6 n6 c6 A7 n7 c7 A8 n8 c8 x p W (HF.out W hW) hp
 have cC : Hid (∀ W, Below w1.heap.size w1 W → ∀ p, p < n4 → Calls Tryz.prog 150 #[.agg #[.string s, .bool b, .slice A0 n0 c0, .slice A1 n1 c1, .slice A2 n2 c2, .slice A3 n3 c3, .slice A4 n4 c4, .slice A5 n5 c5, .slice A6 n6 c6, .slice A7 n7 c7, .slice A8 n8 c8], .int .i64 (p : Int)] W (IsRow (catchM x p) W)) := Hd fun W hW p hp => rcatch_any s b A0 n0 c0 A1 n1 c1 A2 n2 c2 A3 n3 c3 A4 n4 c4 A5 n5 c5 A6 n6 c6 A7 n7 c7 A8 n8 c8 x p W (HF.out W hW) hp
 have cO : Hid (∀ W, Below w1.heap.size w1 W → ∀ p, p < n4 → Calls Tryz.prog 124 #[.agg #[.string s, .bool b, .slice A0 n0 c0, .slice A1 n1 c1, .slice A2 n2 c2, .slice A3 n3 c3, .slice A4 n4 c4, .slice A5 n5 c5, .slice A6 n6 c6, .slice A7 n7 c7, .slice A8 n8 c8], .int .i64 (p : Int)] W (IsRow (opensM x p) W)) := Hd fun W hW p hp => ropens_any s b A0 n0 c0 A1 n1 c1 A2 n2 c2 A3 n3 c3 A4 n4 c4 A5 n5 c5 A6 n6 c6 A7 n7 c7 A8 n8 c8 x p W (HF.out W hW) hp
 clear ho2 hq3 hb2 hb3 hz2' hzc e0 e1 e2 e3 e4 e5 e6 e7 e8 e9 e10 hw1 hg hmk
 rw [hw2, hw3, hob]
 clear hw2 hw3 hob
 go_loopw [4, 5] (fun tv _ wr => ∃ (A : Option Addr) (n c : Nat), tv = .slice A n c ∧ n ≤ 20000 ∧ Hid (∃ (xs : List Int) (f : Nat → Bool), RS w1 ob n4 wr A n c xs f ∧ cntF n4 f * 100 + n ≤ 20000)) (fun tv _ wr => muF wr ob n4 * 100 + outLen tv)
 case atStart => exact ⟨_, 1, 1, rfl, by omega, Hd ⟨[0], fun _ => false, HR3.out, by have := cntF_le n4 (fun _ => false); omega⟩⟩
 case round =>
  obtain ⟨A, n, c, rfl, hn, HK⟩ := hrel
  obtain ⟨xs, f, hrs, hmu⟩ := HK.out
  have HR := Hd hrs
  have HMU := Hd hmu
  have hn0 : (n : Int) ≤ 20000 := by omega
  obtain ⟨e0, e1, e2, e3, e4, e5, e6, e7, e8, e9, e10⟩ := EQ.out wr hrs.w
  clear hrs hmu HK
  by_cases h0 : n = 0
  ·subst h0
   go_wp2_with fail
   go_ret
   exact ⟨ob, f, rfl, HR.out.b, HBW.out _ HR.out.w⟩
  ·obtain ⟨n', rfl⟩ : ∃ m, n = m + 1 := ⟨n - 1, by omega⟩
   obtain ⟨v, ys, hxs⟩ : ∃ v ys, xs = v :: ys := by
    have hl := HR.out.q.len
    cases xs with
    | nil => simp at hl
    | cons v ys => exact ⟨v, ys, rfl⟩
   subst hxs
   obtain ⟨gq, oq, rfl, hgq, hgl, hth, hra⟩ : ∃ g o, A = some ⟨g, o, none⟩ ∧ ob + 1 ≤ g ∧ g < wr.heap.size ∧ wr.there g o c ∧ wr.rangeAt g o (rowI (v :: ys)) := by
    rcases HR.out.q.at_ with ⟨_, h, _⟩ | h
    ·exact absurd h (by omega)
    ·exact h
   have y0 : wr.cell? ⟨gq, oq, none⟩ = some (.int .i64 v) := hra 0 _ rfl
   have hcm : (c : Int) ≤ 9223372036854775807 := by have := HR.out.q.mx; unfold maxLen at this; omega
   have hnc : n' + 1 ≤ c := HR.out.q.le
   have hnc' : (n' : Int) + 1 ≤ (c : Int) := by omega
   have hn1 : (0 : Int) < (n' : Int) + 1 := by omega
   clear hth hra h0 hgq hgl
   go_upto_region 5 with fail
   go_cut [4] (fun sv wx => ∃ (A2 : Option Addr) (c2 : Nat), sv = .slice A2 n' c2 ∧ wx = wr ∧ Hid (RS w1 ob n4 wr A2 n' c2 ys f))
   case first =>
    by_cases h1 : c = 1
    ·subst h1
     obtain rfl : n' = 0 := by omega
     go_wp2_with fail
     go_meet
     exact ⟨_, 0, rfl, rfl, Hd (HR.out.cut (.inr ⟨rfl, rfl⟩))⟩
    ·go_wp2_with fail
     go_meet
     exact ⟨_, c - 1, rfl, rfl, Hd (HR.out.cut (.inl rfl))⟩
   case rest =>
    obtain ⟨T2, t2, rfl, rfl, HT⟩ := hcut
    clear y0 hnc hnc' hcm hn1 HR
    by_cases hv0 : v < 0
    ·have t0 : decide (v < 0) = true := dcT (by omega)
     go_wp2_with fail
     go_roundw
     case rel => exact ⟨T2, n', t2, rfl, by omega, Hd ⟨ys, f, HT.out, by have := HMU.out; omega⟩⟩
     case measure => simp [outLen]
    by_cases hv1 : v < (n4 : Int)
    ·obtain ⟨p, rfl⟩ := Int.eq_ofNat_of_zero_le (show 0 ≤ v by omega)
     have hp : p < n4 := by omega
     have hp0 : (0 : Int) ≤ (p : Int) := by omega
     have hp1 : (p : Int) ≤ 150 := by omega
     have t1 : decide (n4 ≤ p) = false := dcF (by omega)
     have t1b : decide ((p : Int) ≥ (n4 : Int)) = false := dcF (by omega)
     have z0 := HT.out.b.at_ p _ (arrB_at f hp)
     obtain ⟨r, hr⟩ : ∃ r, f p = r := ⟨_, rfl⟩
     rw [hr] at z0
     have HFP := Hd hr
     clear hr
     cases r with
     | true =>
      go_wp2_with fail
      go_roundw
      case rel => exact ⟨T2, n', t2, rfl, by omega, Hd ⟨ys, f, HT.out, by have := HMU.out; omega⟩⟩
      case measure => simp [outLen]
     | false =>
      have fz := HT.out.b.fz p (by rw [arrB_len]; exact hp)
      obtain ⟨w4, hw4⟩ : ∃ X, wc.setCell ⟨ob, p, none⟩ (.bool true) = X := ⟨_, rfl⟩
      have H3 : Hid (RS w1 ob n4 w4 T2 n' t2 ys (upd f p true)) := Hd (by rw [← hw4]; exact HT.out.yes hp)
      have HCF : Hid (cntF n4 (upd f p true) < cntF n4 f) := Hd (cntF_upd hp HFP.out)
      have h22 := catchM_len x p
      have h23 := HN6.out
      have h24 := nextM_len x p
      have h25 := opensM_len x p
      have HLC : Hid ((catchM x p).length ≤ 21) := Hd (by omega)
      have HLN := Hd h24
      have HLO := Hd h25
      clear h22 h23 h24 h25
      go_upto_region 8 with fail
      clear e0 e1 e2 e3 e4 e5 e6 e7 e8 e9 e10 z0 fz
      obtain ⟨e0, e1, e2, e3, e4, e5, e6, e7, e8, e9, e10⟩ := EQ.out w4 H3.out.w
      have cX3 := Hd (cN.out w4 H3.out.w p hp)
      go_wp2_with fail
      refine cX3.out.mono ?_
      rintro e wa3 ⟨R3, m3, d3, rfl, hor, hbx⟩
      have hm3 : m3 ≤ 21 := by have := row_len hor; have := HLN.out; omega
      have HSR3 := Hd (src_row hor (by omega))
      have HA3 := Hd (H3.out.on hbx)
      clear hor hbx cX3 e0 e1 e2 e3 e4 e5 e6 e7 e8 e9 e10
      go_wp2_with (first
        | (at_builtin; go_must (refine wpList_append_qu _ rfl _ _ 34 rfl (ob + 1) 3 i0 (.int .i64 0) Tryz.underlying34 hi hz0 hz1 hz2 rfl rfl T2 _ _ _ rfl HA3.out.q R3 m3 d3 _ rfl HSR3.out (by omega) (by have := HA3.out.w.size; have := HA3.out.b.lt; omega) ?_)
           intro Q4 q4 wb3 hqq hkk
           have H4 := Hd (HA3.out.app hqq hkk)
           obtain ⟨e0, e1, e2, e3, e4, e5, e6, e7, e8, e9, e10⟩ := EQ.out wb3 H4.out.w
           clear hqq hkk)
        | fail)
      have cX4 := Hd (cC.out wb3 H4.out.w p hp)
      go_wp2_with fail
      refine cX4.out.mono ?_
      rintro e wa4 ⟨R4, m4, d4, rfl, hor, hbx⟩
      have hm4 : m4 ≤ 21 := by have := row_len hor; have := HLC.out; omega
      have HSR4 := Hd (src_row hor (by omega))
      have HA4 := Hd (H4.out.on hbx)
      clear hor hbx cX4 e0 e1 e2 e3 e4 e5 e6 e7 e8 e9 e10
      go_wp2_with (first
        | (at_builtin; go_must (refine wpList_append_qu _ rfl _ _ 34 rfl (ob + 1) 3 i0 (.int .i64 0) Tryz.underlying34 hi hz0 hz1 hz2 rfl rfl Q4 _ _ _ rfl HA4.out.q R4 m4 d4 _ rfl HSR4.out (by omega) (by have := HA4.out.w.size; have := HA4.out.b.lt; omega) ?_)
           intro Q5 q5 wb4 hqq hkk
           have H5 := Hd (HA4.out.app hqq hkk)
           obtain ⟨e0, e1, e2, e3, e4, e5, e6, e7, e8, e9, e10⟩ := EQ.out wb4 H5.out.w
           clear hqq hkk)
        | fail)
      have cX5 := Hd (cO.out wb4 H5.out.w p hp)
      go_wp2_with fail
      refine cX5.out.mono ?_
      rintro e wa5 ⟨R5, m5, d5, rfl, hor, hbx⟩
      have hm5 : m5 ≤ 21 := by have := row_len hor; have := HLO.out; omega
      have HSR5 := Hd (src_row hor (by omega))
      have HA5 := Hd (H5.out.on hbx)
      clear hor hbx cX5 e0 e1 e2 e3 e4 e5 e6 e7 e8 e9 e10
      go_wp2_with (first
        | (at_builtin; go_must (refine wpList_append_qu _ rfl _ _ 34 rfl (ob + 1) 3 i0 (.int .i64 0) Tryz.underlying34 hi hz0 hz1 hz2 rfl rfl Q5 _ _ _ rfl HA5.out.q R5 m5 d5 _ rfl HSR5.out (by omega) (by have := HA5.out.w.size; have := HA5.out.b.lt; omega) ?_)
           intro Q6 q6 wb5 hqq hkk
           have H6 := Hd (HA5.out.app hqq hkk)
           clear hqq hkk)
        | fail)
      go_roundw
      case rel => exact ⟨Q6, _, q6, rfl, by have := HMU.out; have := HCF.out; omega, Hd ⟨_, _, H6.out, by have := HMU.out; have := HCF.out; omega⟩⟩
      case measure =>
       have h1 := HT.out.mu
       have h2 := H6.out.mu
       have h3 := HCF.out
       have h4 := HMU.out
       simp only [outLen]
       rw [h1, h2]
       omega
    ·have t1 : decide (v ≥ (n4 : Int)) = true := dcT (by omega)
     have t1b : decide ((n4 : Int) ≤ v) = true := dcT (by omega)
     have t0 : decide (v < 0) = false := dcF (by omega)
     go_wp2_with fail
     go_roundw
     case rel => exact ⟨T2, n', t2, rfl, by omega, Hd ⟨ys, f, HT.out, by have := HMU.out; omega⟩⟩
     case measure => simp [outLen]
end
section
open Go.RowKit
theorem sli_set {w : World} {B : Nat} {A : Option Addr} {k c : Nat} {l : List Int} (h : SlI w B A k c l) {b q : Nat} {v : Value} (hp : w.cell? ⟨b, q, none⟩ = some v) (hv : ∀ z, v ≠ .int .i64 z) (u : Value) : SlI (w.setCell ⟨b, q, none⟩ u) B A k c l := by
 obtain ⟨h1, h2, h3, h4, h5⟩ := h
 refine ⟨h1, h2, h3, h4, fun hk => ?_⟩
 obtain ⟨rb, ro, rfl, hb, hx⟩ := h5 hk
 refine ⟨rb, ro, rfl, hb, fun i x hi => ?_⟩
 obtain ⟨cs, e1, e2, e3⟩ := hx i x hi
 refine ⟨cs, e1, fun j u' hj => ?_, e3⟩
 have hc := e2 j u' hj
 have hcs : cs = [.int .i64 x] := e3
 rw [hcs] at hj
 have hj0 : j = 0 := by
  cases j with
  | zero => rfl
  | succ j => simp at hj
 subst hj0
 simp only [List.getElem?_cons_zero, Option.some.injEq] at hj
 subst hj
 refine (World.cell?_setCell_other _ _ _ _ (fun e => ?_)).trans hc
 rw [← e, hp] at hc
 injection hc with hc
 exact hv x hc
variable {w2 W W' : World} {tb ob rb db n : Nat} {fR fD : Nat → Bool}
structure Mk (w2 : World) (n : Nat) (o1 o3 o5 : Option Nat) (W : World) : Prop where
 pre : Below w2.heap.size w2 W
 c1 : ∀ b, o1 = some b → Cells W b (List.replicate n (.slice none 0 0)) ∧ w2.heap.size ≤ b
 c3 : ∀ b, o3 = some b → Cells W b (arrB n fun _ => false) ∧ w2.heap.size ≤ b
 c5 : ∀ b, o5 = some b → Cells W b [.slice none 0 0, .slice none 0 0] ∧ w2.heap.size ≤ b
 n13 : ∀ a b, o1 = some a → o3 = some b → a ≠ b
 n15 : ∀ a b, o1 = some a → o5 = some b → a ≠ b
 n35 : ∀ a b, o3 = some a → o5 = some b → a ≠ b
theorem Mk.start (h : Below w2.heap.size w2 W) : Mk w2 n none none none W where
 pre := h
 c1 := fun b h => by cases h
 c3 := fun b h => by cases h
 c5 := fun b h => by cases h
 n13 := fun a b h => by cases h
 n15 := fun a b h => by cases h
 n35 := fun a b h => by cases h
variable {o1 o3 o5 : Option Nat}
theorem Mk.m1 (h : Mk w2 n none o3 o5 W) (zs : Array Value) (hz : zs.toList = List.replicate n (.slice none 0 0)) (t : TypeId) : Mk w2 n (some W.heap.size) o3 o5 (W.alloc (.cells zs t)) where
 pre := h.pre.trans ((bl_one _).mono h.pre.size)
 c1 := fun b hb => by injection hb with hb; subst hb; rw [← hz]; exact ⟨Cells.new W zs.toList t, h.pre.size⟩
 c3 := fun b hb => ⟨(h.c3 b hb).1.on (bl_one _), (h.c3 b hb).2⟩
 c5 := fun b hb => ⟨(h.c5 b hb).1.on (bl_one _), (h.c5 b hb).2⟩
 n13 := fun a b ha hb => by injection ha with ha; subst ha; have := (h.c3 b hb).1.lt; omega
 n15 := fun a b ha hb => by injection ha with ha; subst ha; have := (h.c5 b hb).1.lt; omega
 n35 := h.n35
theorem Mk.m3 (h : Mk w2 n o1 none o5 W) (zs : Array Value) (hz : zs.toList = arrB n fun _ => false) (t : TypeId) : Mk w2 n o1 (some W.heap.size) o5 (W.alloc (.cells zs t)) where
 pre := h.pre.trans ((bl_one _).mono h.pre.size)
 c1 := fun b hb => ⟨(h.c1 b hb).1.on (bl_one _), (h.c1 b hb).2⟩
 c3 := fun b hb => by injection hb with hb; subst hb; rw [← hz]; exact ⟨Cells.new W zs.toList t, h.pre.size⟩
 c5 := fun b hb => ⟨(h.c5 b hb).1.on (bl_one _), (h.c5 b hb).2⟩
 n13 := fun a b ha hb => by injection hb with hb; subst hb; have := (h.c1 a ha).1.lt; omega
 n15 := h.n15
 n35 := fun a b ha hb => by injection ha with ha; subst ha; have := (h.c5 b hb).1.lt; omega
theorem Mk.m5 (h : Mk w2 n o1 o3 none W) (t : TypeId) : Mk w2 n o1 o3 (some W.heap.size) (W.alloc (.cells #[.slice none 0 0, .slice none 0 0] t)) where
 pre := h.pre.trans ((bl_one _).mono h.pre.size)
 c1 := fun b hb => ⟨(h.c1 b hb).1.on (bl_one _), (h.c1 b hb).2⟩
 c3 := fun b hb => ⟨(h.c3 b hb).1.on (bl_one _), (h.c3 b hb).2⟩
 c5 := fun b hb => by injection hb with hb; subst hb; exact ⟨Cells.new W [.slice none 0 0, .slice none 0 0] t, h.pre.size⟩
 n13 := h.n13
 n15 := fun a b ha hb => by injection hb with hb; subst hb; have := (h.c1 a ha).1.lt; omega
 n35 := fun a b ha hb => by injection hb with hb; subst hb; have := (h.c3 a ha).1.lt; omega
theorem info_ts : (Tryz.prog.info? 32).map (fun i => (i.zero, i.size, i.bytes)) = some (some (.slice none 0 0), 1, 24) := by kernel_rfl
theorem made_of (n : Nat) (hn : n ≤ 1000) : ∃ zc : Array Value, zc.toList = List.replicate n (.slice none 0 0) ∧ ∀ W, (Instr.makeSlice 175 (.int .i64 (n : Int)) (.int .i64 (n : Int))).run Tryz.prog W = .ok (.slice (some ⟨W.heap.size, 0, none⟩) n n) (W.alloc (.cells zc 32)) := by
 obtain ⟨i0, hi, hz0, hz1, hz2⟩ := info_parts info_ts
 refine ⟨madeCells (Value.slice none 0 0).cells (n * i0.size), ?_, fun W => ?_⟩
 ·rw [hz1, Nat.mul_one]
  rw [show (Value.slice none 0 0).cells = #[Value.slice none 0 0] from rfl, toList_madeCells_one]
 ·have := run_make (P := Tryz.prog) W 175 32 i0 _ Tryz.underlying175 hi hz0 .i64 .i64 (n : Int) (n : Int) (by omega) (by omega) (by rw [hz2]; omega) (by omega)
  simpa using this
end
end Go.Proofs.YtobmjnmcjddhcaaGreat
