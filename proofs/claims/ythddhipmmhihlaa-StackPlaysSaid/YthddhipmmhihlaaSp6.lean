/-
  The flat stack: what a round of the law keeps, call by call.
-/
import Derived.Test.YthddhipmmhihlaaSp5
namespace Go.Proofs.Ythddhipmmhihlaa
open Go.RowKit
set_option linter.unusedSimpArgs false
set_option linter.unusedVariables false
theorem sl_sliced {w : World} {B : Nat} {A : Option Addr} {n c : Nat} {vs : List DV} (h : SlV w B A n c vs) {l t : Nat} (hl : l ≤ t) (ht : t ≤ n) :
    ∃ A2, sliced A l t c 3 = .slice A2 (t - l) (c - l) ∧ SlV w B A2 (t - l) (c - l) ((vs.take t).drop l) ∧ ∀ ad, A2 = some ad → ∃ ad0, A = some ad0 ∧ ad.block = ad0.block := by
  obtain ⟨h1, h2, h3, h4, h5⟩ := h
  refine ⟨_, rfl, ⟨by simp; omega, by omega, by omega, by omega, fun hp => ?_⟩, fun ad had => ?_⟩
  · obtain ⟨b, off, rfl, hb, hx⟩ := h5 (by omega)
    rw [if_neg (by omega)]
    refine ⟨b, off + l * 3, by simp [addr_add], hb, fun i x hi => ?_⟩
    rw [List.getElem?_drop, List.getElem?_take] at hi
    split at hi
    · obtain ⟨cs, e1, e2, e3⟩ := hx (l + i) x hi
      refine ⟨cs, e1, fun j u hj => ?_, e3⟩
      have := e2 j u hj
      rw [show off + ((l + i) * 3 + j) = off + l * 3 + (i * 3 + j) by omega] at this
      exact this
    · cases hi
  · split at had
    · exact ⟨ad, had, rfl⟩
    · cases A with
      | none => cases had
      | some ad0 =>
        injection had with had
        exact ⟨ad0, rfl, by rw [← had]; simp [Addr.add]; split <;> simp⟩
theorem map_add0 (p : Option Addr) : Option.map (fun x : Addr => x.add 0) p = p := by cases p <;> simp [Addr.add]
structure StW (w wc : World) (t : Nat) (lA : Option Addr) (n lc : Nat) (A : Option Addr) (c : Nat) (vs : List DV) (ob vb : Nat) (k N M : Int) (v : DV) : Prop where
  bw : Below w.heap.size w wc
  sk : SkW wc w.heap.size A c vs
  sl : SlV wc wc.heap.size lA n lc vs
  ok : Ok wc (Bk w.heap.size A) lA
  nt : n ≤ t
  hB : ∀ j, Bk w.heap.size A j → w.heap.size ≤ j
  o0 : wc.cell? ⟨ob, 0, none⟩ = some (.int .i64 k)
  o1 : wc.cell? ⟨ob, 1, none⟩ = some (.int .i64 N)
  o2 : wc.cell? ⟨ob, 2, none⟩ = some (.int .i64 M)
  v0 : wc.cell? ⟨vb, 0, none⟩ = some (.int .i64 v.k)
  v1 : wc.cell? ⟨vb, 1, none⟩ = some (.int .i64 v.n)
  v2 : wc.cell? ⟨vb, 2, none⟩ = some (.complex .f64 v.x v.y)
  nob : ¬ Bk w.heap.size A ob
  nvb : ¬ Bk w.heap.size A vb
theorem StW.lt {w wc : World} {t n lc c ob vb : Nat} {lA A : Option Addr} {vs : List DV} {k N M : Int} {v : DV} (h : StW w wc t lA n lc A c vs ob vb k N M v) (s : Nat) : LT w wc (t + s) lA n lc :=
  ⟨h.bw, A, c, vs, h.sk, h.sl, h.ok, by have := h.nt; omega, h.hB⟩
theorem SkTo.ofCut {w w' : World} {g c' : Nat} {A : Option Addr} {vs : List DV} (h : SkW w' g A c' vs) (hk : Kp (fun j => j = g) w w') : SkTo w g A vs w' := ⟨A, c', h, hk.mono fun j _ e => .inl e, fun j hj => .inl hj⟩
theorem StW.cutTo {w wc w5 : World} {t n lc c ob vb m c2 : Nat} {lA A A2 : Option Addr} {vs us : List DV} {k N M : Int} {v : DV} (h : StW w wc t lA n lc A c vs ob vb k N M v) (hs : SkTo wc w.heap.size A us w5) (h2 : SlV wc wc.heap.size A2 m c2 us) (hA : ∀ ad, A2 = some ad → ∃ ad0, lA = some ad0 ∧ ad.block = ad0.block) (s : Nat) (hm : m ≤ t + s) : LT w w5 (t + s) A2 m c2 := by
  obtain ⟨A5, c5, h5, hk, hT⟩ := hs
  refine ⟨h.bw.trans (hk.below h.bw.size h.hB), A5, c5, us, h5, SlR.kp h2 (Nat.le_refl _) (fun ad had => ?_) hk, Ok.kp (T := Bk w.heap.size A) (fun ad had => ?_) hk.size hT, hm, fun j hj => (hT j hj).elim (h.hB j) fun hl => by have := h.bw.size; omega⟩
  · obtain ⟨ad0, e0, e⟩ := hA ad had
    rw [e]
    exact (h.ok ad0 e0).2
  · obtain ⟨ad0, e0, e⟩ := hA ad had
    rw [e]
    exact h.ok ad0 e0
theorem StW.own {w wc w5 W : World} {t n lc c ob vb m c2 : Nat} {lA A A2 : Option Addr} {vs us : List DV} {k N M : Int} {v : DV} (h : StW w wc t lA n lc A c vs ob vb k N M v) (hs : SkTo wc w.heap.size A us w5) (hk : Kp (fun _ => False) w5 W) (hown : RowF W w5.heap.size 45 3 A2 m c2 (us.flatMap cellsV)) (s : Nat) (hm : m ≤ t + s) (hm1 : m ≤ 1000) : LT w W (t + s) A2 m c2 := by
  obtain ⟨A5, c5, h5, hk5, hT⟩ := hs
  have hs5 : w.heap.size ≤ w5.heap.size := Nat.le_trans h.bw.size hk5.size
  have hb5 : Below w.heap.size w w5 := h.bw.trans (hk5.below h.bw.size h.hB)
  refine ⟨hb5.trans (hk.below hs5 fun _ h => h.elim), A5, c5, us, h5.on hk, RowF.sl (sz := 3) (bytes := 32) (f := cellsV) (fun _ => rfl) (by decide) hown (by unfold reachBytes; omega), fun ad had => ?_, hm, fun j hj => (hT j hj).elim (h.hB j) fun hl => by have := h.bw.size; omega⟩
  rcases hown.form with ⟨e, _⟩ | ⟨r, e, h1, h2⟩
  · rw [e] at had; cases had
  · rw [e] at had
    injection had with had
    subst had
    exact ⟨h2, fun hB => by have h3 : r < w5.heap.size := h5.blk_lt hB; omega⟩
theorem StW.src {w wc w5 W : World} {t n lc c ob vb : Nat} {lA A : Option Addr} {vs : List DV} {k N M : Int} {v : DV} (h : StW w wc t lA n lc A c vs ob vb k N M v) (hk5 : Kp (Bk w.heap.size A) wc w5) (hk : Kp (fun _ => False) w5 W) : SrcCells W lA n 3 (vs.flatMap cellsV) :=
  SlR.src (sz := 3) (f := cellsV) (fun _ => rfl) (SlR.kp (SlR.kp h.sl (Nat.le_refl _) (fun ad had => (h.ok ad had).2) hk5) (Nat.le_refl _) (fun _ _ => id) hk)
theorem StW.mk0 {w wr w2 : World} {t n lc c : Nat} {lA A : Option Addr} {vs : List DV} {k N M vk vn vr vi : Int} {x y : Nat} (hbwr : Below w.heap.size w wr) (hsk : SkW wr w.heap.size A c vs) (hsl : SlV wr wr.heap.size lA n lc vs) (hok : Ok wr (Bk w.heap.size A) lA) (hnt : n ≤ t) (hB : ∀ j, Bk w.heap.size A j → w.heap.size ≤ j)
    (hb : Below (wr.alloc (.cells #[.int .i64 k, .int .i64 N, .int .i64 M, .int .i64 vk, .int .i64 vn, .int .i64 vr, .int .i64 vi] 57)).heap.size (wr.alloc (.cells #[.int .i64 k, .int .i64 N, .int .i64 M, .int .i64 vk, .int .i64 vn, .int .i64 vr, .int .i64 vi] 57)) w2) :
    StW w (w2.alloc (.cells #[.int .i64 vk, .int .i64 vn, .complex .f64 x y] 45)) t lA n lc A c vs wr.heap.size w2.heap.size k N M ⟨vk, vn, x, y⟩ := by
  have hk2 : Kp (fun _ => False) wr w2 := ((Kp.refl _ _).alloc _).ofBelow hb
  have hk : Kp (fun _ => False) wr (w2.alloc (.cells #[.int .i64 vk, .int .i64 vn, .complex .f64 x y] 45)) := hk2.alloc _
  have hl : wr.heap.size < w2.heap.size := by have := hb.size; simp at this; omega
  have z := fun j u hu => (new_cells (w := w2) (cs := #[.int .i64 vk, .int .i64 vn, .complex .f64 x y]) (t := 45) (Below.refl _ _) j u hu).1
  refine ⟨hbwr.trans (hk.below hbwr.size fun _ h => h.elim), hsk.on hk, SlR.kp hsl (Nat.le_refl _) (fun _ _ => id) hk, hok.kp hk.size (fun j hj => .inl hj), hnt, hB, ?_, ?_, ?_, z 0 _ rfl, z 1 _ rfl, z 2 _ rfl, fun h => ?_, fun h => ?_⟩
  · exact (World.cell?_alloc_lt _ _ _ hl).trans (new_cells hb 0 _ rfl).1
  · exact (World.cell?_alloc_lt _ _ _ hl).trans (new_cells hb 1 _ rfl).1
  · exact (World.cell?_alloc_lt _ _ _ hl).trans (new_cells hb 2 _ rfl).1
  · have := hsk.blk_lt h; omega
  · have := hsk.blk_lt h; omega
theorem StW.own2 {w wc w4 w7 : World} {t n lc c ob vb m c2 : Nat} {lA A A2 : Option Addr} {vs us : List DV} {k N M : Int} {v : DV} (h : StW w wc t lA n lc A c vs ob vb k N M v) (hk4 : Kp (fun _ => False) wc w4) (hrow : RowF w4 wc.heap.size 45 3 A2 m c2 (us.flatMap cellsV)) (hs : SkTo w4 w.heap.size A us w7) (s : Nat) (hm : m ≤ t + s) (hm1 : m ≤ 1000) : LT w w7 (t + s) A2 m c2 := by
  obtain ⟨A5, c5, h5, hk, hT⟩ := hs
  have hb4 : Below w.heap.size w w4 := h.bw.trans (hk4.below h.bw.size fun _ h => h.elim)
  have hno : ∀ r, A2 = some ⟨r, 0, none⟩ → ¬ Bk w.heap.size A r := fun r e hB => by
    rcases hrow.form with ⟨e', _⟩ | ⟨r', e', h1, h2⟩
    · rw [e'] at e; cases e
    · rw [e'] at e
      injection e with e
      injection e with e
      have := h.sk.blk_lt hB
      omega
  refine ⟨hb4.trans (hk.below hb4.size h.hB), A5, c5, us, h5, RowF.sl (sz := 3) (bytes := 32) (f := cellsV) (fun _ => rfl) (by decide) (hrow.kp hk hno) (by unfold reachBytes; omega), fun ad had => ?_, hm, fun j hj => (hT j hj).elim (h.hB j) fun hl => by have := hb4.size; omega⟩
  rcases hrow.form with ⟨e, _⟩ | ⟨r, e, h1, h2⟩
  · rw [e] at had; cases had
  · have hn := hno r e
    rw [e] at had
    injection had with had
    subst had
    have hs7 := hk.size
    refine ⟨by show r < _; omega, fun hB => ?_⟩
    rcases hT _ hB with h9 | h9
    · exact hn h9
    · have h9 : w4.heap.size ≤ r := h9
      omega
theorem top_eq (vs : List DV) (N : Int) (n m : Nat) (hn : vs.length = n) (hm : min (max N 0) (n : Int) = (m : Int)) : vs.drop (vs.length - (min (max N 0) (vs.length : Int)).toNat) = (vs.take n).drop (n - m) := by
  rw [hn, hm, Int.toNat_natCast, List.take_of_length_le (by omega)]
theorem row_eq (vs : List DV) (N M : Int) (n f t : Nat) (hn : vs.length = n) (hf : min (max N 0) (n : Int) = (f : Int)) (ht : min (max M 0) (n : Int) = (t : Int)) : extM vs N M = (vs.take (max f t)).drop f := by
  unfold extM
  rw [hn]
  apply List.ext_getElem?
  intro j
  rw [List.getElem?_drop, List.getElem?_drop, List.getElem?_take, List.getElem?_take]
  by_cases h1 : f + j < max f t
  · rw [if_pos h1, if_pos (by omega), show (max N 0).toNat + j = f + j by omega]
  · rw [if_neg h1]
    split
    · exact List.getElem?_eq_none (by omega)
    · rfl
def StepTo (w : World) (t : Nat) (e : Ending) (w' : World) : Prop := ∃ lA n lc, e = .returned (.tuple #[.slice lA n lc, .bool true]) ∧ LT w w' (t + 2) lA n lc
end Go.Proofs.Ythddhipmmhihlaa
