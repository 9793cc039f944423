/-
  Tracebacks: the iterator over the logical frames of a physical one.
-/
import Derived.Test.YtobmjnmcjddhcaaCTr1
import Derived.RangeFuncNested
import Derived.RangeFuncBound
import Derived.RangeFuncCalls
import Derived.RangeFuncLeaves
import Derived.RangeFuncBox
import Derived.OwnWalkIn
import Derived.TacticsInMore
import Derived.LoopNIn
import Derived.LoopIn
namespace Go.Proofs.Ytobmjnmcjddhcaa
open Go.RowKit
set_option linter.unusedSimpArgs false
set_option linter.unusedVariables false
attribute [local go_sem] Oper.semAt_some
def cE (e : Int × Int) : List Value := [.int .i64 e.1, .int .i64 e.2]
def fnAt (xs : List DNode) (u : Int) : Int := (xs.getD u.toNat zN).fn
def lnAt (xs : List DNode) (u : Int) : Int := (xs.getD u.toNat zN).line
def entM (xs : List DNode) : Int → List Int → List (Int × Int)
  | _, [] => []
  | line, u :: us => (fnAt xs u, line) :: entM xs (lnAt xs u) us
def entL (xs : List DNode) : Int → List Int → Int
  | line, [] => line
  | _, u :: us => entL xs (lnAt xs u) us
theorem entM_snoc (xs : List DNode) (u : Int) : ∀ (us : List Int) (line : Int), entM xs line (us ++ [u]) = entM xs line us ++ [(fnAt xs u, entL xs line us)]
  | [], line => rfl
  | v :: us, line => by
    rw [List.cons_append, entM, entM_snoc xs u us, entM, entL]
    rfl
theorem entL_snoc (xs : List DNode) (u : Int) : ∀ (us : List Int) (line : Int), entL xs line (us ++ [u]) = lnAt xs u
  | [], line => rfl
  | v :: us, line => by rw [List.cons_append, entL, entL_snoc xs u us]
theorem entM_len (xs : List DNode) : ∀ (us : List Int) (line : Int), (entM xs line us).length = us.length
  | [], _ => rfl
  | u :: us, line => by rw [entM, List.length_cons, entM_len xs us, List.length_cons]
theorem entM_pre (xs : List DNode) (us : List Int) (line : Int) (j : Nat) : entM xs line (us.take j) <+: entM xs line us := by
  induction us generalizing line j with
  | nil => simp [entM]
  | cons u us ih =>
    cases j with
    | zero => simp [entM]
    | succ j =>
      rw [List.take_succ_cons, entM, entM]
      exact (List.prefix_cons_inj _).2 (ih _ _)
/-- The logical frames of a physical one. -/
def expM (x : DFunc) (f : Int) (pc : Nat) : List (Int × Int) := if x.nodes.length = 0 then [(f, x.lines.getD pc 0)] else entM x.nodes (x.lines.getD pc 0) (upM x.nodes x.nodes.length (ndM x pc))
/-- What a round leaves: all below m but one box, and every block of numbers. -/
structure Kx (m og : Nat) (A B : World) : Prop where
  os : B.os = A.os
  tape : B.tape = A.tape
  output : B.output = A.output
  size : A.heap.size ≤ B.heap.size
  low : ∀ k, k < m → k ≠ og → B.heap[k]? = A.heap[k]?
  cel : ∀ (k : Nat) cs t fz, A.heap[k]? = some (.cells cs t fz) → t ≠ 46 → k ≠ og → B.heap[k]? = A.heap[k]?
theorem own_blkX {w : World} {base k c ub uo : Nat} {l : List Int} (h : w.ownsRow base 3 1 (.slice (some ⟨ub, uo, none⟩) k c) k (rowI l)) : ∃ cs fz, w.heap[ub]? = some (.cells cs 3 fz) ∧ base ≤ ub := by
  rcases h.2 with ⟨e, _⟩ | ⟨g, cap, cur, e, hb, hg, _⟩
  · cases e
  · injection e with e _ _
    injection e with e
    injection e with e
    subst e
    exact ⟨cur, _, hg, hb⟩
theorem Kx.refl (m og : Nat) (A : World) : Kx m og A A := ⟨rfl, rfl, rfl, Nat.le_refl _, fun _ _ _ => rfl, fun _ _ _ _ _ _ _ => rfl⟩
theorem Kx.trans {m og : Nat} {A B C : World} (h : Kx m og A B) (k : Kx m og B C) : Kx m og A C :=
  ⟨k.os.trans h.os, k.tape.trans h.tape, k.output.trans h.output, Nat.le_trans h.size k.size, fun j h1 h2 => (k.low j h1 h2).trans (h.low j h1 h2), fun j cs t fz hj ht hn => (k.cel j cs t fz ((h.cel j cs t fz hj ht hn).trans hj) ht hn).trans (h.cel j cs t fz hj ht hn)⟩
theorem Kx.ofBelow {m og : Nat} {A B : World} (hm : m ≤ A.heap.size) (h : Below A.heap.size A B) : Kx m og A B :=
  ⟨h.os, h.tape, h.output, h.size, fun k h1 _ => h.block k (by omega), fun k cs t fz hk _ _ => h.block k (Array.getElem?_eq_some_iff.1 hk).1⟩
theorem Kx.toBelow {m og n₀ : Nat} {A B : World} (h : Kx m og A B) (h1 : n₀ ≤ m) (h2 : n₀ ≤ og) : Below n₀ A B :=
  ⟨h.os, h.tape, h.output, h.size, fun k hk => h.low k (by omega) (by omega)⟩
theorem Kx.putObj {m og : Nat} {w : World} (hm : m ≤ w.heap.size) (W : World) (l : Nat) (o o' : Obj) (hl : w.heap.size ≤ l) (h : W.heap[l]? = some o) (hc : o.isCells = false) (_ : o.isWalk = false) : Kx m og W (W.putObj l o') := by
  have hg := grownBy_putObj' W l o'
  have hlt := (Array.getElem?_eq_some_iff.1 h).1
  refine ⟨hg.os, hg.tape, hg.output, hg.size, fun k h1 _ => hg.block k (by omega) (by intro e; injection e with e; omega), fun k cs t fz hk _ _ => hg.block k (Array.getElem?_eq_some_iff.1 hk).1 ?_⟩
  intro e
  injection e with e
  subst e
  rw [h] at hk
  injection hk with hk
  subst hk
  cases hc
theorem Kx.cells {m og g : Nat} {A B : World} {vs : List Value} (h : Kx m og A B) (hc : Cells A g vs) (hg : g < m) (hn : g ≠ og) : Cells B g vs := by
  have hb := h.low g hg hn
  exact ⟨fun i v hv => (World.cell?_of_block hb).trans (hc.at_ i v hv), fun i hi => (World.frozen?_of_block hb).trans (hc.fz i hi), Nat.lt_of_lt_of_le hc.lt h.size⟩
set_option maxRecDepth 100000 in
set_option maxHeartbeats 32000000 in
theorem ent1_in (n : Nat) (hn : 1 ≤ n) (l fb xb n₀ m og : Nat) (s : ByteArray) (b : Bool) (A0 : Option Addr) (n0 c0 : Nat) (A1 : Option Addr) (n1 c1 : Nat) (A2 : Option Addr) (n2 c2 : Nat) (A3 : Option Addr) (n3 c3 : Nat) (A4 : Option Addr) (n4 c4 : Nat) (A5 : Option Addr) (n5 c5 : Nat) (A6 : Option Addr) (n6 c6 : Nat) (A7 : Option Addr) (n7 c7 : Nat) (A8 : Option Addr) (n8 c8 : Nat) (x : DFunc) (f : Int) (pc : Nat) (J Jx : List (Int × Int) → World → Prop)
    (h1m : n₀ ≤ m) (h2m : n₀ ≤ og) (hfm : fb < m) (hxm : xb < m) (hfo : fb ≠ og) (hxo : xb ≠ og) (hom : og < m)
    (hJb : ∀ s A B, J s A → Below A.heap.size A B → J s B)
    (hY : ∀ pre e W, J pre W → pre.length < (expM x f pc).length → YieldAt Fence.wide (n - 1) Try.prog l #[.agg #[.int .i64 e.1, .int .i64 e.2]] W fun d W' =>
      (d = .returned (.bool true) ∧ J (pre ++ [e]) W' ∧ Kx m og W W') ∨ (d = .returned (.bool false) ∧ Jx (pre ++ [e]) W'))
    (W : World) (hmW : m ≤ W.heap.size) (hw : FnW W n₀ s b A0 n0 c0 A1 n1 c1 A2 n2 c2 A3 n3 c3 A4 n4 c4 A5 n5 c5 A6 n6 c6 A7 n7 c7 A8 n8 c8 x) (hcan : canOk x) (hpc : pc < n4) (hf : Cells W fb [.string s, .bool b, .slice A0 n0 c0, .slice A1 n1 c1, .slice A2 n2 c2, .slice A3 n3 c3, .slice A4 n4 c4, .slice A5 n5 c5, .slice A6 n6 c6, .slice A7 n7 c7, .slice A8 n8 c8]) (hx : Cells W xb [.int .i64 f, .int .i64 (pc : Int)]) (h0 : J [] W) :
    CallsIn Fence.wide n Try.prog 23 #[.func (.yield l) #[] #[], .pointer (some ⟨fb, 0, none⟩), .pointer (some ⟨xb, 0, none⟩)] W fun e W' => (∃ v, e = .returned v) ∧
      ((∃ ys, ys = expM x f pc ∧ J ys W') ∨ (∃ pre, pre <+: expM x f pc ∧ Jx pre W')) := by
  have l5 := hw.r5.1
  have l6 := hw.r6.1
  have hln := hcan.lines
  have l4 := hw.r4.1
  obtain ⟨s4, s5, s6, s7, s8, s0⟩ := hw.sm
  have h5 : pc < n5 := by omega
  have hp0 : (0 : Int) ≤ (pc : Int) := by omega
  obtain ⟨li, hli⟩ : ∃ v, x.lines.getD pc 0 = v := ⟨_, rfl⟩
  have cAt := Lib.hid (pline_any A5 n5 c5 x.lines pc W (SlR.more hw.r5 (by omega)) h5 (by omega))
  rw [hli] at cAt
  have HLI := Lib.hid hli
  have HW := Lib.hid hw
  have HFB := Lib.hid hf
  have HXB := Lib.hid hx
  have HL6 : Hid (x.nodes.length = n6) := Lib.hid l6
  have HHJ := Lib.hid hJb
  have HYY := Lib.hid hY
  have H0 := Lib.hid h0
  have HCAN := Lib.hid hcan
  have HMM : Hid (n₀ ≤ m ∧ n₀ ≤ og ∧ fb < m ∧ xb < m ∧ fb ≠ og ∧ xb ≠ og ∧ m ≤ W.heap.size ∧ og < m) := Lib.hid ⟨h1m, h2m, hfm, hxm, hfo, hxo, hmW, hom⟩
  have e7 := hf.at_ 7 _ rfl
  have e8 := hf.at_ 8 _ rfl
  have b0 := hx.at_ 0 _ rfl
  have b1 := hx.at_ 1 _ rfl
  clear hw hf hx l5 l6 l4 hln hcan hli h1m h2m hfm hxm hfo hxo hmW hom hJb hY h0
  refine callsIn_of_wp Try.func23 rfl trivial ?_ rfl
  simp only [Try.ntmps23, List.size_toArray, List.length_cons, List.length_nil, Nat.reduceAdd, Nat.reduceSub, Array.replicate_succ, Array.replicate_zero, List.push_toArray, List.append_toArray, List.nil_append, List.cons_append]
  by_cases hz : n6 = 0
  · have t0 : ((n6 : Int) == 0) = true := by rw [beq_iff_eq]; omega
    have t0b : (n6 == 0) = true := by rw [beq_iff_eq]; exact hz
    have HEX : Hid (expM x f pc = [(f, li)]) := Lib.hid (by unfold expM; rw [if_pos (by rw [HL6.out]; exact hz), HLI.out])
    obtain ⟨fn, tmps, assign, body, hy, hR⟩ := HYY.out [] (f, li) W H0.out (by rw [HEX.out]; simp)
    have HR := Lib.hid hR
    clear hR hz
    gi_wp2_with (refine ⟨trivial, ?_⟩; gi_at_call 24; refine (callsIn_wide.2 cAt.out).mono ?_; rintro e w' ⟨rfl, rfl⟩)
    refine HR.out.mono ?_
    rintro e W3 (⟨rfl, hJ3, hk3⟩ | ⟨rfl, hJx3⟩)
    · gi_wp2
      refine bodyPost_ret (results_none rfl _ _ _) rfl ?_
      exact ⟨⟨_, rfl⟩, .inl ⟨_, HEX.out.symm, hJ3⟩⟩
    · gi_wp2
      refine bodyPost_ret (results_none rfl _ _ _) rfl ?_
      exact ⟨⟨_, rfl⟩, .inr ⟨_, by rw [HEX.out]; exact List.prefix_refl _, hJx3⟩⟩
  · have t0 : ((n6 : Int) == 0) = false := by rw [beq_eq_false_iff_ne]; omega
    have t0b : (n6 == 0) = false := by rw [beq_eq_false_iff_ne]; exact hz
    obtain ⟨up, hup⟩ : ∃ l, upM x.nodes n6 (ndM x pc) = l := ⟨_, rfl⟩
    have HUI : Hid (up.length ≤ 20 ∧ ∀ u ∈ up, 0 ≤ u ∧ u < (n6 : Int)) := Lib.hid (by rw [← hup]; exact ⟨Nat.le_trans (upM_len _ _ _) (by omega), fun u hu => by have := upM_in _ _ _ u hu; rwa [HL6.out] at this⟩)
    have HEX : Hid (expM x f pc = entM x.nodes li up) := Lib.hid (by unfold expM; rw [if_neg (by rw [HL6.out]; exact hz), HLI.out, HL6.out, hup])
    obtain ⟨nd, hnd⟩ : ∃ v, ndM x pc = v := ⟨_, rfl⟩
    have cN : Hid (∀ V, Below W.heap.size W V → Calls Try.prog 26 #[.agg #[.string s, .bool b, .slice A0 n0 c0, .slice A1 n1 c1, .slice A2 n2 c2, .slice A3 n3 c3, .slice A4 n4 c4, .slice A5 n5 c5, .slice A6 n6 c6, .slice A7 n7 c7, .slice A8 n8 c8], .int .i64 (pc : Int)] V fun e w' => e = .returned (.int .i64 nd) ∧ Below V.heap.size V w') := Lib.hid fun V hV => by rw [← hnd]; exact node_any s b A0 n0 c0 A1 n1 c1 A2 n2 c2 A3 n3 c3 A4 n4 c4 A5 n5 c5 A6 n6 c6 A7 n7 c7 A8 n8 c8 x pc V ((HW.out.keep (hV.mono (by have := HMM.out; omega))).more (by have := HMM.out; have := hV.size; omega)) (by omega)
    have cU : Hid (∀ V, Below W.heap.size W V → Calls Try.prog 25 #[.slice A6 n6 c6, .int .i64 nd] V (IsRow up V)) := Lib.hid fun V hV => by rw [← hup, ← hnd]; exact pup_any A6 n6 c6 x.nodes _ V ((HW.out.keep (hV.mono (by have := HMM.out; omega))).more (by have := HMM.out; have := hV.size; omega)).r6 (by omega)
    clear hup hnd hz
    gi_wp2_with (refine ⟨trivial, ?_⟩; gi_at_call 24; refine (callsIn_wide.2 cAt.out).mono ?_; rintro e w' ⟨rfl, rfl⟩)
    clear e7 e8 b0 b1
    refine wpIn_wide.2 ?_
    refine wp_region_held (S := fun V => Below W.heap.size W V) (by kernel_rfl) ?_
    change wpAnyH _ _ _ _ _ _ _ _ (World.drew _)
    have hS0 : Below W.heap.size W W.drew := (Below.refl _ _).drew
    refine wpAnyH_tk (i := 0) rfl (by kernel_rfl) (by kernel_rfl) (by kernel_rfl) (by rfl) (by intro V hW; go_simp; first | done | exact rfl) (by intro _ _ _ h; exact h) hS0 ?_
    try go_simp
    refine wpAnyH_tk (i := 1) rfl (by kernel_rfl) (by kernel_rfl) (by kernel_rfl) (by rfl) (by intro V hW; have x9 := HFB.out.on hW; obtain ⟨e0, e1, e2, e3, e4, e5, e6, e7, e8, e9, e10⟩ : V.cell? ⟨fb, 0, none⟩ = some (.string s) ∧ V.cell? ⟨fb, 1, none⟩ = some (.bool b) ∧ V.cell? ⟨fb, 2, none⟩ = some (.slice A0 n0 c0) ∧ V.cell? ⟨fb, 3, none⟩ = some (.slice A1 n1 c1) ∧ V.cell? ⟨fb, 4, none⟩ = some (.slice A2 n2 c2) ∧ V.cell? ⟨fb, 5, none⟩ = some (.slice A3 n3 c3) ∧ V.cell? ⟨fb, 6, none⟩ = some (.slice A4 n4 c4) ∧ V.cell? ⟨fb, 7, none⟩ = some (.slice A5 n5 c5) ∧ V.cell? ⟨fb, 8, none⟩ = some (.slice A6 n6 c6) ∧ V.cell? ⟨fb, 9, none⟩ = some (.slice A7 n7 c7) ∧ V.cell? ⟨fb, 10, none⟩ = some (.slice A8 n8 c8) := ⟨x9.at_ 0 _ rfl, x9.at_ 1 _ rfl, x9.at_ 2 _ rfl, x9.at_ 3 _ rfl, x9.at_ 4 _ rfl, x9.at_ 5 _ rfl, x9.at_ 6 _ rfl, x9.at_ 7 _ rfl, x9.at_ 8 _ rfl, x9.at_ 9 _ rfl, x9.at_ 10 _ rfl⟩; have y1 := (HXB.out.on hW).at_ 1 _ rfl; go_simp; first | done | exact rfl) (by intro _ _ _ h; exact h) hS0 ?_
    try go_simp
    refine wpAnyH_tk (i := 2) rfl (by kernel_rfl) (by kernel_rfl) (by kernel_rfl) (by rfl) (by intro V hW; have x9 := HFB.out.on hW; obtain ⟨e0, e1, e2, e3, e4, e5, e6, e7, e8, e9, e10⟩ : V.cell? ⟨fb, 0, none⟩ = some (.string s) ∧ V.cell? ⟨fb, 1, none⟩ = some (.bool b) ∧ V.cell? ⟨fb, 2, none⟩ = some (.slice A0 n0 c0) ∧ V.cell? ⟨fb, 3, none⟩ = some (.slice A1 n1 c1) ∧ V.cell? ⟨fb, 4, none⟩ = some (.slice A2 n2 c2) ∧ V.cell? ⟨fb, 5, none⟩ = some (.slice A3 n3 c3) ∧ V.cell? ⟨fb, 6, none⟩ = some (.slice A4 n4 c4) ∧ V.cell? ⟨fb, 7, none⟩ = some (.slice A5 n5 c5) ∧ V.cell? ⟨fb, 8, none⟩ = some (.slice A6 n6 c6) ∧ V.cell? ⟨fb, 9, none⟩ = some (.slice A7 n7 c7) ∧ V.cell? ⟨fb, 10, none⟩ = some (.slice A8 n8 c8) := ⟨x9.at_ 0 _ rfl, x9.at_ 1 _ rfl, x9.at_ 2 _ rfl, x9.at_ 3 _ rfl, x9.at_ 4 _ rfl, x9.at_ 5 _ rfl, x9.at_ 6 _ rfl, x9.at_ 7 _ rfl, x9.at_ 8 _ rfl, x9.at_ 9 _ rfl, x9.at_ 10 _ rfl⟩; have y1 := (HXB.out.on hW).at_ 1 _ rfl; go_simp; first | done | exact rfl) (by intro _ _ _ h; exact h) hS0 ?_
    try go_simp
    refine wpAnyH_tk (i := 3) rfl (by kernel_rfl) (by kernel_rfl) (by kernel_rfl) (by rfl) (by intro V hW; go_simp; first | done | exact rfl) (by intro _ _ _ h; exact h) hS0 ?_
    try go_simp
    refine wpAnyH_tk (i := 4) rfl (by kernel_rfl) (by kernel_rfl) (by kernel_rfl) (by rfl) (by intro V hW; have x9 := HFB.out.on hW; obtain ⟨e0, e1, e2, e3, e4, e5, e6, e7, e8, e9, e10⟩ : V.cell? ⟨fb, 0, none⟩ = some (.string s) ∧ V.cell? ⟨fb, 1, none⟩ = some (.bool b) ∧ V.cell? ⟨fb, 2, none⟩ = some (.slice A0 n0 c0) ∧ V.cell? ⟨fb, 3, none⟩ = some (.slice A1 n1 c1) ∧ V.cell? ⟨fb, 4, none⟩ = some (.slice A2 n2 c2) ∧ V.cell? ⟨fb, 5, none⟩ = some (.slice A3 n3 c3) ∧ V.cell? ⟨fb, 6, none⟩ = some (.slice A4 n4 c4) ∧ V.cell? ⟨fb, 7, none⟩ = some (.slice A5 n5 c5) ∧ V.cell? ⟨fb, 8, none⟩ = some (.slice A6 n6 c6) ∧ V.cell? ⟨fb, 9, none⟩ = some (.slice A7 n7 c7) ∧ V.cell? ⟨fb, 10, none⟩ = some (.slice A8 n8 c8) := ⟨x9.at_ 0 _ rfl, x9.at_ 1 _ rfl, x9.at_ 2 _ rfl, x9.at_ 3 _ rfl, x9.at_ 4 _ rfl, x9.at_ 5 _ rfl, x9.at_ 6 _ rfl, x9.at_ 7 _ rfl, x9.at_ 8 _ rfl, x9.at_ 9 _ rfl, x9.at_ 10 _ rfl⟩; have y1 := (HXB.out.on hW).at_ 1 _ rfl; go_simp; first | done | exact rfl) (by intro _ _ _ h; exact h) hS0 ?_
    try go_simp
    refine wpAnyH_tk (i := 8) rfl (by kernel_rfl) (by kernel_rfl) (by kernel_rfl) (by rfl) (by intro V hW; go_simp; first | done | exact rfl) (by intro _ _ _ h; exact h) hS0 ?_
    try go_simp
    refine wpAnyH_one (i := 5) (by kernel_rfl) rfl (fun K hK => ?_)
    go_simp
    refine (cN.out _ hS0).mono ?_
    rintro e v1 ⟨rfl, hb2⟩
    have hS1 : Below W.heap.size W v1 := hS0.trans (hb2.mono hS0.size)
    clear hb2
    go_simp
    refine hK _ _ ⟨hS1, ?_⟩; clear hK K
    try go_simp
    refine wpAnyH_one (i := 6) (by kernel_rfl) rfl (fun K hK => ?_)
    go_simp
    refine (cU.out _ hS1).mono ?_
    rintro e v2 ⟨U, k, cu, rfl, hou, hb2⟩
    have hS2 : Below W.heap.size W v2 := hS1.trans (hb2.mono hS1.size)
    have hk1 : k ≤ 20 := by have := row_len hou; have := HUI.out.1; omega
    have hk0 : (k : Int) ≤ 20 := by omega
    have HUB : Hid (v2.ownsRow v1.heap.size 3 1 (.slice U k cu) k (rowI up)) := Lib.hid hou
    have HV1 : Hid (W.heap.size ≤ v1.heap.size) := Lib.hid hS1.size
    clear hb2 hou hS0 hS1
    go_simp
    refine hK _ _ ⟨hS2, ?_⟩; clear hK K
    try go_simp
    refine wpAnyH_tk (i := 7) rfl (by kernel_rfl) (by kernel_rfl) (by kernel_rfl) (by rfl) (by intro V hW; go_simp; first | done | exact rfl) (by intro _ _ _ h; exact h) hS2 ?_
    try go_simp
    try go_simp
    refine wpAnyH_done (by kernel_rfl) ?_ _
    try go_simp
    have HS2 := Lib.hid hS2
    clear hS2 cN cU
    apply_assumption
    gi_wp2
    gi_loopw [4, 30] (fun lv iv wr => ∃ (j : Nat), lv = .int .i64 (entL x.nodes li (up.take j)) ∧ iv = .int .i64 (j : Int) ∧ j ≤ k ∧ Hid (J (entM x.nodes li (up.take j)) wr ∧ Kx m og v2 wr)) (fun _ iv _ => k - (intOf iv).toNat)
    case atStart => exact ⟨0, rfl, rfl, Nat.zero_le _, Lib.hid ⟨HHJ.out _ _ _ H0.out HS2.out, Kx.refl _ _ _⟩⟩
    case round =>
      obtain ⟨j, rfl, rfl, hj, HK⟩ := hrel
      have hj0 : (0 : Int) ≤ (j : Int) := by omega
      have HKW : Hid (Kx m og W wr) := Lib.hid ((Kx.ofBelow HMM.out.2.2.2.2.2.2.1 HS2.out).trans HK.out.2)
      have HBW : Hid (Below n₀ W wr) := Lib.hid (HKW.out.toBelow HMM.out.1 HMM.out.2.1)
      by_cases hlt : j < k
      · have hjk : (j : Int) < (k : Int) := by omega
        have tj : decide ((j : Int) < (k : Int)) = true := by rw [decide_eq_true_eq]; exact hjk
        obtain ⟨ub, uo, u, rfl, hub, hu, uc0⟩ := SlR.cell1 (f := Value.int .i64) (SlI.own HUB.out (by omega)) (i := j) hlt
        obtain ⟨hu0, hu1⟩ := HUI.out.2 u (List.mem_of_getElem? hu)
        obtain ⟨q, rfl⟩ := Int.eq_ofNat_of_zero_le hu0
        have hq6 : q < n6 := by omega
        have uc : wr.cell? ⟨ub, uo + j, none⟩ = some (.int .i64 (q : Int)) := by
          have hb := own_blkX HUB.out
          obtain ⟨cs, fz, hcs, hge⟩ := hb
          refine (World.cell?_of_block (HK.out.2.cel ub cs _ fz hcs (by decide) ?_)).trans uc0
          have h1 := HMM.out
          have h2 := HV1.out
          omega
        obtain ⟨nb, no, z, rfl, hnb, hz, -, z1, z2, -⟩ := sln_at (HW.out.keep HBW.out).r6 hq6
        have HFN : Hid (fnAt x.nodes (q : Int) = z.fn) := Lib.hid (by unfold fnAt; rw [List.getD_eq_getElem?_getD, show ((q : Int).toNat) = q from rfl, hz]; rfl)
        have HLN : Hid (lnAt x.nodes (q : Int) = z.line) := Lib.hid (by unfold lnAt; rw [List.getD_eq_getElem?_getD, show ((q : Int).toNat) = q from rfl, hz]; rfl)
        obtain ⟨zf, hzf⟩ : ∃ v, z.fn = v := ⟨_, rfl⟩
        obtain ⟨zl, hzl⟩ : ∃ v, z.line = v := ⟨_, rfl⟩
        rw [hzf] at z1 HFN
        rw [hzl] at z2 HLN
        have HZ2 := Lib.hid z2
        have HNB : Hid (nb < n₀) := Lib.hid hnb
        have HT : Hid (up.take (j + 1) = up.take j ++ [(q : Int)]) := Lib.hid (take_snoc' up j _ hu).symm
        have HE1 : Hid (entM x.nodes li (up.take (j + 1)) = entM x.nodes li (up.take j) ++ [(zf, entL x.nodes li (up.take j))]) := Lib.hid (by rw [HT.out, entM_snoc, HFN.out])
        have HE2 : Hid (entL x.nodes li (up.take (j + 1)) = zl) := Lib.hid (by rw [HT.out, entL_snoc, HLN.out])
        have e8 := (HKW.out.cells HFB.out HMM.out.2.2.1 HMM.out.2.2.2.2.1).at_ 8 _ rfl
        obtain ⟨le, hle⟩ : ∃ v, entL x.nodes li (up.take j) = v := ⟨_, rfl⟩
        rw [hle] at HE1
        obtain ⟨fn', tmps', assign', body', hy, hR⟩ := HYY.out (entM x.nodes li (up.take j)) (zf, le) wr HK.out.1 (by rw [HEX.out, entM_len, entM_len, List.length_take]; have := row_len HUB.out; omega)
        have HR := Lib.hid hR
        rw [hle]
        have hqn : (q : Int) < (n6 : Int) := by omega
        have hq0 : (0 : Int) ≤ (q : Int) := by omega
        clear hR hu hz hzf hzl uc0 hu0 hu1 hnb hle
        gi_wp2
        refine HR.out.mono ?_
        rintro e W3 (⟨rfl, hJ3, hk3⟩ | ⟨rfl, hJx3⟩)
        · have HK3 : Hid (Kx m og W W3) := Lib.hid (HKW.out.trans hk3)
          have e8' := (HK3.out.cells HFB.out HMM.out.2.2.1 HMM.out.2.2.2.2.1).at_ 8 _ rfl
          have z2' := ((hk3.toBelow HMM.out.1 HMM.out.2.1).cell (p := ⟨nb, no + q * 7 + 2, none⟩) HNB.out).trans HZ2.out
          have HJ3 := Lib.hid hJ3
          have HKV : Hid (Kx m og v2 W3) := Lib.hid (HK.out.2.trans hk3)
          clear hJ3 hk3 e8 z1 z2 hy uc
          gi_wp2
          go_roundw
          case rel => exact ⟨j + 1, by rw [HE2.out], by go_num, by omega, Lib.hid ⟨by rw [HE1.out]; exact HJ3.out, HKV.out⟩⟩
          case measure => first | (simp [intOf]; done) | (simp [intOf]; omega)
        · gi_wp2
          refine bodyPost_ret (results_none rfl _ _ _) rfl ?_
          exact ⟨⟨_, rfl⟩, .inr ⟨_, by rw [HEX.out, ← HE1.out]; exact entM_pre _ _ _ _, hJx3⟩⟩
      · obtain rfl : j = k := by omega
        have tj : decide ((j : Int) < (j : Int)) = false := by rw [decide_eq_false_iff_not]; omega
        have HEJ : Hid (entM x.nodes li (up.take j) = expM x f pc) := Lib.hid (by rw [HEX.out, List.take_of_length_le (by have := row_len HUB.out; omega)])
        gi_wp2
        go_end0
        exact ⟨⟨_, rfl⟩, .inl ⟨_, HEJ.out, HK.out.1⟩⟩
end Go.Proofs.Ytobmjnmcjddhcaa
