/-
  Pieces of bodies: a function's own instructions.
-/
import Derived.Test.YthfdmpcnebjkjaaPc4
namespace Go.Proofs.Ythfdmpcnebjkjaa
open Go.RowKit
set_option linter.unusedSimpArgs false
set_option linter.unusedVariables false
theorem wpAnyH_two {P : Program} {ops : Array Oper} {Q : Exit → Act → World → Prop} {md : Region.Mode} {S : World → Prop} {i j fuel : Nat} {oi oj : Oper} {listed : Array Bool} {a : Act} {w : World}
    (hr : Region.ready md ops listed = [i, j]) (hi : ops[i]? = some oi) (hj : ops[j]? = some oj)
    (h : ∀ K' : Act → World → Prop, (∀ a w, S w ∧ wpAnyH P md ops Q S fuel (listed.setIfInBounds i true) a w → K' a w) → if Region.wanted oi (yielded ops a.tmps) = true then Oper.wp P oi a w K' Q else K' (a.put oi.dst undef) w)
    (k : ∀ K' : Act → World → Prop, (∀ a w, S w ∧ wpAnyH P md ops Q S fuel (listed.setIfInBounds j true) a w → K' a w) → if Region.wanted oj (yielded ops a.tmps) = true then Oper.wp P oj a w K' Q else K' (a.put oj.dst undef) w) :
    wpAnyH P md ops Q S (fuel + 1) listed a w :=
  wpAnyH_all hr (by simp) (fun x hx => by
    simp only [List.mem_cons, List.not_mem_nil, or_false] at hx
    rcases hx with rfl | rfl
    · exact wpOp_step hi h
    · exact wpOp_step hj k)
def retM (sn : Int) (x : DInstr) : DInstr := if x.op = 25 then ⟨34, sn⟩ else x
def bodyC (pl : List Int) (ss sn : Int) (code : List DInstr) : List DInstr := code.map fun x => retM sn (instrM pl ss sn x)
theorem instr_three {pl : List Int} {ss sn : Int} {x : DInstr} : chM (fun a => wrap64 (a + sn)) 33 34 (chM (fun a => wrap64 (a + ss)) 2 3 (chM (jumpM pl) 21 22 x)) = instrM pl ss sn x := by
  obtain ⟨o, a⟩ := x
  by_cases h1 : o = 21 ∨ o = 22
  · have n2 : ¬ (o = 2 ∨ o = 3) := by omega
    have n3 : ¬ (o = 33 ∨ o = 34) := by omega
    simp only [chM, instrM, if_pos h1, if_neg n2, if_neg n3]
  · by_cases h2 : o = 2 ∨ o = 3
    · have n3 : ¬ (o = 33 ∨ o = 34) := by omega
      simp only [chM, instrM, if_neg h1, if_pos h2, if_neg n3]
    · simp only [chM, instrM, if_neg h1, if_neg h2]
theorem code_three (pl : List Int) (ss sn : Int) (xs : List DInstr) : ((xs.map (chM (jumpM pl) 21 22)).map (chM (fun a => wrap64 (a + ss)) 2 3)).map (chM (fun a => wrap64 (a + sn)) 33 34) = xs.map (instrM pl ss sn) := by
  rw [List.map_map, List.map_map]
  apply List.map_congr_left
  intro x _
  exact instr_three
theorem ret_next {ys : List DInstr} {k : Nat} {x : DInstr} (sn : Int) (h : ys[k]? = some x) : (ys.take k).map (retM sn) ++ [retM sn x] = (ys.take (k + 1)).map (retM sn) := by
  rw [← take_snoc' ys k x h, List.map_append]
  rfl
def lnU (ls : List Int) (k : Nat) : List Int := (List.range k).map (lineM ls)
theorem lnU_next (ls : List Int) (k : Nat) : lnU ls k ++ [lineM ls k] = lnU ls (k + 1) := by
  unfold lnU
  rw [List.range_succ, List.map_append]
  rfl
def atU (x : DFunc) (sn : Int) (k : Nat) : List Int := (List.range k).map fun pc => wrap64 (sn + ndM x pc)
theorem atU_next (x : DFunc) (sn : Int) (k : Nat) : atU x sn k ++ [wrap64 (sn + ndM x k)] = atU x sn (k + 1) := by
  unfold atU
  rw [List.range_succ, List.map_append]
  rfl
theorem slc_on {w w' : World} {A : Option Addr} {n c : Nat} {xs : List DInstr} (h : SlC w w.heap.size A n c xs) (hb : Below w.heap.size w w') : SlC w' w'.heap.size A n c xs := h.on hb
def BK (G : Nat → Prop) (w0 W : World) : Prop := Kp (fun j => ¬ G j) w0 W
theorem BK.trans {G : Nat → Prop} {w0 a b : World} (h : BK G w0 a) (k : Kp (fun j => ¬ G j) a b) : BK G w0 b := Kp.trans h k
theorem BK.bel {G : Nat → Prop} {w0 a b : World} (h : BK G w0 a) (hb : Below a.heap.size a b) : BK G w0 b := Kp.trans h ((Kp.refl _ a).ofBelow hb)
theorem PcW.far {base : Nat} {F : Nat → Prop} {pb k : Nat} {l0 : List DInstr} {l1 l2 : List Int} {v3 v4 : Value} {W W' : World} (h : PcW base F pb k l0 l1 l2 v3 v4 W) {b' : Nat} (hk : Kp (fun j => j = b') W W') (hb : F b') : PcW base F pb k l0 l1 l2 v3 v4 W' := by
  obtain ⟨A0, c0, A1, c1, A2, c2, h⟩ := h
  exact ⟨A0, c0, A1, c1, A2, c2, h.hd.kp hk (fun e => h.nf (by rw [e]; exact hb)), h.ro.kp hk (fun j hj e => h.ro.f0 j (.inl (by rw [e]; exact hb)) hj) (fun j hj e => h.ro.f1 j (.inl (by rw [e]; exact hb)) hj) (fun j hj e => h.ro.f2 j (.inl (by rw [e]; exact hb)) hj), h.nf⟩
abbrev FG3 (F : Nat → Prop) (a b : Nat) : Nat → Prop := fun j => F j ∨ (a ≤ j ∧ j < b)
/-- What is foreign stays: rows that lie in it are read as they were. -/
theorem FnW.bk {w W : World} {B : Nat} {s : ByteArray} {b : Bool} {A0 : Option Addr} {n0 c0 : Nat} {A1 : Option Addr} {n1 c1 : Nat} {A2 : Option Addr} {n2 c2 : Nat} {A3 : Option Addr} {n3 c3 : Nat} {A4 : Option Addr} {n4 c4 : Nat} {A5 : Option Addr} {n5 c5 : Nat} {A6 : Option Addr} {n6 c6 : Nat} {A7 : Option Addr} {n7 c7 : Nat} {A8 : Option Addr} {n8 c8 : Nat} {x : DFunc} (h : FnW w B s b A0 n0 c0 A1 n1 c1 A2 n2 c2 A3 n3 c3 A4 n4 c4 A5 n5 c5 A6 n6 c6 A7 n7 c7 A8 n8 c8 x) {G : Nat → Prop} (hG : ∀ j, j < B → G j) (hB : B ≤ w.heap.size) (hk : BK G w W) : FnW W B s b A0 n0 c0 A1 n1 c1 A2 n2 c2 A3 n3 c3 A4 n4 c4 A5 n5 c5 A6 n6 c6 A7 n7 c7 A8 n8 c8 x :=
  h.keep (hk.below hB fun k hk => Classical.byContradiction fun h => hk (hG k (by omega)))
set_option maxRecDepth 100000 in
set_option maxHeartbeats 64000000 in
theorem body_any (base : Nat) (F : Nat → Prop) (pb k : Nat) (l0 : List DInstr) (l1 l2 : List Int) (v3 v4 : Value) (s : ByteArray) (b : Bool) (A0 : Option Addr) (n0 c0 : Nat) (A1 : Option Addr) (n1 c1 : Nat) (A2 : Option Addr) (n2 c2 : Nat) (A3 : Option Addr) (n3 c3 : Nat) (A4 : Option Addr) (n4 c4 : Nat) (A5 : Option Addr) (n5 c5 : Nat) (A6 : Option Addr) (n6 c6 : Nat) (A7 : Option Addr) (n7 c7 : Nat) (A8 : Option Addr) (n8 c8 : Nat) (sa sn ss sp sl : Int) (x : DFunc) (B : Nat) (w : World) (h : PcW base F pb k l0 l1 l2 v3 v4 w) (hF : ∀ j, F j → j < w.heap.size) (hfn : FnW w B s b A0 n0 c0 A1 n1 c1 A2 n2 c2 A3 n3 c3 A4 n4 c4 A5 n5 c5 A6 n6 c6 A7 n7 c7 A8 n8 c8 x) (hB : B ≤ w.heap.size) (hBF : ∀ j, j < B → F j) (hk : k ≤ 10000) :
    Calls Try.prog 24 #[.pointer (some ⟨pb, 0, none⟩), .agg #[.string s, .bool b, .slice A0 n0 c0, .slice A1 n1 c1, .slice A2 n2 c2, .slice A3 n3 c3, .slice A4 n4 c4, .slice A5 n5 c5, .slice A6 n6 c6, .slice A7 n7 c7, .slice A8 n8 c8], .agg #[.int .i64 sa, .int .i64 sn, .int .i64 ss, .int .i64 sp, .int .i64 sl]] w (IsPc base F pb (k + n4) (l0 ++ bodyC (placeM (fromM sa n1) 2000) ss sn x.code) (l1 ++ lnU x.lines n4) (l2 ++ atU x sn n4) v3 v4 w) := by
  obtain ⟨s4, s5, s6, s7, s8, s0⟩ := hfn.sm
  obtain ⟨w2, hw2⟩ : ∃ X, (w.alloc (.cells #[.string s, .bool b, .slice A0 n0 c0, .slice A1 n1 c1, .slice A2 n2 c2, .slice A3 n3 c3, .slice A4 n4 c4, .slice A5 n5 c5, .slice A6 n6 c6, .slice A7 n7 c7, .slice A8 n8 c8] 28)).alloc (.cells #[.int .i64 sa, .int .i64 sn, .int .i64 ss, .int .i64 sp, .int .i64 sl] 30) = X := ⟨_, rfl⟩
  obtain ⟨g, hg⟩ : ∃ g, w.heap.size = g := ⟨_, rfl⟩
  have hb2 : Below w.heap.size w w2 := by rw [← hw2]; exact two_below
  have ht : TwoB w g s b A0 n0 c0 A1 n1 c1 A2 n2 c2 A3 n3 c3 A4 n4 c4 A5 n5 c5 A6 n6 c6 A7 n7 c7 A8 n8 c8 sa sn ss sp sl w2 := by rw [← hw2, ← hg]; exact TwoB.new w s b A0 n0 c0 A1 n1 c1 A2 n2 c2 A3 n3 c3 A4 n4 c4 A5 n5 c5 A6 n6 c6 A7 n7 c7 A8 n8 c8 sa sn ss sp sl
  have HB2 := Lib.hid hb2
  have EQ : Hid (∀ W, Below w2.heap.size w2 W → (W.cell? ⟨g, 0, none⟩ = some (.string s) ∧ W.cell? ⟨g, 1, none⟩ = some (.bool b) ∧ W.cell? ⟨g, 2, none⟩ = some (.slice A0 n0 c0) ∧ W.cell? ⟨g, 3, none⟩ = some (.slice A1 n1 c1) ∧ W.cell? ⟨g, 4, none⟩ = some (.slice A2 n2 c2) ∧ W.cell? ⟨g, 5, none⟩ = some (.slice A3 n3 c3) ∧ W.cell? ⟨g, 6, none⟩ = some (.slice A4 n4 c4) ∧ W.cell? ⟨g, 7, none⟩ = some (.slice A5 n5 c5) ∧ W.cell? ⟨g, 8, none⟩ = some (.slice A6 n6 c6) ∧ W.cell? ⟨g, 9, none⟩ = some (.slice A7 n7 c7) ∧ W.cell? ⟨g, 10, none⟩ = some (.slice A8 n8 c8)) ∧ W.cell? ⟨g + 1, 0, none⟩ = some (.int .i64 sa) ∧ W.cell? ⟨g + 1, 1, none⟩ = some (.int .i64 sn) ∧ W.cell? ⟨g + 1, 2, none⟩ = some (.int .i64 ss) ∧ W.cell? ⟨g + 1, 3, none⟩ = some (.int .i64 sp) ∧ W.cell? ⟨g + 1, 4, none⟩ = some (.int .i64 sl)) := Lib.hid fun W hW => by
    have h3 := ht.kp ((Kp.refl (fun _ => False) w2).ofBelow hW) id id
    exact ⟨⟨h3.a.at_ 0 _ rfl, h3.a.at_ 1 _ rfl, h3.a.at_ 2 _ rfl, h3.a.at_ 3 _ rfl, h3.a.at_ 4 _ rfl, h3.a.at_ 5 _ rfl, h3.a.at_ 6 _ rfl, h3.a.at_ 7 _ rfl, h3.a.at_ 8 _ rfl, h3.a.at_ 9 _ rfl, h3.a.at_ 10 _ rfl⟩, h3.b.at_ 0 _ rfl, h3.b.at_ 1 _ rfl, h3.b.at_ 2 _ rfl, h3.b.at_ 3 _ rfl, h3.b.at_ 4 _ rfl⟩
  have HF2 : Hid (FnW w2 w2.heap.size s b A0 n0 c0 A1 n1 c1 A2 n2 c2 A3 n3 c3 A4 n4 c4 A5 n5 c5 A6 n6 c6 A7 n7 c7 A8 n8 c8 x) := Lib.hid ((hfn.keep (hb2.mono hB)).more (by have := hb2.size; omega))
  have cPl := Lib.hid (fun W => places_any s b A0 n0 c0 A1 n1 c1 A2 n2 c2 A3 n3 c3 A4 n4 c4 A5 n5 c5 A6 n6 c6 A7 n7 c7 A8 n8 c8 sa sn ss sp sl W (by omega))
  have HLEN : Hid (x.code.length = n4) := Lib.hid hfn.r4.1
  obtain ⟨pl, hpl⟩ : ∃ p, placeM (fromM sa n1) 2000 = p := ⟨_, rfl⟩
  have HPLN : Hid (pl.length = 2000) := Lib.hid (by rw [← hpl]; exact placeM_len _ _)
  rw [hpl] at cPl ⊢
  have HBF := Lib.hid hBF
  have HPw := Lib.hid h
  have HFB : Hid (FnW w B s b A0 n0 c0 A1 n1 c1 A2 n2 c2 A3 n3 c3 A4 n4 c4 A5 n5 c5 A6 n6 c6 A7 n7 c7 A8 n8 c8 x ∧ B ≤ w.heap.size) := Lib.hid ⟨hfn, hB⟩
  have HFw := Lib.hid hF
  obtain ⟨⟨e0, e1, e2, e3, e4, e5, e6, e7, e8, e9, e10⟩, b0, b1, b2, b3, b4⟩ := EQ.out w2 (Below.refl _ _)
  have HGW : Hid (w.heap.size = g ∧ w2.heap.size = g + 2) := Lib.hid ⟨hg, by rw [← hw2]; simp; omega⟩
  have hn4 : (n4 : Int) ≤ 150 := by omega
  have HR4 := Lib.hid HF2.out.r4
  clear h hF hfn hB hBF hpl hb2 ht
  go_enter Try.func24, Try.ntmps24
  go_wp2_with fail
  clear hw2 hg e0 e1 e2 e3 e4 e5 e6 e7 e8 e9 e10 b0 b1 b2 b3 b4
  refine wp_region_held (S := fun W => Below w2.heap.size w2 W) (by kernel_rfl) ?_
  change wpAnyH _ _ _ _ _ _ _ _ (World.drew _)
  have hS0 : Below w2.heap.size w2 w2.drew := (Below.refl _ _).drew
  refine wpAnyH_take (i := 0) (v := .pointer (some ⟨g, 6, none⟩)) rfl (by kernel_rfl) (by kernel_rfl) (by kernel_rfl) (fun _ _ _ h => h) (Or.inl ⟨by rfl, by intro W hW; go_simp; try (first | (with_reducible rfl) | omega)⟩) hS0 ?_
  refine wpAnyH_take (i := 2) (v := .agg #[.int .i64 sa, .int .i64 sn, .int .i64 ss, .int .i64 sp, .int .i64 sl]) rfl (by kernel_rfl) (by kernel_rfl) (by kernel_rfl) (fun _ _ _ h => h) (Or.inl ⟨by rfl, by intro W hW; obtain ⟨⟨e0, e1, e2, e3, e4, e5, e6, e7, e8, e9, e10⟩, b0, b1, b2, b3, b4⟩ := EQ.out W hW; go_simp; try (first | (with_reducible rfl) | omega)⟩) hS0 ?_
  refine wpAnyH_take (i := 3) (v := .agg #[.string s, .bool b, .slice A0 n0 c0, .slice A1 n1 c1, .slice A2 n2 c2, .slice A3 n3 c3, .slice A4 n4 c4, .slice A5 n5 c5, .slice A6 n6 c6, .slice A7 n7 c7, .slice A8 n8 c8]) rfl (by kernel_rfl) (by kernel_rfl) (by kernel_rfl) (fun _ _ _ h => h) (Or.inl ⟨by rfl, by intro W hW; obtain ⟨⟨e0, e1, e2, e3, e4, e5, e6, e7, e8, e9, e10⟩, b0, b1, b2, b3, b4⟩ := EQ.out W hW; go_simp; try (first | (with_reducible rfl) | omega)⟩) hS0 ?_
  try go_simp
  refine wpAnyH_take (i := 1) (v := .slice A4 n4 c4) rfl (by kernel_rfl) (by kernel_rfl) (by kernel_rfl) (fun _ _ _ h => h) (Or.inl ⟨by rfl, by intro W hW; obtain ⟨⟨e0, e1, e2, e3, e4, e5, e6, e7, e8, e9, e10⟩, b0, b1, b2, b3, b4⟩ := EQ.out W hW; go_simp; try (first | (with_reducible rfl) | omega)⟩) hS0 ?_
  try go_simp
  refine wpAnyH_one (i := 4) (by kernel_rfl) rfl (fun K hK => ?_)
  go_simp
  refine (cPl.out _).mono ?_
  rintro e w3 ⟨A3', c3', rfl, ho3, hb3⟩
  have hS3 := hS0.trans (hb3.mono hS0.size)
  have cJ := Lib.hid (jumps_any n4 c4 2000 c3' A4 A3' x.code pl w3 (slc_on (slc_on HF2.out.r4 ((Below.refl _ _).drew)) hb3) (SlI.own ho3 (by omega)) (by omega) (by omega))
  clear ho3
  clear hb3
  go_simp
  refine hK _ _ ⟨hS3, ?_⟩; clear hK K
  refine wpAnyH_one (i := 5) (by kernel_rfl) rfl (fun K hK => ?_)
  go_simp
  refine (cJ.out).mono ?_
  rintro e w4 ⟨A4', c4', rfl, hg4, hb4, _⟩
  have hS4 := hS3.trans (hb4.mono hS3.size)
  have HG4 := Lib.hid hg4
  clear hg4 cJ
  clear hb4
  go_simp
  refine hK _ _ ⟨hS4, ?_⟩; clear hK K
  refine wpAnyH_one (i := 6) (by kernel_rfl) rfl (fun K hK => ?_)
  go_simp
  refine hK _ _ ⟨hS4, ?_⟩; clear hK K
  try go_simp
  refine wpAnyH_done (by kernel_rfl) ?_ _
  have HC4 := Lib.hid hS4
  clear hS0 hS3 hS4
  go_simp
  go_wp2_with fail
  refine wp_region_held (S := fun W => Below w2.heap.size w2 W) (by kernel_rfl) ?_
  change wpAnyH _ _ _ _ _ _ _ _ (World.drew _)
  have hS0 : Below w2.heap.size w2 w4.drew := HC4.out.drew
  refine wpAnyH_take (i := 0) (v := .slice A4' n4 c4') rfl (by kernel_rfl) (by kernel_rfl) (by kernel_rfl) (fun _ _ _ h => h) (Or.inl ⟨by rfl, by intro W hW; go_simp; try (first | (with_reducible rfl) | omega)⟩) hS0 ?_
  refine wpAnyH_take (i := 1) (v := .pointer (some ⟨g + 1, 2, none⟩)) rfl (by kernel_rfl) (by kernel_rfl) (by kernel_rfl) (fun _ _ _ h => h) (Or.inl ⟨by rfl, by intro W hW; go_simp; try (first | (with_reducible rfl) | omega)⟩) hS0 ?_
  refine wpAnyH_take (i := 4) (v := .pointer (some ⟨g + 1, 1, none⟩)) rfl (by kernel_rfl) (by kernel_rfl) (by kernel_rfl) (fun _ _ _ h => h) (Or.inl ⟨by rfl, by intro W hW; go_simp; try (first | (with_reducible rfl) | omega)⟩) hS0 ?_
  try go_simp
  refine wpAnyH_take (i := 2) (v := .int .i64 ss) rfl (by kernel_rfl) (by kernel_rfl) (by kernel_rfl) (fun _ _ _ h => h) (Or.inl ⟨by rfl, by intro W hW; obtain ⟨⟨e0, e1, e2, e3, e4, e5, e6, e7, e8, e9, e10⟩, b0, b1, b2, b3, b4⟩ := EQ.out W hW; go_simp; try (first | (with_reducible rfl) | omega)⟩) hS0 ?_
  refine wpAnyH_take (i := 5) (v := .int .i64 sn) rfl (by kernel_rfl) (by kernel_rfl) (by kernel_rfl) (fun _ _ _ h => h) (Or.inl ⟨by rfl, by intro W hW; obtain ⟨⟨e0, e1, e2, e3, e4, e5, e6, e7, e8, e9, e10⟩, b0, b1, b2, b3, b4⟩ := EQ.out W hW; go_simp; try (first | (with_reducible rfl) | omega)⟩) hS0 ?_
  try go_simp
  have cSl := Lib.hid (slots_any n4 c4' A4' _ ss w4.drew (slc_on HG4.out ((Below.refl _ _).drew)) (by omega))
  refine wpAnyH_one (i := 3) (by kernel_rfl) rfl (fun K hK => ?_)
  go_simp
  refine (cSl.out).mono ?_
  rintro e w5 ⟨A5', c5', rfl, hg5, hb5, _⟩
  have hS5 := hS0.trans (hb5.mono hS0.size)
  have cMk := Lib.hid (marks_any n4 c5' A5' _ sn w5 hg5 (by omega))
  clear hg5 cSl
  clear hb5
  go_simp
  refine hK _ _ ⟨hS5, ?_⟩; clear hK K
  refine wpAnyH_one (i := 6) (by kernel_rfl) rfl (fun K hK => ?_)
  go_simp
  refine (cMk.out).mono ?_
  rintro e w6 ⟨A6', c6', rfl, hg6, hb6, ho6⟩
  have hS6 := hS5.trans (hb6.mono hS5.size)
  have HG6 := Lib.hid hg6
  have HO6 : Hid (w6.ownsRow w.heap.size 49 2 (.slice A6' n4 c6') n4 (((((x.code.map (chM (jumpM pl) 21 22)).map (chM (fun a => wrap64 (a + ss)) 2 3)).map (chM (fun a => wrap64 (a + sn)) 33 34))).flatMap cellsI)) := Lib.hid (own_less ho6 (by have := hS5.size; have := HB2.out.size; omega))
  clear hg6 cMk ho6
  clear hb6
  go_simp
  refine hK _ _ ⟨hS6, ?_⟩; clear hK K
  refine wpAnyH_one (i := 7) (by kernel_rfl) rfl (fun K hK => ?_)
  go_simp
  refine hK _ _ ⟨hS6, ?_⟩; clear hK K
  try go_simp
  refine wpAnyH_done (by kernel_rfl) ?_ _
  have HC6 := Lib.hid hS6
  clear hS0 hS5 hS6 HG4
  go_simp
  have HYS : Hid (SlC w6 w6.heap.size A6' n4 c6' (x.code.map (instrM pl ss sn)) ∧ Below w2.heap.size w2 w6) := Lib.hid ⟨by rw [← code_three]; exact HG6.out, HC6.out⟩
  have HYO : Hid (w6.ownsRow w.heap.size 49 2 (.slice A6' n4 c6') n4 ((x.code.map (instrM pl ss sn)).flatMap cellsI)) := Lib.hid (by rw [← code_three]; exact HO6.out)
  obtain ⟨ys, hys⟩ : ∃ y, x.code.map (instrM pl ss sn) = y := ⟨_, rfl⟩
  have HRT : Hid (bodyC pl ss sn x.code = ys.map (retM sn) ∧ ys.length = n4) := Lib.hid ⟨by rw [← hys]; unfold bodyC; rw [List.map_map]; rfl, by rw [← hys, List.length_map]; exact HLEN.out⟩
  rw [hys] at HYS HYO
  clear HG6 HC6 HC4 hys cPl HR4 HO6
  -- the loop: what stands ahead of it is foreign
  have HW6 : Hid (Below w.heap.size w w6) := Lib.hid (HB2.out.trans (HYS.out.2.mono HB2.out.size))
  have HP6 : Hid (PcW base (FG3 F w.heap.size w6.heap.size) pb k l0 l1 l2 v3 v4 w6) := Lib.hid (HPw.out.widen HW6.out)
  have HG3 : Hid (∀ j, j < w6.heap.size → w.heap.size ≤ j ∨ j < B → FG3 F w.heap.size w6.heap.size j) := Lib.hid fun j hj h => h.elim (fun h => .inr ⟨h, hj⟩) (fun h => .inl (HBF.out j h))
  have EQ6 : Hid (∀ W, BK (FG3 F w.heap.size w6.heap.size) w6 W → (W.cell? ⟨g, 0, none⟩ = some (.string s) ∧ W.cell? ⟨g, 1, none⟩ = some (.bool b) ∧ W.cell? ⟨g, 2, none⟩ = some (.slice A0 n0 c0) ∧ W.cell? ⟨g, 3, none⟩ = some (.slice A1 n1 c1) ∧ W.cell? ⟨g, 4, none⟩ = some (.slice A2 n2 c2) ∧ W.cell? ⟨g, 5, none⟩ = some (.slice A3 n3 c3) ∧ W.cell? ⟨g, 6, none⟩ = some (.slice A4 n4 c4) ∧ W.cell? ⟨g, 7, none⟩ = some (.slice A5 n5 c5) ∧ W.cell? ⟨g, 8, none⟩ = some (.slice A6 n6 c6) ∧ W.cell? ⟨g, 9, none⟩ = some (.slice A7 n7 c7) ∧ W.cell? ⟨g, 10, none⟩ = some (.slice A8 n8 c8)) ∧ W.cell? ⟨g + 1, 0, none⟩ = some (.int .i64 sa) ∧ W.cell? ⟨g + 1, 1, none⟩ = some (.int .i64 sn) ∧ W.cell? ⟨g + 1, 2, none⟩ = some (.int .i64 ss) ∧ W.cell? ⟨g + 1, 3, none⟩ = some (.int .i64 sp) ∧ W.cell? ⟨g + 1, 4, none⟩ = some (.int .i64 sl)) := Lib.hid fun W hW => by
    have hz := HGW.out
    have h3 := EQ.out w6 HYS.out.2
    have hs := HYS.out.2.size
    have hin : ∀ b' : Nat, (b' = g ∨ b' = g + 1) → w.heap.size ≤ b' ∧ b' < w6.heap.size := fun b' hb => by rcases hb with e | e <;> rw [e] <;> omega
    have hc : ∀ (b' o : Nat) (v : Value), (b' = g ∨ b' = g + 1) → w6.cell? ⟨b', o, none⟩ = some v → W.cell? ⟨b', o, none⟩ = some v := fun b' o v hb hv => Kp.cellv hW hv (fun hn => hn (.inr (hin b' hb)))
    obtain ⟨⟨e0, e1, e2, e3, e4, e5, e6, e7, e8, e9, e10⟩, b0, b1, b2, b3, b4⟩ := h3
    exact ⟨⟨hc _ _ _ (.inl rfl) e0, hc _ _ _ (.inl rfl) e1, hc _ _ _ (.inl rfl) e2, hc _ _ _ (.inl rfl) e3, hc _ _ _ (.inl rfl) e4, hc _ _ _ (.inl rfl) e5, hc _ _ _ (.inl rfl) e6, hc _ _ _ (.inl rfl) e7, hc _ _ _ (.inl rfl) e8, hc _ _ _ (.inl rfl) e9, hc _ _ _ (.inl rfl) e10⟩, hc _ _ _ (.inr rfl) b0, hc _ _ _ (.inr rfl) b1, hc _ _ _ (.inr rfl) b2, hc _ _ _ (.inr rfl) b3, hc _ _ _ (.inr rfl) b4⟩
  have HSZ : Hid (w.heap.size ≤ w6.heap.size ∧ w2.heap.size ≤ w6.heap.size) := Lib.hid ⟨HW6.out.size, HYS.out.2.size⟩
  have HFN6 : Hid (∀ W, BK (FG3 F w.heap.size w6.heap.size) w6 W → FnW W W.heap.size s b A0 n0 c0 A1 n1 c1 A2 n2 c2 A3 n3 c3 A4 n4 c4 A5 n5 c5 A6 n6 c6 A7 n7 c7 A8 n8 c8 x) := Lib.hid fun W hW => by
    have h1 : BK (FG3 F w.heap.size w6.heap.size) w W := Kp.trans ((Kp.refl _ w).ofBelow HW6.out) hW
    exact (HFB.out.1.bk (fun j hj => .inl (HBF.out j hj)) HFB.out.2 h1).more (Nat.le_trans HFB.out.2 h1.size)
  have HYR : Hid (∀ W, BK (FG3 F w.heap.size w6.heap.size) w6 W → ∀ j, j < n4 → ∃ r y, A6' = some ⟨r, 0, none⟩ ∧ ys[j]? = some y ∧ W.cell? ⟨r, j * 2, none⟩ = some (.int .i64 y.op) ∧ W.cell? ⟨r, j * 2 + 1, none⟩ = some (.int .i64 y.a)) := Lib.hid fun W hW j hj => by
    obtain ⟨y, hy⟩ : ∃ y, ys[j]? = some y := ⟨_, List.getElem?_eq_getElem (by have := HRT.out.2; omega)⟩
    obtain ⟨A2, c2, hv, hA0, hA1⟩ := own_form HYO.out
    simp only [Value.slice.injEq, true_and] at hv
    obtain ⟨rfl, rfl⟩ := hv
    obtain ⟨ad, rfl⟩ : ∃ ad, A6' = some ad := by
      cases A6' with
      | none => exact absurd (hA0 rfl) (by omega)
      | some ad => exact ⟨ad, rfl⟩
    obtain ⟨r, rfl, hr1, hr2⟩ := hA1 ad rfl
    have hc : Cells W r (ys.flatMap cellsI) := (Cells.own HYO.out).kp hW (fun hn => hn (.inr ⟨hr1, hr2⟩))
    exact ⟨r, y, rfl, hy, by simpa using hc.at_ (j * 2) _ (by have := flatMap_at cellsI (sz := 2) (fun _ => rfl) ys j 0 y _ (by omega) hy rfl; exact this), hc.at_ (j * 2 + 1) _ (flatMap_at cellsI (sz := 2) (fun _ => rfl) ys j 1 y _ (by omega) hy rfl)⟩
  go_wp2_with fail
  go_loopw [24] (fun iv wr => ∃ (j : Nat), iv = .int .i64 (j : Int) ∧ j ≤ n4 ∧ Hid (PcW base (FG3 F w.heap.size w6.heap.size) pb (k + j) (l0 ++ (ys.take j).map (retM sn)) (l1 ++ lnU x.lines j) (l2 ++ atU x sn j) v3 v4 wr ∧ BK (FG3 F w.heap.size w6.heap.size) w6 wr)) (fun iv _ => n4 - (intOf iv).toNat)
  case atStart => exact ⟨0, rfl, Nat.zero_le _, Lib.hid ⟨by simpa [lnU, atU] using HP6.out, Kp.refl _ _⟩⟩
  case round =>
    obtain ⟨j, rfl, hj, HK⟩ := hrel
    have hj0 : (0 : Int) ≤ (j : Int) := by omega
    have hj1 : (j : Int) ≤ 150 := by omega
    by_cases hlt : j < n4
    · have hjn : (j : Int) < (n4 : Int) := by omega
      obtain ⟨r, y, rfl, hy, y0, y1⟩ := HYR.out wr HK.out.2 j hlt
      obtain ⟨yo, ya⟩ := y
      dsimp only at y0 y1
      obtain ⟨ib, hib⟩ : ∃ X, wr.heap.size = X := ⟨_, rfl⟩
      obtain ⟨wi, hwi⟩ : ∃ X, wr.alloc (.cells #[.int .i64 yo, .int .i64 ya] 49) = X := ⟨_, rfl⟩
      have hbi : Below wr.heap.size wr wi := by rw [← hwi]; exact bl_one _
      have hci : Cells wi ib [.int .i64 yo, .int .i64 ya] := by rw [← hwi, ← hib]; exact Cells.new wr [.int .i64 yo, .int .i64 ya] _
      have hzi : wi.heap.size = ib + 1 := by rw [← hwi]; simp; omega
      have HPi : Hid (PcW base (FG3 (FG3 F w.heap.size w6.heap.size) wr.heap.size wi.heap.size) pb (k + j) (l0 ++ (ys.take j).map (retM sn)) (l1 ++ lnU x.lines j) (l2 ++ atU x sn j) v3 v4 wi) := Lib.hid (HK.out.1.widen hbi)
      have HBi : Hid (BK (FG3 F w.heap.size w6.heap.size) w6 wi) := Lib.hid (HK.out.2.bel hbi)
      have HSR : Hid (w6.heap.size ≤ wr.heap.size) := Lib.hid HK.out.2.size
      have HIB : Hid (wr.heap.size = ib ∧ wi.heap.size = ib + 1) := Lib.hid ⟨hib, hzi⟩
      have HY := Lib.hid hy
      clear hbi hzi hy HK
      by_cases h25 : yo = 25
      · have t25 : (yo == 25) = true := by simpa using h25
        have HRN : Hid (retM sn ⟨yo, ya⟩ = ⟨34, sn⟩) := Lib.hid (by unfold retM; rw [if_pos h25])
        obtain ⟨⟨e0, e1, e2, e3, e4, e5, e6, e7, e8, e9, e10⟩, b0, b1, b2, b3, b4⟩ := EQ6.out wi HBi.out
        have x0 := hci.at_ 0 _ rfl
        have x1 := hci.at_ 1 _ rfl
        have f0 := hci.fz 0 (by simp)
        have f1 := hci.fz 1 (by simp)
        obtain ⟨wj, hwj⟩ : ∃ X, (wi.setCell ⟨ib, 0, none⟩ (.int .i64 34)).setCell ⟨ib, 1, none⟩ (.int .i64 sn) = X := ⟨_, rfl⟩
        have HCJ : Hid (Cells wj ib [.int .i64 34, .int .i64 sn]) := Lib.hid (by rw [← hwj]; exact (hci.put 0 (by simp) _).put 1 (by simp) _)
        have hkj : Kp (fun j => j = ib) wi wj := by rw [← hwj]; exact ((Kp.refl (fun j => j = ib) wi).setCell (p := ⟨ib, 0, none⟩) (fun _ => rfl) _).setCell (p := ⟨ib, 1, none⟩) (fun _ => rfl) _
        have HPj : Hid (PcW base (FG3 (FG3 F w.heap.size w6.heap.size) wr.heap.size wi.heap.size) pb (k + j) (l0 ++ (ys.take j).map (retM sn)) (l1 ++ lnU x.lines j) (l2 ++ atU x sn j) v3 v4 wj) := Lib.hid (HPi.out.far hkj (.inr ⟨by have := HIB.out; omega, by have := HIB.out; omega⟩))
        have HBj : Hid (BK (FG3 F w.heap.size w6.heap.size) w6 wj) := Lib.hid (HBi.out.trans (hkj.mono fun j _ e hG => by
          have h1 := HIB.out
          have h2 := HSR.out
          have h3 := HSZ.out
          rw [e] at hG
          rcases hG with hG | hG
          · have := HFw.out ib hG; omega
          · omega))
        clear h25 hci hkj
        go_wp2_with fail
        clear x0 x1 f0 f1 hwi hib hwj e0 e1 e2 e3 e4 e5 e6 e7 e8 e9 e10 b0 b1 b2 b3 b4
        have HSW : Hid (∀ W, BK (FG3 (FG3 F w.heap.size w6.heap.size) wr.heap.size wi.heap.size) wj W → BK (FG3 F w.heap.size w6.heap.size) w6 W) := Lib.hid fun W hW => HBj.out.trans (Kp.less hW fun j hj => .inl hj)
        have HCI : Hid (∀ W, BK (FG3 (FG3 F w.heap.size w6.heap.size) wr.heap.size wi.heap.size) wj W → W.cell? ⟨ib, 0, none⟩ = some (.int .i64 34) ∧ W.cell? ⟨ib, 1, none⟩ = some (.int .i64 sn)) := Lib.hid fun W hW => by
          have h1 := HCJ.out.kp hW (fun hn => hn (.inr ⟨by have := HIB.out; omega, by have := HIB.out; omega⟩))
          exact ⟨h1.at_ 0 _ rfl, h1.at_ 1 _ rfl⟩
        obtain ⟨lv, hlv⟩ : ∃ v, lineM x.lines j = v := ⟨_, rfl⟩
        obtain ⟨nd, hnd⟩ : ∃ v, ndM x j = v := ⟨_, rfl⟩
        have cLat : Hid (∀ W, BK (FG3 (FG3 F w.heap.size w6.heap.size) wr.heap.size wi.heap.size) wj W → Calls Try.prog 45 #[.slice A5 n5 c5, .int .i64 (j : Int)] W fun e w' => e = .returned (.int .i64 lv) ∧ W = w') := Lib.hid fun W hW => by rw [← hlv]; exact lat_any A5 n5 c5 _ x.lines j W (HFN6.out W (HSW.out W hW)).r5 (by omega) (by omega)
        have cNd : Hid (∀ W, BK (FG3 (FG3 F w.heap.size w6.heap.size) wr.heap.size wi.heap.size) wj W → Calls Try.prog 46 #[.agg #[.string s, .bool b, .slice A0 n0 c0, .slice A1 n1 c1, .slice A2 n2 c2, .slice A3 n3 c3, .slice A4 n4 c4, .slice A5 n5 c5, .slice A6 n6 c6, .slice A7 n7 c7, .slice A8 n8 c8], .int .i64 (j : Int)] W fun e w' => e = .returned (.int .i64 nd) ∧ Below W.heap.size W w') := Lib.hid fun W hW => by rw [← hnd]; exact node_any s b A0 n0 c0 A1 n1 c1 A2 n2 c2 A3 n3 c3 A4 n4 c4 A5 n5 c5 A6 n6 c6 A7 n7 c7 A8 n8 c8 x j W (HFN6.out W (HSW.out W hW)) (by omega)
        have HLV : Hid (lineM x.lines j = lv ∧ ndM x j = nd) := Lib.hid ⟨hlv, hnd⟩
        clear hlv hnd
        refine wp_region_held (S := fun W => BK (FG3 (FG3 F w.heap.size w6.heap.size) wr.heap.size wi.heap.size) wj W) (by kernel_rfl) ?_
        change wpAnyH _ _ _ _ _ _ _ _ (World.drew _)
        have hS0 : BK (FG3 (FG3 F w.heap.size w6.heap.size) wr.heap.size wi.heap.size) wj wj.drew := (Kp.refl _ _).drew
        have HP0 : Hid (PcW base (FG3 (FG3 F w.heap.size w6.heap.size) wr.heap.size wi.heap.size) pb (k + j) (l0 ++ (ys.take j).map (retM sn)) (l1 ++ lnU x.lines j) (l2 ++ atU x sn j) v3 v4 wj.drew) := Lib.hid (HPj.out.on ((Below.refl _ _).drew))
        refine wpAnyH_take (i := 0) (v := .pointer (some ⟨pb, 0, none⟩)) rfl (by kernel_rfl) (by kernel_rfl) (by kernel_rfl) (fun _ _ _ h => h) (Or.inl ⟨by rfl, by intro W hW; go_simp; try (first | (with_reducible rfl) | omega)⟩) hS0 ?_
        refine wpAnyH_take (i := 1) (v := .pointer (some ⟨g, 7, none⟩)) rfl (by kernel_rfl) (by kernel_rfl) (by kernel_rfl) (fun _ _ _ h => h) (Or.inl ⟨by rfl, by intro W hW; go_simp; try (first | (with_reducible rfl) | omega)⟩) hS0 ?_
        refine wpAnyH_take (i := 3) (v := .int .i64 (j : Int)) rfl (by kernel_rfl) (by kernel_rfl) (by kernel_rfl) (fun _ _ _ h => h) (Or.inl ⟨by rfl, by intro W hW; go_simp; try (first | (with_reducible rfl) | omega)⟩) hS0 ?_
        refine wpAnyH_take (i := 5) (v := .pointer (some ⟨g + 1, 1, none⟩)) rfl (by kernel_rfl) (by kernel_rfl) (by kernel_rfl) (fun _ _ _ h => h) (Or.inl ⟨by rfl, by intro W hW; go_simp; try (first | (with_reducible rfl) | omega)⟩) hS0 ?_
        refine wpAnyH_take (i := 7) (v := .agg #[.string s, .bool b, .slice A0 n0 c0, .slice A1 n1 c1, .slice A2 n2 c2, .slice A3 n3 c3, .slice A4 n4 c4, .slice A5 n5 c5, .slice A6 n6 c6, .slice A7 n7 c7, .slice A8 n8 c8]) rfl (by kernel_rfl) (by kernel_rfl) (by kernel_rfl) (fun _ _ _ h => h) (Or.inl ⟨by rfl, by intro W hW; obtain ⟨⟨e0, e1, e2, e3, e4, e5, e6, e7, e8, e9, e10⟩, b0, b1, b2, b3, b4⟩ := EQ6.out W (HSW.out W hW); go_simp; try (first | (with_reducible rfl) | omega)⟩) hS0 ?_
        refine wpAnyH_take (i := 8) (v := .int .i64 (j : Int)) rfl (by kernel_rfl) (by kernel_rfl) (by kernel_rfl) (fun _ _ _ h => h) (Or.inl ⟨by rfl, by intro W hW; go_simp; try (first | (with_reducible rfl) | omega)⟩) hS0 ?_
        refine wpAnyH_take (i := 11) (v := .agg #[.int .i64 34, .int .i64 sn]) rfl (by kernel_rfl) (by kernel_rfl) (by kernel_rfl) (fun _ _ _ h => h) (Or.inl ⟨by rfl, by intro W hW; obtain ⟨z0, z1⟩ := HCI.out W hW; go_simp; try (first | (with_reducible rfl) | omega)⟩) hS0 ?_
        try go_simp
        refine wpAnyH_take (i := 2) (v := .slice A5 n5 c5) rfl (by kernel_rfl) (by kernel_rfl) (by kernel_rfl) (fun _ _ _ h => h) (Or.inl ⟨by rfl, by intro W hW; obtain ⟨⟨e0, e1, e2, e3, e4, e5, e6, e7, e8, e9, e10⟩, b0, b1, b2, b3, b4⟩ := EQ6.out W (HSW.out W hW); go_simp; try (first | (with_reducible rfl) | omega)⟩) hS0 ?_
        refine wpAnyH_take (i := 6) (v := .int .i64 sn) rfl (by kernel_rfl) (by kernel_rfl) (by kernel_rfl) (fun _ _ _ h => h) (Or.inl ⟨by rfl, by intro W hW; obtain ⟨⟨e0, e1, e2, e3, e4, e5, e6, e7, e8, e9, e10⟩, b0, b1, b2, b3, b4⟩ := EQ6.out W (HSW.out W hW); go_simp; try (first | (with_reducible rfl) | omega)⟩) hS0 ?_
        try go_simp
        obtain ⟨wd, hwd⟩ : ∃ X, wj.drew = X := ⟨_, rfl⟩
        rw [hwd] at HP0 hS0
        rw [hwd]
        clear hwd
        refine wpAnyH_two (i := 4) (j := 12) (by kernel_rfl) rfl rfl (fun K hK => ?_) (fun K hK => ?_)
        · go_simp
          refine (cLat.out _ hS0).mono ?_
          rintro e w10 ⟨rfl, rfl⟩
          go_simp
          refine hK _ _ ⟨hS0, ?_⟩; clear hK K
          refine wpAnyH_two (i := 9) (j := 12) (by kernel_rfl) rfl rfl (fun K hK => ?_) (fun K hK => ?_)
          · go_simp
            refine (cNd.out _ hS0).mono ?_
            rintro e w11 ⟨rfl, hb11⟩
            have hS11 : BK (FG3 (FG3 F w.heap.size w6.heap.size) wr.heap.size wi.heap.size) wj w11 := hS0.bel hb11
            have HP11 : Hid (PcW base (FG3 (FG3 F w.heap.size w6.heap.size) wr.heap.size wi.heap.size) pb (k + j) (l0 ++ (ys.take j).map (retM sn)) (l1 ++ lnU x.lines j) (l2 ++ atU x sn j) v3 v4 w11) := Lib.hid (HP0.out.on hb11)
            clear hb11
            go_simp
            refine hK _ _ ⟨hS11, ?_⟩; clear hK K
            try go_simp
            refine wpAnyH_take (i := 10) (v := .int .i64 (IntKind.i64.wrap (sn + nd))) rfl (by kernel_rfl) (by kernel_rfl) (by kernel_rfl) (fun _ _ _ h => h) (Or.inl ⟨by rfl, by intro W hW; go_simp; try (first | (with_reducible rfl) | omega)⟩) hS11 ?_
            try go_simp
            refine wpAnyH_one (i := 12) (by kernel_rfl) rfl (fun K hK => ?_)
            obtain ⟨lb, hlb⟩ : ∃ X, (World.heap w11).size = X := ⟨_, rfl⟩
            obtain ⟨w12, hw12⟩ : ∃ X, World.alloc w11 (.cells #[.int .i64 34, .int .i64 sn] 49) = X := ⟨_, rfl⟩
            have hb12 : Below (World.heap w11).size w11 w12 := by rw [← hw12]; exact bl_one _
            have hS12 : BK (FG3 (FG3 F w.heap.size w6.heap.size) wr.heap.size wi.heap.size) wj w12 := hS11.bel hb12
            have HP12 : Hid (PcW base (FG3 (FG3 F w.heap.size w6.heap.size) wr.heap.size wi.heap.size) pb (k + j) (l0 ++ (ys.take j).map (retM sn)) (l1 ++ lnU x.lines j) (l2 ++ atU x sn j) v3 v4 w12) := Lib.hid (HP11.out.on hb12)
            have HL12 : Hid (Cells w12 lb [.int .i64 34, .int .i64 sn]) := Lib.hid (by rw [← hw12, ← hlb]; exact Cells.new _ [.int .i64 34, .int .i64 sn] _)
            go_simp
            refine hK _ _ ⟨hS12, ?_⟩; clear hK K hb12 hw12 hlb
            have cL := Lib.hid (line_pc lb lv (IntKind.i64.wrap (sn + nd)) 34 sn w12 HP12.out (HL12.out.at_ 0 _ rfl) (HL12.out.at_ 1 _ rfl) (by omega))
            refine wpAnyH_one (i := 13) (by kernel_rfl) rfl (fun K hK => ?_)
            go_simp
            refine (cL.out).mono ?_
            rintro e w99 ⟨⟨v, rfl⟩, hp99, hk99⟩
            have hS99 : BK (FG3 (FG3 F w.heap.size w6.heap.size) wr.heap.size wi.heap.size) wj w99 := hS12.trans hk99
            have HN : Hid (PcW base (FG3 F w.heap.size w6.heap.size) pb (k + (j + 1)) (l0 ++ (ys.take (j + 1)).map (retM sn)) (l1 ++ lnU x.lines (j + 1)) (l2 ++ atU x sn (j + 1)) v3 v4 w99 ∧ BK (FG3 F w.heap.size w6.heap.size) w6 w99) := Lib.hid ⟨by
              have h5 := hp99.less (G := (FG3 F w.heap.size w6.heap.size)) (fun j hj => .inl hj)
              rw [wr64, ← HLV.out.1, ← HLV.out.2, List.append_assoc, List.append_assoc, List.append_assoc, ← HRN.out, ret_next sn HY.out, lnU_next, atU_next, Nat.add_assoc] at h5
              exact h5, HSW.out w99 hS99⟩
            clear hp99 hk99 cL
            go_simp
            refine hK _ _ ⟨hS99, ?_⟩; clear hK K
            try go_simp
            refine wpAnyH_done (by kernel_rfl) ?_ _
            go_simp
            go_wp2_with fail
            go_roundw
            case rel => exact ⟨j + 1, by go_num, by omega, HN⟩
            case measure => simp [intOf]; omega
          · obtain ⟨lb, hlb⟩ : ∃ X, (World.heap wd).size = X := ⟨_, rfl⟩
            obtain ⟨w13, hw13⟩ : ∃ X, World.alloc wd (.cells #[.int .i64 34, .int .i64 sn] 49) = X := ⟨_, rfl⟩
            have hb13 : Below (World.heap wd).size wd w13 := by rw [← hw13]; exact bl_one _
            have hS13 : BK (FG3 (FG3 F w.heap.size w6.heap.size) wr.heap.size wi.heap.size) wj w13 := hS0.bel hb13
            have HP13 : Hid (PcW base (FG3 (FG3 F w.heap.size w6.heap.size) wr.heap.size wi.heap.size) pb (k + j) (l0 ++ (ys.take j).map (retM sn)) (l1 ++ lnU x.lines j) (l2 ++ atU x sn j) v3 v4 w13) := Lib.hid (HP0.out.on hb13)
            have HL13 : Hid (Cells w13 lb [.int .i64 34, .int .i64 sn]) := Lib.hid (by rw [← hw13, ← hlb]; exact Cells.new _ [.int .i64 34, .int .i64 sn] _)
            go_simp
            refine hK _ _ ⟨hS13, ?_⟩; clear hK K hb13 hw13 hlb
            refine wpAnyH_one (i := 9) (by kernel_rfl) rfl (fun K hK => ?_)
            go_simp
            refine (cNd.out _ hS13).mono ?_
            rintro e w14 ⟨rfl, hb14⟩
            have hS14 : BK (FG3 (FG3 F w.heap.size w6.heap.size) wr.heap.size wi.heap.size) wj w14 := hS13.bel hb14
            have HP14 : Hid (PcW base (FG3 (FG3 F w.heap.size w6.heap.size) wr.heap.size wi.heap.size) pb (k + j) (l0 ++ (ys.take j).map (retM sn)) (l1 ++ lnU x.lines j) (l2 ++ atU x sn j) v3 v4 w14) := Lib.hid (HP13.out.on hb14)
            have HL14 : Hid (Cells w14 lb [.int .i64 34, .int .i64 sn]) := Lib.hid (HL13.out.on hb14)
            clear hb14
            go_simp
            refine hK _ _ ⟨hS14, ?_⟩; clear hK K
            try go_simp
            refine wpAnyH_take (i := 10) (v := .int .i64 (IntKind.i64.wrap (sn + nd))) rfl (by kernel_rfl) (by kernel_rfl) (by kernel_rfl) (fun _ _ _ h => h) (Or.inl ⟨by rfl, by intro W hW; go_simp; try (first | (with_reducible rfl) | omega)⟩) hS14 ?_
            try go_simp
            have cL := Lib.hid (line_pc lb lv (IntKind.i64.wrap (sn + nd)) 34 sn w14 HP14.out (HL14.out.at_ 0 _ rfl) (HL14.out.at_ 1 _ rfl) (by omega))
            refine wpAnyH_one (i := 13) (by kernel_rfl) rfl (fun K hK => ?_)
            go_simp
            refine (cL.out).mono ?_
            rintro e w99 ⟨⟨v, rfl⟩, hp99, hk99⟩
            have hS99 : BK (FG3 (FG3 F w.heap.size w6.heap.size) wr.heap.size wi.heap.size) wj w99 := hS14.trans hk99
            have HN : Hid (PcW base (FG3 F w.heap.size w6.heap.size) pb (k + (j + 1)) (l0 ++ (ys.take (j + 1)).map (retM sn)) (l1 ++ lnU x.lines (j + 1)) (l2 ++ atU x sn (j + 1)) v3 v4 w99 ∧ BK (FG3 F w.heap.size w6.heap.size) w6 w99) := Lib.hid ⟨by
              have h5 := hp99.less (G := (FG3 F w.heap.size w6.heap.size)) (fun j hj => .inl hj)
              rw [wr64, ← HLV.out.1, ← HLV.out.2, List.append_assoc, List.append_assoc, List.append_assoc, ← HRN.out, ret_next sn HY.out, lnU_next, atU_next, Nat.add_assoc] at h5
              exact h5, HSW.out w99 hS99⟩
            clear hp99 hk99 cL
            go_simp
            refine hK _ _ ⟨hS99, ?_⟩; clear hK K
            try go_simp
            refine wpAnyH_done (by kernel_rfl) ?_ _
            go_simp
            go_wp2_with fail
            go_roundw
            case rel => exact ⟨j + 1, by go_num, by omega, HN⟩
            case measure => simp [intOf]; omega
        · obtain ⟨lb, hlb⟩ : ∃ X, (World.heap wd).size = X := ⟨_, rfl⟩
          obtain ⟨w15, hw15⟩ : ∃ X, World.alloc wd (.cells #[.int .i64 34, .int .i64 sn] 49) = X := ⟨_, rfl⟩
          have hb15 : Below (World.heap wd).size wd w15 := by rw [← hw15]; exact bl_one _
          have hS15 : BK (FG3 (FG3 F w.heap.size w6.heap.size) wr.heap.size wi.heap.size) wj w15 := hS0.bel hb15
          have HP15 : Hid (PcW base (FG3 (FG3 F w.heap.size w6.heap.size) wr.heap.size wi.heap.size) pb (k + j) (l0 ++ (ys.take j).map (retM sn)) (l1 ++ lnU x.lines j) (l2 ++ atU x sn j) v3 v4 w15) := Lib.hid (HP0.out.on hb15)
          have HL15 : Hid (Cells w15 lb [.int .i64 34, .int .i64 sn]) := Lib.hid (by rw [← hw15, ← hlb]; exact Cells.new _ [.int .i64 34, .int .i64 sn] _)
          go_simp
          refine hK _ _ ⟨hS15, ?_⟩; clear hK K hb15 hw15 hlb
          refine wpAnyH_one (i := 4) (by kernel_rfl) rfl (fun K hK => ?_)
          go_simp
          refine (cLat.out _ hS15).mono ?_
          rintro e w16 ⟨rfl, rfl⟩
          go_simp
          refine hK _ _ ⟨hS15, ?_⟩; clear hK K
          refine wpAnyH_one (i := 9) (by kernel_rfl) rfl (fun K hK => ?_)
          go_simp
          refine (cNd.out _ hS15).mono ?_
          rintro e w17 ⟨rfl, hb17⟩
          have hS17 : BK (FG3 (FG3 F w.heap.size w6.heap.size) wr.heap.size wi.heap.size) wj w17 := hS15.bel hb17
          have HP17 : Hid (PcW base (FG3 (FG3 F w.heap.size w6.heap.size) wr.heap.size wi.heap.size) pb (k + j) (l0 ++ (ys.take j).map (retM sn)) (l1 ++ lnU x.lines j) (l2 ++ atU x sn j) v3 v4 w17) := Lib.hid (HP15.out.on hb17)
          have HL17 : Hid (Cells w17 lb [.int .i64 34, .int .i64 sn]) := Lib.hid (HL15.out.on hb17)
          clear hb17
          go_simp
          refine hK _ _ ⟨hS17, ?_⟩; clear hK K
          try go_simp
          refine wpAnyH_take (i := 10) (v := .int .i64 (IntKind.i64.wrap (sn + nd))) rfl (by kernel_rfl) (by kernel_rfl) (by kernel_rfl) (fun _ _ _ h => h) (Or.inl ⟨by rfl, by intro W hW; go_simp; try (first | (with_reducible rfl) | omega)⟩) hS17 ?_
          try go_simp
          have cL := Lib.hid (line_pc lb lv (IntKind.i64.wrap (sn + nd)) 34 sn w17 HP17.out (HL17.out.at_ 0 _ rfl) (HL17.out.at_ 1 _ rfl) (by omega))
          refine wpAnyH_one (i := 13) (by kernel_rfl) rfl (fun K hK => ?_)
          go_simp
          refine (cL.out).mono ?_
          rintro e w99 ⟨⟨v, rfl⟩, hp99, hk99⟩
          have hS99 : BK (FG3 (FG3 F w.heap.size w6.heap.size) wr.heap.size wi.heap.size) wj w99 := hS17.trans hk99
          have HN : Hid (PcW base (FG3 F w.heap.size w6.heap.size) pb (k + (j + 1)) (l0 ++ (ys.take (j + 1)).map (retM sn)) (l1 ++ lnU x.lines (j + 1)) (l2 ++ atU x sn (j + 1)) v3 v4 w99 ∧ BK (FG3 F w.heap.size w6.heap.size) w6 w99) := Lib.hid ⟨by
            have h5 := hp99.less (G := (FG3 F w.heap.size w6.heap.size)) (fun j hj => .inl hj)
            rw [wr64, ← HLV.out.1, ← HLV.out.2, List.append_assoc, List.append_assoc, List.append_assoc, ← HRN.out, ret_next sn HY.out, lnU_next, atU_next, Nat.add_assoc] at h5
            exact h5, HSW.out w99 hS99⟩
          clear hp99 hk99 cL
          go_simp
          refine hK _ _ ⟨hS99, ?_⟩; clear hK K
          try go_simp
          refine wpAnyH_done (by kernel_rfl) ?_ _
          go_simp
          go_wp2_with fail
          go_roundw
          case rel => exact ⟨j + 1, by go_num, by omega, HN⟩
          case measure => simp [intOf]; omega
      · have t25 : (yo == 25) = false := by simpa using h25
        have HRN : Hid (retM sn ⟨yo, ya⟩ = ⟨yo, ya⟩) := Lib.hid (by unfold retM; rw [if_neg h25])
        have x0 := hci.at_ 0 _ rfl
        have x1 := hci.at_ 1 _ rfl
        have HCJ := Lib.hid hci
        clear h25 hci
        go_wp2_with fail
        clear x0 x1 hwi hib
        have HSW : Hid (∀ W, BK (FG3 (FG3 F w.heap.size w6.heap.size) wr.heap.size wi.heap.size) wi W → BK (FG3 F w.heap.size w6.heap.size) w6 W) := Lib.hid fun W hW => HBi.out.trans (Kp.less hW fun j hj => .inl hj)
        have HCI : Hid (∀ W, BK (FG3 (FG3 F w.heap.size w6.heap.size) wr.heap.size wi.heap.size) wi W → W.cell? ⟨ib, 0, none⟩ = some (.int .i64 yo) ∧ W.cell? ⟨ib, 1, none⟩ = some (.int .i64 ya)) := Lib.hid fun W hW => by
          have h1 := HCJ.out.kp hW (fun hn => hn (.inr ⟨by have := HIB.out; omega, by have := HIB.out; omega⟩))
          exact ⟨h1.at_ 0 _ rfl, h1.at_ 1 _ rfl⟩
        obtain ⟨lv, hlv⟩ : ∃ v, lineM x.lines j = v := ⟨_, rfl⟩
        obtain ⟨nd, hnd⟩ : ∃ v, ndM x j = v := ⟨_, rfl⟩
        have cLat : Hid (∀ W, BK (FG3 (FG3 F w.heap.size w6.heap.size) wr.heap.size wi.heap.size) wi W → Calls Try.prog 45 #[.slice A5 n5 c5, .int .i64 (j : Int)] W fun e w' => e = .returned (.int .i64 lv) ∧ W = w') := Lib.hid fun W hW => by rw [← hlv]; exact lat_any A5 n5 c5 _ x.lines j W (HFN6.out W (HSW.out W hW)).r5 (by omega) (by omega)
        have cNd : Hid (∀ W, BK (FG3 (FG3 F w.heap.size w6.heap.size) wr.heap.size wi.heap.size) wi W → Calls Try.prog 46 #[.agg #[.string s, .bool b, .slice A0 n0 c0, .slice A1 n1 c1, .slice A2 n2 c2, .slice A3 n3 c3, .slice A4 n4 c4, .slice A5 n5 c5, .slice A6 n6 c6, .slice A7 n7 c7, .slice A8 n8 c8], .int .i64 (j : Int)] W fun e w' => e = .returned (.int .i64 nd) ∧ Below W.heap.size W w') := Lib.hid fun W hW => by rw [← hnd]; exact node_any s b A0 n0 c0 A1 n1 c1 A2 n2 c2 A3 n3 c3 A4 n4 c4 A5 n5 c5 A6 n6 c6 A7 n7 c7 A8 n8 c8 x j W (HFN6.out W (HSW.out W hW)) (by omega)
        have HLV : Hid (lineM x.lines j = lv ∧ ndM x j = nd) := Lib.hid ⟨hlv, hnd⟩
        clear hlv hnd
        refine wp_region_held (S := fun W => BK (FG3 (FG3 F w.heap.size w6.heap.size) wr.heap.size wi.heap.size) wi W) (by kernel_rfl) ?_
        change wpAnyH _ _ _ _ _ _ _ _ (World.drew _)
        have hS0 : BK (FG3 (FG3 F w.heap.size w6.heap.size) wr.heap.size wi.heap.size) wi wi.drew := (Kp.refl _ _).drew
        have HP0 : Hid (PcW base (FG3 (FG3 F w.heap.size w6.heap.size) wr.heap.size wi.heap.size) pb (k + j) (l0 ++ (ys.take j).map (retM sn)) (l1 ++ lnU x.lines j) (l2 ++ atU x sn j) v3 v4 wi.drew) := Lib.hid (HPi.out.on ((Below.refl _ _).drew))
        refine wpAnyH_take (i := 0) (v := .pointer (some ⟨pb, 0, none⟩)) rfl (by kernel_rfl) (by kernel_rfl) (by kernel_rfl) (fun _ _ _ h => h) (Or.inl ⟨by rfl, by intro W hW; go_simp; try (first | (with_reducible rfl) | omega)⟩) hS0 ?_
        refine wpAnyH_take (i := 1) (v := .pointer (some ⟨g, 7, none⟩)) rfl (by kernel_rfl) (by kernel_rfl) (by kernel_rfl) (fun _ _ _ h => h) (Or.inl ⟨by rfl, by intro W hW; go_simp; try (first | (with_reducible rfl) | omega)⟩) hS0 ?_
        refine wpAnyH_take (i := 3) (v := .int .i64 (j : Int)) rfl (by kernel_rfl) (by kernel_rfl) (by kernel_rfl) (fun _ _ _ h => h) (Or.inl ⟨by rfl, by intro W hW; go_simp; try (first | (with_reducible rfl) | omega)⟩) hS0 ?_
        refine wpAnyH_take (i := 5) (v := .pointer (some ⟨g + 1, 1, none⟩)) rfl (by kernel_rfl) (by kernel_rfl) (by kernel_rfl) (fun _ _ _ h => h) (Or.inl ⟨by rfl, by intro W hW; go_simp; try (first | (with_reducible rfl) | omega)⟩) hS0 ?_
        refine wpAnyH_take (i := 7) (v := .agg #[.string s, .bool b, .slice A0 n0 c0, .slice A1 n1 c1, .slice A2 n2 c2, .slice A3 n3 c3, .slice A4 n4 c4, .slice A5 n5 c5, .slice A6 n6 c6, .slice A7 n7 c7, .slice A8 n8 c8]) rfl (by kernel_rfl) (by kernel_rfl) (by kernel_rfl) (fun _ _ _ h => h) (Or.inl ⟨by rfl, by intro W hW; obtain ⟨⟨e0, e1, e2, e3, e4, e5, e6, e7, e8, e9, e10⟩, b0, b1, b2, b3, b4⟩ := EQ6.out W (HSW.out W hW); go_simp; try (first | (with_reducible rfl) | omega)⟩) hS0 ?_
        refine wpAnyH_take (i := 8) (v := .int .i64 (j : Int)) rfl (by kernel_rfl) (by kernel_rfl) (by kernel_rfl) (fun _ _ _ h => h) (Or.inl ⟨by rfl, by intro W hW; go_simp; try (first | (with_reducible rfl) | omega)⟩) hS0 ?_
        refine wpAnyH_take (i := 11) (v := .agg #[.int .i64 yo, .int .i64 ya]) rfl (by kernel_rfl) (by kernel_rfl) (by kernel_rfl) (fun _ _ _ h => h) (Or.inl ⟨by rfl, by intro W hW; obtain ⟨z0, z1⟩ := HCI.out W hW; go_simp; try (first | (with_reducible rfl) | omega)⟩) hS0 ?_
        try go_simp
        refine wpAnyH_take (i := 2) (v := .slice A5 n5 c5) rfl (by kernel_rfl) (by kernel_rfl) (by kernel_rfl) (fun _ _ _ h => h) (Or.inl ⟨by rfl, by intro W hW; obtain ⟨⟨e0, e1, e2, e3, e4, e5, e6, e7, e8, e9, e10⟩, b0, b1, b2, b3, b4⟩ := EQ6.out W (HSW.out W hW); go_simp; try (first | (with_reducible rfl) | omega)⟩) hS0 ?_
        refine wpAnyH_take (i := 6) (v := .int .i64 sn) rfl (by kernel_rfl) (by kernel_rfl) (by kernel_rfl) (fun _ _ _ h => h) (Or.inl ⟨by rfl, by intro W hW; obtain ⟨⟨e0, e1, e2, e3, e4, e5, e6, e7, e8, e9, e10⟩, b0, b1, b2, b3, b4⟩ := EQ6.out W (HSW.out W hW); go_simp; try (first | (with_reducible rfl) | omega)⟩) hS0 ?_
        try go_simp
        obtain ⟨wd, hwd⟩ : ∃ X, wi.drew = X := ⟨_, rfl⟩
        rw [hwd] at HP0 hS0
        rw [hwd]
        clear hwd
        refine wpAnyH_two (i := 4) (j := 12) (by kernel_rfl) rfl rfl (fun K hK => ?_) (fun K hK => ?_)
        · go_simp
          refine (cLat.out _ hS0).mono ?_
          rintro e w10 ⟨rfl, rfl⟩
          go_simp
          refine hK _ _ ⟨hS0, ?_⟩; clear hK K
          refine wpAnyH_two (i := 9) (j := 12) (by kernel_rfl) rfl rfl (fun K hK => ?_) (fun K hK => ?_)
          · go_simp
            refine (cNd.out _ hS0).mono ?_
            rintro e w11 ⟨rfl, hb11⟩
            have hS11 : BK (FG3 (FG3 F w.heap.size w6.heap.size) wr.heap.size wi.heap.size) wi w11 := hS0.bel hb11
            have HP11 : Hid (PcW base (FG3 (FG3 F w.heap.size w6.heap.size) wr.heap.size wi.heap.size) pb (k + j) (l0 ++ (ys.take j).map (retM sn)) (l1 ++ lnU x.lines j) (l2 ++ atU x sn j) v3 v4 w11) := Lib.hid (HP0.out.on hb11)
            clear hb11
            go_simp
            refine hK _ _ ⟨hS11, ?_⟩; clear hK K
            try go_simp
            refine wpAnyH_take (i := 10) (v := .int .i64 (IntKind.i64.wrap (sn + nd))) rfl (by kernel_rfl) (by kernel_rfl) (by kernel_rfl) (fun _ _ _ h => h) (Or.inl ⟨by rfl, by intro W hW; go_simp; try (first | (with_reducible rfl) | omega)⟩) hS11 ?_
            try go_simp
            refine wpAnyH_one (i := 12) (by kernel_rfl) rfl (fun K hK => ?_)
            obtain ⟨lb, hlb⟩ : ∃ X, (World.heap w11).size = X := ⟨_, rfl⟩
            obtain ⟨w12, hw12⟩ : ∃ X, World.alloc w11 (.cells #[.int .i64 yo, .int .i64 ya] 49) = X := ⟨_, rfl⟩
            have hb12 : Below (World.heap w11).size w11 w12 := by rw [← hw12]; exact bl_one _
            have hS12 : BK (FG3 (FG3 F w.heap.size w6.heap.size) wr.heap.size wi.heap.size) wi w12 := hS11.bel hb12
            have HP12 : Hid (PcW base (FG3 (FG3 F w.heap.size w6.heap.size) wr.heap.size wi.heap.size) pb (k + j) (l0 ++ (ys.take j).map (retM sn)) (l1 ++ lnU x.lines j) (l2 ++ atU x sn j) v3 v4 w12) := Lib.hid (HP11.out.on hb12)
            have HL12 : Hid (Cells w12 lb [.int .i64 yo, .int .i64 ya]) := Lib.hid (by rw [← hw12, ← hlb]; exact Cells.new _ [.int .i64 yo, .int .i64 ya] _)
            go_simp
            refine hK _ _ ⟨hS12, ?_⟩; clear hK K hb12 hw12 hlb
            have cL := Lib.hid (line_pc lb lv (IntKind.i64.wrap (sn + nd)) yo ya w12 HP12.out (HL12.out.at_ 0 _ rfl) (HL12.out.at_ 1 _ rfl) (by omega))
            refine wpAnyH_one (i := 13) (by kernel_rfl) rfl (fun K hK => ?_)
            go_simp
            refine (cL.out).mono ?_
            rintro e w99 ⟨⟨v, rfl⟩, hp99, hk99⟩
            have hS99 : BK (FG3 (FG3 F w.heap.size w6.heap.size) wr.heap.size wi.heap.size) wi w99 := hS12.trans hk99
            have HN : Hid (PcW base (FG3 F w.heap.size w6.heap.size) pb (k + (j + 1)) (l0 ++ (ys.take (j + 1)).map (retM sn)) (l1 ++ lnU x.lines (j + 1)) (l2 ++ atU x sn (j + 1)) v3 v4 w99 ∧ BK (FG3 F w.heap.size w6.heap.size) w6 w99) := Lib.hid ⟨by
              have h5 := hp99.less (G := (FG3 F w.heap.size w6.heap.size)) (fun j hj => .inl hj)
              rw [wr64, ← HLV.out.1, ← HLV.out.2, List.append_assoc, List.append_assoc, List.append_assoc, ← HRN.out, ret_next sn HY.out, lnU_next, atU_next, Nat.add_assoc] at h5
              exact h5, HSW.out w99 hS99⟩
            clear hp99 hk99 cL
            go_simp
            refine hK _ _ ⟨hS99, ?_⟩; clear hK K
            try go_simp
            refine wpAnyH_done (by kernel_rfl) ?_ _
            go_simp
            go_wp2_with fail
            go_roundw
            case rel => exact ⟨j + 1, by go_num, by omega, HN⟩
            case measure => simp [intOf]; omega
          · obtain ⟨lb, hlb⟩ : ∃ X, (World.heap wd).size = X := ⟨_, rfl⟩
            obtain ⟨w13, hw13⟩ : ∃ X, World.alloc wd (.cells #[.int .i64 yo, .int .i64 ya] 49) = X := ⟨_, rfl⟩
            have hb13 : Below (World.heap wd).size wd w13 := by rw [← hw13]; exact bl_one _
            have hS13 : BK (FG3 (FG3 F w.heap.size w6.heap.size) wr.heap.size wi.heap.size) wi w13 := hS0.bel hb13
            have HP13 : Hid (PcW base (FG3 (FG3 F w.heap.size w6.heap.size) wr.heap.size wi.heap.size) pb (k + j) (l0 ++ (ys.take j).map (retM sn)) (l1 ++ lnU x.lines j) (l2 ++ atU x sn j) v3 v4 w13) := Lib.hid (HP0.out.on hb13)
            have HL13 : Hid (Cells w13 lb [.int .i64 yo, .int .i64 ya]) := Lib.hid (by rw [← hw13, ← hlb]; exact Cells.new _ [.int .i64 yo, .int .i64 ya] _)
            go_simp
            refine hK _ _ ⟨hS13, ?_⟩; clear hK K hb13 hw13 hlb
            refine wpAnyH_one (i := 9) (by kernel_rfl) rfl (fun K hK => ?_)
            go_simp
            refine (cNd.out _ hS13).mono ?_
            rintro e w14 ⟨rfl, hb14⟩
            have hS14 : BK (FG3 (FG3 F w.heap.size w6.heap.size) wr.heap.size wi.heap.size) wi w14 := hS13.bel hb14
            have HP14 : Hid (PcW base (FG3 (FG3 F w.heap.size w6.heap.size) wr.heap.size wi.heap.size) pb (k + j) (l0 ++ (ys.take j).map (retM sn)) (l1 ++ lnU x.lines j) (l2 ++ atU x sn j) v3 v4 w14) := Lib.hid (HP13.out.on hb14)
            have HL14 : Hid (Cells w14 lb [.int .i64 yo, .int .i64 ya]) := Lib.hid (HL13.out.on hb14)
            clear hb14
            go_simp
            refine hK _ _ ⟨hS14, ?_⟩; clear hK K
            try go_simp
            refine wpAnyH_take (i := 10) (v := .int .i64 (IntKind.i64.wrap (sn + nd))) rfl (by kernel_rfl) (by kernel_rfl) (by kernel_rfl) (fun _ _ _ h => h) (Or.inl ⟨by rfl, by intro W hW; go_simp; try (first | (with_reducible rfl) | omega)⟩) hS14 ?_
            try go_simp
            have cL := Lib.hid (line_pc lb lv (IntKind.i64.wrap (sn + nd)) yo ya w14 HP14.out (HL14.out.at_ 0 _ rfl) (HL14.out.at_ 1 _ rfl) (by omega))
            refine wpAnyH_one (i := 13) (by kernel_rfl) rfl (fun K hK => ?_)
            go_simp
            refine (cL.out).mono ?_
            rintro e w99 ⟨⟨v, rfl⟩, hp99, hk99⟩
            have hS99 : BK (FG3 (FG3 F w.heap.size w6.heap.size) wr.heap.size wi.heap.size) wi w99 := hS14.trans hk99
            have HN : Hid (PcW base (FG3 F w.heap.size w6.heap.size) pb (k + (j + 1)) (l0 ++ (ys.take (j + 1)).map (retM sn)) (l1 ++ lnU x.lines (j + 1)) (l2 ++ atU x sn (j + 1)) v3 v4 w99 ∧ BK (FG3 F w.heap.size w6.heap.size) w6 w99) := Lib.hid ⟨by
              have h5 := hp99.less (G := (FG3 F w.heap.size w6.heap.size)) (fun j hj => .inl hj)
              rw [wr64, ← HLV.out.1, ← HLV.out.2, List.append_assoc, List.append_assoc, List.append_assoc, ← HRN.out, ret_next sn HY.out, lnU_next, atU_next, Nat.add_assoc] at h5
              exact h5, HSW.out w99 hS99⟩
            clear hp99 hk99 cL
            go_simp
            refine hK _ _ ⟨hS99, ?_⟩; clear hK K
            try go_simp
            refine wpAnyH_done (by kernel_rfl) ?_ _
            go_simp
            go_wp2_with fail
            go_roundw
            case rel => exact ⟨j + 1, by go_num, by omega, HN⟩
            case measure => simp [intOf]; omega
        · obtain ⟨lb, hlb⟩ : ∃ X, (World.heap wd).size = X := ⟨_, rfl⟩
          obtain ⟨w15, hw15⟩ : ∃ X, World.alloc wd (.cells #[.int .i64 yo, .int .i64 ya] 49) = X := ⟨_, rfl⟩
          have hb15 : Below (World.heap wd).size wd w15 := by rw [← hw15]; exact bl_one _
          have hS15 : BK (FG3 (FG3 F w.heap.size w6.heap.size) wr.heap.size wi.heap.size) wi w15 := hS0.bel hb15
          have HP15 : Hid (PcW base (FG3 (FG3 F w.heap.size w6.heap.size) wr.heap.size wi.heap.size) pb (k + j) (l0 ++ (ys.take j).map (retM sn)) (l1 ++ lnU x.lines j) (l2 ++ atU x sn j) v3 v4 w15) := Lib.hid (HP0.out.on hb15)
          have HL15 : Hid (Cells w15 lb [.int .i64 yo, .int .i64 ya]) := Lib.hid (by rw [← hw15, ← hlb]; exact Cells.new _ [.int .i64 yo, .int .i64 ya] _)
          go_simp
          refine hK _ _ ⟨hS15, ?_⟩; clear hK K hb15 hw15 hlb
          refine wpAnyH_one (i := 4) (by kernel_rfl) rfl (fun K hK => ?_)
          go_simp
          refine (cLat.out _ hS15).mono ?_
          rintro e w16 ⟨rfl, rfl⟩
          go_simp
          refine hK _ _ ⟨hS15, ?_⟩; clear hK K
          refine wpAnyH_one (i := 9) (by kernel_rfl) rfl (fun K hK => ?_)
          go_simp
          refine (cNd.out _ hS15).mono ?_
          rintro e w17 ⟨rfl, hb17⟩
          have hS17 : BK (FG3 (FG3 F w.heap.size w6.heap.size) wr.heap.size wi.heap.size) wi w17 := hS15.bel hb17
          have HP17 : Hid (PcW base (FG3 (FG3 F w.heap.size w6.heap.size) wr.heap.size wi.heap.size) pb (k + j) (l0 ++ (ys.take j).map (retM sn)) (l1 ++ lnU x.lines j) (l2 ++ atU x sn j) v3 v4 w17) := Lib.hid (HP15.out.on hb17)
          have HL17 : Hid (Cells w17 lb [.int .i64 yo, .int .i64 ya]) := Lib.hid (HL15.out.on hb17)
          clear hb17
          go_simp
          refine hK _ _ ⟨hS17, ?_⟩; clear hK K
          try go_simp
          refine wpAnyH_take (i := 10) (v := .int .i64 (IntKind.i64.wrap (sn + nd))) rfl (by kernel_rfl) (by kernel_rfl) (by kernel_rfl) (fun _ _ _ h => h) (Or.inl ⟨by rfl, by intro W hW; go_simp; try (first | (with_reducible rfl) | omega)⟩) hS17 ?_
          try go_simp
          have cL := Lib.hid (line_pc lb lv (IntKind.i64.wrap (sn + nd)) yo ya w17 HP17.out (HL17.out.at_ 0 _ rfl) (HL17.out.at_ 1 _ rfl) (by omega))
          refine wpAnyH_one (i := 13) (by kernel_rfl) rfl (fun K hK => ?_)
          go_simp
          refine (cL.out).mono ?_
          rintro e w99 ⟨⟨v, rfl⟩, hp99, hk99⟩
          have hS99 : BK (FG3 (FG3 F w.heap.size w6.heap.size) wr.heap.size wi.heap.size) wi w99 := hS17.trans hk99
          have HN : Hid (PcW base (FG3 F w.heap.size w6.heap.size) pb (k + (j + 1)) (l0 ++ (ys.take (j + 1)).map (retM sn)) (l1 ++ lnU x.lines (j + 1)) (l2 ++ atU x sn (j + 1)) v3 v4 w99 ∧ BK (FG3 F w.heap.size w6.heap.size) w6 w99) := Lib.hid ⟨by
            have h5 := hp99.less (G := (FG3 F w.heap.size w6.heap.size)) (fun j hj => .inl hj)
            rw [wr64, ← HLV.out.1, ← HLV.out.2, List.append_assoc, List.append_assoc, List.append_assoc, ← HRN.out, ret_next sn HY.out, lnU_next, atU_next, Nat.add_assoc] at h5
            exact h5, HSW.out w99 hS99⟩
          clear hp99 hk99 cL
          go_simp
          refine hK _ _ ⟨hS99, ?_⟩; clear hK K
          try go_simp
          refine wpAnyH_done (by kernel_rfl) ?_ _
          go_simp
          go_wp2_with fail
          go_roundw
          case rel => exact ⟨j + 1, by go_num, by omega, HN⟩
          case measure => simp [intOf]; omega
    · obtain rfl : j = n4 := by omega
      have HN : Hid (IsPc base F pb (k + j) (l0 ++ bodyC pl ss sn x.code) (l1 ++ lnU x.lines j) (l2 ++ atU x sn j) v3 v4 w (.returned (.tuple #[])) wr) := Lib.hid ⟨⟨_, rfl⟩, by
        have h1 := HK.out.1
        rw [List.take_of_length_le (by have := HRT.out.2; omega), ← HRT.out.1] at h1
        exact h1.less fun j hj => .inl hj, ((Kp.refl _ w).ofBelow HW6.out).trans (Kp.less HK.out.2 fun j hj => .inl hj)⟩
      clear HK
      go_wp2_with fail
      go_end0
      exact HN.out
end Go.Proofs.Ythfdmpcnebjkjaa
