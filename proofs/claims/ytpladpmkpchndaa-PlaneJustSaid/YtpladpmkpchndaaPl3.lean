/-
  Complex numbers: the chapter's example; the walk of PlaneChain.
-/
import Derived.Test.YtpladpmkpchndaaPl2
import Derived.Test.YtpladpmkpchndaaPlT
import Derived.Deep.RegionHeld3
namespace Go.Proofs.Ytpladpmkpchndaa
open Go.RowKit
set_option linter.unusedSimpArgs false
set_option linter.unusedVariables false

theorem quiet_eq {P : Program} {f : FuncId} {args : Array Value} {w : World} {n : Nat} {v : Value}
    (h : Calls P f args (w.drewN n) fun e w' => e = .returned v ∧ w.drewN n = w') : Calls P f args (w.drewN n) fun e w'' => e = .returned v ∧ ∃ m, w'' = w.drewN m :=
  h.mono fun _ _ ⟨he, hm⟩ => ⟨he, n, hm.symm⟩

theorem TwoR.same {op : Int} {a b c d a' b' c' d' r i r' i' : Nat} (ha : FE a a') (hb : FE b b') (hc : FE c c') (hd : FE d d') (h : TwoR op a b c d r i) (k : TwoR op a' b' c' d' r' i') : FE r r' ∧ FE i i' := by
  obtain ⟨h1, h2, h3, h4⟩ := h
  obtain ⟨k1, k2, k3, k4⟩ := k
  have oa : (BinOp.add = .add ∨ BinOp.add = .sub ∨ BinOp.add = .mul) := .inl rfl
  have os : (BinOp.sub = .add ∨ BinOp.sub = .sub ∨ BinOp.sub = .mul) := .inr (.inl rfl)
  have om : (BinOp.mul = .add ∨ BinOp.mul = .sub ∨ BinOp.mul = .mul) := .inr (.inr rfl)
  by_cases e1 : op = 16
  · obtain ⟨x1, x2⟩ := h1 e1
    obtain ⟨y1, y2⟩ := k1 e1
    exact ⟨x1.same oa ha hc y1, x2.same oa hb hd y2⟩
  · by_cases e2 : op = 17
    · obtain ⟨x1, x2⟩ := h2 e2
      obtain ⟨y1, y2⟩ := k2 e2
      exact ⟨x1.same os ha hc y1, x2.same os hb hd y2⟩
    · by_cases e3 : op = 18
      · obtain ⟨p, q, u, v, x1, x2, x3, x4, x5, x6⟩ := h3 e3
        obtain ⟨p', q', u', v', y1, y2, y3, y4, y5, y6⟩ := k3 e3
        exact ⟨x3.same os (x1.same om ha hc y1) (x2.same om hb hd y2) y3, x6.same oa (x4.same om ha hd y4) (x5.same om hb hc y5) y6⟩
      · obtain ⟨rfl, rfl⟩ := h4 e1 e2 e3
        obtain ⟨rfl, rfl⟩ := k4 e1 e2 e3
        exact ⟨.inl rfl, .inl rfl⟩
theorem same_false : sameB (FloatKind.f64.nearest 0) (FloatKind.f64.nearest 1) 0 0 = false := by decide
set_option maxRecDepth 100000 in
theorem plane_lives (w : World) : Calls Try.prog 57 #[] w fun e w' => e = .returned (.bool true) ∧ ∃ n, w' = w.drewN n := by
  have ex0 := int_ex 0 (by omega) (by omega)
  have ex1 := int_ex 1 (by omega) (by omega)
  have sf := same_false
  have c1 : ∀ w : World, Hid (Calls Try.prog 49 #[.int .i64 0, .int .i64 1] w fun e w' => e = .returned (.complex .f64 (FloatKind.f64.nearest 0) (FloatKind.f64.nearest 1)) ∧ w = w') := fun w => pair_any 0 1 w
  generalize FloatKind.f64.nearest 0 = z at *
  generalize FloatKind.f64.nearest 1 = o at *
  have st : sameB z o z o = true := by unfold sameB; rw [(FE.rfl' z).alike, (FE.rfl' o).alike]; rfl
  have c4 : ∀ w : World, Hid (Calls Try.prog 54 #[.complex .f64 z o, .complex .f64 z o] w fun e w' => e = .returned (.bool true) ∧ w = w') := fun w => by rw [← st]; exact same_any z o z o w
  have c5 : ∀ w : World, Hid (Calls Try.prog 54 #[.complex .f64 z o, .complex .f64 0 0] w fun e w' => e = .returned (.bool false) ∧ w = w') := fun w => by rw [← sf]; exact same_any z o 0 0 w
  have E0 := Lib.hid ex0
  have E1 := Lib.hid ex1
  have t1 : ((-1 : Int) == -1) = true := by decide
  clear ex0 ex1 sf st
  go_enter Try.func57, Try.ntmps57
  go_wp2_with fail
  refine Calls.mono (c1 _).out ?_
  rintro e w' ⟨rfl, rfl⟩
  go_wp2_with fail
  refine (two_any 18 z o z o _).mono ?_
  rintro e w' ⟨r, i, n, rfl, ht, rfl⟩
  have hp : partOf 19 r i = -1 := by
    obtain ⟨p, q, u, v, x1, x2, x3, x4, x5, x6⟩ := ht.2.2.1 rfl
    have hr := (x3.sub_ex (x1.mul_ex E0.out E0.out (by decide) (by decide)) (x2.mul_ex E1.out E1.out (by decide) (by decide)) (by decide) (by decide)).part (by decide) (by decide)
    show partB r = -1
    rw [hr]
    rfl
  have c3 : ∀ w : World, Hid (Calls Try.prog 55 #[.int .i64 19, .complex .f64 r i] w fun e w' => e = .returned (.int .i64 (-1)) ∧ w = w') := fun w => by rw [← hp]; exact part_any 19 r i w
  clear ht hp
  go_wp2_with fail
  refine Calls.mono (c3 _).out ?_
  rintro e w' ⟨rfl, rfl⟩
  go_wp2_with fail
  refine Calls.mono (c4 _).out ?_
  rintro e w' ⟨rfl, rfl⟩
  go_wp2_with fail
  refine Calls.mono (c5 _).out ?_
  rintro e w' ⟨rfl, rfl⟩
  go_wp2_with fail
  go_ret
  exact ⟨rfl, _, rfl⟩

abbrev SlS (w : World) (B : Nat) (A : Option Addr) (n c : Nat) (xs : List DStep) : Prop := SlR 3 24 RStep w B A n c xs
theorem sls_at {w : World} {B : Nat} {A : Option Addr} {n c : Nat} {xs : List DStep} (h : SlS w B A n c xs) {k : Nat} (hk : k < n) : ∃ b off op re im, A = some ⟨b, off, none⟩ ∧ b < B ∧ w.cell? ⟨b, off + k * 3, none⟩ = some (.int .i64 op) ∧ w.cell? ⟨b, off + k * 3 + 1, none⟩ = some (.int .i64 re) ∧ w.cell? ⟨b, off + k * 3 + 2, none⟩ = some (.int .i64 im) := by
  obtain ⟨b, off, x, cs, hA, hb, hx, _, hc, hr⟩ := h.at_ hk
  obtain ⟨rfl, _⟩ := hr
  exact ⟨b, off, x.op, x.re, x.im, hA, hb, by simpa using hc 0 _ rfl, by simpa [Nat.add_assoc] using hc 1 _ rfl, by simpa [Nat.add_assoc] using hc 2 _ rfl⟩
def Chn (w : World) (n : Nat) (x y i : Value) (wr : World) : Prop := ∃ (k a b c d : Nat), x = .complex .f64 a b ∧ y = .complex .f64 c d ∧ i = .int .i64 k ∧ k ≤ n ∧ k ≤ 60 ∧ FE a c ∧ FE b d ∧ Below w.heap.size w wr

set_option maxRecDepth 100000 in
set_option maxHeartbeats 2000000 in
theorem planeChain_walk (A : Option Addr) (n c : Nat) (xs : List DStep) (w : World) (h : SlS w w.heap.size A n c xs) :
    Calls Try.prog 10 #[.slice A n c] w fun e w' => e = .returned (.bool true) ∧ Below w.heap.size w w' := by
  have H := Lib.hid h
  have hcm : c ≤ maxLen := h.2.2.1
  have hnc : n ≤ c := h.2.1
  have hn63 : n ≤ 9223372036854775807 := by unfold maxLen at hcm; omega
  clear h hcm
  go_enter Try.func10, Try.ntmps10
  go_wp2
  go_loopw [3, 4, 5] (fun x y i wr => Chn w n x y i wr) (fun _ _ i _ => 60 - (intOf i).toNat)
  case atStart => exact ⟨0, 0, 0, 0, 0, rfl, rfl, rfl, Nat.zero_le _, by omega, .inl rfl, .inl rfl, Below.refl _ _⟩
  case round =>
    obtain ⟨k, x1, x2, y1, y2, rfl, rfl, rfl, hk, hk6, f1, f2, hbw⟩ := hrel
    have HB := Lib.hid hbw
    have F1 := Lib.hid f1
    have F2 := Lib.hid f2
    clear f1 f2 hbw
    by_cases hlt : k < n ∧ k < 60
    · obtain ⟨hlt, h60⟩ := hlt
      obtain ⟨b, off, op, re, im, rfl, hb, r0, r1, r2⟩ := sls_at H.out hlt
      have q0 := (HB.out.cell (p := ⟨b, off + k * 3, none⟩) hb).trans r0
      have q1 := (HB.out.cell (p := ⟨b, off + k * 3 + 1, none⟩) hb).trans r1
      have q2 := (HB.out.cell (p := ⟨b, off + k * 3 + 2, none⟩) hb).trans r2
      clear r0 r1 r2 hb
      have hk0 : (0 : Int) ≤ (k : Int) := by omega
      have hkn : (k : Int) < (n : Int) := by omega
      have hk60 : (k : Int) < 60 := by omega
      go_wp2_with fail
      go_quiet (first | ((go_at_call 49; exact quiet_eq (pair_any re im _))) | ((go_at_call 50; exact quiet_eq (refPair_any re im _))))
      go_wp2_with fail
      generalize FloatKind.f64.nearest re = p1
      generalize FloatKind.f64.nearest im = p2
      go_region_held3 (fun W => W.cell? ⟨b, off + k * 3, none⟩ = some (.int .i64 op)) (go_keep) (first
        | (go_at_call 51; refine (two_any _ _ _ _ _ _).mono ?_; rintro e w' ⟨r, i, m, rfl, ht, rfl⟩; have HT := Lib.hid ht; clear ht)
        | (go_at_call 52; refine (refTwo_any _ _ _ _ _ _).mono ?_; rintro e w' ⟨r', i', m', rfl, ht', rfl⟩; have HT' := Lib.hid ht'; clear ht'))
      obtain ⟨g1, g2⟩ := TwoR.same F1.out F2.out (FE.rfl' p1) (FE.rfl' p2) HT.out HT'.out
      have st1 : sameB p1 p2 p1 p2 = true := by unfold sameB; rw [(FE.rfl' p1).alike, (FE.rfl' p2).alike]; rfl
      have st2 : sameB r i r' i' = true := by unfold sameB; rw [g1.alike, g2.alike]; rfl
      have st3 : sameB r i x1 x2 = sameB r' i' y1 y2 := by unfold sameB; rw [g1.alikes F1.out, g2.alikes F2.out]
      have c1 : ∀ w : World, Hid (Calls Try.prog 53 #[.complex .f64 p1 p2, .complex .f64 p1 p2] w fun e w' => e = .returned (.bool true) ∧ w = w') := fun w => by rw [← st1]; exact refSame_any _ _ _ _ w
      have c2 : ∀ w : World, Hid (Calls Try.prog 53 #[.complex .f64 r i, .complex .f64 r' i'] w fun e w' => e = .returned (.bool true) ∧ w = w') := fun w => by rw [← st2]; exact refSame_any _ _ _ _ w
      have c3 : ∀ w : World, Hid (Calls Try.prog 54 #[.complex .f64 r i, .complex .f64 x1 x2] w fun e w' => e = .returned (.bool (sameB r i x1 x2)) ∧ w = w') := fun w => same_any _ _ _ _ w
      have c4 : ∀ w : World, Hid (Calls Try.prog 53 #[.complex .f64 r' i', .complex .f64 y1 y2] w fun e w' => e = .returned (.bool (sameB r i x1 x2)) ∧ w = w') := fun w => by rw [st3]; exact refSame_any _ _ _ _ w
      have c5 : ∀ w : World, Hid (Calls Try.prog 55 #[.int .i64 19, .complex .f64 r i] w fun e w' => e = .returned (.int .i64 (partB r)) ∧ w = w') := fun w => part_any 19 r i w
      have c6 : ∀ w : World, Hid (Calls Try.prog 56 #[.int .i64 19, .complex .f64 r' i'] w fun e w' => e = .returned (.int .i64 (partB r)) ∧ w = w') := fun w => by rw [g1.part]; exact refPart_any 19 r' i' w
      have c7 : ∀ w : World, Hid (Calls Try.prog 55 #[.int .i64 20, .complex .f64 r i] w fun e w' => e = .returned (.int .i64 (partB i)) ∧ w = w') := fun w => part_any 20 r i w
      have c8 : ∀ w : World, Hid (Calls Try.prog 56 #[.int .i64 20, .complex .f64 r' i'] w fun e w' => e = .returned (.int .i64 (partB i)) ∧ w = w') := fun w => by rw [g2.part]; exact refPart_any 20 r' i' w
      have G1 := Lib.hid g1
      have G2 := Lib.hid g2
      generalize sameB r i x1 x2 = s at *
      generalize partB r = z1 at *
      generalize partB i = z2 at *
      have t1 : (s != s) = false := by simp
      have t2 : (z1 != z1) = false := by simp
      have t3 : (z2 != z2) = false := by simp
      clear st1 st2 st3 g1 g2 q0 q1 q2
      go_wp2_with fail
      refine Calls.mono (c1 _).out ?_
      rintro e w' ⟨rfl, rfl⟩
      go_wp2_with fail
      refine Calls.mono (c2 _).out ?_
      rintro e w' ⟨rfl, rfl⟩
      go_wp2_with fail
      refine Calls.mono (c3 _).out ?_
      rintro e w' ⟨rfl, rfl⟩
      go_wp2_with fail
      refine Calls.mono (c4 _).out ?_
      rintro e w' ⟨rfl, rfl⟩
      go_wp2_with fail
      refine Calls.mono (c5 _).out ?_
      rintro e w' ⟨rfl, rfl⟩
      go_wp2_with fail
      refine Calls.mono (c6 _).out ?_
      rintro e w' ⟨rfl, rfl⟩
      go_wp2_with fail
      refine Calls.mono (c7 _).out ?_
      rintro e w' ⟨rfl, rfl⟩
      go_wp2_with fail
      refine Calls.mono (c8 _).out ?_
      rintro e w' ⟨rfl, rfl⟩
      go_wp2_with fail
      go_roundw
      case rel => exact ⟨k + 1, r, i, r', i', rfl, rfl, by go_num, by omega, by omega, G1.out, G2.out, by repeat (first | exact HB.out | refine below_drewN' ?_ _)⟩
      case measure => simp [intOf]; omega
    · have c0 : ∀ w : World, Hid (Calls Try.prog 55 #[.int .i64 0, .complex .f64 x1 x2] w fun e w' => e = .returned (.int .i64 0) ∧ w = w') := fun w => part_any 0 x1 x2 w
      have t0 : ((0 : Int) == 0) = true := by decide
      by_cases h1 : (k : Int) < (n : Int)
      · have h2 : ¬ (k : Int) < 60 := by omega
        go_wp2_with fail
        refine Calls.mono (c0 _).out ?_
        rintro e w' ⟨rfl, rfl⟩
        go_wp2_with fail
        refine (plane_lives _).mono ?_
        rintro e w' ⟨rfl, m, rfl⟩
        go_wp2_with fail
        go_ret
        exact ⟨rfl, below_drewN' HB.out _⟩
      · go_wp2_with fail
        refine Calls.mono (c0 _).out ?_
        rintro e w' ⟨rfl, rfl⟩
        go_wp2_with fail
        refine (plane_lives _).mono ?_
        rintro e w' ⟨rfl, m, rfl⟩
        go_wp2_with fail
        go_ret
        exact ⟨rfl, below_drewN' HB.out _⟩
end Go.Proofs.Ytpladpmkpchndaa
