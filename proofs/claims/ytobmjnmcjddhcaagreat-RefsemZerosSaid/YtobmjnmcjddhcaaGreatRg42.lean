import Derived.Test.YtobmjnmcjddhcaaGreatRg41
import Derived.Test.YtobmjnmcjddhcaaGreatRg4
import Derived.Test.YtobmjnmcjddhcaaGreatRg39
set_option linter.unusedSimpArgs false
set_option linter.unusedVariables false
namespace Go.Proofs.YtobmjnmcjddhcaaGreat
section
set_option maxRecDepth 100000
set_option maxHeartbeats 8000000
open Go.RowKit
def IsPl (fs : List DFunc) (an dn : Nat) (w : World) (e : Ending) (w' : World) : Prop := ∃ r : Bool, e = .returned (.bool r) ∧ (r = true → FineB fs ∧ (fs.length ≤ 50 ∧ ∀ x ∈ fs, smallF x = true) ∧ an ≤ 20 ∧ dn ≤ 100) ∧ Below w.heap.size w w'
theorem plain29_any (B : Nat) (FA : Option Addr) (fn fc : Nat) (fs : List DFunc) (AA : Option Addr) (an ac : Nat) (DA : Option Addr) (dn dc : Nat) (w : World) (h : SlR 11 240 RFunc w B FA fn fc fs) (hB : B ≤ w.heap.size) (han : an ≤ 100000000000000) (hdn : dn ≤ 100000000000000) :
  Calls Tryz.prog 27 #[.agg #[.slice FA fn fc], .agg #[.slice AA an ac, .slice DA dn dc]] w (IsPl fs an dn w) := by
 obtain ⟨w1, hw1⟩ : ∃ X, (w.alloc (.cells #[.slice FA fn fc] 24)).alloc (.cells #[.slice AA an ac, .slice DA dn dc] 66) = X := ⟨_, rfl⟩
 obtain ⟨g, hg⟩ : ∃ g, w.heap.size = g := ⟨_, rfl⟩
 have hb1 : Below g w w1 := by rw [← hw1, ← hg]; exact (bl_one _).trans ((bl_one _).mono (bl_one _).size)
 have hc1 : Cells w1 g [.slice FA fn fc] := by rw [← hw1, ← hg]; exact (Cells.new w [.slice FA fn fc] _).on (bl_one _)
 have hc2 : Cells w1 (g + 1) [.slice AA an ac, .slice DA dn dc] := by
  rw [← hw1]
  exact cells_new_at (by simp [hg]) [.slice AA an ac, .slice DA dn dc] _
 have EQ : Hid (∀ W, Below w1.heap.size w1 W → W.cell? ⟨g, 0, none⟩ = some (.slice FA fn fc) ∧ W.cell? ⟨g + 1, 0, none⟩ = some (.slice AA an ac) ∧ W.cell? ⟨g + 1, 1, none⟩ = some (.slice DA dn dc)) := Hd fun W hW => ⟨(hc1.on hW).at_ 0 _ rfl, (hc2.on hW).at_ 0 _ rfl, (hc2.on hW).at_ 1 _ rfl⟩
 have H := Hd h
 have HBW : Hid (∀ W, Below w1.heap.size w1 W → Below g w W) := Hd fun W hW => hb1.trans (hW.mono (by have := hb1.size; omega))
 have HFSL : Hid (∀ W, Below w1.heap.size w1 W → SlR 11 240 RFunc W B FA fn fc fs) := Hd fun W hW => SlR.keep stable_Func h fun p hp => (HBW.out W hW).cell (by omega)
 have hgE : Hid (w.heap.size = g ∧ B ≤ g) := Hd ⟨hg, by omega⟩
 have HLN : Hid (fs.length = fn) := Hd h.1
 have HFN : Hid (fn * 240 ≤ reachBytes) := Hd h.2.2.2.1
 have hfn0 : (fn : Int) ≤ 100000000000000 := by have := h.2.2.2.1; unfold reachBytes at this; omega
 have han0 : (an : Int) ≤ 100000000000000 := by omega
 have hdn0 : (dn : Int) ≤ 100000000000000 := by omega
 have hsz := hb1.size
 obtain ⟨q0, q1, q2⟩ := EQ.out w1 (Below.refl _ _)
 clear h hb1 hB hc1 hc2
 go_in
 go_wp2_with fail
 try rw [hw1]
 clear hw1 q0 q1 q2
 go_loopw [5] (fun i' wr => ∃ k : Nat, i' = .int .i64 k ∧ k ≤ fn ∧ Hid ((∀ x ∈ fs.take k, bareF x = true) ∧ Below w1.heap.size w1 wr)) (fun i' _ => fn - (intOf i').toNat)
 case atStart => exact ⟨0, rfl, Nat.zero_le _, Hd ⟨by simp, Below.refl _ _⟩⟩
 case round =>
  obtain ⟨k, rfl, hk, HK⟩ := hrel
  obtain ⟨q0, q1, q2⟩ := EQ.out wr HK.out.2
  have hk0 : (0 : Int) ≤ (k : Int) := by omega
  have HBg := Hd (HBW.out wr HK.out.2)
  by_cases hlt : k < fn
  ·have hkn : (k : Int) < (fn : Int) := by omega
   obtain ⟨b, off, x, cs, rfl, hb, hx, hl, hc, hr⟩ := SlR.at_ H.out hlt
   obtain ⟨A0, n0, c0, A1, n1, c1, A2, n2, c2, A3, n3, c3, A4, n4, c4, A5, n5, c5, A6, n6, c6, A7, n7, c7, A8, n8, c8, rfl, z, r0, r1, r2, r3, r4, r5, r6, r7, r8⟩ := hr
   have hcell : ∀ j u, [Value.string x.name, .bool x.inner, .slice A0 n0 c0, .slice A1 n1 c1, .slice A2 n2 c2, .slice A3 n3 c3, .slice A4 n4 c4, .slice A5 n5 c5, .slice A6 n6 c6, .slice A7 n7 c7, .slice A8 n8 c8][j]? = some u → wr.cell? ⟨b, off + (k * 11 + j), none⟩ = some u := fun j u hj => (HBg.out.cell (p := ⟨b, off + (k * 11 + j), none⟩) (by have := hgE.out; show b < g; omega)).trans (hc j u hj)
   have y0 := hcell 0 _ rfl
   have y1 := hcell 1 _ rfl
   have y2 := hcell 2 _ rfl
   have y3 := hcell 3 _ rfl
   have y4 := hcell 4 _ rfl
   have y5 := hcell 5 _ rfl
   have y6 := hcell 6 _ rfl
   have y7 := hcell 7 _ rfl
   have y8 := hcell 8 _ rfl
   have y9 := hcell 9 _ rfl
   have y10 := hcell 10 _ rfl
   simp only [Nat.add_zero, ← Nat.add_assoc] at y0 y1 y2 y3 y4 y5 y6 y7 y8 y9 y10
   have cS := Hd (rbare_any x.name x.inner A0 n0 c0 A1 n1 c1 A2 n2 c2 A3 n3 c3 A4 n4 c4 A5 n5 c5 A6 n6 c6 A7 n7 c7 A8 n8 c8 wr (by have := r6.2.2.2.1; unfold reachBytes at this; omega) (by have := r7.2.2.2.1; unfold reachBytes at this; omega) (by have := r8.2.2.2.1; unfold reachBytes at this; omega) (bareF x) (by unfold bareF; rw [r6.1, r7.1, r8.1]))
   have HT : Hid (bareF x = true → ∀ y ∈ fs.take (k + 1), bareF y = true) := Hd (fun hs y hy => by
    rw [← take_snoc' fs k x hx] at hy
    rcases List.mem_append.1 hy with hy | hy
    ·exact HK.out.1 y hy
    ·rw [List.mem_singleton] at hy; subst hy; exact hs)
   obtain ⟨r, hrr⟩ : ∃ r, bareF x = r := ⟨_, rfl⟩
   obtain ⟨nm, hnm⟩ : ∃ r, x.name = r := ⟨_, rfl⟩
   obtain ⟨inn, hin⟩ : ∃ r, x.inner = r := ⟨_, rfl⟩
   rw [hrr, hnm, hin] at cS
   rw [hrr] at HT
   rw [hnm] at y0
   rw [hin] at y1
   clear hcell hc hx hb hl r0 r1 r2 r3 r4 r5 r6 r7 r8 z hrr hnm hin
   go_wp2_with fail
   refine cS.out.mono ?_
   rintro e w2 ⟨rfl, hb2⟩
   have HB2 : Hid (Below w1.heap.size w1 w2) := Hd (HK.out.2.trans (hb2.mono HK.out.2.size))
   clear hb2 cS q0 q1 q2 y0 y1 y2 y3 y4 y5 y6 y7 y8 y9 y10
   cases r with
   | true =>
    have HT2 := Hd (HT.out rfl)
    clear HT
    go_wp2_with fail
    go_roundw
    case rel => exact ⟨k + 1, by go_num, by omega, Hd ⟨HT2.out, HB2.out⟩⟩
    case measure => simp [intOf]; omega
   | false =>
    clear HT
    go_wp2_with fail
    go_ret
    exact ⟨false, rfl, (fun h => by cases h), by rw [hgE.out.1]; exact HBW.out w2 HB2.out⟩
  ·obtain rfl : k = fn := by omega
   have HALL : Hid (∀ x ∈ fs, bareF x = true) := Hd (by have h1 := HK.out.1; rw [List.take_of_length_le (by have := HLN.out; omega)] at h1; exact h1)
   have cSm := Hd (small16_any B FA k fc fs wr (HFSL.out wr HK.out.2) (by have := HBg.out.size; have := hgE.out; omega))
   have HBR : Hid (Below w1.heap.size w1 wr) := Hd HK.out.2
   clear HK
   go_wp2_with fail
   refine cSm.out.mono ?_
   rintro e w2 ⟨r, rfl, hr, hb2⟩
   have HR := Hd hr
   have HB2 : Hid (Below w1.heap.size w1 w2) := Hd (HBR.out.trans (hb2.mono HBR.out.size))
   clear hr hb2 cSm q0 q1 q2
   obtain ⟨q0, q1, q2⟩ := EQ.out w2 HB2.out
   cases r with
   | false =>
    go_wp2_with fail
    go_ret
    exact ⟨false, rfl, (fun h => by cases h), by rw [hgE.out.1]; exact HBW.out w2 HB2.out⟩
   | true =>
    obtain ⟨hfn0', hsm⟩ := HR.out rfl
    have HSM := Hd (HR.out rfl)
    have hfn : k ≤ 50 := by have := HLN.out; omega
    have cF := Hd (rfinex_any FA k fc fs w2 ⟨⟨B, by have := (HBW.out w2 HB2.out).size; have := hgE.out; omega, HFSL.out w2 HB2.out⟩, hsm, hfn⟩ HALL.out)
    clear hsm HR hfn0'
    go_wp2_with fail
    refine cF.out.mono ?_
    rintro e w3 ⟨r, rfl, hr, hb3⟩
    have HR := Hd hr
    have HB3 : Hid (Below w1.heap.size w1 w3) := Hd (HB2.out.trans (hb3.mono HB2.out.size))
    clear hr hb3 cF q0 q1 q2
    obtain ⟨q0, q1, q2⟩ := EQ.out w3 HB3.out
    have HBE : Hid (Below w.heap.size w w3) := Hd (by rw [hgE.out.1]; exact HBW.out w3 HB3.out)
    cases r with
    | false =>
     go_wp2_with fail
     go_ret
     exact ⟨false, rfl, (fun h => by cases h), HBE.out⟩
    | true =>
     have HFI := Hd (HR.out rfl)
     clear HR
     by_cases ha : an ≤ 20
     ·have t1 : decide ((an : Int) ≤ 20) = true := dcT (by omega)
      have t1b : decide (an ≤ 20) = true := dcT (by omega)
      by_cases hd : dn ≤ 100
      ·have t2 : decide ((dn : Int) ≤ 100) = true := dcT (by omega)
       have t2b : decide (dn ≤ 100) = true := dcT (by omega)
       have HAD : Hid (an ≤ 20 ∧ dn ≤ 100) := Hd ⟨ha, hd⟩
       go_wp2_with fail
       go_ret
       exact ⟨true, rfl, fun _ => ⟨HFI.out, HSM.out, HAD.out⟩, HBE.out⟩
      ·have t2 : decide ((dn : Int) ≤ 100) = false := dcF (by omega)
       have t2b : decide (dn ≤ 100) = false := dcF (by omega)
       go_wp2_with fail
       go_ret
       exact ⟨false, rfl, (fun h => by cases h), HBE.out⟩
     ·have t1 : decide ((an : Int) ≤ 20) = false := dcF (by omega)
      have t1b : decide (an ≤ 20) = false := dcF (by omega)
      go_wp2_with fail
      go_ret
      exact ⟨false, rfl, (fun h => by cases h), HBE.out⟩
end
section
open Go.RowKit
def exF : DFunc := ⟨⟨#[102]⟩, false, [], [], [], [], [⟨1, 1⟩, ⟨30, 0⟩, ⟨25, 0⟩], [1, 1, 1], [], [], []⟩
def exS0 : Ms := startM [exF] []
def exS1 : Ms := ⟨[⟨0, 1, [], [numV 1], [], false, false, 0, []⟩], 0, 1, [], none⟩
def exS2 : Ms := ⟨[⟨0, 2, [], [], [], false, false, 0, []⟩], 0, 2, [⟨1, 1, 0, []⟩], none⟩
def exS3 : Ms := ⟨[⟨0, 2, [], [], [], false, false, 1, []⟩], 0, 3, [⟨1, 1, 0, []⟩], none⟩
def exS4 : Ms := ⟨[], 0, 3, [⟨1, 1, 0, []⟩], some (.done [])⟩
theorem ex0 (f : Nat) (hf : 0 < f) : stepM [exF] [] f exS0 = some exS1 := by
 rw [stepM_run (x := openF [exF] 0 (argsM [exF] []) false false) (r := []) rfl rfl, if_pos (show exS0.steps < f from hf)]
 rfl
theorem ex1 (f : Nat) (hf : 1 < f) : stepM [exF] [] f exS1 = some exS2 := by
 rw [stepM_run (x := ⟨0, 1, [], [numV 1], [], false, false, 0, []⟩) (r := []) rfl rfl, if_pos (show exS1.steps < f from hf)]
 rfl
theorem ex2 (f : Nat) (hf : 2 < f) : stepM [exF] [] f exS2 = some exS3 := by
 rw [stepM_run (x := ⟨0, 2, [], [], [], false, false, 0, []⟩) (r := []) rfl rfl, if_pos (show exS2.steps < f from hf)]
 rfl
theorem ex3 (f : Nat) : stepM [exF] [] f exS3 = some exS4 := by
 rw [stepM_end (x := ⟨0, 2, [], [], [], false, false, 1, []⟩) (r := []) rfl (by decide)]
 rfl
theorem ex_ends (f : Nat) (hf : 3 ≤ f) : EndsAt [exF] [] [] f exS4 :=
 ⟨.tail (.tail (.tail (.tail (.refl _) (ex0 f (by omega))) (ex1 f (by omega))) (ex2 f (by omega))) (ex3 f), stepM_nil rfl⟩
theorem ex_more (f : Nat) : EndB [exF] [] [] f ↔ 3 ≤ f := by
 refine ⟨fun h => ?_, fun h => ⟨_, ex_ends f h, by simp [exS4]⟩⟩
 refine Classical.byContradiction fun hf => ?_
 have h2 : EndB [exF] [] [] 2 := h.more (by omega)
 have h3 : EndsAt [exF] [] [] 2 exS2 := ⟨.tail (.tail (.refl _) (ex0 2 (by omega))) (ex1 2 (by omega)), by
  rw [stepM_run (x := ⟨0, 2, [], [], [], false, false, 0, []⟩) (r := []) rfl rfl, if_neg (by decide)]⟩
 exact (EndB.of h3).1 h2 rfl
theorem ex_can : canOk exF := by
 refine ⟨by decide, fun i hi => ?_, rfl, .inl ⟨rfl, rfl, rfl⟩⟩
 simp [exF] at hi
 rcases hi with rfl | rfl | rfl <;> exact ⟨by decide, by decide, by decide⟩
theorem ex_may : MayF exF := ⟨by simp [exF], by simp [exF], by simp [exF], by simp [exF], by decide, by decide⟩
theorem ex_needs (o a : Int) (st : List Int) (h : o = 1 ∨ o = 30 ∨ o = 25) (hr : o = 25 → st = []) : NeedsR [exF] exF o a st (effM o).1 (effM o).2 := by
 refine ⟨fun e => ?_, fun e => ?_, fun e => ?_, fun e => ?_, fun e => ?_, fun e => ?_, fun e => ?_, fun e => ?_, ?_, hr, fun _ _ _ _ _ _ _ _ => ⟨rfl, rfl⟩⟩ <;> omega
theorem ex_ty : TyOk [exF] exF := by
 refine ⟨fun p => true, fun p => if p = 1 then [1] else [], rfl, rfl, fun p hp _ => ?_⟩
 have : p = 0 ∨ p = 1 ∨ p = 2 := by have : p < 3 := hp; omega
 rcases this with rfl | rfl | rfl
 ·refine ⟨[1], ⟨[], [], [1], ⟨⟨1, 1⟩, rfl, ex_needs 1 1 [] (by simp) (by simp)⟩, rfl, by decide, rfl⟩, fun k hk => ?_⟩
  have : k = 1 := by simpa [nextM, opensM, codeAt, exF] using hk
  subst this
  exact ⟨1, rfl, by decide, rfl, rfl⟩
 ·refine ⟨[], ⟨[], [1], [], ⟨⟨30, 0⟩, rfl, ex_needs 30 0 [1] (by simp) (by simp)⟩, rfl, by decide, rfl⟩, fun k hk => ?_⟩
  have : k = 2 := by simpa [nextM, opensM, codeAt, exF] using hk
  subst this
  exact ⟨2, rfl, by decide, rfl, rfl⟩
 ·refine ⟨[], ⟨[], [], [], ⟨⟨25, 0⟩, rfl, ex_needs 25 0 [] (by simp) (fun _ => rfl)⟩, rfl, by decide, rfl⟩, fun k hk => ?_⟩
  simp [nextM, opensM, codeAt, exF] at hk
theorem ex_fine : FineB [exF] := by
 refine ⟨by decide, by decide, fun x hx => ?_, fun x hx => ?_, fun i x hi => ?_⟩
 ·rw [List.mem_singleton] at hx; subst hx; exact ex_can
 ·rw [List.mem_singleton] at hx; subst hx; exact ex_may
 ·have h0 : i = 0 := by have := (List.getElem?_eq_some_iff.1 hi).1; simp at this; omega
  subst h0
  simp at hi
  subst hi
  refine ⟨fun _ => ⟨exF, rfl, by simp [exF], rfl⟩, fun k hk i hi ho => ?_, ex_ty⟩
  have : k = 0 ∨ k = 1 ∨ k = 2 := by have : k < 3 := hk; omega
  rcases this with rfl | rfl | rfl <;> (simp [exF] at hi; subst hi; simp at ho)
end
section
set_option maxRecDepth 100000
set_option maxHeartbeats 4000000
open Go.RowKit
variable {w w' : World} {FA : Option Addr} {fn fc : Nat} {AA : Option Addr} {an ac : Nat} {DA : Option Addr} {dn dc : Nat} {fs : List DFunc} {ags ds : List Int}
theorem FinV.three {u : Ms} {ek : Int} {rl : List Int} {ch : List Bl} (h : FinV u ek rl ch) : (ek = 3 ∧ u.fin = none) ∨ (ek = 1 ∧ u.fin ≠ none) ∨ (ek = 2 ∧ u.fin ≠ none) := by
 rcases h with ⟨h1, rfl, _⟩ | ⟨rs, h1, rfl, _⟩ | ⟨c, h1, rfl, _⟩
 ·exact .inl ⟨rfl, h1⟩
 ·exact .inr (.inl ⟨rfl, by rw [h1]; simp⟩)
 ·exact .inr (.inr ⟨rfl, by rw [h1]; simp⟩)
structure BoxW (w : World) (b : Nat) (FA : Option Addr) (fn fc : Nat) (AA : Option Addr) (an ac : Nat) (DA : Option Addr) (dn dc : Nat) (fs : List DFunc) (ags ds : List Int) : Prop where
 p0 : w.cell? ⟨b, 0, none⟩ = some (.slice FA fn fc)
 p1 : w.cell? ⟨b + 1, 0, none⟩ = some (.slice AA an ac)
 p2 : w.cell? ⟨b + 1, 1, none⟩ = some (.slice DA dn dc)
 inp : InpW w FA fn fc AA an ac DA dn dc fs ags ds
theorem BoxW.on {b : Nat} (h : BoxW w b FA fn fc AA an ac DA dn dc fs ags ds) (hb : Below w.heap.size w w') : BoxW w' b FA fn fc AA an ac DA dn dc fs ags ds :=
 ⟨(hb.cell (World.block_lt_of_cell? _ _ h.p0)).trans h.p0, (hb.cell (World.block_lt_of_cell? _ _ h.p1)).trans h.p1, (hb.cell (World.block_lt_of_cell? _ _ h.p2)).trans h.p2, h.inp.on hb⟩
def IsEnd (w : World) (fs : List DFunc) (ds ags : List Int) (k : Int) (e : Ending) (w' : World) : Prop := ∃ r : Bool, e = .returned (.bool r) ∧ (r = true ↔ EndB fs ds ags (max k 0).toNat) ∧ Below w.heap.size w w'
theorem needs1_any (k : Int) (hk : k ≤ 1500) (b : Nat) (w : World) (h : BoxW w b FA fn fc AA an ac DA dn dc fs ags ds) :
  Calls Tryz.prog 62 #[.int .i64 k, .pointer (some ⟨b, 0, none⟩), .pointer (some ⟨b + 1, 0, none⟩)] w (IsEnd w fs ds ags k) := by
 have cR := Hd (runQ_any k h.inp hk)
 have p0 := h.p0
 have p1 := h.p1
 have p2 := h.p2
 clear h hk
 go_in
 go_wp2_with fail
 refine cR.out.mono ?_
 rintro e w2 ⟨u, EA, en, ec, ek, RA, rn, rc, CA, cn, cc, rl, ch, rfl, hr, hb⟩
 have HB := Hd hb
 have HI : Hid (EndB fs ds ags (max k 0).toNat ↔ u.fin ≠ none) := Hd (EndB.of hr.ends)
 obtain ⟨st, hst⟩ : ∃ s, (u.steps : Int) = s := ⟨_, rfl⟩
 have hfd : ∀ (k : Int) (W : World), (Instr.field 71 (Ru.runV EA en ec k RA rn rc CA cn cc st) 1).run Tryz.prog W = .ok (.int .i64 k) W := fun _ _ => rfl
 rw [hst]
 have h3 := hr.fin.three
 clear hr hb cR hst
 rcases h3 with ⟨rfl, h3⟩ | ⟨rfl, h3⟩ | ⟨rfl, h3⟩
 ·have H3 : Hid (¬ EndB fs ds ags (max k 0).toNat) := Hd fun h => HI.out.1 h h3
  clear h3
  go_wp2_with fail
  go_ret
  exact ⟨false, rfl, ⟨(fun h => by cases h), fun h => absurd h H3.out⟩, HB.out⟩
 ·have H3 : Hid (EndB fs ds ags (max k 0).toNat) := Hd (HI.out.2 h3)
  clear h3
  go_wp2_with fail
  go_ret
  exact ⟨true, rfl, ⟨fun _ => H3.out, fun _ => rfl⟩, HB.out⟩
 ·have H3 : Hid (EndB fs ds ags (max k 0).toNat) := Hd (HI.out.2 h3)
  clear h3
  go_wp2_with fail
  go_ret
  exact ⟨true, rfl, ⟨fun _ => H3.out, fun _ => rfl⟩, HB.out⟩
def IsSearch (w : World) (fs : List DFunc) (ds ags : List Int) (n : Nat) (e : Ending) (w' : World) : Prop := ∃ k : Nat, e = .returned (.int .i64 (k : Int)) ∧ k ≤ n ∧ (∀ j, j < k → ¬ EndB fs ds ags j) ∧ (k < n → EndB fs ds ags k) ∧ Below w.heap.size w w'
theorem search_any (n : Nat) (hn : n ≤ 1500) (b : Nat) (w : World) (h : BoxW w b FA fn fc AA an ac DA dn dc fs ags ds) :
  Calls Tryz.prog 63 #[.int .i64 (n : Int), .func (.func 62) #[] #[.pointer (some ⟨b, 0, none⟩), .pointer (some ⟨b + 1, 0, none⟩)]] w (IsSearch w fs ds ags n) := by
 have H := Hd h
 have hn0 : (n : Int) ≤ 1500 := by omega
 clear h
 go_in
 go_wp2_with fail
 go_loopw [5, 6, 7] (fun iv jv _ wr => ∃ i j : Nat, iv = .int .i64 (i : Int) ∧ jv = .int .i64 (j : Int) ∧ i ≤ j ∧ j ≤ n ∧ Hid ((∀ q, q < i → ¬ EndB fs ds ags q) ∧ (j < n → EndB fs ds ags j) ∧ Below w.heap.size w wr)) (fun iv jv _ _ => (intOf jv).toNat - (intOf iv).toNat)
 case atStart => exact ⟨0, n, rfl, rfl, Nat.zero_le _, Nat.le_refl _, Hd ⟨fun q hq => absurd hq (by omega), fun h => absurd h (by omega), Below.refl _ _⟩⟩
 case round =>
  obtain ⟨i, j, rfl, rfl, hij, hj, HK⟩ := hrel
  by_cases hlt : i < j
  ·have hlti : (i : Int) < (j : Int) := by omega
   have t1 : decide ((i : Int) < (j : Int)) = true := dcT (by omega)
   obtain ⟨m, hm⟩ : ∃ m, (i + j) / 2 = m := ⟨_, rfl⟩
   have hi0 : (i : Int) ≤ 1500 := by omega
   have hj0 : (j : Int) ≤ 1500 := by omega
   have HM : Hid (i ≤ m ∧ m < j) := Hd (by omega)
   have cN := Hd (needs1_any (m : Int) (by omega) b wr (H.out.on HK.out.2.2))
   have hmi : ((i : Int) + (j : Int)) / 2 = (m : Int) := by omega
   go_wp2_with fail
   try rw [hmi]
   refine cN.out.mono ?_
   rintro e w2 ⟨r, rfl, hr, hb⟩
   clear hmi hm
   have HB2 : Hid (Below w.heap.size w w2) := Hd (HK.out.2.2.trans (hb.mono HK.out.2.2.size))
   have HR : Hid (r = true ↔ EndB fs ds ags m) := Hd (by
    have e : (max (m : Int) 0).toNat = m := by omega
    rw [e] at hr
    exact hr)
   clear hb hr cN
   have hm0 : (m : Int) ≤ 1500 := by have := HM.out; omega
   rcases Classical.em (EndB fs ds ags m) with hE | hE
   ·obtain rfl : r = true := HR.out.2 hE
    have HE := Hd hE
    clear HR hE
    go_wp2_with fail
    go_roundw
    case rel => exact ⟨i, m, rfl, by go_num, HM.out.1, by have := HM.out.2; omega, Hd ⟨HK.out.1, fun _ => HE.out, HB2.out⟩⟩
    case measure => have := HM.out; simp [intOf]; omega
   ·obtain rfl : r = false := by
     cases r with
     | false => rfl
     | true => exact absurd (HR.out.1 rfl) hE
    have HE := Hd hE
    clear HR hE
    go_wp2_with fail
    go_roundw
    case rel => exact ⟨m + 1, j, by go_num, rfl, by have := HM.out.2; omega, hj, Hd ⟨fun q hq h => HE.out (h.more (by omega)), HK.out.2.1, HB2.out⟩⟩
    case measure =>
     have h1 := HM.out
     have h2 : wrap64 ((m : Int) + 1) = (m : Int) + 1 := by unfold wrap64; omega
     simp [intOf, h2]
     omega
  ·obtain rfl : i = j := by omega
   have HF : Hid (IsSearch w fs ds ags n (.returned (.int .i64 (i : Int))) wr) := Hd ⟨i, rfl, hj, HK.out.1, HK.out.2.1, HK.out.2.2⟩
   go_wp2_with fail
   go_ret
   exact HF.out
end
section
set_option maxRecDepth 100000
set_option maxHeartbeats 4000000
open Go.RowKit
variable {w w' : World} {FA : Option Addr} {fn fc : Nat} {AA : Option Addr} {an ac : Nat} {DA : Option Addr} {dn dc : Nat} {fs : List DFunc} {ags ds : List Int}
def LeastV (fs : List DFunc) (ds ags : List Int) (most n : Int) (ok : Bool) : Prop := (n = 0 ∧ ok = false ∧ (most < 0 ∨ ¬ EndB fs ds ags most.toNat)) ∨ (∃ k : Nat, n = (k : Int) ∧ ok = true ∧ 0 ≤ most ∧ k ≤ most.toNat ∧ EndB fs ds ags most.toNat ∧ EndB fs ds ags k ∧ ∀ j, j < k → ¬ EndB fs ds ags j)
def IsLeast (w : World) (fs : List DFunc) (ds ags : List Int) (most : Int) (e : Ending) (w' : World) : Prop := ∃ (n : Int) (ok : Bool), e = .returned (.tuple #[.int .i64 n, .bool ok]) ∧ LeastV fs ds ags most n ok ∧ Below w.heap.size w w'
theorem least_any (most : Int) (hm : most ≤ 1500) (w : World) (h : InpW w FA fn fc AA an ac DA dn dc fs ags ds) :
  Calls Tryz.prog 33 #[.agg #[.slice FA fn fc], .agg #[.slice AA an ac, .slice DA dn dc], .int .i64 most] w (IsLeast w fs ds ags most) := by
 have hmf : ∀ (fn : Fn) (first cap : Array Value) (w : World), (Instr.makeFunc fn first cap).run Tryz.prog w = .ok (.func fn first cap) w := fun _ _ _ _ => rfl
 obtain ⟨w1, hw1⟩ : ∃ X, (w.alloc (.cells #[.slice FA fn fc] 24)).alloc (.cells #[.slice AA an ac, .slice DA dn dc] 66) = X := ⟨_, rfl⟩
 have hb1 : Below w.heap.size w w1 := by rw [← hw1]; exact (bl_one _).trans ((bl_one _).mono (bl_one _).size)
 have hc1 : Cells w1 w.heap.size [.slice FA fn fc] := by rw [← hw1]; exact (Cells.new w [.slice FA fn fc] _).on (bl_one _)
 have hc2 : Cells w1 (w.heap.size + 1) [.slice AA an ac, .slice DA dn dc] := by
  rw [← hw1]
  exact cells_new_at (by simp) [.slice AA an ac, .slice DA dn dc] _
 have HX : Hid (BoxW w1 w.heap.size FA fn fc AA an ac DA dn dc fs ags ds) := Hd ⟨hc1.at_ 0 _ rfl, hc2.at_ 0 _ rfl, hc2.at_ 1 _ rfl, h.on hb1⟩
 have HB1 := Hd hb1
 have HW1 := Hd hw1
 have cN := Hd (needs1_any most hm w.heap.size w1 HX.out)
 clear h hb1 hc1 hc2 hw1
 go_in
 go_wp2_with fail
 rw [HW1.out]
 refine cN.out.mono ?_
 rintro e w2 ⟨r, rfl, hr, hb⟩
 have HB2 : Hid (Below w.heap.size w w2) := Hd (HB1.out.trans (hb.mono HB1.out.size))
 have HX2 := Hd (HX.out.on hb)
 clear hb cN
 by_cases h0 : most < 0
 ·have t0 : decide (most < 0) = true := dcT h0
  have HF : Hid (IsLeast w fs ds ags most (.returned (.tuple #[.int .i64 0, .bool false])) w2) := Hd ⟨0, false, rfl, .inl ⟨rfl, rfl, .inl h0⟩, HB2.out⟩
  clear hr
  cases r <;> (go_wp2_with fail; go_ret2; exact HF.out)
 ·have t0 : decide (most < 0) = false := dcF h0
  obtain ⟨n, rfl⟩ := Int.eq_ofNat_of_zero_le (show 0 ≤ most by omega)
  have e0 : (max (n : Int) 0).toNat = n := by omega
  rw [e0] at hr
  rcases Classical.em (EndB fs ds ags n) with hE | hE
  ·obtain rfl : r = true := hr.2 hE
   have HE := Hd hE
   have hn : n ≤ 1500 := by omega
   have cS := Hd (search_any n hn w.heap.size w2 HX2.out)
   have hmn : min (n : Int) 100000 = (n : Int) := by omega
   clear hE hr e0
   go_wp2_with fail
   refine cS.out.mono ?_
   rintro e w3 ⟨k, rfl, hk, hk1, hk2, hb⟩
   have HF : Hid (IsLeast w fs ds ags (n : Int) (.returned (.tuple #[.int .i64 (k : Int), .bool true])) w3) := Hd ⟨_, true, rfl, .inr ⟨k, rfl, rfl, by omega, by omega, HE.out, by
    rcases Nat.lt_or_ge k n with hlt | hge
    ·exact hk2 hlt
    ·have : k = n := by omega
     rw [this]
     exact HE.out, hk1⟩, HB2.out.trans (hb.mono HB2.out.size)⟩
   clear hk hk1 hk2 hb cS
   go_wp2_with fail
   go_ret2
   exact HF.out
  ·obtain rfl : r = false := by
    cases r with
    | false => rfl
    | true => exact absurd (hr.1 rfl) hE
   have HF : Hid (IsLeast w fs ds ags (n : Int) (.returned (.tuple #[.int .i64 0, .bool false])) w2) := Hd ⟨0, false, rfl, .inl ⟨rfl, rfl, .inr hE⟩, HB2.out⟩
   clear hE hr e0
   go_wp2_with fail
   go_ret2
   exact HF.out
end
section
set_option maxRecDepth 100000
set_option maxHeartbeats 8000000
open Go.RowKit
theorem ex_inp (w W : World) (hW : ((w.alloc (.cells #[.int .i64 1, .int .i64 1, .int .i64 30, .int .i64 0, .int .i64 25, .int .i64 0] 113)).alloc (.cells #[.int .i64 1, .int .i64 1, .int .i64 1] 3)).alloc (.cells #[.string ⟨#[102]⟩, .bool false, .slice none 0 0, .slice none 0 0, .slice none 0 0, .slice none 0 0, .slice (some ⟨w.heap.size, 0, none⟩) 3 3, .slice (some ⟨w.heap.size + 1, 0, none⟩) 3 3, .slice none 0 0, .slice none 0 0, .slice none 0 0] 38) = W) : InpW W (some ⟨w.heap.size + 1 + 1, 0, none⟩) 1 1 none 0 0 none 0 0 [exF] [] [] := by
 have hc : ∀ i v, (#[Value.int .i64 1, .int .i64 1, .int .i64 30, .int .i64 0, .int .i64 25, .int .i64 0] : Array Value)[i]? = some v → W.cell? ⟨w.heap.size, i, none⟩ = some v := fun i v hi => by
  rw [← hW]
  have h1 := (Cells.new w [.int .i64 1, .int .i64 1, .int .i64 30, .int .i64 0, .int .i64 25, .int .i64 0] 113).on (bl_one (.cells #[.int .i64 1, .int .i64 1, .int .i64 1] 3))
  exact (h1.on (bl_one _)).at_ i v (by simpa using hi)
 have hl : ∀ i v, (#[Value.int .i64 1, .int .i64 1, .int .i64 1] : Array Value)[i]? = some v → W.cell? ⟨w.heap.size + 1, i, none⟩ = some v := fun i v hi => by
  rw [← hW]
  have h1 := cells_new_at (W := w.alloc (.cells #[.int .i64 1, .int .i64 1, .int .i64 30, .int .i64 0, .int .i64 25, .int .i64 0] 113)) (b := w.heap.size + 1) (by simp) [.int .i64 1, .int .i64 1, .int .i64 1] 3
  exact (h1.on (bl_one _)).at_ i v (by simpa using hi)
 have hf : ∀ i v, ([Value.string ⟨#[102]⟩, .bool false, .slice none 0 0, .slice none 0 0, .slice none 0 0, .slice none 0 0, .slice (some ⟨w.heap.size, 0, none⟩) 3 3, .slice (some ⟨w.heap.size + 1, 0, none⟩) 3 3, .slice none 0 0, .slice none 0 0, .slice none 0 0] : List Value)[i]? = some v → W.cell? ⟨w.heap.size + 1 + 1, i, none⟩ = some v := fun i v hi => by
  rw [← hW]
  have h1 := cells_new_at (W := (w.alloc (.cells #[.int .i64 1, .int .i64 1, .int .i64 30, .int .i64 0, .int .i64 25, .int .i64 0] 113)).alloc (.cells #[.int .i64 1, .int .i64 1, .int .i64 1] 3)) (b := w.heap.size + 1 + 1) (by simp) [Value.string ⟨#[102]⟩, .bool false, .slice none 0 0, .slice none 0 0, .slice none 0 0, .slice none 0 0, .slice (some ⟨w.heap.size, 0, none⟩) 3 3, .slice (some ⟨w.heap.size + 1, 0, none⟩) 3 3, .slice none 0 0, .slice none 0 0, .slice none 0 0] 38
  exact h1.at_ i v hi
 have hsz : W.heap.size = w.heap.size + 3 := by rw [← hW]; simp
 refine ⟨ex_fine, ⟨⟨⟨W.heap.size, Nat.le_refl _, rfl, Nat.le_refl _, by unfold maxLen; omega, by unfold reachBytes; omega, fun _ => ⟨w.heap.size + 1 + 1, 0, rfl, by omega, fun i x hi => ?_⟩⟩, fun x hx => by rw [List.mem_singleton] at hx; subst hx; decide, by decide⟩, fun x hx => by rw [List.mem_singleton] at hx; subst hx; exact ex_can⟩, SlR.nil_ _ _, by decide, SlR.nil_ _ _, by decide⟩
 have h0 : i = 0 := by have := (List.getElem?_eq_some_iff.1 hi).1; simp at this; omega
 subst h0
 simp at hi
 subst hi
 refine ⟨_, rfl, fun j u hj => ?_, none, 0, 0, none, 0, 0, none, 0, 0, none, 0, 0, some ⟨w.heap.size, 0, none⟩, 3, 3, some ⟨w.heap.size + 1, 0, none⟩, 3, 3, none, 0, 0, none, 0, 0, none, 0, 0, rfl, by unfold reachBytes; decide, SlR.nil_ _ _, SlR.nil_ _ _, SlR.nil_ _ _, SlR.nil_ _ _, ?_, ?_, SlR.nil_ _ _, SlR.nil_ _ _, SlR.nil_ _ _⟩
 ·rw [show 0 + (0 * 11 + j) = j by omega]
  exact hf j u hj
 ·refine ⟨rfl, Nat.le_refl _, by unfold maxLen; omega, by unfold reachBytes; omega, fun _ => ⟨w.heap.size, 0, rfl, by omega, fun i x hi => ?_⟩⟩
  have : i = 0 ∨ i = 1 ∨ i = 2 := by have := (List.getElem?_eq_some_iff.1 hi).1; simp [exF] at this; omega
  rcases this with rfl | rfl | rfl <;> simp [exF] at hi <;> subst hi <;> refine ⟨_, rfl, fun j u hj => ?_, rfl, by decide, by decide⟩ <;>
   (have : j = 0 ∨ j = 1 := by have := (List.getElem?_eq_some_iff.1 hj).1; simp at this; omega) <;> rcases this with rfl | rfl <;> exact hc _ _ hj
 ·refine ⟨rfl, Nat.le_refl _, by unfold maxLen; omega, by unfold reachBytes; omega, fun _ => ⟨w.heap.size + 1, 0, rfl, by omega, fun i x hi => ?_⟩⟩
  have : i = 0 ∨ i = 1 ∨ i = 2 := by have := (List.getElem?_eq_some_iff.1 hi).1; simp [exF] at this; omega
  rcases this with rfl | rfl | rfl <;> simp [exF] at hi <;> subst hi <;> refine ⟨_, rfl, fun j u hj => ?_, rfl, by decide⟩ <;>
   (have : j = 0 := by have := (List.getElem?_eq_some_iff.1 hj).1; simp at this; omega) <;> subst this <;> exact hl _ _ hj
theorem refsem_lives (w : World) : Calls Tryz.prog 28 #[] w fun e w' => e = .returned (.bool true) ∧ Below w.heap.size w w' := by
 obtain ⟨w1, hw1⟩ : ∃ X, ((w.alloc (.cells #[.int .i64 1, .int .i64 1, .int .i64 30, .int .i64 0, .int .i64 25, .int .i64 0] 113)).alloc (.cells #[.int .i64 1, .int .i64 1, .int .i64 1] 3)).alloc (.cells #[.string ⟨#[102]⟩, .bool false, .slice none 0 0, .slice none 0 0, .slice none 0 0, .slice none 0 0, .slice (some ⟨w.heap.size, 0, none⟩) 3 3, .slice (some ⟨w.heap.size + 1, 0, none⟩) 3 3, .slice none 0 0, .slice none 0 0, .slice none 0 0] 38) = X := ⟨_, rfl⟩
 have HI := Hd (ex_inp w w1 hw1)
 have hs1 : w1.heap.size = w.heap.size + 3 := by rw [← hw1]; simp
 have HB1 : Hid (Below w.heap.size w w1) := Hd (by
  rw [← hw1]
  exact ((bl_one _).trans ((bl_one _).mono (bl_one _).size)).trans ((bl_one _).mono (by simp; omega)))
 obtain ⟨w2, hw2⟩ : ∃ X, w1.alloc (.cells #[.slice (some ⟨w.heap.size + 1 + 1, 0, none⟩) 1 1] 24) = X := ⟨_, rfl⟩
 have hb2 : Below w1.heap.size w1 w2 := by rw [← hw2]; exact bl_one _
 have HP2 : Hid (∀ W, Below w2.heap.size w2 W → W.cell? ⟨w.heap.size + 1 + 1 + 1, 0, none⟩ = some (.slice (some ⟨w.heap.size + 1 + 1, 0, none⟩) 1 1)) := Hd fun W hW => by
  have h1 : Cells w2 (w.heap.size + 1 + 1 + 1) [.slice (some ⟨w.heap.size + 1 + 1, 0, none⟩) 1 1] := by rw [← hw2]; exact cells_new_at (by rw [hs1]) [.slice (some ⟨w.heap.size + 1 + 1, 0, none⟩) 1 1] _
  exact (h1.on hW).at_ 0 _ rfl
 have HI2 := Hd (HI.out.on hb2)
 have HB2 : Hid (Below w.heap.size w w2) := Hd (HB1.out.trans (hb2.mono HB1.out.size))
 have cR := Hd (runQ_any 10 HI2.out (by decide))
 rw [← hw1] at hw2
 have HW2 := Hd hw2
 clear hw1 hw2 hb2 hs1
 go_in
 go_wp2_with fail
 rw [HW2.out]
 refine cR.out.mono ?_
 rintro e w3 ⟨u, EA, en, ec, ek, RA, rn, rc, CA, cn, cc, rl, ch, rfl, hr, hb⟩
 obtain rfl : u = exS4 := ends_one hr.ends (ex_ends _ (by decide))
 have hek : ek = 1 := by
  rcases hr.fin with ⟨h1, _⟩ | ⟨rs, h1, h2, _⟩ | ⟨c, h1, _⟩
  ·cases h1
  ·exact h2
  ·cases h1
 subst hek
 obtain rfl : en = 1 := hr.ev.1.symm
 have HI3 := Hd (HI2.out.on hb)
 have HB3 : Hid (Below w.heap.size w w3) := Hd (HB2.out.trans (hb.mono HB2.out.size))
 have HP3 : Hid (Below w2.heap.size w2 w3) := Hd hb
 obtain ⟨b, off, x, A0, n0, c0, rfl, hbl, hx, _, q1, _, _, _, _⟩ := Ru.slv_at hr.ev (show 0 < 1 by decide)
 have hxn : x.n = 1 := by
  simp [exS4] at hx
  rw [← hx]
 rw [hxn] at q1
 have HQ : Hid (∀ W, Below w3.heap.size w3 W → W.cell? ⟨b, off + 1, none⟩ = some (.int .i64 1)) := Hd fun W hW => (hW.cell (p := ⟨b, off + 1, none⟩) hbl).trans (by simpa using q1)
 obtain ⟨w4, hw4⟩ : ∃ X, w3.alloc (.cells #[.slice (some ⟨b, off, none⟩) 1 ec, .int .i64 1, .slice RA rn rc, .slice CA cn cc, .int .i64 3] 71) = X := ⟨_, rfl⟩
 have hb4 : Below w3.heap.size w3 w4 := by rw [← hw4]; exact bl_one _
 have HC4 : Hid (∀ W, Below w4.heap.size w4 W → Cells W w3.heap.size [.slice (some ⟨b, off, none⟩) 1 ec, .int .i64 1, .slice RA rn rc, .slice CA cn cc, .int .i64 3]) := Hd fun W hW => by
  have h1 : Cells w4 w3.heap.size [.slice (some ⟨b, off, none⟩) 1 ec, .int .i64 1, .slice RA rn rc, .slice CA cn cc, .int .i64 3] := by rw [← hw4]; exact Cells.new w3 [.slice (some ⟨b, off, none⟩) 1 ec, .int .i64 1, .slice RA rn rc, .slice CA cn cc, .int .i64 3] _
  exact h1.on hW
 have cN := Hd (least_any 10 (by decide) w4 (HI3.out.on hb4))
 have HB4 := Hd hb4
 have hsv : ((exS4.steps : Nat) : Int) = 3 := rfl
 rw [hsv]
 have p0 := HP2.out w4 (hb.trans (hb4.mono hb.size))
 clear hr hb hbl hx q1 hxn cR hb4 hsv
 go_wp2_with fail
 refine cN.out.mono ?_
 rintro e w5 ⟨n, ok, rfl, hv, hb5⟩
 have hn : n = 3 ∧ ok = true := by
  rcases hv with ⟨h1, h2, h3⟩ | ⟨k, h1, h2, h3, h4, h5, h6, h7⟩
  ·rcases h3 with h3 | h3
   ·exact absurd h3 (by decide)
   ·exact absurd ((ex_more _).2 (by decide)) h3
  ·refine ⟨?_, h2⟩
   have a1 := (ex_more k).1 h6
   have a2 : ¬ 3 < k := fun h => h7 3 h ((ex_more 3).2 (by decide))
   omega
 obtain ⟨rfl, rfl⟩ := hn
 have HB5 : Hid (Below w.heap.size w w5) := Hd ((HB3.out.trans (HB4.out.mono HB3.out.size)).trans (hb5.mono (Nat.le_trans HB3.out.size HB4.out.size)))
 have hc := HC4.out w5 hb5
 have z0 := hc.at_ 0 _ rfl
 have z1 := hc.at_ 1 _ rfl
 have z4 := hc.at_ 4 _ rfl
 have zq := HQ.out w5 (HB4.out.trans (hb5.mono HB4.out.size))
 clear hv hb5 hc cN p0 hw4
 go_wp2_with fail
 go_ret
 exact ⟨rfl, HB5.out⟩
end
end Go.Proofs.YtobmjnmcjddhcaaGreat
