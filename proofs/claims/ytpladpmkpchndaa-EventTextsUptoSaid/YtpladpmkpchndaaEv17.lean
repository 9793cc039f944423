/-
  A run as lines, by the document.
-/
import Derived.Test.YtpladpmkpchndaaEv8
namespace Go.Proofs.Ytpladpmkpchndaa
open Go.RowKit
set_option linter.unusedSimpArgs false
set_option linter.unusedVariables false

def OkV (x : DEvent) : Prop := Bd x.n ∧ Bd x.m ∧ (∀ e ∈ x.trace, OkE e) ∧ x.trace.length ≤ 10000000000000
theorem SlV.ok {w : World} {B : Nat} {A : Option Addr} {n c : Nat} {xs : List DEvent} (h : SlV w B A n c xs) : ∀ x ∈ xs, OkV x :=
  SlR.all (R := REvent) h fun cs x hr => by
    obtain ⟨A0, n0, c0, _, h1, h2, h3, h4⟩ := hr
    have h5 := SlE.few (w := w) h4
    exact ⟨bd_of h2, bd_of h3, h5.1, h5.2⟩
theorem lineL_len {x : DEvent} (h : OkV x) : (lineL x).length ≤ 500000000000000 := by
  have h1 := evL_len (k := x.kind) h.1 h.2.1 h.2.2.1
  have h2 := h.2.2.2
  unfold lineL
  rw [List.length_append, List.length_cons, List.length_nil]
  omega
theorem linesL_len {l : List DEvent} (h : ∀ x ∈ l, OkV x) : (linesL l).length ≤ 500000000000000 * l.length := lenF lineL 500000000000000 (fun x hx => lineL_len (h x hx))
theorem line_snoc {l : List DEvent} {k : Nat} {x : DEvent} (h : l[k]? = some x) : strU (linesL (l.take k)) ++ strU (evL x.kind x.n x.m x.trace) ++ ⟨#[10]⟩ = strU (linesL (l.take (k + 1))) := by
  rw [show (⟨#[10]⟩ : ByteArray) = strU [10] from rfl]
  simp only [← strU_app]
  unfold linesL
  rw [snocF lineL h]
  simp [lineL]
def doneT (p : List UInt8) (l : List Int) : List UInt8 := p ++ doneL l
theorem doneT_snoc (p : List UInt8) {l : List Int} {k : Nat} {x : Int} (h : l[k]? = some x) : strU (doneT p (l.take k)) ++ ⟨#[32]⟩ ++ strU (digM x) = strU (doneT p (l.take (k + 1))) := by
  rw [show (⟨#[32]⟩ : ByteArray) = strU [32] from rfl]
  simp only [← strU_app]
  unfold doneT doneL
  rw [snocF resL h]
  simp [resL]
def crashT (p : List UInt8) (l : List DBlame) : List UInt8 := p ++ (sCrash ++ 10 :: l.flatMap (fun x => panB x ++ [10]))
theorem crashT_snoc (p : List UInt8) {l : List DBlame} {k : Nat} {x : DBlame} (h : l[k]? = some x) :
    strU (crashT p (l.take k)) ++ ⟨#[112, 97, 110, 105, 99, 32]⟩ ++ strU (digM x.kind) ++ ⟨#[32]⟩ ++ strU (digM x.num) ++ strU (recdL x.reco) ++ strU (entsL x.trace) ++ ⟨#[10]⟩ = strU (crashT p (l.take (k + 1))) := by
  rw [show (⟨#[32]⟩ : ByteArray) = strU [32] from rfl, show (⟨#[10]⟩ : ByteArray) = strU [10] from rfl, show (⟨#[112, 97, 110, 105, 99, 32]⟩ : ByteArray) = strU sPan from rfl]
  simp only [← strU_app]
  unfold crashT
  rw [snocF _ h]
  unfold panB
  simp
theorem crashT_len {p : List UInt8} {l : List DBlame} (h : ∀ x ∈ l, OkP x) : (crashT p l).length ≤ p.length + 8 + 500000000000001 * l.length := by
  have := lenF (fun x => panB x ++ [10]) 500000000000001 (l := l) (fun x hx => by have := panB_len (h x hx); rw [List.length_append, List.length_cons, List.length_nil]; omega)
  have h7 : sCrash.length = 7 := rfl
  unfold crashT
  rw [List.length_append, List.length_append, List.length_cons]
  omega
theorem crash_two (l : List DBlame) : 10 :: l.flatMap (fun x => panB x ++ [10]) = l.flatMap (fun x => 10 :: panB x) ++ [10] := by
  induction l with
  | nil => rfl
  | cons a l ih =>
    rw [List.flatMap_cons, List.flatMap_cons]
    have e1 : 10 :: (panB a ++ [10] ++ List.flatMap (fun x => panB x ++ [10]) l) = 10 :: panB a ++ (10 :: List.flatMap (fun x => panB x ++ [10]) l) := by simp
    rw [e1, ih]
    simp
theorem crashT_end (p : List UInt8) (l : List DBlame) : crashT p l = p ++ (crashL l ++ [10]) := by
  unfold crashT crashL
  rw [crash_two, List.append_assoc]
theorem tail_ne {l : List UInt8} (h : 0 < l.length) : tailL l = l ++ [10] := by
  unfold tailL
  rw [if_neg (by intro e; subst e; simp at h)]

set_option maxRecDepth 100000 in
set_option maxHeartbeats 4000000 in
theorem refShow_any (A0 : Option Addr) (n0 c0 : Nat) (fin : Int) (A1 : Option Addr) (n1 c1 : Nat) (A2 : Option Addr) (n2 c2 : Nat) (st : Int) (es : List DEvent) (rs : List Int) (ch : List DBlame) (w : World)
    (h0 : SlV w w.heap.size A0 n0 c0 es) (h1 : SlN w w.heap.size A1 n1 c1 rs) (h2 : SlP w w.heap.size A2 n2 c2 ch) (hn0 : n0 ≤ 100) (hn1 : n1 ≤ 100) (hn2 : n2 ≤ 100) :
    Calls Try.prog 65 #[runV A0 n0 c0 fin A1 n1 c1 A2 n2 c2 st] w fun e w' => e = .returned (.string (strU (showL es fin rs ch))) ∧ Below w.heap.size w w' := by
  have HLn := Lib.hid h0.1
  have HL1 := Lib.hid h1.1
  have HL2 := Lib.hid h2.1
  have H0 := Lib.hid h0
  have H1 := Lib.hid h1
  have H2 := Lib.hid h2
  have hbox := box_cells w #[.slice A0 n0 c0, .int .i64 fin, .slice A1 n1 c1, .slice A2 n2 c2, .int .i64 st] 103
  obtain ⟨w1, hw1⟩ : ∃ w1, w.alloc (.cells #[.slice A0 n0 c0, .int .i64 fin, .slice A1 n1 c1, .slice A2 n2 c2, .int .i64 st] 103) = w1 := ⟨_, rfl⟩
  rw [hw1] at hbox
  have HB1 : Hid (Below w.heap.size w w1) := Lib.hid (by rw [← hw1]; exact (Below.refl _ _).alloc (Nat.le_refl _) _)
  have hz : w1.heap.size = w.heap.size + 1 := by rw [← hw1]; simp
  have EA : Hid (∀ W, Below w1.heap.size w1 W → ∀ i v, (#[.slice A0 n0 c0, .int .i64 fin, .slice A1 n1 c1, .slice A2 n2 c2, .int .i64 st] : Array Value)[i]? = some v → W.cell? ⟨w.heap.size, i, none⟩ = some v) := Lib.hid (fun W hW i v hv => hbox W (hW.mono (by omega)) i v hv)
  obtain ⟨S, hS⟩ : ∃ S, showL es fin rs ch = S := ⟨_, rfl⟩
  rw [hS]
  have HS := Lib.hid hS
  have HW := Lib.hid hw1
  clear h0 h1 h2 hbox hw1 hz hS
  go_enter Try.func65, Try.ntmps65
  go_wp2_with fail
  rw [HW.out]
  go_loopw [3, 4] (fun s i wr => ∃ k : Nat, k ≤ n0 ∧ i = .int .i64 k ∧ s = .string (strU (linesL (es.take k))) ∧ Hid (Below w1.heap.size w1 wr)) (fun _ i _ => n0 - (intOf i).toNat)
  case atStart => exact ⟨0, Nat.zero_le _, rfl, rfl, Below.refl _ _⟩
  case round =>
    obtain ⟨k, hk, rfl, rfl, hb⟩ := hrel
    have ca0 := EA.out wr hb.out 0 (.slice A0 n0 c0) rfl
    by_cases hlt : k < n0
    · obtain ⟨b1, o1, x, X0, y0, z0, rfl, hb1, hx, p1, p2, p3, p4, hse, _, d1, d2⟩ := slv_at H0.out hlt
      have hbw : Below w.heap.size w wr := bl_trans HB1.out HB1.out.size hb.out
      rw [← hbw.cell hb1] at p1 p2 p3 p4
      have hok := H0.out.ok
      have la := linesL_len (l := es.take k) (fun e he => hok e (List.mem_of_mem_take he))
      rw [List.length_take] at la
      have lx := evL_len (k := x.kind) d1 d2 (hok x (List.mem_of_getElem? hx)).2.2.1
      have lt := (hok x (List.mem_of_getElem? hx)).2.2.2
      have HF := Lib.hid (line_snoc hx)
      have ct : Hid (Calls Try.prog 94 #[eventV x.kind x.n x.m X0 y0 z0] wr fun e w' => e = .returned (.string (strU (evL x.kind x.n x.m x.trace))) ∧ Below wr.heap.size wr w') := refText_any x.kind x.n x.m w.heap.size X0 y0 z0 x.trace wr d1 d2 (hse.keep hbw) hbw.size
      have z1 : (strU (evL x.kind x.n x.m x.trace)).size ≤ 500000000000000 := by rw [strU_size]; omega
      have z3 : (strU (linesL (es.take k))).size ≤ 50000000000000000 := by rw [strU_size]; omega
      obtain ⟨s1, e1⟩ : ∃ z, strU (evL x.kind x.n x.m x.trace) = z := ⟨_, rfl⟩
      obtain ⟨s3, e3⟩ : ∃ z, strU (linesL (es.take k)) = z := ⟨_, rfl⟩
      rw [e1] at z1 ct HF
      rw [e3] at z3 HF ⊢
      have y1 : s3.size + s1.size ≤ 9223372036854775807 := by omega
      have y2 : (s3 ++ s1).size + (⟨#[10]⟩ : ByteArray).size ≤ 9223372036854775807 := by have : (⟨#[10]⟩ : ByteArray).size = 1 := rfl; rw [ByteArray.size_append]; omega
      clear e1 e3 hx hok la lx lt hse d1 d2 hb1 z1 z3 hbw
      go_wp2_with fail
      refine Calls.mono ct.out ?_
      rintro e w3 ⟨rfl, hb3⟩
      have X := Lib.hid (bl_trans hb.out hb.out.size hb3)
      clear hb3
      go_wp2_with fail
      go_roundw
      case rel => exact ⟨k + 1, by omega, by go_num, by rw [HF.out], X.out⟩
      case measure => simp [intOf]; omega
    · have hkn : k = n0 := by omega
      subst hkn
      have e : es.take k = es := List.take_of_length_le (by rw [HLn.out]; omega)
      rw [e]
      clear e
      have la := linesL_len H0.out.ok
      rw [HLn.out] at la
      have hpl : (linesL es).length ≤ 50000000000000000 := by omega
      clear la
      unfold showL at HS
      obtain ⟨P, hP⟩ : ∃ P, linesL es = P := ⟨_, rfl⟩
      rw [hP] at HS hpl ⊢
      clear hP
      have z3 : (strU P).size ≤ 50000000000000000 := by rw [strU_size]; exact hpl
      obtain ⟨s3, e3⟩ : ∃ z, strU P = z := ⟨_, rfl⟩
      have ca1 := EA.out wr hb.out 1 (.int .i64 fin) rfl
      have ca2 := EA.out wr hb.out 2 (.slice A1 n1 c1) rfl
      have ca3 := EA.out wr hb.out 3 (.slice A2 n2 c2) rfl
      by_cases e : fin = 1
      · subst e
        have HS2 : Hid (S = doneT P rs ++ [10]) := Lib.hid (by rw [← HS.out]; unfold endL doneT; rw [if_pos rfl, tail_ne (by unfold doneL; simp [sDone]), List.append_assoc])
        have HD : Hid (strU P ++ (⟨#[100, 111, 110, 101]⟩ : ByteArray) = strU (doneT P (rs.take 0))) := Lib.hid (by rw [show (⟨#[100, 111, 110, 101]⟩ : ByteArray) = strU sDone from rfl, ← strU_app]; simp [doneT, doneL])
        rw [e3] at HD ⊢
        have y1 : s3.size + (⟨#[100, 111, 110, 101]⟩ : ByteArray).size ≤ 9223372036854775807 := by have : (⟨#[100, 111, 110, 101]⟩ : ByteArray).size = 4 := rfl; rw [← e3]; omega
        clear z3 e3
        go_wp2_with fail
        rw [HD.out]
        clear HD y1
        go_loopw [3, 5] (fun s i wr => ∃ k : Nat, k ≤ n1 ∧ i = .int .i64 k ∧ s = .string (strU (doneT P (rs.take k))) ∧ Hid (Below w1.heap.size w1 wr)) (fun _ i _ => n1 - (intOf i).toNat)
        case atStart => exact ⟨0, Nat.zero_le _, rfl, rfl, hb.out⟩
        case round =>
          clear ca0 ca1 ca2 ca3
          obtain ⟨j, hj, rfl, rfl, hb2⟩ := hrel
          have ca2 := EA.out _ hb2.out 2 (.slice A1 n1 c1) rfl
          by_cases hlt2 : j < n1
          · obtain ⟨b1, o1, x, rfl, hb1, hx, p1, d1⟩ := sln_at H1.out hlt2
            have hbw := bl_trans HB1.out HB1.out.size hb2.out
            rw [← hbw.cell hb1] at p1
            have la := doneL_len (l := rs.take j) (fun e he => H1.out.bd e (List.mem_of_mem_take he))
            rw [List.length_take] at la
            have HF := Lib.hid (doneT_snoc P hx)
            have cx := rDig x d1
            have z1 : (strU (digM x)).size ≤ 20 := by rw [strU_size]; exact digM_len d1.1 d1.2
            have z3 : (strU (doneT P (rs.take j))).size ≤ 60000000000000000 := by rw [strU_size]; unfold doneT; rw [List.length_append]; omega
            obtain ⟨s1, e1⟩ : ∃ z, strU (digM x) = z := ⟨_, rfl⟩
            obtain ⟨s4, e4⟩ : ∃ z, strU (doneT P (rs.take j)) = z := ⟨_, rfl⟩
            rw [e1] at z1 cx HF
            rw [e4] at z3 HF ⊢
            have y1 : s4.size + (⟨#[32]⟩ : ByteArray).size ≤ 9223372036854775807 := by have : (⟨#[32]⟩ : ByteArray).size = 1 := rfl; omega
            have y2 : (s4 ++ ⟨#[32]⟩).size + s1.size ≤ 9223372036854775807 := by have : (⟨#[32]⟩ : ByteArray).size = 1 := rfl; rw [ByteArray.size_append]; omega
            clear e1 e4 hx la d1 hb1 z1 z3 hbw
            go_wp2_with fail
            refine Calls.mono (cx _).out ?_
            rintro e w3 ⟨rfl, hb3⟩
            have X := Lib.hid (bl_trans hb2.out hb2.out.size hb3)
            clear hb3
            go_wp2_with fail
            go_roundw
            case rel => ((repeat apply Exists.intro); exact ⟨⟨j + 1, by omega, by go_num, by rw [HF.out], X.out⟩, rfl⟩)
            case measure => simp [intOf]; omega
          · have hjn : j = n1 := by omega
            subst hjn
            have e : rs.take j = rs := List.take_of_length_le (by rw [HL1.out]; omega)
            rw [e]
            clear e
            have la := doneL_len H1.out.bd
            rw [HL1.out] at la
            have z3 : (strU (doneT P rs)).size ≤ 60000000000000000 := by rw [strU_size]; unfold doneT; rw [List.length_append]; omega
            have HE : Hid (strU (doneT P rs) ++ ⟨#[10]⟩ = strU S) := Lib.hid (by rw [HS2.out, show (⟨#[10]⟩ : ByteArray) = strU [10] from rfl, ← strU_app])
            obtain ⟨s4, e4⟩ : ∃ z, strU (doneT P rs) = z := ⟨_, rfl⟩
            rw [e4] at z3 HE ⊢
            have y1 : s4.size + (⟨#[10]⟩ : ByteArray).size ≤ 9223372036854775807 := by have : (⟨#[10]⟩ : ByteArray).size = 1 := rfl; omega
            clear e4 la z3
            go_wp2_with fail
            go_ret
            exact ⟨by rw [← HE.out]; rfl, bl_trans HB1.out HB1.out.size hb2.out⟩
      have t1 : (fin == 1) = false := by simpa using e
      by_cases e : fin = 2
      · subst e
        have HS2 : Hid (S = crashT P ch) := Lib.hid (by rw [← HS.out, crashT_end]; unfold endL; rw [if_neg (by decide), if_pos rfl, tail_ne (by unfold crashL; simp [sCrash])])
        have HD : Hid (strU P ++ (⟨#[99, 114, 97, 115, 104, 101, 100, 10]⟩ : ByteArray) = strU (crashT P (ch.take 0))) := Lib.hid (by rw [show (⟨#[99, 114, 97, 115, 104, 101, 100, 10]⟩ : ByteArray) = strU (sCrash ++ [10]) from rfl, ← strU_app]; simp [crashT])
        rw [e3] at HD ⊢
        have y1 : s3.size + (⟨#[99, 114, 97, 115, 104, 101, 100, 10]⟩ : ByteArray).size ≤ 9223372036854775807 := by have : (⟨#[99, 114, 97, 115, 104, 101, 100, 10]⟩ : ByteArray).size = 8 := rfl; rw [← e3]; omega
        clear z3 e3
        go_wp2_with fail
        rw [HD.out]
        clear HD y1
        go_loopw [3, 6] (fun s i wr => ∃ k : Nat, k ≤ n2 ∧ i = .int .i64 k ∧ s = .string (strU (crashT P (ch.take k))) ∧ Hid (Below w1.heap.size w1 wr)) (fun _ i _ => n2 - (intOf i).toNat)
        case atStart => exact ⟨0, Nat.zero_le _, rfl, rfl, hb.out⟩
        case round =>
          clear ca0 ca1 ca2 ca3
          obtain ⟨j, hj, rfl, rfl, hb2⟩ := hrel
          have ca3 := EA.out _ hb2.out 3 (.slice A2 n2 c2) rfl
          by_cases hlt2 : j < n2
          · obtain ⟨b1, o1, x, X0, y0, z0, rfl, hb1, hx, p1, p2, p3, p4, hse, d1, d2⟩ := slp_at H2.out hlt2
            have hbw := bl_trans HB1.out HB1.out.size hb2.out
            rw [← hbw.cell hb1] at p1 p2 p3 p4
            have hbl : b1 < wr.heap.size := World.block_lt_of_cell? _ _ p1
            have hwl : w.heap.size < wr.heap.size := World.block_lt_of_cell? _ _ ca3
            have hokp := H2.out.ok
            have la := crashT_len (p := P) (l := ch.take j) (fun e he => hokp e (List.mem_of_mem_take he))
            rw [List.length_take] at la
            have hok := hokp x (List.mem_of_getElem? hx)
            have HF := Lib.hid (crashT_snoc P hx)
            have z1 : (strU (digM x.kind)).size ≤ 20 := by rw [strU_size]; exact digM_len d1.1 d1.2
            have z2 : (strU (digM x.num)).size ≤ 20 := by rw [strU_size]; exact digM_len d2.1 d2.2
            have z5 : (strU (entsL x.trace)).size ≤ 500000000000000 := by rw [strU_size]; have := entsL_len hok.2.2.1; have := hok.2.2.2; omega
            have z3 : (strU (crashT P (ch.take j))).size ≤ 600000000000000000 := by rw [strU_size]; omega
            have cf := fun W => rDig x.kind d1 W
            have cl := fun W => rDig x.num d2 W
            have ce : ∀ W : World, Hid (Below w1.heap.size w1 W) → Hid (Calls Try.prog 67 #[.slice X0 y0 z0] W fun e w' => e = .returned (.string (strU (entsL x.trace))) ∧ Below W.heap.size W w') := fun W hW => refEntries_text w.heap.size X0 y0 z0 x.trace W (hse.keep (bl_trans HB1.out HB1.out.size hW.out)) (bl_trans HB1.out HB1.out.size hW.out).size
            obtain ⟨f, hf⟩ : ∃ z, x.kind = z := ⟨_, rfl⟩
            obtain ⟨g, hg⟩ : ∃ z, x.num = z := ⟨_, rfl⟩
            obtain ⟨r, hr⟩ : ∃ z, x.reco = z := ⟨_, rfl⟩
            rw [hf] at p1 HF cf z1
            rw [hg] at p2 HF cl z2
            rw [hr] at p3 HF
            obtain ⟨s1, e1⟩ : ∃ z, strU (digM f) = z := ⟨_, rfl⟩
            obtain ⟨s2, e2⟩ : ∃ z, strU (digM g) = z := ⟨_, rfl⟩
            obtain ⟨s4, e4⟩ : ∃ z, strU (crashT P (ch.take j)) = z := ⟨_, rfl⟩
            obtain ⟨s5, e5⟩ : ∃ z, strU (entsL x.trace) = z := ⟨_, rfl⟩
            rw [e1] at z1 cf HF
            rw [e2] at z2 cl HF
            rw [e4] at z3 HF ⊢
            rw [e5] at z5 ce HF
            clear hf hg hr e1 e2 e4 e5 hx hok hokp d1 d2 la hb1 hse hbw
            rw [show strU (recdL r) = if r then (⟨#[32, 114, 101, 99, 111, 118, 101, 114, 101, 100]⟩ : ByteArray) else ⟨#[]⟩ from by cases r <;> rfl] at HF
            cases r
            case true =>
              rw [if_pos rfl] at HF
              obtain ⟨w2, hw2⟩ : ∃ w2, wr.alloc (.cells #[.int .i64 f, .int .i64 g, .bool true, .slice X0 y0 z0] 142) = w2 := ⟨_, rfl⟩
              have hbx := box_cells wr #[.int .i64 f, .int .i64 g, .bool true, .slice X0 y0 z0] 142
              rw [hw2] at hbx
              have hz2 : w2.heap.size = wr.heap.size + 1 := by rw [← hw2]; simp
              have EB : Hid (∀ W, Below w2.heap.size w2 W → ∀ i v, (#[.int .i64 f, .int .i64 g, .bool true, .slice X0 y0 z0] : Array Value)[i]? = some v → W.cell? ⟨wr.heap.size, i, none⟩ = some v) := Lib.hid (fun W hW i v hv => hbx W (hW.mono (by omega)) i v hv)
              have HB2 : Hid (Below w1.heap.size w1 w2) := Lib.hid (by rw [← hw2]; exact hb2.out.alloc hb2.out.size _)
              have hS0 : Below w2.heap.size w2 w2.drew := (Below.refl _ _).drew
              clear hbx hz2
              go_wp2_with fail
              refine wp_region_held (S := fun W => Below w2.heap.size w2 W) (by kernel_rfl) ?_
              change wpAnyH _ _ _ _ _ _ _ _ (World.drew _)
              refine wpAnyH_take (i := 0) (v := .string s4) rfl (by kernel_rfl) (by kernel_rfl) (by kernel_rfl) (fun _ _ _ h => h) (Or.inl ⟨by rfl, by intro W hW; go_simp; try (first | (with_reducible rfl) | omega)⟩) hS0 ?_
              refine wpAnyH_take (i := 1) (v := .string (s4 ++ (⟨#[112, 97, 110, 105, 99, 32]⟩ : ByteArray))) rfl (by kernel_rfl) (by kernel_rfl) (by kernel_rfl) (fun _ _ _ h => h) (Or.inl ⟨by rfl, by intro W hW; go_simp; first | omega | (simp only [ByteArray.size_append, size_lit]; omega) | (simp; omega)⟩) hS0 ?_
              refine wpAnyH_take (i := 2) (v := .pointer (some ⟨wr.heap.size, 0, none⟩)) rfl (by kernel_rfl) (by kernel_rfl) (by kernel_rfl) (fun _ _ _ h => h) (Or.inl ⟨by rfl, by intro W hW; go_simp; try (first | (with_reducible rfl) | omega)⟩) hS0 ?_
              refine wpAnyH_take (i := 3) (v := .int .i64 f) rfl (by kernel_rfl) (by kernel_rfl) (by kernel_rfl) (fun _ _ _ h => h) (Or.inl ⟨by rfl, by intro W hW; have a0 := EB.out W hW 0 (.int .i64 f) rfl; go_simp; try (first | (with_reducible rfl) | omega)⟩) hS0 ?_
              refine wpAnyH_take (i := 7) (v := .pointer (some ⟨wr.heap.size, 1, none⟩)) rfl (by kernel_rfl) (by kernel_rfl) (by kernel_rfl) (fun _ _ _ h => h) (Or.inl ⟨by rfl, by intro W hW; go_simp; try (first | (with_reducible rfl) | omega)⟩) hS0 ?_
              refine wpAnyH_take (i := 8) (v := .int .i64 g) rfl (by kernel_rfl) (by kernel_rfl) (by kernel_rfl) (fun _ _ _ h => h) (Or.inl ⟨by rfl, by intro W hW; have a0 := EB.out W hW 1 (.int .i64 g) rfl; go_simp; try (first | (with_reducible rfl) | omega)⟩) hS0 ?_
              refine wpAnyH_one (i := 4) (by kernel_rfl) rfl (fun K hK => ?_)
              go_simp
              refine Calls.mono (cf _).out ?_
              rintro e w3 ⟨rfl, hb3⟩
              have hS3 := bl_trans hS0 hS0.size hb3
              go_simp
              refine hK _ _ ⟨hS3, ?_⟩; clear hK K
              refine wpAnyH_take (i := 5) (v := .string (s4 ++ (⟨#[112, 97, 110, 105, 99, 32]⟩ : ByteArray) ++ s1)) rfl (by kernel_rfl) (by kernel_rfl) (by kernel_rfl) (fun _ _ _ h => h) (Or.inl ⟨by rfl, by intro W hW; go_simp; first | omega | (simp only [ByteArray.size_append, size_lit]; omega) | (simp; omega)⟩) hS3 ?_
              refine wpAnyH_take (i := 6) (v := .string (s4 ++ (⟨#[112, 97, 110, 105, 99, 32]⟩ : ByteArray) ++ s1 ++ ⟨#[32]⟩)) rfl (by kernel_rfl) (by kernel_rfl) (by kernel_rfl) (fun _ _ _ h => h) (Or.inl ⟨by rfl, by intro W hW; go_simp; first | omega | (simp only [ByteArray.size_append, size_lit]; omega) | (simp; omega)⟩) hS3 ?_
              refine wpAnyH_one (i := 9) (by kernel_rfl) rfl (fun K hK => ?_)
              go_simp
              refine Calls.mono (cl _).out ?_
              rintro e w4 ⟨rfl, hb4⟩
              have hS4 := bl_trans hS3 hS3.size hb4
              go_simp
              refine hK _ _ ⟨hS4, ?_⟩; clear hK K
              refine wpAnyH_one (i := 10) (by kernel_rfl) rfl (fun K hK => ?_)
              go_simp
              rw [if_neg (by first | omega | (simp only [ByteArray.size_append, size_lit]; omega) | (simp; omega))]
              go_simp
              refine hK _ _ ⟨hS4, ?_⟩; clear hK K
              refine wpAnyH_one (i := 11) (by kernel_rfl) rfl (fun K hK => ?_)
              go_simp
              refine hK _ _ ⟨hS4, ?_⟩; clear hK K
              refine wpAnyH_done (by kernel_rfl) ?_ _
              have q2 := EB.out w4 hS4 2 (.bool true) rfl
              have q3 := EB.out w4 hS4 3 (.slice X0 y0 z0) rfl
              have HX := Lib.hid (bl_trans HB2.out HB2.out.size hS4)
              have hz : (s4 ++ (⟨#[112, 97, 110, 105, 99, 32]⟩ : ByteArray) ++ s1 ++ ⟨#[32]⟩ ++ s2).size ≤ 700000000000000000 := by have : (⟨#[112, 97, 110, 105, 99, 32]⟩ : ByteArray).size = 6 := rfl; have : (⟨#[32]⟩ : ByteArray).size = 1 := rfl; simp only [ByteArray.size_append]; omega
              obtain ⟨s6, e6⟩ : ∃ z, s4 ++ (⟨#[112, 97, 110, 105, 99, 32]⟩ : ByteArray) ++ s1 ++ ⟨#[32]⟩ ++ s2 = z := ⟨_, rfl⟩
              rw [e6] at hz HF
              try rw [e6]
              have y9 : (⟨#[10]⟩ : ByteArray).size = 1 := rfl
              have y0' : (⟨#[32, 114, 101, 99, 111, 118, 101, 114, 101, 100]⟩ : ByteArray).size = 10 := rfl
              have y1 : s6.size + (⟨#[32, 114, 101, 99, 111, 118, 101, 114, 101, 100]⟩ : ByteArray).size ≤ 9223372036854775807 := by omega
              have y2 : (s6 ++ (⟨#[32, 114, 101, 99, 111, 118, 101, 114, 101, 100]⟩ : ByteArray)).size + s5.size ≤ 9223372036854775807 := by rw [ByteArray.size_append]; omega
              have y3 : (s6 ++ (⟨#[32, 114, 101, 99, 111, 118, 101, 114, 101, 100]⟩ : ByteArray) ++ s5).size + (⟨#[10]⟩ : ByteArray).size ≤ 9223372036854775807 := by rw [ByteArray.size_append, ByteArray.size_append]; omega
              clear y0'
              have cE := ce w4 HX
              clear y9 hz z1 z2 z3 z5 e6 ce
              go_wp2_with fail
              refine Calls.mono cE.out ?_
              rintro e w5 ⟨rfl, hb5⟩
              have X := Lib.hid (bl_trans HX.out HX.out.size hb5)
              clear hb5 hS4 hb4 hb3 hS3
              go_wp2_with fail
              go_roundw
              case rel => ((repeat apply Exists.intro); exact ⟨⟨j + 1, by omega, by go_num, by rw [HF.out], X.out⟩, rfl⟩)
              case measure => simp [intOf]; omega
            case false =>
              rw [if_neg (by decide), ByteArray.append_empty'] at HF
              obtain ⟨w2, hw2⟩ : ∃ w2, wr.alloc (.cells #[.int .i64 f, .int .i64 g, .bool false, .slice X0 y0 z0] 142) = w2 := ⟨_, rfl⟩
              have hbx := box_cells wr #[.int .i64 f, .int .i64 g, .bool false, .slice X0 y0 z0] 142
              rw [hw2] at hbx
              have hz2 : w2.heap.size = wr.heap.size + 1 := by rw [← hw2]; simp
              have EB : Hid (∀ W, Below w2.heap.size w2 W → ∀ i v, (#[.int .i64 f, .int .i64 g, .bool false, .slice X0 y0 z0] : Array Value)[i]? = some v → W.cell? ⟨wr.heap.size, i, none⟩ = some v) := Lib.hid (fun W hW i v hv => hbx W (hW.mono (by omega)) i v hv)
              have HB2 : Hid (Below w1.heap.size w1 w2) := Lib.hid (by rw [← hw2]; exact hb2.out.alloc hb2.out.size _)
              have hS0 : Below w2.heap.size w2 w2.drew := (Below.refl _ _).drew
              clear hbx hz2
              go_wp2_with fail
              refine wp_region_held (S := fun W => Below w2.heap.size w2 W) (by kernel_rfl) ?_
              change wpAnyH _ _ _ _ _ _ _ _ (World.drew _)
              refine wpAnyH_take (i := 0) (v := .string s4) rfl (by kernel_rfl) (by kernel_rfl) (by kernel_rfl) (fun _ _ _ h => h) (Or.inl ⟨by rfl, by intro W hW; go_simp; try (first | (with_reducible rfl) | omega)⟩) hS0 ?_
              refine wpAnyH_take (i := 1) (v := .string (s4 ++ (⟨#[112, 97, 110, 105, 99, 32]⟩ : ByteArray))) rfl (by kernel_rfl) (by kernel_rfl) (by kernel_rfl) (fun _ _ _ h => h) (Or.inl ⟨by rfl, by intro W hW; go_simp; first | omega | (simp only [ByteArray.size_append, size_lit]; omega) | (simp; omega)⟩) hS0 ?_
              refine wpAnyH_take (i := 2) (v := .pointer (some ⟨wr.heap.size, 0, none⟩)) rfl (by kernel_rfl) (by kernel_rfl) (by kernel_rfl) (fun _ _ _ h => h) (Or.inl ⟨by rfl, by intro W hW; go_simp; try (first | (with_reducible rfl) | omega)⟩) hS0 ?_
              refine wpAnyH_take (i := 3) (v := .int .i64 f) rfl (by kernel_rfl) (by kernel_rfl) (by kernel_rfl) (fun _ _ _ h => h) (Or.inl ⟨by rfl, by intro W hW; have a0 := EB.out W hW 0 (.int .i64 f) rfl; go_simp; try (first | (with_reducible rfl) | omega)⟩) hS0 ?_
              refine wpAnyH_take (i := 7) (v := .pointer (some ⟨wr.heap.size, 1, none⟩)) rfl (by kernel_rfl) (by kernel_rfl) (by kernel_rfl) (fun _ _ _ h => h) (Or.inl ⟨by rfl, by intro W hW; go_simp; try (first | (with_reducible rfl) | omega)⟩) hS0 ?_
              refine wpAnyH_take (i := 8) (v := .int .i64 g) rfl (by kernel_rfl) (by kernel_rfl) (by kernel_rfl) (fun _ _ _ h => h) (Or.inl ⟨by rfl, by intro W hW; have a0 := EB.out W hW 1 (.int .i64 g) rfl; go_simp; try (first | (with_reducible rfl) | omega)⟩) hS0 ?_
              refine wpAnyH_one (i := 4) (by kernel_rfl) rfl (fun K hK => ?_)
              go_simp
              refine Calls.mono (cf _).out ?_
              rintro e w3 ⟨rfl, hb3⟩
              have hS3 := bl_trans hS0 hS0.size hb3
              go_simp
              refine hK _ _ ⟨hS3, ?_⟩; clear hK K
              refine wpAnyH_take (i := 5) (v := .string (s4 ++ (⟨#[112, 97, 110, 105, 99, 32]⟩ : ByteArray) ++ s1)) rfl (by kernel_rfl) (by kernel_rfl) (by kernel_rfl) (fun _ _ _ h => h) (Or.inl ⟨by rfl, by intro W hW; go_simp; first | omega | (simp only [ByteArray.size_append, size_lit]; omega) | (simp; omega)⟩) hS3 ?_
              refine wpAnyH_take (i := 6) (v := .string (s4 ++ (⟨#[112, 97, 110, 105, 99, 32]⟩ : ByteArray) ++ s1 ++ ⟨#[32]⟩)) rfl (by kernel_rfl) (by kernel_rfl) (by kernel_rfl) (fun _ _ _ h => h) (Or.inl ⟨by rfl, by intro W hW; go_simp; first | omega | (simp only [ByteArray.size_append, size_lit]; omega) | (simp; omega)⟩) hS3 ?_
              refine wpAnyH_one (i := 9) (by kernel_rfl) rfl (fun K hK => ?_)
              go_simp
              refine Calls.mono (cl _).out ?_
              rintro e w4 ⟨rfl, hb4⟩
              have hS4 := bl_trans hS3 hS3.size hb4
              go_simp
              refine hK _ _ ⟨hS4, ?_⟩; clear hK K
              refine wpAnyH_one (i := 10) (by kernel_rfl) rfl (fun K hK => ?_)
              go_simp
              rw [if_neg (by first | omega | (simp only [ByteArray.size_append, size_lit]; omega) | (simp; omega))]
              go_simp
              refine hK _ _ ⟨hS4, ?_⟩; clear hK K
              refine wpAnyH_one (i := 11) (by kernel_rfl) rfl (fun K hK => ?_)
              go_simp
              refine hK _ _ ⟨hS4, ?_⟩; clear hK K
              refine wpAnyH_done (by kernel_rfl) ?_ _
              have q2 := EB.out w4 hS4 2 (.bool false) rfl
              have q3 := EB.out w4 hS4 3 (.slice X0 y0 z0) rfl
              have HX := Lib.hid (bl_trans HB2.out HB2.out.size hS4)
              have hz : (s4 ++ (⟨#[112, 97, 110, 105, 99, 32]⟩ : ByteArray) ++ s1 ++ ⟨#[32]⟩ ++ s2).size ≤ 700000000000000000 := by have : (⟨#[112, 97, 110, 105, 99, 32]⟩ : ByteArray).size = 6 := rfl; have : (⟨#[32]⟩ : ByteArray).size = 1 := rfl; simp only [ByteArray.size_append]; omega
              obtain ⟨s6, e6⟩ : ∃ z, s4 ++ (⟨#[112, 97, 110, 105, 99, 32]⟩ : ByteArray) ++ s1 ++ ⟨#[32]⟩ ++ s2 = z := ⟨_, rfl⟩
              rw [e6] at hz HF
              try rw [e6]
              have y9 : (⟨#[10]⟩ : ByteArray).size = 1 := rfl
              have y2 : s6.size + s5.size ≤ 9223372036854775807 := by omega
              have y3 : (s6 ++ s5).size + (⟨#[10]⟩ : ByteArray).size ≤ 9223372036854775807 := by rw [ByteArray.size_append]; omega
              have cE := ce w4 HX
              clear y9 hz z1 z2 z3 z5 e6 ce
              go_wp2_with fail
              refine Calls.mono cE.out ?_
              rintro e w5 ⟨rfl, hb5⟩
              have X := Lib.hid (bl_trans HX.out HX.out.size hb5)
              clear hb5 hS4 hb4 hb3 hS3
              go_wp2_with fail
              go_roundw
              case rel => ((repeat apply Exists.intro); exact ⟨⟨j + 1, by omega, by go_num, by rw [HF.out], X.out⟩, rfl⟩)
              case measure => simp [intOf]; omega
          · have hjn : j = n2 := by omega
            subst hjn
            have e : ch.take j = ch := List.take_of_length_le (by rw [HL2.out]; omega)
            rw [e, ← HS2.out]
            clear e
            go_wp2_with fail
            go_ret
            exact ⟨rfl, bl_trans HB1.out HB1.out.size hb2.out⟩
      have t2 : (fin == 2) = false := by simpa using e
      by_cases e : fin = 3
      · subst e
        have HE : Hid (strU P ++ (⟨#[115, 116, 101, 112, 115, 10]⟩ : ByteArray) = strU S) := Lib.hid (by rw [← HS.out]; unfold endL; rw [if_neg (by decide), if_neg (by decide), if_pos rfl]; rw [show (⟨#[115, 116, 101, 112, 115, 10]⟩ : ByteArray) = strU [115, 116, 101, 112, 115, 10] from rfl, ← strU_app]; rfl)
        rw [e3] at HE ⊢
        have y1 : s3.size + (⟨#[115, 116, 101, 112, 115, 10]⟩ : ByteArray).size ≤ 9223372036854775807 := by have : (⟨#[115, 116, 101, 112, 115, 10]⟩ : ByteArray).size = 6 := rfl; rw [← e3]; omega
        clear z3 e3
        go_wp2_with fail
        go_ret
        exact ⟨by rw [← HE.out]; rfl, bl_trans HB1.out HB1.out.size hb.out⟩
      have t3 : (fin == 3) = false := by simpa using e
      by_cases e : fin = 4
      · subst e
        have HE : Hid (strU P ++ (⟨#[100, 101, 101, 112, 10]⟩ : ByteArray) = strU S) := Lib.hid (by rw [← HS.out]; unfold endL; rw [if_neg (by decide), if_neg (by decide), if_neg (by decide), if_pos rfl]; rw [show (⟨#[100, 101, 101, 112, 10]⟩ : ByteArray) = strU [100, 101, 101, 112, 10] from rfl, ← strU_app]; rfl)
        rw [e3] at HE ⊢
        have y1 : s3.size + (⟨#[100, 101, 101, 112, 10]⟩ : ByteArray).size ≤ 9223372036854775807 := by have : (⟨#[100, 101, 101, 112, 10]⟩ : ByteArray).size = 5 := rfl; rw [← e3]; omega
        clear z3 e3
        go_wp2_with fail
        go_ret
        exact ⟨by rw [← HE.out]; rfl, bl_trans HB1.out HB1.out.size hb.out⟩
      have t4 : (fin == 4) = false := by simpa using e
      by_cases e : fin = 5
      · subst e
        have HE : Hid (strU P ++ (⟨#[100, 101, 102, 101, 114, 115, 10]⟩ : ByteArray) = strU S) := Lib.hid (by rw [← HS.out]; unfold endL; rw [if_neg (by decide), if_neg (by decide), if_neg (by decide), if_neg (by decide), if_pos rfl]; rw [show (⟨#[100, 101, 102, 101, 114, 115, 10]⟩ : ByteArray) = strU [100, 101, 102, 101, 114, 115, 10] from rfl, ← strU_app]; rfl)
        rw [e3] at HE ⊢
        have y1 : s3.size + (⟨#[100, 101, 102, 101, 114, 115, 10]⟩ : ByteArray).size ≤ 9223372036854775807 := by have : (⟨#[100, 101, 102, 101, 114, 115, 10]⟩ : ByteArray).size = 7 := rfl; rw [← e3]; omega
        clear z3 e3
        go_wp2_with fail
        go_ret
        exact ⟨by rw [← HE.out]; rfl, bl_trans HB1.out HB1.out.size hb.out⟩
      have t5 : (fin == 5) = false := by simpa using e
      by_cases e : fin = 6
      · subst e
        have HE : Hid (strU P ++ (⟨#[101, 118, 101, 110, 116, 115, 10]⟩ : ByteArray) = strU S) := Lib.hid (by rw [← HS.out]; unfold endL; rw [if_neg (by decide), if_neg (by decide), if_neg (by decide), if_neg (by decide), if_neg (by decide), if_pos rfl]; rw [show (⟨#[101, 118, 101, 110, 116, 115, 10]⟩ : ByteArray) = strU [101, 118, 101, 110, 116, 115, 10] from rfl, ← strU_app]; rfl)
        rw [e3] at HE ⊢
        have y1 : s3.size + (⟨#[101, 118, 101, 110, 116, 115, 10]⟩ : ByteArray).size ≤ 9223372036854775807 := by have : (⟨#[101, 118, 101, 110, 116, 115, 10]⟩ : ByteArray).size = 7 := rfl; rw [← e3]; omega
        clear z3 e3
        go_wp2_with fail
        go_ret
        exact ⟨by rw [← HE.out]; rfl, bl_trans HB1.out HB1.out.size hb.out⟩
      have t6 : (fin == 6) = false := by simpa using e
      have HE : Hid (strU P = strU S) := Lib.hid (by rw [← HS.out]; unfold endL; simp only [beq_eq_false_iff_ne, ne_eq] at t1 t2 t3 t4 t5 t6; rw [if_neg t1, if_neg t2, if_neg t3, if_neg t4, if_neg t5, if_neg t6]; show strU P = strU (P ++ []); rw [List.append_nil])
      rw [e3] at HE ⊢
      clear z3 e3 e
      go_wp2_with fail
      go_ret
      exact ⟨by rw [← HE.out]; rfl, bl_trans HB1.out HB1.out.size hb.out⟩
end Go.Proofs.Ytpladpmkpchndaa
