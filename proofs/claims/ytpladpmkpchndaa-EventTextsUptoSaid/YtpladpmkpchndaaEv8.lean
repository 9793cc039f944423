/-
  A run as lines, by the program.
-/
import Derived.Test.YtpladpmkpchndaaEv7
namespace Go.Proofs.Ytpladpmkpchndaa
open Go.RowKit
set_option linter.unusedSimpArgs false
set_option linter.unusedVariables false

abbrev runV (A0 : Option Addr) (n0 c0 : Nat) (fin : Int) (A1 : Option Addr) (n1 c1 : Nat) (A2 : Option Addr) (n2 c2 : Nat) (st : Int) : Value := .agg #[.slice A0 n0 c0, .int .i64 fin, .slice A1 n1 c1, .slice A2 n2 c2, .int .i64 st]
def endL (fin : Int) (rs : List Int) (ch : List DBlame) : List UInt8 :=
  if fin = 1 then doneL rs else if fin = 2 then crashL ch else if fin = 3 then [115, 116, 101, 112, 115] else if fin = 4 then [100, 101, 101, 112] else if fin = 5 then [100, 101, 102, 101, 114, 115] else if fin = 6 then [101, 118, 101, 110, 116, 115] else []

set_option maxRecDepth 100000 in
set_option maxHeartbeats 2000000 in
theorem end_any (B : Nat) (A0 : Option Addr) (n0 c0 : Nat) (fin : Int) (A1 : Option Addr) (n1 c1 : Nat) (A2 : Option Addr) (n2 c2 : Nat) (st : Int) (rs : List Int) (ch : List DBlame) (w : World) (h1 : SlN w B A1 n1 c1 rs) (h2 : SlP w B A2 n2 c2 ch) (hB : B ≤ w.heap.size) (hn1 : n1 ≤ 100) (hn2 : n2 ≤ 100) :
    Calls Try.prog 92 #[runV A0 n0 c0 fin A1 n1 c1 A2 n2 c2 st] w fun e w' => e = .returned (.string (strU (endL fin rs ch))) ∧ Below w.heap.size w w' := by
  have hb1 : Below w.heap.size w (w.alloc (.cells #[.slice A0 n0 c0, .int .i64 fin, .slice A1 n1 c1, .slice A2 n2 c2, .int .i64 st] 103)) := (Below.refl _ _).alloc (Nat.le_refl _) _
  have HB1 := Lib.hid hb1
  have k1 : Hid (Calls Try.prog 107 #[.slice A1 n1 c1] (w.alloc (.cells #[.slice A0 n0 c0, .int .i64 fin, .slice A1 n1 c1, .slice A2 n2 c2, .int .i64 st] 103)) fun e w' => e = .returned (.string (strU (doneL rs))) ∧ Below (w.alloc (.cells #[.slice A0 n0 c0, .int .i64 fin, .slice A1 n1 c1, .slice A2 n2 c2, .int .i64 st] 103)).heap.size (w.alloc (.cells #[.slice A0 n0 c0, .int .i64 fin, .slice A1 n1 c1, .slice A2 n2 c2, .int .i64 st] 103)) w') := done_any B A1 n1 c1 rs _ (h1.keep (hb1.mono hB)) (Nat.le_trans hB hb1.size) hn1
  have k2 : Hid (Calls Try.prog 108 #[.slice A2 n2 c2] (w.alloc (.cells #[.slice A0 n0 c0, .int .i64 fin, .slice A1 n1 c1, .slice A2 n2 c2, .int .i64 st] 103)) fun e w' => e = .returned (.string (strU (crashL ch))) ∧ Below (w.alloc (.cells #[.slice A0 n0 c0, .int .i64 fin, .slice A1 n1 c1, .slice A2 n2 c2, .int .i64 st] 103)).heap.size (w.alloc (.cells #[.slice A0 n0 c0, .int .i64 fin, .slice A1 n1 c1, .slice A2 n2 c2, .int .i64 st] 103)) w') := crashed_any B A2 n2 c2 ch _ (h2.keep (hb1.mono hB)) (Nat.le_trans hB hb1.size) hn2
  clear hb1 h1 h2 hB hn1 hn2
  unfold endL
  by_cases e : fin = 1
  · subst e
    rw [if_pos rfl]
    clear k2
    go_enter Try.func92, Try.ntmps92
    go_wp2_with fail
    refine Calls.mono k1.out ?_
    rintro e w1 ⟨rfl, hb⟩
    have X := Lib.hid (bl_trans HB1.out HB1.out.size hb)
    clear hb
    go_wp2_with fail
    go_ret
    exact ⟨rfl, X.out⟩
  have t1 : (fin == 1) = false := by simpa using e
  rw [if_neg e]
  clear e
  by_cases e : fin = 2
  · subst e
    rw [if_pos rfl]
    clear k1
    go_enter Try.func92, Try.ntmps92
    go_wp2_with fail
    refine Calls.mono k2.out ?_
    rintro e w1 ⟨rfl, hb⟩
    have X := Lib.hid (bl_trans HB1.out HB1.out.size hb)
    clear hb
    go_wp2_with fail
    go_ret
    exact ⟨rfl, X.out⟩
  have t2 : (fin == 2) = false := by simpa using e
  rw [if_neg e]
  clear e
  by_cases e : fin = 3
  · subst e
    rw [if_pos rfl]
    clear k1 k2
    go_enter Try.func92, Try.ntmps92
    go_wp2_with fail
    go_ret
    exact ⟨rfl, HB1.out⟩
  have t3 : (fin == 3) = false := by simpa using e
  rw [if_neg e]
  clear e
  by_cases e : fin = 4
  · subst e
    rw [if_pos rfl]
    clear k1 k2
    go_enter Try.func92, Try.ntmps92
    go_wp2_with fail
    go_ret
    exact ⟨rfl, HB1.out⟩
  have t4 : (fin == 4) = false := by simpa using e
  rw [if_neg e]
  clear e
  by_cases e : fin = 5
  · subst e
    rw [if_pos rfl]
    clear k1 k2
    go_enter Try.func92, Try.ntmps92
    go_wp2_with fail
    go_ret
    exact ⟨rfl, HB1.out⟩
  have t5 : (fin == 5) = false := by simpa using e
  rw [if_neg e]
  clear e
  by_cases e : fin = 6
  · subst e
    rw [if_pos rfl]
    clear k1 k2
    go_enter Try.func92, Try.ntmps92
    go_wp2_with fail
    go_ret
    exact ⟨rfl, HB1.out⟩
  have t6 : (fin == 6) = false := by simpa using e
  rw [if_neg e]
  clear e
  clear k1 k2
  go_enter Try.func92, Try.ntmps92
  go_wp2_with fail
  go_ret
  exact ⟨rfl, HB1.out⟩

theorem IsB.keep {b B : Nat} {l : List UInt8} {w w' : World} (h : IsB b B l w) (hb : Below w.heap.size w w') : IsB b B l w' := by
  have key : ∀ p, Lib.BuilderAt 134 5 B b p (Lib.byteCells l) w → Lib.BuilderAt 134 5 B b p (Lib.byteCells l) w' := by
    intro p hp
    have hlt := hp.lt
    obtain ⟨hB, v, h1, h2, h3⟩ := hp
    exact ⟨hB, v, (hb.block b hlt).trans h1, own_keep h2 hb, h3⟩
  rcases h with h | h
  · exact Or.inl (key _ h)
  · exact Or.inr (key _ h)
def lineL (x : DEvent) : List UInt8 := evL x.kind x.n x.m x.trace ++ [10]
def linesL (l : List DEvent) : List UInt8 := l.flatMap lineL
def tailL (l : List UInt8) : List UInt8 := if l = [] then [] else l ++ [10]
def showL (es : List DEvent) (fin : Int) (rs : List Int) (ch : List DBlame) : List UInt8 := linesL es ++ tailL (endL fin rs ch)
theorem toList_strU (l : List UInt8) : (strU l).toList = l := by
  exact ByteArray.toList_mk _
theorem take_len (f : DEvent → List UInt8) (l : List DEvent) (k : Nat) : ((l.take k).flatMap f).length ≤ (l.flatMap f).length := by
  conv => rhs; rw [← List.take_append_drop k l, List.flatMap_append, List.length_append]
  omega

set_option maxRecDepth 100000 in
set_option maxHeartbeats 2000000 in
theorem show_any (A0 : Option Addr) (n0 c0 : Nat) (fin : Int) (A1 : Option Addr) (n1 c1 : Nat) (A2 : Option Addr) (n2 c2 : Nat) (st : Int) (es : List DEvent) (rs : List Int) (ch : List DBlame) (w : World)
    (h0 : SlV w w.heap.size A0 n0 c0 es) (h1 : SlN w w.heap.size A1 n1 c1 rs) (h2 : SlP w w.heap.size A2 n2 c2 ch) (hn1 : n1 ≤ 100) (hn2 : n2 ≤ 100) (hlen : (showL es fin rs ch).length ≤ 140737488355328) :
    Calls Try.prog 64 #[runV A0 n0 c0 fin A1 n1 c1 A2 n2 c2 st] w fun e w' => e = .returned (.string (strU (showL es fin rs ch))) ∧ Below w.heap.size w w' := by
  have hn0 : n0 ≤ 10000000000000 := by have := h0.2.2.2.1; unfold reachBytes at this; omega
  have hlen' := hlen
  unfold showL at hlen'
  rw [List.length_append] at hlen'
  have HLN := Lib.hid hlen'
  have HLn := Lib.hid h0.1
  have H0 := Lib.hid h0
  clear hlen hlen'
  have ke : ∀ W : World, Below w.heap.size w W → Hid (Calls Try.prog 92 #[runV A0 n0 c0 fin A1 n1 c1 A2 n2 c2 st] W fun e w' => e = .returned (.string (strU (endL fin rs ch))) ∧ Below W.heap.size W w') := fun W hW => end_any w.heap.size A0 n0 c0 fin A1 n1 c1 A2 n2 c2 st rs ch W (h1.keep hW) (h2.keep hW) hW.size hn1 hn2
  unfold showL
  obtain ⟨E, hE⟩ : ∃ E, endL fin rs ch = E := ⟨_, rfl⟩
  rw [hE] at ke HLN ⊢
  obtain ⟨T, hT⟩ : ∃ T, tailL E = T := ⟨_, rfl⟩
  rw [hT] at HLN ⊢
  have HT := Lib.hid hT
  clear hE hT
  obtain ⟨w1, hw1⟩ : ∃ w1, w.alloc (.cells #[.slice A0 n0 c0, .int .i64 fin, .slice A1 n1 c1, .slice A2 n2 c2, .int .i64 st] 103) = w1 := ⟨_, rfl⟩
  have hb1 : Below w.heap.size w w1 := by rw [← hw1]; exact (Below.refl _ _).alloc (Nat.le_refl _) _
  have hz1 : w1.heap.size = w.heap.size + 1 := by rw [← hw1]; simp
  have q0 : w1.cell? ⟨w.heap.size, 0, none⟩ = some (.slice A0 n0 c0) := by rw [← hw1]; exact box_cells _ _ _ _ (Below.refl _ _) 0 _ rfl
  have q1 : w1.cell? ⟨w.heap.size, 1, none⟩ = some (.int .i64 fin) := by rw [← hw1]; exact box_cells _ _ _ _ (Below.refl _ _) 1 _ rfl
  have q2 : w1.cell? ⟨w.heap.size, 2, none⟩ = some (.slice A1 n1 c1) := by rw [← hw1]; exact box_cells _ _ _ _ (Below.refl _ _) 2 _ rfl
  have q3 : w1.cell? ⟨w.heap.size, 3, none⟩ = some (.slice A2 n2 c2) := by rw [← hw1]; exact box_cells _ _ _ _ (Below.refl _ _) 3 _ rfl
  have q4 : w1.cell? ⟨w.heap.size, 4, none⟩ = some (.int .i64 st) := by rw [← hw1]; exact box_cells _ _ _ _ (Below.refl _ _) 4 _ rfl
  have HB1 := Lib.hid hb1
  have HZ1 := Lib.hid hz1
  obtain ⟨w2, hw2⟩ : ∃ w2, w1.alloc (.cells #[.pointer none, .slice none 0 0] 134) = w2 := ⟨_, rfl⟩
  have hf : IsB w1.heap.size w1.heap.size [] w2 := by rw [← hw2]; exact fresh_any w1
  have hb2 : Below w1.heap.size w1 w2 := by rw [← hw2]; exact (Below.refl _ _).alloc (Nat.le_refl _) _
  have HF := Lib.hid hf
  have HB2 := Lib.hid hb2
  have p0 := (hb2.cell (p := ⟨w.heap.size, 0, none⟩) (by rw [hz1]; simp)).trans q0
  have hz2 := hb2.size
  clear hf hb1 hb2 h0 h1 h2 hz1 hn1 hn2
  go_enter Try.func64, Try.ntmps64
  go_wp2_with fail
  go_loopw [10] (fun i wr => ∃ k : Nat, k ≤ n0 ∧ i = .int .i64 k ∧ Hid (IsB w1.heap.size w1.heap.size (linesL (es.take k)) wr) ∧ Hid (Below w1.heap.size w1 wr)) (fun i _ => n0 - (intOf i).toNat)
  case atStart => exact ⟨0, Nat.zero_le _, rfl, HF.out, HB2.out⟩
  case round =>
    obtain ⟨k, hk, rfl, hib, hb⟩ := hrel
    have hbw : Below w.heap.size w wr := HB1.out.trans (hb.out.mono HB1.out.size)
    have HW := Lib.hid hbw
    clear p0 hw2
    by_cases hlt : k < n0
    · obtain ⟨b1, o1, x, B0, m0, d0, rfl, hb1, hx, hc1, hc2, hc3, hc4, hse, hd1, hd2, hd3⟩ := slv_at H0.out hlt
      rw [← hbw.cell hb1] at hc1 hc2 hc3 hc4
      obtain ⟨w3, hw3⟩ : ∃ w3, wr.alloc (.cells #[.int .i64 x.kind, .int .i64 x.n, .int .i64 x.m, .slice B0 m0 d0] 98) = w3 := ⟨_, rfl⟩
      have hb3 : Below wr.heap.size wr w3 := by rw [← hw3]; exact (Below.refl _ _).alloc (Nat.le_refl _) _
      have hbw3 : Below w.heap.size w w3 := hbw.trans (hb3.mono hbw.size)
      have r0 : w3.cell? ⟨wr.heap.size, 0, none⟩ = some (.int .i64 x.kind) := by rw [← hw3]; exact box_cells _ _ _ _ (Below.refl _ _) 0 _ rfl
      have r1 : w3.cell? ⟨wr.heap.size, 1, none⟩ = some (.int .i64 x.n) := by rw [← hw3]; exact box_cells _ _ _ _ (Below.refl _ _) 1 _ rfl
      have r2 : w3.cell? ⟨wr.heap.size, 2, none⟩ = some (.int .i64 x.m) := by rw [← hw3]; exact box_cells _ _ _ _ (Below.refl _ _) 2 _ rfl
      have r3 : w3.cell? ⟨wr.heap.size, 3, none⟩ = some (.slice B0 m0 d0) := by rw [← hw3]; exact box_cells _ _ _ _ (Below.refl _ _) 3 _ rfl
      have ct : Hid (Calls Try.prog 86 #[eventV x.kind x.n x.m B0 m0 d0] w3 fun e w' => e = .returned (.string (strU (evL x.kind x.n x.m x.trace))) ∧ Below w3.heap.size w3 w') := text_any x.kind x.n x.m w.heap.size B0 m0 d0 x.trace w3 hd2 hd3 (hse.keep hbw3) hbw3.size
      have hsn := snocF lineL hx
      have HLE : Hid ((linesL (es.take k)).length + ((evL x.kind x.n x.m x.trace).length + 1) ≤ (linesL es).length) := Lib.hid (by
        have h1 := take_len lineL es (k + 1)
        rw [hsn, List.length_append] at h1
        have h2 : (lineL x).length = (evL x.kind x.n x.m x.trace).length + 1 := by simp [lineL]
        unfold linesL
        omega)
      have HSN := Lib.hid hsn
      have HB3 := Lib.hid hb3
      have HX := Lib.hid hx
      obtain ⟨v0, e0⟩ : ∃ v, x.kind = v := ⟨_, rfl⟩
      obtain ⟨v1, e1⟩ : ∃ v, x.n = v := ⟨_, rfl⟩
      obtain ⟨v2, e2⟩ : ∃ v, x.m = v := ⟨_, rfl⟩
      have HS3 : Hid (∀ w4, Below w3.heap.size w3 w4 → IsB w1.heap.size w1.heap.size (linesL (es.take k)) w4 ∧ Below w1.heap.size w1 w4) := fun w4 h4 => by
        have h34 := bl_trans HB3.out HB3.out.size h4
        exact ⟨hib.out.keep h34, bl_trans hb.out hb.out.size h34⟩
      have HEV : Hid (evL x.kind x.n x.m x.trace = evL v0 v1 v2 x.trace) := by rw [e0, e1, e2]; exact rfl
      rw [HEV.out] at ct
      rw [e0] at hc1 r0 ct hw3
      rw [e1] at hc2 r1 ct hw3
      rw [e2] at hc3 r2 ct hw3
      clear e0 e1 e2 hse hd1 hd2 hd3 hb1 hx hsn hb3 hbw3 hbw
      go_wp2_with fail
      refine Calls.mono ct.out ?_
      rintro e w4 ⟨rfl, hb4⟩
      obtain ⟨hi4, hb4'⟩ := HS3.out w4 hb4
      have HI4 := Lib.hid hi4
      have HB4 := Lib.hid hb4'
      clear hb4 hi4 hb4'
      go_wp2_with fail
      refine Calls.mono (write_any w1.heap.size w1.heap.size (linesL (es.take k)) (strU (evL v0 v1 v2 x.trace)) w4 HI4.out (by have := HLE.out; have := HLN.out; rw [strU_size, ← HEV.out]; omega) HB4.out.size) ?_
      rintro e w5 ⟨rfl, hi5, hb5⟩
      rw [show (strU (evL v0 v1 v2 x.trace)).data.toList = evL v0 v1 v2 x.trace from by simp [strU]] at hi5
      have HI5 := Lib.hid hi5
      have HB5 := Lib.hid (HB4.out.trans hb5)
      clear hi5 hb5
      go_wp2_with fail
      refine Calls.mono (write_any w1.heap.size w1.heap.size (linesL (es.take k) ++ evL v0 v1 v2 x.trace) ⟨#[10]⟩ w5 HI5.out (by have := HLE.out; have := HLN.out; rw [List.length_append, ← HEV.out]; have : (⟨#[10]⟩ : ByteArray).size = 1 := rfl; omega) HB5.out.size) ?_
      rintro e w6 ⟨rfl, hi6, hb6⟩
      have HI6 : Hid (IsB w1.heap.size w1.heap.size (linesL (es.take (k + 1))) w6) := by
        show IsB _ _ _ _
        unfold linesL
        rw [HSN.out]
        unfold lineL
        rw [← List.append_assoc, HEV.out]
        exact hi6
      have HB6 := Lib.hid (HB5.out.trans hb6)
      clear hi6 hb6
      go_wp2_with fail
      go_roundw
      case rel => exact ⟨k + 1, by omega, by go_num, HI6.out, HB6.out⟩
      case measure => simp [intOf]; omega
    · have hkn : k = n0 := by omega
      subst hkn
      have e : es.take k = es := List.take_of_length_le (by rw [HLn.out]; omega)
      rw [e] at hib
      clear e
      have p0 := (hb.out.cell (p := ⟨w.heap.size, 0, none⟩) (by rw [HZ1.out]; simp)).trans q0
      have p1 := (hb.out.cell (p := ⟨w.heap.size, 1, none⟩) (by rw [HZ1.out]; simp)).trans q1
      have p2 := (hb.out.cell (p := ⟨w.heap.size, 2, none⟩) (by rw [HZ1.out]; simp)).trans q2
      have p3 := (hb.out.cell (p := ⟨w.heap.size, 3, none⟩) (by rw [HZ1.out]; simp)).trans q3
      have p4 := (hb.out.cell (p := ⟨w.heap.size, 4, none⟩) (by rw [HZ1.out]; simp)).trans q4
      clear q0 q1 q2 q3 q4 hw1 hbw
      have KE := ke wr HW.out
      clear ke
      go_wp2_with fail
      refine Calls.mono KE.out ?_
      rintro e w4 ⟨rfl, hb4⟩
      have HI4 := Lib.hid (hib.out.keep hb4)
      have HB4 := Lib.hid (bl_trans hb.out hb.out.size hb4)
      clear hb4
      by_cases hem : E = []
      · have hT : T = [] := by rw [← HT.out, hem]; rfl
        have t0 : (!(strU E).toList.isEmpty) = false := by rw [hem, toList_strU]; rfl
        subst hT
        clear hem
        go_wp2_with fail
        refine Calls.mono (string_any w1.heap.size w1.heap.size (linesL es) w4 HI4.out HB4.out.size) ?_
        rintro e w5 ⟨rfl, hb5⟩
        have X := Lib.hid ((HB1.out.trans ((HB4.out.trans hb5).mono HB1.out.size)))
        clear hb5
        go_wp2_with fail
        go_ret
        exact ⟨by rw [List.append_nil]; rfl, X.out⟩
      · have hT : T = E ++ [10] := by rw [← HT.out]; unfold tailL; rw [if_neg hem]
        have t0 : (!(strU E).toList.isEmpty) = true := by
          rw [toList_strU]
          cases E with
          | nil => exact absurd rfl hem
          | cons a l => rfl
        subst hT
        clear hem HT
        have HL2 : Hid ((linesL es).length + (E.length + 1) ≤ 140737488355328) := Lib.hid (by have := HLN.out; simpa using this)
        go_wp2_with fail
        refine Calls.mono (write_any w1.heap.size w1.heap.size (linesL es) (strU E) w4 HI4.out (by have := HL2.out; rw [strU_size]; omega) HB4.out.size) ?_
        rintro e w5 ⟨rfl, hi5, hb5⟩
        rw [show (strU E).data.toList = E from by simp [strU]] at hi5
        have HI5 := Lib.hid hi5
        have HB5 := Lib.hid (HB4.out.trans hb5)
        clear hi5 hb5
        go_wp2_with fail
        refine Calls.mono (write_any w1.heap.size w1.heap.size (linesL es ++ E) ⟨#[10]⟩ w5 HI5.out (by have := HL2.out; rw [List.length_append]; have : (⟨#[10]⟩ : ByteArray).size = 1 := rfl; omega) HB5.out.size) ?_
        rintro e w6 ⟨rfl, hi6, hb6⟩
        have HI6 := Lib.hid hi6
        have HB6 := Lib.hid (HB5.out.trans hb6)
        clear hi6 hb6
        go_wp2_with fail
        refine Calls.mono (string_any w1.heap.size w1.heap.size (linesL es ++ E ++ [10]) w6 HI6.out HB6.out.size) ?_
        rintro e w7 ⟨rfl, hb7⟩
        have X := Lib.hid ((HB1.out.trans ((HB6.out.trans hb7).mono HB1.out.size)))
        clear hb7
        go_wp2_with fail
        go_ret
        exact ⟨by rw [← List.append_assoc]; rfl, X.out⟩
end Go.Proofs.Ytpladpmkpchndaa
