/-
  Graphs of programs: the sites that call a function; the program's and the document's.
-/
import Derived.Test.YtjblfdnhmmlbfaaGs2
namespace Go.Proofs.Ytjblfdnhmmlbfaa
open Go.RowKit
set_option linter.unusedSimpArgs false
set_option linter.unusedVariables false
theorem sites_len (codes : List (List DInstr)) (f : Int) (hS : ∀ C ∈ codes, C.length ≤ 150) : (sitesM codes f).length ≤ 150 := by
  unfold sitesM
  split
  · unfold sitesUpto
    rw [List.length_map]
    refine Nat.le_trans (List.length_filter_le _ _) ?_
    rw [List.length_range]
    cases h : codes[f.toNat]? with
    | none => simp
    | some C => simpa using hS C (List.mem_of_getElem? h)
  · simp
def hitB (codes : List (List DInstr)) (f : Int) (g : Nat) (pc : Int) : Bool := (targetM codes (g : Int) pc).1 == f
def callersOf (codes : List (List DInstr)) (f : Int) (g : Nat) (l : List Int) : List (Int × Int) := (l.filter (hitB codes f g)).map fun pc => ((g : Int), pc)
def callersUpto (codes : List (List DInstr)) (f : Int) (n : Nat) : List (Int × Int) := (List.range n).flatMap fun g : Nat => callersOf codes f g (sitesM codes (g : Int))
theorem callers_succ (codes : List (List DInstr)) (f : Int) (n : Nat) : callersUpto codes f (n + 1) = callersUpto codes f n ++ callersOf codes f n (sitesM codes (n : Int)) := by
  unfold callersUpto
  rw [List.range_succ, List.flatMap_append]
  simp
theorem callersOf_yes {codes : List (List DInstr)} {f : Int} {g k : Nat} {l : List Int} {x : Int} (hx : l[k]? = some x) (h : ((targetM codes (g : Int) x).1 == f) = true) : callersOf codes f g (l.take k) ++ [((g : Int), x)] = callersOf codes f g (l.take (k + 1)) := by
  unfold callersOf
  rw [← take_snoc' l k x hx, List.filter_append, List.map_append]
  simp [hitB, h]
theorem callersOf_no {codes : List (List DInstr)} {f : Int} {g k : Nat} {l : List Int} {x : Int} (hx : l[k]? = some x) (h : ((targetM codes (g : Int) x).1 == f) = false) : callersOf codes f g (l.take k) = callersOf codes f g (l.take (k + 1)) := by
  unfold callersOf
  rw [← take_snoc' l k x hx, List.filter_append, List.map_append]
  simp [hitB, h]
def cellsP (x : Int × Int) : List Value := [.int .i64 x.1, .int .i64 x.2]
def rowS (l : List (Int × Int)) : List Value := l.flatMap cellsP
theorem info_site : (Try.prog.info? 47).map (fun i => (i.zero, i.size, i.bytes)) = some (some (.agg #[.int .i64 0, .int .i64 0]), 2, 16) := by kernel_rfl
/-- What stands while the callers are gathered. -/
structure CalW (w1 : World) (A : Option Addr) (m c : Nat) (l : List (Int × Int)) (W : World) : Prop where
  own : W.ownsRow w1.heap.size 47 2 (.slice A m c) m (rowS l)
  bw : Below w1.heap.size w1 W
theorem CalW.on {w1 : World} {A : Option Addr} {m c : Nat} {l : List (Int × Int)} {W W' : World} (h : CalW w1 A m c l W) (hb : Below W.heap.size W W') : CalW w1 A m c l W' :=
  ⟨own_keep h.own hb, h.bw.trans (hb.mono h.bw.size)⟩
/-- And while one function's sites are read. -/
structure CalR (w1 : World) (A : Option Addr) (m c : Nat) (l : List (Int × Int)) (A2 : Option Addr) (m2 c2 : Nat) (L : List Int) (W : World) : Prop where
  cal : CalW w1 A m c l W
  row : W.ownsRow w1.heap.size 3 1 (.slice A2 m2 c2) m2 (rowI L)
  apart : ∀ k, (Value.slice A2 m2 c2).ownBlock = some k → (Value.slice A m c).ownBlock ≠ some k
theorem CalR.on {w1 : World} {A : Option Addr} {m c : Nat} {l : List (Int × Int)} {A2 : Option Addr} {m2 c2 : Nat} {L : List Int} {W W' : World} (h : CalR w1 A m c l A2 m2 c2 L W) (hb : Below W.heap.size W W') : CalR w1 A m c l A2 m2 c2 L W' :=
  ⟨h.cal.on hb, own_keep h.row hb, h.apart⟩
theorem CalR.start {w1 : World} {A : Option Addr} {m c : Nat} {l : List (Int × Int)} {W W' : World} (h : CalW w1 A m c l W) {A2 : Option Addr} {m2 c2 : Nat} {L : List Int} (hr : W'.ownsRow W.heap.size 3 1 (.slice A2 m2 c2) m2 (rowI L)) (hb : Below W.heap.size W W') : CalR w1 A m c l A2 m2 c2 L W' :=
  ⟨h.on hb, own_less hr h.bw.size, fun k hk e => by
    have h1 := (h.own.lt _ e).2
    have h2 := (hr.lt _ hk).1
    omega⟩
theorem CalR.snoc {w1 : World} {A : Option Addr} {m c : Nat} {l : List (Int × Int)} {A2 : Option Addr} {m2 c2 : Nat} {L : List Int} {W w4 : World} (h : CalR w1 A m c l A2 m2 c2 L W) {x y : Int} {v' : Value} {o : Obj}
    (hown' : w4.ownsRow w1.heap.size 47 2 v' (m + 1) (rowS l ++ [.int .i64 x, .int .i64 y])) (hgrow : (W.alloc o).grownBy w4 (Value.slice A m c).ownBlock)
    (hat : v'.ownBlock = (Value.slice A m c).ownBlock ∨ v'.ownBlock = some (W.alloc o).heap.size) :
    ∃ A' c', v' = .slice A' (m + 1) c' ∧ CalR w1 A' (m + 1) c' (l ++ [(x, y)]) A2 m2 c2 L w4 := by
  have e : rowS l ++ [.int .i64 x, .int .i64 y] = rowS (l ++ [(x, y)]) := by simp [rowS, cellsP]
  rw [e] at hown'
  obtain ⟨A', c', hv, _⟩ := own_form hown'
  subst hv
  have hsz := h.cal.bw.size
  have h3 : Below w1.heap.size w1 w4 := Below.grown (h.cal.bw.alloc hsz _) hgrow (by simp; omega) (fun j hj => (h.cal.own.lt _ hj).1)
  have hk : Kp (fun k => (Value.slice A m c).ownBlock = some k) W w4 := ((Kp.refl _ W).alloc o).ofGrown hgrow fun k hk _ => hk
  refine ⟨A', c', rfl, ⟨hown', h3⟩, hk.own h.row fun k hk => h.apart k hk, fun k hk => ?_⟩
  have := (h.row.lt _ hk).2
  rcases hat with e | e
  · rw [e]; exact h.apart k hk
  · rw [e]
    simp
    omega
def IsCal (l : List (Int × Int)) (w : World) (e : Ending) (w' : World) : Prop := ∃ A m c, e = .returned (.slice A m c) ∧ m ≤ 7500 ∧ w'.ownsRow w.heap.size 47 2 (.slice A m c) m (rowS l) ∧ Below w.heap.size w w'

set_option maxRecDepth 100000 in
set_option maxHeartbeats 8000000 in
theorem callers_any (B : Nat) (FA : Option Addr) (fn fc : Nat) (codes : List (List DInstr)) (f : Int) (w : World) (h : PgW w B FA fn fc codes) (hB : B ≤ w.heap.size) (hfn : fn ≤ 50) (hS : ∀ C ∈ codes, C.length ≤ 150) :
    Calls Try.prog 18 #[.agg #[.slice FA fn fc], .int .i64 f] w (IsCal (callersUpto codes f fn) w) := by
  obtain ⟨i0, hi, hz0, hz1, hz2⟩ := info_parts info_site
  obtain ⟨w1, hw1⟩ : ∃ X, w.alloc (.cells #[.slice FA fn fc] 24) = X := ⟨_, rfl⟩
  obtain ⟨g, hg⟩ : ∃ g, w.heap.size = g := ⟨_, rfl⟩
  have hb1 : Below g w w1 := by rw [← hw1, ← hg]; exact bl_one _
  have EQ : Hid (∀ W, Below w1.heap.size w1 W → W.cell? ⟨g, 0, none⟩ = some (.slice FA fn fc)) := Lib.hid fun W hW => (hW.cell (p := ⟨g, 0, none⟩) (by rw [← hw1]; simp; omega)).trans (by rw [← hw1, ← hg]; exact (Cells.new w [.slice FA fn fc] _).at_ 0 _ rfl)
  have HP : Hid (∀ W, Below w1.heap.size w1 W → PgW W B FA fn fc codes) := Lib.hid fun W hW => (h.keep (hb1.mono (by omega))).keep (hW.mono (by have := hb1.size; omega))
  have HB1 := Lib.hid hb1
  have HBg : Hid (B ≤ w1.heap.size) := Lib.hid (by have := hb1.size; omega)
  have hgE : Hid (w.heap.size = g) := Lib.hid hg
  have hSL : Hid (∀ i : Int, (sitesM codes i).length ≤ 150) := Lib.hid fun i => sites_len codes i hS
  have q0 := EQ.out w1 (Below.refl _ _)
  clear h hB hS hb1
  go_enter Try.func18, Try.ntmps18
  go_wp2_with fail
  clear q0 hw1
  go_loopw [5, 15] (fun o i' wr => ∃ (k m : Nat) (A1 : Option Addr) (c1 : Nat), o = .slice A1 m c1 ∧ i' = .int .i64 k ∧ k ≤ fn ∧ m ≤ 150 * k ∧ Hid (CalW w1 A1 m c1 (callersUpto codes f k) wr)) (fun _ i' _ => fn - (intOf i').toNat)
  case atStart => exact ⟨0, 0, none, 0, rfl, rfl, Nat.zero_le _, Nat.le_refl _, Lib.hid ⟨⟨rfl, .inl ⟨rfl, rfl⟩⟩, Below.refl _ _⟩⟩
  case round =>
    obtain ⟨k, m, A1, c1, rfl, rfl, hk, hm, HC⟩ := hrel
    have q0 := EQ.out wr HC.out.bw
    have hk0 : (0 : Int) ≤ (k : Int) := by omega
    have hkb : (k : Int) ≤ 50 := by omega
    by_cases hlt : k < fn
    · have hkn : (k : Int) < (fn : Int) := by omega
      have cS := Lib.hid (sites_any B FA fn fc codes (k : Int) wr (HP.out wr HC.out.bw) (by have := HC.out.bw.size; have := HBg.out; omega))
      go_wp2_with fail
      refine cS.out.mono ?_
      rintro e w3 ⟨A2, m2, c2, rfl, hmb, ho2, hb3⟩
      have HC3 := Lib.hid (CalR.start HC.out ho2 hb3)
      have hm2 : m2 ≤ 150 := by
        have h1 := ho2.1
        have h2 := hSL.out (k : Int)
        unfold rowI at h1
        rw [List.length_map] at h1
        omega
      have HE : Hid (callersUpto codes f (k + 1) = callersUpto codes f k ++ callersOf codes f k (sitesM codes (k : Int))) := Lib.hid (callers_succ codes f k)
      obtain ⟨L, hL⟩ : ∃ L, sitesM codes (k : Int) = L := ⟨_, rfl⟩
      rw [hL] at HC3 HE
      clear cS hb3 ho2 hmb hL q0
      go_wp2_with fail
      go_loopw [5, 22] (fun o i' wr => ∃ (j m : Nat) (A1 : Option Addr) (c1 : Nat), o = .slice A1 m c1 ∧ i' = .int .i64 j ∧ j ≤ m2 ∧ m ≤ 150 * k + j ∧ Hid (CalR w1 A1 m c1 (callersUpto codes f k ++ callersOf codes f k (L.take j)) A2 m2 c2 L wr)) (fun _ i' _ => m2 - (intOf i').toNat)
      case atStart => exact ⟨0, m, A1, c1, rfl, rfl, Nat.zero_le _, hm, Lib.hid (by simpa [callersOf] using HC3.out)⟩
      case round =>
        clear HC3 HC

        obtain ⟨j, m, A1, c1, rfl, rfl, hj, hm, HC⟩ := hrel
        have hj0 : (0 : Int) ≤ (j : Int) := by omega
        have hjb : (j : Int) ≤ 150 := by omega
        by_cases hlt : j < m2
        · have hjn : (j : Int) < (m2 : Int) := by omega
          obtain ⟨b2, off2, x, rfl, hb2, hx, hcx⟩ := SlR.cell1 (f := Value.int .i64) (SlI.own HC.out.row (by omega)) hlt
          have HY : Hid (((targetM codes (k : Int) x).1 == f) = true → callersOf codes f k (L.take j) ++ [((k : Int), x)] = callersOf codes f k (L.take (j + 1))) := Lib.hid (callersOf_yes hx)
          have HN : Hid (((targetM codes (k : Int) x).1 == f) = false → callersOf codes f k (L.take j) = callersOf codes f k (L.take (j + 1))) := Lib.hid (callersOf_no hx)
          have hcx2 := hcx
          obtain ⟨wa, hwa⟩ : ∃ X, wr.alloc (.cells #[.int .i64 (k : Int), .int .i64 x] 47) = X := ⟨_, rfl⟩
          obtain ⟨ga, hga⟩ : ∃ X, wr.heap.size = X := ⟨_, rfl⟩
          have hba : Below wr.heap.size wr wa := by rw [← hwa]; exact bl_one _
          have hca : Cells wa ga [.int .i64 (k : Int), .int .i64 x] := by rw [← hwa, ← hga]; exact Cells.new wr [.int .i64 (k : Int), .int .i64 x] _
          have HCA : Hid (CalR w1 A1 m c1 (callersUpto codes f k ++ callersOf codes f k (L.take j)) (some ⟨b2, off2, none⟩) m2 c2 L wa) := Lib.hid (HC.out.on hba)
          have q0 := EQ.out wr HC.out.cal.bw
          have q1 := EQ.out wa HCA.out.cal.bw
          have q2 := hca.at_ 0 _ rfl
          have q3 := hca.at_ 1 _ rfl
          have QA : Hid (∀ W, Below wa.heap.size wa W → W.cell? ⟨ga, 0, none⟩ = some (.int .i64 (k : Int)) ∧ W.cell? ⟨ga, 1, none⟩ = some (.int .i64 x)) := Lib.hid fun W hW => ⟨(hca.on hW).at_ 0 _ rfl, (hca.on hW).at_ 1 _ rfl⟩
          have cT := Lib.hid (target_any B FA fn fc codes (k : Int) x wa (HP.out wa HCA.out.cal.bw) (by have := HCA.out.cal.bw.size; have := HBg.out; omega))
          obtain ⟨r, hr⟩ : ∃ r, targetM codes (k : Int) x = r := ⟨_, rfl⟩
          rw [hr] at cT HY HN
          obtain ⟨r1, r2⟩ := r
          dsimp only at HY HN
          have hsE : Hid (wa.heap.size = ga + 1) := Lib.hid (by rw [← hwa, ← hga]; simp)
          clear hr hx hb2 hcx hba hca HC
          go_wp2_with fail
          refine cT.out.mono ?_
          rintro e w5 ⟨rfl, hb5⟩
          have HC5 : Hid (CalR w1 A1 m c1 (callersUpto codes f k ++ callersOf codes f k (L.take j)) (some ⟨b2, off2, none⟩) m2 c2 L w5) := Lib.hid (HCA.out.on hb5)
          obtain ⟨q2, q3⟩ := QA.out w5 hb5
          have q1 := EQ.out w5 HC5.out.cal.bw
          have hzs : Hid (w1.heap.size ≤ w5.heap.size) := Lib.hid HC5.out.cal.bw.size
          clear cT hb5 hcx2 q0 HCA
          have hsrc := Lib.hid (row_src w5 #[.int .i64 (k : Int), .int .i64 x] 47 2 rfl)
          have hone : Hid (∀ u ∈ [Value.int .i64 (k : Int), .int .i64 x], u.oneCell' = true) := Lib.hid (by intro u hu; simp at hu; rcases hu with rfl | rfl <;> rfl)
          by_cases ht : (r1 == f) = true
          · have HE2 := Lib.hid (HY.out ht)
            clear HY HN
            go_wp2_with (first
              | (at_builtin; go_must (refine wpList_append_src _ rfl _ _ 48 rfl w1.heap.size 47 i0 (.agg #[.int .i64 0, .int .i64 0]) 2 16 Try.underlying48 hi hz0 hz1 hz2 rfl (by decide) _ _ _ rfl (HC5.out.cal.own.alloc _) (some ⟨w5.heap.size, 0, none⟩) 1 1 [.int .i64 (k : Int), .int .i64 x] rfl hsrc.out hone.out (by unfold maxLen; omega) (by omega) (by have := hzs.out; simp; omega) ?_)
                 intro v' w6 hown' hgrow3 hat3
                 obtain ⟨A', c', rfl, X1⟩ := HC5.out.snoc hown' hgrow3 hat3
                 have XR := Lib.hid X1
                 clear X1 hown' hgrow3 hat3)
              | fail)
            go_roundw
            case rel => exact ⟨j + 1, m + 1, A', c', rfl, by go_num, by omega, by omega, Lib.hid (by rw [← HE2.out, ← List.append_assoc]; exact XR.out)⟩
            case measure => simp [intOf]; omega
          · have ht' : (r1 == f) = false := by simpa using ht
            have HE2 := Lib.hid (HN.out ht')
            clear ht HY HN
            go_wp2_with fail
            go_roundw
            case rel => exact ⟨j + 1, m, A1, c1, rfl, by go_num, by omega, by omega, Lib.hid (by rw [← HE2.out]; exact HC5.out)⟩
            case measure => simp [intOf]; omega
        · obtain rfl : j = m2 := by omega
          have HR : Hid (CalW w1 A1 m c1 (callersUpto codes f (k + 1)) wr) := Lib.hid (by
            have h1 := HC.out.row.1
            unfold rowI at h1
            rw [List.length_map] at h1
            have h2 := HC.out.cal
            rw [List.take_of_length_le (by omega), ← HE.out] at h2
            exact h2)
          clear HE HC
          go_wp2_with fail
          go_roundw
          case rel => exact ⟨k + 1, m, A1, c1, rfl, by go_num, by omega, by omega, HR⟩
          case measure => simp [intOf]; omega
    · obtain rfl : k = fn := by omega
      go_wp2_with fail
      go_ret
      exact ⟨A1, m, c1, rfl, by omega, own_less HC.out.own (by have := HB1.out.size; have := hgE.out; omega), by rw [hgE.out]; exact HB1.out.trans (HC.out.bw.mono (by have := HB1.out.size; have := hgE.out; omega))⟩

end Go.Proofs.Ytjblfdnhmmlbfaa
