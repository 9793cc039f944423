import Derived.Test.YtobmjnmcjddhcaaGreatRg2
import Derived.Test.YtobmjnmcjddhcaaGreatRg37
set_option linter.unusedSimpArgs false
set_option linter.unusedVariables false
namespace Go.Proofs.YtobmjnmcjddhcaaGreat
section
set_option maxRecDepth 100000
set_option maxHeartbeats 8000000
open Go.RowKit
attribute [local go_sem] run_store_cplx
variable {K : RK} {τ : Nat → Tag} {w : World} {s : Ms}
theorem info_vz : (Tryz.prog.info? 43).map (fun i => (i.zero, i.size, i.bytes)) = some (some (.agg #[.int .i64 0, .int .i64 0, .complex .f64 0 0]), 3, 32) := by kernel_rfl
theorem one_vz (k n : Int) (x y : Nat) : ∀ u ∈ [Value.int .i64 k, .int .i64 n, .complex .f64 x y], u.oneCell' = true := by
 intro u hu
 simp at hu
 rcases hu with rfl | rfl | rfl <;> rfl
def argL (K : RK) (k : Nat) : List DV := (List.range k).map fun i => numV (K.ags.getD i 0)
theorem argL_succ (K : RK) (k : Nat) : argL K (k + 1) = argL K k ++ [numV (K.ags.getD k 0)] := by unfold argL; rw [List.range_succ, List.map_append]; rfl
def IsArgs (K : RK) (w : World) (np : Nat) (e : Ending) (w' : World) : Prop := ∃ A c, e = .returned (.slice A np c) ∧ w'.ownsRow w.heap.size 43 3 (.slice A np c) np (rowVl (argL K np)) ∧ Below w.heap.size w w'
theorem args_any (hG : KG K) (h : VM K τ w [] s) (hE : Env K τ w) : Calls Tryz.prog 76 #[ptrV K.m] w (IsArgs K w (fnOf K.fs 0).params.length) := by
 obtain ⟨PA, pn, pc, EA, en, ec, evs, hv⟩ := h
 obtain ⟨i0, hi, hz0, hz1, hz2⟩ := info_parts info_vz
 have h0 : 0 < K.fn := by have h1 := hG.hf.one; have h2 := hG.pg.pg.len; omega
 obtain ⟨bk, off, s9, b9, A0, n0, c0, A1, n1, c1, A2, n2, c2, A3, n3, c3, A4, n4, c4, A5, n5, c5, A6, n6, c6, A7, n7, c7, A8, n8, c8, xq, hFA, hbk, hxq, hcf, hfw, hcan⟩ := hG.pg.get h0
 obtain rfl := fnOf_of hxq
 have hn1 : (fnOf K.fs 0).params.length = n1 := hfw.r1.1
 have hn300 : n1 ≤ 300 := by have := hfw.sm; omega
 obtain ⟨m, hkm⟩ : ∃ m, K.m = m := ⟨_, rfl⟩
 obtain ⟨kn, hkn⟩ : ∃ kn, K.fn = kn := ⟨_, rfl⟩
 obtain ⟨kc, hkc⟩ : ∃ kc, K.fc = kc := ⟨_, rfl⟩
 obtain ⟨an, han⟩ : ∃ kn, K.an = kn := ⟨_, rfl⟩
 obtain ⟨ac, hac⟩ : ∃ kc, K.ac = kc := ⟨_, rfl⟩
 obtain ⟨AA, hAA⟩ : ∃ kc, K.AA = kc := ⟨_, rfl⟩
 have d0 := hv.c0
 have d1 := hv.c1
 rw [hFA, hkm, hkn, hkc] at d0
 rw [hkm, hAA, han, hac] at d1
 have hml : m < w.heap.size := by rw [← hkm]; exact hv.lt
 have dq : w.cell? ⟨bk, off + 3, none⟩ = some (.slice A1 n1 c1) := by
  have := (hE.b0.cell (p := ⟨bk, off + 0 * 11 + 3, none⟩) hbk).trans (hcf 3 _ rfl)
  simpa using this
 have hbkl : bk < w.heap.size := Nat.lt_of_lt_of_le hbk hE.b0.size
 have HC : Hid (∀ W, Below w.heap.size w W → W.cell? ⟨m, 0, none⟩ = some (.slice (some ⟨bk, off, none⟩) kn kc) ∧ W.cell? ⟨m, 1, none⟩ = some (.slice AA an ac) ∧ W.cell? ⟨bk, off + 3, none⟩ = some (.slice A1 n1 c1)) := Hd fun W hW => ⟨(hW.cell (p := ⟨m, 0, none⟩) hml).trans d0, (hW.cell (p := ⟨m, 1, none⟩) hml).trans d1, (hW.cell (p := ⟨bk, off + 3, none⟩) hbkl).trans dq⟩
 have HA : Hid (∀ k, k < an → ∃ b o, AA = some ⟨b, o, none⟩ ∧ ∀ W, Below w.heap.size w W → W.cell? ⟨b, o + k, none⟩ = some (.int .i64 (K.ags.getD k 0))) := Hd fun k hk => by
  obtain ⟨b, o, e1, e2, e3⟩ := SlR.getD hG.ar (i := k) (by omega) 0
  exact ⟨b, o, hAA ▸ e1, fun W hW => (hW.cell (p := ⟨b, o + k, none⟩) (Nat.lt_of_lt_of_le e2 hE.b0.size)).trans ((hE.b0.cell (p := ⟨b, o + k, none⟩) e2).trans e3)⟩
 have HAL : Hid (∀ k, ¬ k < an → K.ags.getD k 0 = 0) := Hd fun k hk => by
  have := hG.ar.1
  rw [List.getD_eq_getElem?_getD, List.getElem?_eq_none (by omega)]
  rfl
 have hkn0 : 0 < kn := by omega
 have hkn0i : (0 : Int) < (kn : Int) := by omega
 have hn1i : (n1 : Int) ≤ 300 := by omega
 have han2 : an ≤ 200 := by have := hG.an; omega
 have hani : (an : Int) ≤ 200 := by omega
 rw [hn1, hkm]
 clear hv hE hG hFA hbk hxq hcf hfw hcan hn1 hkm hkn hkc han hac hAA hml hbkl h0
 go_in
 go_wp2_with fail
 go_loopw [3, 4, 5, 15] (fun ov _ _ iv wr => ∃ (k : Nat) (A : Option Addr) (c : Nat), ov = .slice A k c ∧ iv = .int .i64 (k : Int) ∧ k ≤ n1 ∧ Hid (wr.ownsRow w.heap.size 43 3 (.slice A k c) k (rowVl (argL K k)) ∧ Below w.heap.size w wr)) (fun _ _ _ iv _ => n1 - (intOf iv).toNat)
 case atStart => exact ⟨0, none, 0, rfl, rfl, Nat.zero_le _, Hd ⟨⟨rfl, .inl ⟨rfl, rfl⟩⟩, Below.refl _ _⟩⟩
 case round =>
  obtain ⟨k, A, c, rfl, rfl, hk, HK⟩ := hrel
  obtain ⟨r0, r1, r2⟩ := HC.out wr HK.out.2
  clear d0 d1 dq
  have hk0 : (0 : Int) ≤ (k : Int) := by omega
  by_cases hlt : k < n1
  ·have hlti : (k : Int) < (n1 : Int) := by omega
   have HKN := Hd hlt
   obtain ⟨v, hv⟩ : ∃ v, K.ags.getD k 0 = v := ⟨_, rfl⟩
   have HV := Hd hv
   by_cases hla : k < an
   ·have hlai : (k : Int) < (an : Int) := by omega
    obtain ⟨b, o, rfl, hcell⟩ := HA.out k hla
    have r3 := hcell wr HK.out.2
    rw [hv] at r3
    clear hcell hv
    go_wp2_with fail
    refine (num_any _ wr).mono ?_
    rintro e w3 ⟨rfl, hb3⟩
    have HB3 : Hid (Below w.heap.size w w3) := Hd (HK.out.2.trans (hb3.mono HK.out.2.size))
    have HO3 := Hd (own_keep HK.out.1 hb3)
    have hZ3 : Hid (w.heap.size ≤ w3.heap.size) := Hd HB3.out.size
    have hsrc : Hid (SrcCells (w3.alloc (.cells #[.int .i64 1, .int .i64 v, .complex .f64 0 0] 43)) (some ⟨w3.heap.size, 0, none⟩) 1 3 [.int .i64 1, .int .i64 v, .complex .f64 0 0]) := Hd (own_src (World.ownsRow_lit (base := w3.heap.size) (e := 43) (size := 3) w3 #[.int .i64 1, .int .i64 v, .complex .f64 0 0] 1 (Nat.le_refl _) (by unfold maxLen; omega) rfl))
    clear hb3 r0 r1 r2
    go_wp2_with (first
      | (at_builtin; go_must (refine wpList_append_src _ rfl _ _ 39 rfl w.heap.size 43 i0 (.agg #[.int .i64 0, .int .i64 0, .complex .f64 0 0]) 3 32 Tryz.underlying39 hi hz0 hz1 hz2 rfl (by decide) _ _ _ rfl (HO3.out.alloc _) (some ⟨w3.heap.size, 0, none⟩) 1 1 [.int .i64 1, .int .i64 v, .complex .f64 0 0] rfl hsrc.out (one_vz _ _ _ _) (by unfold maxLen; omega) (by omega) (by have := hZ3.out; simp; omega) ?_)
         intro v' w7 hown' hgrow3 hat3
         obtain ⟨A2, c2, rfl, _⟩ := own_form hown'
         have XR : Hid (w7.ownsRow w.heap.size 43 3 (.slice A2 (k + 1) c2) (k + 1) (rowVl (argL K (k + 1)))) := Hd (by rw [argL_succ, HV.out, rowVl, List.flatMap_append]; simpa [DV.c, numV] using hown')
         have XB : Hid (Below w.heap.size w w7) := Hd (Below.grown (HB3.out.alloc hZ3.out _) hgrow3 (by have := hZ3.out; simp; omega) (fun j hj => (HO3.out.lt _ hj).1))
         clear hown' hgrow3 hat3)
      | fail)
    go_roundw
    case rel => exact ⟨k + 1, A2, c2, rfl, by simp, by have := HKN.out; omega, Hd ⟨XR.out, XB.out⟩⟩
    case measure => first | (have := HKN.out; simp [intOf]; done) | (have := HKN.out; simp [intOf]; omega)
   ·have hlai : ¬ (k : Int) < (an : Int) := by omega
    have hv0 : v = 0 := by rw [← hv]; exact HAL.out k hla
    subst hv0
    have t9 : decide ((k : Int) < (an : Int)) = false := dcF hlai
    have t9b : decide (k < an) = false := dcF hla
    clear hv
    go_wp2_with fail
    refine (num_any _ wr).mono ?_
    rintro e w3 ⟨rfl, hb3⟩
    have HB3 : Hid (Below w.heap.size w w3) := Hd (HK.out.2.trans (hb3.mono HK.out.2.size))
    have HO3 := Hd (own_keep HK.out.1 hb3)
    have hZ3 : Hid (w.heap.size ≤ w3.heap.size) := Hd HB3.out.size
    have hsrc : Hid (SrcCells (w3.alloc (.cells #[.int .i64 1, .int .i64 0, .complex .f64 0 0] 43)) (some ⟨w3.heap.size, 0, none⟩) 1 3 [.int .i64 1, .int .i64 0, .complex .f64 0 0]) := Hd (own_src (World.ownsRow_lit (base := w3.heap.size) (e := 43) (size := 3) w3 #[.int .i64 1, .int .i64 0, .complex .f64 0 0] 1 (Nat.le_refl _) (by unfold maxLen; omega) rfl))
    clear hb3 r0 r1 r2
    go_wp2_with (first
      | (at_builtin; go_must (refine wpList_append_src _ rfl _ _ 39 rfl w.heap.size 43 i0 (.agg #[.int .i64 0, .int .i64 0, .complex .f64 0 0]) 3 32 Tryz.underlying39 hi hz0 hz1 hz2 rfl (by decide) _ _ _ rfl (HO3.out.alloc _) (some ⟨w3.heap.size, 0, none⟩) 1 1 [.int .i64 1, .int .i64 0, .complex .f64 0 0] rfl hsrc.out (one_vz _ _ _ _) (by unfold maxLen; omega) (by omega) (by have := hZ3.out; simp; omega) ?_)
         intro v' w7 hown' hgrow3 hat3
         obtain ⟨A2, c2, rfl, _⟩ := own_form hown'
         have XR : Hid (w7.ownsRow w.heap.size 43 3 (.slice A2 (k + 1) c2) (k + 1) (rowVl (argL K (k + 1)))) := Hd (by rw [argL_succ, HV.out, rowVl, List.flatMap_append]; simpa [DV.c, numV] using hown')
         have XB : Hid (Below w.heap.size w w7) := Hd (Below.grown (HB3.out.alloc hZ3.out _) hgrow3 (by have := hZ3.out; simp; omega) (fun j hj => (HO3.out.lt _ hj).1))
         clear hown' hgrow3 hat3)
      | fail)
    go_roundw
    case rel => exact ⟨k + 1, A2, c2, rfl, by simp, by have := HKN.out; omega, Hd ⟨XR.out, XB.out⟩⟩
    case measure => first | (have := HKN.out; simp [intOf]; done) | (have := HKN.out; simp [intOf]; omega)
  ·obtain rfl : k = n1 := by omega
   go_wp2_with fail
   go_ret
   exact ⟨A, c, rfl, HK.out.1, HK.out.2⟩
end
section
set_option maxRecDepth 100000
set_option maxHeartbeats 8000000
open Go.RowKit
attribute [local go_sem] run_store_cplx
variable {K : RK} {τ τ' : Nat → Tag} {w w' : World} {s t u : Ms}
structure FinM (K : RK) (τ : Nat → Tag) (w : World) (u : Ms) (ek : Int) (rl : List Int) (ch : List Bl) : Prop where
 ex : ∃ EA en ec evs RA rn rc CA cn cc, w.cell? ⟨K.m, 6, none⟩ = some (.slice EA en ec) ∧ w.cell? ⟨K.m, 7, none⟩ = some (.int .i64 ek) ∧ w.cell? ⟨K.m, 8, none⟩ = some (.slice RA rn rc) ∧ w.cell? ⟨K.m, 9, none⟩ = some (.slice CA cn cc) ∧ w.cell? ⟨K.m, 10, none⟩ = some (.int .i64 (u.steps : Int)) ∧
  RowF w (K.m + 1) 116 4 EA en ec (rowE evs) ∧ (∀ e ∈ evs, Im τ w e.A e.l 2 (rowEn e.tr)) ∧ evs.map EvV.ab = u.evs ∧ SlI w w.heap.size RA rn rc rl ∧ ChZ τ w CA cn cc ch ∧ (RA = none ∨ ∃ j, RA = some ⟨j, 0, none⟩ ∧ K.m < j)
 fz : ∀ i, w.frozen? ⟨K.m, i, none⟩ = false
def FinU (K : RK) (τ : Nat → Tag) (w : World) (u : Ms) : Prop := (u.fin = none ∧ FinM K τ w u 3 [] []) ∨ (∃ rs, u.fin = some (.done rs) ∧ FinM K τ w u 1 rs []) ∨ ∃ c, u.fin = some (.crash c) ∧ FinM K τ w u 2 [] c
def AllP (K : RK) (τ : Nat → Tag) (w : World) (e : Ending) (w' : World) : Prop := (e = .panicked dryE ∧ ∃ τ' t, Tr (TT 1) τ w τ' w' ∧ Env K τ' w' ∧ VM K τ' w' [] t ∧ EndsAt K.fs K.ds K.ags K.fuel t ∧ t.fin = none) ∨ ((∃ v, e = .returned v) ∧ ∃ τ' u, Tr (TT 1) τ w τ' w' ∧ Env K τ' w' ∧ EndsAt K.fs K.ds K.ags K.fuel u ∧ FinU K τ' w' u)
theorem do_fin (fs : List DFunc) (ds : List Int) (s : Ms) : (doM fs ds s).fin = s.fin := by
 have key : ∀ (p : Prop) [Decidable p] (a b : Ms), a.fin = s.fin → b.fin = s.fin → (if p then a else b).fin = s.fin := fun p _ a b ha hb => by split <;> assumption
 unfold doM
 split
 ·rfl
 ·dsimp only
  repeat' (refine key _ _ _ ?_ ?_)
  all_goals first
   | rfl
   | (unfold reckM; split <;> rfl)
theorem end_fin (fs : List DFunc) (s : Ms) (h : s.fin = none) : (endM fs s).fr ≠ [] → (endM fs s).fin = none := by
 unfold endM
 split
 ·exact fun _ => h
 ·split
  ·exact fun _ => h
  ·split
   ·exact fun _ => h
   ·split
    ·unfold fallM
     split
     ·exact fun h' => absurd rfl h'
     ·exact fun _ => h
    ·unfold goneM
     split
     ·exact fun _ => h
     ·split
      ·exact fun h' => absurd rfl h'
      ·exact fun _ => h
theorem reach_fin {fs : List DFunc} {ds : List Int} {f : Nat} {s t : Ms} (r : Reach fs ds f s t) (h : s.fin = none) : t.fr ≠ [] → t.fin = none := by
 induction r with
 | refl => exact fun _ => h
 | tail r e ih =>
  rcases step_cases e with ⟨x, r', e1, e2, e3, rfl⟩ | ⟨x, r', e1, e2, rfl⟩
  ·exact fun _ => (do_fin _ _ _).trans (ih (by rw [e1]; simp))
  ·exact end_fin _ _ (ih (by rw [e1]; simp))
theorem end_last {x : Fr} (hf : t.fr = [x]) (hc : x.cs = []) (hd : x.dfd = false) : (x.mode = 1 → endM K.fs t = { t with fr := [], fin := some (.done ((resultsM K.fs x).map DV.n)) }) ∧ (x.mode = 2 → openB x.ch = true → endM K.fs t = { t with fr := [], fin := some (.crash x.ch) }) := by
 refine ⟨fun hm => ?_, fun hm ho => ?_⟩
 ·unfold endM
  rw [hf]
  dsimp only
  rw [if_neg (by simp [hm]), hc]
  dsimp only [List.getLast?]
  rw [if_neg (by rw [hm]; decide)]
  unfold goneM
  rw [if_neg (by rw [hd]; decide)]
 ·unfold endM
  rw [hf]
  dsimp only
  rw [if_neg (by simp [ho]), hc]
  dsimp only [List.getLast?]
  rw [if_pos hm]
  rfl
theorem info_intZ : (Tryz.prog.info? 3).map (fun i => (i.zero, i.size, i.bytes)) = some (some (.int .i64 0), 1, 8) := by kernel_rfl
theorem src_intZ (W : World) (v : Int) : SrcCells (W.alloc (.cells #[.int .i64 v] 3)) (some ⟨W.heap.size, 0, none⟩) 1 1 [.int .i64 v] :=
 own_src (World.ownsRow_lit (base := W.heap.size) (e := 3) (size := 1) W #[.int .i64 v] 1 (Nat.le_refl _) (by unfold maxLen; omega) rfl)
theorem one_intZ (v : Int) : ∀ u ∈ [Value.int .i64 v], u.oneCell' = true := by
 intro u hu
 simp at hu
 subst hu
 rfl
def ResR (m B : Nat) (ints : List Int) (w3 : World) (k : Nat) (wr : World) : Prop := ∃ RB rb, wr.cell? ⟨m, 8, none⟩ = some (.slice RB k rb) ∧ wr.ownsRow B 3 1 (.slice RB k rb) k ((ints.take k).map (Value.int .i64)) ∧ Kp (fun j => j = m ∨ B ≤ j) w3 wr ∧ (∀ i, i ≠ 8 → wr.cell? ⟨m, i, none⟩ = w3.cell? ⟨m, i, none⟩) ∧ ∀ i, wr.frozen? ⟨m, i, none⟩ = w3.frozen? ⟨m, i, none⟩
theorem FinM.of {gs : List Nat} {PA : Option Addr} {pn pc : Nat} {EA : Option Addr} {en ec : Nat} {evs : List EvV} {RA CA : Option Addr} {rn rc cn cc : Nat} {ek : Int} {rl : List Int} {ch : List Bl} (h : VMr K τ w gs t PA pn pc EA en ec evs) (hk : Kp (fun j => j = K.m ∨ w.heap.size ≤ j) w w') (he : ∀ j, j < w.heap.size → τ' j = τ j)
  (c6 : w'.cell? ⟨K.m, 6, none⟩ = w.cell? ⟨K.m, 6, none⟩) (c10 : w'.cell? ⟨K.m, 10, none⟩ = w.cell? ⟨K.m, 10, none⟩) (c7 : w'.cell? ⟨K.m, 7, none⟩ = some (.int .i64 ek)) (c8 : w'.cell? ⟨K.m, 8, none⟩ = some (.slice RA rn rc)) (c9 : w'.cell? ⟨K.m, 9, none⟩ = some (.slice CA cn cc)) (hf : ∀ i, w'.frozen? ⟨K.m, i, none⟩ = w.frozen? ⟨K.m, i, none⟩) (hr : SlI w' w'.heap.size RA rn rc rl) (hc : ChZ τ' w' CA cn cc ch) (hRA : RA = none ∨ ∃ j, RA = some ⟨j, 0, none⟩ ∧ K.m < j) (e1 : u.steps = t.steps) (e2 : u.evs = t.evs) : FinM K τ' w' u ek rl ch :=
 ⟨⟨EA, en, ec, evs, RA, rn, rc, CA, cn, cc, c6.trans h.c6, c7, c8, c9, by rw [e1]; exact c10.trans h.c10, RowF.kp h.r6 hk (fun j e hj => by have := row_ge h.r6 e; omega), fun q hq => (h.tr q hq).re he hk (fun j hl hj => by
  rcases hj with rfl | hj
  ·rw [h.tm]; simp
  ·omega), by rw [e2]; exact h.ab, hr, hc, hRA⟩, fun i => (hf i).trans (h.fz i)⟩
theorem allrun_any (hG : KG K) (hE : Env K τ w) (hv : VM K τ w [] ⟨[], 0, 0, [], none⟩) : Calls Tryz.prog 54 #[ptrV K.m] w (AllP K τ w) := by
 have cA := Hd (args_any hG hv hE)
 have HG := Hd hG
 have HE := Hd hE
 have HV := Hd hv
 obtain ⟨m, hkm⟩ : ∃ m, K.m = m := ⟨_, rfl⟩
 have HKM := Hd hkm
 rw [hkm] at cA
 rw [hkm]
 clear hG hE hv hkm
 go_in
 go_wp2_with fail
 refine cA.out.mono ?_
 rintro e w1 ⟨A, c, rfl, hown, hb⟩
 have hk : Tr (fun _ => False) τ w τ w1 := Tr.below HE.out.z hb
 have hE1 : Env K τ w1 := HE.out.tr hk id
 have HKA : Hid (Tr (TT 1) τ w τ w1) := Hd (hk.mono fun _ e => e.elim)
 have hok := start_ok (f := K.fuel) HG.out.hf K.ags
 have hnp : (fnOf K.fs 0).params.length ≤ 300 := by
  have hf := HG.out.pg.pg.sm _ (fnOf_mem (f := 0) (by have := HG.out.hf.one; omega))
  unfold smallF smallB at hf
  simp only [Bool.and_eq_true, decide_eq_true_eq] at hf
  omega
 have hcn : cnL (argL K (fnOf K.fs 0).params.length) = argsM K.fs K.ags := by
  unfold argL argsM
  rw [cnL, List.map_map]
  exact List.map_congr_left fun i _ => cn_num _
 have hst : startM K.fs K.ags = { (⟨[], 0, 0, [], none⟩ : Ms) with fr := [openF K.fs 0 (cnL (argL K (fnOf K.fs 0).params.length)) false false] } := by rw [hcn]; rfl
 have HST := Hd hst
 rw [hst] at hok
 have HOK0 := Hd hok
 have cC := Hd (call_any HG.out K.fuel τ w1 [] none none 0 ⟨[], 0, 0, [], none⟩ [] 0 A (fnOf K.fs 0).params.length c (argL K (fnOf K.fs 0).params.length) false false ⟨hE1, HV.out.tr hk fun _ => id, trivial, .inl rfl, fun _ => rfl, (fun e => by cases e), (fun e => by cases e), (fun e => by cases e)⟩ hok (by have h1 := HG.out.hf.one; have h2 := HG.out.pg.pg.len; omega) hnp (Rdv.own hown fun j hj _ hne => hne (HE.out.z j hj)) (Nat.sub_le _ _))
 rw [HKM.out, if_neg (by decide)] at cC
 clear hown hb hk hE1 hok hnp hcn hst cA
 go_wp2_with fail
 refine cC.out.mono ?_
 rintro e w2 (hdry | ⟨τ2, t, x, ys, hsl, hr, hfr, hcs, hdf, hci, hk2, hu, hres⟩)
 ·obtain ⟨rfl, τ2, t, hk2, henv, hvm, hrr, hne, hnone⟩ := hdry
  have HF : Hid (AllP K τ w (.panicked dryE) w2) := Hd (.inl ⟨rfl, τ2, t, HKA.out.trans hk2, henv, hvm, ⟨by rw [HST.out]; exact hrr, hnone⟩, reach_fin hrr rfl hne⟩)
  clear hk2 henv hvm hrr hne hnone cC
  go_wp2_with fail
  exact ⟨rfl, HF.out⟩
 obtain rfl : ys = [] := by
  rcases hu with e | ⟨y, r, sl, ch, e, _⟩
  ·exact e
  ·cases e
 have hstep : stepM K.fs K.ds K.fuel t = some (endM K.fs t) := stepM_end hfr (by rcases hres with ⟨hm, _⟩ | ⟨hm, _⟩ <;> rw [hm] <;> decide)
 have hrs : Reach K.fs K.ds K.fuel (startM K.fs K.ags) (endM K.fs t) := .tail (by rw [HST.out]; exact hr) hstep
 obtain ⟨hl1, hl2⟩ := end_last (K := K) hfr hcs hdf
 have HRS := Hd hrs
 have HOKT := Hd (reach_ok HG.out.hf HOK0.out hr)
 obtain ⟨PA, pn, pc, EA, en, ec, evs, hv2⟩ := hci.vm
 have HV2 := Hd hv2
 have HE2 := Hd hci.env
 have HFR := Hd hfr
 have HK2 : Hid (Tr (TT 1) τ w τ2 w2) := Hd (HKA.out.trans hk2)
 clear hsl hr hfr hcs hdf hci hk2 hu hstep hrs cC
 have g7 := hv2.c7
 have g8 := hv2.c8
 have g9 := hv2.c9
 have f7 := hv2.fz 7
 have f8 := hv2.fz 8
 have f9 := hv2.fz 9
 rw [HKM.out] at g7 g8 g9 f7 f8 f9
 rcases hres with ⟨hm, RA, rn, rc, rl, rfl, hrl, him⟩ | ⟨hm, ho, ad, n, cc, rfl, hcz⟩
 ·have hend := hl1 hm
  have HEND := Hd hend
  obtain ⟨i0, hi, hz0, hz1, hz2⟩ := info_parts info_intZ
  obtain ⟨ints, hin⟩ : ∃ l : List Int, rl.map DV.n = l := ⟨_, rfl⟩
  have hrs : (resultsM K.fs x).map DV.n = ints := by
   rw [← hin, ← hrl, List.map_map]
   exact List.map_congr_left fun v _ => rfl
  have HRSL := Hd hrs
  have hlen : rl.length = rn := him.len
  have hrn : rn ≤ 300 := by
   have h2 := congrArg List.length hrl
   rw [List.length_map] at h2
   have h3 : (resultsM K.fs x).length ≤ (fnOf K.fs x.f).results.length := by unfold resultsM; rw [List.length_take]; omega
   have h4 := res_le HG.out x.f
   omega
  have hrni : (rn : Int) ≤ 300 := by omega
  obtain ⟨w3, hw3⟩ : ∃ z, w2.setCell ⟨m, 7, none⟩ (.int .i64 1) = z := ⟨_, rfl⟩
  have hm2 : m < w2.heap.size := by rw [← HKM.out]; exact HV2.out.lt
  have hs3 : w3.heap.size = w2.heap.size := by rw [← hw3]; simp [World.setCell]
  obtain ⟨B3, hB3⟩ : ∃ b, w3.heap.size = b := ⟨_, rfl⟩
  have hk23 : Kp (fun j => j = m) w2 w3 := by rw [← hw3]; exact (Kp.refl (fun j => j = m) w2).setCell (p := ⟨m, 7, none⟩) (fun _ => rfl) _
  have c3 : ∀ i, i ≠ 7 → w3.cell? ⟨m, i, none⟩ = w2.cell? ⟨m, i, none⟩ := fun i h1 => by rw [← hw3]; exact World.cell?_setCell_other _ _ _ _ (by simp; try omega)
  have c37 : w3.cell? ⟨m, 7, none⟩ = some (.int .i64 1) := by rw [← hw3]; simp [go_sem, g7]
  have f3 : ∀ i, w3.frozen? ⟨m, i, none⟩ = false := fun i => by rw [← hw3]; exact (World.frozen?_setCell _ _ _ _).trans (by rw [← HKM.out]; exact HV2.out.fz i)
  have HW3 := Hd hw3
  have HIM : Hid (∀ k v, rl[k]? = some v → ∃ b off, RA = some ⟨b, off, none⟩ ∧ b < w2.heap.size ∧ ¬ b = m ∧ w2.cell? ⟨b, off + k * 3, none⟩ = some (.int .i64 v.k) ∧ w2.cell? ⟨b, off + k * 3 + 1, none⟩ = some (.int .i64 v.n) ∧ w2.cell? ⟨b, off + k * 3 + 2, none⟩ = some (.complex .f64 v.x v.y)) := Hd fun k v hv => by
   obtain ⟨b, off, e, h1, h2, h3, h4, h5⟩ := him.at3 hv
   refine ⟨b, off, e, h1, fun e' => h2 ?_, h3, h4, h5⟩
   rw [e', ← HKM.out, HV2.out.tm]
   simp
  have HC3 : Hid (w3.heap.size = w2.heap.size ∧ Kp (fun j => j = m) w2 w3 ∧ (∀ i, i ≠ 7 → w3.cell? ⟨m, i, none⟩ = w2.cell? ⟨m, i, none⟩) ∧ w3.cell? ⟨m, 7, none⟩ = some (.int .i64 1) ∧ (∀ i, w3.frozen? ⟨m, i, none⟩ = false) ∧ w3.heap.size = B3 ∧ m < B3) := Hd ⟨hs3, hk23, c3, c37, f3, hB3, by omega⟩
  have HA0 : Hid (ResR m B3 ints w3 0 w3) := Hd ⟨none, 0, (c3 8 (by decide)).trans g8, ⟨rfl, .inl ⟨rfl, rfl⟩⟩, Kp.refl _ _, fun _ _ => rfl, fun _ => rfl⟩
  have HIN := Hd hin
  have H9 : Hid (w2.cell? ⟨m, 9, none⟩ = some (.slice none 0 0)) := Hd g9
  have HLE := Hd hlen
  clear hl1 hl2 hend hm hrl him hv2 hrs hlen hm2 hs3 hB3 hk23 c3 c37 f3 hw3 hin g8 g9 f8 f9
  go_wp2_with fail
  rw [HW3.out]
  go_loopw [5, 31] (fun _ iv wr => ∃ k : Nat, iv = .int .i64 (k : Int) ∧ k ≤ rn ∧ Hid (ResR m B3 ints w3 k wr)) (fun _ iv _ => rn - (intOf iv).toNat)
  case atStart => exact ⟨0, rfl, Nat.zero_le _, HA0⟩
  case round =>
   obtain ⟨k, rfl, hk, HAR0⟩ := hrel
   have hk0 : (0 : Int) ≤ (k : Int) := by omega
   by_cases hlt : k < rn
   ·have hlti : (k : Int) < (rn : Int) := by omega
    have HKN := Hd hlt
    obtain ⟨RB, rb, q8, hown0, hkp, hco, hfz⟩ := HAR0.out
    obtain ⟨⟨vk, vn, vx, vy⟩, hv⟩ : ∃ v, rl[k]? = some v := ⟨_, List.getElem?_eq_getElem (by have := HLE.out; omega)⟩
    obtain ⟨b, off, rfl, hbl, hbm, q0, q1, q2⟩ := HIM.out k _ hv
    obtain ⟨j1, j2, j3, j4, j5, j6, j7⟩ := HC3.out
    have hkq : Kp (fun j => j = m ∨ B3 ≤ j) w2 wr := (j2.mono fun j _ e => .inl e).trans hkp
    have nb : ¬ (b = m ∨ B3 ≤ b) := fun h => h.elim hbm fun h => by omega
    have p0 := hkq.cellv q0 nb
    have p1 := hkq.cellv q1 nb
    have p2 := hkq.cellv q2 nb
    obtain ⟨w4, hw4⟩ : ∃ W, wr.alloc (.cells #[.int .i64 vk, .int .i64 vn, .complex .f64 vx vy] 43) = W := ⟨_, rfl⟩
    have hb4 : Below wr.heap.size wr w4 := by rw [← hw4]; exact (Below.refl _ _).alloc (Nat.le_refl _) _
    have hk04 : Kp (fun _ => False) wr w4 := (Kp.refl _ _).ofBelow hb4
    have hmw : m < wr.heap.size := by have := hkp.size; omega
    have g4 : w4.cell? ⟨m, 8, none⟩ = some (.slice RB k rb) := hk04.cellv q8 id
    have f4 : w4.frozen? ⟨m, 8, none⟩ = false := (hk04.frozen (p := ⟨m, 8, none⟩) hmw id).trans ((hfz 8).trans (j5 8))
    have x1 : w4.cell? ⟨wr.heap.size, 1, none⟩ = some (.int .i64 vn) := by rw [← hw4]; simp [go_sem]
    have hro4 : RowF w4 B3 3 1 RB k rb ((ints.take k).map (Value.int .i64)) := RowF.kp (RowF.ofOwn hown0) hk04 fun _ _ h => h
    have hnb : ¬ (wr.heap.size = m ∨ RB = some ⟨wr.heap.size, 0, none⟩) := fun h => h.elim (fun e => by omega) fun e => by have := (row_ge (RowF.ofOwn hown0) e).2; omega
    have HBX : Hid (∀ W : World, Kp (fun j => j = m ∨ RB = some ⟨j, 0, none⟩) w4 W → W.cell? ⟨wr.heap.size, 1, none⟩ = some (.int .i64 vn)) := Hd fun W hW => hW.cellv x1 hnb
    have hk5 : Kp (fun _ => False) w4 (w4.drew.alloc (.cells #[.int .i64 vn] 3)) := ((Kp.refl _ _).drew).alloc _
    have hxs : (ints.take k).map (Value.int .i64) ++ [.int .i64 vn] = (ints.take (k + 1)).map (Value.int .i64) := by
     rw [← take_snoc' ints k vn (by rw [← HIN.out, List.getElem?_map, hv]; rfl), List.map_append]
     rfl
    have HF : Hid (∀ (W' : World) (A' : Option Addr) (c' : Nat), W'.ownsRow B3 3 1 (.slice A' (k + 1) c') (k + 1) ((ints.take k).map (Value.int .i64) ++ [.int .i64 vn]) → Kp (fun j => RB = some (⟨j, 0, none⟩ : Addr)) (w4.drew.alloc (.cells #[.int .i64 vn] 3)) W' → (A' = RB ∨ ∃ j, A' = some ⟨j, 0, none⟩ ∧ (w4.drew.alloc (.cells #[.int .i64 vn] 3)).heap.size ≤ j) → W'.cell? ⟨m, 8, none⟩ = some (.slice RB k rb) ∧ W'.frozen? ⟨m, 8, none⟩ = false ∧ ResR m B3 ints w3 (k + 1) (W'.setCell ⟨m, 8, none⟩ (.slice A' (k + 1) c'))) := Hd fun W' A' c' hown hkA hA => by
     obtain ⟨hp, h1, h2⟩ := push_fin g4 f4 j7 hro4 hk5 hown hkA hA
     refine ⟨h1, h2, A', c', hp.ci, ?_, ?_, fun i hi => (hp.co i hi).trans (by rw [← hco i hi]; exact hk04.cell (p := ⟨m, i, none⟩) hmw id), fun i => (hp.fz i).trans ((hk04.frozen (p := ⟨m, i, none⟩) hmw id).trans (hfz i))⟩
     ·rw [← hxs]
      exact own_kpF hown ((Kp.refl (fun j => j = m) W').setCell (p := ⟨m, 8, none⟩) (fun _ => rfl) _) fun j e e' => by have := (row_ge (RowF.ofOwn hown) e).1; omega
     ·refine hkp.trans ((hk04.mono fun _ _ h => h.elim).trans (hp.kp.mono fun j _ e => e.elim .inl fun e => .inr (row_ge hro4 e).1))
    have hsrc := Hd (src_intZ w4.drew vn)
    have hone := Hd (one_intZ vn)
    have hrow : Hid (RowF (w4.drew.alloc (.cells #[.int .i64 vn] 3)) B3 3 1 RB k rb ((ints.take k).map (Value.int .i64))) := Hd (RowF.kp hro4 hk5 fun _ _ h => h)
    have hbase : Hid (B3 ≤ (w4.drew.alloc (.cells #[.int .i64 vn] 3)).heap.size) := Hd (by have h1 := hk5.size; have h2 := hk04.size; have h3 := hkp.size; omega)
    have hS0 : Kp (fun j => j = m ∨ RB = some ⟨j, 0, none⟩) w4 w4.drew := (Kp.refl _ _).drew
    have hS4 : Kp (fun j => j = m ∨ RB = some ⟨j, 0, none⟩) w4 (w4.drew.alloc (.cells #[.int .i64 vn] 3)) := hk5.mono fun _ _ h => h.elim
    have g5 : (w4.drew.alloc (.cells #[.int .i64 vn] 3)).cell? ⟨m, 8, none⟩ = some (.slice RB k rb) := hk5.cellv g4 id
    have g6 : (w4.alloc (.cells #[.int .i64 vn] 3)).cell? ⟨m, 8, none⟩ = some (.slice RB k rb) := ((Kp.refl (fun _ => False) w4).alloc _).cellv g4 id
    have HW4 := Hd hw4
    clear hown0 hkp hco hfz hv hbl hbm q0 q1 q2 j1 j2 j3 j4 j5 j6 j7 hkq nb hb4 hk04 hmw f4 hro4 hnb hk5 hxs q8 hw4 x1
    go_wp2_with fail
    rw [HW4.out]
    refine wp_region_held (S := fun W => Kp (fun j => j = m ∨ RB = some ⟨j, 0, none⟩) w4 W) (by kernel_rfl) ?_
    change wpAnyH _ _ _ _ _ _ _ _ (World.drew _)
    refine tkH 0 rfl (by intro W hW; go_simp; first | done | exact rfl) hS0 ?_
    try go_simp
    refine tkH 1 rfl (by intro W hW; go_simp; first | done | exact rfl) hS0 ?_
    try go_simp
    refine tkH 2 rfl (by intro W hW; go_simp; first | done | exact rfl) hS0 ?_
    try go_simp
    refine tkH 3 rfl (by intro W hW; go_simp; first | done | exact rfl) hS0 ?_
    try go_simp
    refine tkH 4 rfl (by intro W hW; go_simp; first | done | exact rfl) hS0 ?_
    try go_simp
    refine tkH 6 rfl (by intro W hW; go_simp; first | done | exact rfl) hS0 ?_
    try go_simp
    refine tkH 7 rfl (by intro W hW; have r0 := HBX.out W hW; go_simp; first | done | exact rfl) hS0 ?_
    try go_simp
    refine wpAnyH_two (i := 5) (j := 8) (by kernel_rfl) rfl rfl (fun K' hK => ?_) (fun K' hK => ?_)
    ·go_simp
     refine hK _ _ ⟨hS0, ?_⟩; clear hK K'
     try go_simp
     refine wpAnyH_one (i := 8) (by kernel_rfl) rfl (fun K' hK => ?_)
     go_simp
     refine hK _ _ ⟨hS4, ?_⟩; clear hK K'
     try go_simp
     refine wpAnyH_one (i := 9) (by kernel_rfl) rfl (fun K' hK => ?_)
     refine step_append_rowF _ rfl (.tmp 40) (.tmp 43) 34 rfl B3 3 i0 (.int .i64 0) 1 8 Tryz.underlying34 hi hz0 hz1 hz2 rfl (by decide) RB k rb ((ints.take k).map (Value.int .i64)) ?qq1 hrow.out ⟨w4.heap.size, 0, none⟩ 1 1 (by decide) [.int .i64 vn] ?qq2 hsrc.out hone.out (by unfold maxLen; omega) (by omega) hbase.out ?_
     case qq1 => go_simp
     case qq2 => go_simp
     intro A' c' W' hown hkA hA
     have F := Hd (HF.out W' A' c' hown hkA hA)
     have e0 := F.out.1
     have e1 := F.out.2.1
     have hS5 : Kp (fun j => j = m ∨ RB = some ⟨j, 0, none⟩) w4 W' := hS4.trans (hkA.mono fun j _ e => .inr e)
     clear hown hkA hA
     refine hK _ _ ⟨hS5, ?_⟩; clear hK K'
     refine wpAnyH_one (i := 10) (by kernel_rfl) rfl (fun K' hK => ?_)
     go_simp
     refine hK _ _ ⟨hS5, ?_⟩; clear hK K'
     try go_simp
     refine wpAnyH_one (i := 11) (by kernel_rfl) rfl (fun K' hK => ?_)
     go_simp
     refine hK _ _ ⟨hS5, ?_⟩; clear hK K'
     try go_simp
     refine wpAnyH_one (i := 12) (by kernel_rfl) rfl (fun K' hK => ?_)
     go_simp
     refine hK _ _ ⟨hS5, ?_⟩; clear hK K'
     try go_simp
     refine wpAnyH_one (i := 13) (by kernel_rfl) rfl (fun K' hK => ?_)
     go_simp
     refine hK _ _ ⟨(hS5.setCell (p := ⟨m, 8, none⟩) (fun _ => .inl rfl) _), ?_⟩; clear hK K'
     try go_simp
     refine wpAnyH_done (by kernel_rfl) ?_ _
     have HAR := Hd F.out.2.2
     clear F e0 e1 hS5
     go_wp2_with fail
     go_roundw
     case rel => exact ⟨k + 1, by simp, by have := HKN.out; omega, HAR⟩
     case measure => first | (have := HKN.out; simp [intOf]; done) | (have := HKN.out; simp [intOf]; omega)
    ·go_simp
     refine hK _ _ ⟨hS4, ?_⟩; clear hK K'
     try go_simp
     refine wpAnyH_one (i := 5) (by kernel_rfl) rfl (fun K' hK => ?_)
     go_simp
     refine hK _ _ ⟨hS4, ?_⟩; clear hK K'
     try go_simp
     refine wpAnyH_one (i := 9) (by kernel_rfl) rfl (fun K' hK => ?_)
     refine step_append_rowF _ rfl (.tmp 40) (.tmp 43) 34 rfl B3 3 i0 (.int .i64 0) 1 8 Tryz.underlying34 hi hz0 hz1 hz2 rfl (by decide) RB k rb ((ints.take k).map (Value.int .i64)) ?qq1 hrow.out ⟨w4.heap.size, 0, none⟩ 1 1 (by decide) [.int .i64 vn] ?qq2 hsrc.out hone.out (by unfold maxLen; omega) (by omega) hbase.out ?_
     case qq1 => go_simp
     case qq2 => go_simp
     intro A' c' W' hown hkA hA
     have F := Hd (HF.out W' A' c' hown hkA hA)
     have e0 := F.out.1
     have e1 := F.out.2.1
     have hS5 : Kp (fun j => j = m ∨ RB = some ⟨j, 0, none⟩) w4 W' := hS4.trans (hkA.mono fun j _ e => .inr e)
     clear hown hkA hA
     refine hK _ _ ⟨hS5, ?_⟩; clear hK K'
     refine wpAnyH_one (i := 10) (by kernel_rfl) rfl (fun K' hK => ?_)
     go_simp
     refine hK _ _ ⟨hS5, ?_⟩; clear hK K'
     try go_simp
     refine wpAnyH_one (i := 11) (by kernel_rfl) rfl (fun K' hK => ?_)
     go_simp
     refine hK _ _ ⟨hS5, ?_⟩; clear hK K'
     try go_simp
     refine wpAnyH_one (i := 12) (by kernel_rfl) rfl (fun K' hK => ?_)
     go_simp
     refine hK _ _ ⟨hS5, ?_⟩; clear hK K'
     try go_simp
     refine wpAnyH_one (i := 13) (by kernel_rfl) rfl (fun K' hK => ?_)
     go_simp
     refine hK _ _ ⟨(hS5.setCell (p := ⟨m, 8, none⟩) (fun _ => .inl rfl) _), ?_⟩; clear hK K'
     try go_simp
     refine wpAnyH_done (by kernel_rfl) ?_ _
     have HAR := Hd F.out.2.2
     clear F e0 e1 hS5
     go_wp2_with fail
     go_roundw
     case rel => exact ⟨k + 1, by simp, by have := HKN.out; omega, HAR⟩
     case measure => first | (have := HKN.out; simp [intOf]; done) | (have := HKN.out; simp [intOf]; omega)
   ·obtain rfl : k = rn := by omega
    have HF : Hid (AllP K τ w (.returned (.tuple #[])) wr) := Hd (by
     obtain ⟨RB, rb, q8, hown0, hkp, hco, hfz⟩ := HAR0.out
     obtain ⟨j1, j2, j3, j4, j5, j6, j7⟩ := HC3.out
     have hkq : Kp (fun j => j = K.m ∨ w2.heap.size ≤ j) w2 wr := by
      rw [HKM.out]
      exact (j2.mono fun j _ e => .inl e).trans (hkp.mono fun j _ e => e.elim .inl fun e => .inr (by omega))
     have hz2 := HE2.out.z
     have htr : Tr (fun t => t = (0, 1)) τ2 w2 τ2 wr := ⟨hkq.mono fun j hj h => h.elim (fun e => by rw [e]; exact HV2.out.tm) (fun e => by omega), fun _ _ => rfl, fun j hj => hz2 j (by have := hkq.size; omega)⟩
     have htk : ints.take k = ints := List.take_of_length_le (by rw [← HIN.out, List.length_map, HLE.out]; exact Nat.le_refl _)
     rw [htk] at hown0
     have hsl : SlI wr wr.heap.size RB k rb ints := SlR.of_ownN (f := fun x : Int => [Value.int .i64 x]) (bytes := 8) (fun _ => rfl) (by decide) (by simpa [List.flatMap_singleton'] using (show wr.ownsRow B3 3 1 (.slice RB k rb) k (ints.flatMap fun x => [Value.int .i64 x]) by rw [← List.map_eq_flatMap]; exact hown0)) (by unfold reachBytes; omega)
     refine .inr ⟨⟨_, rfl⟩, τ2, _, HK2.out.trans (htr.mono fun t e => by rw [e]; exact TT.vm (by decide)), HE2.out.tr htr (by simp), ⟨HRS.out, stepM_nil (by rw [HEND.out])⟩, .inr (.inl ⟨ints, by rw [HEND.out, HRSL.out], ?_⟩)⟩
     exact FinM.of HV2.out hkq (fun _ _ => rfl) (by rw [HKM.out]; exact (hco 6 (by decide)).trans (j3 6 (by decide))) (by rw [HKM.out]; exact (hco 10 (by decide)).trans (j3 10 (by decide))) (by rw [HKM.out]; exact (hco 7 (by decide)).trans j4) (by rw [HKM.out]; exact q8) (by rw [HKM.out]; exact ((hco 9 (by decide)).trans (j3 9 (by decide))).trans H9.out) (fun i => by rw [HKM.out]; exact ((hfz i).trans (j5 i)).trans (by rw [← HKM.out]; exact (HV2.out.fz i).symm)) hsl (ChZ.nil) ((RowF.ofOwn hown0).form.elim (fun h => .inl h.1) fun ⟨r, e, h1, h2⟩ => .inr ⟨r, e, by rw [HKM.out]; omega⟩) (by rw [HEND.out]) (by rw [HEND.out]))
    go_wp2_with fail
    go_end0
    exact HF.out
 ·have hend := hl2 hm ho
  have HEND := Hd hend
  have hn : n ≤ 3000 := by
   have h1 := hcz.2.2.1
   have h2 := bl_le HOKT.out HG.out HFR.out
   omega
  have cY := Hd (zcopy hcz HE2.out.z hn)
  clear hl1 hl2 hend hm ho hcz hv2
  go_wp2_with fail
  refine cY.out.mono ?_
  rintro e w3 ⟨A3, rfl, hcz3, hb3⟩
  have hm2 : m < w2.heap.size := by rw [← HKM.out]; exact HV2.out.lt
  have h7 := (hb3.cell (p := ⟨m, 7, none⟩) hm2).trans g7
  have h9 := (hb3.cell (p := ⟨m, 9, none⟩) hm2).trans g9
  have z7 := (hb3.frozen (p := ⟨m, 7, none⟩) hm2).trans f7
  have z9 := (hb3.frozen (p := ⟨m, 9, none⟩) hm2).trans f9
  have HB3 := Hd hb3
  have HCZ := Hd hcz3
  have h8 := (hb3.cell (p := ⟨m, 8, none⟩) hm2).trans g8
  have HF : Hid (AllP K τ w (.returned (.tuple #[])) ((w3.setCell ⟨m, 7, none⟩ (.int .i64 2)).setCell ⟨m, 9, none⟩ (.slice A3 n n))) := Hd (by
   have hk : Tr (fun _ => False) τ2 w2 τ2 w3 := Tr.below HE2.out.z hb3
   have hv3 := HV2.out.tr' hk (fun _ => id)
   obtain ⟨w4, hw4⟩ : ∃ z, (w3.setCell ⟨m, 7, none⟩ (.int .i64 2)).setCell ⟨m, 9, none⟩ (.slice A3 n n) = z := ⟨_, rfl⟩
   have hk4 : Kp (fun j => j = K.m ∨ w3.heap.size ≤ j) w3 w4 := by
    rw [← hw4, HKM.out]
    exact ((Kp.refl (fun j => j = m ∨ w3.heap.size ≤ j) w3).setCell (p := ⟨m, 7, none⟩) (fun _ => .inl rfl) _).setCell (p := ⟨m, 9, none⟩) (fun _ => .inl rfl) _
   have hsz : w4.heap.size = w3.heap.size := by rw [← hw4]; simp [World.setCell]
   have htr : Tr (fun t => t = (0, 1)) τ2 w3 τ2 w4 := ⟨hk4.mono fun j hj h => h.elim (fun e => by rw [e]; exact hv3.tm) (fun e => by omega), fun _ _ => rfl, fun j hj => HE2.out.z j (by have := hb3.size; omega)⟩
   have co : ∀ i, i ≠ 7 → i ≠ 9 → w4.cell? ⟨K.m, i, none⟩ = w3.cell? ⟨K.m, i, none⟩ := fun i h1 h2 => by
    rw [← hw4, HKM.out, World.cell?_setCell_other _ _ _ _ (by simp; try omega), World.cell?_setCell_other _ _ _ _ (by simp; try omega)]
   rw [hw4]
   refine .inr ⟨⟨_, rfl⟩, τ2, _, HK2.out.trans ((hk.mono fun _ e => e.elim).trans (htr.mono fun t e => by rw [e]; exact TT.vm (by decide))), (HE2.out.tr hk id).tr htr (by simp), ⟨HRS.out, stepM_nil (by rw [HEND.out])⟩, .inr (.inr ⟨x.ch, by rw [HEND.out], ?_⟩)⟩
   refine FinM.of hv3 hk4 (fun _ _ => rfl) (co 6 (by decide) (by decide)) (co 10 (by decide) (by decide)) (by rw [← hw4, HKM.out]; simp [go_sem, h7, h9]) ((co 8 (by decide) (by decide)).trans (by rw [HKM.out]; exact h8)) (by rw [← hw4, HKM.out]; simp [go_sem, h7, h9]) (fun i => by rw [← hw4]; exact (World.frozen?_setCell _ _ _ _).trans (World.frozen?_setCell _ _ _ _)) (SlR.nil_ _ _) (hcz3.tr htr (by simp)) (.inl rfl) (by rw [HEND.out]) (by rw [HEND.out]))
  clear hb3 hcz3 cY g7 g8 g9 f7 f8 f9 hm2 h8
  go_wp2_with fail
  refine bodyPost_ret (results_none rfl _ _ _) rfl ?_
  exact HF.out
end
end Go.Proofs.YtobmjnmcjddhcaaGreat
