/-
  Circles: a circle is known (done); Go's library at a row of numbers: the first place, the least.
-/
import Derived.Test.YtnfoahcdmaphnaaSc1
namespace Go.Proofs.Ytnfoahcdmaphnaa
open Go.RowKit
set_option linter.unusedSimpArgs false
set_option linter.unusedVariables false
set_option maxRecDepth 100000 in
set_option maxHeartbeats 4000000 in
theorem sidx_any (r n c : Nat) (pre post : List Nat) (x : Nat) (w : World) (hx : x ∉ pre) (hl : (pre ++ x :: post).length = n) (hn : n ≤ 100) (hc : ∀ (j : Nat) v, (pre ++ x :: post)[j]? = some v → w.cell? ⟨r, j, none⟩ = some (.int .i64 ((v : Nat) : Int))) :
    Calls Try.prog 38 #[.slice (some ⟨r, 0, none⟩) n c, .int .i64 (x : Int)] w fun e w' => e = .returned (.int .i64 ((pre.length : Nat) : Int)) ∧ w = w' := by
  have HC := Lib.hid hc
  have HX := Lib.hid hx
  obtain ⟨p, hp⟩ : ∃ p, pre.length = p := ⟨_, rfl⟩
  have HP := Lib.hid hp
  have hpn : p < n := by simp at hl; omega
  rw [hp]
  clear hc hx hp hl
  go_enter Try.func38, Try.ntmps38
  go_wp2_with fail
  go_loop [8] (fun i => ∃ k : Nat, i = .int .i64 k ∧ k ≤ p) (fun i => p - (intOf i).toNat)
  case atStart => exact ⟨0, rfl, Nat.zero_le _⟩
  case round =>
    obtain ⟨k, rfl, hk⟩ := hrel
    have hk0 : (0 : Int) ≤ (k : Int) := by omega
    have hkn : (k : Int) < (n : Int) := by omega
    have hkb : (k : Int) ≤ 100 := by omega
    by_cases hlt : k < p
    · obtain ⟨v, hv⟩ : ∃ v, pre[k]? = some v := ⟨_, List.getElem?_eq_getElem (by have := HP.out; omega)⟩
      have q0 := HC.out k v (by rw [List.getElem?_append_left (by have := HP.out; omega)]; exact hv)
      have hne : v ≠ x := fun e => HX.out (by rw [← e]; exact List.mem_of_getElem? hv)
      have t1 : ((x : Int) == (v : Int)) = false := by simp; omega
      clear hv hne
      go_wp2_with fail
      go_round
      case rel => exact ⟨k + 1, by go_num, by omega⟩
      case measure => simp [intOf]; omega
    · obtain rfl : k = p := by omega
      have q0 := HC.out k x (by rw [List.getElem?_append_right (by have := HP.out; omega), HP.out]; simp)
      have t1 : ((x : Int) == (x : Int)) = true := by simp
      go_wp2_with fail
      go_ret
      exact ⟨rfl, rfl⟩
def IsMin (xs : List Nat) (w : World) (e : Ending) (w' : World) : Prop := ∃ m : Nat, e = .returned (.int .i64 (m : Int)) ∧ m ∈ xs ∧ (∀ v ∈ xs, m ≤ v) ∧ w = w'
set_option maxRecDepth 100000 in
set_option maxHeartbeats 4000000 in
theorem smin_any (r off n c : Nat) (xs : List Nat) (w : World) (hl : xs.length = n) (hn : n ≤ 100) (h0 : 0 < n) (hb : ∀ v ∈ xs, v ≤ 1000) (hc : ∀ (j : Nat) v, xs[j]? = some v → w.cell? ⟨r, off + j, none⟩ = some (.int .i64 ((v : Nat) : Int))) :
    Calls Try.prog 60 #[.slice (some ⟨r, off, none⟩) n c] w (IsMin xs w) := by
  have HC := Lib.hid hc
  have HL := Lib.hid hl
  have HBD := Lib.hid hb
  obtain ⟨v0, hv0⟩ : ∃ v, xs[0]? = some v := ⟨_, List.getElem?_eq_getElem (by omega)⟩
  have q0 : w.cell? ⟨r, off, none⟩ = some (.int .i64 (v0 : Int)) := by have := HC.out 0 v0 hv0; rwa [Nat.add_zero] at this
  have HM0 : Hid (v0 ∈ xs.take 1 ∧ ∀ v ∈ xs.take 1, v0 ≤ v) := Lib.hid (by
    have e : xs.take 1 = [v0] := by
      have := take_snoc' xs 0 v0 hv0
      simpa using this.symm
    rw [e]
    simp)
  have hn1 : ¬ (n : Int) < 1 := by omega
  have hn0 : (0 : Int) < (n : Int) := by omega
  clear hc hl hb hv0
  go_enter Try.func60, Try.ntmps60
  go_wp2_with fail
  go_loop [3, 4] (fun m i => ∃ k mm : Nat, i = .int .i64 k ∧ m = .int .i64 (mm : Int) ∧ 0 < k ∧ k ≤ n ∧ Hid (mm ∈ xs.take k ∧ ∀ v ∈ xs.take k, mm ≤ v)) (fun _ i => n - (intOf i).toNat)
  case atStart => exact ⟨1, v0, rfl, rfl, by omega, by omega, HM0⟩
  case round =>
    obtain ⟨k, mm, rfl, rfl, hkp, hk, HM⟩ := hrel
    have hk0 : (0 : Int) ≤ (k : Int) := by omega
    have hkb : (k : Int) ≤ 100 := by omega
    by_cases hlt : k < n
    · obtain ⟨v, hv⟩ : ∃ v, xs[k]? = some v := ⟨_, List.getElem?_eq_getElem (by have := HL.out; omega)⟩
      have q1 := HC.out k v hv
      have hkn : (k : Int) < (n : Int) := by omega
      have HM2 : Hid (Nat.min mm v ∈ xs.take (k + 1) ∧ ∀ u ∈ xs.take (k + 1), Nat.min mm v ≤ u) := Lib.hid (by
        rw [← take_snoc' xs k v hv]
        refine ⟨?_, fun u hu => ?_⟩
        · rcases Nat.le_total mm v with h | h
          · rw [show Nat.min mm v = mm from Nat.min_eq_left h]
            exact List.mem_append_left _ HM.out.1
          · rw [show Nat.min mm v = v from Nat.min_eq_right h]
            simp
        · rcases List.mem_append.1 hu with h | h
          · exact Nat.le_trans (Nat.min_le_left _ _) (HM.out.2 u h)
          · rw [List.mem_singleton] at h
            rw [h]
            exact Nat.min_le_right _ _)
      have HE : Hid ((Nat.min mm v : Nat) = if mm ≤ v then mm else v) := Lib.hid (by show min mm v = _; exact Nat.min_def)
      clear hv
      by_cases hle : mm ≤ v
      · have hle1 : (mm : Int) ≤ (v : Int) := by omega
        have HM3 : Hid (mm ∈ xs.take (k + 1) ∧ ∀ u ∈ xs.take (k + 1), mm ≤ u) := Lib.hid (by have h1 := HE.out; rw [if_pos hle] at h1; have := HM2.out; rwa [h1] at this)
        have hmn : min (mm : Int) (v : Int) = (mm : Int) := by omega
        clear HM2 HE
        go_wp2_with fail
        go_round
        case rel => exact ⟨k + 1, mm, by go_num, rfl, by omega, by omega, HM3⟩
        case measure => simp [intOf]; omega
      · have hle1 : ¬ (mm : Int) ≤ (v : Int) := by omega
        have HM3 : Hid (v ∈ xs.take (k + 1) ∧ ∀ u ∈ xs.take (k + 1), v ≤ u) := Lib.hid (by have h1 := HE.out; rw [if_neg hle] at h1; have := HM2.out; rwa [h1] at this)
        have hmn : min (mm : Int) (v : Int) = (v : Int) := by omega
        clear HM2 HE
        go_wp2_with fail
        go_round
        case rel => exact ⟨k + 1, v, by go_num, rfl, by omega, by omega, HM3⟩
        case measure => simp [intOf]; omega
    · obtain rfl : k = n := by omega
      have HM3 : Hid (mm ∈ xs ∧ ∀ u ∈ xs, mm ≤ u) := Lib.hid (by have h1 := HM.out; rw [List.take_of_length_le (by have := HL.out; omega)] at h1; exact h1)
      go_wp2_with fail
      go_ret
      exact ⟨mm, rfl, HM3.out.1, HM3.out.2, rfl⟩
theorem own_cut {W : World} {base : Nat} {e : TypeId} {sz : Nat} {A : Option Addr} {n c : Nat} {xs : List Value} (h : W.ownsRow base e sz (.slice A n c) n xs) {k : Nat} (hk : k ≤ n) : W.ownsRow base e sz (.slice A k c) k (xs.take (k * sz)) := by
  have hm : k * sz ≤ n * sz := Nat.mul_le_mul_right _ hk
  refine ⟨by rw [List.length_take, h.1]; exact Nat.min_eq_left hm, ?_⟩
  rcases h.2 with ⟨hv, rfl⟩ | ⟨g, cap, cur, hv, h1, h2, h3, h4, h5, h6⟩
  · simp only [Value.slice.injEq] at hv
    obtain ⟨rfl, _, rfl⟩ := hv
    have : k = 0 := by omega
    subst this
    exact .inl ⟨rfl, rfl⟩
  · simp only [Value.slice.injEq, true_and] at hv
    obtain ⟨rfl, rfl⟩ := hv
    exact .inr ⟨g, c, cur, rfl, h1, h2, by omega, h4, h5, by rw [← h6, List.take_take, Nat.min_eq_left hm]⟩
theorem rowN_take (hd tl : List Nat) : (rowN (hd ++ tl)).take (hd.length * 1) = rowN hd := by
  unfold rowN
  rw [Nat.mul_one, List.map_append, List.take_append_of_le_length (by simp), List.take_of_length_le (by simp)]
def IsDone (B B2 q s l h : Nat) (GA : Option Addr) (n gc : Nat) (WA : Option Addr) (wn wc : Nat) (walk : List (Nat × Nat)) (seen low : Nat → Nat) (hd tl : List Nat) (home : Nat → Int) (clock x : Nat) (W : World) (e : Ending) (W' : World) : Prop :=
  (∃ r, e = .returned r) ∧ ∃ HA hc home' m, m ∈ x :: tl ∧ (∀ v ∈ x :: tl, m ≤ v) ∧ (∀ v ∈ x :: tl, home' v = ((m : Nat) : Int)) ∧ (∀ v, v ∉ x :: tl → home' v = home v) ∧
    SC B B2 q s l h GA n gc WA wn wc HA hd.length hc walk seen low hd home' clock W' ∧ Below B W W'
theorem upd_all (home : Nat → Int) (m : Int) : ∀ (xs : List Nat) v, (xs.foldl (fun f x => upd f x m) home) v = if v ∈ xs then m else home v
  | [], v => by simp
  | x :: xs, v => by
    rw [List.foldl_cons, upd_all _ m xs v]
    by_cases h : v ∈ xs
    · simp [h]
    · by_cases e : v = x
      · subst e; simp [h, upd_same]
      · simp [h, e, upd_other _ _ e]
set_option maxRecDepth 100000 in
set_option maxHeartbeats 8000000 in
theorem done_any (B B2 q s l h : Nat) (GA : Option Addr) (n gc : Nat) (WA : Option Addr) (wn wc : Nat) (HA : Option Addr) (hn hc : Nat) (walk : List (Nat × Nat)) (seen low : Nat → Nat) (hd tl : List Nat) (home : Nat → Int) (clock x : Nat) (W : World)
    (H0 : SC B B2 q s l h GA n gc WA wn wc HA hn hc walk seen low (hd ++ x :: tl) home clock W) (hB2 : B2 ≤ W.heap.size) (hxd : x ∉ hd) (hall : ∀ v ∈ hd ++ x :: tl, v < n) (hh : hn ≤ 50) (hnn : n ≤ 50) :
    Calls Try.prog 54 #[.pointer (some ⟨q, 0, none⟩), .int .i64 (x : Int)] W (IsDone B B2 q s l h GA n gc WA wn wc walk seen low hd tl home clock x W) := by
  obtain ⟨p, hp⟩ : ∃ p, hd.length = p := ⟨_, rfl⟩
  have hlen := H0.len.2
  have hpn : p < hn := by simp at hlen; omega
  obtain ⟨r, rfl, hrlt⟩ : ∃ r, HA = some ⟨r, 0, none⟩ ∧ B2 ≤ r := by
    obtain ⟨A', c', hv, h1, h2⟩ := own_form H0.ho
    simp only [Value.slice.injEq, true_and] at hv
    obtain ⟨rfl, rfl⟩ := hv
    cases HA with
    | none => exact absurd (h1 rfl) (by omega)
    | some ad =>
      obtain ⟨g, rfl, h3, _⟩ := h2 ad rfl
      exact ⟨g, rfl, h3⟩
  have hcap : hn ≤ hc := by
    rcases H0.ho.2 with ⟨hv, _⟩ | ⟨g, cap, cur, hv, _, _, h1, _⟩
    · simp at hv
    · simp only [Value.slice.injEq, true_and] at hv
      omega
  have H := Lib.hid H0
  have HB2 := Lib.hid hB2
  have HP := Lib.hid hp
  have HALL := Lib.hid hall
  have HLEN := Lib.hid hlen
  have hcell : Hid (∀ (W' : World), Kp (fun j => j = h) W W' → ∀ (j : Nat) v, (hd ++ x :: tl)[j]? = some v → W'.cell? ⟨r, j, none⟩ = some (.int .i64 ((v : Nat) : Int))) := Lib.hid fun W' hk j v hj => by
    have h1 := H.out.ho.cells (g := r) rfl j (.int .i64 ((v : Nat) : Int)) (by unfold rowN; rw [List.getElem?_map, hj]; rfl)
    rw [add_zero_at] at h1
    exact hk.cellv h1 (fun e => by have e' : r = h := e; have := H.out.hi.2.2.2; omega)
  have cI := Lib.hid (sidx_any r hn hc hd tl x W hxd hlen (by omega) (hcell.out W (Kp.refl _ _)))
  have cM := Lib.hid (smin_any r p (hn - p) (hc - p) (x :: tl) W (by simp at hlen ⊢; omega) (by omega) (by omega) (fun v hv => by have := hall v (List.mem_append_right _ hv); omega) (fun j v hj => hcell.out W (Kp.refl _ _) (p + j) v (by rw [List.getElem?_append_right (by omega), hp]; simpa using hj)))
  rw [hp] at cI
  have hp0 : (0 : Int) ≤ (p : Int) := by omega
  have hph : (p : Int) ≤ (hn : Int) := by omega
  have hpc : (p : Int) ≤ (hc : Int) := by omega
  have hpc2 : ¬ (hc : Int) = (p : Int) := by omega
  have hpc3 : ¬ hc = p := by omega
  clear H0 hB2 hall hp hlen hxd
  have c0 := H.out.qc.at_ 0 _ rfl
  have c1 := H.out.qc.at_ 1 _ rfl
  have c2 := H.out.qc.at_ 2 _ rfl
  have c3 := H.out.qc.at_ 3 _ rfl
  have c4 := H.out.qc.at_ 4 _ rfl
  have c5 := H.out.qc.at_ 5 _ rfl
  have c6 := H.out.qc.at_ 6 _ rfl
  have f1 := H.out.qc.fz 1 (by simp)
  have f4 := H.out.qc.fz 4 (by simp)
  have f6 := H.out.qc.fz 6 (by simp)
  obtain ⟨n1, n2, n3, n4, n5, n6⟩ := H.out.ne
  have m1 : ¬ s = q := fun e => n1 e.symm
  have m2 : ¬ l = q := fun e => n2 e.symm
  have m3 : ¬ h = q := fun e => n3 e.symm
  have m4 : ¬ l = s := fun e => n4 e.symm
  have m5 : ¬ h = s := fun e => n5 e.symm
  have m6 : ¬ h = l := fun e => n6 e.symm
  have n1 : ¬ q = s := n1
  have n2 : ¬ q = l := n2
  have n3 : ¬ q = h := n3
  have n4 : ¬ s = l := n4
  have n5 : ¬ s = h := n5
  have n6 : ¬ l = h := n6
  go_enter Try.func54, Try.ntmps54
  go_wp2_with fail
  refine cI.out.mono ?_
  rintro e w' ⟨rfl, rfl⟩
  go_wp2_with fail
  refine cM.out.mono ?_
  rintro e w' ⟨m, rfl, hm1, hm2, rfl⟩
  have HM := Lib.hid (And.intro hm1 hm2)
  have HLK : Hid ((x :: tl).length = hn - p) := Lib.hid (by have h1 := HLEN.out; have h2 := HP.out; simp at h1 ⊢; omega)
  clear hm1 hm2 cM cI c0 c1 c2 c3 c4 c5 c6 f1 f4 f6
  go_wp2_with fail
  go_loopw [25] (fun i wr => ∃ k : Nat, i = .int .i64 k ∧ k ≤ hn - p ∧ Hid (SC B B2 q s l h GA n gc WA wn wc (some ⟨r, 0, none⟩) hn hc walk seen low (hd ++ x :: tl) (((x :: tl).take k).foldl (fun f y => upd f y ((m : Nat) : Int)) home) clock wr ∧ Kp (fun j => j = h) W wr)) (fun i _ => hn - p - (intOf i).toNat)
  case atStart => exact ⟨0, rfl, Nat.zero_le _, Lib.hid ⟨H.out, Kp.refl _ _⟩⟩
  case round =>
    obtain ⟨k, rfl, hk, HK⟩ := hrel
    have HS := Lib.hid HK.out.1
    have HKP := Lib.hid HK.out.2
    clear HK
    have hk0 : (0 : Int) ≤ (k : Int) := by omega
    have hkb : (k : Int) ≤ 100 := by omega
    have c0 := HS.out.qc.at_ 0 _ rfl
    have c1 := HS.out.qc.at_ 1 _ rfl
    have c2 := HS.out.qc.at_ 2 _ rfl
    have c3 := HS.out.qc.at_ 3 _ rfl
    have c4 := HS.out.qc.at_ 4 _ rfl
    have c5 := HS.out.qc.at_ 5 _ rfl
    have c6 := HS.out.qc.at_ 6 _ rfl
    have f1 := HS.out.qc.fz 1 (by simp)
    have f4 := HS.out.qc.fz 4 (by simp)
    have f6 := HS.out.qc.fz 6 (by simp)
    by_cases hlt : k < hn - p
    · obtain ⟨v, hv⟩ : ∃ v, (x :: tl)[k]? = some v := ⟨_, List.getElem?_eq_getElem (by have := HLK.out; omega)⟩
      have q0 : wr.cell? ⟨r, p + k, none⟩ = some (.int .i64 ((v : Nat) : Int)) := hcell.out wr HKP.out (p + k) v (by rw [List.getElem?_append_right (by have := HP.out; omega), HP.out]; simpa using hv)
      have hvn : v < n := HALL.out v (List.mem_append_right _ (List.mem_of_getElem? hv))
      have HVN := Lib.hid hvn
      have hkn : (k : Int) < ((hn - p : Nat) : Int) := by omega
      have hkn2 : (k : Int) < (hn : Int) - (p : Int) := by omega
      have hv0 : (0 : Int) ≤ (v : Int) := by omega
      have hvn1 : (v : Int) < (n : Int) := by omega
      have HV := Lib.hid hv
      clear hv hvn
      obtain ⟨hm', hhm⟩ : ∃ f : Nat → Int, ((x :: tl).take k).foldl (fun f y => upd f y ((m : Nat) : Int)) home = f := ⟨_, rfl⟩
      have HHM := Lib.hid hhm
      rw [hhm] at HS
      have h0 : wr.cell? ⟨h, v, none⟩ = some (.int .i64 (hm' v)) := HS.out.hcc.at_ _ _ (arrC_at _ HVN.out)
      have h0f : wr.frozen? ⟨h, v, none⟩ = false := HS.out.hcc.fz _ (by rw [arrC_len]; exact HVN.out)
      clear hhm
      go_wp2_with fail
      have HN : Hid (SC B B2 q s l h GA n gc WA wn wc (some ⟨r, 0, none⟩) hn hc walk seen low (hd ++ x :: tl) (((x :: tl).take (k + 1)).foldl (fun f y => upd f y ((m : Nat) : Int)) home) clock (wr.setCell ⟨h, v, none⟩ (.int .i64 (m : Int))) ∧ Kp (fun j => j = h) W (wr.setCell ⟨h, v, none⟩ (.int .i64 (m : Int)))) := Lib.hid (by
        refine ⟨?_, HKP.out.trans (kp_set _ _ _ _)⟩
        rw [← take_snoc' (x :: tl) k v HV.out, List.foldl_append, HHM.out]
        exact HS.out.setHome HVN.out _)
      go_roundw
      case rel => exact ⟨k + 1, by go_num, by omega, HN⟩
      case measure => simp [intOf]; omega
    · obtain rfl : k = hn - p := by omega
      have hkn : ¬ ((hn - p : Nat) : Int) < ((hn - p : Nat) : Int) := by omega
      go_wp2_with fail
      go_end0
      have hS := HS.out
      rw [List.take_of_length_le (by have := HLK.out; omega)] at hS
      have hlo := hS.lo
      refine ⟨⟨_, rfl⟩, some ⟨r, 0, none⟩, hc, (x :: tl).foldl (fun f y => upd f y ((m : Nat) : Int)) home, m, HM.out.1, HM.out.2, fun v hv => ?_, fun v hv => ?_, ?_, ?_⟩
      · rw [upd_all, if_pos hv]
      · rw [upd_all, if_neg hv]
      · rw [HP.out]
        exact hS.setHd (Kp.refl _ _) (by
          have h1 := own_cut hS.ho (k := p) (by omega)
          rw [show p * 1 = hd.length * 1 by rw [HP.out], rowN_take] at h1
          exact h1) (fun k hk => .inl hk)
      · exact (HKP.out.below (B := B) (by have := HB2.out; omega) (fun k hk => by have hk' : k = h := hk; omega)).setCell (p := ⟨q, 4, none⟩) hlo.1 _
end Go.Proofs.Ytnfoahcdmaphnaa
