/-
  Other numbers: each number as often as its instruction is long: the walks.
-/
import Derived.Test.YtpladpmkpchndaaRn3
namespace Go.Proofs.Ytpladpmkpchndaa
open Go.RowKit
set_option linter.unusedSimpArgs false
set_option linter.unusedVariables false

def OutI (w2 : World) (A : Option Addr) (m c : Nat) (l : List Int) (wr : World) : Prop := m = l.length ∧ wr.ownsRow w2.heap.size 3 1 (.slice A m c) m (rowI l) ∧ Below w2.heap.size w2 wr ∧ w2.heap.size ≤ wr.heap.size
theorem OutI.snoc {w2 wr w3 : World} {A : Option Addr} {m c : Nat} {l : List Int} {v : Int} {v' : Value} (h : OutI w2 A m c l wr)
    (hown' : w3.ownsRow w2.heap.size 3 1 v' (m + 1) (rowI l ++ [.int .i64 v])) (hgrow : (wr.alloc (.cells #[.int .i64 v] 3)).grownBy w3 (Value.slice A m c).ownBlock) :
    ∃ A' c', v' = .slice A' (m + 1) c' ∧ OutI w2 A' (m + 1) c' (l ++ [v]) w3 := by
  obtain ⟨A', c', hv, h1, h2, h3⟩ := app_int h.2.2.1 h.2.2.2 h.2.1 hown' hgrow
  exact ⟨A', c', hv, by rw [List.length_append, ← h.1]; rfl, h1, h2, h3⟩

set_option maxRecDepth 100000 in
set_option maxHeartbeats 1000000 in
theorem spread_any (n a c0 c a' c' : Nat) (A0 A A' : Option Addr) (l ps ls : List Int) (w : World) (hn : n ≤ 200) (h0 : SlI w w.heap.size A0 n c0 l) (h : SlI w w.heap.size A a c ps) (h' : SlI w w.heap.size A' a c' ls) (ha : a ≤ 1000) (hok : Okl ps ls n a) :
    Calls Try.prog 31 #[.slice A0 n c0, .slice A a c, .slice A' a c'] w (IsL (sprd (lk ps ls a) l n).length (sprd (lk ps ls a) l n) w) := by
  obtain ⟨i0, hi, hz0, hz1, hz2⟩ := info_parts info_int
  have hf : ∀ i, 0 ≤ lk ps ls a i ∧ lk ps ls a i ≤ 50 := fun i => lk_bd hok.len i a
  have HF := Lib.hid hf
  have H := Lib.hid h0
  have c1 : Hid (Calls Try.prog 73 #[.int .i64 (n : Int), .slice A a c, .slice A' a c'] w (IsRowI n (rowL ps ls n a) w)) :=
    longer_any n a c a' c' w.heap.size A A' ps ls _ (by omega) h h' (Nat.le_refl _) ha hok.inn
  have hat : Hid (∀ k, k < n → (rowI (rowL ps ls n a))[k]? = some (.int .i64 (lk ps ls a k))) := Lib.hid fun k hk => rowL_at ps ls hk
  generalize hfd : lk ps ls a = f at *
  generalize hrd : rowL ps ls n a = r at *
  clear h h' h0 hok hf hfd hrd
  go_enter Try.func31, Try.ntmps31
  go_wp2_with fail
  refine Calls.mono c1.out ?_
  rintro e w2 ⟨gL, rfl, hL, hb2⟩
  have HL := Lib.hid hL
  have HB2 := Lib.hid hb2
  clear hL hb2 c1
  go_wp2_with fail
  go_loopw [7, 16] (fun o i wr => ∃ (k m : Nat) (A1 : Option Addr) (cc : Nat), o = .slice A1 m cc ∧ i = .int .i64 k ∧ k ≤ n ∧ Hid (OutI w2 A1 m cc (sprd f l k) wr)) (fun _ i _ => n - (intOf i).toNat)
  case atStart => exact ⟨0, 0, none, 0, rfl, rfl, Nat.zero_le _, Lib.hid ⟨rfl, World.ownsRow_nil _ _ _ _, Below.refl _ _, Nat.le_refl _⟩⟩
  case round =>
    obtain ⟨k, m, A1, cc, rfl, rfl, hk, ho⟩ := hrel
    by_cases hlt : k < n
    · have hkn : (k : Int) < (n : Int) := by omega
      have hk0 : (0 : Int) ≤ (k : Int) := by omega
      obtain ⟨b, off, rfl, hbB, q0⟩ := H.out.getD hlt 0
      have p0 : wr.cell? ⟨gL, k, none⟩ = some (.int .i64 (f k)) := (ho.out.2.2.1.cell (by have := (HL.out.lt _ rfl).2; exact this)).trans ((HL.out.cellAt k (by omega)).trans (hat.out k hlt))
      obtain ⟨g1, g2⟩ := HF.out k
      obtain ⟨T, hT⟩ : ∃ T : Nat, f k = (T : Int) := ⟨(f k).toNat, by omega⟩
      have hsp : Hid (sprd f l (k + 1) = sprd f l k ++ List.replicate T (l.getD k 0)) := Lib.hid (by show sprd f l k ++ List.replicate (f k).toNat _ = _; rw [hT]; rfl)
      rw [hT] at p0 g1 g2
      have hTb : T ≤ 50 := by omega
      have hlen := Lib.hid (sprd_len HF.out l k)
      have q1 : Hid (∀ W, Below w2.heap.size w2 W → W.cell? ⟨b, off + k, none⟩ = some (.int .i64 (l.getD k 0))) := Lib.hid fun W hW => (hW.cell (by have := HB2.out.size; show b < _; omega)).trans ((HB2.out.cell (by show b < _; exact hbB)).trans q0)
      generalize l.getD k 0 = x at *
      clear hT q0 hbB g1 g2
      obtain ⟨wo, hwo⟩ : ∃ wo : World, wo = wr := ⟨_, rfl⟩
      subst hwo
      go_wp2_with fail
      go_loopw [7, 22] (fun o j wr => ∃ (q m2 : Nat) (A2 : Option Addr) (c2 : Nat), o = .slice A2 m2 c2 ∧ j = .int .i64 q ∧ q ≤ T ∧ Hid (OutI w2 A2 m2 c2 (sprd f l k ++ List.replicate q x) wr)) (fun _ j _ => T - (intOf j).toNat)
      case atStart => exact ⟨0, m, A1, cc, rfl, rfl, Nat.zero_le _, Lib.hid (by rw [List.replicate_zero, List.append_nil]; exact ho.out)⟩
      case round =>
        obtain ⟨q, m2, A2, c2, rfl, rfl, hq, ho2⟩ := hrel
        by_cases hqt : q < T
        · have hqT : (q : Int) < (T : Int) := by omega
          have hq0 : (0 : Int) ≤ (q : Int) := by omega
          have hm2 : m2 ≤ 10100 := by
            have h1 := ho2.out.1
            have h2 := hlen.out
            rw [List.length_append, List.length_replicate] at h1
            omega
          have q2 : wr.cell? ⟨b, off + k, none⟩ = some (.int .i64 x) := q1.out wr ho2.out.2.2.1
          have hsrc := Lib.hid (src_int wr x)
          have hone := Lib.hid (one_int x)
          have hzb : w2.heap.size ≤ (wr.alloc (.cells #[.int .i64 x] 3)).heap.size := by have := ho2.out.2.2.2; simp; omega
          have hown := Lib.hid (ho2.out.2.1.alloc (.cells #[.int .i64 x] 3))
          have hrep : Hid (sprd f l k ++ List.replicate q x ++ [x] = sprd f l k ++ List.replicate (q + 1) x) := Lib.hid (by rw [List.append_assoc, List.replicate_succ'])
          generalize sprd f l k ++ List.replicate q x = out at *
          go_wp2_with (first
            | (at_builtin; go_must (refine wpList_append_src _ rfl _ _ 50 rfl w2.heap.size 3 i0 (.int .i64 0) 1 8 Try.underlying50 hi hz0 hz1 hz2 rfl (by decide) _ _ _ rfl hown.out (some ⟨wr.heap.size, 0, none⟩) 1 1 [.int .i64 x] rfl hsrc.out hone.out (by unfold maxLen; omega) (by omega) hzb ?_)
               intro v' w3 hown' hgrow3 hat3
               obtain ⟨A', c', rfl, o3⟩ := ho2.out.snoc hown' hgrow3
               have O3 := Lib.hid o3
               clear hown' hgrow3 hat3 o3))
          go_roundw
          case rel => exact ⟨q + 1, m2 + 1, A', c', rfl, by go_num, by omega, Lib.hid (by rw [← hrep.out]; exact O3.out)⟩
          case measure => simp [intOf]; omega
        · have hqT : q = T := by omega
          subst hqT
          go_wp2_with fail
          go_roundw
          case rel => exact ⟨k + 1, m2, A2, c2, rfl, by go_num, by omega, Lib.hid (by rw [hsp.out]; exact ho2.out)⟩
          case measure => simp [intOf]; omega
    · have hkn : k = n := by omega
      subst hkn
      have hlen := sprd_len HF.out l k
      go_wp2_with fail
      go_ret
      have h1 := ho.out.1
      subst h1
      exact ⟨A1, cc, rfl, SlI.own ho.out.2.1 (by omega), HB2.out.trans (ho.out.2.2.1.mono HB2.out.size)⟩

set_option maxRecDepth 100000 in
set_option maxHeartbeats 1000000 in
theorem refSpread_any (n a c0 c a' c' : Nat) (A0 A A' : Option Addr) (l ps ls : List Int) (w : World) (hn : n ≤ 200) (h0 : SlI w w.heap.size A0 n c0 l) (h : SlI w w.heap.size A a c ps) (h' : SlI w w.heap.size A' a c' ls) (ha : a ≤ 1000) (hok : Okl ps ls n a) :
    Calls Try.prog 32 #[.slice A0 n c0, .slice A a c, .slice A' a c'] w (IsL (sprd (lk ps ls a) l n).length (sprd (lk ps ls a) l n) w) := by
  obtain ⟨i0, hi, hz0, hz1, hz2⟩ := info_parts info_int
  have hf : ∀ i, 0 ≤ lk ps ls a i ∧ lk ps ls a i ≤ 50 := fun i => lk_bd hok.len i a
  have HF := Lib.hid hf
  have H := Lib.hid h0
  have c1 : ∀ (i : Nat) (W : World), Below w.heap.size w W → Hid (Calls Try.prog 74 #[.int .i64 (i : Int), .slice A a c, .slice A' a c'] W fun e w' => e = .returned (.int .i64 (lk ps ls a i)) ∧ W = w') :=
    fun i W hW => long_any i a c a' c' w.heap.size A A' ps ls W (h.keep hW (Nat.le_refl _)) (h'.keep hW (Nat.le_refl _)) ha hok.dis
  generalize hfd : lk ps ls a = f at *
  clear h h' h0 hok hf hfd
  go_enter Try.func32, Try.ntmps32
  go_wp2_with fail
  go_loopw [7, 8] (fun o i wr => ∃ (k m : Nat) (A1 : Option Addr) (cc : Nat), o = .slice A1 m cc ∧ i = .int .i64 k ∧ k ≤ n ∧ Hid (OutI w A1 m cc (sprd f l k) wr)) (fun _ i _ => n - (intOf i).toNat)
  case atStart => exact ⟨0, 0, none, 0, rfl, rfl, Nat.zero_le _, Lib.hid ⟨rfl, World.ownsRow_nil _ _ _ _, Below.refl _ _, Nat.le_refl _⟩⟩
  case round =>
    obtain ⟨k, m, A1, cc, rfl, rfl, hk, ho⟩ := hrel
    by_cases hlt : k < n
    · have hkn : (k : Int) < (n : Int) := by omega
      have hk0 : (0 : Int) ≤ (k : Int) := by omega
      obtain ⟨b, off, rfl, hbB, q0⟩ := H.out.getD hlt 0
      obtain ⟨g1, g2⟩ := HF.out k
      obtain ⟨T, hT⟩ : ∃ T : Nat, f k = (T : Int) := ⟨(f k).toNat, by omega⟩
      have hsp : Hid (sprd f l (k + 1) = sprd f l k ++ List.replicate T (l.getD k 0)) := Lib.hid (by show sprd f l k ++ List.replicate (f k).toNat _ = _; rw [hT]; rfl)
      rw [hT] at g1 g2
      have hTb : T ≤ 50 := by omega
      have hlen := Lib.hid (sprd_len HF.out l k)
      have q1 : Hid (∀ W, Below w.heap.size w W → W.cell? ⟨b, off + k, none⟩ = some (.int .i64 (l.getD k 0))) := Lib.hid fun W hW => (hW.cell (by show b < _; exact hbB)).trans q0
      have c2 : Hid (Calls Try.prog 74 #[.int .i64 (k : Int), .slice A a c, .slice A' a c'] wr fun e w' => e = .returned (.int .i64 (T : Int)) ∧ wr = w') := by rw [← hT]; exact c1 k wr ho.out.2.2.1
      generalize l.getD k 0 = x at *
      clear hT q0 hbB g1 g2 c1
      obtain ⟨wo, hwo⟩ : ∃ wo : World, wo = wr := ⟨_, rfl⟩
      subst hwo
      go_wp2_with fail
      refine Calls.mono c2.out ?_
      rintro e w' ⟨rfl, rfl⟩
      clear c2
      go_wp2_with fail
      go_loopw [7, 9] (fun o j wr => ∃ (q m2 : Nat) (A2 : Option Addr) (c2 : Nat), o = .slice A2 m2 c2 ∧ j = .int .i64 ((T - q : Nat) : Int) ∧ q ≤ T ∧ Hid (OutI w A2 m2 c2 (sprd f l k ++ List.replicate q x) wr)) (fun _ j _ => (intOf j).toNat)
      case atStart => exact ⟨0, m, A1, cc, rfl, by go_num, Nat.zero_le _, Lib.hid (by rw [List.replicate_zero, List.append_nil]; exact ho.out)⟩
      case round =>
        obtain ⟨q, m2, A2, c2, rfl, rfl, hq, ho2⟩ := hrel
        by_cases hqt : q < T
        · obtain ⟨d, hd⟩ : ∃ d, T = q + 1 + d := ⟨T - q - 1, by omega⟩
          have ed : ((T - q : Nat) : Int) = (d : Int) + 1 := by omega
          rw [ed]
          have hd0 : (0 : Int) < (d : Int) + 1 := by omega
          have hd1 : (d : Int) ≤ 100 := by omega
          have hd2 : (0 : Int) ≤ (d : Int) := by omega
          have hm2 : m2 ≤ 10100 := by
            have h1 := ho2.out.1
            have h2 := hlen.out
            rw [List.length_append, List.length_replicate] at h1
            omega
          have q2 : wr.cell? ⟨b, off + k, none⟩ = some (.int .i64 x) := q1.out wr ho2.out.2.2.1
          have hsrc := Lib.hid (src_int wr x)
          have hone := Lib.hid (one_int x)
          have hzb : w.heap.size ≤ (wr.alloc (.cells #[.int .i64 x] 3)).heap.size := by have := ho2.out.2.2.2; simp; omega
          have hown := Lib.hid (ho2.out.2.1.alloc (.cells #[.int .i64 x] 3))
          have hrep : Hid (sprd f l k ++ List.replicate q x ++ [x] = sprd f l k ++ List.replicate (q + 1) x) := Lib.hid (by rw [List.append_assoc, List.replicate_succ'])
          have HE := Lib.hid ed
          have HD := Lib.hid hd
          clear ed hd
          generalize sprd f l k ++ List.replicate q x = out at *
          go_wp2_with (first
            | (at_builtin; go_must (refine wpList_append_src _ rfl _ _ 50 rfl w.heap.size 3 i0 (.int .i64 0) 1 8 Try.underlying50 hi hz0 hz1 hz2 rfl (by decide) _ _ _ rfl hown.out (some ⟨wr.heap.size, 0, none⟩) 1 1 [.int .i64 x] rfl hsrc.out hone.out (by unfold maxLen; omega) (by omega) hzb ?_)
               intro v' w3 hown' hgrow3 hat3
               obtain ⟨A', c', rfl, o3⟩ := ho2.out.snoc hown' hgrow3
               have O3 := Lib.hid o3
               clear hown' hgrow3 hat3 o3))
          go_roundw
          case rel => exact ⟨q + 1, m2 + 1, A', c', rfl, by have := HD.out; have e : T - (q + 1) = d := by omega
                                                            rw [e], by have := HD.out; omega, Lib.hid (by rw [← hrep.out]; exact O3.out)⟩
          case measure => simp [intOf]
        · have hqT : q = T := by omega
          subst hqT
          have ed : ((q - q : Nat) : Int) = 0 := by omega
          rw [ed]
          clear ed
          go_wp2_with fail
          go_roundw
          case rel => exact ⟨k + 1, m2, A2, c2, rfl, by go_num, by omega, Lib.hid (by rw [hsp.out]; exact ho2.out)⟩
          case measure => simp [intOf]; omega
    · have hkn : k = n := by omega
      subst hkn
      have hlen := sprd_len HF.out l k
      go_wp2_with fail
      go_ret
      have h1 := ho.out.1
      subst h1
      exact ⟨A1, cc, rfl, SlI.own ho.out.2.1 (by omega), ho.out.2.2.1⟩
end Go.Proofs.Ytpladpmkpchndaa
