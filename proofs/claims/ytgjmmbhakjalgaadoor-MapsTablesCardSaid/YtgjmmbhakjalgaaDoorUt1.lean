/-
  Numbers as few bytes: the program's and the document's Put (out of r1's texts).
-/
import Derived.Test.YtgjmmbhakjalgaaDoorUvarP
import Derived.Test.YtgjmmbhakjalgaaDoorKp
import Derived.Test.YtgjmmbhakjalgaaDoorApp
import Derived.WalkSpells
import Derived.WalkLawsBesides
import Derived.Outline
import Derived.Lib.Hide
import Derived.Lib.SlBytesConst
import Derived.Lib.SlBytesRow
import Derived.Deep.RegionWith
import Derived.OrdersHeld
namespace Go.Proofs.YtgjmmbhakjalgaaDoor
open Go.RowKit
set_option linter.unusedSimpArgs false
set_option linter.unusedVariables false
abbrev SlB (w : World) (B : Nat) (A : Option Addr) (n c : Nat) (l : List Nat) : Prop := SlR 1 0 (RC fun b : Nat => [.int .u8 (b : Int)]) w B A n c l ∧ ∀ b ∈ l, b < 256
theorem slb_of {w : World} {B : Nat} {A : Option Addr} {n c : Nat} {xs : List Int} (h : SlR 1 1 (RInt .u8) w B A n c xs) : ∃ l : List Nat, SlB w B A n c l := by
  have hx : ∀ (i : Nat) (x : Int), xs[i]? = some x → (Lit.int .u8 x).wf = true := by
    intro i x hi
    obtain ⟨h1, h2, h3, h4, h5⟩ := h
    have hlt := (List.getElem?_eq_some_iff.1 hi).1
    obtain ⟨b, off, hA, hb, hx⟩ := h5 (by omega)
    obtain ⟨cs, _, _, hr⟩ := hx i x hi
    exact hr.2
  have hw : ∀ x ∈ xs, 0 ≤ x ∧ x ≤ 255 := by
    intro x hm
    obtain ⟨i, hi, rfl⟩ := List.getElem_of_mem hm
    have := hx i xs[i] (List.getElem?_eq_getElem hi)
    simp [Lit.wf, IntKind.min, IntKind.max, IntKind.signed, IntKind.bits] at this
    omega
  refine ⟨xs.map Int.toNat, ⟨by simpa using h.1, h.2.1, h.2.2.1, by simp, fun hn => ?_⟩, ?_⟩
  · obtain ⟨b, off, hA, hb, hx'⟩ := h.2.2.2.2 hn
    refine ⟨b, off, hA, hb, fun i x hi => ?_⟩
    rw [List.getElem?_map] at hi
    cases hxi : xs[i]? with
    | none => rw [hxi] at hi; cases hi
    | some y =>
      rw [hxi] at hi
      simp at hi
      subst hi
      obtain ⟨cs, h1, h2, h3⟩ := hx' i y hxi
      have := hw y (List.mem_of_getElem? hxi)
      refine ⟨cs, h1, h2, ?_⟩
      rw [h3.1]
      show [Value.int .u8 y] = [Value.int .u8 ((y.toNat : Nat) : Int)]
      rw [Int.toNat_of_nonneg this.1]
  · intro b hb
    obtain ⟨x, hx1, rfl⟩ := List.mem_map.1 hb
    have := hw x hx1
    omega
theorem info_byte : (Tryd.prog.info? 5).map (fun i => (i.zero, i.size, i.bytes)) = some (some (.int .u8 0), 1, 1) := by kernel_rfl
def rowB (l : List Nat) : List Value := l.map fun b : Nat => .int .u8 (b : Int)
theorem rowB_app (l m : List Nat) : rowB (l ++ m) = rowB l ++ rowB m := List.map_append
theorem or_byte (n : Nat) (h : n < 18446744073709551616) : bits .or .u8 ((n : Int) % 256) 128 = ((n % 128 + 128 : Nat) : Int) := by
  have e : (n : Int) % 256 = ((n % 256 : Nat) : Int) := by omega
  have h1 := u8_or_nat (n % 256) 128 (by omega) (by omega)
  rw [e]
  refine Eq.trans h1 ?_
  congr 1
  have hd : n % 256 = 128 * (n % 256 / 128) + n % 128 := by omega
  have hb : n % 256 / 128 = 0 ∨ n % 256 / 128 = 1 := by omega
  rw [Nat.or_comm]
  rcases hb with hb | hb
  · have : n % 256 = n % 128 := by omega
    rw [this, nat_join 7 128 (n % 128) (by omega) (by omega)]
    omega
  · have : n % 256 = 128 + n % 128 := by omega
    have hj := nat_join 7 128 (n % 128) (by omega) (by omega)
    rw [this, ← hj, ← Nat.or_assoc, Nat.or_self, hj]
    omega
theorem wrap_byte (n : Nat) (h : n < 128) : IntKind.u8.wrap (n : Int) = (n : Int) := by rw [IntKind.wrap_u8]; omega
set_option maxRecDepth 100000 in
set_option maxHeartbeats 1000000 in
theorem uvar_Put_any (base m : Nat) (v : Value) (ys : List Nat) (n : Nat) (w : World) (hn : n < 18446744073709551616) (hm : m ≤ 100000) (hbase : base ≤ w.heap.size)
    (hown : w.ownsRow base 5 1 v m (rowB ys)) :
    Calls Tryd.prog 21 #[v, .int .u64 (n : Int)] w fun e w' => ∃ v', e = .returned v' ∧ w'.ownsRow base 5 1 v' (m + (putM n).length) (rowB (ys ++ putM n)) ∧ Below base w w' := by
  obtain ⟨i0, hi, hz0, hz1, hz2⟩ := info_parts info_byte
  have hys : ys.length = m := by have := hown.1; simpa [rowB] using this
  have HM := Lib.hid hys
  clear hys
  go_enter Tryd.func21, Tryd.ntmps21
  go_wp2
  go_loopw [0, 1] (fun b x wr => ∃ (f k p : Nat) (l : List Nat), k = l.length ∧ x = .int .u64 (p : Int) ∧ p < 18446744073709551616 ∧ Hid (p < 2 * 128 ^ f) ∧ Hid (l ++ putF f p = ys ++ putM n) ∧ k + f ≤ m + 9 ∧ wr.ownsRow base 5 1 b k (rowB l) ∧ Below base w wr ∧ base ≤ wr.heap.size) (fun _ x _ => (intOf x).toNat)
  case atStart => exact ⟨9, m, n, ys, HM.out.symm, rfl, hn, (by show n < 2 * 128 ^ 9; rw [lim9]; exact hn), rfl, by omega, hown, Below.refl _ _, hbase⟩
  case round =>
    clear hown
    obtain ⟨f, k, p, l, hk, rfl, hp, hpf, hput, hkf, hown, hbw, hsz⟩ := hrel
    have HK := Lib.hid hk
    clear hk
    by_cases hlt : p < 128
    · have hlt' : (p : Int) < 128 := by omega
      have hwb := wrap_byte p hlt
      have hfin : Hid (putF f p = [p]) := by
        show putF f p = [p]
        cases f with
        | zero => rfl
        | succ f => unfold putF; rw [if_pos hlt]
      go_wp2_with (first
        | (at_builtin; go_must (refine wpList_append_own _ rfl _ _ 31 rfl base 5 i0 (.int .u8 0) 1 1 Tryd.underlying31 hi hz0 hz1 hz2 rfl (by decide) _ _ _ rfl (hown.alloc _) ⟨wr.heap.size, 0, none⟩ 1 1 [.int .u8 (p : Int)] rfl rfl (cell_one_new _ _ _) (fun x hx => by simp at hx; subst hx; rfl) (by unfold maxLen; omega) (by omega) (by simp; omega) ?_); intro v' w3 hown' hgrow3 hnil3
           have X : Hid (w3.ownsRow base 5 1 v' (m + (putM n).length) (rowB (ys ++ putM n)) ∧ Below base w w3) := ⟨by
               have h1 : k + 1 = m + (putM n).length := by
                 have := congrArg List.length hput.out
                 rw [hfin.out] at this
                 simp only [List.length_append, List.length_cons, List.length_nil] at this
                 have := HM.out
                 have := HK.out
                 omega
               rw [← hput.out, hfin.out, rowB_app, ← h1]
               exact hown', Below.grown (hbw.alloc hsz _) hgrow3 (by simp; omega) (fun j hj => (hown.lt _ hj).1)⟩
           clear hown' hgrow3 hnil3))
      go_ret
      exact ⟨_, rfl, X.out.1, X.out.2⟩
    · have hge : (128 : Int) ≤ (p : Int) := by omega
      have hob := or_byte p hp
      have hf : ∃ f', f = f' + 1 := by
        cases f with
        | zero =>
          have := hpf.out
          simp at this
          omega
        | succ f => exact ⟨f, rfl⟩
      obtain ⟨f', rfl⟩ := hf
      have hfin : Hid (putF (f' + 1) p = (p % 128 + 128) :: putF f' (p / 128)) := by
        show putF (f' + 1) p = _
        rw [putF, if_neg hlt]
      have HOB := Lib.hid hob
      clear hob
      obtain ⟨q, hq⟩ : ∃ q : Nat, p % 128 + 128 = q := ⟨_, rfl⟩
      rw [hq] at HOB hfin
      have hdiv : (p : Int) / 128 = ((p / 128 : Nat) : Int) := by omega
      have HD := Lib.hid hdiv
      clear hdiv hq
      go_wp2_with (first
        | (at_builtin; go_must (refine wpList_append_own _ rfl _ _ 31 rfl base 5 i0 (.int .u8 0) 1 1 Tryd.underlying31 hi hz0 hz1 hz2 rfl (by decide) _ _ _ rfl (hown.alloc _) ⟨wr.heap.size, 0, none⟩ 1 1 [.int .u8 (bits .or .u8 ((p : Int) % 256) 128)] rfl rfl (cell_one_new _ _ _) (fun x hx => by simp at hx; subst hx; rfl) (by unfold maxLen; omega) (by omega) (by simp; omega) ?_); intro v' w3 hown' hgrow3 hnil3
           have X : Hid (w3.ownsRow base 5 1 v' (k + 1) (rowB (l ++ [q])) ∧ Below base w w3) := ⟨by
               rw [rowB_app]
               rw [HOB.out] at hown'
               exact hown', Below.grown (hbw.alloc hsz _) hgrow3 (by simp; omega) (fun j hj => (hown.lt _ hj).1)⟩
           have hsz3 : base ≤ w3.heap.size := Nat.le_trans hsz (Nat.le_trans (by simp) hgrow3.size)
           clear hown' hgrow3 hnil3))
      go_roundw
      case rel =>
        refine ⟨f', k + 1, p / 128, l ++ [q], by simp [HK.out], by rw [HD.out], by omega, ?_, ?_, by omega, X.out.1, X.out.2, hsz3⟩
        · have := hpf.out
          have h2 : p < 128 * (2 * 128 ^ f') := by rw [Nat.pow_succ] at this; omega
          exact Nat.div_lt_of_lt_mul h2
        · have := hput.out
          rw [hfin.out] at this
          show l ++ [q] ++ putF f' (p / 128) = _
          rw [← this]
          simp
      case measure => simp only [intOf]; omega
theorem own_below {base : Nat} {e : TypeId} {size : Nat} {v : Value} {n : Nat} {xs : List Value} {w w' : World} (h : w.ownsRow base e size v n xs) (hb : Below w.heap.size w w') : w'.ownsRow base e size v n xs := by
  refine ⟨h.1, ?_⟩
  rcases h.2 with h2 | ⟨g, cap, cur, a, b, c, d⟩
  · exact .inl h2
  · exact .inr ⟨g, cap, cur, a, b, (hb.block g (Array.getElem?_eq_some_iff.1 c).1).trans c, d⟩
def IsBytes (l : List Nat) (w : World) (e : Ending) (w' : World) : Prop := ∃ g cap, e = .returned (.slice (some ⟨g, 0, none⟩) l.length cap) ∧ w'.ownsRow w.heap.size 5 1 (.slice (some ⟨g, 0, none⟩) l.length cap) l.length (rowB l) ∧ Below w.heap.size w w'
theorem add_byte (n : Nat) : IntKind.u8.wrap ((n : Int) % 128 + 128) = ((n % 128 + 128 : Nat) : Int) := by rw [IntKind.wrap_u8]; omega
set_option maxRecDepth 100000 in
set_option maxHeartbeats 1000000 in
theorem ref_Put_any : ∀ (f n : Nat) (w : World), f ≤ 9 → n < 18446744073709551616 → n < 2 * 128 ^ f → Calls Tryd.prog 22 #[.int .u64 (n : Int)] w (IsBytes (putF f n) w) := by
  obtain ⟨i0, hi, hz0, hz1, hz2⟩ := info_parts info_byte
  intro f
  induction f with
  | zero =>
    intro n w _ _ hn
    have hlt : n < 128 := by simp at hn; omega
    have hlt' : (n : Int) < 128 := by omega
    have hwb := wrap_byte n hlt
    clear hn
    go_enter Tryd.func22, Tryd.ntmps22
    go_wp2
    go_ret
    exact ⟨w.heap.size, 1, rfl, World.ownsRow_lit _ _ 1 (Nat.le_refl _) (by unfold maxLen; omega) rfl, (Below.refl _ _).alloc (Nat.le_refl _) _⟩
  | succ f ih =>
    intro n w hf h64 hn
    by_cases hlt : n < 128
    · have hlt' : (n : Int) < 128 := by omega
      have hwb := wrap_byte n hlt
      clear hn
      rw [show putF (f + 1) n = [n] by rw [putF, if_pos hlt]]
      go_enter Tryd.func22, Tryd.ntmps22
      go_wp2
      go_ret
      exact ⟨w.heap.size, 1, rfl, World.ownsRow_lit _ _ 1 (Nat.le_refl _) (by unfold maxLen; omega) rfl, (Below.refl _ _).alloc (Nat.le_refl _) _⟩
    · rw [show putF (f + 1) n = (n % 128 + 128) :: putF f (n / 128) by rw [putF, if_neg hlt]]
      have hge : ¬ ((n : Int) < 128) := by omega
      have hge' : (128 : Int) ≤ (n : Int) := by omega
      have hdiv : (n : Int) / 128 = ((n / 128 : Nat) : Int) := by omega
      have c1 : ∀ w : World, Hid (Calls Tryd.prog 22 #[.int .u64 ((n : Int) / 128)] w (IsBytes (putF f (n / 128)) w)) := fun w => by
        rw [hdiv]
        refine ih (n / 128) w (by omega) (by omega) ?_
        have h2 : n < 128 * (2 * 128 ^ f) := by rw [Nat.pow_succ] at hn; omega
        exact Nat.div_lt_of_lt_mul h2
      have hlen := putF_len f (n / 128)
      clear hdiv ih hn
      have HA := Lib.hid (add_byte n)
      obtain ⟨l, hl⟩ : ∃ l, putF f (n / 128) = l := ⟨_, rfl⟩
      rw [hl] at c1 hlen ⊢
      clear hl
      have hr256 : (0 : Int) ≤ (n : Int) % 128 := by omega
      have hr257 : (n : Int) % 128 < 128 := by omega
      go_enter Tryd.func22, Tryd.ntmps22
      go_wp2_with fail
      refine Calls.mono (c1 _).out ?_
      rintro e w2 ⟨g, cap, rfl, hown, hb⟩
      have hcellv : Value.int .u8 ((n : Int) % 128 + 128) = Value.int .u8 ((n % 128 + 128 : Nat) : Int) := by rw [show (n : Int) % 128 + 128 = ((n % 128 + 128 : Nat) : Int) by omega]
      have hown1 : w2.ownsRow w.heap.size 5 1 (.slice (some ⟨w.heap.size, 0, none⟩) 1 1) 1 [.int .u8 ((n : Int) % 128 + 128)] := own_below (World.ownsRow_lit w #[.int .u8 ((n : Int) % 128 + 128)] 1 (Nat.le_refl _) (by unfold maxLen; omega) rfl) hb
      have hbw : Below w.heap.size w w2 := ((Below.refl _ _).alloc (Nat.le_refl _) _).trans (hb.mono (by simp))
      have hsz : w.heap.size ≤ w2.heap.size := hbw.size
      have hlen2 : (rowB l).length = l.length * 1 := by simp [rowB]
      have hone : ∀ u ∈ rowB l, u.oneCell' = true := by
        intro u hu
        obtain ⟨b, _, rfl⟩ := List.mem_map.1 hu
        rfl
      have hcl := hown.cells (g := g) rfl
      have HCV := Lib.hid hcellv
      clear hcellv hb
      go_wp2_with (first
        | (at_builtin; go_must (refine wpList_append_own _ rfl _ _ 31 rfl w.heap.size 5 i0 (.int .u8 0) 1 1 Tryd.underlying31 hi hz0 hz1 hz2 rfl (by decide) _ _ _ rfl hown1 ⟨g, 0, none⟩ l.length cap (rowB l) rfl hlen2 hcl hone (by unfold maxLen; omega) (by omega) hsz ?_); intro v' w3 hown' hgrow3 hnil3
           have X : Hid (∃ g cap, v' = .slice (some ⟨g, 0, none⟩) (l.length + 1) cap ∧ w3.ownsRow w.heap.size 5 1 (.slice (some ⟨g, 0, none⟩) (l.length + 1) cap) (l.length + 1) (rowB ((n % 128 + 128) :: l)) ∧ Below w.heap.size w w3) := by
             have hb3 : Below w.heap.size w w3 := Below.grown hbw hgrow3 hsz (fun j hj => (hown1.lt _ hj).1)
             rw [HCV.out, Nat.add_comm 1 l.length] at hown'
             have hown'' := hown'
             rcases hown'.2 with ⟨_, h0⟩ | ⟨g', cap', cur, hv, _⟩
             · omega
             · exact ⟨g', cap', hv, by rw [← hv]; exact hown'', hb3⟩
           clear hown' hgrow3 hnil3 hcl hone))
      go_ret
      obtain ⟨g', cap', rfl, h1, h2⟩ := X.out
      exact ⟨g', cap', rfl, h1, h2⟩
theorem isBytes_of {l : List Nat} {w w' : World} {v : Value} (hl : 0 < l.length) (h : w'.ownsRow w.heap.size 5 1 v l.length (rowB l)) (hb : Below w.heap.size w w') : IsBytes l w (.returned v) w' := by
  have h' := h
  rcases h.2 with ⟨_, h0⟩ | ⟨g', cap', cur, hv, _⟩
  · omega
  · subst hv
    exact ⟨g', cap', rfl, h', hb⟩
theorem slb_own {w : World} {base : Nat} {g cap : Nat} {l : List Nat} (h : w.ownsRow base 5 1 (.slice (some ⟨g, 0, none⟩) l.length cap) l.length (rowB l)) (hb : ∀ b ∈ l, b < 256) : SlB w w.heap.size (some ⟨g, 0, none⟩) l.length cap l := by
  obtain ⟨A, c, hv, hs⟩ := SlR.of_own (bytes := 0) (f := fun b : Nat => Value.int .u8 (b : Int)) (xs := l) h (by simp)
  simp only [Value.slice.injEq, true_and] at hv
  obtain ⟨rfl, rfl⟩ := hv
  exact ⟨hs, hb⟩
theorem own_go {w a w' : World} {base m k : Nat} {v v' : Value} {xs : List Value} {l : List Nat} (hown' : w'.ownsRow base 5 1 v' k (rowB l)) (hk : 0 < k) (hown : a.ownsRow base 5 1 v m xs) (hg : a.grownBy w' v.ownBlock) (hb : Below base w a) (hs : base ≤ a.heap.size) :
    Hid (∃ g cap, v' = .slice (some ⟨g, 0, none⟩) k cap ∧ w'.ownsRow base 5 1 (.slice (some ⟨g, 0, none⟩) k cap) k (rowB l) ∧ Below base w w') := by
  have hb3 : Below base w w' := Below.grown hb hg hs (fun j hj => (hown.lt _ hj).1)
  have hown'' := hown'
  rcases hown'.2 with ⟨_, h0⟩ | ⟨g', cap', cur, hv, _⟩
  · omega
  · exact ⟨g', cap', hv, by rw [← hv]; exact hown'', hb3⟩
theorem flat_row (l : List Nat) : (l.flatMap fun b : Nat => [Value.int .u8 (b : Int)]) = rowB l := by
  unfold rowB
  induction l with
  | nil => rfl
  | cons a l ih => rw [List.flatMap_cons, ih]; rfl
theorem slb_src {w : World} {B : Nat} {A : Option Addr} {n c : Nat} {l : List Nat} (h : SlB w B A n c l) : SrcCells w A n 1 (rowB l) := by
  have := SlR.src (f := fun b : Nat => [Value.int .u8 (b : Int)]) (fun _ => rfl) h.1
  rw [flat_row] at this
  exact this
theorem src_below {w w' : World} {B : Nat} {A : Option Addr} {n c : Nat} {l : List Nat} (h : SlB w B A n c l) (hb : Below B w w') : SrcCells w' A n 1 (rowB l) :=
  slb_src ⟨h.1.keep (stable_rc _) (fun p hp => hb.cell hp), h.2⟩
theorem row_one (l : List Nat) : ∀ u ∈ rowB l, u.oneCell' = true := by
  intro u hu
  obtain ⟨b, _, rfl⟩ := List.mem_map.1 hu
  rfl
theorem own_empty (w : World) (base : Nat) (hb : base ≤ w.heap.size) : (w.alloc (.cells #[] 5)).ownsRow base 5 1 (.slice (some ⟨w.heap.size, 0, none⟩) 0 0) 0 (rowB []) :=
  World.ownsRow_lit w #[] 0 hb (by unfold maxLen; omega) rfl
def strB (l : List Nat) : ByteArray := ⟨(l.map UInt8.ofNat).toArray⟩
theorem strB_app (l m : List Nat) : strB (l ++ m) = strB l ++ strB m := by
  apply ByteArray.ext
  unfold strB
  rw [ByteArray.data_append]
  simp
theorem conv_zero (W : World) (A : Option Addr) (c : Nat) : (convert 31 9 (.slice A 0 c)).run Tryd.prog W = .ok (.string (strB [])) W := by
  rw [run_convert_bytes_string W 31 9 5 _ 0 c Tryd.underlying31 Tryd.underlying5 Tryd.underlying9]
  cases A <;> simp [Conv.bytesToString, loadCells, strB]
  all_goals rfl
theorem conv_slb {W : World} {B : Nat} {A : Option Addr} {n c : Nat} {l : List Nat} (h : SlB W B A n c l) : (convert 31 9 (.slice A n c)).run Tryd.prog W = .ok (.string (strB l)) W := by
  obtain ⟨⟨h1, h2, h3, h4, h5⟩, hb⟩ := h
  rcases Nat.eq_zero_or_pos n with h0 | h0
  · subst h0
    rw [List.eq_nil_of_length_eq_zero h1]
    exact conv_zero W A c
  · obtain ⟨b, off, rfl, _, hx⟩ := h5 h0
    have hs : (strB l).size = n := by simp [strB, ByteArray.size, h1]
    have := Lib.run_convert_whole (P := Tryd.prog) W 31 5 9 Tryd.underlying31 Tryd.underlying5 Tryd.underlying9 b off (strB l) (fun i hi => by
      rw [hs] at hi
      have hi' : i < l.length := by omega
      obtain ⟨cs, hl, hc, hr⟩ := hx i l[i] (List.getElem?_eq_getElem hi')
      unfold RC at hr
      subst hr
      have := hc 0 _ rfl
      rw [show off + (i * 1 + 0) = off + i by omega] at this
      rw [this]
      have hbi := hb l[i] (List.getElem_mem hi')
      have hx : (strB l)[i]'(by rw [hs]; exact hi) = UInt8.ofNat l[i] := by simp [strB, ByteArray.getElem_eq_getElem_data]
      rw [hx]
      simp
      omega) c
    rw [hs] at this
    exact this
end Go.Proofs.YtgjmmbhakjalgaaDoor
