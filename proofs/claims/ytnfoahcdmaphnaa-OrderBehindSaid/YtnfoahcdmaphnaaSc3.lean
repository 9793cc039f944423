/-
  Circles: the walk from a thing.
-/
import Derived.Test.YtnfoahcdmaphnaaSc2
namespace Go.Proofs.Ytnfoahcdmaphnaa
open Go.RowKit
set_option linter.unusedSimpArgs false
set_option linter.unusedVariables false
theorem wp_scope_two {P : Program} {a : Act} {w : World} {Q : Exit → Act → World → Prop} {c rest : Code} (l : Nat) (J : Act → World → Prop) (μ : Act → World → Nat) (hf : findLabel c l = some (Code.skip.seq rest))
    (pass : ∀ a w, J a w → ∀ Jx : Act → World → Prop, (∀ a' w', J a' w' → μ a' w' < μ a w → Jx a' w') → rest.wp P (Exit.jump l Jx Q) a w)
    (first : (∀ a w, J a w → rest.wp P (Exit.jump l J Q) a w) → c.wp P (Exit.jump l J Q) a w) : (Code.scope c).wp P Q a w :=
  wp_scope_jumps l J μ hf (first fun a w h => pass a w h J (fun _ _ h _ => h)) (fun a w h => wp_seq (wp_skip (pass a w h _ (fun _ _ h1 h2 => ⟨h1, h2⟩))))
/-- What the walk's cells tell of how far it has gone. -/
def clockOf (q : Nat) (w : World) : Nat := match w.cell? ⟨q, 6, none⟩ with
  | some (.int _ c) => c.toNat
  | _ => 0
def intAt (w : World) (b o : Nat) : Nat := match w.cell? ⟨b, o, none⟩ with
  | some (.int _ c) => c.toNat
  | _ => 0
def walkOf (q : Nat) (w : World) : List (Nat × Nat) := match w.cell? ⟨q, 1, none⟩ with
  | some (.slice (some a) n _) => (List.range n).map fun i => (intAt w a.block (i * 2 + 0), intAt w a.block (i * 2 + 1))
  | _ => []
def muW (g : Gr) (q : Nat) (w : World) : Nat := mu g (walkOf q w) (clockOf q w)
theorem SC.muW {B B2 q s l h : Nat} {GA : Option Addr} {n gc : Nat} {r wn wc : Nat} {HA : Option Addr} {hn hc : Nat} {walk : List (Nat × Nat)} {seen low : Nat → Nat} {held : List Nat} {home : Nat → Int} {clock : Nat} {W : World} (g : Gr)
    (H : SC B B2 q s l h GA n gc (some ⟨r, 0, none⟩) wn wc HA hn hc walk seen low held home clock W) : muW g q W = mu g walk clock := by
  have h1 : clockOf q W = clock := by
    unfold clockOf
    rw [H.qc.at_ 6 _ rfl]
    simp
  have h2 : walkOf q W = walk := by
    unfold walkOf
    rw [H.qc.at_ 1 _ rfl]
    apply List.ext_getElem?
    intro i
    have hl := H.len.1
    by_cases hi : i < wn
    · obtain ⟨p, hp⟩ : ∃ p, walk[i]? = some p := ⟨_, List.getElem?_eq_getElem (by omega)⟩
      have e0 := H.wo.cells (g := r) rfl (i * 2 + 0) (.int .i64 (p.1 : Int)) (by unfold rowSp; exact flatMap_at cellsSp (fun _ => rfl) walk i 0 p _ (by omega) hp rfl)
      have e1 := H.wo.cells (g := r) rfl (i * 2 + 1) (.int .i64 (p.2 : Int)) (by unfold rowSp; exact flatMap_at cellsSp (fun _ => rfl) walk i 1 p _ (by omega) hp rfl)
      rw [add_zero_at] at e0 e1
      rw [hp]
      simp only [List.getElem?_map, List.getElem?_range hi, Option.map_some, intAt, e0, e1]
      simp
    · rw [List.getElem?_eq_none (by simp; omega), List.getElem?_eq_none (by omega)]
  unfold Go.Proofs.Ytnfoahcdmaphnaa.muW
  rw [h1, h2]
def GoodF (B B2 q s l h : Nat) (GA : Option Addr) (n gc : Nat) (g : Gr) (seen0 : Nat → Nat) (v : Nat) (W0 : World) (w : World) : Prop :=
  ∃ (init : List (Nat × Nat)) (x k r wc : Nat) (HA : Option Addr) (hn hc : Nat) (seen low : Nat → Nat) (held : List Nat) (home : Nat → Int) (clock : Nat),
    SC B B2 q s l h GA n gc (some ⟨r, 0, none⟩) (init.length + 1) wc HA hn hc (init ++ [(x, k)]) seen low held home clock w ∧ Inv g (init ++ [(x, k)]) seen low held home clock ∧ (∀ u, seen0 u ≠ 0 → seen u ≠ 0) ∧ seen v ≠ 0 ∧ Below B W0 w
def IsFrom (B B2 q s l h : Nat) (GA : Option Addr) (n gc : Nat) (g : Gr) (seen0 : Nat → Nat) (v : Nat) (W0 : World) (e : Ending) (w : World) : Prop :=
  (∃ r, e = .returned r) ∧ ∃ (WA : Option Addr) (wc : Nat) (HA : Option Addr) (hc : Nat) (seen low : Nat → Nat) (home : Nat → Int) (clock : Nat),
    SC B B2 q s l h GA n gc WA 0 wc HA 0 hc [] seen low [] home clock w ∧ Inv g [] seen low [] home clock ∧ (∀ u, seen0 u ≠ 0 → seen u ≠ 0) ∧ seen v ≠ 0 ∧ Below B W0 w
theorem held_len {g : Gr} {walk : List (Nat × Nat)} {seen low : Nat → Nat} {held : List Nat} {home : Nat → Int} {clock : Nat} (h : Inv g walk seen low held home clock) : held.length ≤ g.length :=
  nodup_le _ _ (h.hs.imp fun hab e => by rw [e] at hab; omega) fun v hv => (h.hm v hv).1
theorem walk_len {g : Gr} {walk : List (Nat × Nat)} {seen low : Nat → Nat} {held : List Nat} {home : Nat → Int} {clock : Nat} (h : Inv g walk seen low held home clock) : walk.length ≤ g.length := by
  have := nodup_le g.length (walk.map fun p => p.1) (by
    rw [List.Nodup, List.pairwise_map]
    exact h.ws.imp fun hab e => by rw [e] at hab; omega) fun v hv => by
      obtain ⟨p, hp, rfl⟩ := List.mem_map.1 hv
      exact (h.hm _ (h.wh p hp).1).1
  simpa using this
theorem SC.good {B B2 q s l h : Nat} {GA : Option Addr} {n gc : Nat} {r wn wc : Nat} {HA : Option Addr} {hn hc : Nat} {init : List (Nat × Nat)} {x k : Nat} {seen low : Nat → Nat} {held : List Nat} {home : Nat → Int} {clock : Nat} {w W : World} {g : Gr} {seen0 : Nat → Nat} {v : Nat}
    (H : SC B B2 q s l h GA n gc (some ⟨r, 0, none⟩) wn wc HA hn hc (init ++ [(x, k)]) seen low held home clock w) (I : Inv g (init ++ [(x, k)]) seen low held home clock) (hm : (∀ u, seen0 u ≠ 0 → seen u ≠ 0) ∧ seen v ≠ 0) (hb : Below B W w) : GoodF B B2 q s l h GA n gc g seen0 v W w := by
  have hl := H.len.1
  simp at hl
  subst hl
  exact ⟨init, x, k, r, wc, HA, hn, hc, seen, low, held, home, clock, H, I, hm.1, hm.2, hb⟩
theorem SC.wform {B B2 q s l h : Nat} {GA : Option Addr} {n gc : Nat} {WA : Option Addr} {wn wc : Nat} {HA : Option Addr} {hn hc : Nat} {walk : List (Nat × Nat)} {seen low : Nat → Nat} {held : List Nat} {home : Nat → Int} {clock : Nat} {w : World}
    (H : SC B B2 q s l h GA n gc WA wn wc HA hn hc walk seen low held home clock w) (h0 : 0 < wn) : ∃ r, WA = some ⟨r, 0, none⟩ := by
  obtain ⟨A', c', hv, h1, h2⟩ := own_form H.wo
  simp only [Value.slice.injEq, true_and] at hv
  obtain ⟨rfl, rfl⟩ := hv
  cases WA with
  | none => exact absurd (h1 rfl) (by omega)
  | some ad =>
    obtain ⟨g, rfl, _⟩ := h2 ad rfl
    exact ⟨g, rfl⟩
theorem upd_nz {f : Nat → Nat} {a c u : Nat} (h : f u ≠ 0) : upd f a (c + 1) u ≠ 0 := by
  by_cases e : u = a
  · subst e; rw [upd_same]; omega
  · rw [upd_other _ _ e]; exact h
theorem own_cap {W : World} {base : Nat} {e : TypeId} {sz : Nat} {A : Option Addr} {n c : Nat} {xs : List Value} (h : W.ownsRow base e sz (.slice A n c) n xs) : n ≤ c := by
  rcases h.2 with ⟨hv, rfl⟩ | ⟨g, cap, cur, hv, _, _, h1, _⟩
  · exact Nat.zero_le _
  · simp only [Value.slice.injEq, true_and] at hv
    omega
theorem rowSp_take (a b : List (Nat × Nat)) : (rowSp (a ++ b)).take (a.length * 2) = rowSp a := by
  have hl : (rowSp a).length = a.length * 2 := by unfold rowSp; rw [flatMap_len cellsSp (sz := 2) (fun _ => rfl)]
  have h2 : rowSp (a ++ b) = rowSp a ++ rowSp b := by simp [rowSp]
  rw [h2, List.take_append_of_le_length (by omega), List.take_of_length_le (by omega)]
theorem snoc_of {l : List (Nat × Nat)} {n : Nat} (h : l.length = n + 1) : ∃ i x k, l = i ++ [(x, k)] := by
  rcases List.eq_nil_or_concat l with rfl | ⟨i, p, rfl⟩
  · simp at h
  · exact ⟨i, p.1, p.2, by rw [List.concat_eq_append]⟩
theorem Inv.skip0 {g : Gr} {init : List (Nat × Nat)} {x k : Nat} {t : Int} {seen low : Nat → Nat} {held : List Nat} {home : Nat → Int} {clock : Nat} (h : Inv g (init ++ [(x, k)]) seen low held home clock) (ht : (rowG g x)[k]? = some t) : (init ++ [(x, k + 1)]).length ≤ g.length ∧ held.length ≤ g.length ∧ clock ≤ g.length := by
  have := walk_len h
  simp at this ⊢
  exact ⟨this, held_len h, h.clock_le⟩
theorem walk_last {B B2 q s l h : Nat} {GA : Option Addr} {n gc : Nat} {r wn wc : Nat} {HA : Option Addr} {hn hc : Nat} {init : List (Nat × Nat)} {x k : Nat} {seen low : Nat → Nat} {held : List Nat} {home : Nat → Int} {clock : Nat} {W : World}
    (H : SC B B2 q s l h GA n gc (some ⟨r, 0, none⟩) wn wc HA hn hc (init ++ [(x, k)]) seen low held home clock W) : W.cell? ⟨r, init.length * 2, none⟩ = some (.int .i64 (x : Int)) ∧ W.cell? ⟨r, init.length * 2 + 1, none⟩ = some (.int .i64 (k : Int)) ∧ W.frozen? ⟨r, init.length * 2 + 1, none⟩ = false := by
  have hp : (init ++ [(x, k)])[init.length]? = some (x, k) := by simp
  have e0 := H.wo.cells (g := r) rfl (init.length * 2 + 0) (.int .i64 (x : Int)) (by unfold rowSp; exact flatMap_at cellsSp (fun _ => rfl) _ init.length 0 (x, k) _ (by omega) hp rfl)
  have e1 := H.wo.cells (g := r) rfl (init.length * 2 + 1) (.int .i64 (k : Int)) (by unfold rowSp; exact flatMap_at cellsSp (fun _ => rfl) _ init.length 1 (x, k) _ (by omega) hp rfl)
  rw [add_zero_at] at e0 e1
  exact ⟨by simpa using e0, e1, H.wo.frozenAt _⟩

def lst (f : Nat → Value) : Nat → Nat → List Value
  | 0, _ => []
  | n + 1, i => f i :: lst f n (i + 1)
theorem lst_of : ∀ (l : List Value) (f : Nat → Value) (i : Nat), (∀ j v, l[j]? = some v → f (i + j) = v) → l = lst f l.length i
  | [], _, _, _ => rfl
  | a :: l, f, i, h => by
    have h0 := h 0 a rfl
    rw [Nat.add_zero] at h0
    show a :: l = f i :: lst f l.length (i + 1)
    rw [h0, ← lst_of l f (i + 1) fun j v hj => by have := h (j + 1) v hj; rw [← this]; congr 1; omega]
theorem lit_frame (q : Nat) (a : Act) (h : a.defers = [] ∧ a.tmps.size = 183 ∧ a.tmps[0]? = some (.pointer (some ⟨q, 0, none⟩))) : ∃ f : Nat → Value, a = { tmps := #[.pointer (some ⟨q, 0, none⟩), f 1, f 2, f 3, f 4, f 5, f 6, f 7, f 8, f 9, f 10, f 11, f 12, f 13, f 14, f 15, f 16, f 17, f 18, f 19, f 20, f 21, f 22, f 23, f 24, f 25, f 26, f 27, f 28, f 29, f 30, f 31, f 32, f 33, f 34, f 35, f 36, f 37, f 38, f 39, f 40, f 41, f 42, f 43, f 44, f 45, f 46, f 47, f 48, f 49, f 50, f 51, f 52, f 53, f 54, f 55, f 56, f 57, f 58, f 59, f 60, f 61, f 62, f 63, f 64, f 65, f 66, f 67, f 68, f 69, f 70, f 71, f 72, f 73, f 74, f 75, f 76, f 77, f 78, f 79, f 80, f 81, f 82, f 83, f 84, f 85, f 86, f 87, f 88, f 89, f 90, f 91, f 92, f 93, f 94, f 95, f 96, f 97, f 98, f 99, f 100, f 101, f 102, f 103, f 104, f 105, f 106, f 107, f 108, f 109, f 110, f 111, f 112, f 113, f 114, f 115, f 116, f 117, f 118, f 119, f 120, f 121, f 122, f 123, f 124, f 125, f 126, f 127, f 128, f 129, f 130, f 131, f 132, f 133, f 134, f 135, f 136, f 137, f 138, f 139, f 140, f 141, f 142, f 143, f 144, f 145, f 146, f 147, f 148, f 149, f 150, f 151, f 152, f 153, f 154, f 155, f 156, f 157, f 158, f 159, f 160, f 161, f 162, f 163, f 164, f 165, f 166, f 167, f 168, f 169, f 170, f 171, f 172, f 173, f 174, f 175, f 176, f 177, f 178, f 179, f 180, f 181, f 182], defers := [] } := by
  obtain ⟨t, ds⟩ := a
  obtain ⟨h1, h2, h3⟩ := h
  dsimp only at h1 h2 h3
  subst h1
  obtain ⟨l⟩ := t
  cases l with
  | nil => simp at h2
  | cons x l =>
    simp at h2 h3
    subst h3
    refine ⟨fun i => (l[i - 1]?).getD undef, ?_⟩
    have e := lst_of l (fun i => (l[i - 1]?).getD undef) 1 (fun j v hj => by simp [hj])
    rw [h2] at e
    conv => lhs; rw [e]
    rfl

set_option maxRecDepth 100000 in
set_option maxHeartbeats 16000000 in
theorem from_any (B B2 q s l h : Nat) (GA : Option Addr) (n gc : Nat) (g : Gr) (WA : Option Addr) (wc : Nat) (HA : Option Addr) (hc : Nat) (seen0 low0 : Nat → Nat) (home0 : Nat → Int) (clock0 v : Nat) (W : World)
    (H0 : SC B B2 q s l h GA n gc WA 0 wc HA 0 hc [] seen0 low0 [] home0 clock0 W) (I0 : Inv g [] seen0 low0 [] home0 clock0) (hG : ∀ w, Below B W w → GrW w B GA n gc g) (hB2 : B2 ≤ W.heap.size) (hv : v < n) (hs : seen0 v = 0) (hnn : n ≤ 50) (hrow : ∀ i, (rowG g i).length ≤ 60) (hgl : g.length = n) :
    Calls Try.prog 39 #[.pointer (some ⟨q, 0, none⟩), .int .i64 (v : Int)] W (IsFrom B B2 q s l h GA n gc g seen0 v W) := by
  have HG := Lib.hid hG
  have HB2 := Lib.hid hB2
  have HROW := Lib.hid hrow
  have HGL := Lib.hid hgl
  have HI0 := Lib.hid I0
  have H := Lib.hid H0
  have cM0 := Lib.hid (meet_any B B2 q s l h GA n gc WA 0 wc HA 0 hc [] seen0 low0 [] home0 clock0 v W H0 hB2 hv (by omega) (by omega) (by have := I0.clock_le; omega) hnn)
  have HMET : Hid (∀ init x k r wn wc2 HA2 hn hc2 seen low held home clock (t : Nat) (w : World), SC B B2 q s l h GA n gc (some ⟨r, 0, none⟩) wn wc2 HA2 hn hc2 (init ++ [(x, k)]) seen low held home clock w → ((init ++ [(x, k)]).length ≤ g.length ∧ held.length ≤ g.length ∧ clock ≤ g.length) → Below B W w → t < n → Calls Try.prog 53 #[.pointer (some ⟨q, 0, none⟩), .int .i64 (t : Int)] w (IsMeet B B2 q s l h GA n gc wn hn (init ++ [(x, k)]) seen low held home clock t w)) := Lib.hid (fun init x k r wn wc2 HA2 hn hc2 seen low held home clock t w h1 h2 h3 h4 => meet_any B B2 q s l h GA n gc _ wn wc2 HA2 hn hc2 _ seen low held home clock t w h1 (by have := h3.size; omega) h4 (by have := h2.1; have := h1.len.1; omega) (by have := h2.2.1; have := h1.len.2; omega) (by have := h2.2.2; omega) hnn)
  have HV : Hid (v < n ∧ seen0 v = 0) := Lib.hid ⟨hv, hs⟩
  clear hG hB2 hrow hgl I0 H0 hv hs
  go_enter Try.func39, Try.ntmps39
  refine wp_scope_two 0 (fun a w => (a.defers = [] ∧ a.tmps.size = 183 ∧ a.tmps[0]? = some (.pointer (some ⟨q, 0, none⟩))) ∧ GoodF B B2 q s l h GA n gc g seen0 v W w) (fun _ w => muW g q w) rfl ?_ ?_
  · rintro a0 w0 ⟨hfr, init, x, k, r, wc1, HA1, hn, hc1, seen, low, held, home, clock, X1, X2, X3, X4, X5⟩ Jx hJx
    obtain ⟨f, rfl⟩ := lit_frame q a0 hfr
    clear hfr
    have HS := Lib.hid X1
    have HI := Lib.hid X2
    have HM := Lib.hid (And.intro X3 X4)
    have HBW := Lib.hid X5
    have HJ := Lib.hid hJx
    have hxn : x < n := by have := X2.x_lt.1; have := HGL.out; omega
    have hkl : k ≤ (rowG g x).length := (X2.wh (x, k) (by simp)).2
    have hil := walk_len X2
    rw [HGL.out] at hil
    have HX := Lib.hid hxn
    clear X1 X2 X3 X4 X5 hJx
    obtain ⟨d, hd⟩ : ∃ d, init.length = d := ⟨_, rfl⟩
    have HD := Lib.hid hd
    obtain ⟨y0, y1, y1f⟩ := walk_last HS.out
    simp at hil
    rw [hd] at y0 y1 y1f HS hil
    obtain ⟨bg, og, Ar, nr, cr, rfl, hbg, hgc, hrow⟩ := (HG.out w0 HBW.out).row hxn
    have HRW := Lib.hid hrow
    have hrl := hrow.1
    have hx0 : (0 : Int) ≤ (x : Int) := by omega
    have hxn1 : (x : Int) < (n : Int) := by omega
    have hd0 : (0 : Int) ≤ (d : Int) := by omega
    have hdb : (d : Int) ≤ 50 := by omega
    have hbound : (nr : Int) ≤ 60 := by have := HROW.out x; omega
    clear hd hrow
    have c0 := HS.out.qc.at_ 0 _ rfl
    have c1 := HS.out.qc.at_ 1 _ rfl
    have c2 := HS.out.qc.at_ 2 _ rfl
    have c3 := HS.out.qc.at_ 3 _ rfl
    have c4 := HS.out.qc.at_ 4 _ rfl
    have c5 := HS.out.qc.at_ 5 _ rfl
    have c6 := HS.out.qc.at_ 6 _ rfl
    have f1 := HS.out.qc.fz 1 (by simp)
    have f4 := HS.out.qc.fz 4 (by simp)
    have f6 := HS.out.qc.fz 6 (by simp)
    obtain ⟨n1, n2, n3, n4, n5, n6⟩ := HS.out.ne
    have m1 : ¬ s = q := fun e => n1 e.symm
    have m2 : ¬ l = q := fun e => n2 e.symm
    have m3 : ¬ h = q := fun e => n3 e.symm
    have m4 : ¬ l = s := fun e => n4 e.symm
    have m5 : ¬ h = s := fun e => n5 e.symm
    have m6 : ¬ h = l := fun e => n6 e.symm
    have n1 : ¬ q = s := n1
    have n2 : ¬ q = l := n2
    have n3 : ¬ q = h := n3
    have n4 : ¬ s = l := n4
    have n5 : ¬ s = h := n5
    have n6 : ¬ l = h := n6
    go_wp2_with fail
    go_region
    go_simp
    go_wp2_with fail
    go_region
    go_simp
    by_cases hlt : k < nr
    · obtain ⟨b2, o2, tv, rfl, hb2, htv, hct⟩ := SlR.cell1 (f := Value.int .i64) HRW.out hlt
      have HT := Lib.hid htv
      have hk0 : (0 : Int) ≤ (k : Int) := by omega
      have hkn : (k : Int) < (nr : Int) := by omega
      have hdk : decide (k < nr) = true := by simpa using hlt
      have HKR : Hid (k < (rowG g x).length) := Lib.hid (by rw [hrl]; exact hlt)
      have HMM : Hid ((∀ u, seen0 u ≠ 0 → seen u ≠ 0) ∧ seen v ≠ 0) := HM
      clear htv
      go_upto_region 6 with fail
      obtain ⟨w1, hw1⟩ : ∃ X, (w0.setCell ⟨r, d * 2 + 1, none⟩ (.int .i64 ((k : Int) + 1))).drew.drew = X := ⟨_, rfl⟩
      have HS1 : Hid (SC B B2 q s l h (some ⟨bg, og, none⟩) n gc (some ⟨r, 0, none⟩) (d + 1) wc1 HA1 hn hc1 (init ++ [(x, k + 1)]) seen low held home clock w1) := Lib.hid (by
        have h1 := HS.out.setNext (k + 1) ((k : Int) + 1) (by omega)
        rw [HD.out] at h1
        rw [← hw1]
        exact h1.kp ((Kp.refl (fun _ => False) _).drew.drew))
      have HB1 : Hid (Below B W w1) := Lib.hid (by
        rw [← hw1]
        exact ((HBW.out.setCell (p := ⟨r, d * 2 + 1, none⟩) (by have := (HS.out.wo.lt r rfl).1; have := HS.out.lo.2.2.2.2; show B ≤ r; omega) _).drew).drew)
      rw [hw1]
      clear hw1 y0 y1 y1f c0 c1 c2 c3 c4 c5 c6 f1 f4 f6
      have c0 := HS1.out.qc.at_ 0 _ rfl
      have c1 := HS1.out.qc.at_ 1 _ rfl
      have c2 := HS1.out.qc.at_ 2 _ rfl
      have c3 := HS1.out.qc.at_ 3 _ rfl
      have c4 := HS1.out.qc.at_ 4 _ rfl
      have c5 := HS1.out.qc.at_ 5 _ rfl
      have c6 := HS1.out.qc.at_ 6 _ rfl
      have f1 := HS1.out.qc.fz 1 (by simp)
      have f4 := HS1.out.qc.fz 4 (by simp)
      have f6 := HS1.out.qc.fz 6 (by simp)
      obtain ⟨y0, y1, y1f⟩ := walk_last HS1.out
      rw [HD.out] at y0 y1 y1f
      by_cases htr : 0 ≤ tv ∧ tv < (n : Int)
      · obtain ⟨t, rfl⟩ : ∃ t : Nat, tv = (t : Int) := ⟨tv.toNat, by omega⟩
        have htn : t < n := by omega
        have HTN := Lib.hid htn
        have cI := Lib.hid (sis_any (some ⟨bg, og, none⟩) n gc (t : Int) true (by rw [eq_comm, decide_eq_true_eq]; exact htr) w1)
        have ht0 : (0 : Int) ≤ (t : Int) := by omega
        have htn1 : (t : Int) < (n : Int) := by omega
        have s0 : w1.cell? ⟨s, t, none⟩ = some (.int .i64 (seen t : Int)) := HS1.out.sc.at_ _ _ (arrC_at _ HTN.out)
        have s0f : w1.frozen? ⟨s, t, none⟩ = false := HS1.out.sc.fz _ (by rw [arrC_len]; exact HTN.out)
        have h0 : w1.cell? ⟨h, t, none⟩ = some (.int .i64 (home t)) := HS1.out.hcc.at_ _ _ (arrC_at _ HTN.out)
        have h0f : w1.frozen? ⟨h, t, none⟩ = false := HS1.out.hcc.fz _ (by rw [arrC_len]; exact HTN.out)
        clear htr htn
        by_cases hsz : seen t = 0
        · have t1 : ((seen t : Int) == 0) = true := by simp [hsz]
          have cM := Lib.hid (HMET.out init x (k + 1) r (d + 1) wc1 HA1 hn hc1 seen low held home clock t w1 HS1.out (HI.out.skip0 HT.out) HB1.out HTN.out)
          have HIM := Lib.hid (HI.out.meet HT.out (by rw [HGL.out]; exact HTN.out) hsz)
          have HSZ := Lib.hid hsz
          clear hsz
          go_wp2_with fail
          refine cI.out.mono ?_
          rintro e w' ⟨rfl, rfl⟩
          go_wp2_with fail
          refine cM.out.mono ?_
          rintro e w2 ⟨⟨_, rfl⟩, WA2, wc2, HA2, hc2, hS2, hb2⟩
          have HS2 := Lib.hid hS2
          obtain ⟨r2, rfl⟩ := hS2.wform (by omega)
          have HMM2 : Hid ((∀ u, seen0 u ≠ 0 → upd seen t (clock + 1) u ≠ 0) ∧ upd seen t (clock + 1) v ≠ 0) := Lib.hid ⟨fun u hu => upd_nz (HM.out.1 u hu), upd_nz HM.out.2⟩
          have HB2p : Hid (Below B W w2) := Lib.hid (HB1.out.trans hb2)
          have HMU : Hid (mu g ((init ++ [(x, k + 1)]) ++ [(t, 0)]) (clock + 1) < mu g (init ++ [(x, k)]) clock) := Lib.hid (mu_meet HKR.out HIM.out.clock_le (HROW.out t))
          clear hS2 hb2 cM cI HSZ
          go_wp2_with fail
          go_step3
          refine ⟨rfl, HJ.out _ _ ⟨⟨rfl, rfl, rfl⟩, HS2.out.good HIM.out HMM2.out HB2p.out⟩ ?_⟩
          show muW g q _ < muW g q w0
          rw [HS2.out.muW g, HS.out.muW g]
          exact HMU.out
        · have t1 : ((seen t : Int) == 0) = false := by simp; omega
          have HSZ := Lib.hid hsz
          by_cases hho : home t < 0
          · have t2 : decide (home t < 0) = true := by simpa using hho
            have HIB := Lib.hid (HI.out.back HT.out (by rw [HGL.out]; exact HTN.out) hsz hho)
            have l0 : w1.cell? ⟨l, x, none⟩ = some (.int .i64 (low x : Int)) := HS1.out.lc.at_ _ _ (arrC_at _ HX.out)
            have l0f : w1.frozen? ⟨l, x, none⟩ = false := HS1.out.lc.fz _ (by rw [arrC_len]; exact HX.out)
            clear hsz hho
            go_wp2_with fail
            refine cI.out.mono ?_
            rintro e w' ⟨rfl, rfl⟩
            go_wp2_with fail
            by_cases hsl : seen t < low x
            · have hmn : min (low x) (seen t) = seen t := by omega
              go_region
              go_simp
              apply_assumption
              obtain ⟨w2, hw2⟩ : ∃ X, (w1.setCell ⟨l, x, none⟩ (.int .i64 ((seen t : Nat) : Int))).drew = X := ⟨_, rfl⟩
              have HS2 : Hid (SC B B2 q s l h (some ⟨bg, og, none⟩) n gc (some ⟨r, 0, none⟩) (d + 1) wc1 HA1 hn hc1 (init ++ [(x, k + 1)]) seen (upd low x (min (low x) (seen t))) held home clock w2) := Lib.hid (by
                rw [← hw2]
                exact (HS1.out.setLow HX.out (min (low x) (seen t)) _ (by rw [hmn])).kp ((Kp.refl (fun _ => False) _).drew))
              have HB2p : Hid (Below B W w2) := Lib.hid (by
                rw [← hw2]
                exact (HB1.out.setCell (p := ⟨l, x, none⟩) HS1.out.lo.2.2.1 _).drew)
              rw [hw2]
              clear hw2 hmn
              go_wp2_with fail
              go_step3
              refine ⟨rfl, HJ.out _ _ ⟨⟨rfl, rfl, rfl⟩, HS2.out.good HIB.out HMM.out HB2p.out⟩ ?_⟩
              show muW g q _ < muW g q w0
              rw [HS2.out.muW g, HS.out.muW g]
              exact mu_next HKR.out
            · have hmn : min (low x) (seen t) = low x := by omega
              go_region
              go_simp
              apply_assumption
              obtain ⟨w2, hw2⟩ : ∃ X, (w1.setCell ⟨l, x, none⟩ (.int .i64 ((low x : Nat) : Int))).drew = X := ⟨_, rfl⟩
              have HS2 : Hid (SC B B2 q s l h (some ⟨bg, og, none⟩) n gc (some ⟨r, 0, none⟩) (d + 1) wc1 HA1 hn hc1 (init ++ [(x, k + 1)]) seen (upd low x (min (low x) (seen t))) held home clock w2) := Lib.hid (by
                rw [← hw2]
                exact (HS1.out.setLow HX.out (min (low x) (seen t)) _ (by rw [hmn])).kp ((Kp.refl (fun _ => False) _).drew))
              have HB2p : Hid (Below B W w2) := Lib.hid (by
                rw [← hw2]
                exact (HB1.out.setCell (p := ⟨l, x, none⟩) HS1.out.lo.2.2.1 _).drew)
              rw [hw2]
              clear hw2 hmn
              go_wp2_with fail
              go_step3
              refine ⟨rfl, HJ.out _ _ ⟨⟨rfl, rfl, rfl⟩, HS2.out.good HIB.out HMM.out HB2p.out⟩ ?_⟩
              show muW g q _ < muW g q w0
              rw [HS2.out.muW g, HS.out.muW g]
              exact mu_next HKR.out
          · have t2 : decide (home t < 0) = false := by simpa using hho
            have HIS := Lib.hid (HI.out.skip HT.out (fun u hu e => by (have : u = t := by omega); rw [this]; exact ⟨hsz, by omega⟩))
            clear hsz hho
            go_wp2_with fail
            refine cI.out.mono ?_
            rintro e w' ⟨rfl, rfl⟩
            go_wp2_with fail
            go_step3
            refine ⟨rfl, HJ.out _ _ ⟨⟨rfl, rfl, rfl⟩, HS1.out.good HIS.out HMM.out HB1.out⟩ ?_⟩
            show muW g q _ < muW g q w0
            rw [HS1.out.muW g, HS.out.muW g]
            exact mu_next HKR.out
      · have cI := Lib.hid (sis_any (some ⟨bg, og, none⟩) n gc tv false (by rw [eq_comm, decide_eq_false_iff_not]; exact htr) w1)
        have HI1 := Lib.hid (HI.out.skip HT.out (fun u hu e => absurd (by rw [← HGL.out] at htr; omega) htr))
        clear htr
        go_wp2_with fail
        refine cI.out.mono ?_
        rintro e w' ⟨rfl, rfl⟩
        go_wp2_with fail
        go_step3
        refine ⟨rfl, HJ.out _ _ ⟨⟨rfl, rfl, rfl⟩, HS1.out.good HI1.out HMM.out HB1.out⟩ ?_⟩
        show muW g q _ < muW g q w0
        rw [HS1.out.muW g, HS.out.muW g]
        exact mu_next HKR.out
    · obtain rfl : k = nr := by omega
      have HKN : Hid (k = (rowG g x).length) := Lib.hid (by rw [hrl])
      have hdk : decide (k < k) = false := by simp
      have hcapw : Hid (d + 1 ≤ wc1) := Lib.hid (own_cap HS.out.wo)
      have hcw : (d : Int) ≤ (wc1 : Int) := by have := hcapw.out; omega
      have hcw1 : (d : Int) + 1 ≤ (wc1 : Int) := by have := hcapw.out; omega
      go_wp2_with fail
      go_region
      go_simp
      apply_assumption
      obtain ⟨w1, hw1⟩ : ∃ X, (w0.setCell ⟨q, 1, none⟩ (.slice (some ⟨r, 0, none⟩) d wc1)).drew.drew.drew = X := ⟨_, rfl⟩
      have HS1 : Hid (SC B B2 q s l h (some ⟨bg, og, none⟩) n gc (some ⟨r, 0, none⟩) d wc1 HA1 hn hc1 init seen low held home clock w1) := Lib.hid (by
        rw [← hw1]
        exact (HS.out.setWk (WA' := some ⟨r, 0, none⟩) (wn' := d) (wc' := wc1) (walk' := init) (Kp.refl _ _) (by
          have h1 := own_cut HS.out.wo (k := d) (by omega)
          rw [show d * 2 = init.length * 2 by rw [HD.out], rowSp_take] at h1
          exact h1) (fun k hk => .inl hk)).kp ((Kp.refl (fun _ => False) _).drew.drew.drew))
      have HB1 : Hid (Below B W w1) := Lib.hid (by
        rw [← hw1]
        exact (((HBW.out.setCell (p := ⟨q, 1, none⟩) HS.out.lo.1 _).drew).drew).drew)
      rw [hw1]
      clear hw1 y0 y1 y1f c0 c1 c2 c3 c4 c5 c6 f1 f4 f6
      have c0 := HS1.out.qc.at_ 0 _ rfl
      have c1 := HS1.out.qc.at_ 1 _ rfl
      have c2 := HS1.out.qc.at_ 2 _ rfl
      have c3 := HS1.out.qc.at_ 3 _ rfl
      have c4 := HS1.out.qc.at_ 4 _ rfl
      have c5 := HS1.out.qc.at_ 5 _ rfl
      have c6 := HS1.out.qc.at_ 6 _ rfl
      have f1 := HS1.out.qc.fz 1 (by simp)
      have f4 := HS1.out.qc.fz 4 (by simp)
      have f6 := HS1.out.qc.fz 6 (by simp)
      have s0 : w1.cell? ⟨s, x, none⟩ = some (.int .i64 (seen x : Int)) := HS1.out.sc.at_ _ _ (arrC_at _ HX.out)
      have s0f : w1.frozen? ⟨s, x, none⟩ = false := HS1.out.sc.fz _ (by rw [arrC_len]; exact HX.out)
      have l0 : w1.cell? ⟨l, x, none⟩ = some (.int .i64 (low x : Int)) := HS1.out.lc.at_ _ _ (arrC_at _ HX.out)
      have l0f : w1.frozen? ⟨l, x, none⟩ = false := HS1.out.lc.fz _ (by rw [arrC_len]; exact HX.out)
      have HID := Lib.hid HI.out
      go_wp2_with fail
      rcases Nat.eq_zero_or_pos d with hd0' | hdp
      · have hin : init = [] := List.eq_nil_of_length_eq_zero (by rw [HD.out]; exact hd0')
        subst hin
        subst hd0'
        have hlow : low x = seen x := Inv.root (by have := HI.out; simpa using this)
        have t1 : (((low x : Nat) : Int) == ((seen x : Nat) : Int)) = true := by simp; omega
        have t1' : (((seen x : Nat) : Int) == ((seen x : Nat) : Int)) = true := by simp
        go_region
        go_simp
        obtain ⟨w2, hw2⟩ : ∃ X, w1.drew = X := ⟨_, rfl⟩
        have HS2 := Lib.hid (HS1.out.kp ((Kp.refl (fun _ => False) w1).drew))
        have HB2p : Hid (Below B W w2) := Lib.hid (by rw [← hw2]; exact HB1.out.drew)
        rw [hw2] at HS2
        have hsz2 : Hid (B2 ≤ w2.heap.size) := Lib.hid (by have h1 := HB2p.out.size; have h2 := HB2.out; omega)
        obtain ⟨hd, tl, rfl⟩ := List.append_of_mem HI.out.x_held
        have HXD : Hid (x ∉ hd) := Lib.hid (by
          have h1 := (List.pairwise_append.1 HI.out.hs).2.2
          exact fun hm => Nat.lt_irrefl _ (h1 x hm x (by simp)))
        have hhn : Hid (hn ≤ 50) := Lib.hid (by have h1 := held_len HI.out; have h2 := HS2.out.len.2; have h3 := HGL.out; omega)
        have cD := Lib.hid (done_any _ _ _ _ _ _ _ _ _ _ _ _ _ _ _ _ _ _ _ _ _ _ x w2 HS2.out hsz2.out HXD.out (fun u hu => by have h1 := (HI.out.hm u hu).1; rw [HGL.out] at h1; exact h1) hhn.out hnn)
        rw [hw2]
        clear hw2  c0 c1 c2 c3 c4 c5 c6 f1 f4 f6 s0 s0f l0 l0f
        go_wp2_with fail
        refine cD.out.mono ?_
        rintro e9 w3 ⟨⟨_, rfl⟩, HA3, hc3, home3, mm, e1, e2, e3, e4, hS3, hb3⟩
        have HIC := Lib.hid (HI.out.close HKN.out hlow rfl e1 e2 e3 e4)
        have HS3 := Lib.hid hS3
        have HB3 : Hid (Below B W w3) := Lib.hid (HB2p.out.trans hb3)
        clear e1 e2 e3 e4 hS3 hb3 cD
        have c0 := HS3.out.qc.at_ 0 _ rfl
        have c1 := HS3.out.qc.at_ 1 _ rfl
        have c2 := HS3.out.qc.at_ 2 _ rfl
        have c3 := HS3.out.qc.at_ 3 _ rfl
        have c4 := HS3.out.qc.at_ 4 _ rfl
        have c5 := HS3.out.qc.at_ 5 _ rfl
        have c6 := HS3.out.qc.at_ 6 _ rfl
        have f1 := HS3.out.qc.fz 1 (by simp)
        have f4 := HS3.out.qc.fz 4 (by simp)
        have f6 := HS3.out.qc.fz 6 (by simp)
        have hk9 : decide ((-1 : Int) ≥ 0) = false := by decide
        go_wp2_with fail
        simp only [Exit.jump]
        go_end0
        have hnil : hd = [] := by
          cases hd with
          | nil => rfl
          | cons a l =>
            obtain ⟨p, hp, _⟩ := HIC.out.bot a (by simp)
            simp at hp
        subst hnil
        exact ⟨⟨_, rfl⟩, some ⟨r, 0, none⟩, wc1, HA3, hc3, seen, low, home3, clock, HS3.out, HIC.out, HM.out.1, HM.out.2, HB3.out⟩
      · obtain ⟨e, rfl⟩ : ∃ e, d = e + 1 := ⟨d - 1, by omega⟩
        obtain ⟨init', y, j, rfl⟩ := snoc_of (l := init) (n := e) HD.out
        have HE : Hid (init'.length = e) := Lib.hid (by have := HD.out; simpa using this)
        have hyn : y < n := by have := (HI.out.wh (y, j) (by simp)).1; have := (HI.out.hm y this).1; have := HGL.out; omega
        have HYN := Lib.hid hyn
        have hyx : y ≠ x := HI.out.ne_init (p := (y, j)) (by simp)
        have hly : low y ≤ seen y ∧ seen y < seen x := ⟨(HI.out.low1 (y, j) (by simp)).1, HI.out.top (p := (y, j)) (by simp)⟩
        have he0 : (0 : Int) ≤ (e : Int) := by omega
        have heb : (e : Int) ≤ 50 := by omega
        have hyi0 : (0 : Int) ≤ (y : Int) := by omega
        have hyi1 : (y : Int) < (n : Int) := by omega
        clear hyn
        by_cases hlow : low x = seen x
        · have t1 : (((low x : Nat) : Int) == ((seen x : Nat) : Int)) = true := by simp; omega
          have t1' : (((seen x : Nat) : Int) == ((seen x : Nat) : Int)) = true := by simp
          go_region
          go_simp
          obtain ⟨w2, hw2⟩ : ∃ X, w1.drew = X := ⟨_, rfl⟩
          have HS2 := Lib.hid (HS1.out.kp ((Kp.refl (fun _ => False) w1).drew))
          have HB2p : Hid (Below B W w2) := Lib.hid (by rw [← hw2]; exact HB1.out.drew)
          rw [hw2] at HS2
          have hsz2 : Hid (B2 ≤ w2.heap.size) := Lib.hid (by have h1 := HB2p.out.size; have h2 := HB2.out; omega)
          obtain ⟨hd, tl, rfl⟩ := List.append_of_mem HI.out.x_held
          have HXD : Hid (x ∉ hd) := Lib.hid (by
            have h1 := (List.pairwise_append.1 HI.out.hs).2.2
            exact fun hm => Nat.lt_irrefl _ (h1 x hm x (by simp)))
          have hhn : Hid (hn ≤ 50) := Lib.hid (by have h1 := held_len HI.out; have h2 := HS2.out.len.2; have h3 := HGL.out; omega)
          have cD := Lib.hid (done_any _ _ _ _ _ _ _ _ _ _ _ _ _ _ _ _ _ _ _ _ _ _ x w2 HS2.out hsz2.out HXD.out (fun u hu => by have h1 := (HI.out.hm u hu).1; rw [HGL.out] at h1; exact h1) hhn.out hnn)
          rw [hw2]
          clear hw2  c0 c1 c2 c3 c4 c5 c6 f1 f4 f6 s0 s0f l0 l0f
          go_wp2_with fail
          refine cD.out.mono ?_
          rintro e9 w3 ⟨⟨_, rfl⟩, HA3, hc3, home3, mm, e1, e2, e3, e4, hS3, hb3⟩
          have HIC := Lib.hid (HI.out.close HKN.out hlow rfl e1 e2 e3 e4)
          have HS3 := Lib.hid hS3
          have HB3 : Hid (Below B W w3) := Lib.hid (HB2p.out.trans hb3)
          clear e1 e2 e3 e4 hS3 hb3 cD
          have c0 := HS3.out.qc.at_ 0 _ rfl
          have c1 := HS3.out.qc.at_ 1 _ rfl
          have c2 := HS3.out.qc.at_ 2 _ rfl
          have c3 := HS3.out.qc.at_ 3 _ rfl
          have c4 := HS3.out.qc.at_ 4 _ rfl
          have c5 := HS3.out.qc.at_ 5 _ rfl
          have c6 := HS3.out.qc.at_ 6 _ rfl
          have f1 := HS3.out.qc.fz 1 (by simp)
          have f4 := HS3.out.qc.fz 4 (by simp)
          have f6 := HS3.out.qc.fz 6 (by simp)
          have hmn : min (low y) (low x) = low y := by omega
          have hsl : ¬ low x < low y := by omega
          have hsl2 : ¬ seen x < low y := by omega
          have hel : upd low y (low y) = low := by
            funext z
            by_cases ez : z = y
            · subst ez; rw [upd_same]
            · rw [upd_other _ _ ez]
          obtain ⟨z0, z1, z1f⟩ := walk_last HS3.out
          rw [HE.out] at z0 z1 z1f
          have l1 : w3.cell? ⟨l, y, none⟩ = some (.int .i64 (low y : Int)) := HS3.out.lc.at_ _ _ (arrC_at _ HYN.out)
          have l1f : w3.frozen? ⟨l, y, none⟩ = false := HS3.out.lc.fz _ (by rw [arrC_len]; exact HYN.out)
          have l0 : w3.cell? ⟨l, x, none⟩ = some (.int .i64 (low x : Int)) := HS3.out.lc.at_ _ _ (arrC_at _ HX.out)
          have l0f : w3.frozen? ⟨l, x, none⟩ = false := HS3.out.lc.fz _ (by rw [arrC_len]; exact HX.out)
          go_wp2_with fail
          go_region
          go_simp
          apply_assumption
          obtain ⟨w4, hw4⟩ : ∃ X, (w3.setCell ⟨l, y, none⟩ (.int .i64 ((low y : Nat) : Int))).drew = X := ⟨_, rfl⟩
          have HS4 : Hid (SC B B2 q s l h (some ⟨bg, og, none⟩) n gc (some ⟨r, 0, none⟩) (e + 1) wc1 HA3 hd.length hc3 (init' ++ [(y, j)]) seen low hd home3 clock w4) := Lib.hid (by
            rw [← hw4]
            have h1 := HS3.out.setLow HYN.out (low y) _ rfl
            rw [hel] at h1
            exact h1.kp ((Kp.refl (fun _ => False) _).drew))
          have HB4 : Hid (Below B W w4) := Lib.hid (by
            rw [← hw4]
            exact (HB3.out.setCell (p := ⟨l, y, none⟩) HS3.out.lo.2.2.1 _).drew)
          have HMM := HM
          rw [hw4]
          clear hw4 hel
          go_wp2_with fail
          go_step3
          refine ⟨rfl, HJ.out _ _ ⟨⟨rfl, rfl, rfl⟩, HS4.out.good HIC.out HMM.out HB4.out⟩ ?_⟩
          show muW g q _ < muW g q w0
          rw [HS4.out.muW g, HS.out.muW g]
          exact mu_pop (Nat.le_of_eq HKN.out)
        · have t1 : (((low x : Nat) : Int) == ((seen x : Nat) : Int)) = false := by simp; omega
          go_region
          go_simp
          obtain ⟨w3, hw3⟩ : ∃ X, w1.drew = X := ⟨_, rfl⟩
          have HS3 := Lib.hid (HS1.out.kp ((Kp.refl (fun _ => False) w1).drew))
          have HB3 : Hid (Below B W w3) := Lib.hid (by rw [← hw3]; exact HB1.out.drew)
          rw [hw3] at HS3
          have HIP := Lib.hid (HI.out.pop HKN.out hlow)
          rw [hw3]
          clear hw3 c0 c1 c2 c3 c4 c5 c6 f1 f4 f6 s0 s0f l0 l0f
          have c0 := HS3.out.qc.at_ 0 _ rfl
          have c1 := HS3.out.qc.at_ 1 _ rfl
          have c2 := HS3.out.qc.at_ 2 _ rfl
          have c3 := HS3.out.qc.at_ 3 _ rfl
          have c4 := HS3.out.qc.at_ 4 _ rfl
          have c5 := HS3.out.qc.at_ 5 _ rfl
          have c6 := HS3.out.qc.at_ 6 _ rfl
          have f1 := HS3.out.qc.fz 1 (by simp)
          have f4 := HS3.out.qc.fz 4 (by simp)
          have f6 := HS3.out.qc.fz 6 (by simp)
          obtain ⟨z0, z1, z1f⟩ := walk_last HS3.out
          rw [HE.out] at z0 z1 z1f
          have l1 : w3.cell? ⟨l, y, none⟩ = some (.int .i64 (low y : Int)) := HS3.out.lc.at_ _ _ (arrC_at _ HYN.out)
          have l1f : w3.frozen? ⟨l, y, none⟩ = false := HS3.out.lc.fz _ (by rw [arrC_len]; exact HYN.out)
          have l0 : w3.cell? ⟨l, x, none⟩ = some (.int .i64 (low x : Int)) := HS3.out.lc.at_ _ _ (arrC_at _ HX.out)
          have l0f : w3.frozen? ⟨l, x, none⟩ = false := HS3.out.lc.fz _ (by rw [arrC_len]; exact HX.out)
          go_wp2_with fail
          by_cases hsl : low x < low y
          · have hmn : min (low y) (low x) = low x := by omega
            go_region
            go_simp
            apply_assumption
            obtain ⟨w4, hw4⟩ : ∃ X, (w3.setCell ⟨l, y, none⟩ (.int .i64 ((low x : Nat) : Int))).drew = X := ⟨_, rfl⟩
            have HS4 : Hid (SC B B2 q s l h (some ⟨bg, og, none⟩) n gc (some ⟨r, 0, none⟩) (e + 1) wc1 HA1 hn hc1 (init' ++ [(y, j)]) seen (upd low y (min (low y) (low x))) held home clock w4) := Lib.hid (by
              rw [← hw4]
              exact (HS3.out.setLow HYN.out (min (low y) (low x)) _ (by rw [hmn])).kp ((Kp.refl (fun _ => False) _).drew))
            have HB4 : Hid (Below B W w4) := Lib.hid (by
              rw [← hw4]
              exact (HB3.out.setCell (p := ⟨l, y, none⟩) HS3.out.lo.2.2.1 _).drew)
            have HMM := HM
            rw [hw4]
            clear hw4 hmn
            go_wp2_with fail
            go_step3
            refine ⟨rfl, HJ.out _ _ ⟨⟨rfl, rfl, rfl⟩, HS4.out.good HIP.out HMM.out HB4.out⟩ ?_⟩
            show muW g q _ < muW g q w0
            rw [HS4.out.muW g, HS.out.muW g]
            exact mu_pop (Nat.le_of_eq HKN.out)
          · have hmn : min (low y) (low x) = low y := by omega
            go_region
            go_simp
            apply_assumption
            obtain ⟨w4, hw4⟩ : ∃ X, (w3.setCell ⟨l, y, none⟩ (.int .i64 ((low y : Nat) : Int))).drew = X := ⟨_, rfl⟩
            have HS4 : Hid (SC B B2 q s l h (some ⟨bg, og, none⟩) n gc (some ⟨r, 0, none⟩) (e + 1) wc1 HA1 hn hc1 (init' ++ [(y, j)]) seen (upd low y (min (low y) (low x))) held home clock w4) := Lib.hid (by
              rw [← hw4]
              exact (HS3.out.setLow HYN.out (min (low y) (low x)) _ (by rw [hmn])).kp ((Kp.refl (fun _ => False) _).drew))
            have HB4 : Hid (Below B W w4) := Lib.hid (by
              rw [← hw4]
              exact (HB3.out.setCell (p := ⟨l, y, none⟩) HS3.out.lo.2.2.1 _).drew)
            have HMM := HM
            rw [hw4]
            clear hw4 hmn
            go_wp2_with fail
            go_step3
            refine ⟨rfl, HJ.out _ _ ⟨⟨rfl, rfl, rfl⟩, HS4.out.good HIP.out HMM.out HB4.out⟩ ?_⟩
            show muW g q _ < muW g q w0
            rw [HS4.out.muW g, HS.out.muW g]
            exact mu_pop (Nat.le_of_eq HKN.out)
  · intro hpass
    have HPS := Lib.hid hpass
    clear hpass
    go_wp2_with fail
    refine cM0.out.mono ?_
    rintro e w1 ⟨⟨_, rfl⟩, WA1, wc1, HA1, hc1, hS1, hb1⟩
    obtain ⟨r1, rfl⟩ := hS1.wform (by omega)
    have hI := HI0.out.start (v := v) (by rw [HGL.out]; exact HV.out.1) HV.out.2
    have HS1 := Lib.hid hS1
    have HI1 := Lib.hid hI
    have HB1 := Lib.hid hb1
    clear hS1 hI hb1 cM0
    go_wp2_with fail
    go_step3
    apply_assumption
    refine HPS.out _ _ ?_
    exact ⟨⟨rfl, rfl, rfl⟩, SC.good (init := []) HS1.out HI1.out ⟨fun u hu => upd_nz hu, by rw [upd_same]; omega⟩ HB1.out⟩
end Go.Proofs.Ytnfoahcdmaphnaa
