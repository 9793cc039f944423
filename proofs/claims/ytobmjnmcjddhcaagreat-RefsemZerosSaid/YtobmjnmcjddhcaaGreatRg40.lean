import Derived.Test.YtobmjnmcjddhcaaGreatRg2
import Derived.Test.YtobmjnmcjddhcaaGreatRg38
import Derived.RegionTactic
set_option linter.unusedSimpArgs false
set_option linter.unusedVariables false
set_option maxRecDepth 100000
set_option maxHeartbeats 4000000
namespace Go.Proofs.YtobmjnmcjddhcaaGreat
open Go.ChangeShapes Go.WideShapes Go.ChangeAt Go.RowKit Go.Deep
namespace Ru
open Bm
abbrev DEvent : Type := Ev
abbrev SlEe (w : World) (B : Nat) (A : Option Addr) (n c : Nat) (es : List DEntry) : Prop := SlR 2 16 REntry w B A n n es
theorem slee_rc {w : World} {B : Nat} {A : Option Addr} {n c : Nat} {es : List DEntry} (h : SlEe w B A n c es) : SlR 2 16 (RC cellsE) w B A n n es := h
theorem SlEe.keep {w w' : World} {B : Nat} {A : Option Addr} {n c : Nat} {es : List DEntry} (h : SlEe w B A n c es) (hb : Below B w w') : SlEe w' B A n c es := SlR.below (R := REntry) stable_Entry h hb
def RI0 : Rd Int := fun _ _ cs x => cs = [.int .i64 x] ∧ True
theorem stable_I0 : Stable RI0 := fun _ _ _ _ _ h _ => h
def REvent : Rd DEvent := fun w B cs x => ∃ A0 n0 c0, cs = [.int .i64 x.k, .int .i64 x.n, .int .i64 x.m, .slice A0 n0 c0] ∧ True ∧ True ∧ True ∧ SlEe w B A0 n0 c0 x.tr
theorem stable_Event : Stable REvent := by
 intro w w' B cs x h hk
 obtain ⟨A0, n0, c0, e, q0, q1, q2, q3⟩ := h
 exact ⟨A0, n0, c0, e, q0, q1, q2, SlR.keep (R := REntry) stable_Entry q3 hk⟩
def RBlameR : Rd DBlame := fun w B cs x => ∃ A0 n0 c0, cs = [.int .i64 x.k, .int .i64 x.n, .bool x.rc, .slice A0 n0 c0] ∧ True ∧ True ∧ SlEe w B A0 n0 c0 x.tr
theorem stable_BlameR : Stable RBlameR := by
 intro w w' B cs x h hk
 obtain ⟨A0, n0, c0, e, q0, q1, q2⟩ := h
 exact ⟨A0, n0, c0, e, q0, q1, SlR.keep (R := REntry) stable_Entry q2 hk⟩
structure DRun where
 events : List DEvent
 fin : Int
 results : List Int
 chain : List DBlame
 steps : Int
def keyE (e : DEntry) : Int × Int := (e.1, e.2)
def eqEs (l m : List DEntry) : Bool := decide (l.map keyE = m.map keyE)
theorem eqEs_refl (l : List DEntry) : eqEs l l = true := by simp [eqEs]
theorem eqEs_len {l m : List DEntry} (h : l.length ≠ m.length) : eqEs l m = false := by
 unfold eqEs
 rw [decide_eq_false_iff_not]
 intro he
 have := congrArg List.length he
 simp at this
 exact h this
theorem eqEs_at {l m : List DEntry} {k : Nat} {x y : DEntry} (hx : l[k]? = some x) (hy : m[k]? = some y) (h : keyE x ≠ keyE y) : eqEs l m = false := by
 unfold eqEs
 rw [decide_eq_false_iff_not]
 intro he
 have := congrArg (fun l => l[k]?) he
 simp [hx, hy] at this
 exact h this
def SameTo (l m : List DEntry) (k : Nat) : Prop := ∀ j, j < k → (l.map keyE)[j]? = (m.map keyE)[j]?
theorem SameTo.succ {l m : List DEntry} {k : Nat} {x y : DEntry} (h : SameTo l m k) (hx : l[k]? = some x) (hy : m[k]? = some y) (he : keyE x = keyE y) : SameTo l m (k + 1) := by
 intro j hj
 by_cases hjk : j = k
 ·subst hjk
  simp [hx, hy, he]
 ·exact h j (by omega)
theorem SameTo.all {l m : List DEntry} (h : SameTo l m l.length) (hl : l.length = m.length) : eqEs l m = true := by
 unfold eqEs
 rw [decide_eq_true_iff]
 apply List.ext_getElem?
 intro j
 by_cases hj : j < l.length
 ·exact h j hj
 ·rw [List.getElem?_eq_none (by simp; omega), List.getElem?_eq_none (by simp; omega)]
theorem SlR.cell2 {bytes : Nat} {w : World} {B : Nat} {A : Option Addr} {n c : Nat} {es : List DEntry} (h : SlR 2 bytes (RC cellsE) w B A n c es) {i : Nat} (hi : i < n) :
  ∃ b off x, A = some ⟨b, off, none⟩ ∧ b < B ∧ es[i]? = some x ∧ w.cell? ⟨b, off + i * 2, none⟩ = some (.int .i64 x.1) ∧ w.cell? ⟨b, off + i * 2 + 1, none⟩ = some (.int .i64 x.2) := by
 obtain ⟨b, off, x, cs, hA, hb, hx, _, hc, hr⟩ := h.at_ hi
 unfold RC at hr
 subst hr
 exact ⟨b, off, x, hA, hb, hx, by simpa using hc 0 _ rfl, by simpa [Nat.add_assoc] using hc 1 _ rfl⟩
theorem entries_any (B1 B2 : Nat) (A1 A2 : Option Addr) (n1 n2 c1 c2 : Nat) (l m : List DEntry) (w : World) (h1 : SlR 2 16 (RC cellsE) w B1 A1 n1 n1 l) (h2 : SlR 2 16 (RC cellsE) w B2 A2 n2 n2 m) :
  Calls Tryz.prog 60 #[.slice A1 n1 c1, .slice A2 n2 c2] w fun e w' => e = .returned (.bool (eqEs l m)) ∧ ∃ q, w' = w.drewN q := by
 have hl1 := h1.1
 have hl2 := h2.1
 have hm : n1 ≤ 9223372036854775807 := by have := h1.2.1; have := h1.2.2.1; unfold maxLen at this; omega
 by_cases hn : n1 = n2
 ·subst hn
  have H1 := Hd h1
  have H2 := Hd h2
  have HL1 := Hd hl1
  have HL2 := Hd hl2
  clear h1 h2 hl1 hl2
  have hne : ((n1 : Int) != (n1 : Int)) = false := by simp
  go_in
  go_wp2
  go_loopw [5] (fun i wr => ∃ k q : Nat, k ≤ n1 ∧ i = .int .i64 k ∧ wr = w.drewN q ∧ SameTo l m k) (fun i _ => n1 - (intOf i).toNat)
  case atStart => exact ⟨0, 0, Nat.zero_le _, rfl, rfl, fun j hj => absurd hj (by omega)⟩
  case round =>
   obtain ⟨k, q, hk, rfl, rfl, hs⟩ := hrel
   have HS := Hd hs
   clear hs
   by_cases hlt : k < n1
   ·obtain ⟨b1, o1, x, rfl, _, hx, hc1, hc2⟩ := SlR.cell2 H1.out hlt
    obtain ⟨b2, o2, y, rfl, _, hy, hd1, hd2⟩ := SlR.cell2 H2.out hlt
    have HX := Hd hx
    have HY := Hd hy
    clear hx hy
    obtain ⟨xf, hxf⟩ : ∃ z, x.1 = z := ⟨_, rfl⟩
    obtain ⟨xl, hxl⟩ : ∃ z, x.2 = z := ⟨_, rfl⟩
    obtain ⟨yf, hyf⟩ : ∃ z, y.1 = z := ⟨_, rfl⟩
    obtain ⟨yl, hyl⟩ : ∃ z, y.2 = z := ⟨_, rfl⟩
    rw [hxf] at hc1
    rw [hxl] at hc2
    rw [hyf] at hd1
    rw [hyl] at hd2
    have HK : Hid (keyE x = (xf, xl) ∧ keyE y = (yf, yl)) := by
     show keyE x = _ ∧ keyE y = _
     unfold keyE
     rw [hxf, hxl, hyf, hyl]
     exact ⟨rfl, rfl⟩
    clear hxf hxl hyf hyl
    by_cases hf : (xf == yf) = true
    ·by_cases hl : (xl == yl) = true
     ·have HE : Hid (keyE x = keyE y) := by
       show keyE x = keyE y
       rw [HK.out.1, HK.out.2, beq_iff_eq.1 hf, beq_iff_eq.1 hl]
      go_wp2
      go_quiet (fail)
      go_wp2
      go_roundw
      case rel => exact ⟨k + 1, _, by omega, by go_num, rfl, HS.out.succ HX.out HY.out HE.out⟩
      case measure => simp [intOf]; omega
     ·have hl' : (xl == yl) = false := by simpa using hl
      have HE : Hid (eqEs l m = false) := by
       refine eqEs_at HX.out HY.out ?_
       rw [HK.out.1, HK.out.2]
       intro h
       simp only [Prod.mk.injEq] at h
       rw [h.2] at hl'
       simp at hl'
      clear hl
      go_wp2
      go_quiet (fail)
      go_wp2
      go_ret
      exact ⟨by rw [HE.out]; rfl, q + nq, World.drewN_drewN _ _ _⟩
    ·have hf' : (xf == yf) = false := by simpa using hf
     have HE : Hid (eqEs l m = false) := by
      refine eqEs_at HX.out HY.out ?_
      rw [HK.out.1, HK.out.2]
      intro h
      simp only [Prod.mk.injEq] at h
      rw [h.1] at hf'
      simp at hf'
     clear hf
     go_wp2
     go_quiet (fail)
     go_wp2
     go_ret
     exact ⟨by rw [HE.out]; rfl, q + nq, World.drewN_drewN _ _ _⟩
   ·have HE : Hid (eqEs l m = true) := by
     obtain rfl : k = n1 := by omega
     refine SameTo.all ?_ (by rw [HL1.out, HL2.out])
     rw [HL1.out]
     exact HS.out
    go_wp2
    go_ret
    exact ⟨by rw [HE.out]; rfl, _, rfl⟩
 ·have HE : Hid (eqEs l m = false) := eqEs_len (by omega)
  have hne : ((n1 : Int) != (n2 : Int)) = true := by rw [bne_iff_ne]; omega
  clear h1 h2 hl1 hl2 hn
  go_in
  go_wp2
  go_ret
  exact ⟨by rw [HE.out]; rfl, 0, rfl⟩
theorem box_cells (w : World) (cs : Array Value) (t : TypeId) (w1 : World) (hb : Below (w.heap.size + 1) (w.alloc (.cells cs t)) w1) (i : Nat) (v : Value) (hv : cs[i]? = some v) : w1.cell? ⟨w.heap.size, i, none⟩ = some v := by
 rw [hb.cell (by simp), cell_of_row _ w.heap.size i cs t (0, 0) (heap_alloc_new w _)]
 exact hv
abbrev eventV (k n m : Int) (A : Option Addr) (s c : Nat) : Value := .agg #[.int .i64 k, .int .i64 n, .int .i64 m, .slice A s c]
def eqH (k1 n1 r1 k2 n2 r2 : Int) : Bool := (k1 == k2) && ((n1 == n2) && (r1 == r2))
theorem refEvSame_any (k1 n1 : Int) (r1 : Int) (k2 n2 : Int) (r2 : Int) (B : Nat) (A1 A2 : Option Addr) (m1 c1 m2 c2 : Nat) (l1 l2 : List DEntry) (w : World) (h1 : SlEe w B A1 m1 c1 l1) (h2 : SlEe w B A2 m2 c2 l2) (hB : B ≤ w.heap.size) :
  Calls Tryz.prog 61 #[eventV k1 n1 r1 A1 m1 c1, eventV k2 n2 r2 A2 m2 c2] w fun e w' => e = .returned (.bool (eqH k1 n1 r1 k2 n2 r2 && eqEs l1 l2)) ∧ Below w.heap.size w w' := by
 have ce : ∀ W : World, Below w.heap.size w W → Hid (Calls Tryz.prog 60 #[.slice A1 m1 c1, .slice A2 m2 c2] W fun e w' => e = .returned (.bool (eqEs l1 l2)) ∧ ∃ q, w' = W.drewN q) := fun W hW => entries_any B B A1 A2 m1 m2 c1 c2 l1 l2 W (slee_rc (h1.keep (hW.mono hB))) (slee_rc (h2.keep (hW.mono hB)))
 obtain ⟨b, hb⟩ : ∃ b, eqEs l1 l2 = b := ⟨_, rfl⟩
 rw [hb] at ce ⊢
 clear hb h1 h2 hB
 unfold eqH
 have hA : Below w.heap.size w ((w.alloc (.cells #[.int .i64 k1, .int .i64 n1, .int .i64 r1, .slice A1 m1 c1] 116)).alloc (.cells #[.int .i64 k2, .int .i64 n2, .int .i64 r2, .slice A2 m2 c2] 116)) := ((Below.refl _ _).alloc (Nat.le_refl _) _).alloc (by simp) _
 have ce := ce _ hA
 rcases Bool.eq_false_or_eq_true (k1 == k2) with f1 | f1
 ·rcases Bool.eq_false_or_eq_true (n1 == n2) with f2 | f2
  ·rcases Bool.eq_false_or_eq_true (r1 == r2) with f3 | f3
   ·rw [f1, f2, f3]
    go_in
    go_wp2_with fail
    refine Calls.mono ce.out ?_
    rintro e w1 ⟨rfl, q, rfl⟩
    go_wp2_with fail
    go_ret
    exact ⟨by simp, below_drewN' hA q⟩
   ·rw [f1, f2, f3]
    clear ce
    go_in
    go_wp2_with fail
    go_ret
    exact ⟨by simp, hA⟩
  ·rw [f1, f2]
   clear ce
   go_in
   go_wp2_with fail
   go_ret
   exact ⟨by simp, hA⟩
 ·rw [f1]
  clear ce
  go_in
  go_wp2_with fail
  go_ret
  exact ⟨by simp, hA⟩
def eqB (k1 n1 : Int) (r1 : Bool) (k2 n2 : Int) (r2 : Bool) : Bool := (k1 == k2) && ((n1 == n2) && (r1 == r2))
abbrev SlV (w : World) (B : Nat) (A : Option Addr) (n c : Nat) (xs : List DEvent) : Prop := SlR 4 48 REvent w B A n c xs
abbrev SlP (w : World) (B : Nat) (A : Option Addr) (n c : Nat) (xs : List DBlame) : Prop := SlR 4 48 RBlameR w B A n c xs
abbrev SlN (w : World) (B : Nat) (A : Option Addr) (n c : Nat) (xs : List Int) : Prop := SlR 1 8 RI0 w B A n c xs
theorem slp_at {w : World} {B : Nat} {A : Option Addr} {n c : Nat} {xs : List DBlame} (h : SlP w B A n c xs) {i : Nat} (hi : i < n) :
  ∃ b off x A0 n0 c0, A = some ⟨b, off, none⟩ ∧ b < B ∧ xs[i]? = some x ∧ w.cell? ⟨b, off + i * 4, none⟩ = some (.int .i64 x.k) ∧ w.cell? ⟨b, off + i * 4 + 1, none⟩ = some (.int .i64 x.n) ∧ w.cell? ⟨b, off + i * 4 + 2, none⟩ = some (.bool x.rc) ∧ w.cell? ⟨b, off + i * 4 + 3, none⟩ = some (.slice A0 n0 c0) ∧
   SlEe w B A0 n0 c0 x.tr ∧ True ∧ True := by
 obtain ⟨b, off, x, cs, hA, hb, hx, _, hc, hr⟩ := h.at_ hi
 obtain ⟨A0, n0, c0, rfl, h1, h2, h3⟩ := hr
 exact ⟨b, off, x, A0, n0, c0, hA, hb, hx, by simpa using hc 0 _ rfl, by simpa [Nat.add_assoc] using hc 1 _ rfl, by simpa [Nat.add_assoc] using hc 2 _ rfl, by simpa [Nat.add_assoc] using hc 3 _ rfl, h3, h1, h2⟩
theorem slv_at {w : World} {B : Nat} {A : Option Addr} {n c : Nat} {xs : List DEvent} (h : SlV w B A n c xs) {i : Nat} (hi : i < n) :
  ∃ b off x A0 n0 c0, A = some ⟨b, off, none⟩ ∧ b < B ∧ xs[i]? = some x ∧ w.cell? ⟨b, off + i * 4, none⟩ = some (.int .i64 x.k) ∧ w.cell? ⟨b, off + i * 4 + 1, none⟩ = some (.int .i64 x.n) ∧ w.cell? ⟨b, off + i * 4 + 2, none⟩ = some (.int .i64 x.m) ∧ w.cell? ⟨b, off + i * 4 + 3, none⟩ = some (.slice A0 n0 c0) ∧
   SlEe w B A0 n0 c0 x.tr ∧ True ∧ True ∧ True := by
 obtain ⟨b, off, x, cs, hA, hb, hx, _, hc, hr⟩ := h.at_ hi
 obtain ⟨A0, n0, c0, rfl, h1, h2, h3, h4⟩ := hr
 exact ⟨b, off, x, A0, n0, c0, hA, hb, hx, by simpa using hc 0 _ rfl, by simpa [Nat.add_assoc] using hc 1 _ rfl, by simpa [Nat.add_assoc] using hc 2 _ rfl, by simpa [Nat.add_assoc] using hc 3 _ rfl, h4, h1, h2, h3⟩
theorem sln_at {w : World} {B : Nat} {A : Option Addr} {n c : Nat} {xs : List Int} (h : SlN w B A n c xs) {i : Nat} (hi : i < n) :
  ∃ b off x, A = some ⟨b, off, none⟩ ∧ b < B ∧ xs[i]? = some x ∧ w.cell? ⟨b, off + i, none⟩ = some (.int .i64 x) ∧ True := by
 obtain ⟨b, off, x, cs, hA, hb, hx, _, hc, hr⟩ := h.at_ hi
 obtain ⟨rfl, h1⟩ := hr
 exact ⟨b, off, x, hA, hb, hx, by simpa using hc 0 _ rfl, h1⟩
theorem SlV.keep {w w' : World} {B : Nat} {A : Option Addr} {n c : Nat} {xs : List DEvent} (h : SlV w B A n c xs) (hb : Below B w w') : SlV w' B A n c xs := SlR.below (R := REvent) stable_Event h hb
theorem SlN.keep {w w' : World} {B : Nat} {A : Option Addr} {n c : Nat} {xs : List Int} (h : SlN w B A n c xs) (hb : Below B w w') : SlN w' B A n c xs := SlR.below (R := RI0) stable_I0 h hb
abbrev runV (A0 : Option Addr) (n0 c0 : Nat) (fin : Int) (A1 : Option Addr) (n1 c1 : Nat) (A2 : Option Addr) (n2 c2 : Nat) (st : Int) : Value := .agg #[.slice A0 n0 c0, .int .i64 fin, .slice A1 n1 c1, .slice A2 n2 c2, .int .i64 st]
def eqV (x y : DEvent) : Bool := eqH x.k x.n x.m y.k y.n y.m && eqEs x.tr y.tr
def begL {α : Type} (f : α → α → Bool) : List α → List α → Bool
 | [], _ => true
 | _ :: _, [] => false
 | a :: l, b :: m => f a b && begL f l m
theorem begL_long {α : Type} (f : α → α → Bool) : ∀ (l m : List α), m.length < l.length → begL f l m = false
 | [], _, h => by simp at h
 | _ :: _, [], _ => rfl
 | a :: l, b :: m, h => by
  unfold begL
  rw [begL_long f l m (by simpa using h)]
  simp
theorem begL_step {α : Type} (f : α → α → Bool) {l m : List α} {k : Nat} {x y : α} (hx : l[k]? = some x) (hy : m[k]? = some y) : begL f (l.drop k) (m.drop k) = (f x y && begL f (l.drop (k + 1)) (m.drop (k + 1))) := by
 obtain ⟨h1, rfl⟩ := List.getElem?_eq_some_iff.1 hx
 obtain ⟨h2, rfl⟩ := List.getElem?_eq_some_iff.1 hy
 rw [List.drop_eq_getElem_cons h1, List.drop_eq_getElem_cons h2]
 rfl
theorem begL_end {α : Type} (f : α → α → Bool) (l m : List α) : begL f (l.drop l.length) m = true := by rw [List.drop_length]; rfl
theorem begL_short {α : Type} (f : α → α → Bool) {l m : List α} {k : Nat} {x : α} (hx : l[k]? = some x) (hy : m.length ≤ k) : begL f (l.drop k) (m.drop k) = false := by
 obtain ⟨h1, rfl⟩ := List.getElem?_eq_some_iff.1 hx
 rw [List.drop_eq_getElem_cons h1, List.drop_eq_nil_of_le hy]
 rfl
theorem eqEs_symm (l m : List DEntry) : eqEs l m = eqEs m l := by unfold eqEs; exact decide_eq_decide.2 eq_comm
theorem begL_take {α : Type} (f : α → α → Bool) (hf : ∀ x, f x x = true) : ∀ (l : List α) (n : Nat), begL f (l.take n) l = true
 | [], n => by simp [begL]
 | a :: l, 0 => rfl
 | a :: l, n + 1 => by
  show (f a a && begL f (l.take n) l) = true
  rw [hf, begL_take f hf l n]
  rfl
theorem eqV_refl (x : DEvent) : eqV x x = true := by simp [eqV, eqH, eqEs_refl]
def eqP (x y : DBlame) : Bool := eqB x.k x.n x.rc y.k y.n y.rc && eqEs x.tr y.tr
theorem eqP_refl (x : DBlame) : eqP x x = true := by simp [eqP, eqB, eqEs_refl]
theorem refBegins_any (B : Nat) (A1 A2 : Option Addr) (n1 n2 c1 c2 : Nat) (l m : List DEvent) (w : World) (h1 : SlV w B A1 n1 c1 l) (h2 : SlV w B A2 n2 c2 m) (hB : B ≤ w.heap.size) :
  Calls Tryz.prog 32 #[.slice A1 n1 c1, .slice A2 n2 c2] w fun e w' => e = .returned (.bool (begL eqV l m)) ∧ Below w.heap.size w w' := by
 have hm : n1 ≤ 10000000000000 := by have := h1.2.2.2.1; unfold reachBytes at this; omega
 have H1 := Hd h1
 have H2 := Hd h2
 have HL1 := Hd h1.1
 have HL2 := Hd h2.1
 clear h1 h2
 go_in
 go_wp2_with fail
 go_loopw [5] (fun i wr => ∃ k : Nat, k ≤ n1 ∧ i = .int .i64 k ∧ Hid (begL eqV l m = begL eqV (l.drop k) (m.drop k)) ∧ Hid (Below w.heap.size w wr)) (fun i _ => n1 - (intOf i).toNat)
 case atStart => exact ⟨0, Nat.zero_le _, rfl, (Hd rfl : Hid (begL eqV l m = begL eqV l m)), Below.refl _ _⟩
 case round =>
  obtain ⟨k, hk, rfl, heq, hb⟩ := hrel
  by_cases hlt : k < n1
  ·have hbB := hb.out.mono hB
   obtain ⟨b1, o1, x, D1, m1, d1, rfl, hb1, hx, p1, p2, p3, p4, hse1, _⟩ := slv_at H1.out hlt
   have hS0 : Below wr.heap.size wr wr.drew := (Below.refl _ _).drew
   by_cases k2 : k < n2
   ·obtain ⟨b2, o2, y, D2, m2, d2, rfl, hb2, hy, q1, q2, q3, q4, hse2, _⟩ := slv_at H2.out k2
    have ea : ∀ W, Below wr.heap.size wr W → Below B w W := fun W hW => (bl_trans hb.out hb.out.size hW).mono hB
    have HST := Hd (begL_step eqV hx hy)
    have cc : ∀ W, Below wr.heap.size wr W → Hid (Calls Tryz.prog 61 #[eventV x.k x.n x.m D1 m1 d1, eventV y.k y.n y.m D2 m2 d2] W fun e w' => e = .returned (.bool (eqH x.k x.n x.m y.k y.n y.m && eqEs x.tr y.tr)) ∧ Below W.heap.size W w') := fun W hW => refEvSame_any x.k x.n x.m y.k y.n y.m B D1 D2 m1 d1 m2 d2 x.tr y.tr W (hse1.keep (ea W hW)) (hse2.keep (ea W hW)) (Nat.le_trans hB (Nat.le_trans hb.out.size hW.size))
    have HSE : Hid (eqV x y = (eqH x.k x.n x.m y.k y.n y.m && eqEs x.tr y.tr)) := Hd rfl
    have t0 : decide ((n2 : Int) ≤ (k : Int)) = false := dcF (by omega)
    obtain ⟨b, hb'⟩ : ∃ b, (eqH x.k x.n x.m y.k y.n y.m && eqEs x.tr y.tr) = b := ⟨_, rfl⟩
    rw [hb'] at cc HSE
    clear hb' hse1 hse2 hx hy hbB
    cases b
    case false =>
     go_wp2_with fail
     refine wp_region_held (S := fun W => Below wr.heap.size wr W) (by kernel_rfl) ?_
     change wpAnyH _ _ _ _ _ _ _ _ (World.drew _)
     refine teH 0 (.int .i64 (k : Int)) rfl (by intro W hW; go_simp; try (first | (with_reducible rfl) | omega)) hS0 ?_
     refine teH 1 (.slice (some ⟨b2, o2, none⟩) n2 c2) rfl (by intro W hW; go_simp; try (first | (with_reducible rfl) | omega)) hS0 ?_
     refine teH 2 (.int .i64 (n2 : Int)) rfl (by intro W hW; go_simp; try (first | (with_reducible rfl) | omega)) hS0 ?_
     refine teH 3 (.bool false) rfl (by intro W hW; go_simp; try (first | (with_reducible rfl) | omega)) hS0 ?_
     refine teH 4 (.bool false) rfl (by intro W hW; go_simp; try (first | (with_reducible rfl) | omega)) hS0 ?_
     refine wpAnyH_take (i := 5) (v := .slice (some ⟨b1, o1, none⟩) n1 c1) rfl (by kernel_rfl) (by kernel_rfl) (by kernel_rfl) (fun _ _ _ h => h) (Or.inl ⟨by kernel_rfl, by intro W hW; go_simp; try (first | (with_reducible rfl) | omega)⟩) hS0 ?_
     refine wpAnyH_take (i := 6) (v := .int .i64 (k : Int)) rfl (by kernel_rfl) (by kernel_rfl) (by kernel_rfl) (fun _ _ _ h => h) (Or.inl ⟨by kernel_rfl, by intro W hW; go_simp; try (first | (with_reducible rfl) | omega)⟩) hS0 ?_
     refine wpAnyH_take (i := 7) (v := .pointer (some ⟨b1, o1 + k * 4, none⟩)) rfl (by kernel_rfl) (by kernel_rfl) (by kernel_rfl) (fun _ _ _ h => h) (Or.inl ⟨by kernel_rfl, by intro W hW; go_simp; try (first | (with_reducible rfl) | omega)⟩) hS0 ?_
     refine wpAnyH_take (i := 8) (v := eventV x.k x.n x.m D1 m1 d1) rfl (by kernel_rfl) (by kernel_rfl) (by kernel_rfl) (fun _ _ _ h => h) (Or.inl ⟨by kernel_rfl, by intro W hW; have a1 := ((ea W hW).cell hb1).trans p1; have a2 := ((ea W hW).cell hb1).trans p2; have a3 := ((ea W hW).cell hb1).trans p3; have a4 := ((ea W hW).cell hb1).trans p4; go_simp; try (first | (with_reducible rfl) | omega)⟩) hS0 ?_
     refine wpAnyH_take (i := 9) (v := .slice (some ⟨b2, o2, none⟩) n2 c2) rfl (by kernel_rfl) (by kernel_rfl) (by kernel_rfl) (fun _ _ _ h => h) (Or.inl ⟨by kernel_rfl, by intro W hW; go_simp; try (first | (with_reducible rfl) | omega)⟩) hS0 ?_
     refine wpAnyH_take (i := 10) (v := .int .i64 (k : Int)) rfl (by kernel_rfl) (by kernel_rfl) (by kernel_rfl) (fun _ _ _ h => h) (Or.inl ⟨by kernel_rfl, by intro W hW; go_simp; try (first | (with_reducible rfl) | omega)⟩) hS0 ?_
     refine wpAnyH_take (i := 11) (v := .pointer (some ⟨b2, o2 + k * 4, none⟩)) rfl (by kernel_rfl) (by kernel_rfl) (by kernel_rfl) (fun _ _ _ h => h) (Or.inl ⟨by kernel_rfl, by intro W hW; go_simp; try (first | (with_reducible rfl) | omega)⟩) hS0 ?_
     refine wpAnyH_take (i := 12) (v := eventV y.k y.n y.m D2 m2 d2) rfl (by kernel_rfl) (by kernel_rfl) (by kernel_rfl) (fun _ _ _ h => h) (Or.inl ⟨by kernel_rfl, by intro W hW; have a1 := ((ea W hW).cell hb2).trans q1; have a2 := ((ea W hW).cell hb2).trans q2; have a3 := ((ea W hW).cell hb2).trans q3; have a4 := ((ea W hW).cell hb2).trans q4; go_simp; try (first | (with_reducible rfl) | omega)⟩) hS0 ?_
     refine wpAnyH_one (i := 13) (by kernel_rfl) rfl (fun K hK => ?_)
     go_simp
     refine Calls.mono (cc _ hS0).out ?_
     rintro e w3 ⟨rfl, hb3⟩
     have hS3 := bl_trans hS0 hS0.size hb3
     go_simp
     refine hK _ _ ⟨hS3, ?_⟩; clear hK K
     refine wpAnyH_one (i := 14) (by kernel_rfl) rfl (fun K hK => ?_)
     go_simp
     refine hK _ _ ⟨hS3, ?_⟩; clear hK K
     refine wpAnyH_one (i := 15) (by kernel_rfl) rfl (fun K hK => ?_)
     go_simp
     refine hK _ _ ⟨hS3, ?_⟩; clear hK K
     refine wpAnyH_done (by kernel_rfl) ?_ _
     have X := Hd (bl_trans hb.out hb.out.size hS3)
     clear hS3 hb3 hS0
     go_wp2_with fail
     go_ret
     exact ⟨by rw [heq.out, HST.out, HSE.out]; rfl, X.out⟩
    case true =>
     go_wp2_with fail
     refine wp_region_held (S := fun W => Below wr.heap.size wr W) (by kernel_rfl) ?_
     change wpAnyH _ _ _ _ _ _ _ _ (World.drew _)
     refine teH 0 (.int .i64 (k : Int)) rfl (by intro W hW; go_simp; try (first | (with_reducible rfl) | omega)) hS0 ?_
     refine teH 1 (.slice (some ⟨b2, o2, none⟩) n2 c2) rfl (by intro W hW; go_simp; try (first | (with_reducible rfl) | omega)) hS0 ?_
     refine teH 2 (.int .i64 (n2 : Int)) rfl (by intro W hW; go_simp; try (first | (with_reducible rfl) | omega)) hS0 ?_
     refine teH 3 (.bool false) rfl (by intro W hW; go_simp; try (first | (with_reducible rfl) | omega)) hS0 ?_
     refine teH 4 (.bool false) rfl (by intro W hW; go_simp; try (first | (with_reducible rfl) | omega)) hS0 ?_
     refine wpAnyH_take (i := 5) (v := .slice (some ⟨b1, o1, none⟩) n1 c1) rfl (by kernel_rfl) (by kernel_rfl) (by kernel_rfl) (fun _ _ _ h => h) (Or.inl ⟨by kernel_rfl, by intro W hW; go_simp; try (first | (with_reducible rfl) | omega)⟩) hS0 ?_
     refine wpAnyH_take (i := 6) (v := .int .i64 (k : Int)) rfl (by kernel_rfl) (by kernel_rfl) (by kernel_rfl) (fun _ _ _ h => h) (Or.inl ⟨by kernel_rfl, by intro W hW; go_simp; try (first | (with_reducible rfl) | omega)⟩) hS0 ?_
     refine wpAnyH_take (i := 7) (v := .pointer (some ⟨b1, o1 + k * 4, none⟩)) rfl (by kernel_rfl) (by kernel_rfl) (by kernel_rfl) (fun _ _ _ h => h) (Or.inl ⟨by kernel_rfl, by intro W hW; go_simp; try (first | (with_reducible rfl) | omega)⟩) hS0 ?_
     refine wpAnyH_take (i := 8) (v := eventV x.k x.n x.m D1 m1 d1) rfl (by kernel_rfl) (by kernel_rfl) (by kernel_rfl) (fun _ _ _ h => h) (Or.inl ⟨by kernel_rfl, by intro W hW; have a1 := ((ea W hW).cell hb1).trans p1; have a2 := ((ea W hW).cell hb1).trans p2; have a3 := ((ea W hW).cell hb1).trans p3; have a4 := ((ea W hW).cell hb1).trans p4; go_simp; try (first | (with_reducible rfl) | omega)⟩) hS0 ?_
     refine wpAnyH_take (i := 9) (v := .slice (some ⟨b2, o2, none⟩) n2 c2) rfl (by kernel_rfl) (by kernel_rfl) (by kernel_rfl) (fun _ _ _ h => h) (Or.inl ⟨by kernel_rfl, by intro W hW; go_simp; try (first | (with_reducible rfl) | omega)⟩) hS0 ?_
     refine wpAnyH_take (i := 10) (v := .int .i64 (k : Int)) rfl (by kernel_rfl) (by kernel_rfl) (by kernel_rfl) (fun _ _ _ h => h) (Or.inl ⟨by kernel_rfl, by intro W hW; go_simp; try (first | (with_reducible rfl) | omega)⟩) hS0 ?_
     refine wpAnyH_take (i := 11) (v := .pointer (some ⟨b2, o2 + k * 4, none⟩)) rfl (by kernel_rfl) (by kernel_rfl) (by kernel_rfl) (fun _ _ _ h => h) (Or.inl ⟨by kernel_rfl, by intro W hW; go_simp; try (first | (with_reducible rfl) | omega)⟩) hS0 ?_
     refine wpAnyH_take (i := 12) (v := eventV y.k y.n y.m D2 m2 d2) rfl (by kernel_rfl) (by kernel_rfl) (by kernel_rfl) (fun _ _ _ h => h) (Or.inl ⟨by kernel_rfl, by intro W hW; have a1 := ((ea W hW).cell hb2).trans q1; have a2 := ((ea W hW).cell hb2).trans q2; have a3 := ((ea W hW).cell hb2).trans q3; have a4 := ((ea W hW).cell hb2).trans q4; go_simp; try (first | (with_reducible rfl) | omega)⟩) hS0 ?_
     refine wpAnyH_one (i := 13) (by kernel_rfl) rfl (fun K hK => ?_)
     go_simp
     refine Calls.mono (cc _ hS0).out ?_
     rintro e w3 ⟨rfl, hb3⟩
     have hS3 := bl_trans hS0 hS0.size hb3
     go_simp
     refine hK _ _ ⟨hS3, ?_⟩; clear hK K
     refine wpAnyH_one (i := 14) (by kernel_rfl) rfl (fun K hK => ?_)
     go_simp
     refine hK _ _ ⟨hS3, ?_⟩; clear hK K
     refine wpAnyH_one (i := 15) (by kernel_rfl) rfl (fun K hK => ?_)
     go_simp
     refine hK _ _ ⟨hS3, ?_⟩; clear hK K
     refine wpAnyH_done (by kernel_rfl) ?_ _
     have X := Hd (bl_trans hb.out hb.out.size hS3)
     clear hS3 hb3 hS0
     go_wp2_with fail
     go_roundw
     case rel => exact ⟨k + 1, by omega, by go_num, (by rw [heq.out, HST.out, HSE.out]; rfl : begL eqV l m = begL eqV (l.drop (k + 1)) (m.drop (k + 1))), X.out⟩
     case measure => simp [intOf]; omega
   ·have HST : Hid (begL eqV (l.drop k) (m.drop k) = false) := Hd (begL_short eqV hx (by rw [HL2.out]; omega))
    have t0 : decide ((n2 : Int) ≤ (k : Int)) = true := by rw [decide_eq_true_iff]; omega
    clear hse1 hx hbB
    go_wp2_with fail
    refine wp_region_held (S := fun W => Below wr.heap.size wr W) (by kernel_rfl) ?_
    change wpAnyH _ _ _ _ _ _ _ _ (World.drew _)
    refine teH 0 (.int .i64 (k : Int)) rfl (by intro W hW; go_simp; try (first | (with_reducible rfl) | omega)) hS0 ?_
    refine teH 1 (.slice A2 n2 c2) rfl (by intro W hW; go_simp; try (first | (with_reducible rfl) | omega)) hS0 ?_
    refine teH 2 (.int .i64 (n2 : Int)) rfl (by intro W hW; go_simp; try (first | (with_reducible rfl) | omega)) hS0 ?_
    refine teH 3 (.bool true) rfl (by intro W hW; go_simp; try (first | (with_reducible rfl) | omega)) hS0 ?_
    refine teH 4 (.bool true) rfl (by intro W hW; go_simp; try (first | (with_reducible rfl) | omega)) hS0 ?_
    refine wpAnyH_take (i := 5) (v := undef) rfl (by kernel_rfl) (by kernel_rfl) (by kernel_rfl) (fun _ _ _ h => h) (Or.inr ⟨by kernel_rfl, rfl⟩) hS0 ?_
    refine wpAnyH_take (i := 6) (v := undef) rfl (by kernel_rfl) (by kernel_rfl) (by kernel_rfl) (fun _ _ _ h => h) (Or.inr ⟨by kernel_rfl, rfl⟩) hS0 ?_
    refine wpAnyH_take (i := 7) (v := undef) rfl (by kernel_rfl) (by kernel_rfl) (by kernel_rfl) (fun _ _ _ h => h) (Or.inr ⟨by kernel_rfl, rfl⟩) hS0 ?_
    refine wpAnyH_take (i := 8) (v := undef) rfl (by kernel_rfl) (by kernel_rfl) (by kernel_rfl) (fun _ _ _ h => h) (Or.inr ⟨by kernel_rfl, rfl⟩) hS0 ?_
    refine wpAnyH_take (i := 9) (v := undef) rfl (by kernel_rfl) (by kernel_rfl) (by kernel_rfl) (fun _ _ _ h => h) (Or.inr ⟨by kernel_rfl, rfl⟩) hS0 ?_
    refine wpAnyH_take (i := 10) (v := undef) rfl (by kernel_rfl) (by kernel_rfl) (by kernel_rfl) (fun _ _ _ h => h) (Or.inr ⟨by kernel_rfl, rfl⟩) hS0 ?_
    refine wpAnyH_take (i := 11) (v := undef) rfl (by kernel_rfl) (by kernel_rfl) (by kernel_rfl) (fun _ _ _ h => h) (Or.inr ⟨by kernel_rfl, rfl⟩) hS0 ?_
    refine wpAnyH_take (i := 12) (v := undef) rfl (by kernel_rfl) (by kernel_rfl) (by kernel_rfl) (fun _ _ _ h => h) (Or.inr ⟨by kernel_rfl, rfl⟩) hS0 ?_
    refine wpAnyH_take (i := 13) (v := undef) rfl (by kernel_rfl) (by kernel_rfl) (by kernel_rfl) (fun _ _ _ h => h) (Or.inr ⟨by kernel_rfl, rfl⟩) hS0 ?_
    refine wpAnyH_take (i := 14) (v := undef) rfl (by kernel_rfl) (by kernel_rfl) (by kernel_rfl) (fun _ _ _ h => h) (Or.inr ⟨by kernel_rfl, rfl⟩) hS0 ?_
    refine wpAnyH_one (i := 15) (by kernel_rfl) rfl (fun K hK => ?_)
    go_simp
    refine hK _ _ ⟨hS0, ?_⟩; clear hK K
    refine wpAnyH_done (by kernel_rfl) ?_ _
    have X := Hd (bl_trans hb.out hb.out.size hS0)
    clear hS0
    go_wp2_with fail
    go_ret
    exact ⟨by rw [heq.out, HST.out]; rfl, X.out⟩
  ·have hkn : k = n1 := by omega
   subst hkn
   have HE : Hid (begL eqV l m = true) := Hd (by rw [heq.out, ← HL1.out]; exact begL_end _ _ _)
   go_wp2_with fail
   go_ret
   exact ⟨by rw [HE.out]; rfl, hb.out⟩
def eqIs (l m : List Int) : Bool := decide (l = m)
def SameI (l m : List Int) (k : Nat) : Prop := ∀ j, j < k → l[j]? = m[j]?
theorem SameI.succ {l m : List Int} {k : Nat} {x y : Int} (h : SameI l m k) (hx : l[k]? = some x) (hy : m[k]? = some y) (he : x = y) : SameI l m (k + 1) := by
 intro j hj
 by_cases hjk : j = k
 ·subst hjk
  rw [hx, hy, he]
 ·exact h j (by omega)
theorem SameI.all {l m : List Int} (h : SameI l m l.length) (hl : l.length = m.length) : eqIs l m = true := by
 unfold eqIs
 rw [decide_eq_true_iff]
 apply List.ext_getElem?
 intro j
 by_cases hj : j < l.length
 ·exact h j hj
 ·rw [List.getElem?_eq_none (by omega), List.getElem?_eq_none (by omega)]
theorem eqIs_len {l m : List Int} (h : l.length ≠ m.length) : eqIs l m = false := by
 unfold eqIs
 rw [decide_eq_false_iff_not]
 intro he
 rw [he] at h
 exact h rfl
theorem eqIs_at {l m : List Int} {k : Nat} {x y : Int} (hx : l[k]? = some x) (hy : m[k]? = some y) (h : x ≠ y) : eqIs l m = false := by
 unfold eqIs
 rw [decide_eq_false_iff_not]
 intro he
 rw [he, hy] at hx
 injection hx with hx
 exact h hx.symm
theorem eqIs_refl (l : List Int) : eqIs l l = true := by simp [eqIs]
theorem refInts_any (B1 B2 : Nat) (A1 A2 : Option Addr) (n1 n2 c1 c2 : Nat) (l m : List Int) (w : World) (h1 : SlN w B1 A1 n1 c1 l) (h2 : SlN w B2 A2 n2 c2 m) :
  Calls Tryz.prog 59 #[.slice A1 n1 c1, .slice A2 n2 c2] w fun e w' => e = .returned (.bool (eqIs l m)) ∧ ∃ q, w' = w.drewN q := by
 have hl1 := h1.1
 have hl2 := h2.1
 have hm : n1 ≤ 9223372036854775807 := by have := h1.2.1; have := h1.2.2.1; unfold maxLen at this; omega
 by_cases hn : n1 = n2
 ·subst hn
  have H1 := Hd h1
  have H2 := Hd h2
  have HL1 := Hd hl1
  have HL2 := Hd hl2
  clear h1 h2 hl1 hl2
  have hne : ((n1 : Int) != (n1 : Int)) = false := by simp
  go_in
  go_wp2
  go_loopw [5] (fun i wr => ∃ k q : Nat, k ≤ n1 ∧ i = .int .i64 k ∧ wr = w.drewN q ∧ Hid (SameI l m k)) (fun i _ => n1 - (intOf i).toNat)
  case atStart => exact ⟨0, 0, Nat.zero_le _, rfl, rfl, (fun j hj => absurd hj (by omega) : SameI l m 0)⟩
  case round =>
   obtain ⟨k, q, hk, rfl, rfl, HS⟩ := hrel
   by_cases hlt : k < n1
   ·obtain ⟨b1, o1, x, rfl, _, hx, hc1, _⟩ := sln_at H1.out hlt
    obtain ⟨b2, o2, y, rfl, _, hy, hd1, _⟩ := sln_at H2.out hlt
    have HX := Hd hx
    have HY := Hd hy
    clear hx hy
    by_cases hf : (x == y) = true
    ·have HE : Hid (x = y) := Hd (beq_iff_eq.1 hf)
     have hf' : (x != y) = false := by simp [bne, hf]
     go_wp2
     go_quiet (fail)
     go_wp2
     go_roundw
     case rel => exact ⟨k + 1, _, by omega, by go_num, rfl, HS.out.succ HX.out HY.out HE.out⟩
     case measure => simp [intOf]; omega
    ·have hf0 : (x == y) = false := by simpa using hf
     have hf' : (x != y) = true := by simp [bne, hf0]
     have HE : Hid (eqIs l m = false) := Hd (eqIs_at HX.out HY.out (by simpa using hf0))
     clear hf
     go_wp2
     go_quiet (fail)
     go_wp2
     go_ret
     exact ⟨by rw [HE.out]; rfl, q + nq, World.drewN_drewN _ _ _⟩
   ·have HE : Hid (eqIs l m = true) := Hd (by
     obtain rfl : k = n1 := by omega
     refine SameI.all ?_ (by rw [HL1.out, HL2.out])
     rw [HL1.out]
     exact HS.out)
    go_wp2
    go_ret
    exact ⟨by rw [HE.out]; rfl, _, rfl⟩
 ·have HE : Hid (eqIs l m = false) := Hd (eqIs_len (by omega))
  have hne : ((n1 : Int) != (n2 : Int)) = true := by rw [bne_iff_ne]; omega
  clear h1 h2 hl1 hl2 hn
  go_in
  go_wp2
  go_ret
  exact ⟨by rw [HE.out]; rfl, 0, rfl⟩
def runEq (a b : DRun) : Bool := (((decide (a.events.length = b.events.length) && begL eqV a.events b.events) && (decide (a.chain.length = b.chain.length) && begL eqP a.chain b.chain)) && (a.fin == b.fin)) && eqIs a.results b.results
theorem eqV_symm (x y : DEvent) : eqV x y = eqV y x := by
 unfold eqV eqH
 rw [eqEs_symm, Bool.beq_comm (a := x.k), Bool.beq_comm (a := x.n), Bool.beq_comm (a := x.m)]
theorem begL_symm {α : Type} (f : α → α → Bool) (hs : ∀ x y, f x y = f y x) : ∀ (l m : List α), l.length = m.length → begL f l m = begL f m l
 | [], [], _ => rfl
 | a :: l, b :: m, h => by
  show (f a b && begL f l m) = (f b a && begL f m l)
  rw [hs a b, begL_symm f hs l m (by simpa using h)]
theorem runEq_ref (a b : DRun) : runEq a b = ((((begL eqV a.events b.events && begL eqV b.events a.events) && (a.fin == b.fin)) && eqIs a.results b.results) && (decide (a.chain.length = b.chain.length) && begL eqP a.chain b.chain)) := by
 unfold runEq
 have h : (decide (a.events.length = b.events.length) && begL eqV a.events b.events) = (begL eqV a.events b.events && begL eqV b.events a.events) := by
  by_cases h1 : a.events.length = b.events.length
  ·rw [← begL_symm eqV eqV_symm _ _ h1]
   simp [h1]
  ·rcases Nat.lt_or_gt_of_ne h1 with h2 | h2
   ·rw [begL_long eqV _ _ h2]
    simp [h1]
   ·rw [begL_long eqV _ _ h2]
    simp [h1]
 rw [h]
 cases (begL eqV a.events b.events && begL eqV b.events a.events) <;> cases (decide (a.chain.length = b.chain.length) && begL eqP a.chain b.chain) <;> cases (a.fin == b.fin) <;> cases (eqIs a.results b.results) <;> rfl
theorem begL_refl {α : Type} (f : α → α → Bool) (hf : ∀ x, f x x = true) (l : List α) : begL f l l = true := by
 have := begL_take f hf l l.length
 rwa [List.take_length] at this
theorem lay2 {w w1 w2 : World} {B : Nat} {cs1 cs2 : Array Value} {t1 t2 : TypeId} (hw1 : w.alloc (.cells cs1 t1) = w1) (hw2 : w1.alloc (.cells cs2 t2) = w2) :
  Below w.heap.size w w2 ∧ (∀ W, Below w2.heap.size w2 W → ∀ i v, cs1[i]? = some v → W.cell? ⟨w.heap.size, i, none⟩ = some v) ∧ (∀ W, Below w2.heap.size w2 W → ∀ i v, cs2[i]? = some v → W.cell? ⟨w.heap.size + 1, i, none⟩ = some v) := by
 have hz1 : w1.heap.size = w.heap.size + 1 := by rw [← hw1]; simp
 have hz2 : w2.heap.size = w.heap.size + 2 := by rw [← hw2]; simp; omega
 refine ⟨?_, fun W hW i v hv => ?_, fun W hW i v hv => ?_⟩
 ·rw [← hw2]
  refine Below.alloc ?_ (by omega) _
  rw [← hw1]
  exact (Below.refl _ _).alloc (Nat.le_refl _) _
 ·refine box_cells w cs1 t1 W ?_ i v hv
  rw [hw1]
  refine Below.trans ?_ (hW.mono (by omega))
  rw [← hw2]
  exact (Below.refl _ _).alloc (by omega) _
 ·rw [← hz1]
  refine box_cells w1 cs2 t2 W ?_ i v hv
  rw [hw2]
  exact hW.mono (by omega)
theorem refRuns_any (a b : DRun) (A0 : Option Addr) (n0 c0 : Nat) (A1 : Option Addr) (n1 c1 : Nat) (A2 : Option Addr) (n2 c2 : Nat) (D0 : Option Addr) (m0 d0 : Nat) (D1 : Option Addr) (m1 d1 : Nat) (D2 : Option Addr) (m2 d2 : Nat) (B : Nat) (w : World) (ha0 : SlV w B A0 n0 c0 a.events) (ha1 : SlN w B A1 n1 c1 a.results) (ha2 : SlP w B A2 n2 c2 a.chain) (hb0 : SlV w B D0 m0 d0 b.events) (hb1 : SlN w B D1 m1 d1 b.results) (hb2 : SlP w B D2 m2 d2 b.chain) (hB : B ≤ w.heap.size) :
  Calls Tryz.prog 31 #[runV A0 n0 c0 a.fin A1 n1 c1 A2 n2 c2 a.steps, runV D0 m0 d0 b.fin D1 m1 d1 D2 m2 d2 b.steps] w fun e w' => e = .returned (.bool (runEq a b)) ∧ Below w.heap.size w w' := by
 have cE : ∀ W, Below w.heap.size w W → Hid (Calls Tryz.prog 32 #[.slice A0 n0 c0, .slice D0 m0 d0] W fun e w' => e = .returned (.bool (begL eqV a.events b.events)) ∧ Below W.heap.size W w') := fun W hW => refBegins_any B A0 D0 n0 m0 c0 d0 _ _ W (ha0.keep (hW.mono hB)) (hb0.keep (hW.mono hB)) (Nat.le_trans hB hW.size)
 have cF : ∀ W, Below w.heap.size w W → Hid (Calls Tryz.prog 32 #[.slice D0 m0 d0, .slice A0 n0 c0] W fun e w' => e = .returned (.bool (begL eqV b.events a.events)) ∧ Below W.heap.size W w') := fun W hW => refBegins_any B D0 A0 m0 n0 d0 c0 _ _ W (hb0.keep (hW.mono hB)) (ha0.keep (hW.mono hB)) (Nat.le_trans hB hW.size)
 have cI : ∀ W, Below w.heap.size w W → Hid (Calls Tryz.prog 59 #[.slice A1 n1 c1, .slice D1 m1 d1] W fun e w' => e = .returned (.bool (eqIs a.results b.results)) ∧ ∃ q, w' = W.drewN q) := fun W hW => refInts_any B B A1 D1 n1 m1 c1 d1 _ _ W (ha1.keep (hW.mono hB)) (hb1.keep (hW.mono hB))
 have t2 : ((n2 : Int) != (m2 : Int)) = !decide (a.chain.length = b.chain.length) := by rw [ha2.1, hb2.1, Bool.eq_iff_iff]; simp; omega
 have L2 : Hid (decide (a.chain.length = b.chain.length) = true → n2 = m2) := Hd (fun h => by rw [← ha2.1, ← hb2.1]; exact of_decide_eq_true h)
 have hn2 : n2 ≤ 10000000000000 := by have := ha2.2.2.2.1; unfold reachBytes at this; omega
 have HC1 := Hd ha2
 have HC2 := Hd hb2
 have HBB := Hd hB
 rw [runEq_ref]
 obtain ⟨e1, h1⟩ : ∃ v, begL eqV a.events b.events = v := ⟨_, rfl⟩
 obtain ⟨f1, h1'⟩ : ∃ v, begL eqV b.events a.events = v := ⟨_, rfl⟩
 obtain ⟨e2, h2⟩ : ∃ v, begL eqP a.chain b.chain = v := ⟨_, rfl⟩
 obtain ⟨e3, h3⟩ : ∃ v, eqIs a.results b.results = v := ⟨_, rfl⟩
 obtain ⟨x2, h5⟩ : ∃ v, decide (a.chain.length = b.chain.length) = v := ⟨_, rfl⟩
 rw [h1] at cE ⊢
 rw [h1'] at cF ⊢
 rw [h2]
 rw [h3] at cI ⊢
 rw [h5] at t2 L2 ⊢
 have H2 := Hd h2
 obtain ⟨fa, h6⟩ : ∃ v, a.fin = v := ⟨_, rfl⟩
 obtain ⟨fb, h7⟩ : ∃ v, b.fin = v := ⟨_, rfl⟩
 obtain ⟨sa, h8⟩ : ∃ v, a.steps = v := ⟨_, rfl⟩
 obtain ⟨sb, h9⟩ : ∃ v, b.steps = v := ⟨_, rfl⟩
 obtain ⟨x3, t3⟩ : ∃ v, (fa == fb) = v := ⟨_, rfl⟩
 have t3' : (fa != fb) = !x3 := by rw [← t3]; rfl
 rw [h6, h7, h8, h9, t3]
 have HLA : Hid (a.chain.length = n2) := Hd ha2.1
 obtain ⟨ca, hca⟩ : ∃ v, a.chain = v := ⟨_, rfl⟩
 obtain ⟨cb, hcb⟩ : ∃ v, b.chain = v := ⟨_, rfl⟩
 rw [hca] at HC1 H2 HLA
 rw [hcb] at HC2 H2
 clear h1 h1' h2 h3 h5 h6 h7 h8 h9 ha0 ha1 ha2 hb0 hb1 hb2 hB t3 hca hcb
 obtain ⟨w1, hw1⟩ : ∃ w1, w.alloc (.cells #[.slice A0 n0 c0, .int .i64 fa, .slice A1 n1 c1, .slice A2 n2 c2, .int .i64 sa] 71) = w1 := ⟨_, rfl⟩
 obtain ⟨w2, hw2⟩ : ∃ w2, w1.alloc (.cells #[.slice D0 m0 d0, .int .i64 fb, .slice D1 m1 d1, .slice D2 m2 d2, .int .i64 sb] 71) = w2 := ⟨_, rfl⟩
 have hl := lay2 (B := 0) hw1 hw2
 have HW : Hid ((w.alloc (.cells #[.slice A0 n0 c0, .int .i64 fa, .slice A1 n1 c1, .slice A2 n2 c2, .int .i64 sa] 71)).alloc (.cells #[.slice D0 m0 d0, .int .i64 fb, .slice D1 m1 d1, .slice D2 m2 d2, .int .i64 sb] 71) = w2) := Hd (by rw [hw1, hw2])
 have HB := Hd hl.1
 have EA := Hd hl.2.1
 have EB := Hd hl.2.2
 clear hl hw1 hw2
 have hS2 : Below w2.heap.size w2 w2 := Below.refl _ _
 go_in
 go_wp2_with fail
 try rw [HW.out]
 refine Calls.mono (cE _ (bl_trans HB.out HB.out.size hS2)).out ?_
 rintro e w3 ⟨rfl, hb3⟩
 have hS3 := bl_trans hS2 hS2.size hb3
 clear hb3
 have ca0 := EA.out w3 hS3 0 (.slice A0 n0 c0) rfl
 have ca1 := EA.out w3 hS3 1 (.int .i64 fa) rfl
 have ca2 := EA.out w3 hS3 2 (.slice A1 n1 c1) rfl
 have ca3 := EA.out w3 hS3 3 (.slice A2 n2 c2) rfl
 have cb0 := EB.out w3 hS3 0 (.slice D0 m0 d0) rfl
 have cb1 := EB.out w3 hS3 1 (.int .i64 fb) rfl
 have cb2 := EB.out w3 hS3 2 (.slice D1 m1 d1) rfl
 have cb3 := EB.out w3 hS3 3 (.slice D2 m2 d2) rfl
 cases e1
 case false =>
  go_wp2_with fail
  try rw [HW.out]
  go_ret
  exact ⟨by simp, bl_trans HB.out HB.out.size hS3⟩
 case true =>
  go_wp2_with fail
  try rw [HW.out]
  refine Calls.mono (cF _ (bl_trans HB.out HB.out.size hS3)).out ?_
  rintro e w4 ⟨rfl, hb4⟩
  have hS4 := bl_trans hS3 hS3.size hb4
  clear hb4
  clear ca0 cb0 ca1 cb1 ca2 cb2 ca3 cb3
  have ca0 := EA.out w4 hS4 0 (.slice A0 n0 c0) rfl
  have ca1 := EA.out w4 hS4 1 (.int .i64 fa) rfl
  have ca2 := EA.out w4 hS4 2 (.slice A1 n1 c1) rfl
  have ca3 := EA.out w4 hS4 3 (.slice A2 n2 c2) rfl
  have cb0 := EB.out w4 hS4 0 (.slice D0 m0 d0) rfl
  have cb1 := EB.out w4 hS4 1 (.int .i64 fb) rfl
  have cb2 := EB.out w4 hS4 2 (.slice D1 m1 d1) rfl
  have cb3 := EB.out w4 hS4 3 (.slice D2 m2 d2) rfl
  cases f1
  case false =>
   go_wp2_with fail
   try rw [HW.out]
   go_ret
   exact ⟨by simp, bl_trans HB.out HB.out.size hS4⟩
  case true =>
   cases x3
   case false =>
    go_wp2_with fail
    try rw [HW.out]
    go_ret
    exact ⟨by simp, bl_trans HB.out HB.out.size hS4⟩
   case true =>
    go_wp2_with fail
    try rw [HW.out]
    refine Calls.mono (cI _ (bl_trans HB.out HB.out.size hS4)).out ?_
    rintro e w5 ⟨rfl, q, rfl⟩
    have hS5 := below_drewN' hS4 q
    clear ca0 cb0 ca1 cb1 ca2 cb2 ca3 cb3
    have ca0 := EA.out _ hS5 0 (.slice A0 n0 c0) rfl
    have ca1 := EA.out _ hS5 1 (.int .i64 fa) rfl
    have ca2 := EA.out _ hS5 2 (.slice A1 n1 c1) rfl
    have ca3 := EA.out _ hS5 3 (.slice A2 n2 c2) rfl
    have cb0 := EB.out _ hS5 0 (.slice D0 m0 d0) rfl
    have cb1 := EB.out _ hS5 1 (.int .i64 fb) rfl
    have cb2 := EB.out _ hS5 2 (.slice D1 m1 d1) rfl
    have cb3 := EB.out _ hS5 3 (.slice D2 m2 d2) rfl
    cases e3
    case false =>
     go_wp2_with fail
     try rw [HW.out]
     go_ret
     exact ⟨by simp, bl_trans HB.out HB.out.size hS5⟩
    case true =>
     cases x2
     case false =>
      go_wp2_with fail
      try rw [HW.out]
      go_ret
      exact ⟨by simp, bl_trans HB.out HB.out.size hS5⟩
     case true =>
      have hnm := L2.out rfl
      subst hnm
      clear cE cF cI L2 HW
      go_wp2_with fail
      go_loopw [5] (fun i wr => ∃ k : Nat, k ≤ n2 ∧ i = .int .i64 k ∧ Hid (begL eqP ca cb = begL eqP (ca.drop k) (cb.drop k)) ∧ Hid (Below w2.heap.size w2 wr)) (fun i _ => n2 - (intOf i).toNat)
      case atStart => exact ⟨0, Nat.zero_le _, rfl, (Hd rfl : Hid (begL eqP ca cb = begL eqP ca cb)), hS5⟩
      case round =>
       clear ca0 cb0 ca1 cb1 ca2 cb2 ca3 cb3
       obtain ⟨k, hk, rfl, heq, hb⟩ := hrel
       have ca3 := EA.out wr hb.out 3 (.slice A2 n2 c2) rfl
       have cb3 := EB.out wr hb.out 3 (.slice D2 n2 d2) rfl
       by_cases hlt : k < n2
       ·have hbw := bl_trans HB.out HB.out.size hb.out
        obtain ⟨b1, o1, x, X0, y0, z0, rfl, hb1, hx, p1, p2, p3, p4, hse1, _⟩ := slp_at HC1.out hlt
        obtain ⟨b2, o2, y, Y0, u0, v0, rfl, hb2, hy, q1, q2, q3, q4, hse2, _⟩ := slp_at HC2.out hlt
        rw [← (hbw.mono HBB.out).cell hb1] at p1 p2 p3 p4
        rw [← (hbw.mono HBB.out).cell hb2] at q1 q2 q3 q4
        have HST := Hd (begL_step eqP hx hy)
        have cc : ∀ W, Below w.heap.size w W → Hid (Calls Tryz.prog 60 #[.slice X0 y0 z0, .slice Y0 u0 v0] W fun e w' => e = .returned (.bool (eqEs x.tr y.tr)) ∧ ∃ q, w' = W.drewN q) := fun W hW => entries_any B B X0 Y0 y0 u0 z0 v0 x.tr y.tr W (slee_rc (hse1.keep (hW.mono HBB.out))) (slee_rc (hse2.keep (hW.mono HBB.out)))
        have HSE : Hid (eqP x y = (((x.k == y.k) && ((x.n == y.n) && (x.rc == y.rc))) && eqEs x.tr y.tr)) := Hd rfl
        obtain ⟨g, hg⟩ : ∃ g, eqEs x.tr y.tr = g := ⟨_, rfl⟩
        rw [hg] at cc HSE
        obtain ⟨i1, j1⟩ : ∃ v, (x.k == y.k) = v := ⟨_, rfl⟩
        obtain ⟨i2, j2⟩ : ∃ v, (x.n == y.n) = v := ⟨_, rfl⟩
        rw [j1, j2] at HSE
        have j1' : (x.k != y.k) = !i1 := by rw [← j1]; rfl
        have j2' : (x.n != y.n) = !i2 := by rw [← j2]; rfl
        obtain ⟨k1, l1⟩ : ∃ v, x.k = v := ⟨_, rfl⟩
        obtain ⟨k2, l2⟩ : ∃ v, x.n = v := ⟨_, rfl⟩
        obtain ⟨k3, l3⟩ : ∃ v, x.rc = v := ⟨_, rfl⟩
        obtain ⟨r1, s1⟩ : ∃ v, y.k = v := ⟨_, rfl⟩
        obtain ⟨r2, s2⟩ : ∃ v, y.n = v := ⟨_, rfl⟩
        obtain ⟨r3, s3⟩ : ∃ v, y.rc = v := ⟨_, rfl⟩
        rw [l1] at p1 j1'
        rw [l2] at p2 j2'
        rw [l3] at p3 HSE
        rw [s1] at q1 j1'
        rw [s2] at q2 j2'
        rw [s3] at q3 HSE
        have z0 : w.heap.size + 1 < wr.heap.size := by have h1 := HB.out.size; have h2 := hb.out.size; have := World.block_lt_of_cell? _ _ cb3; simpa using this
        have z1 : b1 < wr.heap.size := World.block_lt_of_cell? _ _ p1
        have z2 : b2 < wr.heap.size := World.block_lt_of_cell? _ _ q1
        have z3 : w.heap.size < wr.heap.size := by omega
        have hbw' := Hd hbw
        clear hbw
        clear hg hse1 hse2 hx hy j1 j2 l1 l2 l3 s1 s2 s3 hb1 hb2
        have HS7 : ∀ o1 o2, Hid (Below w.heap.size w ((wr.alloc o1).alloc o2).drew) := fun o1 o2 => Hd (((hbw'.out.alloc hbw'.out.size _).alloc (Nat.le_trans hbw'.out.size (by simp)) _).drew)
        have HS8 : ∀ W, Below w.heap.size w W → Hid (Below w2.heap.size w2 W) → Hid (Below w2.heap.size w2 W) := fun _ _ h => h
        have HS9 : ∀ o1 o2 q, Hid (Below w2.heap.size w2 (((wr.alloc o1).alloc o2).drewN q)) := fun o1 o2 q => Hd (below_drewN' ((hb.out.alloc hb.out.size _).alloc (Nat.le_trans hb.out.size (by simp)) _) q)
        clear HS8
        go_wp2_with fail
        go_region
        all_goals
         cases i1
         case false =>
          have HE : Hid (e2 = false) := Hd (by rw [← H2.out, heq.out, HST.out, HSE.out]; simp)
          go_wp2_with fail
          go_ret
          exact ⟨by rw [HE.out]; rfl, ((HS7 _ _).out)⟩
         case true =>
          cases i2
          case false =>
           have HE : Hid (e2 = false) := Hd (by rw [← H2.out, heq.out, HST.out, HSE.out]; simp)
           go_wp2_with fail
           go_ret
           exact ⟨by rw [HE.out]; rfl, ((HS7 _ _).out)⟩
          case true =>
           cases k3 <;> cases r3
           ·go_wp2_with fail
            refine Calls.mono (cc _ (HS7 _ _).out).out ?_
            rintro e w9 ⟨rfl, q, rfl⟩
            cases g
            case false =>
             have HE : Hid (e2 = false) := Hd (by rw [← H2.out, heq.out, HST.out, HSE.out]; simp)
             go_wp2_with fail
             go_ret
             exact ⟨by rw [HE.out]; rfl, (bl_trans HB.out HB.out.size (HS9 _ _ _).out)⟩
            case true =>
             go_wp2_with fail
             go_roundw
             case rel => exact ⟨k + 1, by omega, by go_num, (by rw [heq.out, HST.out, HSE.out]; rfl : begL eqP ca cb = begL eqP (ca.drop (k + 1)) (cb.drop (k + 1))), (HS9 _ _ _).out⟩
             case measure => simp [intOf]; omega
           ·have HE : Hid (e2 = false) := Hd (by rw [← H2.out, heq.out, HST.out, HSE.out]; simp)
            go_wp2_with fail
            go_ret
            exact ⟨by rw [HE.out]; rfl, ((HS7 _ _).out)⟩
           ·have HE : Hid (e2 = false) := Hd (by rw [← H2.out, heq.out, HST.out, HSE.out]; simp)
            go_wp2_with fail
            go_ret
            exact ⟨by rw [HE.out]; rfl, ((HS7 _ _).out)⟩
           ·go_wp2_with fail
            refine Calls.mono (cc _ (HS7 _ _).out).out ?_
            rintro e w9 ⟨rfl, q, rfl⟩
            cases g
            case false =>
             have HE : Hid (e2 = false) := Hd (by rw [← H2.out, heq.out, HST.out, HSE.out]; simp)
             go_wp2_with fail
             go_ret
             exact ⟨by rw [HE.out]; rfl, (bl_trans HB.out HB.out.size (HS9 _ _ _).out)⟩
            case true =>
             go_wp2_with fail
             go_roundw
             case rel => exact ⟨k + 1, by omega, by go_num, (by rw [heq.out, HST.out, HSE.out]; rfl : begL eqP ca cb = begL eqP (ca.drop (k + 1)) (cb.drop (k + 1))), (HS9 _ _ _).out⟩
             case measure => simp [intOf]; omega
       ·have hkn : k = n2 := by omega
        subst hkn
        have HE : Hid (e2 = true) := Hd (by rw [← H2.out, heq.out, ← HLA.out]; exact begL_end _ _ _)
        go_wp2_with fail
        go_ret
        exact ⟨by rw [HE.out]; rfl, bl_trans HB.out HB.out.size hb.out⟩
end Ru
end Go.Proofs.YtobmjnmcjddhcaaGreat
