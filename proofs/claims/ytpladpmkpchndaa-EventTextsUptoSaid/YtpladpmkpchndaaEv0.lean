/-
  Tracebacks: whether two are the same, by the program and by the document.
-/
import Derived.Test.YtpladpmkpchndaaEvT
import Derived.Test.YtpladpmkpchndaaHeld
namespace Go.Proofs.Ytpladpmkpchndaa
open Go.RowKit
set_option linter.unusedSimpArgs false
set_option linter.unusedVariables false

theorem SlR.all {α : Type} {sz bytes : Nat} {R : Rd α} {w : World} {B : Nat} {A : Option Addr} {n c : Nat} {xs : List α} (h : SlR sz bytes R w B A n c xs) {p : α → Prop} (hp : ∀ cs x, R w B cs x → p x) : ∀ x ∈ xs, p x := by
  intro x hx
  obtain ⟨i, hi, rfl⟩ := List.getElem_of_mem hx
  obtain ⟨h1, h2, h3, h4, h5⟩ := h
  obtain ⟨b, off, hA, hb, hel⟩ := h5 (by omega)
  obtain ⟨cs, _, _, hr⟩ := hel i _ (List.getElem?_eq_getElem hi)
  exact hp _ _ hr

def cellsE (e : DEntry) : List Value := [.int .i64 e.func, .int .i64 e.line]
abbrev OkE (e : DEntry) : Prop := (Lit.int .i64 e.func).wf = true ∧ (Lit.int .i64 e.line).wf = true
abbrev SlE (w : World) (B : Nat) (A : Option Addr) (n c : Nat) (es : List DEntry) : Prop := SlR 2 16 REntry w B A n c es
theorem sle_rc {w : World} {B : Nat} {A : Option Addr} {n c : Nat} {es : List DEntry} (h : SlE w B A n c es) : SlR 2 16 (RC cellsE) w B A n c es :=
  h.imp fun cs x _ hr => hr.1
theorem sle_ok {w : World} {B : Nat} {A : Option Addr} {n c : Nat} {es : List DEntry} (h : SlE w B A n c es) : ∀ e ∈ es, OkE e := SlR.all (R := REntry) h fun _ _ hr => hr.2
theorem sle_of {w : World} {B : Nat} {A : Option Addr} {n c : Nat} {es : List DEntry} (h : SlR 2 16 (RC cellsE) w B A n c es) (hok : ∀ e ∈ es, OkE e) : SlE w B A n c es :=
  h.imp fun cs x hx hr => ⟨hr, hok x hx⟩
theorem SlE.keep {w w' : World} {B : Nat} {A : Option Addr} {n c : Nat} {es : List DEntry} (h : SlE w B A n c es) (hb : Below B w w') : SlE w' B A n c es := SlR.below (R := REntry) stable_Entry h hb
theorem SlE.up {w : World} {B B' : Nat} {A : Option Addr} {n c : Nat} {es : List DEntry} (h : SlE w B A n c es) (hB : B ≤ B') : SlE w B' A n c es := sle_of ((sle_rc h).more hB) (sle_ok h)
theorem SlE.keepAt {w w' : World} {B B' : Nat} {A : Option Addr} {n c : Nat} {es : List DEntry} (h : SlE w B A n c es) (p : Nat → Prop) (hA : ∀ ad, A = some ad → p ad.block) (hk : ∀ q : Addr, p q.block → q.block < B → w'.cell? q = w.cell? q) (hB : B ≤ B') : SlE w' B' A n c es := by
  refine sle_of ?_ (sle_ok h)
  obtain ⟨h1, h2, h3, h4, h5⟩ := sle_rc h
  refine ⟨h1, h2, h3, h4, fun hn => ?_⟩
  obtain ⟨b, off, hb1, hb2, hx⟩ := h5 hn
  refine ⟨b, off, hb1, by omega, fun i x hi => ?_⟩
  obtain ⟨cs, hl, hc, hr⟩ := hx i x hi
  exact ⟨cs, hl, fun j u hj => (hk ⟨b, off + (i * 2 + j), none⟩ (by have := hA _ hb1; exact this) hb2).trans (hc j u hj), hr⟩
def keyE (e : DEntry) : Int × Int := (e.func, e.line)
def eqEs (l m : List DEntry) : Bool := decide (l.map keyE = m.map keyE)
theorem eqEs_refl (l : List DEntry) : eqEs l l = true := by simp [eqEs]
theorem eqEs_len {l m : List DEntry} (h : l.length ≠ m.length) : eqEs l m = false := by
  unfold eqEs
  rw [decide_eq_false_iff_not]
  intro he
  have := congrArg List.length he
  simp at this
  exact h this
theorem eqEs_at {l m : List DEntry} {k : Nat} {x y : DEntry} (hx : l[k]? = some x) (hy : m[k]? = some y) (h : keyE x ≠ keyE y) : eqEs l m = false := by
  unfold eqEs
  rw [decide_eq_false_iff_not]
  intro he
  have := congrArg (fun l => l[k]?) he
  simp [hx, hy] at this
  exact h this
def SameTo (l m : List DEntry) (k : Nat) : Prop := ∀ j, j < k → (l.map keyE)[j]? = (m.map keyE)[j]?
theorem SameTo.succ {l m : List DEntry} {k : Nat} {x y : DEntry} (h : SameTo l m k) (hx : l[k]? = some x) (hy : m[k]? = some y) (he : keyE x = keyE y) : SameTo l m (k + 1) := by
  intro j hj
  by_cases hjk : j = k
  · subst hjk
    simp [hx, hy, he]
  · exact h j (by omega)
theorem SameTo.all {l m : List DEntry} (h : SameTo l m l.length) (hl : l.length = m.length) : eqEs l m = true := by
  unfold eqEs
  rw [decide_eq_true_iff]
  apply List.ext_getElem?
  intro j
  by_cases hj : j < l.length
  · exact h j hj
  · rw [List.getElem?_eq_none (by simp; omega), List.getElem?_eq_none (by simp; omega)]

theorem SlR.cell2 {bytes : Nat} {w : World} {B : Nat} {A : Option Addr} {n c : Nat} {es : List DEntry} (h : SlR 2 bytes (RC cellsE) w B A n c es) {i : Nat} (hi : i < n) :
    ∃ b off x, A = some ⟨b, off, none⟩ ∧ b < B ∧ es[i]? = some x ∧ w.cell? ⟨b, off + i * 2, none⟩ = some (.int .i64 x.func) ∧ w.cell? ⟨b, off + i * 2 + 1, none⟩ = some (.int .i64 x.line) := by
  obtain ⟨b, off, x, cs, hA, hb, hx, _, hc, hr⟩ := h.at_ hi
  unfold RC at hr
  subst hr
  exact ⟨b, off, x, hA, hb, hx, by simpa using hc 0 _ rfl, by simpa [Nat.add_assoc] using hc 1 _ rfl⟩

set_option maxRecDepth 100000 in
set_option maxHeartbeats 1000000 in
theorem equal_any (B1 B2 : Nat) (A1 A2 : Option Addr) (n1 n2 c1 c2 : Nat) (l m : List DEntry) (w : World) (h1 : SlR 2 16 (RC cellsE) w B1 A1 n1 c1 l) (h2 : SlR 2 16 (RC cellsE) w B2 A2 n2 c2 m) :
    Calls Try.prog 87 #[.slice A1 n1 c1, .slice A2 n2 c2] w fun e w' => e = .returned (.bool (eqEs l m)) ∧ ∃ q, w' = w.drewN q := by
  have hl1 := h1.1
  have hl2 := h2.1
  have hm : n1 ≤ 9223372036854775807 := by have := h1.2.1; have := h1.2.2.1; unfold maxLen at this; omega
  by_cases hn : n1 = n2
  · subst hn
    have H1 := Lib.hid h1
    have H2 := Lib.hid h2
    have HL1 := Lib.hid hl1
    have HL2 := Lib.hid hl2
    clear h1 h2 hl1 hl2
    have hne : ((n1 : Int) != (n1 : Int)) = false := by simp
    go_enter Try.func87, Try.ntmps87
    go_wp2
    go_loopw [13] (fun i wr => ∃ k q : Nat, k ≤ n1 ∧ i = .int .i64 k ∧ wr = w.drewN q ∧ SameTo l m k) (fun i _ => n1 - (intOf i).toNat)
    case atStart => exact ⟨0, 0, Nat.zero_le _, rfl, rfl, fun j hj => absurd hj (by omega)⟩
    case round =>
      obtain ⟨k, q, hk, rfl, rfl, hs⟩ := hrel
      have HS := Lib.hid hs
      clear hs
      by_cases hlt : k < n1
      · obtain ⟨b1, o1, x, rfl, _, hx, hc1, hc2⟩ := SlR.cell2 H1.out hlt
        obtain ⟨b2, o2, y, rfl, _, hy, hd1, hd2⟩ := SlR.cell2 H2.out hlt
        have HX := Lib.hid hx
        have HY := Lib.hid hy
        clear hx hy
        obtain ⟨xf, hxf⟩ : ∃ z, x.func = z := ⟨_, rfl⟩
        obtain ⟨xl, hxl⟩ : ∃ z, x.line = z := ⟨_, rfl⟩
        obtain ⟨yf, hyf⟩ : ∃ z, y.func = z := ⟨_, rfl⟩
        obtain ⟨yl, hyl⟩ : ∃ z, y.line = z := ⟨_, rfl⟩
        rw [hxf] at hc1
        rw [hxl] at hc2
        rw [hyf] at hd1
        rw [hyl] at hd2
        have HK : Hid (keyE x = (xf, xl) ∧ keyE y = (yf, yl)) := by
          show keyE x = _ ∧ keyE y = _
          unfold keyE
          rw [hxf, hxl, hyf, hyl]
          exact ⟨rfl, rfl⟩
        clear hxf hxl hyf hyl
        by_cases hf : (xf == yf) = true
        · by_cases hl : (xl == yl) = true
          · have HE : Hid (keyE x = keyE y) := by
              show keyE x = keyE y
              rw [HK.out.1, HK.out.2, beq_iff_eq.1 hf, beq_iff_eq.1 hl]
            go_wp2
            go_quiet (fail)
            go_wp2
            go_roundw
            case rel => exact ⟨k + 1, _, by omega, by go_num, rfl, HS.out.succ HX.out HY.out HE.out⟩
            case measure => simp [intOf]; omega
          · have hl' : (xl == yl) = false := by simpa using hl
            have HE : Hid (eqEs l m = false) := by
              refine eqEs_at HX.out HY.out ?_
              rw [HK.out.1, HK.out.2]
              intro h
              simp only [Prod.mk.injEq] at h
              rw [h.2] at hl'
              simp at hl'
            clear hl
            go_wp2
            go_quiet (fail)
            go_wp2
            go_ret
            exact ⟨by rw [HE.out]; rfl, q + nq, World.drewN_drewN _ _ _⟩
        · have hf' : (xf == yf) = false := by simpa using hf
          have HE : Hid (eqEs l m = false) := by
            refine eqEs_at HX.out HY.out ?_
            rw [HK.out.1, HK.out.2]
            intro h
            simp only [Prod.mk.injEq] at h
            rw [h.1] at hf'
            simp at hf'
          clear hf
          go_wp2
          go_quiet (fail)
          go_wp2
          go_ret
          exact ⟨by rw [HE.out]; rfl, q + nq, World.drewN_drewN _ _ _⟩
      · have HE : Hid (eqEs l m = true) := by
          obtain rfl : k = n1 := by omega
          refine SameTo.all ?_ (by rw [HL1.out, HL2.out])
          rw [HL1.out]
          exact HS.out
        go_wp2
        go_ret
        exact ⟨by rw [HE.out]; rfl, _, rfl⟩
  · have HE : Hid (eqEs l m = false) := eqEs_len (by omega)
    have hne : ((n1 : Int) != (n2 : Int)) = true := by rw [bne_iff_ne]; omega
    clear h1 h2 hl1 hl2 hn
    go_enter Try.func87, Try.ntmps87
    go_wp2
    go_ret
    exact ⟨by rw [HE.out]; rfl, 0, rfl⟩
set_option maxRecDepth 100000 in
set_option maxHeartbeats 1000000 in
theorem entries_any (B1 B2 : Nat) (A1 A2 : Option Addr) (n1 n2 c1 c2 : Nat) (l m : List DEntry) (w : World) (h1 : SlR 2 16 (RC cellsE) w B1 A1 n1 c1 l) (h2 : SlR 2 16 (RC cellsE) w B2 A2 n2 c2 m) :
    Calls Try.prog 88 #[.slice A1 n1 c1, .slice A2 n2 c2] w fun e w' => e = .returned (.bool (eqEs l m)) ∧ ∃ q, w' = w.drewN q := by
  have hl1 := h1.1
  have hl2 := h2.1
  have hm : n1 ≤ 9223372036854775807 := by have := h1.2.1; have := h1.2.2.1; unfold maxLen at this; omega
  by_cases hn : n1 = n2
  · subst hn
    have H1 := Lib.hid h1
    have H2 := Lib.hid h2
    have HL1 := Lib.hid hl1
    have HL2 := Lib.hid hl2
    clear h1 h2 hl1 hl2
    have hne : ((n1 : Int) != (n1 : Int)) = false := by simp
    go_enter Try.func88, Try.ntmps88
    go_wp2
    go_loopw [5] (fun i wr => ∃ k q : Nat, k ≤ n1 ∧ i = .int .i64 k ∧ wr = w.drewN q ∧ SameTo l m k) (fun i _ => n1 - (intOf i).toNat)
    case atStart => exact ⟨0, 0, Nat.zero_le _, rfl, rfl, fun j hj => absurd hj (by omega)⟩
    case round =>
      obtain ⟨k, q, hk, rfl, rfl, hs⟩ := hrel
      have HS := Lib.hid hs
      clear hs
      by_cases hlt : k < n1
      · obtain ⟨b1, o1, x, rfl, _, hx, hc1, hc2⟩ := SlR.cell2 H1.out hlt
        obtain ⟨b2, o2, y, rfl, _, hy, hd1, hd2⟩ := SlR.cell2 H2.out hlt
        have HX := Lib.hid hx
        have HY := Lib.hid hy
        clear hx hy
        obtain ⟨xf, hxf⟩ : ∃ z, x.func = z := ⟨_, rfl⟩
        obtain ⟨xl, hxl⟩ : ∃ z, x.line = z := ⟨_, rfl⟩
        obtain ⟨yf, hyf⟩ : ∃ z, y.func = z := ⟨_, rfl⟩
        obtain ⟨yl, hyl⟩ : ∃ z, y.line = z := ⟨_, rfl⟩
        rw [hxf] at hc1
        rw [hxl] at hc2
        rw [hyf] at hd1
        rw [hyl] at hd2
        have HK : Hid (keyE x = (xf, xl) ∧ keyE y = (yf, yl)) := by
          show keyE x = _ ∧ keyE y = _
          unfold keyE
          rw [hxf, hxl, hyf, hyl]
          exact ⟨rfl, rfl⟩
        clear hxf hxl hyf hyl
        by_cases hf : (xf == yf) = true
        · by_cases hl : (xl == yl) = true
          · have HE : Hid (keyE x = keyE y) := by
              show keyE x = keyE y
              rw [HK.out.1, HK.out.2, beq_iff_eq.1 hf, beq_iff_eq.1 hl]
            go_wp2
            go_quiet (fail)
            go_wp2
            go_roundw
            case rel => exact ⟨k + 1, _, by omega, by go_num, rfl, HS.out.succ HX.out HY.out HE.out⟩
            case measure => simp [intOf]; omega
          · have hl' : (xl == yl) = false := by simpa using hl
            have HE : Hid (eqEs l m = false) := by
              refine eqEs_at HX.out HY.out ?_
              rw [HK.out.1, HK.out.2]
              intro h
              simp only [Prod.mk.injEq] at h
              rw [h.2] at hl'
              simp at hl'
            clear hl
            go_wp2
            go_quiet (fail)
            go_wp2
            go_ret
            exact ⟨by rw [HE.out]; rfl, q + nq, World.drewN_drewN _ _ _⟩
        · have hf' : (xf == yf) = false := by simpa using hf
          have HE : Hid (eqEs l m = false) := by
            refine eqEs_at HX.out HY.out ?_
            rw [HK.out.1, HK.out.2]
            intro h
            simp only [Prod.mk.injEq] at h
            rw [h.1] at hf'
            simp at hf'
          clear hf
          go_wp2
          go_quiet (fail)
          go_wp2
          go_ret
          exact ⟨by rw [HE.out]; rfl, q + nq, World.drewN_drewN _ _ _⟩
      · have HE : Hid (eqEs l m = true) := by
          obtain rfl : k = n1 := by omega
          refine SameTo.all ?_ (by rw [HL1.out, HL2.out])
          rw [HL1.out]
          exact HS.out
        go_wp2
        go_ret
        exact ⟨by rw [HE.out]; rfl, _, rfl⟩
  · have HE : Hid (eqEs l m = false) := eqEs_len (by omega)
    have hne : ((n1 : Int) != (n2 : Int)) = true := by rw [bne_iff_ne]; omega
    clear h1 h2 hl1 hl2 hn
    go_enter Try.func88, Try.ntmps88
    go_wp2
    go_ret
    exact ⟨by rw [HE.out]; rfl, 0, rfl⟩

theorem box_cells (w : World) (cs : Array Value) (t : TypeId) (w1 : World) (hb : Below (w.heap.size + 1) (w.alloc (.cells cs t)) w1) (i : Nat) (v : Value) (hv : cs[i]? = some v) : w1.cell? ⟨w.heap.size, i, none⟩ = some v := by
  rw [hb.cell (by simp), cell_of_row _ w.heap.size i cs t (0, 0) (heap_alloc_new w _)]
  exact hv

end Go.Proofs.Ytpladpmkpchndaa
