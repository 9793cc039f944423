import Derived.Test.YtobmjnmcjddhcaaGreatRows
import Derived.WalkKit
import Derived.ProofKit
import Derived.OpenShut
import Derived.ShutString
import Derived.ChangeOld
import Derived.Below
import Derived.SizedLaws
import Derived.Deep.Slices
import Derived.Deep.Draws
import Derived.Maps.AppendAt
import Derived.Deep.AppendLies
import Derived.RegionTactic
import Derived.OwnWalk
import Derived.Lib.Hide
import Derived.OrdersHeld
import Derived.WalkSpells
import Derived.WalkLawsBesides
import Derived.Outline
import Derived.Deep.QuietTactic
import Derived.BigQuiet
import Derived.Deep.DeepMust
import Derived.ArgAppend
import Derived.Deep.Onto
import Derived.Deep.RegionLaw
import Derived.Deep.Upon
import Derived.BigRegion
import Derived.Deep.Cut
import Derived.Laws.OwnMore
import Derived.Deep.RegionWith
set_option linter.unusedSimpArgs false
set_option linter.unusedVariables false
set_option maxRecDepth 100000
set_option maxHeartbeats 8000000
namespace Go.Proofs.YtobmjnmcjddhcaaGreat
theorem Hd {p : Prop} (h : p) : Go.RowKit.Hid p := Lib.hid h
theorem dcT {p : Prop} [Decidable p] (h : p) : decide p = true := decide_eq_true h
theorem dcF {p : Prop} [Decidable p] (h : ¬ p) : decide p = false := decide_eq_false h
open Go.ChangeShapes Go.WideShapes Go.ChangeAt Go.RowKit
section
variable {H : Type} {enc : TypeId × Value → H} {P : Program}
theorem below_trodAll (hl : laidOutB P = true) {W W' : World} (hb : Below W.heap.size W W') : ∀ {ts : List TypeId} {vs : List Value} {ds : List (DataW H)} {ps : List MemPlace},
  (∀ t ∈ ts, P.readableRec t = true ∧ t < P.types.size) → DataW.TrodAll enc P W 0 (fun _ => true) true ts vs ds ps → (∀ x ∈ ps, x.block < W.heap.size) →
  DataW.TrodAll enc P W' 0 (fun b => decide (b < W.heap.size)) true ts vs ds ps := by
 intro ts
 induction ts with
 | nil =>
  intro vs ds ps _ h _
  obtain ⟨rfl, rfl, rfl⟩ := trodAll_nil h
  exact trodAll_mk0
 | cons t ts ih =>
  intro vs ds ps ht h hlt
  obtain ⟨v, vs', d, ds', p, q, rfl, rfl, rfl, h0, r⟩ := trodAll_cons h
  have ht0 := ht t (by simp)
  exact trodAll_cons_mk (Below.trod hl ht0.1 ht0.2 h0 hb (fun x hx => hlt x (by simp [hx]))) (ih (fun t' h' => ht t' (by simp [h'])) r (fun x hx => hlt x (by simp [hx])))
theorem trodAll_length {w : World} {base : Nat} {sp : Nat → Bool} {hd : Bool} : ∀ {ts : List TypeId} {vs : List Value} {ds : List (DataW H)} {ps : List MemPlace}, DataW.TrodAll enc P w base sp hd ts vs ds ps → ds.length = ts.length := by
 intro ts
 induction ts with
 | nil =>
  intro vs ds ps h
  obtain ⟨rfl, rfl, rfl⟩ := trodAll_nil h
  rfl
 | cons t ts ih =>
  intro vs ds ps h
  obtain ⟨v, vs', d, ds', p, q, rfl, rfl, rfl, h0, r⟩ := trodAll_cons h
  simp [ih r]
end
theorem lawFrame {H : Type} {enc : TypeId × Value → H} {C : Checked} {os : Os} {f : FuncId} {fn : Func} {s : ChangeSpec} {dom : List PathCond} {tb : TypeId}
  (own : ownKnob C.prog.godebug = none) (laid : laidOutB C.prog = true) (started : os.Started) (noInit : C.prog.inits.idxOf? f = none) (hfn : C.prog.funcs[f]? = some fn)
  (hvars : s.vars = []) (hspec : ∀ ds : List (DataW H), ds.length = fn.params.toList.length → s.fn H (ds ++ []) = { results := [.lit (.bool true)], args := ds, vars := [] })
  (hres : fn.resultTypes.toList = [tb]) (htb : C.prog.underlying tb = some .bool)
  (hread : ∀ t ∈ fn.params.toList, C.prog.readableRec t = true ∧ t < C.prog.types.size)
  (witness : ∃ (w : World) (tape : Tape) (i : Input), w.os = os ∧ (w.forCall tape i).Shaped C.prog ∧ i.vars = [] ∧ Input.okWide C.prog (w.forCall tape i) .any w.heap.size f i ∧
   s.pre6 enc C.prog fn dom false (w.forCall tape i).memory i.args ∧ ({} : Assume).holds C.prog (lone (Frame.enter C.prog f i.args .normal) [] (w.forCall tape i)))
  (walk : ∀ (W : World) (base : Nat) (args : Array Value) (ds : List (DataW H)) (ps : List MemPlace),
   (∀ (j : Nat) t v, fn.params[j]? = some t → args[j]? = some v → Value.okWide C.prog W .any base t v) →
   DataW.TrodAll enc C.prog W 0 (fun _ => true) true fn.params.toList args.toList ds ps →
   (∀ x ∈ ps, x.block < W.heap.size) →
   (DataW.weightsEach C.prog fn.params.toList ds).all (· ≤ reachBytes) = true →
   Calls C.prog f args W fun e W' => e = .returned (.bool true) ∧ Below W.heap.size W W') :
  ReturnsInHanded {} C os f .any (s.pre6 enc C.prog fn dom false) (s.post enc C.prog fn false true false false) := by
 refine returnsInHanded_of_change_sized (C := C) own started noInit hfn witness ?_
 intro W base args ds gs before hval hW _ hsz _
 have hW' := hW
 obtain ⟨p, q, hA0, hV, hb, hfz, hnd⟩ := hW
 subst hb
 rw [hvars] at hV
 obtain ⟨rfl, rfl⟩ := trodVars_none hV
 have hA : DataW.TrodAll enc C.prog W 0 (fun _ => true) true fn.params.toList args.toList ds p := hA0
 have hlt : ∀ x ∈ p, x.block < W.heap.size := fun x hx => by simpa using hW'.lt x (by simp [hx])
 have hvt : s.plain.varTypes C.prog = [] := by
  have : s.plain.vars = [] := hvars
  simp [DataSpec.varTypes, this]
 rw [hvt, List.append_nil, List.append_nil] at hsz
 refine (walk W base args ds p hval hA hlt hsz).mono fun e W' ⟨he, bel⟩ => ?_
 subst he
 have e1 : s.fn H (ds ++ []) = { results := [.lit (.bool true)], args := ds, vars := [] } := hspec ds (trodAll_length hA)
 refine ⟨_, rfl, _, _, _, [], p, [], hW', ?_, ?_, ?_, bel.frame _, fun h => by cases h⟩
 ·rw [e1, hres]
  have hrs : fn.resultTypes.size = 1 := by rw [← Array.length_toList, hres]; rfl
  rw [hrs]
  exact trodAll_mk1 (shut_bool htb _)
 ·rw [e1]
  exact below_trodAll laid bel hread hA hlt
 ·rw [e1, hvars]
  exact rfl
end Go.Proofs.YtobmjnmcjddhcaaGreat
namespace Go.Proofs.YtobmjnmcjddhcaaGreat
open Go.ChangeShapes Go.WideShapes Go.ChangeAt Go.RowKit Go.Deep
abbrev Rd (α : Type) := World → Nat → List Value → α → Prop
def Stable {α : Type} (R : Rd α) : Prop := ∀ (w w' : World) (B : Nat) (cs : List Value) (x : α), R w B cs x → (∀ p : Addr, p.block < B → w'.cell? p = w.cell? p) → R w' B cs x
def RInt (k : IntKind) : Rd Int := fun _ _ cs x => cs = [.int k x] ∧ (Lit.int k x).wf = true
def RBool : Rd Bool := fun _ _ cs x => cs = [.bool x]
def RStr : Rd ByteArray := fun _ _ cs x => cs = [.string x] ∧ x.size ≤ reachBytes
def SlR {α : Type} (sz bytes : Nat) (R : Rd α) (w : World) (B : Nat) (A : Option Addr) (n c : Nat) (xs : List α) : Prop :=
 xs.length = n ∧ n ≤ c ∧ c ≤ maxLen ∧ n * bytes ≤ reachBytes ∧
 (0 < n → ∃ b off, A = some ⟨b, off, none⟩ ∧ b < B ∧ ∀ i x, xs[i]? = some x → ∃ cs : List Value, cs.length = sz ∧ (∀ j u, cs[j]? = some u → w.cell? ⟨b, off + (i * sz + j), none⟩ = some u) ∧ R w B cs x)
def RSl {α : Type} (sz bytes : Nat) (R : Rd α) : Rd (List α) := fun w B cs xs => ∃ A n c, cs = [.slice A n c] ∧ SlR sz bytes R w B A n c xs
theorem stable_int (k : IntKind) : Stable (RInt k) := fun _ _ _ _ _ h _ => h
theorem SlR.keep {α : Type} {sz bytes : Nat} {R : Rd α} (hR : Stable R) {w w' : World} {B : Nat} {A : Option Addr} {n c : Nat} {xs : List α} (h : SlR sz bytes R w B A n c xs)
  (hk : ∀ p : Addr, p.block < B → w'.cell? p = w.cell? p) : SlR sz bytes R w' B A n c xs := by
 obtain ⟨h1, h2, h3, h4, h5⟩ := h
 refine ⟨h1, h2, h3, h4, fun hn => ?_⟩
 obtain ⟨b, off, hA, hb, hx⟩ := h5 hn
 refine ⟨b, off, hA, hb, fun i x hi => ?_⟩
 obtain ⟨cs, hl, hc, hr⟩ := hx i x hi
 exact ⟨cs, hl, fun j u hj => (hk _ hb).trans (hc j u hj), hR _ _ _ _ _ hr hk⟩
theorem SlR.below {α : Type} {sz bytes : Nat} {R : Rd α} (hR : Stable R) {w w' : World} {B : Nat} {A : Option Addr} {n c : Nat} {xs : List α} (h : SlR sz bytes R w B A n c xs)
  (hb : Below B w w') : SlR sz bytes R w' B A n c xs := h.keep (R := R) hR fun _ hp => hb.cell hp
theorem SlR.at_ {α : Type} {sz bytes : Nat} {R : Rd α} {w : World} {B : Nat} {A : Option Addr} {n c : Nat} {xs : List α} (h : SlR sz bytes R w B A n c xs) {i : Nat} (hi : i < n) :
  ∃ b off x cs, A = some ⟨b, off, none⟩ ∧ b < B ∧ xs[i]? = some x ∧ cs.length = sz ∧ (∀ j u, cs[j]? = some u → w.cell? ⟨b, off + (i * sz + j), none⟩ = some u) ∧ R w B cs x := by
 obtain ⟨h1, h2, h3, h4, h5⟩ := h
 obtain ⟨b, off, hA, hb, hx⟩ := h5 (by omega)
 have hl : i < xs.length := by omega
 obtain ⟨cs, hl', hc, hr⟩ := hx i xs[i] (List.getElem?_eq_getElem hl)
 exact ⟨b, off, xs[i], cs, hA, hb, List.getElem?_eq_getElem hl, hl', hc, hr⟩
def Conv (P : Program) (T : TypeId) {α : Type} (R : Rd α) : Prop := ∀ {H : Type} {enc : TypeId × Value → H} {w : World} {B fuel : Nat} {cs : List Value} {y : DataW H × List MemPlace},
 DataW.trod enc P w 0 (fun _ => true) true fuel T cs = some y → (∀ x ∈ y.2, x.block < B) → (∀ m ∈ y.1.weights P T, m ≤ reachBytes) → ∃ x, R w B cs x
theorem conv_int {P : Program} {T : TypeId} {k : IntKind} (ht : P.underlying T = some (.int k)) : Conv P T (RInt k) := by
 intro H enc w B fuel cs y h _ _
 obtain ⟨n, rfl, _, hw⟩ := DataW.trod_int ht h
 exact ⟨n, rfl, hw⟩
theorem conv_bool {P : Program} {T : TypeId} (ht : P.underlying T = some .bool) : Conv P T RBool := by
 intro H enc w B fuel cs y h _ _
 obtain ⟨n, rfl, _⟩ := DataW.trod_bool ht h
 exact ⟨n, rfl⟩
theorem conv_str {P : Program} {T : TypeId} (ht : P.underlying T = some .string) : Conv P T RStr := by
 intro H enc w B fuel cs y h _ hw
 obtain ⟨s, rfl, hy, _⟩ := DataW.trod_string ht h
 subst hy
 refine ⟨s, rfl, ?_⟩
 have := hw s.data.toList.length (by simp [DataW.weights])
 simpa using this
theorem choose_list {α : Type} (n : Nat) (p : Nat → α → Prop) (h : ∀ i, i < n → ∃ x, p i x) : ∃ xs : List α, xs.length = n ∧ ∀ i x, xs[i]? = some x → p i x := by
 induction n with
 | zero => exact ⟨[], rfl, fun i x hi => by simp at hi⟩
 | succ n ih =>
  obtain ⟨xs, hl, hx⟩ := ih fun i hi => h i (by omega)
  obtain ⟨x, hp⟩ := h n (by omega)
  refine ⟨xs ++ [x], by simp [hl], fun i y hi => ?_⟩
  by_cases hlt : i < xs.length
  ·rw [List.getElem?_append_left hlt] at hi
   exact hx i y hi
  ·rw [List.getElem?_append_right (by omega)] at hi
   have h0 : i - xs.length = 0 := by
    by_cases h0 : i - xs.length = 0
    ·exact h0
    ·have : 1 ≤ i - xs.length := by omega
     rw [List.getElem?_eq_none (by simpa using this)] at hi
     cases hi
   rw [h0] at hi
   simp at hi
   subst hi
   have : i = n := by omega
   rw [this]
   exact hp
theorem weightsAll_mem {H : Type} {P : Program} {e : TypeId} : ∀ {l : List (DataW H)} {d : DataW H}, d ∈ l → ∀ m ∈ d.weights P e, m ∈ DataW.weightsAll P e l
 | a :: l, d, hd, m, hm => by
  simp only [DataW.weightsAll, List.mem_append]
  rcases List.mem_cons.1 hd with rfl | hd
  ·exact .inl hm
  ·exact .inr (weightsAll_mem hd m hm)
theorem conv_sl {P : Program} {T e : TypeId} {sz bytes : Nat} {α : Type} {R : Rd α} (ht : P.underlying T = some (.slice e)) (hC : P.cellsOf e = sz) (hby : P.bytesOf e = bytes) (hpos : 0 < sz) (hR : Conv P e R) : Conv P T (RSl sz bytes R) := by
 intro H enc w B fuel cs y h hp hw
 rcases open_slice ht h with ⟨rfl, _⟩ | ⟨a, len, cap, m, n, D, Pl, rfl, _, hl, hm, hmm, rfl, hi⟩
 ·exact ⟨[], none, 0, 0, rfl, rfl, Nat.le_refl _, by unfold maxLen; omega, by simp, fun h => absurd h (by omega)⟩
 ·have hmc : m = cap := by simpa using hmm
  subst hmc
  have hs : m * bytes ≤ reachBytes := by
   have := hw ((((List.range len).map D).length + ((List.range (m - len)).map fun j => D (len + j)).length) * P.bytesOf e) (by simp [DataW.weights, ht])
   simp only [List.length_map, List.length_range] at this
   rw [hby, show len + (m - len) = m by omega] at this
   exact this
  have hel : ∀ i, i < len → ∃ x, ∃ cs' : List Value, cs'.length = sz ∧ (∀ j u, cs'[j]? = some u → w.cell? (a.add (i * sz + j)) = some u) ∧ R w B cs' x := by
   intro i hil
   obtain ⟨cs', hc, ht'⟩ := hi i (by omega)
   rw [hC] at hc
   obtain ⟨_, hcl, hat⟩ := World.cells?_some hc
   obtain ⟨x, hx⟩ := hR ht' (fun p hp' => hp p (by
     simp only [List.mem_append, List.mem_flatMap, List.mem_range]
     exact .inr ⟨i, by omega, hp'⟩)) (fun k hk => hw k (by
     simp only [DataW.weights, ht]
     refine List.mem_cons_of_mem _ (List.mem_append.2 (.inl (weightsAll_mem (d := D i) ?_ k hk)))
     exact List.mem_map.2 ⟨i, List.mem_range.2 hil, rfl⟩))
   refine ⟨x, cs', hcl, fun j u hj => ?_, hx⟩
   have hjl : j < sz := by rw [← hcl]; exact (List.getElem?_eq_some_iff.1 hj).1
   have := hat j hjl
   rw [Go.Deep.add_add] at this
   rw [this, hj]
  obtain ⟨xs, hxl, hx⟩ := choose_list len _ hel
  refine ⟨xs, some a, len, m, rfl, hxl, hl, hm, Nat.le_trans (Nat.mul_le_mul_right _ hl) hs, fun hn => ?_⟩
  obtain ⟨b, off, spot⟩ := a
  have hx0 := hx 0 xs[0] (List.getElem?_eq_getElem (by omega))
  obtain ⟨cs0, hl0, hc0, _⟩ := hx0
  have hspot : spot = none := by
   have h0 := hc0 0 cs0[0] (List.getElem?_eq_getElem (by omega))
   simpa [Addr.add] using World.cell?_spot h0
  subst hspot
  have hadd : ∀ k, Addr.add ⟨b, off, none⟩ k = ⟨b, off + k, none⟩ := by
   intro k
   unfold Addr.add
   split
   ·rename_i h; subst h; rfl
   ·rfl
  refine ⟨b, off, rfl, ?_, fun i x hi' => ?_⟩
  ·have := hp (.cell b (off + 0)) (by
    refine List.mem_append.2 (.inl ?_)
    unfold MemPlace.row
    refine List.mem_map.2 ⟨0, List.mem_range.2 ?_, rfl⟩
    rw [hC]
    have : 0 < m := by omega
    exact Nat.mul_pos this hpos)
   exact this
  ·obtain ⟨cs', h1, h2, h3⟩ := hx i x hi'
   exact ⟨cs', h1, fun j u hj => by rw [← hadd]; exact h2 j u hj, h3⟩
theorem open_arg {P : Program} {T : TypeId} {α : Type} {R : Rd α} (hc : Conv P T R) {H : Type} {enc : TypeId × Value → H} {W : World} {v : Value} {d : DataW H} {p : List MemPlace} {B : Nat}
  (h : DataW.Trod enc P W 0 (fun _ => true) true T v d p) (hp : ∀ x ∈ p, x.block < B) (hw : ∀ m ∈ d.weights P T, m ≤ reachBytes) : ∃ x, R W B v.cells.toList x := by
 obtain ⟨fuel, hf⟩ := h
 exact hc hf hp hw
def RC {α : Type} (f : α → List Value) : Rd α := fun _ _ cs x => cs = f x
theorem stable_rc {α : Type} (f : α → List Value) : Stable (RC f) := fun _ _ _ _ _ h _ => h
theorem SlR.imp {α : Type} {sz bytes : Nat} {R R' : Rd α} {w : World} {B : Nat} {A : Option Addr} {n c : Nat} {xs : List α} (h : SlR sz bytes R w B A n c xs) (hR : ∀ cs x, x ∈ xs → R w B cs x → R' w B cs x) : SlR sz bytes R' w B A n c xs := by
 obtain ⟨h1, h2, h3, h4, h5⟩ := h
 refine ⟨h1, h2, h3, h4, fun hn => ?_⟩
 obtain ⟨b, off, hA, hb, hx⟩ := h5 hn
 refine ⟨b, off, hA, hb, fun i x hi => ?_⟩
 obtain ⟨cs, hl, hc, hr⟩ := hx i x hi
 exact ⟨cs, hl, hc, hR _ _ (List.mem_of_getElem? hi) hr⟩
theorem SlR.more {α : Type} {sz bytes : Nat} {f : α → List Value} {w : World} {B B' : Nat} {A : Option Addr} {n c : Nat} {xs : List α} (h : SlR sz bytes (RC f) w B A n c xs) (hB : B ≤ B') : SlR sz bytes (RC f) w B' A n c xs := by
 obtain ⟨h1, h2, h3, h4, h5⟩ := h
 refine ⟨h1, h2, h3, h4, fun hn => ?_⟩
 obtain ⟨b, off, hA, hb, hx⟩ := h5 hn
 exact ⟨b, off, hA, by omega, hx⟩
theorem SlR.nil_ {α : Type} {sz bytes : Nat} {R : Rd α} (w : World) (B : Nat) : SlR sz bytes R w B none 0 0 [] :=
 ⟨rfl, Nat.le_refl _, by unfold maxLen; omega, by simp, fun h => absurd h (by omega)⟩
abbrev RI (k : IntKind) : Rd Int := RC fun x => [.int k x]
theorem SlR.cell1 {α : Type} {bytes : Nat} {f : α → Value} {w : World} {B : Nat} {A : Option Addr} {n c : Nat} {xs : List α} (h : SlR 1 bytes (RC fun x => [f x]) w B A n c xs) {i : Nat} (hi : i < n) :
  ∃ b off x, A = some ⟨b, off, none⟩ ∧ b < B ∧ xs[i]? = some x ∧ w.cell? ⟨b, off + i, none⟩ = some (f x) := by
 obtain ⟨b, off, x, cs, hA, hb, hx, _, hc, hr⟩ := h.at_ hi
 unfold RC at hr
 subst hr
 exact ⟨b, off, x, hA, hb, hx, by simpa using hc 0 _ rfl⟩
theorem SlR.of_own {α : Type} {f : α → Value} {w : World} {base : Nat} {e : TypeId} {bytes : Nat} {v : Value} {n : Nat} {xs : List α} (h : w.ownsRow base e 1 v n (xs.map f)) (hb : n * bytes ≤ reachBytes) :
  ∃ A c, v = .slice A n c ∧ SlR 1 bytes (RC fun x => [f x]) w w.heap.size A n c xs := by
 have hl : xs.length = n := by simpa using h.1
 rcases h.2 with ⟨rfl, rfl⟩ | ⟨g, cap, cur, rfl, h1, h2, h3, h4, h5, h6⟩
 ·have : xs = [] := List.eq_nil_of_length_eq_zero hl
  subst this
  exact ⟨none, 0, rfl, SlR.nil_ w _⟩
 ·refine ⟨_, cap, rfl, hl, h3, h4, hb, fun hn => ⟨g, 0, rfl, ?_, fun i x hi => ⟨[f x], rfl, fun j u hj => ?_, rfl⟩⟩⟩
  ·rcases Nat.lt_or_ge g w.heap.size with hlt | hge
   ·exact hlt
   ·rw [Array.getElem?_eq_none hge] at h2; cases h2
  ·have hj0 : j = 0 := by
    have := (List.getElem?_eq_some_iff.1 hj).1
    simp at this
    omega
   subst hj0
   simp at hj
   subst hj
   have := h.cellAt i (by have := (List.getElem?_eq_some_iff.1 hi).1; omega)
   simp only [Nat.mul_one, Nat.add_zero, Nat.zero_add]
   rw [this, List.getElem?_map, hi]
   rfl
theorem below_drewN' {B : Nat} {a w : World} (h : Below B a w) (n : Nat) : Below B a (w.drewN n) := ⟨h.os, h.tape, h.output, h.size, h.block⟩
theorem len1 {α : Type} {l : List α} (h : l.length = 1) : ∃ a, l = [a] := by match l, h with | [a], _ => exact ⟨a, rfl⟩
theorem len2 {α : Type} {l : List α} (h : l.length = 2) : ∃ a b, l = [a, b] := by match l, h with | [a, b], _ => exact ⟨a, b, rfl⟩
theorem len3 {α : Type} {l : List α} (h : l.length = 3) : ∃ a b c, l = [a, b, c] := by match l, h with | [a, b, c], _ => exact ⟨a, b, c, rfl⟩
theorem len4 {α : Type} {l : List α} (h : l.length = 4) : ∃ a b c d, l = [a, b, c, d] := by match l, h with | [a, b, c, d], _ => exact ⟨a, b, c, d, rfl⟩
theorem len7 {α : Type} {l : List α} (h : l.length = 7) : ∃ a b c d e f g, l = [a, b, c, d, e, f, g] := by match l, h with | [a, b, c, d, e, f, g], _ => exact ⟨a, b, c, d, e, f, g, rfl⟩
theorem len11 {α : Type} {l : List α} (h : l.length = 11) : ∃ a b c d e f g i j k m, l = [a, b, c, d, e, f, g, i, j, k, m] := by match l, h with | [a, b, c, d, e, f, g, i, j, k, m], _ => exact ⟨a, b, c, d, e, f, g, i, j, k, m, rfl⟩
end Go.Proofs.YtobmjnmcjddhcaaGreat
namespace Go.Proofs.YtobmjnmcjddhcaaGreat
open Go.ChangeShapes Go.WideShapes Go.ChangeAt Go.RowKit Go.Deep
structure DInstr where
 op : Int
 a : Int
def RInstr : Rd DInstr := fun w B cs x => cs = [.int .i64 x.op, .int .i64 x.a] ∧ (Lit.int .i64 x.op).wf = true ∧ (Lit.int .i64 x.a).wf = true
theorem stable_Instr : Stable RInstr := by
 intro w w' B cs x h hk
 obtain ⟨e, q0, q1⟩ := h
 exact ⟨e, q0, q1⟩
theorem conv_Instr : Conv Tryz.prog 113 RInstr := by
 intro H enc w B fuel cs y h hp hw
 obtain ⟨ys, n, hn, rfl, hcl, hyl, hf⟩ := DataW.trod_struct Tryz.underlying113 h
 rw [show Tryz.prog.cellsOf 113 = 2 from by kernel_rfl] at hcl
 obtain ⟨k0, k1, rfl⟩ := len2 hcl
 obtain ⟨y0, y1, rfl⟩ := len2 hyl
 have g0 : DataW.trod enc Tryz.prog w 0 (fun _ => true) true n 111 [k0] = some y0 := by
  have hk1 : Tryz.prog.cellsOf 111 = 1 := by kernel_rfl
  have h1 : DataW.trod enc Tryz.prog w 0 (fun _ => true) true n 111 (List.take (Tryz.prog.cellsOf 111) (List.drop 0 [k0, k1])) = [y0, y1][0]? := hf 0 _ rfl
  rw [hk1] at h1
  exact h1
 obtain ⟨x0, hx0⟩ := (conv_int Tryz.underlying111) g0 (fun p hp1 => hp p (by simp [hp1])) (fun m hm => hw m (by simp [DataW.weights, Tryz.underlying113, DataW.weightsEach, hm]))
 have g1 : DataW.trod enc Tryz.prog w 0 (fun _ => true) true n 3 [k1] = some y1 := by
  have hk1 : Tryz.prog.cellsOf 3 = 1 := by kernel_rfl
  have h1 : DataW.trod enc Tryz.prog w 0 (fun _ => true) true n 3 (List.take (Tryz.prog.cellsOf 3) (List.drop 1 [k0, k1])) = [y0, y1][1]? := hf 1 _ rfl
  rw [hk1] at h1
  exact h1
 obtain ⟨x1, hx1⟩ := (conv_int Tryz.underlying3) g1 (fun p hp1 => hp p (by simp [hp1])) (fun m hm => hw m (by simp [DataW.weights, Tryz.underlying113, DataW.weightsEach, hm]))
 obtain ⟨e0, q0⟩ := hx0
 obtain ⟨e1, q1⟩ := hx1
 simp only [List.cons.injEq, and_true] at e0 e1
 subst e0 e1
 exact ⟨⟨x0, x1⟩, rfl, q0, q1⟩
structure DNode where
 parent : Int
 fn : Int
 line : Int
 from_ : Int
 args : Int
 to_ : Int
 resume : Int
def RNode : Rd DNode := fun w B cs x => cs = [.int .i64 x.parent, .int .i64 x.fn, .int .i64 x.line, .int .i64 x.from_, .int .i64 x.args, .int .i64 x.to_, .int .i64 x.resume] ∧ (Lit.int .i64 x.parent).wf = true ∧ (Lit.int .i64 x.fn).wf = true ∧ (Lit.int .i64 x.line).wf = true ∧ (Lit.int .i64 x.from_).wf = true ∧ (Lit.int .i64 x.args).wf = true ∧ (Lit.int .i64 x.to_).wf = true ∧ (Lit.int .i64 x.resume).wf = true
theorem stable_Node : Stable RNode := by
 intro w w' B cs x h hk
 obtain ⟨e, q0, q1, q2, q3, q4, q5, q6⟩ := h
 exact ⟨e, q0, q1, q2, q3, q4, q5, q6⟩
theorem conv_Node : Conv Tryz.prog 238 RNode := by
 intro H enc w B fuel cs y h hp hw
 obtain ⟨ys, n, hn, rfl, hcl, hyl, hf⟩ := DataW.trod_struct Tryz.underlying238 h
 rw [show Tryz.prog.cellsOf 238 = 7 from by kernel_rfl] at hcl
 obtain ⟨k0, k1, k2, k3, k4, k5, k6, rfl⟩ := len7 hcl
 obtain ⟨y0, y1, y2, y3, y4, y5, y6, rfl⟩ := len7 hyl
 have g0 : DataW.trod enc Tryz.prog w 0 (fun _ => true) true n 3 [k0] = some y0 := by
  have hk1 : Tryz.prog.cellsOf 3 = 1 := by kernel_rfl
  have h1 : DataW.trod enc Tryz.prog w 0 (fun _ => true) true n 3 (List.take (Tryz.prog.cellsOf 3) (List.drop 0 [k0, k1, k2, k3, k4, k5, k6])) = [y0, y1, y2, y3, y4, y5, y6][0]? := hf 0 _ rfl
  rw [hk1] at h1
  exact h1
 obtain ⟨x0, hx0⟩ := (conv_int Tryz.underlying3) g0 (fun p hp1 => hp p (by simp [hp1])) (fun m hm => hw m (by simp [DataW.weights, Tryz.underlying238, DataW.weightsEach, hm]))
 have g1 : DataW.trod enc Tryz.prog w 0 (fun _ => true) true n 3 [k1] = some y1 := by
  have hk1 : Tryz.prog.cellsOf 3 = 1 := by kernel_rfl
  have h1 : DataW.trod enc Tryz.prog w 0 (fun _ => true) true n 3 (List.take (Tryz.prog.cellsOf 3) (List.drop 1 [k0, k1, k2, k3, k4, k5, k6])) = [y0, y1, y2, y3, y4, y5, y6][1]? := hf 1 _ rfl
  rw [hk1] at h1
  exact h1
 obtain ⟨x1, hx1⟩ := (conv_int Tryz.underlying3) g1 (fun p hp1 => hp p (by simp [hp1])) (fun m hm => hw m (by simp [DataW.weights, Tryz.underlying238, DataW.weightsEach, hm]))
 have g2 : DataW.trod enc Tryz.prog w 0 (fun _ => true) true n 3 [k2] = some y2 := by
  have hk1 : Tryz.prog.cellsOf 3 = 1 := by kernel_rfl
  have h1 : DataW.trod enc Tryz.prog w 0 (fun _ => true) true n 3 (List.take (Tryz.prog.cellsOf 3) (List.drop 2 [k0, k1, k2, k3, k4, k5, k6])) = [y0, y1, y2, y3, y4, y5, y6][2]? := hf 2 _ rfl
  rw [hk1] at h1
  exact h1
 obtain ⟨x2, hx2⟩ := (conv_int Tryz.underlying3) g2 (fun p hp1 => hp p (by simp [hp1])) (fun m hm => hw m (by simp [DataW.weights, Tryz.underlying238, DataW.weightsEach, hm]))
 have g3 : DataW.trod enc Tryz.prog w 0 (fun _ => true) true n 3 [k3] = some y3 := by
  have hk1 : Tryz.prog.cellsOf 3 = 1 := by kernel_rfl
  have h1 : DataW.trod enc Tryz.prog w 0 (fun _ => true) true n 3 (List.take (Tryz.prog.cellsOf 3) (List.drop 3 [k0, k1, k2, k3, k4, k5, k6])) = [y0, y1, y2, y3, y4, y5, y6][3]? := hf 3 _ rfl
  rw [hk1] at h1
  exact h1
 obtain ⟨x3, hx3⟩ := (conv_int Tryz.underlying3) g3 (fun p hp1 => hp p (by simp [hp1])) (fun m hm => hw m (by simp [DataW.weights, Tryz.underlying238, DataW.weightsEach, hm]))
 have g4 : DataW.trod enc Tryz.prog w 0 (fun _ => true) true n 3 [k4] = some y4 := by
  have hk1 : Tryz.prog.cellsOf 3 = 1 := by kernel_rfl
  have h1 : DataW.trod enc Tryz.prog w 0 (fun _ => true) true n 3 (List.take (Tryz.prog.cellsOf 3) (List.drop 4 [k0, k1, k2, k3, k4, k5, k6])) = [y0, y1, y2, y3, y4, y5, y6][4]? := hf 4 _ rfl
  rw [hk1] at h1
  exact h1
 obtain ⟨x4, hx4⟩ := (conv_int Tryz.underlying3) g4 (fun p hp1 => hp p (by simp [hp1])) (fun m hm => hw m (by simp [DataW.weights, Tryz.underlying238, DataW.weightsEach, hm]))
 have g5 : DataW.trod enc Tryz.prog w 0 (fun _ => true) true n 3 [k5] = some y5 := by
  have hk1 : Tryz.prog.cellsOf 3 = 1 := by kernel_rfl
  have h1 : DataW.trod enc Tryz.prog w 0 (fun _ => true) true n 3 (List.take (Tryz.prog.cellsOf 3) (List.drop 5 [k0, k1, k2, k3, k4, k5, k6])) = [y0, y1, y2, y3, y4, y5, y6][5]? := hf 5 _ rfl
  rw [hk1] at h1
  exact h1
 obtain ⟨x5, hx5⟩ := (conv_int Tryz.underlying3) g5 (fun p hp1 => hp p (by simp [hp1])) (fun m hm => hw m (by simp [DataW.weights, Tryz.underlying238, DataW.weightsEach, hm]))
 have g6 : DataW.trod enc Tryz.prog w 0 (fun _ => true) true n 3 [k6] = some y6 := by
  have hk1 : Tryz.prog.cellsOf 3 = 1 := by kernel_rfl
  have h1 : DataW.trod enc Tryz.prog w 0 (fun _ => true) true n 3 (List.take (Tryz.prog.cellsOf 3) (List.drop 6 [k0, k1, k2, k3, k4, k5, k6])) = [y0, y1, y2, y3, y4, y5, y6][6]? := hf 6 _ rfl
  rw [hk1] at h1
  exact h1
 obtain ⟨x6, hx6⟩ := (conv_int Tryz.underlying3) g6 (fun p hp1 => hp p (by simp [hp1])) (fun m hm => hw m (by simp [DataW.weights, Tryz.underlying238, DataW.weightsEach, hm]))
 obtain ⟨e0, q0⟩ := hx0
 obtain ⟨e1, q1⟩ := hx1
 obtain ⟨e2, q2⟩ := hx2
 obtain ⟨e3, q3⟩ := hx3
 obtain ⟨e4, q4⟩ := hx4
 obtain ⟨e5, q5⟩ := hx5
 obtain ⟨e6, q6⟩ := hx6
 simp only [List.cons.injEq, and_true] at e0 e1 e2 e3 e4 e5 e6
 subst e0 e1 e2 e3 e4 e5 e6
 exact ⟨⟨x0, x1, x2, x3, x4, x5, x6⟩, rfl, q0, q1, q2, q3, q4, q5, q6⟩
structure DSet where
 w0 : Int
 w1 : Int
 w2 : Int
 w3 : Int
def RSet : Rd DSet := fun w B cs x => cs = [.int .u64 x.w0, .int .u64 x.w1, .int .u64 x.w2, .int .u64 x.w3] ∧ (Lit.int .u64 x.w0).wf = true ∧ (Lit.int .u64 x.w1).wf = true ∧ (Lit.int .u64 x.w2).wf = true ∧ (Lit.int .u64 x.w3).wf = true
theorem stable_Set : Stable RSet := by
 intro w w' B cs x h hk
 obtain ⟨e, q0, q1, q2, q3⟩ := h
 exact ⟨e, q0, q1, q2, q3⟩
theorem conv_Set : Conv Tryz.prog 216 RSet := by
 intro H enc w B fuel cs y h hp hw
 obtain ⟨ys, n, hn, rfl, hcl, hyl, hf⟩ := DataW.trod_array Tryz.underlying216 h
 rw [show Tryz.prog.cellsOf 216 = 4 from by kernel_rfl] at hcl
 obtain ⟨k0, k1, k2, k3, rfl⟩ := len4 hcl
 obtain ⟨y0, y1, y2, y3, rfl⟩ := len4 hyl
 have g0 : DataW.trod enc Tryz.prog w 0 (fun _ => true) true n 214 [k0] = some y0 := by
  have hk1 : Tryz.prog.cellsOf 214 = 1 := by kernel_rfl
  have h1 := hf 0 (by omega)
  rw [hk1] at h1
  exact h1
 obtain ⟨x0, hx0⟩ := (conv_int Tryz.underlying214) g0 (fun p hp1 => hp p (by simp [hp1])) (fun m hm => hw m (by simp [DataW.weights, Tryz.underlying216, DataW.weightsAll, hm]))
 have g1 : DataW.trod enc Tryz.prog w 0 (fun _ => true) true n 214 [k1] = some y1 := by
  have hk1 : Tryz.prog.cellsOf 214 = 1 := by kernel_rfl
  have h1 := hf 1 (by omega)
  rw [hk1] at h1
  exact h1
 obtain ⟨x1, hx1⟩ := (conv_int Tryz.underlying214) g1 (fun p hp1 => hp p (by simp [hp1])) (fun m hm => hw m (by simp [DataW.weights, Tryz.underlying216, DataW.weightsAll, hm]))
 have g2 : DataW.trod enc Tryz.prog w 0 (fun _ => true) true n 214 [k2] = some y2 := by
  have hk1 : Tryz.prog.cellsOf 214 = 1 := by kernel_rfl
  have h1 := hf 2 (by omega)
  rw [hk1] at h1
  exact h1
 obtain ⟨x2, hx2⟩ := (conv_int Tryz.underlying214) g2 (fun p hp1 => hp p (by simp [hp1])) (fun m hm => hw m (by simp [DataW.weights, Tryz.underlying216, DataW.weightsAll, hm]))
 have g3 : DataW.trod enc Tryz.prog w 0 (fun _ => true) true n 214 [k3] = some y3 := by
  have hk1 : Tryz.prog.cellsOf 214 = 1 := by kernel_rfl
  have h1 := hf 3 (by omega)
  rw [hk1] at h1
  exact h1
 obtain ⟨x3, hx3⟩ := (conv_int Tryz.underlying214) g3 (fun p hp1 => hp p (by simp [hp1])) (fun m hm => hw m (by simp [DataW.weights, Tryz.underlying216, DataW.weightsAll, hm]))
 obtain ⟨e0, q0⟩ := hx0
 obtain ⟨e1, q1⟩ := hx1
 obtain ⟨e2, q2⟩ := hx2
 obtain ⟨e3, q3⟩ := hx3
 simp only [List.cons.injEq, and_true] at e0 e1 e2 e3
 subst e0 e1 e2 e3
 exact ⟨⟨x0, x1, x2, x3⟩, rfl, q0, q1, q2, q3⟩
structure DFunc where
 name : ByteArray
 inner : Bool
 outer : List Int
 params : List Int
 results : List Int
 locals : List Int
 code : List DInstr
 lines : List Int
 nodes : List DNode
 at_ : List Int
 live : List DSet
def RFunc : Rd DFunc := fun w B cs x => ∃ A0 n0 c0, ∃ A1 n1 c1, ∃ A2 n2 c2, ∃ A3 n3 c3, ∃ A4 n4 c4, ∃ A5 n5 c5, ∃ A6 n6 c6, ∃ A7 n7 c7, ∃ A8 n8 c8, cs = [.string x.name, .bool x.inner, .slice A0 n0 c0, .slice A1 n1 c1, .slice A2 n2 c2, .slice A3 n3 c3, .slice A4 n4 c4, .slice A5 n5 c5, .slice A6 n6 c6, .slice A7 n7 c7, .slice A8 n8 c8] ∧ x.name.size ≤ reachBytes ∧ SlR 1 8 (RInt .i64) w B A0 n0 c0 x.outer ∧ SlR 1 8 (RInt .i64) w B A1 n1 c1 x.params ∧ SlR 1 8 (RInt .i64) w B A2 n2 c2 x.results ∧ SlR 1 8 (RInt .i64) w B A3 n3 c3 x.locals ∧ SlR 2 16 RInstr w B A4 n4 c4 x.code ∧ SlR 1 8 (RInt .i64) w B A5 n5 c5 x.lines ∧ SlR 7 56 RNode w B A6 n6 c6 x.nodes ∧ SlR 1 8 (RInt .i64) w B A7 n7 c7 x.at_ ∧ SlR 4 32 RSet w B A8 n8 c8 x.live
theorem stable_Func : Stable RFunc := by
 intro w w' B cs x h hk
 obtain ⟨A0, n0, c0, A1, n1, c1, A2, n2, c2, A3, n3, c3, A4, n4, c4, A5, n5, c5, A6, n6, c6, A7, n7, c7, A8, n8, c8, e, q0, q1, q2, q3, q4, q5, q6, q7, q8, q9⟩ := h
 exact ⟨A0, n0, c0, A1, n1, c1, A2, n2, c2, A3, n3, c3, A4, n4, c4, A5, n5, c5, A6, n6, c6, A7, n7, c7, A8, n8, c8, e, q0, q1.keep (R := (RInt .i64)) (stable_int .i64) hk, q2.keep (R := (RInt .i64)) (stable_int .i64) hk, q3.keep (R := (RInt .i64)) (stable_int .i64) hk, q4.keep (R := (RInt .i64)) (stable_int .i64) hk, q5.keep (R := RInstr) stable_Instr hk, q6.keep (R := (RInt .i64)) (stable_int .i64) hk, q7.keep (R := RNode) stable_Node hk, q8.keep (R := (RInt .i64)) (stable_int .i64) hk, q9.keep (R := RSet) stable_Set hk⟩
theorem conv_Func : Conv Tryz.prog 38 RFunc := by
 intro H enc w B fuel cs y h hp hw
 obtain ⟨ys, n, hn, rfl, hcl, hyl, hf⟩ := DataW.trod_struct Tryz.underlying38 h
 rw [show Tryz.prog.cellsOf 38 = 11 from by kernel_rfl] at hcl
 obtain ⟨k0, k1, k2, k3, k4, k5, k6, k7, k8, k9, k10, rfl⟩ := len11 hcl
 obtain ⟨y0, y1, y2, y3, y4, y5, y6, y7, y8, y9, y10, rfl⟩ := len11 hyl
 have g0 : DataW.trod enc Tryz.prog w 0 (fun _ => true) true n 9 [k0] = some y0 := by
  have hk1 : Tryz.prog.cellsOf 9 = 1 := by kernel_rfl
  have h1 : DataW.trod enc Tryz.prog w 0 (fun _ => true) true n 9 (List.take (Tryz.prog.cellsOf 9) (List.drop 0 [k0, k1, k2, k3, k4, k5, k6, k7, k8, k9, k10])) = [y0, y1, y2, y3, y4, y5, y6, y7, y8, y9, y10][0]? := hf 0 _ rfl
  rw [hk1] at h1
  exact h1
 obtain ⟨x0, hx0⟩ := (conv_str Tryz.underlying9) g0 (fun p hp1 => hp p (by simp [hp1])) (fun m hm => hw m (by simp [DataW.weights, Tryz.underlying38, DataW.weightsEach, hm]))
 have g1 : DataW.trod enc Tryz.prog w 0 (fun _ => true) true n 4 [k1] = some y1 := by
  have hk1 : Tryz.prog.cellsOf 4 = 1 := by kernel_rfl
  have h1 : DataW.trod enc Tryz.prog w 0 (fun _ => true) true n 4 (List.take (Tryz.prog.cellsOf 4) (List.drop 1 [k0, k1, k2, k3, k4, k5, k6, k7, k8, k9, k10])) = [y0, y1, y2, y3, y4, y5, y6, y7, y8, y9, y10][1]? := hf 1 _ rfl
  rw [hk1] at h1
  exact h1
 obtain ⟨x1, hx1⟩ := (conv_bool Tryz.underlying4) g1 (fun p hp1 => hp p (by simp [hp1])) (fun m hm => hw m (by simp [DataW.weights, Tryz.underlying38, DataW.weightsEach, hm]))
 have g2 : DataW.trod enc Tryz.prog w 0 (fun _ => true) true n 32 [k2] = some y2 := by
  have hk1 : Tryz.prog.cellsOf 32 = 1 := by kernel_rfl
  have h1 : DataW.trod enc Tryz.prog w 0 (fun _ => true) true n 32 (List.take (Tryz.prog.cellsOf 32) (List.drop 2 [k0, k1, k2, k3, k4, k5, k6, k7, k8, k9, k10])) = [y0, y1, y2, y3, y4, y5, y6, y7, y8, y9, y10][2]? := hf 2 _ rfl
  rw [hk1] at h1
  exact h1
 obtain ⟨x2, hx2⟩ := (conv_sl (sz := 1) (bytes := 8) (R := (RInt .i64)) Tryz.underlying32 (by kernel_rfl) (by kernel_rfl) (by omega) (conv_int Tryz.underlying40)) g2 (fun p hp1 => hp p (by simp [hp1])) (fun m hm => hw m (by simp [DataW.weights, Tryz.underlying38, DataW.weightsEach, hm]))
 have g3 : DataW.trod enc Tryz.prog w 0 (fun _ => true) true n 32 [k3] = some y3 := by
  have hk1 : Tryz.prog.cellsOf 32 = 1 := by kernel_rfl
  have h1 : DataW.trod enc Tryz.prog w 0 (fun _ => true) true n 32 (List.take (Tryz.prog.cellsOf 32) (List.drop 3 [k0, k1, k2, k3, k4, k5, k6, k7, k8, k9, k10])) = [y0, y1, y2, y3, y4, y5, y6, y7, y8, y9, y10][3]? := hf 3 _ rfl
  rw [hk1] at h1
  exact h1
 obtain ⟨x3, hx3⟩ := (conv_sl (sz := 1) (bytes := 8) (R := (RInt .i64)) Tryz.underlying32 (by kernel_rfl) (by kernel_rfl) (by omega) (conv_int Tryz.underlying40)) g3 (fun p hp1 => hp p (by simp [hp1])) (fun m hm => hw m (by simp [DataW.weights, Tryz.underlying38, DataW.weightsEach, hm]))
 have g4 : DataW.trod enc Tryz.prog w 0 (fun _ => true) true n 32 [k4] = some y4 := by
  have hk1 : Tryz.prog.cellsOf 32 = 1 := by kernel_rfl
  have h1 : DataW.trod enc Tryz.prog w 0 (fun _ => true) true n 32 (List.take (Tryz.prog.cellsOf 32) (List.drop 4 [k0, k1, k2, k3, k4, k5, k6, k7, k8, k9, k10])) = [y0, y1, y2, y3, y4, y5, y6, y7, y8, y9, y10][4]? := hf 4 _ rfl
  rw [hk1] at h1
  exact h1
 obtain ⟨x4, hx4⟩ := (conv_sl (sz := 1) (bytes := 8) (R := (RInt .i64)) Tryz.underlying32 (by kernel_rfl) (by kernel_rfl) (by omega) (conv_int Tryz.underlying40)) g4 (fun p hp1 => hp p (by simp [hp1])) (fun m hm => hw m (by simp [DataW.weights, Tryz.underlying38, DataW.weightsEach, hm]))
 have g5 : DataW.trod enc Tryz.prog w 0 (fun _ => true) true n 32 [k5] = some y5 := by
  have hk1 : Tryz.prog.cellsOf 32 = 1 := by kernel_rfl
  have h1 : DataW.trod enc Tryz.prog w 0 (fun _ => true) true n 32 (List.take (Tryz.prog.cellsOf 32) (List.drop 5 [k0, k1, k2, k3, k4, k5, k6, k7, k8, k9, k10])) = [y0, y1, y2, y3, y4, y5, y6, y7, y8, y9, y10][5]? := hf 5 _ rfl
  rw [hk1] at h1
  exact h1
 obtain ⟨x5, hx5⟩ := (conv_sl (sz := 1) (bytes := 8) (R := (RInt .i64)) Tryz.underlying32 (by kernel_rfl) (by kernel_rfl) (by omega) (conv_int Tryz.underlying40)) g5 (fun p hp1 => hp p (by simp [hp1])) (fun m hm => hw m (by simp [DataW.weights, Tryz.underlying38, DataW.weightsEach, hm]))
 have g6 : DataW.trod enc Tryz.prog w 0 (fun _ => true) true n 33 [k6] = some y6 := by
  have hk1 : Tryz.prog.cellsOf 33 = 1 := by kernel_rfl
  have h1 : DataW.trod enc Tryz.prog w 0 (fun _ => true) true n 33 (List.take (Tryz.prog.cellsOf 33) (List.drop 6 [k0, k1, k2, k3, k4, k5, k6, k7, k8, k9, k10])) = [y0, y1, y2, y3, y4, y5, y6, y7, y8, y9, y10][6]? := hf 6 _ rfl
  rw [hk1] at h1
  exact h1
 obtain ⟨x6, hx6⟩ := (conv_sl (sz := 2) (bytes := 16) (R := RInstr) Tryz.underlying33 (by kernel_rfl) (by kernel_rfl) (by omega) conv_Instr) g6 (fun p hp1 => hp p (by simp [hp1])) (fun m hm => hw m (by simp [DataW.weights, Tryz.underlying38, DataW.weightsEach, hm]))
 have g7 : DataW.trod enc Tryz.prog w 0 (fun _ => true) true n 34 [k7] = some y7 := by
  have hk1 : Tryz.prog.cellsOf 34 = 1 := by kernel_rfl
  have h1 : DataW.trod enc Tryz.prog w 0 (fun _ => true) true n 34 (List.take (Tryz.prog.cellsOf 34) (List.drop 7 [k0, k1, k2, k3, k4, k5, k6, k7, k8, k9, k10])) = [y0, y1, y2, y3, y4, y5, y6, y7, y8, y9, y10][7]? := hf 7 _ rfl
  rw [hk1] at h1
  exact h1
 obtain ⟨x7, hx7⟩ := (conv_sl (sz := 1) (bytes := 8) (R := (RInt .i64)) Tryz.underlying34 (by kernel_rfl) (by kernel_rfl) (by omega) (conv_int Tryz.underlying3)) g7 (fun p hp1 => hp p (by simp [hp1])) (fun m hm => hw m (by simp [DataW.weights, Tryz.underlying38, DataW.weightsEach, hm]))
 have g8 : DataW.trod enc Tryz.prog w 0 (fun _ => true) true n 35 [k8] = some y8 := by
  have hk1 : Tryz.prog.cellsOf 35 = 1 := by kernel_rfl
  have h1 : DataW.trod enc Tryz.prog w 0 (fun _ => true) true n 35 (List.take (Tryz.prog.cellsOf 35) (List.drop 8 [k0, k1, k2, k3, k4, k5, k6, k7, k8, k9, k10])) = [y0, y1, y2, y3, y4, y5, y6, y7, y8, y9, y10][8]? := hf 8 _ rfl
  rw [hk1] at h1
  exact h1
 obtain ⟨x8, hx8⟩ := (conv_sl (sz := 7) (bytes := 56) (R := RNode) Tryz.underlying35 (by kernel_rfl) (by kernel_rfl) (by omega) conv_Node) g8 (fun p hp1 => hp p (by simp [hp1])) (fun m hm => hw m (by simp [DataW.weights, Tryz.underlying38, DataW.weightsEach, hm]))
 have g9 : DataW.trod enc Tryz.prog w 0 (fun _ => true) true n 34 [k9] = some y9 := by
  have hk1 : Tryz.prog.cellsOf 34 = 1 := by kernel_rfl
  have h1 : DataW.trod enc Tryz.prog w 0 (fun _ => true) true n 34 (List.take (Tryz.prog.cellsOf 34) (List.drop 9 [k0, k1, k2, k3, k4, k5, k6, k7, k8, k9, k10])) = [y0, y1, y2, y3, y4, y5, y6, y7, y8, y9, y10][9]? := hf 9 _ rfl
  rw [hk1] at h1
  exact h1
 obtain ⟨x9, hx9⟩ := (conv_sl (sz := 1) (bytes := 8) (R := (RInt .i64)) Tryz.underlying34 (by kernel_rfl) (by kernel_rfl) (by omega) (conv_int Tryz.underlying3)) g9 (fun p hp1 => hp p (by simp [hp1])) (fun m hm => hw m (by simp [DataW.weights, Tryz.underlying38, DataW.weightsEach, hm]))
 have g10 : DataW.trod enc Tryz.prog w 0 (fun _ => true) true n 36 [k10] = some y10 := by
  have hk1 : Tryz.prog.cellsOf 36 = 1 := by kernel_rfl
  have h1 : DataW.trod enc Tryz.prog w 0 (fun _ => true) true n 36 (List.take (Tryz.prog.cellsOf 36) (List.drop 10 [k0, k1, k2, k3, k4, k5, k6, k7, k8, k9, k10])) = [y0, y1, y2, y3, y4, y5, y6, y7, y8, y9, y10][10]? := hf 10 _ rfl
  rw [hk1] at h1
  exact h1
 obtain ⟨x10, hx10⟩ := (conv_sl (sz := 4) (bytes := 32) (R := RSet) Tryz.underlying36 (by kernel_rfl) (by kernel_rfl) (by omega) conv_Set) g10 (fun p hp1 => hp p (by simp [hp1])) (fun m hm => hw m (by simp [DataW.weights, Tryz.underlying38, DataW.weightsEach, hm]))
 obtain ⟨e0, q0⟩ := hx0
 have e1 := hx1
 unfold RBool at e1
 obtain ⟨A2, n2, c2, e2, q2⟩ := hx2
 obtain ⟨A3, n3, c3, e3, q3⟩ := hx3
 obtain ⟨A4, n4, c4, e4, q4⟩ := hx4
 obtain ⟨A5, n5, c5, e5, q5⟩ := hx5
 obtain ⟨A6, n6, c6, e6, q6⟩ := hx6
 obtain ⟨A7, n7, c7, e7, q7⟩ := hx7
 obtain ⟨A8, n8, c8, e8, q8⟩ := hx8
 obtain ⟨A9, n9, c9, e9, q9⟩ := hx9
 obtain ⟨A10, n10, c10, e10, q10⟩ := hx10
 simp only [List.cons.injEq, and_true] at e0 e1 e2 e3 e4 e5 e6 e7 e8 e9 e10
 subst e0 e1 e2 e3 e4 e5 e6 e7 e8 e9 e10
 exact ⟨⟨x0, x1, x2, x3, x4, x5, x6, x7, x8, x9, x10⟩, A2, n2, c2, A3, n3, c3, A4, n4, c4, A5, n5, c5, A6, n6, c6, A7, n7, c7, A8, n8, c8, A9, n9, c9, A10, n10, c10, rfl, q0, q2, q3, q4, q5, q6, q7, q8, q9, q10⟩
structure DProgram where
 funcs : List DFunc
def RProgram : Rd DProgram := fun w B cs x => ∃ A0 n0 c0, cs = [.slice A0 n0 c0] ∧ SlR 11 240 RFunc w B A0 n0 c0 x.funcs
theorem conv_Program : Conv Tryz.prog 24 RProgram := by
 intro H enc w B fuel cs y h hp hw
 obtain ⟨ys, n, hn, rfl, hcl, hyl, hf⟩ := DataW.trod_struct Tryz.underlying24 h
 rw [show Tryz.prog.cellsOf 24 = 1 from by kernel_rfl] at hcl
 obtain ⟨k0, rfl⟩ := len1 hcl
 obtain ⟨y0, rfl⟩ := len1 hyl
 have g0 : DataW.trod enc Tryz.prog w 0 (fun _ => true) true n 22 [k0] = some y0 := by
  have hk1 : Tryz.prog.cellsOf 22 = 1 := by kernel_rfl
  have h1 : DataW.trod enc Tryz.prog w 0 (fun _ => true) true n 22 (List.take (Tryz.prog.cellsOf 22) (List.drop 0 [k0])) = [y0][0]? := hf 0 _ rfl
  rw [hk1] at h1
  exact h1
 obtain ⟨x0, hx0⟩ := (conv_sl (sz := 11) (bytes := 240) (R := RFunc) Tryz.underlying22 (by kernel_rfl) (by kernel_rfl) (by omega) conv_Func) g0 (fun p hp1 => hp p (by simp [hp1])) (fun m hm => hw m (by simp [DataW.weights, Tryz.underlying24, DataW.weightsEach, hm]))
 obtain ⟨A0, n0, c0, e0, q0⟩ := hx0
 simp only [List.cons.injEq, and_true] at e0
 subst e0
 exact ⟨⟨x0⟩, A0, n0, c0, rfl, q0⟩
end Go.Proofs.YtobmjnmcjddhcaaGreat
namespace Go.Proofs.YtobmjnmcjddhcaaGreat
open Go.RowKit
theorem own_keep {base : Nat} {e : TypeId} {size : Nat} {v : Value} {n : Nat} {xs : List Value} {w w' : World} (h : w.ownsRow base e size v n xs) (hb : Below w.heap.size w w') : w'.ownsRow base e size v n xs := by
 refine ⟨h.1, ?_⟩
 rcases h.2 with h2 | ⟨g, cap, cur, a, b, c, d⟩
 ·exact .inl h2
 ·exact .inr ⟨g, cap, cur, a, b, (hb.block g (Array.getElem?_eq_some_iff.1 c).1).trans c, d⟩
def SrcCells (w : World) (A : Option Addr) (m size : Nat) (news : List Value) : Prop :=
 news.length = m * size ∧ (A = none → m = 0) ∧ ∀ ad, A = some ad → ∀ j u, news[j]? = some u → w.cell? (ad.add j) = some u
theorem SrcCells.keep {w w' : World} {A : Option Addr} {m size : Nat} {news : List Value} (h : SrcCells w A m size news) (hk : ∀ ad j u, A = some ad → w.cell? (ad.add j) = some u → w'.cell? (ad.add j) = some u) : SrcCells w' A m size news :=
 ⟨h.1, h.2.1, fun ad ha j u hu => hk ad j u ha (h.2.2 ad ha j u hu)⟩
theorem flatMap_get {α : Type} {sz : Nat} (f : α → List Value) (hf : ∀ x, (f x).length = sz) : ∀ (xs : List α) (j : Nat) (u : Value), (xs.flatMap f)[j]? = some u → 0 < sz ∧ ∃ x, xs[j / sz]? = some x ∧ (f x)[j % sz]? = some u
 | [], j, u, h => by simp at h
 | x :: xs, j, u, h => by
  rw [List.flatMap_cons] at h
  by_cases hj : j < sz
  ·rw [List.getElem?_append_left (by rw [hf]; exact hj)] at h
   refine ⟨by omega, x, ?_, ?_⟩
   ·rw [Nat.div_eq_of_lt hj]; rfl
   ·rw [Nat.mod_eq_of_lt hj]; exact h
  ·rw [List.getElem?_append_right (by rw [hf]; omega), hf] at h
   obtain ⟨h0, y, h1, h2⟩ := flatMap_get f hf xs (j - sz) u h
   refine ⟨h0, y, ?_, ?_⟩
   ·have e : j / sz = (j - sz) / sz + 1 := by
     have : j = (j - sz) + sz := by omega
     conv => lhs; rw [this]
     exact Nat.add_div_right _ h0
    rw [e, List.getElem?_cons_succ]
    exact h1
   ·rw [Nat.mod_eq_sub_mod (by omega)]
    exact h2
theorem SlR.src {α : Type} {sz bytes : Nat} {f : α → List Value} (hf : ∀ x, (f x).length = sz) {w : World} {B : Nat} {A : Option Addr} {n c : Nat} {xs : List α} (h : SlR sz bytes (RC f) w B A n c xs) : SrcCells w A n sz (xs.flatMap f) := by
 refine ⟨?_, ?_, ?_⟩
 ·have : ∀ l : List α, (l.flatMap f).length = l.length * sz := by
   intro l
   induction l with
   | nil => simp
   | cons a l ih => rw [List.flatMap_cons, List.length_append, hf, ih, List.length_cons, Nat.succ_mul, Nat.add_comm]
  rw [this, h.1]
 ·intro ha
  rcases Nat.eq_zero_or_pos n with h0 | h0
  ·exact h0
  ·obtain ⟨b, off, hA, _⟩ := h.2.2.2.2 h0
   rw [hA] at ha
   cases ha
 ·intro ad ha j u hu
  obtain ⟨h0, x, hx, hfx⟩ := flatMap_get f hf xs j u hu
  have hlt := (List.getElem?_eq_some_iff.1 hx).1
  have hn : 0 < n := by
   rw [← h.1]
   exact Nat.lt_of_le_of_lt (Nat.zero_le _) hlt
  obtain ⟨b, off, hA, _, hel⟩ := h.2.2.2.2 hn
  rw [hA] at ha
  injection ha with ha
  subst ha
  obtain ⟨cs, _, hc, hr⟩ := hel _ x hx
  unfold RC at hr
  subst hr
  have := hc _ u hfx
  have e : j / sz * sz + j % sz = j := by rw [Nat.mul_comm]; exact Nat.div_add_mod j sz
  rw [e] at this
  have hadd : Addr.add ⟨b, off, none⟩ j = ⟨b, off + j, none⟩ := by
   unfold Addr.add
   split
   ·rename_i h; subst h; rfl
   ·rfl
  rw [hadd]
  exact this
section
variable {P : Program} (w : World)
theorem run_append_nil_src (base : Nat) (t ty e : TypeId) (i : TypeInfo) (size : Nat) (ht : P.underlying t = some (.slice e)) (hi : P.info? e = some i)
  (v : Value) (n : Nat) (xs : List Value) (hown : w.ownsRow base e size v n xs) (c : Nat) : (Builtin.append_ #[t, t] ty #[v, .slice none 0 c]).run P w = .ok v w := by
 rcases hown.2 with ⟨rfl, rfl⟩ | ⟨g, cap, cur, rfl, _, _, hnc, _⟩
 ·simp [Builtin.append_, run_underlying ht, sizeOf, typeInfo, hi, Builtin.lenOf, Builtin.firstCells]
 ·simp [Builtin.append_, run_underlying ht, sizeOf, typeInfo, hi, Builtin.lenOf, Builtin.firstCells, hnc, storeCells]
theorem run_append_src (base : Nat) (t ty e : TypeId) (i : TypeInfo) (z : Value) (size bytes : Nat) (ht : P.underlying t = some (.slice e)) (hi : P.info? e = some i) (hz : i.zero = some z)
  (hsize : i.size = size) (hby : i.bytes = bytes) (hzs : z.cells.size = size) (hsz : 0 < size)
  (v : Value) (n : Nat) (xs : List Value) (hown : w.ownsRow base e size v n xs) (A : Option Addr) (m c : Nat) (news : List Value) (hr : SrcCells w A m size news) (h1 : ∀ u ∈ news, u.oneCell' = true)
  (h63 : n + m ≤ maxLen) (hbytes : (n + m) * bytes ≤ 140737488355328) (hbase : base ≤ w.heap.size) :
  ∃ v' w', (Builtin.append_ #[t, t] ty #[v, .slice A m c]).run P w = .ok v' w' ∧ w'.ownsRow base e size v' (n + m) (xs ++ news) ∧ w.grownBy w' v.ownBlock ∧ (v'.ownBlock = v.ownBlock ∨ v'.ownBlock = some w.heap.size) := by
 rcases A with _ | ad
 ·have hm := hr.2.1 rfl
  subst hm
  have hn : news = [] := List.eq_nil_of_length_eq_zero (by simpa using hr.1)
  subst hn
  exact ⟨v, w, run_append_nil_src w base t ty e i size ht hi v n xs hown c, by simpa using hown, World.grownBy.refl w _, .inl rfl⟩
 ·obtain ⟨v', w', hrun, h2, h3, _, h5⟩ := run_append_own_at (P := P) w base t ty e i z size bytes ht hi hz hsize hby hzs hsz v n xs hown ad m c news hr.1 (hr.2.2 ad rfl) h1 h63 hbytes hbase
  exact ⟨v', w', hrun, h2, h3, h5⟩
theorem wp_append_src {o : Oper} {a : Act} {K : Act → World → Prop} {Q : Exit → Act → World → Prop} (s x : Operand) (t : TypeId)
  (ho : o.op = .call { callee := .builtin .append, args := #[s, x], argTypes := #[t, t] })
  (base : Nat) (e : TypeId) (i : TypeInfo) (z : Value) (size bytes : Nat) (ht : P.underlying t = some (.slice e)) (hi : P.info? e = some i) (hz : i.zero = some z)
  (hsize : i.size = size) (hby : i.bytes = bytes) (hzs : z.cells.size = size) (hsz : 0 < size)
  (v : Value) (n : Nat) (xs : List Value) (hs : a.eval s = v) (hown : w.ownsRow base e size v n xs) (A : Option Addr) (m c : Nat) (news : List Value) (hx : a.eval x = .slice A m c) (hr : SrcCells w A m size news) (h1 : ∀ u ∈ news, u.oneCell' = true)
  (h63 : n + m ≤ maxLen) (hbytes : (n + m) * bytes ≤ 140737488355328) (hbase : base ≤ w.heap.size)
  (h : ∀ v' w', w'.ownsRow base e size v' (n + m) (xs ++ news) → w.grownBy w' v.ownBlock → (v'.ownBlock = v.ownBlock ∨ v'.ownBlock = some w.heap.size) → K (a.put o.dst v') w') : o.wp P a w K Q := by
 obtain ⟨v', w', hrun, h2, h3, h4⟩ := run_append_src (P := P) w base t o.type e i z size bytes ht hi hz hsize hby hzs hsz v n xs hown A m c news hr h1 h63 hbytes hbase
 unfold Oper.wp execOp
 simp only [ho, resolve, invoke, builtin, Sem.run_bind, Sem.run_pure, Result.andThen_ok, List.map_toArray, List.map_cons, List.map_nil, hs, hx, hrun]
 exact h v' w' h2 h3 h4
theorem wpList_append_src {ops : Array Oper} {rest : List Oper} {o : Oper} {a : Act} {Q : Exit → Act → World → Prop} (hgd : o.guard = none) (s x : Operand) (t : TypeId)
  (ho : o.op = .call { callee := .builtin .append, args := #[s, x], argTypes := #[t, t] })
  (base : Nat) (e : TypeId) (i : TypeInfo) (z : Value) (size bytes : Nat) (ht : P.underlying t = some (.slice e)) (hi : P.info? e = some i) (hz : i.zero = some z)
  (hsize : i.size = size) (hby : i.bytes = bytes) (hzs : z.cells.size = size) (hsz : 0 < size)
  (v : Value) (n : Nat) (xs : List Value) (hs : a.eval s = v) (hown : w.ownsRow base e size v n xs) (A : Option Addr) (m c : Nat) (news : List Value) (hx : a.eval x = .slice A m c) (hr : SrcCells w A m size news) (h1 : ∀ u ∈ news, u.oneCell' = true)
  (h63 : n + m ≤ maxLen) (hbytes : (n + m) * bytes ≤ 140737488355328) (hbase : base ≤ w.heap.size)
  (h : ∀ v' w', w'.ownsRow base e size v' (n + m) (xs ++ news) → w.grownBy w' v.ownBlock → (v'.ownBlock = v.ownBlock ∨ v'.ownBlock = some w.heap.size) → wpList P ops Q rest (a.put o.dst v') w') : wpList P ops Q (o :: rest) a w :=
 wpList_plain hgd fun _ hK => wp_append_src w s x t ho base e i z size bytes ht hi hz hsize hby hzs hsz v n xs hs hown A m c news hx hr h1 h63 hbytes hbase fun v' w' h2 h3 h4 => hK _ _ (h v' w' h2 h3 h4)
theorem step_append_src {ops : Array Oper} {o : Oper} {a : Act} {K : Act → World → Prop} {Q : Exit → Act → World → Prop} {E : Prop} (hgd : o.guard = none) (s x : Operand) (t : TypeId)
  (ho : o.op = .call { callee := .builtin .append, args := #[s, x], argTypes := #[t, t] })
  (base : Nat) (e : TypeId) (i : TypeInfo) (z : Value) (size bytes : Nat) (ht : P.underlying t = some (.slice e)) (hi : P.info? e = some i) (hz : i.zero = some z)
  (hsize : i.size = size) (hby : i.bytes = bytes) (hzs : z.cells.size = size) (hsz : 0 < size)
  (v : Value) (n : Nat) (xs : List Value) (hs : a.eval s = v) (hown : w.ownsRow base e size v n xs) (A : Option Addr) (m c : Nat) (news : List Value) (hx : a.eval x = .slice A m c) (hr : SrcCells w A m size news) (h1 : ∀ u ∈ news, u.oneCell' = true)
  (h63 : n + m ≤ maxLen) (hbytes : (n + m) * bytes ≤ 140737488355328) (hbase : base ≤ w.heap.size)
  (h : ∀ v' w', w'.ownsRow base e size v' (n + m) (xs ++ news) → w.grownBy w' v.ownBlock → (v'.ownBlock = v.ownBlock ∨ v'.ownBlock = some w.heap.size) → K (a.put o.dst v') w') :
  if Region.wanted o (yielded ops a.tmps) = true then Oper.wp P o a w K Q else E := by
 have hw : Region.wanted o (yielded ops a.tmps) = true := by simp [Region.wanted, hgd]
 rw [if_pos hw]
 exact wp_append_src w s x t ho base e i z size bytes ht hi hz hsize hby hzs hsz v n xs hs hown A m c news hx hr h1 h63 hbytes hbase h
end
theorem own_form {w : World} {base : Nat} {e : TypeId} {size : Nat} {v : Value} {n : Nat} {xs : List Value} (h : w.ownsRow base e size v n xs) : ∃ A c, v = .slice A n c ∧ (A = none → n = 0) ∧ ∀ ad, A = some ad → ∃ g, ad = ⟨g, 0, none⟩ ∧ base ≤ g ∧ g < w.heap.size := by
 have h' := h
 rcases h.2 with ⟨rfl, rfl⟩ | ⟨g, cap, cur, rfl, a, b, c⟩
 ·exact ⟨none, 0, rfl, fun _ => rfl, fun ad ha => (by cases ha)⟩
 ·exact ⟨_, cap, rfl, fun ha => (by cases ha), fun ad ha => (by injection ha with ha; exact ⟨g, ha.symm, a, (Array.getElem?_eq_some_iff.1 b).1⟩)⟩
theorem own_src {w : World} {base : Nat} {e : TypeId} {size : Nat} {A : Option Addr} {n c : Nat} {xs : List Value} (h : w.ownsRow base e size (.slice A n c) n xs) : SrcCells w A n size xs := by
 have h' := h
 rcases h.2 with ⟨hv, rfl⟩ | ⟨g, cap, cur, hv, _, b, _⟩
 ·simp only [Value.slice.injEq] at hv
  obtain ⟨rfl, _, rfl⟩ := hv
  exact ⟨h.1, fun _ => rfl, fun ad ha => (by cases ha)⟩
 ·simp only [Value.slice.injEq, true_and] at hv
  obtain ⟨rfl, rfl⟩ := hv
  refine ⟨h.1, fun ha => (by cases ha), fun ad ha j u hu => ?_⟩
  injection ha with ha
  subst ha
  exact h'.cells (g := g) rfl j u hu
theorem below_own {B : Nat} {a w w' : World} {base : Nat} {e : TypeId} {size : Nat} {v : Value} {n : Nat} {xs : List Value} (h : Below B a w) (hown : w.ownsRow base e size v n xs) (hB : B ≤ base) (hg : w.grownBy w' v.ownBlock) (hs : B ≤ w.heap.size) : Below B a w' :=
 Below.grown h hg hs (fun j hj => Nat.le_trans hB (hown.lt _ hj).1)
end Go.Proofs.YtobmjnmcjddhcaaGreat
namespace Go.Proofs.YtobmjnmcjddhcaaGreat
open Go.RowKit
theorem addr_add (b off j : Nat) : Addr.add ⟨b, off, none⟩ j = ⟨b, off + j, none⟩ := by
 unfold Addr.add
 split
 ·rename_i h; subst h; rfl
 ·rfl
theorem flatMap_len {α : Type} {sz : Nat} (f : α → List Value) (hf : ∀ x, (f x).length = sz) (l : List α) : (l.flatMap f).length = l.length * sz := by
 induction l with
 | nil => simp
 | cons a l ih => rw [List.flatMap_cons, List.length_append, hf, ih, List.length_cons, Nat.succ_mul, Nat.add_comm]
theorem flatMap_at {α : Type} {sz : Nat} (f : α → List Value) (hf : ∀ x, (f x).length = sz) : ∀ (l : List α) (i j : Nat) (x : α) (u : Value), j < sz → l[i]? = some x → (f x)[j]? = some u → (l.flatMap f)[i * sz + j]? = some u
 | [], i, j, x, u, _, h, _ => by simp at h
 | a :: l, 0, j, x, u, hj, h, hu => by
  simp at h
  subst h
  rw [List.flatMap_cons, Nat.zero_mul, Nat.zero_add, List.getElem?_append_left (by rw [hf]; exact hj)]
  exact hu
 | a :: l, i + 1, j, x, u, hj, h, hu => by
  rw [List.flatMap_cons, List.getElem?_append_right (by rw [hf, Nat.succ_mul]; omega)]
  have e : (i + 1) * sz + j - (f a).length = i * sz + j := by rw [hf, Nat.succ_mul]; omega
  rw [e]
  exact flatMap_at f hf l i j x u hj (by simpa using h) hu
theorem flatMap_snoc {α : Type} (f : α → List Value) (xs : List α) (k : Nat) (x : α) (h : xs[k]? = some x) : (xs.take k).flatMap f ++ f x = (xs.take (k + 1)).flatMap f := by
 rw [List.take_add_one, h]
 simp
theorem take_snoc' {α : Type} (xs : List α) (k : Nat) (x : α) (h : xs[k]? = some x) : xs.take k ++ [x] = xs.take (k + 1) := by
 rw [List.take_add_one, h]
 simp
theorem SlR.of_ownN {α : Type} {sz : Nat} {f : α → List Value} (hf : ∀ x, (f x).length = sz) (hpos : 0 < sz) {w : World} {base : Nat} {e : TypeId} {bytes : Nat} {A : Option Addr} {n c : Nat} {xs : List α} (h : w.ownsRow base e sz (.slice A n c) n (xs.flatMap f)) (hb : n * bytes ≤ reachBytes) :
  SlR sz bytes (RC f) w w.heap.size A n c xs := by
 have hl : xs.length = n := by
  have h1 := h.1
  rw [flatMap_len f hf] at h1
  exact Nat.eq_of_mul_eq_mul_right hpos h1
 have h' := h
 rcases h.2 with ⟨hv, h0⟩ | ⟨g, cap, cur, hv, h1, h2, h3, h4, h5, h6⟩
 ·simp only [Value.slice.injEq] at hv
  obtain ⟨rfl, rfl, rfl⟩ := hv
  have : xs = [] := List.eq_nil_of_length_eq_zero hl
  subst this
  exact SlR.nil_ w _
 ·simp only [Value.slice.injEq, true_and] at hv
  obtain ⟨rfl, rfl⟩ := hv
  refine ⟨hl, h3, h4, hb, fun hn => ⟨g, 0, rfl, (Array.getElem?_eq_some_iff.1 h2).1, fun i x hi => ⟨f x, hf x, fun j u hj => ?_, rfl⟩⟩⟩
  have hj2 : j < sz := by rw [← hf x]; exact (List.getElem?_eq_some_iff.1 hj).1
  have hi2 := (List.getElem?_eq_some_iff.1 hi).1
  have hlt : i * sz + j < n * sz := by
   have : (i + 1) * sz ≤ n * sz := Nat.mul_le_mul_right _ (by omega)
   rw [Nat.succ_mul] at this
   omega
  have := h'.cellAt (i * sz + j) hlt
  rw [Nat.zero_add, this]
  exact flatMap_at f hf xs i j x u hj2 hi hj
theorem bl_trans {B : Nat} {a b c : World} (h : Below B a b) (hB : B ≤ b.heap.size) (k : Below b.heap.size b c) : Below B a c := h.trans (k.mono hB)
end Go.Proofs.YtobmjnmcjddhcaaGreat
namespace Go.Proofs.YtobmjnmcjddhcaaGreat
open Go.RowKit
theorem wpAnyH_one {P : Program} {ops : Array Oper} {Q : Exit → Act → World → Prop} {md : Region.Mode} {S : World → Prop} {i fuel : Nat} {o : Oper} {listed : Array Bool} {a : Act} {w : World}
  (hr : Region.ready md ops listed = [i]) (ho : ops[i]? = some o)
  (h : ∀ K' : Act → World → Prop, (∀ a w, S w ∧ wpAnyH P md ops Q S fuel (listed.setIfInBounds i true) a w → K' a w) → if Region.wanted o (yielded ops a.tmps) = true then Oper.wp P o a w K' Q else K' (a.put o.dst undef) w) :
  wpAnyH P md ops Q S (fuel + 1) listed a w :=
 wpAnyH_all hr (by simp) (fun j hj => by
  rcases List.mem_singleton.1 hj with rfl
  exact wpOp_step ho h)
theorem quiet_left {P : Program} {f : FuncId} {args : Array Value} {w : World} {n : Nat} {v : Value}
  (h : Calls P f args (w.drewN n) fun e w' => e = .returned v ∧ w.drewN n = w') : Calls P f args (w.drewN n) fun e w'' => e = .returned v ∧ ∃ m, w'' = w.drewN m :=
 h.mono fun _ _ ⟨he, hm⟩ => ⟨he, n, hm.symm⟩
theorem okWide_array {P : Program} {w : World} {r : Reach} {base : Nat} {t : TypeId} {v : Value} {n : Nat} {e : TypeId} (ht : P.underlying t = some (.array n e)) (h : Value.okWide P w r base t v) : ∃ cs, v = .agg cs ∧ cs.size = P.cellsOf t := by
 unfold Value.okWide at h
 rw [ht] at h
 obtain ⟨cs, rfl, hs, _⟩ := h
 exact ⟨cs, rfl, hs⟩
end Go.Proofs.YtobmjnmcjddhcaaGreat
namespace Go.Proofs.YtobmjnmcjddhcaaGreat
open Go.RowKit
structure Kp (S : Nat → Prop) (w w' : World) : Prop where
 os : w'.os = w.os
 tape : w'.tape = w.tape
 output : w'.output = w.output
 size : w.heap.size ≤ w'.heap.size
 block : ∀ k, k < w.heap.size → ¬ S k → w'.heap[k]? = w.heap[k]?
theorem Kp.refl (S : Nat → Prop) (w : World) : Kp S w w := ⟨rfl, rfl, rfl, Nat.le_refl _, fun _ _ _ => rfl⟩
theorem Kp.mono {S T : Nat → Prop} {w w' : World} (h : Kp S w w') (hS : ∀ k, k < w.heap.size → S k → T k) : Kp T w w' := ⟨h.os, h.tape, h.output, h.size, fun k hk hn => h.block k hk fun hs => hn (hS k hk hs)⟩
theorem Kp.trans' {S T U : Nat → Prop} {a b c : World} (h : Kp S a b) (k : Kp T b c) (hS : ∀ k, k < a.heap.size → S k ∨ T k → U k) : Kp U a c :=
 ⟨k.os.trans h.os, k.tape.trans h.tape, k.output.trans h.output, Nat.le_trans h.size k.size, fun i hi hn => (k.block i (Nat.lt_of_lt_of_le hi h.size) fun ht => hn (hS i hi (.inr ht))).trans (h.block i hi fun hs => hn (hS i hi (.inl hs)))⟩
theorem Kp.trans {S : Nat → Prop} {a b c : World} (h : Kp S a b) (k : Kp S b c) : Kp S a c := h.trans' k fun _ _ h => h.elim id id
theorem Kp.drew {S : Nat → Prop} {a w : World} (h : Kp S a w) : Kp S a w.drew := ⟨h.os, h.tape, h.output, h.size, h.block⟩
theorem Kp.drewN {S : Nat → Prop} {a w : World} (h : Kp S a w) (n : Nat) : Kp S a (w.drewN n) := ⟨h.os, h.tape, h.output, h.size, h.block⟩
theorem Kp.alloc {S : Nat → Prop} {a w : World} (h : Kp S a w) (o : Obj) : Kp S a (w.alloc o) :=
 h.trans ⟨rfl, rfl, rfl, by simp, fun k hk _ => Below.heap_alloc _ _ _ hk⟩
theorem Kp.setCell {S : Nat → Prop} {a w : World} (h : Kp S a w) {p : Addr} (hp : p.block < a.heap.size → S p.block) (u : Value) : Kp S a (w.setCell p u) :=
 ⟨h.os, h.tape, h.output, by simpa [World.setCell] using h.size, fun k hk hn => (Below.heap_setCell _ _ _ _ (fun e => hn (by rw [e]; exact hp (by omega)))).trans (h.block k hk hn)⟩
theorem Kp.setCells {S : Nat → Prop} {a w : World} (h : Kp S a w) {g : Nat} (hp : g < a.heap.size → S g) (o : Nat) (vs : List Value) : Kp S a (w.setCells g o vs) := by
 induction vs generalizing o w with
 | nil => exact h
 | cons v vs ih => exact ih (h.setCell (p := ⟨g, o, none⟩) hp v) _
theorem Kp.ofBelow {S : Nat → Prop} {a w w' : World} (h : Kp S a w) (hb : Below w.heap.size w w') : Kp S a w' :=
 h.trans ⟨hb.os, hb.tape, hb.output, hb.size, fun k hk _ => hb.block k hk⟩
theorem Kp.ofGrown {S : Nat → Prop} {a w w' : World} {row : Option Nat} (h : Kp S a w) (hg : w.grownBy w' row) (hr : ∀ k, row = some k → k < a.heap.size → S k) : Kp S a w' :=
 ⟨hg.os.trans h.os, hg.tape.trans h.tape, hg.output.trans h.output, Nat.le_trans h.size hg.size, fun k hk hn => (hg.block k (Nat.lt_of_lt_of_le hk h.size) (fun e => hn (hr k e.symm hk))).trans (h.block k hk hn)⟩
theorem Kp.cell {S : Nat → Prop} {w w' : World} (h : Kp S w w') {p : Addr} (hp : p.block < w.heap.size) (hs : ¬ S p.block) : w'.cell? p = w.cell? p := World.cell?_of_block (h.block _ hp hs)
theorem Kp.frozen {S : Nat → Prop} {w w' : World} (h : Kp S w w') {p : Addr} (hp : p.block < w.heap.size) (hs : ¬ S p.block) : w'.frozen? p = w.frozen? p := World.frozen?_of_block (h.block _ hp hs)
theorem Kp.cellv {S : Nat → Prop} {w w' : World} (h : Kp S w w') {p : Addr} {v : Value} (hc : w.cell? p = some v) (hs : ¬ S p.block) : w'.cell? p = some v := (h.cell (World.block_lt_of_cell? _ _ hc) hs).trans hc
theorem Kp.below {S : Nat → Prop} {w w' : World} {B : Nat} (h : Kp S w w') (hB : B ≤ w.heap.size) (hS : ∀ k, S k → B ≤ k) : Below B w w' :=
 ⟨h.os, h.tape, h.output, h.size, fun k hk => h.block k (by omega) (fun hs => by have := hS k hs; omega)⟩
theorem Kp.belowOf {B : Nat} {w w' : World} (h : Below B w w') : Kp (fun k => B ≤ k) w w' := ⟨h.os, h.tape, h.output, h.size, fun k _ hn => h.block k (by omega)⟩
theorem Kp.own {S : Nat → Prop} {w w' : World} {base : Nat} {e : TypeId} {size : Nat} {v : Value} {n : Nat} {xs : List Value} (h : Kp S w w') (hown : w.ownsRow base e size v n xs) (hs : ∀ k, v.ownBlock = some k → ¬ S k) : w'.ownsRow base e size v n xs := by
 refine ⟨hown.1, ?_⟩
 rcases hown.2 with h2 | ⟨g, cap, cur, rfl, h1, h2, h3⟩
 ·exact .inl h2
 ·exact .inr ⟨g, cap, cur, rfl, h1, (h.block g (Array.getElem?_eq_some_iff.1 h2).1 (hs g rfl)).trans h2, h3⟩
def RowF (w : World) (base : Nat) (e : TypeId) (size : Nat) (A : Option Addr) (n c : Nat) (xs : List Value) : Prop :=
 xs.length = n * size ∧ n ≤ c ∧ c ≤ maxLen ∧ ((A = none ∧ n = 0 ∧ c = 0) ∨ ∃ r cur, A = some ⟨r, 0, none⟩ ∧ base ≤ r ∧ w.heap[r]? = some (.cells cur e (0, 0)) ∧ cur.toList.take (n * size) = xs ∧ (n < c → cur.size = c * size))
theorem RowF.ofOwn {w : World} {base : Nat} {e : TypeId} {size : Nat} {A : Option Addr} {n c : Nat} {xs : List Value} (h : w.ownsRow base e size (.slice A n c) n xs) : RowF w base e size A n c xs := by
 rcases h.2 with ⟨hv, h0⟩ | ⟨g, cap, cur, hv, h1, h2, h3, h4, h5, h6⟩
 ·simp only [Value.slice.injEq] at hv
  obtain ⟨rfl, rfl, rfl⟩ := hv
  exact ⟨h.1, Nat.le_refl _, by unfold maxLen; omega, .inl ⟨rfl, rfl, rfl⟩⟩
 ·simp only [Value.slice.injEq, true_and] at hv
  obtain ⟨rfl, rfl⟩ := hv
  exact ⟨h.1, h3, h4, .inr ⟨g, cur, rfl, h1, h2, h6, fun _ => h5⟩⟩
theorem RowF.cells {w : World} {base : Nat} {e : TypeId} {size : Nat} {r : Nat} {n c : Nat} {xs : List Value} (h : RowF w base e size (some ⟨r, 0, none⟩) n c xs) : base ≤ r ∧ r < w.heap.size ∧ (∀ (j : Nat) u, xs[j]? = some u → w.cell? ⟨r, j, none⟩ = some u) ∧ ∀ j, w.frozen? ⟨r, j, none⟩ = false := by
 obtain ⟨hl, h1, h2, h3 | ⟨r', cur, e', hb, hh, ht, hc⟩⟩ := h
 ·cases h3.1
 ·injection e' with e'
  injection e' with e'
  subst e'
  refine ⟨hb, (Array.getElem?_eq_some_iff.1 hh).1, fun j u hj => ?_, fun j => ?_⟩
  ·have hlt := (List.getElem?_eq_some_iff.1 hj).1
   rw [← ht, List.getElem?_take, if_pos (by omega)] at hj
   simp [World.cell?, hh]
   simpa using hj
  ·simp [World.frozen?, hh]
theorem RowF.kp {S : Nat → Prop} {w w' : World} {base : Nat} {e : TypeId} {size : Nat} {A : Option Addr} {n c : Nat} {xs : List Value} (h : RowF w base e size A n c xs) (hk : Kp S w w') (hs : ∀ r, A = some ⟨r, 0, none⟩ → ¬ S r) : RowF w' base e size A n c xs := by
 obtain ⟨hl, h1, h2, h3 | ⟨r', cur, e', hb, hh, ht, hc⟩⟩ := h
 ·exact ⟨hl, h1, h2, .inl h3⟩
 ·exact ⟨hl, h1, h2, .inr ⟨r', cur, e', hb, (hk.block _ (Array.getElem?_eq_some_iff.1 hh).1 (hs _ e')).trans hh, ht, hc⟩⟩
theorem RowF.set {w : World} {base : Nat} {e : TypeId} {size : Nat} {A : Option Addr} {n c : Nat} {xs : List Value} (h : RowF w base e size A n c xs) (p : Addr) (hp : ∀ r, A = some ⟨r, 0, none⟩ → r ≠ p.block) (u : Value) : RowF (w.setCell p u) base e size A n c xs :=
 h.kp ((Kp.refl (fun k => k = p.block) w).setCell (fun _ => rfl) u) hp
theorem RowF.cut {w : World} {base : Nat} {e : TypeId} {size : Nat} {A : Option Addr} {n c : Nat} {xs : List Value} (h : RowF w base e size A n c xs) {k : Nat} (hk : k ≤ n) : RowF w base e size A k k (xs.take (k * size)) := by
 have hm : k * size ≤ n * size := Nat.mul_le_mul_right _ hk
 obtain ⟨hl, h1, h2, ⟨rfl, rfl, rfl⟩ | ⟨r', cur, e', hb, hh, ht, hc⟩⟩ := h
 ·have : k = 0 := by omega
  subst this
  exact ⟨by simp, Nat.le_refl _, by unfold maxLen; omega, .inl ⟨rfl, rfl, rfl⟩⟩
 ·refine ⟨by rw [List.length_take, hl]; exact Nat.min_eq_left hm, Nat.le_refl _, by omega, .inr ⟨r', cur, e', hb, hh, ?_, fun h => by omega⟩⟩
  rw [← ht, List.take_take, Nat.min_eq_left hm]
theorem RowF.form {w : World} {base : Nat} {e : TypeId} {size : Nat} {A : Option Addr} {n c : Nat} {xs : List Value} (h : RowF w base e size A n c xs) : (A = none ∧ n = 0 ∧ c = 0) ∨ ∃ r, A = some ⟨r, 0, none⟩ ∧ base ≤ r ∧ r < w.heap.size := by
 obtain ⟨hl, h1, h2, h3 | ⟨r', cur, e', hb, hh, _⟩⟩ := h
 ·exact .inl h3
 ·exact .inr ⟨r', e', hb, (Array.getElem?_eq_some_iff.1 hh).1⟩
theorem RowF.sl {α : Type} {sz : Nat} {f : α → List Value} (hf : ∀ x, (f x).length = sz) (hpos : 0 < sz) {w : World} {base : Nat} {e : TypeId} {bytes : Nat} {A : Option Addr} {n c : Nat} {xs : List α} (h : RowF w base e sz A n c (xs.flatMap f)) (hb : n * bytes ≤ reachBytes) :
  SlR sz bytes (RC f) w w.heap.size A n c xs := by
 have hl : xs.length = n := by
  have h1 := h.1
  rw [flatMap_len f hf] at h1
  exact Nat.eq_of_mul_eq_mul_right hpos h1
 refine ⟨hl, h.2.1, h.2.2.1, hb, fun hn => ?_⟩
 rcases h.form with ⟨_, h0, _⟩ | ⟨r, rfl, hbr, hr⟩
 ·omega
 ·refine ⟨r, 0, rfl, hr, fun i x hi => ⟨f x, hf x, fun j u hj => ?_, rfl⟩⟩
  have hj2 : j < sz := by rw [← hf x]; exact (List.getElem?_eq_some_iff.1 hj).1
  have := h.cells.2.2.1 (i * sz + j) u (flatMap_at f hf xs i j x u hj2 hi hj)
  rw [Nat.zero_add]
  exact this
section
variable {P : Program} (w : World)
theorem run_append_rowF (base : Nat) (t ty e : TypeId) (i : TypeInfo) (z : Value) (size bytes : Nat) (ht : P.underlying t = some (.slice e)) (hi : P.info? e = some i) (hz : i.zero = some z)
  (hsize : i.size = size) (hby : i.bytes = bytes) (hzs : z.cells.size = size) (hsz : 0 < size)
  (A : Option Addr) (n c : Nat) (xs : List Value) (hown : RowF w base e size A n c xs) (ad : Addr) (m c' : Nat) (hm : 0 < m) (news : List Value) (hr : SrcCells w (some ad) m size news) (h1 : ∀ u ∈ news, u.oneCell' = true)
  (h63 : n + m ≤ maxLen) (hbytes : (n + m) * bytes ≤ 140737488355328) (hbase : base ≤ w.heap.size) :
  ∃ A' c'' w', (Builtin.append_ #[t, t] ty #[.slice A n c, .slice (some ad) m c']).run P w = .ok (.slice A' (n + m) c'') w' ∧ w'.ownsRow base e size (.slice A' (n + m) c'') (n + m) (xs ++ news) ∧ Kp (fun k => A = some ⟨k, 0, none⟩) w w' ∧ (A' = A ∨ ∃ k, A' = some ⟨k, 0, none⟩ ∧ w.heap.size ≤ k) := by
 have key : ∀ (v' : Value) (w' : World), w'.ownsRow base e size v' (n + m) (xs ++ news) → ∃ A' c'', v' = .slice A' (n + m) c'' := fun v' w' h => by
  rcases h.2 with ⟨rfl, h0⟩ | ⟨g, cap, cur, rfl, _⟩
  ·rw [h0]; exact ⟨_, _, rfl⟩
  ·exact ⟨_, _, rfl⟩
 by_cases hnc : n < c ∨ A = none
 ·have ho : w.ownsRow base e size (.slice A n c) n xs := by
   obtain ⟨hl, h1, h2, ⟨rfl, rfl, rfl⟩ | ⟨r', cur, rfl, hb, hh, ht', hc⟩⟩ := hown
   ·exact ⟨hl, .inl ⟨rfl, rfl⟩⟩
   ·exact ⟨hl, .inr ⟨r', c, cur, rfl, hb, hh, h1, h2, hc (hnc.resolve_right (by simp)), ht'⟩⟩
  obtain ⟨v', w', hrun, h2, h3, h4⟩ := run_append_src (P := P) w base t ty e i z size bytes ht hi hz hsize hby hzs hsz _ n xs ho (some ad) m c' news hr h1 h63 hbytes hbase
  obtain ⟨A', c'', rfl⟩ := key v' w' h2
  refine ⟨A', c'', w', hrun, h2, ⟨h3.os, h3.tape, h3.output, h3.size, fun k hk hn => h3.block k hk fun e => hn ?_⟩, ?_⟩
  ·rcases hown.form with ⟨rfl, _⟩ | ⟨r, rfl, _⟩
   ·cases e
   ·simp [Value.ownBlock] at e
    rw [e]
  ·rcases own_form h2 with ⟨A2, c2, e2, h0, hA⟩
   simp only [Value.slice.injEq, true_and] at e2
   obtain ⟨rfl, rfl⟩ := e2
   cases A' with
   | none => exact absurd (h0 rfl) (by omega)
   | some a' =>
    obtain ⟨g, rfl, hg1, hg2⟩ := hA _ rfl
    rcases h4 with h4 | h4
    ·left
     rcases hown.form with ⟨rfl, _⟩ | ⟨r, rfl, _⟩
     ·simp [Value.ownBlock] at h4
     ·simp [Value.ownBlock] at h4
      rw [h4]
    ·simp [Value.ownBlock] at h4
     exact .inr ⟨g, rfl, by omega⟩
 ·have hA : A ≠ none := fun h => hnc (.inr h)
  have hc : n = c := by have := hown.2.1; omega
  subst hc
  rcases hown.form with ⟨rfl, _⟩ | ⟨r, rfl, hbr, hrl⟩
  ·exact absurd rfl hA
  ·obtain ⟨v', w', hrun, h2, h3⟩ := run_append_arg_grows (P := P) w t ty e i z size bytes ht hi hz hsize hby hzs hsz ⟨r, 0, none⟩ n n xs hown.1 (fun j u hj => by rw [addr_add, Nat.zero_add]; exact hown.cells.2.2.1 j u hj) ad m c' news hr.1 (hr.2.2 ad rfl) (by omega) h63 hbytes
   obtain ⟨A', c'', rfl⟩ := key v' w' (h2.mono hbase)
   refine ⟨A', c'', w', hrun, h2.mono hbase, ⟨h3.os, h3.tape, h3.output, h3.size, fun k hk hn => h3.block k hk (by simp)⟩, ?_⟩
   rcases own_form h2 with ⟨A2, c2, e2, h0, hA'⟩
   simp only [Value.slice.injEq, true_and] at e2
   obtain ⟨rfl, rfl⟩ := e2
   cases A' with
   | none => exact absurd (h0 rfl) (by omega)
   | some a' =>
    obtain ⟨g, rfl, hg1, hg2⟩ := hA' _ rfl
    exact .inr ⟨g, rfl, hg1⟩
theorem wp_append_rowF {o : Oper} {a : Act} {K : Act → World → Prop} {Q : Exit → Act → World → Prop} (s x : Operand) (t : TypeId)
  (ho : o.op = .call { callee := .builtin .append, args := #[s, x], argTypes := #[t, t] })
  (base : Nat) (e : TypeId) (i : TypeInfo) (z : Value) (size bytes : Nat) (ht : P.underlying t = some (.slice e)) (hi : P.info? e = some i) (hz : i.zero = some z)
  (hsize : i.size = size) (hby : i.bytes = bytes) (hzs : z.cells.size = size) (hsz : 0 < size)
  (A : Option Addr) (n c : Nat) (xs : List Value) (hs : a.eval s = .slice A n c) (hown : RowF w base e size A n c xs) (ad : Addr) (m c' : Nat) (hm : 0 < m) (news : List Value) (hx : a.eval x = .slice (some ad) m c') (hr : SrcCells w (some ad) m size news) (h1 : ∀ u ∈ news, u.oneCell' = true)
  (h63 : n + m ≤ maxLen) (hbytes : (n + m) * bytes ≤ 140737488355328) (hbase : base ≤ w.heap.size)
  (h : ∀ A' c'' w', w'.ownsRow base e size (.slice A' (n + m) c'') (n + m) (xs ++ news) → Kp (fun k => A = some ⟨k, 0, none⟩) w w' → (A' = A ∨ ∃ k, A' = some ⟨k, 0, none⟩ ∧ w.heap.size ≤ k) → K (a.put o.dst (.slice A' (n + m) c'')) w') : o.wp P a w K Q := by
 obtain ⟨A', c'', w', hrun, h2, h3, h4⟩ := run_append_rowF (P := P) w base t o.type e i z size bytes ht hi hz hsize hby hzs hsz A n c xs hown ad m c' hm news hr h1 h63 hbytes hbase
 unfold Oper.wp execOp
 simp only [ho, resolve, invoke, builtin, Sem.run_bind, Sem.run_pure, Result.andThen_ok, List.map_toArray, List.map_cons, List.map_nil, hs, hx, hrun]
 exact h A' c'' w' h2 h3 h4
theorem step_append_rowF {ops : Array Oper} {o : Oper} {a : Act} {K : Act → World → Prop} {Q : Exit → Act → World → Prop} {E : Prop} (hgd : o.guard = none) (s x : Operand) (t : TypeId)
  (ho : o.op = .call { callee := .builtin .append, args := #[s, x], argTypes := #[t, t] })
  (base : Nat) (e : TypeId) (i : TypeInfo) (z : Value) (size bytes : Nat) (ht : P.underlying t = some (.slice e)) (hi : P.info? e = some i) (hz : i.zero = some z)
  (hsize : i.size = size) (hby : i.bytes = bytes) (hzs : z.cells.size = size) (hsz : 0 < size)
  (A : Option Addr) (n c : Nat) (xs : List Value) (hs : a.eval s = .slice A n c) (hown : RowF w base e size A n c xs) (ad : Addr) (m c' : Nat) (hm : 0 < m) (news : List Value) (hx : a.eval x = .slice (some ad) m c') (hr : SrcCells w (some ad) m size news) (h1 : ∀ u ∈ news, u.oneCell' = true)
  (h63 : n + m ≤ maxLen) (hbytes : (n + m) * bytes ≤ 140737488355328) (hbase : base ≤ w.heap.size)
  (h : ∀ A' c'' w', w'.ownsRow base e size (.slice A' (n + m) c'') (n + m) (xs ++ news) → Kp (fun k => A = some ⟨k, 0, none⟩) w w' → (A' = A ∨ ∃ k, A' = some ⟨k, 0, none⟩ ∧ w.heap.size ≤ k) → K (a.put o.dst (.slice A' (n + m) c'')) w') :
  if Region.wanted o (yielded ops a.tmps) = true then Oper.wp P o a w K Q else E := by
 have hw : Region.wanted o (yielded ops a.tmps) = true := by simp [Region.wanted, hgd]
 rw [if_pos hw]
 exact wp_append_rowF w s x t ho base e i z size bytes ht hi hz hsize hby hzs hsz A n c xs hs hown ad m c' hm news hx hr h1 h63 hbytes hbase h
end
end Go.Proofs.YtobmjnmcjddhcaaGreat
namespace Go.Proofs.YtobmjnmcjddhcaaGreat
open Go.RowKit
theorem new_cells {w w1 : World} {cs : Array Value} {t : TypeId} (hb : Below (w.alloc (.cells cs t)).heap.size (w.alloc (.cells cs t)) w1) (i : Nat) (v : Value) (hv : cs[i]? = some v) : w1.cell? ⟨w.heap.size, i, none⟩ = some v ∧ w1.frozen? ⟨w.heap.size, i, none⟩ = false := by
 refine ⟨?_, ?_⟩
 ·rw [hb.cell (by simp), cell_of_row _ w.heap.size i cs t (0, 0) (heap_alloc_new w _)]
  exact hv
 ·rw [hb.frozen (by simp)]
  simp
end Go.Proofs.YtobmjnmcjddhcaaGreat
namespace Go.Proofs.YtobmjnmcjddhcaaGreat
open Go.RowKit
def rowI (l : List Int) : List Value := l.map (Value.int .i64)
abbrev SlI (w : World) (B : Nat) (A : Option Addr) (n c : Nat) (xs : List Int) : Prop := SlR 1 8 (RI .i64) w B A n c xs
theorem SlR.getD {bytes : Nat} {w : World} {B : Nat} {A : Option Addr} {n c : Nat} {xs : List Int} (h : SlR 1 bytes (RI .i64) w B A n c xs) {i : Nat} (hi : i < n) (d : Int) :
  ∃ b off, A = some ⟨b, off, none⟩ ∧ b < B ∧ w.cell? ⟨b, off + i, none⟩ = some (.int .i64 (xs.getD i d)) := by
 obtain ⟨b, off, x, hA, hb, hx, hc⟩ := SlR.cell1 (f := Value.int .i64) h hi
 refine ⟨b, off, hA, hb, ?_⟩
 rw [hc, List.getD_eq_getElem?_getD, hx]
 rfl
theorem SlI.own {w : World} {base : Nat} {A : Option Addr} {n c : Nat} {xs : List Int} (h : w.ownsRow base 3 1 (.slice A n c) n (rowI xs)) (hb : n ≤ 100000) : SlI w w.heap.size A n c xs := by
 have e : rowI xs = xs.flatMap fun x => [Value.int .i64 x] := by
  unfold rowI
  clear h
  induction xs with
  | nil => rfl
  | cons a l ih => rw [List.map_cons, List.flatMap_cons, ih]; rfl
 rw [e] at h
 exact SlR.of_ownN (sz := 1) (bytes := 8) (f := fun x => [Value.int .i64 x]) (fun _ => rfl) (by omega) h (by unfold reachBytes; omega)
theorem SlI.keep {w w' : World} {B : Nat} {A : Option Addr} {n c : Nat} {xs : List Int} (h : SlI w B A n c xs) (hb : Below w.heap.size w w') (hB : B ≤ w.heap.size) : SlI w' B A n c xs := SlR.keep (stable_rc _) h fun p hp => hb.cell (by omega)
theorem app_int {w wr w3 : World} {base k c : Nat} {A : Option Addr} {l : List Int} {v : Int} {v' : Value} (hb : Below base w wr) (hbw : base ≤ wr.heap.size) (hown : wr.ownsRow base 3 1 (.slice A k c) k (rowI l))
  (hown' : w3.ownsRow base 3 1 v' (k + 1) (rowI l ++ [.int .i64 v])) (hgrow : (wr.alloc (.cells #[.int .i64 v] 3)).grownBy w3 (Value.slice A k c).ownBlock) :
  ∃ A' c', v' = .slice A' (k + 1) c' ∧ w3.ownsRow base 3 1 (.slice A' (k + 1) c') (k + 1) (rowI (l ++ [v])) ∧ Below base w w3 ∧ base ≤ w3.heap.size := by
 have e : rowI l ++ [.int .i64 v] = rowI (l ++ [v]) := by simp [rowI]
 rw [e] at hown'
 obtain ⟨A', c', hv, _⟩ := own_form hown'
 subst hv
 have h3 : Below base w w3 := Below.grown (hb.alloc hbw _) hgrow (by simp; omega) (fun j hj => (hown.lt _ hj).1)
 refine ⟨A', c', rfl, hown', h3, ?_⟩
 have := hgrow.size
 simp at this
 omega
theorem src_int (w : World) (v : Int) : SrcCells (w.alloc (.cells #[.int .i64 v] 3)) (some ⟨w.heap.size, 0, none⟩) 1 1 [.int .i64 v] :=
 own_src (World.ownsRow_lit (base := w.heap.size) (e := 3) (size := 1) w #[.int .i64 v] 1 (Nat.le_refl _) (by unfold maxLen; omega) rfl)
theorem one_int (v : Int) : ∀ u ∈ [Value.int .i64 v], u.oneCell' = true := by
 intro u hu
 simp at hu
 subst hu
 rfl
end Go.Proofs.YtobmjnmcjddhcaaGreat
namespace Go.Proofs.YtobmjnmcjddhcaaGreat
open Go.RowKit
theorem bl_one {w : World} (o : Obj) : Below w.heap.size w (w.alloc o) := (Below.refl _ _).alloc (Nat.le_refl _) _
structure Cells (W : World) (b : Nat) (cs : List Value) : Prop where
 at_ : ∀ q v, cs[q]? = some v → W.cell? ⟨b, q, none⟩ = some v
 fz : ∀ q, q < cs.length → W.frozen? ⟨b, q, none⟩ = false
 lt : b < W.heap.size
theorem Cells.kp {S : Nat → Prop} {W W' : World} {b : Nat} {cs : List Value} (h : Cells W b cs) (hk : Kp S W W') (hS : ¬ S b) : Cells W' b cs :=
 ⟨fun q v hq => hk.cellv (h.at_ q v hq) hS, fun q hq => (hk.frozen (p := ⟨b, q, none⟩) h.lt hS).trans (h.fz q hq), by have := hk.size; have := h.lt; omega⟩
theorem Cells.put {W : World} {b : Nat} {cs : List Value} (h : Cells W b cs) (q : Nat) (hq : q < cs.length) (v : Value) : Cells (W.setCell ⟨b, q, none⟩ v) b (cs.set q v) := by
 refine ⟨fun p u hp => ?_, fun p hp => (World.frozen?_setCell _ _ _ _).trans (h.fz p (by simpa using hp)), by simpa [World.setCell] using h.lt⟩
 by_cases e : p = q
 ·subst e
  rw [List.getElem?_set_self hq] at hp
  injection hp with hp
  subst hp
  exact World.cell?_setCell_same' _ _ _ (by rw [h.at_ p cs[p] (List.getElem?_eq_getElem hq)]; rfl)
 ·rw [List.getElem?_set_ne (fun h => e h.symm)] at hp
  rw [World.cell?_setCell_other _ _ _ _ (by simp; try omega)]
  exact h.at_ p u hp
theorem Cells.new (W : World) (cs : List Value) (t : TypeId) : Cells (W.alloc (.cells cs.toArray t)) W.heap.size cs :=
 ⟨fun q v hq => (new_cells (w := W) (cs := cs.toArray) (t := t) (Below.refl _ _) q v ((List.getElem?_toArray).trans hq)).1, fun q hq => (new_cells (w := W) (cs := cs.toArray) (t := t) (Below.refl _ _) q cs[q] ((List.getElem?_toArray).trans (List.getElem?_eq_getElem hq))).2, by simp⟩
theorem kp_set (W : World) (b q : Nat) (v : Value) : Kp (fun j => j = b) W (W.setCell ⟨b, q, none⟩ v) := Kp.setCell (S := fun j => j = b) (Kp.refl _ W) (p := ⟨b, q, none⟩) (fun _ => rfl) _
theorem Cells.far {W : World} {b : Nat} {cs : List Value} (h : Cells W b cs) {g q : Nat} (hg : ¬ b = g) (v : Value) : Cells (W.setCell ⟨g, q, none⟩ v) b cs := h.kp (kp_set W g q v) hg
theorem Cells.on {W W' : World} {b : Nat} {cs : List Value} (h : Cells W b cs) (hb : Below W.heap.size W W') : Cells W' b cs := h.kp ((Kp.refl (fun _ => False) W).ofBelow hb) id
theorem info_int : (Tryz.prog.info? 3).map (fun i => (i.zero, i.size, i.bytes)) = some (some (.int .i64 0), 1, 8) := by kernel_rfl
theorem own_less {base b' : Nat} {e : TypeId} {size : Nat} {v : Value} {n : Nat} {xs : List Value} {w : World} (h : w.ownsRow base e size v n xs) (hb : b' ≤ base) : w.ownsRow b' e size v n xs := by
 refine ⟨h.1, ?_⟩
 rcases h.2 with h2 | ⟨g, cap, cur, a, b, c⟩
 ·exact .inl h2
 ·exact .inr ⟨g, cap, cur, a, Nat.le_trans hb b, c⟩
theorem cells_new_at {W : World} {b : Nat} (h : W.heap.size = b) (cs : List Value) (t : TypeId) : Cells (W.alloc (.cells cs.toArray t)) b cs := by
 subst h
 exact Cells.new W cs t
theorem own_at {W : World} {g : Nat} (h : W.heap.size = g) (base : Nat) (hb : base ≤ g) (cs : List Value) (e : TypeId) (sz n : Nat) (hn : n ≤ maxLen) (hl : cs.length = n * sz) : (W.alloc (.cells cs.toArray e)).ownsRow base e sz (.slice (some ⟨g, 0, none⟩) n n) n cs := by
 subst h
 have := World.ownsRow_lit (base := base) (e := e) (size := sz) W cs.toArray n hb hn (by simpa using hl)
 simpa using this
end Go.Proofs.YtobmjnmcjddhcaaGreat
namespace Go.Proofs.YtobmjnmcjddhcaaGreat
open Go.RowKit
theorem sli_of {w : World} {B : Nat} {A : Option Addr} {n c : Nat} {xs : List Int} (h : SlR 1 8 (RInt .i64) w B A n c xs) : SlI w B A n c xs := h.imp fun cs x _ hr => hr.1
theorem below_set {B : Nat} {a w : World} {b o : Nat} (h : Below B a w) (hb : B ≤ b) (v : Value) : Below B a (w.setCell ⟨b, o, none⟩ v) := h.setCell (p := ⟨b, o, none⟩) hb v
theorem SlI.on {w w' : World} {A : Option Addr} {n c : Nat} {xs : List Int} (h : SlI w w.heap.size A n c xs) (hb : Below w.heap.size w w') : SlI w' w'.heap.size A n c xs := SlR.more (f := fun x => [Value.int .i64 x]) (h.keep hb (Nat.le_refl _)) hb.size
end Go.Proofs.YtobmjnmcjddhcaaGreat
namespace Go.Proofs.YtobmjnmcjddhcaaGreat
open Go.RowKit
def smallB (n0 n1 n2 n3 n4 n5 n6 n7 n8 : Nat) : Bool := decide (n4 ≤ 150) && (decide (n5 ≤ 150) && (decide (n6 ≤ 20) && (decide (n7 ≤ 150) && (decide (n8 ≤ 150) && decide (n1 + n2 + n3 + n0 ≤ 300)))))
def BoundL (n0 n1 n2 n3 n4 n5 n6 n7 n8 : Nat) : Prop := n0 ≤ 100000000000000 ∧ n1 ≤ 100000000000000 ∧ n2 ≤ 100000000000000 ∧ n3 ≤ 100000000000000
theorem small15_any (s : ByteArray) (b : Bool) (A0 : Option Addr) (n0 c0 : Nat) (A1 : Option Addr) (n1 c1 : Nat) (A2 : Option Addr) (n2 c2 : Nat) (A3 : Option Addr) (n3 c3 : Nat) (A4 : Option Addr) (n4 c4 : Nat) (A5 : Option Addr) (n5 c5 : Nat) (A6 : Option Addr) (n6 c6 : Nat) (A7 : Option Addr) (n7 c7 : Nat) (A8 : Option Addr) (n8 c8 : Nat) (w : World) (hB : BoundL n0 n1 n2 n3 n4 n5 n6 n7 n8) :
  Calls Tryz.prog 34 #[.agg #[.string s, .bool b, .slice A0 n0 c0, .slice A1 n1 c1, .slice A2 n2 c2, .slice A3 n3 c3, .slice A4 n4 c4, .slice A5 n5 c5, .slice A6 n6 c6, .slice A7 n7 c7, .slice A8 n8 c8]] w fun e w' => e = .returned (.bool (smallB n0 n1 n2 n3 n4 n5 n6 n7 n8)) ∧ Below w.heap.size w w' := by
 obtain ⟨hb0, hb1, hb2, hb3⟩ := hB
 have HB : Hid (Below w.heap.size w (w.alloc (.cells #[.string s, .bool b, .slice A0 n0 c0, .slice A1 n1 c1, .slice A2 n2 c2, .slice A3 n3 c3, .slice A4 n4 c4, .slice A5 n5 c5, .slice A6 n6 c6, .slice A7 n7 c7, .slice A8 n8 c8] 38))) := Hd (bl_one _)
 by_cases hn4 : n4 ≤ 150
 rotate_left
 ·have HR : Hid (smallB n0 n1 n2 n3 n4 n5 n6 n7 n8 = false) := Hd (by simp [smallB, hn4])
  have tn4 : ¬ (n4 : Int) ≤ 150 := by omega
  have un4 : (150 : Int) < (n4 : Int) := by omega
  clear hn4 hb0 hb1 hb2 hb3
  go_in
  go_wp2_with fail
  go_ret
  exact ⟨by rw [HR.out]; rfl, HB.out⟩
 by_cases hn5 : n5 ≤ 150
 rotate_left
 ·have HR : Hid (smallB n0 n1 n2 n3 n4 n5 n6 n7 n8 = false) := Hd (by simp [smallB, hn4, hn5])
  have tn4 : (n4 : Int) ≤ 150 := by omega
  have tn5 : ¬ (n5 : Int) ≤ 150 := by omega
  have un5 : (150 : Int) < (n5 : Int) := by omega
  clear hn4 hn5 hb0 hb1 hb2 hb3
  go_in
  go_wp2_with fail
  go_ret
  exact ⟨by rw [HR.out]; rfl, HB.out⟩
 by_cases hn6 : n6 ≤ 20
 rotate_left
 ·have HR : Hid (smallB n0 n1 n2 n3 n4 n5 n6 n7 n8 = false) := Hd (by simp [smallB, hn4, hn5, hn6])
  have tn4 : (n4 : Int) ≤ 150 := by omega
  have tn5 : (n5 : Int) ≤ 150 := by omega
  have tn6 : ¬ (n6 : Int) ≤ 20 := by omega
  have un6 : (20 : Int) < (n6 : Int) := by omega
  clear hn4 hn5 hn6 hb0 hb1 hb2 hb3
  go_in
  go_wp2_with fail
  go_ret
  exact ⟨by rw [HR.out]; rfl, HB.out⟩
 by_cases hn7 : n7 ≤ 150
 rotate_left
 ·have HR : Hid (smallB n0 n1 n2 n3 n4 n5 n6 n7 n8 = false) := Hd (by simp [smallB, hn4, hn5, hn6, hn7])
  have tn4 : (n4 : Int) ≤ 150 := by omega
  have tn5 : (n5 : Int) ≤ 150 := by omega
  have tn6 : (n6 : Int) ≤ 20 := by omega
  have tn7 : ¬ (n7 : Int) ≤ 150 := by omega
  have un7 : (150 : Int) < (n7 : Int) := by omega
  clear hn4 hn5 hn6 hn7 hb0 hb1 hb2 hb3
  go_in
  go_wp2_with fail
  go_ret
  exact ⟨by rw [HR.out]; rfl, HB.out⟩
 by_cases hn8 : n8 ≤ 150
 rotate_left
 ·have HR : Hid (smallB n0 n1 n2 n3 n4 n5 n6 n7 n8 = false) := Hd (by simp [smallB, hn4, hn5, hn6, hn7, hn8])
  have tn4 : (n4 : Int) ≤ 150 := by omega
  have tn5 : (n5 : Int) ≤ 150 := by omega
  have tn6 : (n6 : Int) ≤ 20 := by omega
  have tn7 : (n7 : Int) ≤ 150 := by omega
  have tn8 : ¬ (n8 : Int) ≤ 150 := by omega
  have un8 : (150 : Int) < (n8 : Int) := by omega
  clear hn4 hn5 hn6 hn7 hn8 hb0 hb1 hb2 hb3
  go_in
  go_wp2_with fail
  go_ret
  exact ⟨by rw [HR.out]; rfl, HB.out⟩
 by_cases hS : n1 + n2 + n3 + n0 ≤ 300
 ·have HR : Hid (smallB n0 n1 n2 n3 n4 n5 n6 n7 n8 = true) := Hd (by simp [smallB, hS, hn4, hn5, hn6, hn7, hn8])
  have tn4 : (n4 : Int) ≤ 150 := by omega
  have tn5 : (n5 : Int) ≤ 150 := by omega
  have tn6 : (n6 : Int) ≤ 20 := by omega
  have tn7 : (n7 : Int) ≤ 150 := by omega
  have tn8 : (n8 : Int) ≤ 150 := by omega
  have tS : (n1 : Int) + n2 + n3 + n0 ≤ 300 := by omega
  have v0 : (0 : Int) ≤ (n0 : Int) := by omega
  have x0 : (n0 : Int) ≤ 100000000000000 := by omega
  have v1 : (0 : Int) ≤ (n1 : Int) := by omega
  have x1 : (n1 : Int) ≤ 100000000000000 := by omega
  have v2 : (0 : Int) ≤ (n2 : Int) := by omega
  have x2 : (n2 : Int) ≤ 100000000000000 := by omega
  have v3 : (0 : Int) ≤ (n3 : Int) := by omega
  have x3 : (n3 : Int) ≤ 100000000000000 := by omega
  clear hn4 hn5 hn6 hn7 hn8 hS
  go_in
  go_wp2_with fail
  go_ret
  exact ⟨by rw [HR.out]; rfl, HB.out⟩
 ·have HR : Hid (smallB n0 n1 n2 n3 n4 n5 n6 n7 n8 = false) := Hd (by simp [smallB, hS, hn4, hn5, hn6, hn7, hn8])
  have tn4 : (n4 : Int) ≤ 150 := by omega
  have tn5 : (n5 : Int) ≤ 150 := by omega
  have tn6 : (n6 : Int) ≤ 20 := by omega
  have tn7 : (n7 : Int) ≤ 150 := by omega
  have tn8 : (n8 : Int) ≤ 150 := by omega
  have tS : ¬ (n1 : Int) + n2 + n3 + n0 ≤ 300 := by omega
  have uS : 300 < (n1 : Int) + n2 + n3 + n0 := by omega
  have v0 : (0 : Int) ≤ (n0 : Int) := by omega
  have x0 : (n0 : Int) ≤ 100000000000000 := by omega
  have v1 : (0 : Int) ≤ (n1 : Int) := by omega
  have x1 : (n1 : Int) ≤ 100000000000000 := by omega
  have v2 : (0 : Int) ≤ (n2 : Int) := by omega
  have x2 : (n2 : Int) ≤ 100000000000000 := by omega
  have v3 : (0 : Int) ≤ (n3 : Int) := by omega
  have x3 : (n3 : Int) ≤ 100000000000000 := by omega
  clear hn4 hn5 hn6 hn7 hn8 hS
  go_in
  go_wp2_with fail
  go_ret
  exact ⟨by rw [HR.out]; rfl, HB.out⟩
end Go.Proofs.YtobmjnmcjddhcaaGreat
namespace Go.Proofs.YtobmjnmcjddhcaaGreat
open Go.RowKit
def cellsI (x : DInstr) : List Value := [.int .i64 x.op, .int .i64 x.a]
abbrev SlC (w : World) (B : Nat) (A : Option Addr) (n c : Nat) (xs : List DInstr) : Prop := SlR 2 16 (RC cellsI) w B A n c xs
theorem slc_of {w : World} {B : Nat} {A : Option Addr} {n c : Nat} {xs : List DInstr} (h : SlR 2 16 RInstr w B A n c xs) : SlC w B A n c xs := h.imp fun cs x _ hr => hr.1
theorem slc_at {w : World} {B : Nat} {A : Option Addr} {n c : Nat} {xs : List DInstr} (h : SlC w B A n c xs) {k : Nat} (hk : k < n) : ∃ b off x, A = some ⟨b, off, none⟩ ∧ b < B ∧ xs[k]? = some x ∧ w.cell? ⟨b, off + k * 2, none⟩ = some (.int .i64 x.op) ∧ w.cell? ⟨b, off + k * 2 + 1, none⟩ = some (.int .i64 x.a) := by
 obtain ⟨b, off, x, cs, hA, hb, hx, _, hc, hr⟩ := h.at_ hk
 unfold RC at hr
 subst hr
 exact ⟨b, off, x, hA, hb, hx, by simpa using hc 0 _ rfl, by simpa [Nat.add_assoc] using hc 1 _ rfl⟩
end Go.Proofs.YtobmjnmcjddhcaaGreat
namespace Go.Proofs.YtobmjnmcjddhcaaGreat
open Go.RowKit
def IsB (w : World) (e : Ending) (w' : World) : Prop := (∃ b : Bool, e = .returned (.bool b)) ∧ w = w'
def IsBool (w : World) (e : Ending) (w' : World) : Prop := (∃ b : Bool, e = .returned (.bool b)) ∧ Below w.heap.size w w'
theorem tmay_any (t : Int) (w : World) : Calls Tryz.prog 142 #[.int .i64 t] w (IsB w) := by
 by_cases h1 : t = 1
 ·subst h1
  go_in
  go_wp2_with fail
  go_ret
  exact ⟨⟨_, rfl⟩, rfl⟩
 ·have e1 : (t == 1) = false := by simpa using h1
  go_in
  go_wp2_with fail
  go_ret
  exact ⟨⟨_, rfl⟩, rfl⟩
theorem tright_any (A : Option Addr) (n c B : Nat) (xs : List Int) (m : Int) (w : World) (h : SlI w B A n c xs) (hn : n ≤ 100000000000000) :
  Calls Tryz.prog 113 #[.slice A n c, .int .i64 m] w (IsB w) := by
 have H := Hd h
 clear h
 go_in
 go_wp2_with fail
 go_loop [5] (fun i => ∃ k : Nat, i = .int .i64 k ∧ k ≤ n) (fun i => n - (intOf i).toNat)
 case atStart => exact ⟨0, rfl, Nat.zero_le _⟩
 case round =>
  obtain ⟨k, rfl, hk⟩ := hrel
  have hk0 : (0 : Int) ≤ (k : Int) := by omega
  have hkb : (k : Int) ≤ 100000000000000 := by omega
  by_cases hlt : k < n
  ·have hkn : (k : Int) < (n : Int) := by omega
   obtain ⟨b, off, v, rfl, hb, hv, hc⟩ := SlR.cell1 (f := Value.int .i64) H.out hlt
   have cT := Hd (tmay_any v w)
   clear hb hv
   go_wp2_with fail
   refine cT.out.mono ?_
   rintro e w2 ⟨⟨r, rfl⟩, rfl⟩
   cases r with
   | true =>
    go_wp2_with fail
    go_round
    case rel => exact ⟨k + 1, by go_num, by omega⟩
    case measure => simp [intOf]; omega
   | false =>
    go_wp2_with fail
    go_ret
    exact ⟨⟨_, rfl⟩, rfl⟩
  ·obtain rfl : k = n := by omega
   go_wp2_with fail
   go_ret
   exact ⟨⟨_, rfl⟩, rfl⟩
theorem lright_any (A : Option Addr) (n c B : Nat) (xs : List Int) (w : World) (h : SlI w B A n c xs) (hn : n ≤ 100000) :
  Calls Tryz.prog 115 #[.slice A n c] w (IsB w) := by
 have H := Hd h
 clear h
 go_in
 go_wp2_with fail
 go_loop [3] (fun i => ∃ k : Nat, i = .int .i64 k ∧ k ≤ n) (fun i => n - (intOf i).toNat)
 case atStart => exact ⟨0, rfl, Nat.zero_le _⟩
 case round =>
  obtain ⟨k, rfl, hk⟩ := hrel
  have hk0 : (0 : Int) ≤ (k : Int) := by omega
  have hkb : (k : Int) ≤ 100000 := by omega
  by_cases hlt : k < n
  ·have hkn : (k : Int) < (n : Int) := by omega
   obtain ⟨b, off, v, rfl, hb, hv, hc⟩ := SlR.cell1 (f := Value.int .i64) H.out hlt
   clear hb hv
   by_cases h0 : v < 0
   ·have t0 : decide (v < 0) = true := by simpa using h0
    go_wp2_with fail
    go_ret
    exact ⟨⟨_, rfl⟩, rfl⟩
   ·have t0 : decide (v < 0) = false := by simpa using h0
    by_cases h1 : v > 65535
    ·have t1 : decide (v > 65535) = true := by simpa using h1
     go_wp2_with fail
     go_ret
     exact ⟨⟨_, rfl⟩, rfl⟩
    ·have t1 : decide (v > 65535) = false := by simpa using h1
     go_wp2_with fail
     go_round
     case rel => exact ⟨k + 1, by go_num, by omega⟩
     case measure => simp [intOf]; omega
  ·obtain rfl : k = n := by omega
   go_wp2_with fail
   go_ret
   exact ⟨⟨_, rfl⟩, rfl⟩
def opndM (o : Int) : Int := if o = 1 then 1 else if o = 2 ∨ o = 3 then 2 else if o = 21 ∨ o = 22 then 3 else if o = 23 ∨ o = 24 then 4 else if o = 28 ∨ o = 29 then 5 else if o = 33 ∨ o = 34 then 6 else 0
def mostM (k : Int) : Int := if k = 2 then 255 else if k = 3 then 1999 else if k = 4 then 39 else if k = 5 then 3 else if k = 6 then 119 else 0
def instrOk (x : DInstr) : Prop := 0 ≤ x.op ∧ x.op < 35 ∧ (opndM x.op = 1 ∨ (0 ≤ x.a ∧ x.a ≤ mostM (opndM x.op)))
theorem opnd_any (o : Int) (w : World) : Calls Tryz.prog 143 #[.int .i64 o] w fun e w' => e = .returned (.int .i64 (opndM o)) ∧ w = w' := by
 have key : ∀ k : Int, opndM o = k → Calls Tryz.prog 143 #[.int .i64 o] w fun e w' => e = .returned (.int .i64 k) ∧ w = w' := by
  intro k hk
  unfold opndM at hk
  by_cases h1 : o = 1
  ·subst h1
   obtain rfl : (1 : Int) = k := by simpa using hk
   go_in
   go_wp2_with fail
   go_ret
   exact ⟨rfl, rfl⟩
  have e1 : (o == 1) = false := by simpa using h1
  rw [if_neg h1] at hk
  by_cases h2 : o = 2
  ·subst h2
   obtain rfl : (2 : Int) = k := by simpa using hk
   go_in
   go_wp2_with fail
   go_ret
   exact ⟨rfl, rfl⟩
  have e2 : (o == 2) = false := by simpa using h2
  by_cases h3 : o = 3
  ·subst h3
   obtain rfl : (2 : Int) = k := by simpa using hk
   go_in
   go_wp2_with fail
   go_ret
   exact ⟨rfl, rfl⟩
  have e3 : (o == 3) = false := by simpa using h3
  rw [if_neg (by omega)] at hk
  by_cases h4 : o = 21
  ·subst h4
   obtain rfl : (3 : Int) = k := by simpa using hk
   go_in
   go_wp2_with fail
   go_ret
   exact ⟨rfl, rfl⟩
  have e4 : (o == 21) = false := by simpa using h4
  by_cases h5 : o = 22
  ·subst h5
   obtain rfl : (3 : Int) = k := by simpa using hk
   go_in
   go_wp2_with fail
   go_ret
   exact ⟨rfl, rfl⟩
  have e5 : (o == 22) = false := by simpa using h5
  rw [if_neg (by omega)] at hk
  by_cases h6 : o = 23
  ·subst h6
   obtain rfl : (4 : Int) = k := by simpa using hk
   go_in
   go_wp2_with fail
   go_ret
   exact ⟨rfl, rfl⟩
  have e6 : (o == 23) = false := by simpa using h6
  by_cases h7 : o = 24
  ·subst h7
   obtain rfl : (4 : Int) = k := by simpa using hk
   go_in
   go_wp2_with fail
   go_ret
   exact ⟨rfl, rfl⟩
  have e7 : (o == 24) = false := by simpa using h7
  rw [if_neg (by omega)] at hk
  by_cases h8 : o = 28
  ·subst h8
   obtain rfl : (5 : Int) = k := by simpa using hk
   go_in
   go_wp2_with fail
   go_ret
   exact ⟨rfl, rfl⟩
  have e8 : (o == 28) = false := by simpa using h8
  by_cases h9 : o = 29
  ·subst h9
   obtain rfl : (5 : Int) = k := by simpa using hk
   go_in
   go_wp2_with fail
   go_ret
   exact ⟨rfl, rfl⟩
  have e9 : (o == 29) = false := by simpa using h9
  rw [if_neg (by omega)] at hk
  by_cases h10 : o = 33
  ·subst h10
   obtain rfl : (6 : Int) = k := by simpa using hk
   go_in
   go_wp2_with fail
   go_ret
   exact ⟨rfl, rfl⟩
  have e10 : (o == 33) = false := by simpa using h10
  by_cases h11 : o = 34
  ·subst h11
   obtain rfl : (6 : Int) = k := by simpa using hk
   go_in
   go_wp2_with fail
   go_ret
   exact ⟨rfl, rfl⟩
  have e11 : (o == 34) = false := by simpa using h11
  rw [if_neg (by omega)] at hk
  subst hk
  go_in
  go_wp2_with fail
  go_ret
  exact ⟨rfl, rfl⟩
 exact key _ rfl
theorem most_any (k : Int) (w : World) (hk : k = 0 ∨ k = 2 ∨ k = 3 ∨ k = 4 ∨ k = 5 ∨ k = 6) : Calls Tryz.prog 144 #[.int .i64 k] w fun e w' => e = .returned (.int .i64 (mostM k)) ∧ w = w' := by
 have hi : ∀ W, (Instr.index 256 (.agg #[.int .i64 0, .int .i64 0, .int .i64 255, .int .i64 1999, .int .i64 39, .int .i64 3, .int .i64 119]) (.int .i64 k)).run Tryz.prog W = .ok (.int .i64 (mostM k)) W := by
  rcases hk with rfl | rfl | rfl | rfl | rfl | rfl
  all_goals intro W; kernel_rfl
 generalize mostM k = v at *
 go_in
 go_wp2_with fail
 go_ret
 exact ⟨rfl, rfl⟩
theorem opnd_ways (o : Int) : opndM o = 0 ∨ opndM o = 1 ∨ opndM o = 2 ∨ opndM o = 3 ∨ opndM o = 4 ∨ opndM o = 5 ∨ opndM o = 6 := by
 unfold opndM
 repeat' split
 all_goals omega
def IsRi (x : DInstr) (w : World) (e : Ending) (w' : World) : Prop := ∃ b : Bool, e = .returned (.bool b) ∧ (b = true → instrOk x) ∧ Below w.heap.size w w'
theorem iright_any (o a : Int) (w : World) : Calls Tryz.prog 114 #[.agg #[.int .i64 o, .int .i64 a]] w (IsRi ⟨o, a⟩ w) := by
 obtain ⟨w1, hw1⟩ : ∃ X, w.alloc (.cells #[.int .i64 o, .int .i64 a] 113) = X := ⟨_, rfl⟩
 obtain ⟨g, hg⟩ : ∃ g, w.heap.size = g := ⟨_, rfl⟩
 have hc : Cells w1 g [.int .i64 o, .int .i64 a] := by rw [← hw1, ← hg]; exact Cells.new w [.int .i64 o, .int .i64 a] _
 have HB : Hid (Below w.heap.size w w1) := Hd (by rw [← hw1]; exact bl_one _)
 have q0 := hc.at_ 0 _ rfl
 have q1 := hc.at_ 1 _ rfl
 clear hc
 by_cases h0 : o < 0
 ·have t0 : decide (o < 0) = true := by simpa using h0
  go_in
  go_wp2_with fail
  go_ret
  exact ⟨_, rfl, (fun h => by cases h), HB.out⟩
 have t0 : decide (o < 0) = false := by simpa using h0
 by_cases h1 : o ≥ 35
 ·have t1 : decide (o ≥ 35) = true := by simpa using h1
  go_in
  go_wp2_with fail
  go_ret
  exact ⟨_, rfl, (fun h => by cases h), HB.out⟩
 have t1 : decide (o ≥ 35) = false := by simpa using h1
 have HR : Hid (0 ≤ o ∧ o < 35) := Hd (by omega)
 obtain ⟨k, hk⟩ : ∃ k, opndM o = k := ⟨_, rfl⟩
 have cO := Hd (opnd_any o w1)
 have hw := opnd_ways o
 rw [hk] at cO hw
 have HK := Hd hk
 by_cases h2 : k = 1
 ·subst h2
  clear h0 h1 hk hw
  go_in
  go_wp2_with fail
  refine cO.out.mono ?_
  rintro e w2 ⟨rfl, rfl⟩
  go_wp2_with fail
  go_quiet (fail)
  go_wp2_with fail
  go_ret
  exact ⟨_, rfl, fun _ => ⟨HR.out.1, HR.out.2, .inl HK.out⟩, below_drewN' HB.out _⟩
 ·have e2 : (k == 1) = false := by simpa using h2
  have cM := Hd (fun W => most_any k W (by omega))
  by_cases h3 : a ≥ 0
  ·have t2 : decide (a ≥ 0) = true := by simpa using h3
   have HA : Hid (0 ≤ a) := Hd h3
   obtain ⟨v, hv⟩ : ∃ v, mostM k = v := ⟨_, rfl⟩
   rw [hv] at cM
   have HV := Hd hv
   clear h0 h1 h2 h3 hk hw hv
   go_in
   go_wp2_with fail
   refine cO.out.mono ?_
   rintro e w2 ⟨rfl, rfl⟩
   go_wp2_with fail
   go_quiet (exact quiet_left (cM.out _))
   go_wp2_with fail
   go_ret
   exact ⟨_, rfl, (fun h => ⟨HR.out.1, HR.out.2, .inr ⟨HA.out, by rw [HK.out, HV.out]; simpa using h⟩⟩), below_drewN' HB.out _⟩
  ·have t2 : decide (a ≥ 0) = false := by simpa using h3
   clear h0 h1 h2 h3 hk hw cM
   go_in
   go_wp2_with fail
   refine cO.out.mono ?_
   rintro e w2 ⟨rfl, rfl⟩
   go_wp2_with fail
   go_quiet (fail)
   go_wp2_with fail
   go_ret
   exact ⟨_, rfl, (fun h => by cases h), below_drewN' HB.out _⟩
theorem nmay_any (s : ByteArray) (hs : s.size ≤ 1000000000000000) (w : World) : Calls Tryz.prog 112 #[.string s] w (IsB w) := by
 have hsi : (s.size : Int) ≤ 1000000000000000 := by omega
 go_in
 go_wp2_with fail
 go_loop [3] (fun i => ∃ k : Nat, i = .int .i64 k ∧ k ≤ s.size) (fun i => s.size - (intOf i).toNat)
 case atStart => exact ⟨0, rfl, Nat.zero_le _⟩
 case round =>
  obtain ⟨k, rfl, hk⟩ := hrel
  have hk0 : (0 : Int) ≤ (k : Int) := by omega
  have hkb : (k : Int) ≤ 1000000000000000 := by omega
  by_cases hlt : k < s.size
  ·have hkn : (k : Int) < (s.size : Int) := by omega
   go_wp2_with fail
   all_goals first
    | exact ⟨⟨k + 1, by go_num, by omega⟩, by simp [intOf]; omega⟩
    | exact ⟨⟨1, rfl, by omega⟩, by simp [intOf]; omega⟩
    | (go_ret; exact ⟨⟨_, rfl⟩, rfl⟩)
  ·obtain rfl : k = s.size := by omega
   by_cases h1 : s.size ≥ 1
   ·have t1 : decide (s.size ≥ 1) = true := by simpa using h1
    go_wp2_with fail
    go_ret
    exact ⟨⟨_, rfl⟩, rfl⟩
   ·have t1 : decide (s.size ≥ 1) = false := by simpa using h1
    go_wp2_with fail
    go_ret
    exact ⟨⟨_, rfl⟩, rfl⟩
end Go.Proofs.YtobmjnmcjddhcaaGreat
