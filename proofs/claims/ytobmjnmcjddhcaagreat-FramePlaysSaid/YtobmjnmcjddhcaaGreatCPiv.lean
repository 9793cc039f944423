import Derived.Test.YtobmjnmcjddhcaaGreatCB1
set_option linter.unusedSimpArgs false
set_option linter.unusedVariables false
namespace Go.Proofs.YtobmjnmcjddhcaaGreat
section
variable {P : Program} {ops : Array Oper} {Q : Exit → Act → World → Prop} {md : Region.Mode} {R : World → Prop} {pv : Nat}
def wpAnyG (P : Program) (md : Region.Mode) (ops : Array Oper) (Q : Exit → Act → World → Prop) (R : World → Prop) (pv : Nat) : Nat → Array Bool → Act → World → Prop
 | 0, listed, a, w => Region.ready md ops listed = [] ∧ Q .normal a w
 | fuel + 1, listed, a, w =>
  (Region.ready md ops listed = [] → Q .normal a w) ∧
  ∀ i ∈ Region.ready md ops listed, wpOp P ops Q i (fun a' w' => ((listed.setIfInBounds i true).getD pv true = false → R w') ∧ wpAnyG P md ops Q R pv fuel (listed.setIfInBounds i true) a' w') a w
theorem wpAny_of_piv : ∀ (fuel : Nat) (listed : Array Bool) (a : Act) (w : World), wpAnyG P md ops Q R pv fuel listed a w → wpAny P md ops Q fuel listed a w
 | 0, _, _, _, h => h
 | fuel + 1, _, _, _, h => ⟨h.1, fun i hi => wpOp_mono (fun a' w' h' => wpAny_of_piv fuel _ a' w' h'.2) (h.2 i hi)⟩
def dirB (md : Region.Mode) (ops : Array Oper) (i j : Nat) : Bool := match ops[j]? with | some o => o.after.any (fun e => Region.binds md e && e.on == i) | none => false
def pathB (md : Region.Mode) (ops : Array Oper) : List Nat → Bool
 | i :: j :: l => dirB md ops j i && pathB md ops (j :: l)
 | _ => true
def Closed (md : Region.Mode) (ops : Array Oper) (listed : Array Bool) : Prop := ∀ j, listed.getD j false = true → ∀ o, ops[j]? = some o → ∀ e ∈ o.after, Region.binds md e = true → listed.getD e.on false = true
theorem dir_spec {i j : Nat} (h : dirB md ops i j = true) : ∃ o, ops[j]? = some o ∧ ∃ e ∈ o.after, Region.binds md e = true ∧ e.on = i := by
 unfold dirB at h
 split at h
 ·rename_i o ho
  rw [Array.any_eq_true'] at h
  obtain ⟨e, he, hb⟩ := h
  rw [Bool.and_eq_true, beq_iff_eq] at hb
  exact ⟨o, ho, e, he, hb⟩
 ·cases h
theorem path_listed {listed : Array Bool} (hc : Closed md ops listed) : ∀ (l : List Nat) (i : Nat), pathB md ops l = true → l.getLast? = some i → (∀ j, l.head? = some j → listed.getD j false = true) → listed.getD i false = true
 | [], i, _, h, _ => by cases h
 | [j], i, _, h, hj => by
  simp at h
  subst h
  exact hj j rfl
 | j :: k :: l, i, hp, h, hj => by
  unfold pathB at hp
  rw [Bool.and_eq_true] at hp
  refine path_listed hc (k :: l) i hp.2 (by simpa using h) fun k' hk' => ?_
  injection hk' with hk'
  subst hk'
  obtain ⟨o, ho, e, he, hb, hon⟩ := dir_spec hp.1
  rw [← hon]
  exact hc j (hj j rfl) o ho e he hb
theorem path_ready {listed : Array Bool} (hc : Closed md ops listed) {k : Nat} {l : List Nat} {i : Nat} (hp : pathB md ops (pv :: k :: l) = true) (hl : (k :: l).getLast? = some i) (hr : pv ∈ Region.ready md ops listed) : listed.getD i false = true := by
 unfold pathB at hp
 rw [Bool.and_eq_true] at hp
 refine path_listed hc (k :: l) i hp.2 hl fun k' hk' => ?_
 injection hk' with hk'
 subst hk'
 obtain ⟨o, ho, e, he, hb, hon⟩ := dir_spec hp.1
 obtain ⟨_, o', ho', hall⟩ := mem_ready.1 hr
 rw [ho] at ho'
 injection ho' with ho'
 subst ho'
 rw [← hon]
 exact hall e he hb
theorem closed_set {listed : Array Bool} (hc : Closed md ops listed) {k : Nat} (hr : k ∈ Region.ready md ops listed) : Closed md ops (listed.setIfInBounds k true) := by
 have mono : ∀ m, listed.getD m false = true → (listed.setIfInBounds k true).getD m false = true := fun m hm => by
  by_cases e : k = m
  ·subst e
   rcases Nat.lt_or_ge k listed.size with h' | h'
   ·simp [h']
   ·simp [Array.getElem?_eq_none h'] at hm
  ·rw [getD_set_ne false e]; exact hm
 intro j hj o ho e he hb
 by_cases ej : k = j
 ·subst ej
  obtain ⟨_, o', ho', hall⟩ := mem_ready.1 hr
  rw [ho] at ho'
  injection ho' with ho'
  subst ho'
  exact mono _ (hall e he hb)
 ·rw [getD_set_ne false ej] at hj
  exact mono _ (hc j hj o ho e he hb)
def closedB (md : Region.Mode) (ops : Array Oper) (listed : Array Bool) : Bool := (List.range listed.size).all fun j => !listed.getD j false || (match ops[j]? with | some o => o.after.all (fun e => !Region.binds md e || listed.getD e.on false) | none => true)
theorem closed_of {listed : Array Bool} (h : closedB md ops listed = true) : Closed md ops listed := by
 intro j hj o ho e he hb
 have hlt : j < listed.size := by
  rcases Nat.lt_or_ge j listed.size with h' | h'
  ·exact h'
  ·simp [Array.getElem?_eq_none h'] at hj
 unfold closedB at h
 rw [List.all_eq_true] at h
 have h1 := h j (List.mem_range.2 hlt)
 rw [hj, ho] at h1
 simp only [Bool.not_true, Bool.false_or] at h1
 rw [Array.all_eq_true_iff_forall_mem] at h1
 have h2 := h1 e he
 rw [hb] at h2
 simpa using h2
theorem wpAnyG_first {i k : Nat} {l : List Nat} {oi : Oper} {v : Value} (hi : ops[i]? = some oi) (hp : pathB md ops (pv :: k :: l) = true) (hl : (k :: l).getLast? = some i) (hsel : ∀ (j : Nat) (o : Oper) cs b, ops[j]? = some o → o.op ≠ .select cs b)
  (hQ : ∀ c a w, Q (.panic c) (a.put oi.dst v) w → Q (.panic c) a w) :
  ∀ (fuel : Nat) (listed : Array Bool) (a : Act) (w : World),
   (∀ j oj, ops[j]? = some oj → j ≠ i → listed.getD j true = false → (∀ e ∈ oj.after, Region.binds md e = true → e.on ≠ i) → oi.apart ops oj = true) →
   i ∈ Region.ready md ops listed → YieldsIf P ops R oi v a → Closed md ops listed → listed.getD pv true = false → R w →
   wpAnyG P md ops Q R pv fuel (listed.setIfInBounds i true) (a.put oi.dst v) w → wpAnyG P md ops Q R pv (fuel + 1) listed a w := by
 intro fuel
 induction fuel with
 | zero =>
  intro listed a w _ hr hy hcl hu hS H
  refine ⟨fun h => (by rw [h] at hr; cases hr), fun j hj => ?_⟩
  by_cases hji : j = i
  ·subst hji; exact hy.wpOp hi hS ⟨fun _ => hS, H⟩
  ·have := ready_mono hj hji
   rw [H.1] at this
   cases this
 | succ fuel ih =>
  intro listed a w hfree hr hy hcl hu hS H
  refine ⟨fun h => (by rw [h] at hr; cases hr), fun j hj => ?_⟩
  by_cases hji : j = i
  ·subst hji; exact hy.wpOp hi hS ⟨fun _ => hS, H⟩
  ·have h1 := H.2 j (ready_mono hj hji)
   obtain ⟨hjun, oj, hoj, hall⟩ := mem_ready.1 hj
   have hi0 := (mem_ready.1 hr).1
   have hno : ∀ k, listed.getD k false = true → k ≠ i := fun k hk heq => by
    rw [heq] at hk
    rcases Nat.lt_or_ge i listed.size with h' | h'
    ·simp [h'] at hi0 hk; rw [hi0] at hk; cases hk
    ·simp [Array.getElem?_eq_none h'] at hk
   have hnot : ∀ e ∈ oj.after, Region.binds md e = true → e.on ≠ i := fun e he hb => hno _ (hall e he hb)
   have hjp : j ≠ pv := fun e => by
    subst e
    exact hno i (path_ready hcl hp hl hj) rfl
   have hip : i ≠ pv := fun e => by
    subst e
    exact hno i (path_ready hcl hp hl hr) rfl
   have h2 := wpOp_putIf hoj (hfree j oj hoj hji hjun hnot) (fun cs b => hsel i oi cs b hi) (fun cs b => hsel j oj cs b hoj) hQ hy h1
   have hfree' : ∀ k ok, ops[k]? = some ok → k ≠ i → (listed.setIfInBounds j true).getD k true = false →
     (∀ e ∈ ok.after, Region.binds md e = true → e.on ≠ i) → oi.apart ops ok = true := fun k ok hk hki hun hno => by
    refine hfree k ok hk hki ?_ hno
    by_cases hjk : j = k
    ·subst hjk; exact hjun
    ·rw [getD_set_ne true hjk] at hun; exact hun
   have hu' : (listed.setIfInBounds j true).getD pv true = false := by rw [getD_set_ne true hjp]; exact hu
   refine wpOp_mono (fun a' w' h3 => ?_) h2
   have hR : R w' := h3.2.1 (by rw [getD_set_ne true hjp, getD_set_ne true hip]; exact hu)
   refine ⟨fun _ => hR, ih (listed.setIfInBounds j true) a' w' hfree' (ready_mono hr (Ne.symm hji)) h3.1 (closed_set hcl hj) hu' hR ?_⟩
   rw [Array.setIfInBounds_comm _ _ hji]
   exact h3.2.2
theorem wpAnyG_take {i k : Nat} (l : List Nat) {oi : Oper} {v : Value} {fuel : Nat} {listed : Array Bool} {a : Act} {w : World} (hi : ops[i]? = some oi) (hp : pathB md ops (pv :: k :: l) = true) (hl : (k :: l).getLast? = some i)
  (hs : Region.noSelect ops = true) (hf : Region.free md ops listed i = true) (hr : (Region.ready md ops listed).contains i = true)
  (hQ : ∀ c a w, Q (.panic c) (a.put oi.dst v) w → Q (.panic c) a w) (hy : YieldsIf P ops R oi v a) (hcl : closedB md ops listed = true) (hu : listed.getD pv true = false) (hS : R w)
  (h : wpAnyG P md ops Q R pv fuel (listed.setIfInBounds i true) (a.put oi.dst v) w) : wpAnyG P md ops Q R pv (fuel + 1) listed a w :=
 wpAnyG_first hi hp hl (Region.noSelect_spec hs) hQ fuel listed a w (Region.free_spec hi hf) (by simpa using hr) hy (closed_of hcl) hu hS h
theorem wpAnyG_all {rs : List Nat} {fuel : Nat} {listed : Array Bool} {a : Act} {w : World} (hr : Region.ready md ops listed = rs) (hne : rs ≠ [])
  (h : ∀ i ∈ rs, wpOp P ops Q i (fun a' w' => ((listed.setIfInBounds i true).getD pv true = false → R w') ∧ wpAnyG P md ops Q R pv fuel (listed.setIfInBounds i true) a' w') a w) : wpAnyG P md ops Q R pv (fuel + 1) listed a w :=
 ⟨fun h0 => absurd (hr ▸ h0) hne, hr ▸ h⟩
theorem wpAnyG_done {listed : Array Bool} {a : Act} {w : World} (hr : Region.ready md ops listed = []) (h : Q .normal a w) :
  ∀ fuel, wpAnyG P md ops Q R pv fuel listed a w
 | 0 => ⟨hr, h⟩
 | _ + 1 => ⟨fun _ => h, by rw [hr]; simp⟩
theorem wp_region_piv {id : Nat} {a : Act} {w : World} (hm : P.follows .mixedOrders = true)
  (h : wpAnyG P .any ops Q R pv ops.size (Array.replicate ops.size false) a { w with drawn := w.drawn + 1 }) : (Code.region id ops true).wp P Q a w :=
 wp_region_any hm (wpAny_of_piv _ _ _ _ h)
abbrev StepG (P : Program) (md : Region.Mode) (ops : Array Oper) (Q : Exit → Act → World → Prop) (R : World → Prop) (pv fuel : Nat) (listed : Array Bool) (a : Act) (w : World) (i : Nat) (o : Oper) : Prop :=
 ∀ K' : Act → World → Prop, (∀ a w, ((listed.setIfInBounds i true).getD pv true = false → R w) ∧ wpAnyG P md ops Q R pv fuel (listed.setIfInBounds i true) a w → K' a w) → if Region.wanted o (yielded ops a.tmps) = true then Oper.wp P o a w K' Q else K' (a.put o.dst undef) w
theorem wpAnyG_one {i fuel : Nat} {o : Oper} {listed : Array Bool} {a : Act} {w : World} (hr : Region.ready md ops listed = [i]) (ho : ops[i]? = some o) (h : StepG P md ops Q R pv fuel listed a w i o) : wpAnyG P md ops Q R pv (fuel + 1) listed a w :=
 wpAnyG_all hr (by simp) (fun j hj => by
  rcases List.mem_singleton.1 hj with rfl
  exact wpOp_step ho h)
theorem wpAnyG_two {i j fuel : Nat} {oi oj : Oper} {listed : Array Bool} {a : Act} {w : World} (hr : Region.ready md ops listed = [i, j]) (hi : ops[i]? = some oi) (hj : ops[j]? = some oj) (h : StepG P md ops Q R pv fuel listed a w i oi) (k : StepG P md ops Q R pv fuel listed a w j oj) : wpAnyG P md ops Q R pv (fuel + 1) listed a w :=
 wpAnyG_all hr (by simp) (fun x hx => by
  simp only [List.mem_cons, List.not_mem_nil, or_false] at hx
  rcases hx with rfl | rfl
  ·exact wpOp_step hi h
  ·exact wpOp_step hj k)
theorem wpAnyG_first' {i : Nat} {oi : Oper} {v : Value} (hi : ops[i]? = some oi) (hip : i ≠ pv) (hsel : ∀ (j : Nat) (o : Oper) cs b, ops[j]? = some o → o.op ≠ .select cs b)
  (hQ : ∀ c a w, Q (.panic c) (a.put oi.dst v) w → Q (.panic c) a w) :
  ∀ (fuel : Nat) (listed : Array Bool) (a : Act) (w : World),
   (∀ j oj, ops[j]? = some oj → j ≠ i → listed.getD j true = false → (∀ e ∈ oj.after, Region.binds md e = true → e.on ≠ i) → oi.apart ops oj = true) →
   i ∈ Region.ready md ops listed → YieldsIf P ops (fun _ => True) oi v a → (listed.getD pv true = false → R w) →
   wpAnyG P md ops Q R pv fuel (listed.setIfInBounds i true) (a.put oi.dst v) w → wpAnyG P md ops Q R pv (fuel + 1) listed a w := by
 intro fuel
 induction fuel with
 | zero =>
  intro listed a w _ hr hy hS H
  refine ⟨fun h => (by rw [h] at hr; cases hr), fun j hj => ?_⟩
  by_cases hji : j = i
  ·subst hji; exact hy.wpOp hi trivial ⟨fun hl => hS (by rw [getD_set_ne true hip] at hl; exact hl), H⟩
  ·have := ready_mono hj hji
   rw [H.1] at this
   cases this
 | succ fuel ih =>
  intro listed a w hfree hr hy hS H
  refine ⟨fun h => (by rw [h] at hr; cases hr), fun j hj => ?_⟩
  by_cases hji : j = i
  ·subst hji; exact hy.wpOp hi trivial ⟨fun hl => hS (by rw [getD_set_ne true hip] at hl; exact hl), H⟩
  ·have h1 := H.2 j (ready_mono hj hji)
   obtain ⟨hjun, oj, hoj, hall⟩ := mem_ready.1 hj
   have hi0 := (mem_ready.1 hr).1
   have hno : ∀ k, listed.getD k false = true → k ≠ i := fun k hk heq => by
    rw [heq] at hk
    rcases Nat.lt_or_ge i listed.size with h' | h'
    ·simp [h'] at hi0 hk; rw [hi0] at hk; cases hk
    ·simp [Array.getElem?_eq_none h'] at hk
   have hnot : ∀ e ∈ oj.after, Region.binds md e = true → e.on ≠ i := fun e he hb => hno _ (hall e he hb)
   have h2 := wpOp_putIf hoj (hfree j oj hoj hji hjun hnot) (fun cs b => hsel i oi cs b hi) (fun cs b => hsel j oj cs b hoj) hQ hy h1
   have hfree' : ∀ k ok, ops[k]? = some ok → k ≠ i → (listed.setIfInBounds j true).getD k true = false →
     (∀ e ∈ ok.after, Region.binds md e = true → e.on ≠ i) → oi.apart ops ok = true := fun k ok hk hki hun hno => by
    refine hfree k ok hk hki ?_ hno
    by_cases hjk : j = k
    ·subst hjk; exact hjun
    ·rw [getD_set_ne true hjk] at hun; exact hun
   refine wpOp_mono (fun a' w' h3 => ?_) h2
   have hR : (listed.setIfInBounds j true).getD pv true = false → R w' := fun hl => h3.2.1 (by rw [Array.setIfInBounds_comm _ _ (Ne.symm hji), getD_set_ne true hip]; exact hl)
   refine ⟨hR, ih (listed.setIfInBounds j true) a' w' hfree' (ready_mono hr (Ne.symm hji)) h3.1 hR ?_⟩
   rw [Array.setIfInBounds_comm _ _ hji]
   exact h3.2.2
theorem wpAnyG_free {i : Nat} {oi : Oper} {v : Value} {fuel : Nat} {listed : Array Bool} {a : Act} {w : World} (hi : ops[i]? = some oi) (hip : i ≠ pv)
  (hs : Region.noSelect ops = true) (hf : Region.free md ops listed i = true) (hr : (Region.ready md ops listed).contains i = true)
  (hQ : ∀ c a w, Q (.panic c) (a.put oi.dst v) w → Q (.panic c) a w) (hy : YieldsIf P ops (fun _ => True) oi v a) (hS : listed.getD pv true = false → R w)
  (h : wpAnyG P md ops Q R pv fuel (listed.setIfInBounds i true) (a.put oi.dst v) w) : wpAnyG P md ops Q R pv (fuel + 1) listed a w :=
 wpAnyG_first' hi hip (Region.noSelect_spec hs) hQ fuel listed a w (Region.free_spec hi hf) (by simpa using hr) hy hS h
theorem wpAnyG_oneL {i fuel : Nat} {o : Oper} {listed : Array Bool} {a : Act} {w : World} (hr : Region.ready md ops listed = [i]) (ho : ops[i]? = some o) (hl : (listed.setIfInBounds i true).getD pv true = true)
  (h : ∀ K' : Act → World → Prop, (∀ a w, wpAnyG P md ops Q R pv fuel (listed.setIfInBounds i true) a w → K' a w) → if Region.wanted o (yielded ops a.tmps) = true then Oper.wp P o a w K' Q else K' (a.put o.dst undef) w) : wpAnyG P md ops Q R pv (fuel + 1) listed a w :=
 wpAnyG_one hr ho fun K' hK => h K' fun a w hw => hK a w ⟨(fun h0 => by rw [hl] at h0; cases h0), hw⟩
end
end Go.Proofs.YtobmjnmcjddhcaaGreat
