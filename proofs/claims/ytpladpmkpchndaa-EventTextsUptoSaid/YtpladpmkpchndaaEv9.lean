/-
  Whether events are a beginning of others, by the program and by the document.
-/
import Derived.Test.YtpladpmkpchndaaEv8
namespace Go.Proofs.Ytpladpmkpchndaa
open Go.RowKit
set_option linter.unusedSimpArgs false
set_option linter.unusedVariables false

def eqV (x y : DEvent) : Bool := eqH x.kind x.n x.m y.kind y.n y.m && eqEs x.trace y.trace
def begL {α : Type} (f : α → α → Bool) : List α → List α → Bool
  | [], _ => true
  | _ :: _, [] => false
  | a :: l, b :: m => f a b && begL f l m
theorem begL_long {α : Type} (f : α → α → Bool) : ∀ (l m : List α), m.length < l.length → begL f l m = false
  | [], _, h => by simp at h
  | _ :: _, [], _ => rfl
  | a :: l, b :: m, h => by
    unfold begL
    rw [begL_long f l m (by simpa using h)]
    simp
theorem begL_step {α : Type} (f : α → α → Bool) {l m : List α} {k : Nat} {x y : α} (hx : l[k]? = some x) (hy : m[k]? = some y) : begL f (l.drop k) (m.drop k) = (f x y && begL f (l.drop (k + 1)) (m.drop (k + 1))) := by
  obtain ⟨h1, rfl⟩ := List.getElem?_eq_some_iff.1 hx
  obtain ⟨h2, rfl⟩ := List.getElem?_eq_some_iff.1 hy
  rw [List.drop_eq_getElem_cons h1, List.drop_eq_getElem_cons h2]
  rfl
theorem begL_end {α : Type} (f : α → α → Bool) (l m : List α) : begL f (l.drop l.length) m = true := by rw [List.drop_length]; rfl
theorem begL_short {α : Type} (f : α → α → Bool) {l m : List α} {k : Nat} {x : α} (hx : l[k]? = some x) (hy : m.length ≤ k) : begL f (l.drop k) (m.drop k) = false := by
  obtain ⟨h1, rfl⟩ := List.getElem?_eq_some_iff.1 hx
  rw [List.drop_eq_getElem_cons h1, List.drop_eq_nil_of_le hy]
  rfl
theorem eqEs_symm (l m : List DEntry) : eqEs l m = eqEs m l := by unfold eqEs; exact decide_eq_decide.2 eq_comm
theorem begL_take {α : Type} (f : α → α → Bool) (hf : ∀ x, f x x = true) : ∀ (l : List α) (n : Nat), begL f (l.take n) l = true
  | [], n => by simp [begL]
  | a :: l, 0 => rfl
  | a :: l, n + 1 => by
    show (f a a && begL f (l.take n) l) = true
    rw [hf, begL_take f hf l n]
    rfl
theorem eqV_refl (x : DEvent) : eqV x x = true := by simp [eqV, eqH, eqEs_refl]

set_option maxRecDepth 100000 in
theorem begClos_any (k1 n1 : Int) (r1 : Int) (k2 n2 : Int) (r2 : Int) (B : Nat) (A1 A2 : Option Addr) (m1 c1 m2 c2 : Nat) (l1 l2 : List DEntry) (w : World) (h1 : SlE w B A1 m1 c1 l1) (h2 : SlE w B A2 m2 c2 l2) (hB : B ≤ w.heap.size) :
    Calls Try.prog 90 #[eventV k1 n1 r1 A1 m1 c1, eventV k2 n2 r2 A2 m2 c2] w fun e w' => e = .returned (.bool (eqH k1 n1 r1 k2 n2 r2 && eqEs l1 l2)) ∧ Below w.heap.size w w' := by
  have hb : Below w.heap.size w ((w.alloc (.cells #[.int .i64 k1, .int .i64 n1, .int .i64 r1, .slice A1 m1 c1] 98)).alloc (.cells #[.int .i64 k2, .int .i64 n2, .int .i64 r2, .slice A2 m2 c2] 98)) := ((Below.refl _ _).alloc (Nat.le_refl _) _).alloc (by simp) _
  have HB := Lib.hid hb
  have cs : Hid (Calls Try.prog 59 #[eventV k1 n1 r1 A1 m1 c1, eventV k2 n2 r2 A2 m2 c2] _ fun e w' => e = .returned (.bool (eqH k1 n1 r1 k2 n2 r2 && eqEs l1 l2)) ∧ Below _ _ w') := evSame_any k1 n1 r1 k2 n2 r2 B A1 A2 m1 c1 m2 c2 l1 l2 _ (h1.keep (hb.mono hB)) (h2.keep (hb.mono hB)) (Nat.le_trans hB hb.size)
  obtain ⟨b, hb⟩ : ∃ b, (eqH k1 n1 r1 k2 n2 r2 && eqEs l1 l2) = b := ⟨_, rfl⟩
  rw [hb] at cs ⊢
  clear hb h1 h2 hB
  go_enter Try.func90, Try.ntmps90
  go_wp2_with fail
  refine Calls.mono cs.out ?_
  rintro e w3 ⟨rfl, h3⟩
  have X := Lib.hid (bl_trans HB.out HB.out.size h3)
  clear h3
  go_wp2_with fail
  go_ret
  exact ⟨rfl, X.out⟩

set_option maxRecDepth 100000 in
theorem runClos_any (k1 n1 : Int) (r1 : Bool) (k2 n2 : Int) (r2 : Bool) (B : Nat) (A1 A2 : Option Addr) (m1 c1 m2 c2 : Nat) (l1 l2 : List DEntry) (w : World) (h1 : SlE w B A1 m1 c1 l1) (h2 : SlE w B A2 m2 c2 l2) (hB : B ≤ w.heap.size) :
    Calls Try.prog 98 #[blameV k1 n1 r1 A1 m1 c1, blameV k2 n2 r2 A2 m2 c2] w fun e w' => e = .returned (.bool (eqB k1 n1 r1 k2 n2 r2 && eqEs l1 l2)) ∧ Below w.heap.size w w' := by
  have hb : Below w.heap.size w ((w.alloc (.cells #[.int .i64 k1, .int .i64 n1, .bool r1, .slice A1 m1 c1] 142)).alloc (.cells #[.int .i64 k2, .int .i64 n2, .bool r2, .slice A2 m2 c2] 142)) := ((Below.refl _ _).alloc (Nat.le_refl _) _).alloc (by simp) _
  have HB := Lib.hid hb
  have cs : Hid (Calls Try.prog 99 #[blameV k1 n1 r1 A1 m1 c1, blameV k2 n2 r2 A2 m2 c2] _ fun e w' => e = .returned (.bool (eqB k1 n1 r1 k2 n2 r2 && eqEs l1 l2)) ∧ Below _ _ w') := panics_any k1 n1 r1 k2 n2 r2 B A1 A2 m1 c1 m2 c2 l1 l2 _ (h1.keep (hb.mono hB)) (h2.keep (hb.mono hB)) (Nat.le_trans hB hb.size)
  obtain ⟨b, hb⟩ : ∃ b, (eqB k1 n1 r1 k2 n2 r2 && eqEs l1 l2) = b := ⟨_, rfl⟩
  rw [hb] at cs ⊢
  clear hb h1 h2 hB
  go_enter Try.func98, Try.ntmps98
  go_wp2_with fail
  refine Calls.mono cs.out ?_
  rintro e w3 ⟨rfl, h3⟩
  have X := Lib.hid (bl_trans HB.out HB.out.size h3)
  clear h3
  go_wp2_with fail
  go_ret
  exact ⟨rfl, X.out⟩

set_option maxRecDepth 100000 in
set_option maxHeartbeats 2000000 in
theorem equalEv_any (B : Nat) (A1 A2 : Option Addr) (n1 n2 c1 c2 : Nat) (l m : List DEvent) (w : World) (h1 : SlV w B A1 n1 c1 l) (h2 : SlV w B A2 n2 c2 m) (hB : B ≤ w.heap.size) :
    Calls Try.prog 89 #[.slice A1 n1 c1, .slice A2 n2 c2, .func (.func 90) #[] #[]] w fun e w' => e = .returned (.bool (begL eqV l m)) ∧ Below w.heap.size w w' := by
  have hm : n1 ≤ 10000000000000 := by have := h1.2.2.2.1; unfold reachBytes at this; omega
  have H1 := Lib.hid h1
  have H2 := Lib.hid h2
  have HL1 := Lib.hid h1.1
  have HL2 := Lib.hid h2.1
  clear h1 h2
  by_cases hlen : n2 < n1
  · have e : begL eqV l m = false := begL_long _ _ _ (by rw [HL1.out, HL2.out]; exact hlen)
    rw [e]
    clear e
    go_enter Try.func89, Try.ntmps89
    go_wp2_with fail
    go_ret
    exact ⟨rfl, Below.refl _ _⟩
  go_enter Try.func89, Try.ntmps89
  go_wp2_with fail
  go_loopw [15] (fun i wr => ∃ k : Nat, k ≤ n1 ∧ i = .int .i64 k ∧ Hid (begL eqV l m = begL eqV (l.drop k) (m.drop k)) ∧ Hid (Below w.heap.size w wr)) (fun i _ => n1 - (intOf i).toNat)
  case atStart => exact ⟨0, Nat.zero_le _, rfl, (Lib.hid rfl : Hid (begL eqV l m = begL eqV l m)), Below.refl _ _⟩
  case round =>
    obtain ⟨k, hk, rfl, heq, hb⟩ := hrel
    by_cases hlt : k < n1
    · have hbB := hb.out.mono hB
      obtain ⟨b1, o1, x, D1, m1, d1, rfl, hb1, hx, p1, p2, p3, p4, hse1, _⟩ := slv_at H1.out hlt
      obtain ⟨b2, o2, y, D2, m2, d2, rfl, hb2, hy, q1, q2, q3, q4, hse2, _⟩ := slv_at H2.out (show k < n2 by omega)
      have ea : ∀ W, Below wr.heap.size wr W → Below B w W := fun W hW => (bl_trans hb.out hb.out.size hW).mono hB
      have HST := Lib.hid (begL_step eqV hx hy)
      have cc : ∀ W, Below wr.heap.size wr W → Hid (Calls Try.prog 90 #[eventV x.kind x.n x.m D1 m1 d1, eventV y.kind y.n y.m D2 m2 d2] W fun e w' => e = .returned (.bool (eqH x.kind x.n x.m y.kind y.n y.m && eqEs x.trace y.trace)) ∧ Below W.heap.size W w') := fun W hW => begClos_any x.kind x.n x.m y.kind y.n y.m B D1 D2 m1 d1 m2 d2 x.trace y.trace W (hse1.keep (ea W hW)) (hse2.keep (ea W hW)) (Nat.le_trans hB (Nat.le_trans hb.out.size hW.size))
      have HSE : Hid (eqV x y = (eqH x.kind x.n x.m y.kind y.n y.m && eqEs x.trace y.trace)) := Lib.hid rfl
      obtain ⟨b, hb'⟩ : ∃ b, (eqH x.kind x.n x.m y.kind y.n y.m && eqEs x.trace y.trace) = b := ⟨_, rfl⟩
      rw [hb'] at cc HSE
      clear hb' hse1 hse2 hx hy hbB
      have hS0 : Below wr.heap.size wr wr.drew := (Below.refl _ _).drew
      have k2 : k < n2 := by omega
      cases b
      case false =>
        go_wp2_with fail
        refine wp_region_held (S := fun W => Below wr.heap.size wr W) (by kernel_rfl) ?_
        change wpAnyH _ _ _ _ _ _ _ _ (World.drew _)
        refine wpAnyH_take (i := 0) (v := .func (.func 90) #[] #[]) rfl (by kernel_rfl) (by kernel_rfl) (by kernel_rfl) (fun _ _ _ h => h) (Or.inl ⟨by rfl, by intro W hW; go_simp; try (first | (with_reducible rfl) | omega)⟩) hS0 ?_
        refine wpAnyH_take (i := 1) (v := .slice (some ⟨b1, o1, none⟩) n1 c1) rfl (by kernel_rfl) (by kernel_rfl) (by kernel_rfl) (fun _ _ _ h => h) (Or.inl ⟨by rfl, by intro W hW; go_simp; try (first | (with_reducible rfl) | omega)⟩) hS0 ?_
        refine wpAnyH_take (i := 2) (v := .int .i64 (k : Int)) rfl (by kernel_rfl) (by kernel_rfl) (by kernel_rfl) (fun _ _ _ h => h) (Or.inl ⟨by rfl, by intro W hW; go_simp; try (first | (with_reducible rfl) | omega)⟩) hS0 ?_
        refine wpAnyH_take (i := 3) (v := .pointer (some ⟨b1, o1 + k * 4, none⟩)) rfl (by kernel_rfl) (by kernel_rfl) (by kernel_rfl) (fun _ _ _ h => h) (Or.inl ⟨by rfl, by intro W hW; go_simp; try (first | (with_reducible rfl) | omega)⟩) hS0 ?_
        refine wpAnyH_take (i := 4) (v := eventV x.kind x.n x.m D1 m1 d1) rfl (by kernel_rfl) (by kernel_rfl) (by kernel_rfl) (fun _ _ _ h => h) (Or.inl ⟨by rfl, by intro W hW; have a1 := ((ea W hW).cell hb1).trans p1; have a2 := ((ea W hW).cell hb1).trans p2; have a3 := ((ea W hW).cell hb1).trans p3; have a4 := ((ea W hW).cell hb1).trans p4; go_simp; try (first | (with_reducible rfl) | omega)⟩) hS0 ?_
        refine wpAnyH_take (i := 5) (v := .slice (some ⟨b2, o2, none⟩) n2 c2) rfl (by kernel_rfl) (by kernel_rfl) (by kernel_rfl) (fun _ _ _ h => h) (Or.inl ⟨by rfl, by intro W hW; go_simp; try (first | (with_reducible rfl) | omega)⟩) hS0 ?_
        refine wpAnyH_take (i := 6) (v := .int .i64 (k : Int)) rfl (by kernel_rfl) (by kernel_rfl) (by kernel_rfl) (fun _ _ _ h => h) (Or.inl ⟨by rfl, by intro W hW; go_simp; try (first | (with_reducible rfl) | omega)⟩) hS0 ?_
        refine wpAnyH_take (i := 7) (v := .pointer (some ⟨b2, o2 + k * 4, none⟩)) rfl (by kernel_rfl) (by kernel_rfl) (by kernel_rfl) (fun _ _ _ h => h) (Or.inl ⟨by rfl, by intro W hW; go_simp; try (first | (with_reducible rfl) | omega)⟩) hS0 ?_
        refine wpAnyH_take (i := 8) (v := eventV y.kind y.n y.m D2 m2 d2) rfl (by kernel_rfl) (by kernel_rfl) (by kernel_rfl) (fun _ _ _ h => h) (Or.inl ⟨by rfl, by intro W hW; have a1 := ((ea W hW).cell hb2).trans q1; have a2 := ((ea W hW).cell hb2).trans q2; have a3 := ((ea W hW).cell hb2).trans q3; have a4 := ((ea W hW).cell hb2).trans q4; go_simp; try (first | (with_reducible rfl) | omega)⟩) hS0 ?_
        refine wpAnyH_one (i := 9) (by kernel_rfl) rfl (fun K hK => ?_)
        go_simp
        refine Calls.mono (cc _ hS0).out ?_
        rintro e w3 ⟨rfl, hb3⟩
        have hS3 := bl_trans hS0 hS0.size hb3
        go_simp
        refine hK _ _ ⟨hS3, ?_⟩; clear hK K
        refine wpAnyH_one (i := 10) (by kernel_rfl) rfl (fun K hK => ?_)
        go_simp
        refine hK _ _ ⟨hS3, ?_⟩; clear hK K
        refine wpAnyH_done (by kernel_rfl) ?_ _
        have X := Lib.hid (bl_trans hb.out hb.out.size hS3)
        clear hS3 hb3 hS0
        go_wp2_with fail
        go_ret
        exact ⟨by rw [heq.out, HST.out, HSE.out]; rfl, X.out⟩
      case true =>
        go_wp2_with fail
        refine wp_region_held (S := fun W => Below wr.heap.size wr W) (by kernel_rfl) ?_
        change wpAnyH _ _ _ _ _ _ _ _ (World.drew _)
        refine wpAnyH_take (i := 0) (v := .func (.func 90) #[] #[]) rfl (by kernel_rfl) (by kernel_rfl) (by kernel_rfl) (fun _ _ _ h => h) (Or.inl ⟨by rfl, by intro W hW; go_simp; try (first | (with_reducible rfl) | omega)⟩) hS0 ?_
        refine wpAnyH_take (i := 1) (v := .slice (some ⟨b1, o1, none⟩) n1 c1) rfl (by kernel_rfl) (by kernel_rfl) (by kernel_rfl) (fun _ _ _ h => h) (Or.inl ⟨by rfl, by intro W hW; go_simp; try (first | (with_reducible rfl) | omega)⟩) hS0 ?_
        refine wpAnyH_take (i := 2) (v := .int .i64 (k : Int)) rfl (by kernel_rfl) (by kernel_rfl) (by kernel_rfl) (fun _ _ _ h => h) (Or.inl ⟨by rfl, by intro W hW; go_simp; try (first | (with_reducible rfl) | omega)⟩) hS0 ?_
        refine wpAnyH_take (i := 3) (v := .pointer (some ⟨b1, o1 + k * 4, none⟩)) rfl (by kernel_rfl) (by kernel_rfl) (by kernel_rfl) (fun _ _ _ h => h) (Or.inl ⟨by rfl, by intro W hW; go_simp; try (first | (with_reducible rfl) | omega)⟩) hS0 ?_
        refine wpAnyH_take (i := 4) (v := eventV x.kind x.n x.m D1 m1 d1) rfl (by kernel_rfl) (by kernel_rfl) (by kernel_rfl) (fun _ _ _ h => h) (Or.inl ⟨by rfl, by intro W hW; have a1 := ((ea W hW).cell hb1).trans p1; have a2 := ((ea W hW).cell hb1).trans p2; have a3 := ((ea W hW).cell hb1).trans p3; have a4 := ((ea W hW).cell hb1).trans p4; go_simp; try (first | (with_reducible rfl) | omega)⟩) hS0 ?_
        refine wpAnyH_take (i := 5) (v := .slice (some ⟨b2, o2, none⟩) n2 c2) rfl (by kernel_rfl) (by kernel_rfl) (by kernel_rfl) (fun _ _ _ h => h) (Or.inl ⟨by rfl, by intro W hW; go_simp; try (first | (with_reducible rfl) | omega)⟩) hS0 ?_
        refine wpAnyH_take (i := 6) (v := .int .i64 (k : Int)) rfl (by kernel_rfl) (by kernel_rfl) (by kernel_rfl) (fun _ _ _ h => h) (Or.inl ⟨by rfl, by intro W hW; go_simp; try (first | (with_reducible rfl) | omega)⟩) hS0 ?_
        refine wpAnyH_take (i := 7) (v := .pointer (some ⟨b2, o2 + k * 4, none⟩)) rfl (by kernel_rfl) (by kernel_rfl) (by kernel_rfl) (fun _ _ _ h => h) (Or.inl ⟨by rfl, by intro W hW; go_simp; try (first | (with_reducible rfl) | omega)⟩) hS0 ?_
        refine wpAnyH_take (i := 8) (v := eventV y.kind y.n y.m D2 m2 d2) rfl (by kernel_rfl) (by kernel_rfl) (by kernel_rfl) (fun _ _ _ h => h) (Or.inl ⟨by rfl, by intro W hW; have a1 := ((ea W hW).cell hb2).trans q1; have a2 := ((ea W hW).cell hb2).trans q2; have a3 := ((ea W hW).cell hb2).trans q3; have a4 := ((ea W hW).cell hb2).trans q4; go_simp; try (first | (with_reducible rfl) | omega)⟩) hS0 ?_
        refine wpAnyH_one (i := 9) (by kernel_rfl) rfl (fun K hK => ?_)
        go_simp
        refine Calls.mono (cc _ hS0).out ?_
        rintro e w3 ⟨rfl, hb3⟩
        have hS3 := bl_trans hS0 hS0.size hb3
        go_simp
        refine hK _ _ ⟨hS3, ?_⟩; clear hK K
        refine wpAnyH_one (i := 10) (by kernel_rfl) rfl (fun K hK => ?_)
        go_simp
        refine hK _ _ ⟨hS3, ?_⟩; clear hK K
        refine wpAnyH_done (by kernel_rfl) ?_ _
        have X := Lib.hid (bl_trans hb.out hb.out.size hS3)
        clear hS3 hb3 hS0
        go_wp2_with fail
        go_roundw
        case rel => exact ⟨k + 1, by omega, by go_num, (by rw [heq.out, HST.out, HSE.out]; rfl : begL eqV l m = begL eqV (l.drop (k + 1)) (m.drop (k + 1))), X.out⟩
        case measure => simp [intOf]; omega
    · have hkn : k = n1 := by omega
      subst hkn
      have HE : Hid (begL eqV l m = true) := Lib.hid (by rw [heq.out, ← HL1.out]; exact begL_end _ _ _)
      go_wp2_with fail
      go_ret
      exact ⟨by rw [HE.out]; rfl, hb.out⟩

def eqP (x y : DBlame) : Bool := eqB x.kind x.num x.reco y.kind y.num y.reco && eqEs x.trace y.trace
theorem eqP_refl (x : DBlame) : eqP x x = true := by simp [eqP, eqB, eqEs_refl]

set_option maxRecDepth 100000 in
set_option maxHeartbeats 2000000 in
theorem equalBl_any (B : Nat) (A1 A2 : Option Addr) (n1 n2 c1 c2 : Nat) (l m : List DBlame) (w : World) (h1 : SlP w B A1 n1 c1 l) (h2 : SlP w B A2 n2 c2 m) (hB : B ≤ w.heap.size) :
    Calls Try.prog 97 #[.slice A1 n1 c1, .slice A2 n2 c2, .func (.func 98) #[] #[]] w fun e w' => e = .returned (.bool (begL eqP l m)) ∧ Below w.heap.size w w' := by
  have hm : n1 ≤ 10000000000000 := by have := h1.2.2.2.1; unfold reachBytes at this; omega
  have H1 := Lib.hid h1
  have H2 := Lib.hid h2
  have HL1 := Lib.hid h1.1
  have HL2 := Lib.hid h2.1
  clear h1 h2
  by_cases hlen : n2 < n1
  · have e : begL eqP l m = false := begL_long _ _ _ (by rw [HL1.out, HL2.out]; exact hlen)
    rw [e]
    clear e
    go_enter Try.func97, Try.ntmps97
    go_wp2_with fail
    go_ret
    exact ⟨rfl, Below.refl _ _⟩
  go_enter Try.func97, Try.ntmps97
  go_wp2_with fail
  go_loopw [15] (fun i wr => ∃ k : Nat, k ≤ n1 ∧ i = .int .i64 k ∧ Hid (begL eqP l m = begL eqP (l.drop k) (m.drop k)) ∧ Hid (Below w.heap.size w wr)) (fun i _ => n1 - (intOf i).toNat)
  case atStart => exact ⟨0, Nat.zero_le _, rfl, (Lib.hid rfl : Hid (begL eqP l m = begL eqP l m)), Below.refl _ _⟩
  case round =>
    obtain ⟨k, hk, rfl, heq, hb⟩ := hrel
    by_cases hlt : k < n1
    · have hbB := hb.out.mono hB
      obtain ⟨b1, o1, x, D1, m1, d1, rfl, hb1, hx, p1, p2, p3, p4, hse1, _⟩ := slp_at H1.out hlt
      obtain ⟨b2, o2, y, D2, m2, d2, rfl, hb2, hy, q1, q2, q3, q4, hse2, _⟩ := slp_at H2.out (show k < n2 by omega)
      have ea : ∀ W, Below wr.heap.size wr W → Below B w W := fun W hW => (bl_trans hb.out hb.out.size hW).mono hB
      have HST := Lib.hid (begL_step eqP hx hy)
      have cc : ∀ W, Below wr.heap.size wr W → Hid (Calls Try.prog 98 #[blameV x.kind x.num x.reco D1 m1 d1, blameV y.kind y.num y.reco D2 m2 d2] W fun e w' => e = .returned (.bool (eqB x.kind x.num x.reco y.kind y.num y.reco && eqEs x.trace y.trace)) ∧ Below W.heap.size W w') := fun W hW => runClos_any x.kind x.num x.reco y.kind y.num y.reco B D1 D2 m1 d1 m2 d2 x.trace y.trace W (hse1.keep (ea W hW)) (hse2.keep (ea W hW)) (Nat.le_trans hB (Nat.le_trans hb.out.size hW.size))
      have HSE : Hid (eqP x y = (eqB x.kind x.num x.reco y.kind y.num y.reco && eqEs x.trace y.trace)) := Lib.hid rfl
      obtain ⟨b, hb'⟩ : ∃ b, (eqB x.kind x.num x.reco y.kind y.num y.reco && eqEs x.trace y.trace) = b := ⟨_, rfl⟩
      rw [hb'] at cc HSE
      clear hb' hse1 hse2 hx hy hbB
      have hS0 : Below wr.heap.size wr wr.drew := (Below.refl _ _).drew
      have k2 : k < n2 := by omega
      cases b
      case false =>
        go_wp2_with fail
        refine wp_region_held (S := fun W => Below wr.heap.size wr W) (by kernel_rfl) ?_
        change wpAnyH _ _ _ _ _ _ _ _ (World.drew _)
        refine wpAnyH_take (i := 0) (v := .func (.func 98) #[] #[]) rfl (by kernel_rfl) (by kernel_rfl) (by kernel_rfl) (fun _ _ _ h => h) (Or.inl ⟨by rfl, by intro W hW; go_simp; try (first | (with_reducible rfl) | omega)⟩) hS0 ?_
        refine wpAnyH_take (i := 1) (v := .slice (some ⟨b1, o1, none⟩) n1 c1) rfl (by kernel_rfl) (by kernel_rfl) (by kernel_rfl) (fun _ _ _ h => h) (Or.inl ⟨by rfl, by intro W hW; go_simp; try (first | (with_reducible rfl) | omega)⟩) hS0 ?_
        refine wpAnyH_take (i := 2) (v := .int .i64 (k : Int)) rfl (by kernel_rfl) (by kernel_rfl) (by kernel_rfl) (fun _ _ _ h => h) (Or.inl ⟨by rfl, by intro W hW; go_simp; try (first | (with_reducible rfl) | omega)⟩) hS0 ?_
        refine wpAnyH_take (i := 3) (v := .pointer (some ⟨b1, o1 + k * 4, none⟩)) rfl (by kernel_rfl) (by kernel_rfl) (by kernel_rfl) (fun _ _ _ h => h) (Or.inl ⟨by rfl, by intro W hW; go_simp; try (first | (with_reducible rfl) | omega)⟩) hS0 ?_
        refine wpAnyH_take (i := 4) (v := blameV x.kind x.num x.reco D1 m1 d1) rfl (by kernel_rfl) (by kernel_rfl) (by kernel_rfl) (fun _ _ _ h => h) (Or.inl ⟨by rfl, by intro W hW; have a1 := ((ea W hW).cell hb1).trans p1; have a2 := ((ea W hW).cell hb1).trans p2; have a3 := ((ea W hW).cell hb1).trans p3; have a4 := ((ea W hW).cell hb1).trans p4; go_simp; try (first | (with_reducible rfl) | omega)⟩) hS0 ?_
        refine wpAnyH_take (i := 5) (v := .slice (some ⟨b2, o2, none⟩) n2 c2) rfl (by kernel_rfl) (by kernel_rfl) (by kernel_rfl) (fun _ _ _ h => h) (Or.inl ⟨by rfl, by intro W hW; go_simp; try (first | (with_reducible rfl) | omega)⟩) hS0 ?_
        refine wpAnyH_take (i := 6) (v := .int .i64 (k : Int)) rfl (by kernel_rfl) (by kernel_rfl) (by kernel_rfl) (fun _ _ _ h => h) (Or.inl ⟨by rfl, by intro W hW; go_simp; try (first | (with_reducible rfl) | omega)⟩) hS0 ?_
        refine wpAnyH_take (i := 7) (v := .pointer (some ⟨b2, o2 + k * 4, none⟩)) rfl (by kernel_rfl) (by kernel_rfl) (by kernel_rfl) (fun _ _ _ h => h) (Or.inl ⟨by rfl, by intro W hW; go_simp; try (first | (with_reducible rfl) | omega)⟩) hS0 ?_
        refine wpAnyH_take (i := 8) (v := blameV y.kind y.num y.reco D2 m2 d2) rfl (by kernel_rfl) (by kernel_rfl) (by kernel_rfl) (fun _ _ _ h => h) (Or.inl ⟨by rfl, by intro W hW; have a1 := ((ea W hW).cell hb2).trans q1; have a2 := ((ea W hW).cell hb2).trans q2; have a3 := ((ea W hW).cell hb2).trans q3; have a4 := ((ea W hW).cell hb2).trans q4; go_simp; try (first | (with_reducible rfl) | omega)⟩) hS0 ?_
        refine wpAnyH_one (i := 9) (by kernel_rfl) rfl (fun K hK => ?_)
        go_simp
        refine Calls.mono (cc _ hS0).out ?_
        rintro e w3 ⟨rfl, hb3⟩
        have hS3 := bl_trans hS0 hS0.size hb3
        go_simp
        refine hK _ _ ⟨hS3, ?_⟩; clear hK K
        refine wpAnyH_one (i := 10) (by kernel_rfl) rfl (fun K hK => ?_)
        go_simp
        refine hK _ _ ⟨hS3, ?_⟩; clear hK K
        refine wpAnyH_done (by kernel_rfl) ?_ _
        have X := Lib.hid (bl_trans hb.out hb.out.size hS3)
        clear hS3 hb3 hS0
        go_wp2_with fail
        go_ret
        exact ⟨by rw [heq.out, HST.out, HSE.out]; rfl, X.out⟩
      case true =>
        go_wp2_with fail
        refine wp_region_held (S := fun W => Below wr.heap.size wr W) (by kernel_rfl) ?_
        change wpAnyH _ _ _ _ _ _ _ _ (World.drew _)
        refine wpAnyH_take (i := 0) (v := .func (.func 98) #[] #[]) rfl (by kernel_rfl) (by kernel_rfl) (by kernel_rfl) (fun _ _ _ h => h) (Or.inl ⟨by rfl, by intro W hW; go_simp; try (first | (with_reducible rfl) | omega)⟩) hS0 ?_
        refine wpAnyH_take (i := 1) (v := .slice (some ⟨b1, o1, none⟩) n1 c1) rfl (by kernel_rfl) (by kernel_rfl) (by kernel_rfl) (fun _ _ _ h => h) (Or.inl ⟨by rfl, by intro W hW; go_simp; try (first | (with_reducible rfl) | omega)⟩) hS0 ?_
        refine wpAnyH_take (i := 2) (v := .int .i64 (k : Int)) rfl (by kernel_rfl) (by kernel_rfl) (by kernel_rfl) (fun _ _ _ h => h) (Or.inl ⟨by rfl, by intro W hW; go_simp; try (first | (with_reducible rfl) | omega)⟩) hS0 ?_
        refine wpAnyH_take (i := 3) (v := .pointer (some ⟨b1, o1 + k * 4, none⟩)) rfl (by kernel_rfl) (by kernel_rfl) (by kernel_rfl) (fun _ _ _ h => h) (Or.inl ⟨by rfl, by intro W hW; go_simp; try (first | (with_reducible rfl) | omega)⟩) hS0 ?_
        refine wpAnyH_take (i := 4) (v := blameV x.kind x.num x.reco D1 m1 d1) rfl (by kernel_rfl) (by kernel_rfl) (by kernel_rfl) (fun _ _ _ h => h) (Or.inl ⟨by rfl, by intro W hW; have a1 := ((ea W hW).cell hb1).trans p1; have a2 := ((ea W hW).cell hb1).trans p2; have a3 := ((ea W hW).cell hb1).trans p3; have a4 := ((ea W hW).cell hb1).trans p4; go_simp; try (first | (with_reducible rfl) | omega)⟩) hS0 ?_
        refine wpAnyH_take (i := 5) (v := .slice (some ⟨b2, o2, none⟩) n2 c2) rfl (by kernel_rfl) (by kernel_rfl) (by kernel_rfl) (fun _ _ _ h => h) (Or.inl ⟨by rfl, by intro W hW; go_simp; try (first | (with_reducible rfl) | omega)⟩) hS0 ?_
        refine wpAnyH_take (i := 6) (v := .int .i64 (k : Int)) rfl (by kernel_rfl) (by kernel_rfl) (by kernel_rfl) (fun _ _ _ h => h) (Or.inl ⟨by rfl, by intro W hW; go_simp; try (first | (with_reducible rfl) | omega)⟩) hS0 ?_
        refine wpAnyH_take (i := 7) (v := .pointer (some ⟨b2, o2 + k * 4, none⟩)) rfl (by kernel_rfl) (by kernel_rfl) (by kernel_rfl) (fun _ _ _ h => h) (Or.inl ⟨by rfl, by intro W hW; go_simp; try (first | (with_reducible rfl) | omega)⟩) hS0 ?_
        refine wpAnyH_take (i := 8) (v := blameV y.kind y.num y.reco D2 m2 d2) rfl (by kernel_rfl) (by kernel_rfl) (by kernel_rfl) (fun _ _ _ h => h) (Or.inl ⟨by rfl, by intro W hW; have a1 := ((ea W hW).cell hb2).trans q1; have a2 := ((ea W hW).cell hb2).trans q2; have a3 := ((ea W hW).cell hb2).trans q3; have a4 := ((ea W hW).cell hb2).trans q4; go_simp; try (first | (with_reducible rfl) | omega)⟩) hS0 ?_
        refine wpAnyH_one (i := 9) (by kernel_rfl) rfl (fun K hK => ?_)
        go_simp
        refine Calls.mono (cc _ hS0).out ?_
        rintro e w3 ⟨rfl, hb3⟩
        have hS3 := bl_trans hS0 hS0.size hb3
        go_simp
        refine hK _ _ ⟨hS3, ?_⟩; clear hK K
        refine wpAnyH_one (i := 10) (by kernel_rfl) rfl (fun K hK => ?_)
        go_simp
        refine hK _ _ ⟨hS3, ?_⟩; clear hK K
        refine wpAnyH_done (by kernel_rfl) ?_ _
        have X := Lib.hid (bl_trans hb.out hb.out.size hS3)
        clear hS3 hb3 hS0
        go_wp2_with fail
        go_roundw
        case rel => exact ⟨k + 1, by omega, by go_num, (by rw [heq.out, HST.out, HSE.out]; rfl : begL eqP l m = begL eqP (l.drop (k + 1)) (m.drop (k + 1))), X.out⟩
        case measure => simp [intOf]; omega
    · have hkn : k = n1 := by omega
      subst hkn
      have HE : Hid (begL eqP l m = true) := Lib.hid (by rw [heq.out, ← HL1.out]; exact begL_end _ _ _)
      go_wp2_with fail
      go_ret
      exact ⟨by rw [HE.out]; rfl, hb.out⟩

set_option maxRecDepth 100000 in
theorem begins_any (B : Nat) (A1 A2 : Option Addr) (n1 n2 c1 c2 : Nat) (l m : List DEvent) (w : World) (h1 : SlV w B A1 n1 c1 l) (h2 : SlV w B A2 n2 c2 m) (hB : B ≤ w.heap.size) :
    Calls Try.prog 61 #[.slice A1 n1 c1, .slice A2 n2 c2] w fun e w' => e = .returned (.bool (begL eqV l m)) ∧ Below w.heap.size w w' := by
  have cc := Lib.hid (equalEv_any B A1 A2 n1 n2 c1 c2 l m w h1 h2 hB)
  obtain ⟨b, hb⟩ : ∃ b, begL eqV l m = b := ⟨_, rfl⟩
  rw [hb] at cc ⊢
  clear hb h1 h2 hB
  go_enter Try.func61, Try.ntmps61
  go_wp2_with fail
  refine Calls.mono cc.out ?_
  rintro e w3 ⟨rfl, hb3⟩
  have X := Lib.hid hb3
  clear hb3
  go_wp2_with fail
  go_ret
  exact ⟨rfl, X.out⟩

set_option maxRecDepth 100000 in
set_option maxHeartbeats 2000000 in
theorem refBegins_any (B : Nat) (A1 A2 : Option Addr) (n1 n2 c1 c2 : Nat) (l m : List DEvent) (w : World) (h1 : SlV w B A1 n1 c1 l) (h2 : SlV w B A2 n2 c2 m) (hB : B ≤ w.heap.size) :
    Calls Try.prog 62 #[.slice A1 n1 c1, .slice A2 n2 c2] w fun e w' => e = .returned (.bool (begL eqV l m)) ∧ Below w.heap.size w w' := by
  have hm : n1 ≤ 10000000000000 := by have := h1.2.2.2.1; unfold reachBytes at this; omega
  have H1 := Lib.hid h1
  have H2 := Lib.hid h2
  have HL1 := Lib.hid h1.1
  have HL2 := Lib.hid h2.1
  clear h1 h2
  go_enter Try.func62, Try.ntmps62
  go_wp2_with fail
  go_loopw [5] (fun i wr => ∃ k : Nat, k ≤ n1 ∧ i = .int .i64 k ∧ Hid (begL eqV l m = begL eqV (l.drop k) (m.drop k)) ∧ Hid (Below w.heap.size w wr)) (fun i _ => n1 - (intOf i).toNat)
  case atStart => exact ⟨0, Nat.zero_le _, rfl, (Lib.hid rfl : Hid (begL eqV l m = begL eqV l m)), Below.refl _ _⟩
  case round =>
    obtain ⟨k, hk, rfl, heq, hb⟩ := hrel
    by_cases hlt : k < n1
    · have hbB := hb.out.mono hB
      obtain ⟨b1, o1, x, D1, m1, d1, rfl, hb1, hx, p1, p2, p3, p4, hse1, _⟩ := slv_at H1.out hlt
      have hS0 : Below wr.heap.size wr wr.drew := (Below.refl _ _).drew
      by_cases k2 : k < n2
      · obtain ⟨b2, o2, y, D2, m2, d2, rfl, hb2, hy, q1, q2, q3, q4, hse2, _⟩ := slv_at H2.out k2
        have ea : ∀ W, Below wr.heap.size wr W → Below B w W := fun W hW => (bl_trans hb.out hb.out.size hW).mono hB
        have HST := Lib.hid (begL_step eqV hx hy)
        have cc : ∀ W, Below wr.heap.size wr W → Hid (Calls Try.prog 60 #[eventV x.kind x.n x.m D1 m1 d1, eventV y.kind y.n y.m D2 m2 d2] W fun e w' => e = .returned (.bool (eqH x.kind x.n x.m y.kind y.n y.m && eqEs x.trace y.trace)) ∧ Below W.heap.size W w') := fun W hW => refEvSame_any x.kind x.n x.m y.kind y.n y.m B D1 D2 m1 d1 m2 d2 x.trace y.trace W (hse1.keep (ea W hW)) (hse2.keep (ea W hW)) (Nat.le_trans hB (Nat.le_trans hb.out.size hW.size))
        have HSE : Hid (eqV x y = (eqH x.kind x.n x.m y.kind y.n y.m && eqEs x.trace y.trace)) := Lib.hid rfl
        have t0 : decide ((n2 : Int) ≤ (k : Int)) = false := by rw [decide_eq_false_iff_not]; omega
        obtain ⟨b, hb'⟩ : ∃ b, (eqH x.kind x.n x.m y.kind y.n y.m && eqEs x.trace y.trace) = b := ⟨_, rfl⟩
        rw [hb'] at cc HSE
        clear hb' hse1 hse2 hx hy hbB
        cases b
        case false =>
          go_wp2_with fail
          refine wp_region_held (S := fun W => Below wr.heap.size wr W) (by kernel_rfl) ?_
          change wpAnyH _ _ _ _ _ _ _ _ (World.drew _)
          refine wpAnyH_take (i := 0) (v := .int .i64 (k : Int)) rfl (by kernel_rfl) (by kernel_rfl) (by kernel_rfl) (fun _ _ _ h => h) (Or.inl ⟨by rfl, by intro W hW; go_simp; try (first | (with_reducible rfl) | omega)⟩) hS0 ?_
          refine wpAnyH_take (i := 1) (v := .slice (some ⟨b2, o2, none⟩) n2 c2) rfl (by kernel_rfl) (by kernel_rfl) (by kernel_rfl) (fun _ _ _ h => h) (Or.inl ⟨by rfl, by intro W hW; go_simp; try (first | (with_reducible rfl) | omega)⟩) hS0 ?_
          refine wpAnyH_take (i := 2) (v := .int .i64 (n2 : Int)) rfl (by kernel_rfl) (by kernel_rfl) (by kernel_rfl) (fun _ _ _ h => h) (Or.inl ⟨by rfl, by intro W hW; go_simp; try (first | (with_reducible rfl) | omega)⟩) hS0 ?_
          refine wpAnyH_take (i := 3) (v := .bool false) rfl (by kernel_rfl) (by kernel_rfl) (by kernel_rfl) (fun _ _ _ h => h) (Or.inl ⟨by rfl, by intro W hW; go_simp; try (first | (with_reducible rfl) | omega)⟩) hS0 ?_
          refine wpAnyH_take (i := 4) (v := .bool false) rfl (by kernel_rfl) (by kernel_rfl) (by kernel_rfl) (fun _ _ _ h => h) (Or.inl ⟨by rfl, by intro W hW; go_simp; try (first | (with_reducible rfl) | omega)⟩) hS0 ?_
          refine wpAnyH_take (i := 5) (v := .slice (some ⟨b1, o1, none⟩) n1 c1) rfl (by kernel_rfl) (by kernel_rfl) (by kernel_rfl) (fun _ _ _ h => h) (Or.inl ⟨by kernel_rfl, by intro W hW; go_simp; try (first | (with_reducible rfl) | omega)⟩) hS0 ?_
          refine wpAnyH_take (i := 6) (v := .int .i64 (k : Int)) rfl (by kernel_rfl) (by kernel_rfl) (by kernel_rfl) (fun _ _ _ h => h) (Or.inl ⟨by kernel_rfl, by intro W hW; go_simp; try (first | (with_reducible rfl) | omega)⟩) hS0 ?_
          refine wpAnyH_take (i := 7) (v := .pointer (some ⟨b1, o1 + k * 4, none⟩)) rfl (by kernel_rfl) (by kernel_rfl) (by kernel_rfl) (fun _ _ _ h => h) (Or.inl ⟨by kernel_rfl, by intro W hW; go_simp; try (first | (with_reducible rfl) | omega)⟩) hS0 ?_
          refine wpAnyH_take (i := 8) (v := eventV x.kind x.n x.m D1 m1 d1) rfl (by kernel_rfl) (by kernel_rfl) (by kernel_rfl) (fun _ _ _ h => h) (Or.inl ⟨by kernel_rfl, by intro W hW; have a1 := ((ea W hW).cell hb1).trans p1; have a2 := ((ea W hW).cell hb1).trans p2; have a3 := ((ea W hW).cell hb1).trans p3; have a4 := ((ea W hW).cell hb1).trans p4; go_simp; try (first | (with_reducible rfl) | omega)⟩) hS0 ?_
          refine wpAnyH_take (i := 9) (v := .slice (some ⟨b2, o2, none⟩) n2 c2) rfl (by kernel_rfl) (by kernel_rfl) (by kernel_rfl) (fun _ _ _ h => h) (Or.inl ⟨by kernel_rfl, by intro W hW; go_simp; try (first | (with_reducible rfl) | omega)⟩) hS0 ?_
          refine wpAnyH_take (i := 10) (v := .int .i64 (k : Int)) rfl (by kernel_rfl) (by kernel_rfl) (by kernel_rfl) (fun _ _ _ h => h) (Or.inl ⟨by kernel_rfl, by intro W hW; go_simp; try (first | (with_reducible rfl) | omega)⟩) hS0 ?_
          refine wpAnyH_take (i := 11) (v := .pointer (some ⟨b2, o2 + k * 4, none⟩)) rfl (by kernel_rfl) (by kernel_rfl) (by kernel_rfl) (fun _ _ _ h => h) (Or.inl ⟨by kernel_rfl, by intro W hW; go_simp; try (first | (with_reducible rfl) | omega)⟩) hS0 ?_
          refine wpAnyH_take (i := 12) (v := eventV y.kind y.n y.m D2 m2 d2) rfl (by kernel_rfl) (by kernel_rfl) (by kernel_rfl) (fun _ _ _ h => h) (Or.inl ⟨by kernel_rfl, by intro W hW; have a1 := ((ea W hW).cell hb2).trans q1; have a2 := ((ea W hW).cell hb2).trans q2; have a3 := ((ea W hW).cell hb2).trans q3; have a4 := ((ea W hW).cell hb2).trans q4; go_simp; try (first | (with_reducible rfl) | omega)⟩) hS0 ?_
          refine wpAnyH_one (i := 13) (by kernel_rfl) rfl (fun K hK => ?_)
          go_simp
          refine Calls.mono (cc _ hS0).out ?_
          rintro e w3 ⟨rfl, hb3⟩
          have hS3 := bl_trans hS0 hS0.size hb3
          go_simp
          refine hK _ _ ⟨hS3, ?_⟩; clear hK K
          refine wpAnyH_one (i := 14) (by kernel_rfl) rfl (fun K hK => ?_)
          go_simp
          refine hK _ _ ⟨hS3, ?_⟩; clear hK K
          refine wpAnyH_one (i := 15) (by kernel_rfl) rfl (fun K hK => ?_)
          go_simp
          refine hK _ _ ⟨hS3, ?_⟩; clear hK K
          refine wpAnyH_done (by kernel_rfl) ?_ _
          have X := Lib.hid (bl_trans hb.out hb.out.size hS3)
          clear hS3 hb3 hS0
          go_wp2_with fail
          go_ret
          exact ⟨by rw [heq.out, HST.out, HSE.out]; rfl, X.out⟩
        case true =>
          go_wp2_with fail
          refine wp_region_held (S := fun W => Below wr.heap.size wr W) (by kernel_rfl) ?_
          change wpAnyH _ _ _ _ _ _ _ _ (World.drew _)
          refine wpAnyH_take (i := 0) (v := .int .i64 (k : Int)) rfl (by kernel_rfl) (by kernel_rfl) (by kernel_rfl) (fun _ _ _ h => h) (Or.inl ⟨by rfl, by intro W hW; go_simp; try (first | (with_reducible rfl) | omega)⟩) hS0 ?_
          refine wpAnyH_take (i := 1) (v := .slice (some ⟨b2, o2, none⟩) n2 c2) rfl (by kernel_rfl) (by kernel_rfl) (by kernel_rfl) (fun _ _ _ h => h) (Or.inl ⟨by rfl, by intro W hW; go_simp; try (first | (with_reducible rfl) | omega)⟩) hS0 ?_
          refine wpAnyH_take (i := 2) (v := .int .i64 (n2 : Int)) rfl (by kernel_rfl) (by kernel_rfl) (by kernel_rfl) (fun _ _ _ h => h) (Or.inl ⟨by rfl, by intro W hW; go_simp; try (first | (with_reducible rfl) | omega)⟩) hS0 ?_
          refine wpAnyH_take (i := 3) (v := .bool false) rfl (by kernel_rfl) (by kernel_rfl) (by kernel_rfl) (fun _ _ _ h => h) (Or.inl ⟨by rfl, by intro W hW; go_simp; try (first | (with_reducible rfl) | omega)⟩) hS0 ?_
          refine wpAnyH_take (i := 4) (v := .bool false) rfl (by kernel_rfl) (by kernel_rfl) (by kernel_rfl) (fun _ _ _ h => h) (Or.inl ⟨by rfl, by intro W hW; go_simp; try (first | (with_reducible rfl) | omega)⟩) hS0 ?_
          refine wpAnyH_take (i := 5) (v := .slice (some ⟨b1, o1, none⟩) n1 c1) rfl (by kernel_rfl) (by kernel_rfl) (by kernel_rfl) (fun _ _ _ h => h) (Or.inl ⟨by kernel_rfl, by intro W hW; go_simp; try (first | (with_reducible rfl) | omega)⟩) hS0 ?_
          refine wpAnyH_take (i := 6) (v := .int .i64 (k : Int)) rfl (by kernel_rfl) (by kernel_rfl) (by kernel_rfl) (fun _ _ _ h => h) (Or.inl ⟨by kernel_rfl, by intro W hW; go_simp; try (first | (with_reducible rfl) | omega)⟩) hS0 ?_
          refine wpAnyH_take (i := 7) (v := .pointer (some ⟨b1, o1 + k * 4, none⟩)) rfl (by kernel_rfl) (by kernel_rfl) (by kernel_rfl) (fun _ _ _ h => h) (Or.inl ⟨by kernel_rfl, by intro W hW; go_simp; try (first | (with_reducible rfl) | omega)⟩) hS0 ?_
          refine wpAnyH_take (i := 8) (v := eventV x.kind x.n x.m D1 m1 d1) rfl (by kernel_rfl) (by kernel_rfl) (by kernel_rfl) (fun _ _ _ h => h) (Or.inl ⟨by kernel_rfl, by intro W hW; have a1 := ((ea W hW).cell hb1).trans p1; have a2 := ((ea W hW).cell hb1).trans p2; have a3 := ((ea W hW).cell hb1).trans p3; have a4 := ((ea W hW).cell hb1).trans p4; go_simp; try (first | (with_reducible rfl) | omega)⟩) hS0 ?_
          refine wpAnyH_take (i := 9) (v := .slice (some ⟨b2, o2, none⟩) n2 c2) rfl (by kernel_rfl) (by kernel_rfl) (by kernel_rfl) (fun _ _ _ h => h) (Or.inl ⟨by kernel_rfl, by intro W hW; go_simp; try (first | (with_reducible rfl) | omega)⟩) hS0 ?_
          refine wpAnyH_take (i := 10) (v := .int .i64 (k : Int)) rfl (by kernel_rfl) (by kernel_rfl) (by kernel_rfl) (fun _ _ _ h => h) (Or.inl ⟨by kernel_rfl, by intro W hW; go_simp; try (first | (with_reducible rfl) | omega)⟩) hS0 ?_
          refine wpAnyH_take (i := 11) (v := .pointer (some ⟨b2, o2 + k * 4, none⟩)) rfl (by kernel_rfl) (by kernel_rfl) (by kernel_rfl) (fun _ _ _ h => h) (Or.inl ⟨by kernel_rfl, by intro W hW; go_simp; try (first | (with_reducible rfl) | omega)⟩) hS0 ?_
          refine wpAnyH_take (i := 12) (v := eventV y.kind y.n y.m D2 m2 d2) rfl (by kernel_rfl) (by kernel_rfl) (by kernel_rfl) (fun _ _ _ h => h) (Or.inl ⟨by kernel_rfl, by intro W hW; have a1 := ((ea W hW).cell hb2).trans q1; have a2 := ((ea W hW).cell hb2).trans q2; have a3 := ((ea W hW).cell hb2).trans q3; have a4 := ((ea W hW).cell hb2).trans q4; go_simp; try (first | (with_reducible rfl) | omega)⟩) hS0 ?_
          refine wpAnyH_one (i := 13) (by kernel_rfl) rfl (fun K hK => ?_)
          go_simp
          refine Calls.mono (cc _ hS0).out ?_
          rintro e w3 ⟨rfl, hb3⟩
          have hS3 := bl_trans hS0 hS0.size hb3
          go_simp
          refine hK _ _ ⟨hS3, ?_⟩; clear hK K
          refine wpAnyH_one (i := 14) (by kernel_rfl) rfl (fun K hK => ?_)
          go_simp
          refine hK _ _ ⟨hS3, ?_⟩; clear hK K
          refine wpAnyH_one (i := 15) (by kernel_rfl) rfl (fun K hK => ?_)
          go_simp
          refine hK _ _ ⟨hS3, ?_⟩; clear hK K
          refine wpAnyH_done (by kernel_rfl) ?_ _
          have X := Lib.hid (bl_trans hb.out hb.out.size hS3)
          clear hS3 hb3 hS0
          go_wp2_with fail
          go_roundw
          case rel => exact ⟨k + 1, by omega, by go_num, (by rw [heq.out, HST.out, HSE.out]; rfl : begL eqV l m = begL eqV (l.drop (k + 1)) (m.drop (k + 1))), X.out⟩
          case measure => simp [intOf]; omega
      · have HST : Hid (begL eqV (l.drop k) (m.drop k) = false) := Lib.hid (begL_short eqV hx (by rw [HL2.out]; omega))
        have t0 : decide ((n2 : Int) ≤ (k : Int)) = true := by rw [decide_eq_true_iff]; omega
        clear hse1 hx hbB
        go_wp2_with fail
        refine wp_region_held (S := fun W => Below wr.heap.size wr W) (by kernel_rfl) ?_
        change wpAnyH _ _ _ _ _ _ _ _ (World.drew _)
        refine wpAnyH_take (i := 0) (v := .int .i64 (k : Int)) rfl (by kernel_rfl) (by kernel_rfl) (by kernel_rfl) (fun _ _ _ h => h) (Or.inl ⟨by rfl, by intro W hW; go_simp; try (first | (with_reducible rfl) | omega)⟩) hS0 ?_
        refine wpAnyH_take (i := 1) (v := .slice A2 n2 c2) rfl (by kernel_rfl) (by kernel_rfl) (by kernel_rfl) (fun _ _ _ h => h) (Or.inl ⟨by rfl, by intro W hW; go_simp; try (first | (with_reducible rfl) | omega)⟩) hS0 ?_
        refine wpAnyH_take (i := 2) (v := .int .i64 (n2 : Int)) rfl (by kernel_rfl) (by kernel_rfl) (by kernel_rfl) (fun _ _ _ h => h) (Or.inl ⟨by rfl, by intro W hW; go_simp; try (first | (with_reducible rfl) | omega)⟩) hS0 ?_
        refine wpAnyH_take (i := 3) (v := .bool true) rfl (by kernel_rfl) (by kernel_rfl) (by kernel_rfl) (fun _ _ _ h => h) (Or.inl ⟨by rfl, by intro W hW; go_simp; try (first | (with_reducible rfl) | omega)⟩) hS0 ?_
        refine wpAnyH_take (i := 4) (v := .bool true) rfl (by kernel_rfl) (by kernel_rfl) (by kernel_rfl) (fun _ _ _ h => h) (Or.inl ⟨by rfl, by intro W hW; go_simp; try (first | (with_reducible rfl) | omega)⟩) hS0 ?_
        refine wpAnyH_take (i := 5) (v := undef) rfl (by kernel_rfl) (by kernel_rfl) (by kernel_rfl) (fun _ _ _ h => h) (Or.inr ⟨by kernel_rfl, rfl⟩) hS0 ?_
        refine wpAnyH_take (i := 6) (v := undef) rfl (by kernel_rfl) (by kernel_rfl) (by kernel_rfl) (fun _ _ _ h => h) (Or.inr ⟨by kernel_rfl, rfl⟩) hS0 ?_
        refine wpAnyH_take (i := 7) (v := undef) rfl (by kernel_rfl) (by kernel_rfl) (by kernel_rfl) (fun _ _ _ h => h) (Or.inr ⟨by kernel_rfl, rfl⟩) hS0 ?_
        refine wpAnyH_take (i := 8) (v := undef) rfl (by kernel_rfl) (by kernel_rfl) (by kernel_rfl) (fun _ _ _ h => h) (Or.inr ⟨by kernel_rfl, rfl⟩) hS0 ?_
        refine wpAnyH_take (i := 9) (v := undef) rfl (by kernel_rfl) (by kernel_rfl) (by kernel_rfl) (fun _ _ _ h => h) (Or.inr ⟨by kernel_rfl, rfl⟩) hS0 ?_
        refine wpAnyH_take (i := 10) (v := undef) rfl (by kernel_rfl) (by kernel_rfl) (by kernel_rfl) (fun _ _ _ h => h) (Or.inr ⟨by kernel_rfl, rfl⟩) hS0 ?_
        refine wpAnyH_take (i := 11) (v := undef) rfl (by kernel_rfl) (by kernel_rfl) (by kernel_rfl) (fun _ _ _ h => h) (Or.inr ⟨by kernel_rfl, rfl⟩) hS0 ?_
        refine wpAnyH_take (i := 12) (v := undef) rfl (by kernel_rfl) (by kernel_rfl) (by kernel_rfl) (fun _ _ _ h => h) (Or.inr ⟨by kernel_rfl, rfl⟩) hS0 ?_
        refine wpAnyH_take (i := 13) (v := undef) rfl (by kernel_rfl) (by kernel_rfl) (by kernel_rfl) (fun _ _ _ h => h) (Or.inr ⟨by kernel_rfl, rfl⟩) hS0 ?_
        refine wpAnyH_take (i := 14) (v := undef) rfl (by kernel_rfl) (by kernel_rfl) (by kernel_rfl) (fun _ _ _ h => h) (Or.inr ⟨by kernel_rfl, rfl⟩) hS0 ?_
        refine wpAnyH_one (i := 15) (by kernel_rfl) rfl (fun K hK => ?_)
        go_simp
        refine hK _ _ ⟨hS0, ?_⟩; clear hK K
        refine wpAnyH_done (by kernel_rfl) ?_ _
        have X := Lib.hid (bl_trans hb.out hb.out.size hS0)
        clear hS0
        go_wp2_with fail
        go_ret
        exact ⟨by rw [heq.out, HST.out]; rfl, X.out⟩
    · have hkn : k = n1 := by omega
      subst hkn
      have HE : Hid (begL eqV l m = true) := Lib.hid (by rw [heq.out, ← HL1.out]; exact begL_end _ _ _)
      go_wp2_with fail
      go_ret
      exact ⟨by rw [HE.out]; rfl, hb.out⟩
end Go.Proofs.Ytpladpmkpchndaa
