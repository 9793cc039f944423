/-
  An event as text, by the program and by the document.
-/
import Derived.Test.YtpladpmkpchndaaEv5
namespace Go.Proofs.Ytpladpmkpchndaa
open Go.RowKit
set_option linter.unusedSimpArgs false
set_option linter.unusedVariables false

def sEmit : List UInt8 := [101, 109, 105, 116, 32]
def sTrace : List UInt8 := [116, 114, 97, 99, 101]
def sRec : List UInt8 := [114, 101, 99, 111, 118, 101, 114, 32]
def evL (k n m : Int) (l : List DEntry) : List UInt8 :=
  if k = 1 then sEmit ++ digM n else if k = 2 then sTrace ++ entsL l else if k = 3 then sRec ++ (digM n ++ 32 :: digM m) else []
def Bd (n : Int) : Prop := -9223372036854775808 ≤ n ∧ n ≤ 9223372036854775807
theorem bd_of {n : Int} (h : (Lit.int .i64 n).wf = true) : Bd n := by
  simp [Lit.wf, IntKind.min, IntKind.max, IntKind.signed, IntKind.bits] at h
  unfold Bd
  omega
theorem evL_len {k n m : Int} {l : List DEntry} (hn : Bd n) (hm : Bd m) (h : ∀ e ∈ l, OkE e) : (evL k n m l).length ≤ 50 + 42 * l.length := by
  have h1 := digM_len hn.1 hn.2
  have h2 := digM_len hm.1 hm.2
  have h3 := entsL_len h
  unfold evL
  split
  · simp [sEmit]; omega
  · split
    · simp [sTrace]; omega
    · split
      · simp [sRec]; omega
      · simp
theorem rec_text (a b : List UInt8) : (⟨#[114, 101, 99, 111, 118, 101, 114, 32]⟩ : ByteArray) ++ strU a ++ ⟨#[32]⟩ ++ strU b = strU (sRec ++ (a ++ 32 :: b)) := by
  rw [show (⟨#[32]⟩ : ByteArray) = strU [32] from rfl, show (⟨#[114, 101, 99, 111, 118, 101, 114, 32]⟩ : ByteArray) = strU sRec from rfl]
  simp only [← strU_app]
  simp
theorem emit_text (a : List UInt8) : (⟨#[101, 109, 105, 116, 32]⟩ : ByteArray) ++ strU a = strU (sEmit ++ a) := (strU_app sEmit a).symm
theorem trace_text (a : List UInt8) : (⟨#[116, 114, 97, 99, 101]⟩ : ByteArray) ++ strU a = strU (sTrace ++ a) := (strU_app sTrace a).symm

set_option maxRecDepth 100000 in
set_option maxHeartbeats 2000000 in
theorem text_any (k n m : Int) (B : Nat) (A : Option Addr) (s c : Nat) (l : List DEntry) (w : World) (hn : Bd n) (hm : Bd m) (h : SlE w B A s c l) (hB : B ≤ w.heap.size) :
    Calls Try.prog 86 #[eventV k n m A s c] w fun e w' => e = .returned (.string (strU (evL k n m l))) ∧ Below w.heap.size w w' := by
  have hb1 : Below w.heap.size w (w.alloc (.cells #[.int .i64 k, .int .i64 n, .int .i64 m, .slice A s c] 98)) := (Below.refl _ _).alloc (Nat.le_refl _) _
  have HB1 := Lib.hid hb1
  have cn := fun W => iDig n hn W
  have cm := fun W => iDig m hm W
  have ce : Hid (Calls Try.prog 66 #[.slice A s c] (w.alloc (.cells #[.int .i64 k, .int .i64 n, .int .i64 m, .slice A s c] 98)) fun e w' => e = .returned (.string (strU (entsL l))) ∧ Below (w.alloc (.cells #[.int .i64 k, .int .i64 n, .int .i64 m, .slice A s c] 98)).heap.size (w.alloc (.cells #[.int .i64 k, .int .i64 n, .int .i64 m, .slice A s c] 98)) w') := entries_text B A s c l _ (h.keep (hb1.mono hB)) (Nat.le_trans hB hb1.size)
  have hs : s ≤ 10000000000000 := by have := h.2.2.2.1; unfold reachBytes at this; omega
  have z1 : (strU (digM n)).size ≤ 20 := by rw [strU_size]; exact digM_len hn.1 hn.2
  have z2 : (strU (digM m)).size ≤ 20 := by rw [strU_size]; exact digM_len hm.1 hm.2
  have z3 : (strU (entsL l)).size ≤ 500000000000000 := by rw [strU_size]; have := entsL_len (sle_ok h); have := h.1; omega
  unfold evL
  by_cases e1 : k = 1
  · subst e1
    rw [if_pos rfl, ← emit_text]
    obtain ⟨s1, h1⟩ : ∃ z, strU (digM n) = z := ⟨_, rfl⟩
    rw [h1] at z1 cn ⊢
    have y : (⟨#[101, 109, 105, 116, 32]⟩ : ByteArray).size + s1.size ≤ 9223372036854775807 := by have : (⟨#[101, 109, 105, 116, 32]⟩ : ByteArray).size = 5 := rfl; omega
    clear h1 z1 z2 z3 cm ce h hs hb1 hB
    go_enter Try.func86, Try.ntmps86
    go_wp2_with fail
    refine Calls.mono (cn _).out ?_
    rintro e w1 ⟨rfl, hb⟩
    have X := Lib.hid (bl_trans HB1.out HB1.out.size hb)
    clear hb
    go_wp2_with fail
    go_ret
    exact ⟨rfl, X.out⟩
  have t1 : (k == 1) = false := by simpa using e1
  rw [if_neg e1]
  clear e1
  by_cases e2 : k = 2
  · subst e2
    rw [if_pos rfl, ← trace_text]
    obtain ⟨s1, h1⟩ : ∃ z, strU (entsL l) = z := ⟨_, rfl⟩
    rw [h1] at z3 ce ⊢
    have y : (⟨#[116, 114, 97, 99, 101]⟩ : ByteArray).size + s1.size ≤ 9223372036854775807 := by have : (⟨#[116, 114, 97, 99, 101]⟩ : ByteArray).size = 5 := rfl; omega
    clear h1 z1 z2 z3 cm cn h hs hb1 hB
    go_enter Try.func86, Try.ntmps86
    go_wp2_with fail
    refine Calls.mono ce.out ?_
    rintro e w1 ⟨rfl, hb⟩
    have X := Lib.hid (bl_trans HB1.out HB1.out.size hb)
    clear hb
    go_wp2_with fail
    go_ret
    exact ⟨rfl, X.out⟩
  have t2 : (k == 2) = false := by simpa using e2
  rw [if_neg e2]
  clear e2 ce
  by_cases e3 : k = 3
  · subst e3
    rw [if_pos rfl, ← rec_text]
    obtain ⟨s1, h1⟩ : ∃ z, strU (digM n) = z := ⟨_, rfl⟩
    obtain ⟨s2, h2⟩ : ∃ z, strU (digM m) = z := ⟨_, rfl⟩
    rw [h1] at z1 cn ⊢
    rw [h2] at z2 cm ⊢
    clear h1 h2 z3 hb1 hB t1 t2 h hs
    obtain ⟨w2, hw2⟩ : ∃ w2, w.alloc (.cells #[.int .i64 3, .int .i64 n, .int .i64 m, .slice A s c] 98) = w2 := ⟨_, rfl⟩
    have hcA : ∀ W, Below w2.heap.size w2 W → Below (w.heap.size + 1) (w.alloc (.cells #[.int .i64 3, .int .i64 n, .int .i64 m, .slice A s c] 98)) W := fun W hW => by rw [hw2]; exact hW.mono (by rw [← hw2]; simp)
    have ea1 : ∀ W, Below w2.heap.size w2 W → W.cell? ⟨w.heap.size, 1, none⟩ = some (.int .i64 n) := fun W hW => box_cells _ _ _ W (hcA W hW) 1 _ rfl
    have ea2 : ∀ W, Below w2.heap.size w2 W → W.cell? ⟨w.heap.size, 2, none⟩ = some (.int .i64 m) := fun W hW => box_cells _ _ _ W (hcA W hW) 2 _ rfl
    have q0 : w2.cell? ⟨w.heap.size, 0, none⟩ = some (.int .i64 3) := box_cells _ _ _ w2 (hcA w2 (Below.refl _ _)) 0 _ rfl
    have hS0 : Below w2.heap.size w2 w2.drew := (Below.refl _ _).drew
    rw [hw2] at HB1
    clear hcA
    go_enter Try.func86, Try.ntmps86
    go_wp2_with fail
    refine wp_region_held (S := fun W => Below w2.heap.size w2 W) (by kernel_rfl) ?_
    change wpAnyH _ _ _ _ _ _ _ _ (World.drew _)
    refine wpAnyH_take (i := 0) (v := .pointer (some ⟨w.heap.size, 1, none⟩)) rfl (by kernel_rfl) (by kernel_rfl) (by kernel_rfl) (fun _ _ _ h => h) (Or.inl ⟨by rfl, by intro W hW; go_simp; try (with_reducible rfl)⟩) hS0 ?_
    refine wpAnyH_take (i := 1) (v := .int .i64 n) rfl (by kernel_rfl) (by kernel_rfl) (by kernel_rfl) (fun _ _ _ h => h) (Or.inl ⟨by rfl, by intro W hW; have a0 := ea1 W hW; go_simp; try (with_reducible rfl)⟩) hS0 ?_
    refine wpAnyH_take (i := 5) (v := .pointer (some ⟨w.heap.size, 2, none⟩)) rfl (by kernel_rfl) (by kernel_rfl) (by kernel_rfl) (fun _ _ _ h => h) (Or.inl ⟨by rfl, by intro W hW; go_simp; try (with_reducible rfl)⟩) hS0 ?_
    refine wpAnyH_take (i := 6) (v := .int .i64 m) rfl (by kernel_rfl) (by kernel_rfl) (by kernel_rfl) (fun _ _ _ h => h) (Or.inl ⟨by rfl, by intro W hW; have a0 := ea2 W hW; go_simp; try (with_reducible rfl)⟩) hS0 ?_
    refine wpAnyH_one (i := 2) (by kernel_rfl) rfl (fun K hK => ?_)
    go_simp
    refine Calls.mono (cn _).out ?_
    rintro e w3 ⟨rfl, hb3⟩
    have hS3 := bl_trans hS0 hS0.size hb3
    go_simp
    refine hK _ _ ⟨hS3, ?_⟩; clear hK K
    refine wpAnyH_take (i := 3) (v := .string ((⟨#[114, 101, 99, 111, 118, 101, 114, 32]⟩ : ByteArray) ++ s1)) rfl (by kernel_rfl) (by kernel_rfl) (by kernel_rfl) (fun _ _ _ h => h) (Or.inl ⟨by rfl, by intro W hW; go_simp; first | omega | (simp only [ByteArray.size_append, size_lit]; omega) | (simp; omega)⟩) hS3 ?_
    refine wpAnyH_take (i := 4) (v := .string ((⟨#[114, 101, 99, 111, 118, 101, 114, 32]⟩ : ByteArray) ++ s1 ++ ⟨#[32]⟩)) rfl (by kernel_rfl) (by kernel_rfl) (by kernel_rfl) (fun _ _ _ h => h) (Or.inl ⟨by rfl, by intro W hW; go_simp; first | omega | (simp only [ByteArray.size_append, size_lit]; omega) | (simp; omega)⟩) hS3 ?_
    refine wpAnyH_one (i := 7) (by kernel_rfl) rfl (fun K hK => ?_)
    go_simp
    refine Calls.mono (cm _).out ?_
    rintro e w4 ⟨rfl, hb4⟩
    have hS4 := bl_trans hS3 hS3.size hb4
    go_simp
    refine hK _ _ ⟨hS4, ?_⟩; clear hK K
    refine wpAnyH_one (i := 8) (by kernel_rfl) rfl (fun K hK => ?_)
    go_simp
    rw [if_neg (by first | omega | (simp only [ByteArray.size_append, size_lit]; omega) | (simp; omega))]
    go_simp
    refine hK _ _ ⟨hS4, ?_⟩; clear hK K
    refine wpAnyH_one (i := 9) (by kernel_rfl) rfl (fun K hK => ?_)
    go_simp
    refine hK _ _ ⟨hS4, ?_⟩; clear hK K
    refine wpAnyH_done (by kernel_rfl) ?_ _
    go_wp2_with fail
    go_ret
    exact ⟨rfl, bl_trans HB1.out HB1.out.size hS4⟩
  have t3 : (k == 3) = false := by simpa using e3
  rw [if_neg e3]
  clear e3 cn cm z1 z2 z3 h hs hb1
  go_enter Try.func86, Try.ntmps86
  go_wp2_with fail
  go_ret
  exact ⟨rfl, HB1.out⟩

set_option maxRecDepth 100000 in
set_option maxHeartbeats 2000000 in
theorem refText_any (k n m : Int) (B : Nat) (A : Option Addr) (s c : Nat) (l : List DEntry) (w : World) (hn : Bd n) (hm : Bd m) (h : SlE w B A s c l) (hB : B ≤ w.heap.size) :
    Calls Try.prog 94 #[eventV k n m A s c] w fun e w' => e = .returned (.string (strU (evL k n m l))) ∧ Below w.heap.size w w' := by
  have hb1 : Below w.heap.size w (w.alloc (.cells #[.int .i64 k, .int .i64 n, .int .i64 m, .slice A s c] 98)) := (Below.refl _ _).alloc (Nat.le_refl _) _
  have HB1 := Lib.hid hb1
  have cn := fun W => rDig n hn W
  have cm := fun W => rDig m hm W
  have ce : Hid (Calls Try.prog 67 #[.slice A s c] (w.alloc (.cells #[.int .i64 k, .int .i64 n, .int .i64 m, .slice A s c] 98)) fun e w' => e = .returned (.string (strU (entsL l))) ∧ Below (w.alloc (.cells #[.int .i64 k, .int .i64 n, .int .i64 m, .slice A s c] 98)).heap.size (w.alloc (.cells #[.int .i64 k, .int .i64 n, .int .i64 m, .slice A s c] 98)) w') := refEntries_text B A s c l _ (h.keep (hb1.mono hB)) (Nat.le_trans hB hb1.size)
  have hs : s ≤ 10000000000000 := by have := h.2.2.2.1; unfold reachBytes at this; omega
  have z1 : (strU (digM n)).size ≤ 20 := by rw [strU_size]; exact digM_len hn.1 hn.2
  have z2 : (strU (digM m)).size ≤ 20 := by rw [strU_size]; exact digM_len hm.1 hm.2
  have z3 : (strU (entsL l)).size ≤ 500000000000000 := by rw [strU_size]; have := entsL_len (sle_ok h); have := h.1; omega
  unfold evL
  by_cases e1 : k = 1
  · subst e1
    rw [if_pos rfl, ← emit_text]
    obtain ⟨s1, h1⟩ : ∃ z, strU (digM n) = z := ⟨_, rfl⟩
    rw [h1] at z1 cn ⊢
    have y : (⟨#[101, 109, 105, 116, 32]⟩ : ByteArray).size + s1.size ≤ 9223372036854775807 := by have : (⟨#[101, 109, 105, 116, 32]⟩ : ByteArray).size = 5 := rfl; omega
    clear h1 z1 z2 z3 cm ce h hs hb1 hB
    go_enter Try.func94, Try.ntmps94
    go_wp2_with fail
    refine Calls.mono (cn _).out ?_
    rintro e w1 ⟨rfl, hb⟩
    have X := Lib.hid (bl_trans HB1.out HB1.out.size hb)
    clear hb
    go_wp2_with fail
    go_ret
    exact ⟨rfl, X.out⟩
  have t1 : (k == 1) = false := by simpa using e1
  rw [if_neg e1]
  clear e1
  by_cases e2 : k = 2
  · subst e2
    rw [if_pos rfl, ← trace_text]
    obtain ⟨s1, h1⟩ : ∃ z, strU (entsL l) = z := ⟨_, rfl⟩
    rw [h1] at z3 ce ⊢
    have y : (⟨#[116, 114, 97, 99, 101]⟩ : ByteArray).size + s1.size ≤ 9223372036854775807 := by have : (⟨#[116, 114, 97, 99, 101]⟩ : ByteArray).size = 5 := rfl; omega
    clear h1 z1 z2 z3 cm cn h hs hb1 hB
    go_enter Try.func94, Try.ntmps94
    go_wp2_with fail
    refine Calls.mono ce.out ?_
    rintro e w1 ⟨rfl, hb⟩
    have X := Lib.hid (bl_trans HB1.out HB1.out.size hb)
    clear hb
    go_wp2_with fail
    go_ret
    exact ⟨rfl, X.out⟩
  have t2 : (k == 2) = false := by simpa using e2
  rw [if_neg e2]
  clear e2 ce
  by_cases e3 : k = 3
  · subst e3
    rw [if_pos rfl, ← rec_text]
    obtain ⟨s1, h1⟩ : ∃ z, strU (digM n) = z := ⟨_, rfl⟩
    obtain ⟨s2, h2⟩ : ∃ z, strU (digM m) = z := ⟨_, rfl⟩
    rw [h1] at z1 cn ⊢
    rw [h2] at z2 cm ⊢
    clear h1 h2 z3 hb1 hB t1 t2 h hs
    obtain ⟨w2, hw2⟩ : ∃ w2, w.alloc (.cells #[.int .i64 3, .int .i64 n, .int .i64 m, .slice A s c] 98) = w2 := ⟨_, rfl⟩
    have hcA : ∀ W, Below w2.heap.size w2 W → Below (w.heap.size + 1) (w.alloc (.cells #[.int .i64 3, .int .i64 n, .int .i64 m, .slice A s c] 98)) W := fun W hW => by rw [hw2]; exact hW.mono (by rw [← hw2]; simp)
    have ea1 : ∀ W, Below w2.heap.size w2 W → W.cell? ⟨w.heap.size, 1, none⟩ = some (.int .i64 n) := fun W hW => box_cells _ _ _ W (hcA W hW) 1 _ rfl
    have ea2 : ∀ W, Below w2.heap.size w2 W → W.cell? ⟨w.heap.size, 2, none⟩ = some (.int .i64 m) := fun W hW => box_cells _ _ _ W (hcA W hW) 2 _ rfl
    have q0 : w2.cell? ⟨w.heap.size, 0, none⟩ = some (.int .i64 3) := box_cells _ _ _ w2 (hcA w2 (Below.refl _ _)) 0 _ rfl
    have hS0 : Below w2.heap.size w2 w2.drew := (Below.refl _ _).drew
    rw [hw2] at HB1
    clear hcA
    go_enter Try.func94, Try.ntmps94
    go_wp2_with fail
    refine wp_region_held (S := fun W => Below w2.heap.size w2 W) (by kernel_rfl) ?_
    change wpAnyH _ _ _ _ _ _ _ _ (World.drew _)
    refine wpAnyH_take (i := 0) (v := .pointer (some ⟨w.heap.size, 1, none⟩)) rfl (by kernel_rfl) (by kernel_rfl) (by kernel_rfl) (fun _ _ _ h => h) (Or.inl ⟨by rfl, by intro W hW; go_simp; try (with_reducible rfl)⟩) hS0 ?_
    refine wpAnyH_take (i := 1) (v := .int .i64 n) rfl (by kernel_rfl) (by kernel_rfl) (by kernel_rfl) (fun _ _ _ h => h) (Or.inl ⟨by rfl, by intro W hW; have a0 := ea1 W hW; go_simp; try (with_reducible rfl)⟩) hS0 ?_
    refine wpAnyH_take (i := 5) (v := .pointer (some ⟨w.heap.size, 2, none⟩)) rfl (by kernel_rfl) (by kernel_rfl) (by kernel_rfl) (fun _ _ _ h => h) (Or.inl ⟨by rfl, by intro W hW; go_simp; try (with_reducible rfl)⟩) hS0 ?_
    refine wpAnyH_take (i := 6) (v := .int .i64 m) rfl (by kernel_rfl) (by kernel_rfl) (by kernel_rfl) (fun _ _ _ h => h) (Or.inl ⟨by rfl, by intro W hW; have a0 := ea2 W hW; go_simp; try (with_reducible rfl)⟩) hS0 ?_
    refine wpAnyH_one (i := 2) (by kernel_rfl) rfl (fun K hK => ?_)
    go_simp
    refine Calls.mono (cn _).out ?_
    rintro e w3 ⟨rfl, hb3⟩
    have hS3 := bl_trans hS0 hS0.size hb3
    go_simp
    refine hK _ _ ⟨hS3, ?_⟩; clear hK K
    refine wpAnyH_take (i := 3) (v := .string ((⟨#[114, 101, 99, 111, 118, 101, 114, 32]⟩ : ByteArray) ++ s1)) rfl (by kernel_rfl) (by kernel_rfl) (by kernel_rfl) (fun _ _ _ h => h) (Or.inl ⟨by rfl, by intro W hW; go_simp; first | omega | (simp only [ByteArray.size_append, size_lit]; omega) | (simp; omega)⟩) hS3 ?_
    refine wpAnyH_take (i := 4) (v := .string ((⟨#[114, 101, 99, 111, 118, 101, 114, 32]⟩ : ByteArray) ++ s1 ++ ⟨#[32]⟩)) rfl (by kernel_rfl) (by kernel_rfl) (by kernel_rfl) (fun _ _ _ h => h) (Or.inl ⟨by rfl, by intro W hW; go_simp; first | omega | (simp only [ByteArray.size_append, size_lit]; omega) | (simp; omega)⟩) hS3 ?_
    refine wpAnyH_one (i := 7) (by kernel_rfl) rfl (fun K hK => ?_)
    go_simp
    refine Calls.mono (cm _).out ?_
    rintro e w4 ⟨rfl, hb4⟩
    have hS4 := bl_trans hS3 hS3.size hb4
    go_simp
    refine hK _ _ ⟨hS4, ?_⟩; clear hK K
    refine wpAnyH_one (i := 8) (by kernel_rfl) rfl (fun K hK => ?_)
    go_simp
    rw [if_neg (by first | omega | (simp only [ByteArray.size_append, size_lit]; omega) | (simp; omega))]
    go_simp
    refine hK _ _ ⟨hS4, ?_⟩; clear hK K
    refine wpAnyH_one (i := 9) (by kernel_rfl) rfl (fun K hK => ?_)
    go_simp
    refine hK _ _ ⟨hS4, ?_⟩; clear hK K
    refine wpAnyH_done (by kernel_rfl) ?_ _
    go_wp2_with fail
    go_ret
    exact ⟨rfl, bl_trans HB1.out HB1.out.size hS4⟩
  have t3 : (k == 3) = false := by simpa using e3
  rw [if_neg e3]
  clear e3 cn cm z1 z2 z3 h hs hb1
  go_enter Try.func94, Try.ntmps94
  go_wp2_with fail
  go_ret
  exact ⟨rfl, HB1.out⟩
end Go.Proofs.Ytpladpmkpchndaa
