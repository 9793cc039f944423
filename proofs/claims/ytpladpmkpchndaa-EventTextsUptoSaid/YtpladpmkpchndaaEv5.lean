/-
  A traceback as text, by the program and by the document.
-/
import Derived.Test.YtpladpmkpchndaaEv4
namespace Go.Proofs.Ytpladpmkpchndaa
open Go.RowKit
set_option linter.unusedSimpArgs false
set_option linter.unusedVariables false

def entL (x : DEntry) : List UInt8 := 32 :: (digM x.func ++ 58 :: digM x.line)
def entsL (l : List DEntry) : List UInt8 := l.flatMap entL
theorem entsL_snoc {l : List DEntry} {k : Nat} {x : DEntry} (h : l[k]? = some x) : entsL (l.take (k + 1)) = entsL (l.take k) ++ entL x := by
  unfold entsL
  rw [List.take_add_one, h]
  simp
theorem okE_bd {x : DEntry} (h : OkE x) : (-9223372036854775808 ≤ x.func ∧ x.func ≤ 9223372036854775807) ∧ (-9223372036854775808 ≤ x.line ∧ x.line ≤ 9223372036854775807) := by
  have h1 := h.1
  have h2 := h.2
  simp [Lit.wf, IntKind.min, IntKind.max, IntKind.signed, IntKind.bits] at h1 h2
  exact ⟨by omega, by omega⟩
theorem entL_len {x : DEntry} (h : OkE x) : (entL x).length ≤ 42 := by
  obtain ⟨h1, h2⟩ := okE_bd h
  have := digM_len h1.1 h1.2
  have := digM_len h2.1 h2.2
  simp [entL]
  omega
theorem entsL_len {l : List DEntry} (h : ∀ e ∈ l, OkE e) : (entsL l).length ≤ 42 * l.length := by
  induction l with
  | nil => simp [entsL]
  | cons a l ih =>
    have := ih (fun e he => h e (by simp [he]))
    have := entL_len (h a (by simp))
    unfold entsL at *
    rw [List.flatMap_cons, List.length_append, List.length_cons]
    omega
theorem size_lit (a : Array UInt8) : (⟨a⟩ : ByteArray).size = a.size := rfl
/-- The two orders in which the pieces are put together. -/
theorem ent_one (acc f l : List UInt8) : strU acc ++ (((⟨#[32]⟩ : ByteArray) ++ strU f) ++ ⟨#[58]⟩ ++ strU l) = strU (acc ++ 32 :: (f ++ 58 :: l)) := by
  rw [show (⟨#[32]⟩ : ByteArray) = strU [32] from rfl, show (⟨#[58]⟩ : ByteArray) = strU [58] from rfl]
  simp only [← strU_app]
  simp
theorem ent_two (acc f l : List UInt8) : strU acc ++ ⟨#[32]⟩ ++ strU f ++ ⟨#[58]⟩ ++ strU l = strU (acc ++ 32 :: (f ++ 58 :: l)) := by
  rw [show (⟨#[32]⟩ : ByteArray) = strU [32] from rfl, show (⟨#[58]⟩ : ByteArray) = strU [58] from rfl]
  simp only [← strU_app]
  simp
theorem iDig (n : Int) (h : -9223372036854775808 ≤ n ∧ n ≤ 9223372036854775807) (w : World) : Hid (Calls Try.prog 96 #[.int .i64 n] w fun e w' => e = .returned (.string (strU (digM n))) ∧ Below w.heap.size w w') := iDigits_any n h.1 h.2 w
theorem rDig (n : Int) (h : -9223372036854775808 ≤ n ∧ n ≤ 9223372036854775807) (w : World) : Hid (Calls Try.prog 95 #[.int .i64 n] w fun e w' => e = .returned (.string (strU (digM n))) ∧ Below w.heap.size w w') := refDigits_any n h.1 h.2 w

set_option maxRecDepth 100000 in
set_option maxHeartbeats 2000000 in
theorem entries_text (B : Nat) (A : Option Addr) (n c : Nat) (l : List DEntry) (w : World) (h : SlE w B A n c l) (hB : B ≤ w.heap.size) :
    Calls Try.prog 66 #[.slice A n c] w fun e w' => e = .returned (.string (strU (entsL l))) ∧ Below w.heap.size w w' := by
  have hn : n ≤ 10000000000000 := by have := h.2.2.2.1; unfold reachBytes at this; omega
  have H := Lib.hid h
  have HLn := Lib.hid h.1
  clear h
  go_enter Try.func66, Try.ntmps66
  go_wp2
  go_loopw [3, 8] (fun s i wr => ∃ k : Nat, k ≤ n ∧ i = .int .i64 k ∧ s = .string (strU (entsL (l.take k))) ∧ Hid (Below w.heap.size w wr)) (fun _ i _ => n - (intOf i).toNat)
  case atStart => exact ⟨0, Nat.zero_le _, rfl, rfl, Below.refl _ _⟩
  case round =>
    obtain ⟨k, hk, rfl, rfl, hb⟩ := hrel
    by_cases hlt : k < n
    · have hs := H.out.keep (hb.out.mono hB)
      obtain ⟨b1, o1, x, rfl, hb1, hx, hc1, hc2⟩ := SlR.cell2 (sle_rc hs) hlt
      have hok := sle_ok hs x (List.mem_of_getElem? hx)
      obtain ⟨d1, d2⟩ := okE_bd hok
      have hsn := entsL_snoc hx
      have la := entsL_len (l := l.take k) (fun e he => sle_ok hs e (List.mem_of_mem_take he))
      rw [List.length_take] at la
      have lf := digM_len d1.1 d1.2
      have ll := digM_len d2.1 d2.2
      have cf := fun W => iDig x.func d1 W
      have cl := fun W => iDig x.line d2 W
      have HF : Hid (strU (entsL (l.take k)) ++ (((⟨#[32]⟩ : ByteArray) ++ strU (digM x.func)) ++ ⟨#[58]⟩ ++ strU (digM x.line)) = strU (entsL (l.take (k + 1)))) := Lib.hid (by rw [ent_one, hsn]; rfl)
      obtain ⟨f, hf⟩ : ∃ z, x.func = z := ⟨_, rfl⟩
      obtain ⟨g, hg⟩ : ∃ z, x.line = z := ⟨_, rfl⟩
      rw [hf] at hc1 HF cf lf
      rw [hg] at hc2 HF cl ll
      have z1 : (strU (digM f)).size ≤ 20 := by rw [strU_size]; exact lf
      have z2 : (strU (digM g)).size ≤ 20 := by rw [strU_size]; exact ll
      have z3 : (strU (entsL (l.take k))).size ≤ 500000000000000 := by rw [strU_size]; omega
      obtain ⟨s1, e1⟩ : ∃ z, strU (digM f) = z := ⟨_, rfl⟩
      obtain ⟨s2, e2⟩ : ∃ z, strU (digM g) = z := ⟨_, rfl⟩
      obtain ⟨s3, e3⟩ : ∃ z, strU (entsL (l.take k)) = z := ⟨_, rfl⟩
      rw [e1] at z1 cf HF
      rw [e2] at z2 cl HF
      rw [e3] at z3 HF ⊢
      clear hf hg e1 e2 e3 hx hok d1 d2 hsn la lf ll hs hb1
      obtain ⟨w2, hw2⟩ : ∃ w2, wr.alloc (.cells #[.int .i64 f, .int .i64 g] 129) = w2 := ⟨_, rfl⟩
      have hb2 : Below w.heap.size w w2 := by rw [← hw2]; exact hb.out.alloc hb.out.size _
      have hcA : ∀ W, Below w2.heap.size w2 W → Below (wr.heap.size + 1) (wr.alloc (.cells #[.int .i64 f, .int .i64 g] 129)) W := fun W hW => by rw [hw2]; exact hW.mono (by rw [← hw2]; simp)
      have ea0 : ∀ W, Below w2.heap.size w2 W → W.cell? ⟨wr.heap.size, 0, none⟩ = some (.int .i64 f) := fun W hW => box_cells _ _ _ W (hcA W hW) 0 _ rfl
      have ea1 : ∀ W, Below w2.heap.size w2 W → W.cell? ⟨wr.heap.size, 1, none⟩ = some (.int .i64 g) := fun W hW => box_cells _ _ _ W (hcA W hW) 1 _ rfl
      have hS0 : Below w2.heap.size w2 w2.drew := (Below.refl _ _).drew
      have HB2 := Lib.hid hb2
      clear hb2 hcA
      go_wp2_with fail
      refine wp_region_held (S := fun W => Below w2.heap.size w2 W) (by kernel_rfl) ?_
      change wpAnyH _ _ _ _ _ _ _ _ (World.drew _)
      refine wpAnyH_take (i := 0) (v := .string s3) rfl (by kernel_rfl) (by kernel_rfl) (by kernel_rfl) (fun _ _ _ h => h) (Or.inl ⟨by rfl, by intro W hW; go_simp; try (with_reducible rfl)⟩) hS0 ?_
      refine wpAnyH_take (i := 1) (v := .pointer (some ⟨wr.heap.size, 0, none⟩)) rfl (by kernel_rfl) (by kernel_rfl) (by kernel_rfl) (fun _ _ _ h => h) (Or.inl ⟨by rfl, by intro W hW; go_simp; try (with_reducible rfl)⟩) hS0 ?_
      refine wpAnyH_take (i := 2) (v := .int .i64 f) rfl (by kernel_rfl) (by kernel_rfl) (by kernel_rfl) (fun _ _ _ h => h) (Or.inl ⟨by rfl, by intro W hW; have a0 := ea0 W hW; go_simp; try (with_reducible rfl)⟩) hS0 ?_
      refine wpAnyH_take (i := 6) (v := .pointer (some ⟨wr.heap.size, 1, none⟩)) rfl (by kernel_rfl) (by kernel_rfl) (by kernel_rfl) (fun _ _ _ h => h) (Or.inl ⟨by rfl, by intro W hW; go_simp; try (with_reducible rfl)⟩) hS0 ?_
      refine wpAnyH_take (i := 7) (v := .int .i64 g) rfl (by kernel_rfl) (by kernel_rfl) (by kernel_rfl) (fun _ _ _ h => h) (Or.inl ⟨by rfl, by intro W hW; have a0 := ea1 W hW; go_simp; try (with_reducible rfl)⟩) hS0 ?_
      refine wpAnyH_one (i := 3) (by kernel_rfl) rfl (fun K hK => ?_)
      go_simp
      refine Calls.mono (cf _).out ?_
      rintro e w3 ⟨rfl, hb3⟩
      have hS3 := bl_trans hS0 hS0.size hb3
      go_simp
      refine hK _ _ ⟨hS3, ?_⟩; clear hK K
      refine wpAnyH_take (i := 4) (v := .string ((⟨#[32]⟩ : ByteArray) ++ s1)) rfl (by kernel_rfl) (by kernel_rfl) (by kernel_rfl) (fun _ _ _ h => h) (Or.inl ⟨by rfl, by intro W hW; go_simp; first | omega | (simp only [ByteArray.size_append, size_lit]; omega) | (simp; omega)⟩) hS3 ?_
      refine wpAnyH_take (i := 5) (v := .string ((⟨#[32]⟩ : ByteArray) ++ s1 ++ ⟨#[58]⟩)) rfl (by kernel_rfl) (by kernel_rfl) (by kernel_rfl) (fun _ _ _ h => h) (Or.inl ⟨by rfl, by intro W hW; go_simp; first | omega | (simp only [ByteArray.size_append, size_lit]; omega) | (simp; omega)⟩) hS3 ?_
      refine wpAnyH_one (i := 8) (by kernel_rfl) rfl (fun K hK => ?_)
      go_simp
      refine Calls.mono (cl _).out ?_
      rintro e w4 ⟨rfl, hb4⟩
      have hS4 := bl_trans hS3 hS3.size hb4
      go_simp
      refine hK _ _ ⟨hS4, ?_⟩; clear hK K
      refine wpAnyH_one (i := 9) (by kernel_rfl) rfl (fun K hK => ?_)
      go_simp
      rw [if_neg (by first | omega | (simp only [ByteArray.size_append, size_lit]; omega) | (simp; omega))]
      go_simp
      refine hK _ _ ⟨hS4, ?_⟩; clear hK K
      refine wpAnyH_one (i := 10) (by kernel_rfl) rfl (fun K hK => ?_)
      go_simp
      rw [if_neg (by first | omega | (simp only [ByteArray.size_append, size_lit]; omega) | (simp; omega))]
      go_simp
      refine hK _ _ ⟨hS4, ?_⟩; clear hK K
      refine wpAnyH_one (i := 11) (by kernel_rfl) rfl (fun K hK => ?_)
      go_simp
      refine hK _ _ ⟨hS4, ?_⟩; clear hK K
      refine wpAnyH_done (by kernel_rfl) ?_ _
      go_wp2_with fail
      go_roundw
      case rel => exact ⟨k + 1, by omega, by go_num, by rw [HF.out], bl_trans HB2.out HB2.out.size hS4⟩
      case measure => simp [intOf]; omega
    · have hkn : k = n := by omega
      subst hkn
      have e : l.take k = l := List.take_of_length_le (by rw [HLn.out]; omega)
      rw [e]
      clear e
      go_wp2
      go_ret
      exact ⟨rfl, hb.out⟩
set_option maxRecDepth 100000 in
set_option maxHeartbeats 2000000 in
theorem refEntries_text (B : Nat) (A : Option Addr) (n c : Nat) (l : List DEntry) (w : World) (h : SlE w B A n c l) (hB : B ≤ w.heap.size) :
    Calls Try.prog 67 #[.slice A n c] w fun e w' => e = .returned (.string (strU (entsL l))) ∧ Below w.heap.size w w' := by
  have hn : n ≤ 10000000000000 := by have := h.2.2.2.1; unfold reachBytes at this; omega
  have H := Lib.hid h
  have HLn := Lib.hid h.1
  clear h
  go_enter Try.func67, Try.ntmps67
  go_wp2
  go_loopw [3, 4] (fun s i wr => ∃ k : Nat, k ≤ n ∧ i = .int .i64 k ∧ s = .string (strU (entsL (l.take k))) ∧ Hid (Below w.heap.size w wr)) (fun _ i _ => n - (intOf i).toNat)
  case atStart => exact ⟨0, Nat.zero_le _, rfl, rfl, Below.refl _ _⟩
  case round =>
    obtain ⟨k, hk, rfl, rfl, hb⟩ := hrel
    by_cases hlt : k < n
    · have hs := H.out.keep (hb.out.mono hB)
      obtain ⟨b1, o1, x, rfl, hb1, hx, hc1, hc2⟩ := SlR.cell2 (sle_rc hs) hlt
      have hok := sle_ok hs x (List.mem_of_getElem? hx)
      obtain ⟨d1, d2⟩ := okE_bd hok
      have hsn := entsL_snoc hx
      have la := entsL_len (l := l.take k) (fun e he => sle_ok hs e (List.mem_of_mem_take he))
      rw [List.length_take] at la
      have lf := digM_len d1.1 d1.2
      have ll := digM_len d2.1 d2.2
      have cf := fun W => rDig x.func d1 W
      have cl := fun W => rDig x.line d2 W
      have HF : Hid (strU (entsL (l.take k)) ++ ⟨#[32]⟩ ++ strU (digM x.func) ++ ⟨#[58]⟩ ++ strU (digM x.line) = strU (entsL (l.take (k + 1)))) := Lib.hid (by rw [ent_two, hsn]; rfl)
      obtain ⟨f, hf⟩ : ∃ z, x.func = z := ⟨_, rfl⟩
      obtain ⟨g, hg⟩ : ∃ z, x.line = z := ⟨_, rfl⟩
      rw [hf] at hc1 HF cf lf
      rw [hg] at hc2 HF cl ll
      have z1 : (strU (digM f)).size ≤ 20 := by rw [strU_size]; exact lf
      have z2 : (strU (digM g)).size ≤ 20 := by rw [strU_size]; exact ll
      have z3 : (strU (entsL (l.take k))).size ≤ 500000000000000 := by rw [strU_size]; omega
      obtain ⟨s1, e1⟩ : ∃ z, strU (digM f) = z := ⟨_, rfl⟩
      obtain ⟨s2, e2⟩ : ∃ z, strU (digM g) = z := ⟨_, rfl⟩
      obtain ⟨s3, e3⟩ : ∃ z, strU (entsL (l.take k)) = z := ⟨_, rfl⟩
      rw [e1] at z1 cf HF
      rw [e2] at z2 cl HF
      rw [e3] at z3 HF ⊢
      clear hf hg e1 e2 e3 hx hok d1 d2 hsn la lf ll hs
      have hb1r : b1 < wr.heap.size := Nat.lt_of_lt_of_le hb1 (Nat.le_trans hB hb.out.size)
      have ea0 : ∀ W, Below wr.heap.size wr W → W.cell? ⟨b1, o1 + k * 2, none⟩ = some (.int .i64 f) := fun W hW => (hW.cell hb1r).trans hc1
      have ea1 : ∀ W, Below wr.heap.size wr W → W.cell? ⟨b1, o1 + k * 2 + 1, none⟩ = some (.int .i64 g) := fun W hW => (hW.cell hb1r).trans hc2
      have hS0 : Below wr.heap.size wr wr.drew := (Below.refl _ _).drew
      clear hc1 hc2 hb1 hb1r
      go_wp2_with fail
      refine wp_region_held (S := fun W => Below wr.heap.size wr W) (by kernel_rfl) ?_
      change wpAnyH _ _ _ _ _ _ _ _ (World.drew _)
      refine wpAnyH_take (i := 0) (v := .string s3) rfl (by kernel_rfl) (by kernel_rfl) (by kernel_rfl) (fun _ _ _ h => h) (Or.inl ⟨by rfl, by intro W hW; go_simp; try (with_reducible rfl)⟩) hS0 ?_
      refine wpAnyH_take (i := 1) (v := .string (s3 ++ (⟨#[32]⟩ : ByteArray))) rfl (by kernel_rfl) (by kernel_rfl) (by kernel_rfl) (fun _ _ _ h => h) (Or.inl ⟨by rfl, by intro W hW; go_simp; first | omega | (simp only [ByteArray.size_append, size_lit]; omega) | (simp; omega)⟩) hS0 ?_
      refine wpAnyH_take (i := 2) (v := .slice (some ⟨b1, o1, none⟩) n c) rfl (by kernel_rfl) (by kernel_rfl) (by kernel_rfl) (fun _ _ _ h => h) (Or.inl ⟨by rfl, by intro W hW; go_simp; try (with_reducible rfl)⟩) hS0 ?_
      refine wpAnyH_take (i := 3) (v := .int .i64 (k : Int)) rfl (by kernel_rfl) (by kernel_rfl) (by kernel_rfl) (fun _ _ _ h => h) (Or.inl ⟨by rfl, by intro W hW; go_simp; try (with_reducible rfl)⟩) hS0 ?_
      refine wpAnyH_take (i := 4) (v := .pointer (some ⟨b1, o1 + k * 2, none⟩)) rfl (by kernel_rfl) (by kernel_rfl) (by kernel_rfl) (fun _ _ _ h => h) (Or.inl ⟨by rfl, by intro W hW; go_simp; try (with_reducible rfl)⟩) hS0 ?_
      refine wpAnyH_take (i := 5) (v := .pointer (some ⟨b1, o1 + k * 2, none⟩)) rfl (by kernel_rfl) (by kernel_rfl) (by kernel_rfl) (fun _ _ _ h => h) (Or.inl ⟨by rfl, by intro W hW; go_simp; try (with_reducible rfl)⟩) hS0 ?_
      refine wpAnyH_take (i := 6) (v := .int .i64 f) rfl (by kernel_rfl) (by kernel_rfl) (by kernel_rfl) (fun _ _ _ h => h) (Or.inl ⟨by rfl, by intro W hW; have a0 := ea0 W hW; go_simp; try (with_reducible rfl)⟩) hS0 ?_
      refine wpAnyH_take (i := 10) (v := .slice (some ⟨b1, o1, none⟩) n c) rfl (by kernel_rfl) (by kernel_rfl) (by kernel_rfl) (fun _ _ _ h => h) (Or.inl ⟨by rfl, by intro W hW; go_simp; try (with_reducible rfl)⟩) hS0 ?_
      refine wpAnyH_take (i := 11) (v := .int .i64 (k : Int)) rfl (by kernel_rfl) (by kernel_rfl) (by kernel_rfl) (fun _ _ _ h => h) (Or.inl ⟨by rfl, by intro W hW; go_simp; try (with_reducible rfl)⟩) hS0 ?_
      refine wpAnyH_take (i := 12) (v := .pointer (some ⟨b1, o1 + k * 2, none⟩)) rfl (by kernel_rfl) (by kernel_rfl) (by kernel_rfl) (fun _ _ _ h => h) (Or.inl ⟨by rfl, by intro W hW; go_simp; try (with_reducible rfl)⟩) hS0 ?_
      refine wpAnyH_take (i := 13) (v := .pointer (some ⟨b1, o1 + k * 2 + 1, none⟩)) rfl (by kernel_rfl) (by kernel_rfl) (by kernel_rfl) (fun _ _ _ h => h) (Or.inl ⟨by rfl, by intro W hW; go_simp; try (with_reducible rfl)⟩) hS0 ?_
      refine wpAnyH_take (i := 14) (v := .int .i64 g) rfl (by kernel_rfl) (by kernel_rfl) (by kernel_rfl) (fun _ _ _ h => h) (Or.inl ⟨by rfl, by intro W hW; have a1 := ea1 W hW; go_simp; try (with_reducible rfl)⟩) hS0 ?_
      refine wpAnyH_one (i := 7) (by kernel_rfl) rfl (fun K hK => ?_)
      go_simp
      refine Calls.mono (cf _).out ?_
      rintro e w3 ⟨rfl, hb3⟩
      have hS3 := bl_trans hS0 hS0.size hb3
      go_simp
      refine hK _ _ ⟨hS3, ?_⟩; clear hK K
      refine wpAnyH_take (i := 8) (v := .string (s3 ++ (⟨#[32]⟩ : ByteArray) ++ s1)) rfl (by kernel_rfl) (by kernel_rfl) (by kernel_rfl) (fun _ _ _ h => h) (Or.inl ⟨by rfl, by intro W hW; go_simp; first | omega | (simp only [ByteArray.size_append, size_lit]; omega) | (simp; omega)⟩) hS3 ?_
      refine wpAnyH_take (i := 9) (v := .string (s3 ++ (⟨#[32]⟩ : ByteArray) ++ s1 ++ ⟨#[58]⟩)) rfl (by kernel_rfl) (by kernel_rfl) (by kernel_rfl) (fun _ _ _ h => h) (Or.inl ⟨by rfl, by intro W hW; go_simp; first | omega | (simp only [ByteArray.size_append, size_lit]; omega) | (simp; omega)⟩) hS3 ?_
      refine wpAnyH_one (i := 15) (by kernel_rfl) rfl (fun K hK => ?_)
      go_simp
      refine Calls.mono (cl _).out ?_
      rintro e w4 ⟨rfl, hb4⟩
      have hS4 := bl_trans hS3 hS3.size hb4
      go_simp
      refine hK _ _ ⟨hS4, ?_⟩; clear hK K
      refine wpAnyH_one (i := 16) (by kernel_rfl) rfl (fun K hK => ?_)
      go_simp
      rw [if_neg (by first | omega | (simp only [ByteArray.size_append, size_lit]; omega) | (simp; omega))]
      go_simp
      refine hK _ _ ⟨hS4, ?_⟩; clear hK K
      refine wpAnyH_one (i := 17) (by kernel_rfl) rfl (fun K hK => ?_)
      go_simp
      refine hK _ _ ⟨hS4, ?_⟩; clear hK K
      refine wpAnyH_done (by kernel_rfl) ?_ _
      go_wp2_with fail
      go_roundw
      case rel => exact ⟨k + 1, by omega, by go_num, by rw [HF.out], bl_trans hb.out hb.out.size hS4⟩
      case measure => simp [intOf]; omega
    · have hkn : k = n := by omega
      subst hkn
      have e : l.take k = l := List.take_of_length_le (by rw [HLn.out]; omega)
      rw [e]
      clear e
      go_wp2
      go_ret
      exact ⟨rfl, hb.out⟩
end Go.Proofs.Ytpladpmkpchndaa
