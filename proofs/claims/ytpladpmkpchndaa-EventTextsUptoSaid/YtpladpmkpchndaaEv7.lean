/-
  The end of a run as text, by the program.
-/
import Derived.Test.YtpladpmkpchndaaEv6
namespace Go.Proofs.Ytpladpmkpchndaa
open Go.RowKit
set_option linter.unusedSimpArgs false
set_option linter.unusedVariables false

abbrev SlV (w : World) (B : Nat) (A : Option Addr) (n c : Nat) (xs : List DEvent) : Prop := SlR 4 48 REvent w B A n c xs
abbrev SlP (w : World) (B : Nat) (A : Option Addr) (n c : Nat) (xs : List DBlame) : Prop := SlR 4 48 RBlame w B A n c xs
abbrev SlN (w : World) (B : Nat) (A : Option Addr) (n c : Nat) (xs : List Int) : Prop := SlR 1 8 (RInt .i64) w B A n c xs
theorem slp_at {w : World} {B : Nat} {A : Option Addr} {n c : Nat} {xs : List DBlame} (h : SlP w B A n c xs) {i : Nat} (hi : i < n) :
    ∃ b off x A0 n0 c0, A = some ⟨b, off, none⟩ ∧ b < B ∧ xs[i]? = some x ∧ w.cell? ⟨b, off + i * 4, none⟩ = some (.int .i64 x.kind) ∧ w.cell? ⟨b, off + i * 4 + 1, none⟩ = some (.int .i64 x.num) ∧ w.cell? ⟨b, off + i * 4 + 2, none⟩ = some (.bool x.reco) ∧ w.cell? ⟨b, off + i * 4 + 3, none⟩ = some (.slice A0 n0 c0) ∧
      SlE w B A0 n0 c0 x.trace ∧ Bd x.kind ∧ Bd x.num := by
  obtain ⟨b, off, x, cs, hA, hb, hx, _, hc, hr⟩ := h.at_ hi
  obtain ⟨A0, n0, c0, rfl, h1, h2, h3⟩ := hr
  exact ⟨b, off, x, A0, n0, c0, hA, hb, hx, by simpa using hc 0 _ rfl, by simpa [Nat.add_assoc] using hc 1 _ rfl, by simpa [Nat.add_assoc] using hc 2 _ rfl, by simpa [Nat.add_assoc] using hc 3 _ rfl, h3, bd_of h1, bd_of h2⟩
theorem slv_at {w : World} {B : Nat} {A : Option Addr} {n c : Nat} {xs : List DEvent} (h : SlV w B A n c xs) {i : Nat} (hi : i < n) :
    ∃ b off x A0 n0 c0, A = some ⟨b, off, none⟩ ∧ b < B ∧ xs[i]? = some x ∧ w.cell? ⟨b, off + i * 4, none⟩ = some (.int .i64 x.kind) ∧ w.cell? ⟨b, off + i * 4 + 1, none⟩ = some (.int .i64 x.n) ∧ w.cell? ⟨b, off + i * 4 + 2, none⟩ = some (.int .i64 x.m) ∧ w.cell? ⟨b, off + i * 4 + 3, none⟩ = some (.slice A0 n0 c0) ∧
      SlE w B A0 n0 c0 x.trace ∧ Bd x.kind ∧ Bd x.n ∧ Bd x.m := by
  obtain ⟨b, off, x, cs, hA, hb, hx, _, hc, hr⟩ := h.at_ hi
  obtain ⟨A0, n0, c0, rfl, h1, h2, h3, h4⟩ := hr
  exact ⟨b, off, x, A0, n0, c0, hA, hb, hx, by simpa using hc 0 _ rfl, by simpa [Nat.add_assoc] using hc 1 _ rfl, by simpa [Nat.add_assoc] using hc 2 _ rfl, by simpa [Nat.add_assoc] using hc 3 _ rfl, h4, bd_of h1, bd_of h2, bd_of h3⟩
theorem sln_at {w : World} {B : Nat} {A : Option Addr} {n c : Nat} {xs : List Int} (h : SlN w B A n c xs) {i : Nat} (hi : i < n) :
    ∃ b off x, A = some ⟨b, off, none⟩ ∧ b < B ∧ xs[i]? = some x ∧ w.cell? ⟨b, off + i, none⟩ = some (.int .i64 x) ∧ Bd x := by
  obtain ⟨b, off, x, cs, hA, hb, hx, _, hc, hr⟩ := h.at_ hi
  obtain ⟨rfl, h1⟩ := hr
  exact ⟨b, off, x, hA, hb, hx, by simpa using hc 0 _ rfl, bd_of h1⟩
theorem SlV.keep {w w' : World} {B : Nat} {A : Option Addr} {n c : Nat} {xs : List DEvent} (h : SlV w B A n c xs) (hb : Below B w w') : SlV w' B A n c xs := SlR.below (R := REvent) stable_Event h hb
theorem SlP.keep {w w' : World} {B : Nat} {A : Option Addr} {n c : Nat} {xs : List DBlame} (h : SlP w B A n c xs) (hb : Below B w w') : SlP w' B A n c xs := SlR.below (R := RBlame) stable_Blame h hb
theorem SlN.keep {w w' : World} {B : Nat} {A : Option Addr} {n c : Nat} {xs : List Int} (h : SlN w B A n c xs) (hb : Below B w w') : SlN w' B A n c xs := SlR.below (R := RInt .i64) (stable_int .i64) h hb
theorem snocF {α : Type} (f : α → List UInt8) {l : List α} {k : Nat} {x : α} (h : l[k]? = some x) : (l.take (k + 1)).flatMap f = (l.take k).flatMap f ++ f x := by
  rw [List.take_add_one, h]
  simp
theorem lenF {α : Type} (f : α → List UInt8) (m : Nat) {l : List α} (h : ∀ x ∈ l, (f x).length ≤ m) : (l.flatMap f).length ≤ m * l.length := by
  induction l with
  | nil => simp
  | cons a l ih =>
    have h1 := ih (fun e he => h e (by simp [he]))
    have h2 := h a (by simp)
    rw [List.flatMap_cons, List.length_append, List.length_cons, Nat.mul_succ]
    omega
def sDone : List UInt8 := [100, 111, 110, 101]
def resL (x : Int) : List UInt8 := 32 :: digM x
def doneL (l : List Int) : List UInt8 := sDone ++ l.flatMap resL
theorem done_snoc {l : List Int} {k : Nat} {x : Int} (h : l[k]? = some x) : strU (doneL (l.take k)) ++ ((⟨#[32]⟩ : ByteArray) ++ strU (digM x)) = strU (doneL (l.take (k + 1))) := by
  rw [show (⟨#[32]⟩ : ByteArray) = strU [32] from rfl]
  simp only [← strU_app]
  unfold doneL
  rw [snocF resL h]
  simp [resL]
theorem SlN.bd {w : World} {B : Nat} {A : Option Addr} {n c : Nat} {xs : List Int} (h : SlN w B A n c xs) : ∀ x ∈ xs, Bd x := by
  intro x hx
  obtain ⟨i, hi, rfl⟩ := List.getElem_of_mem hx
  obtain ⟨b, off, y, _, _, hy, _, hb⟩ := sln_at h (i := i) (by have := h.1; omega)
  rw [List.getElem?_eq_getElem hi] at hy
  injection hy with hy
  rw [hy]
  exact hb
theorem doneL_len {l : List Int} (h : ∀ x ∈ l, Bd x) : (doneL l).length ≤ 4 + 21 * l.length := by
  have := lenF resL 21 (l := l) (fun x hx => by have := digM_len (h x hx).1 (h x hx).2; simp [resL]; omega)
  unfold doneL
  rw [List.length_append]
  have : sDone.length = 4 := rfl
  omega

set_option maxRecDepth 100000 in
set_option maxHeartbeats 2000000 in
theorem done_any (B : Nat) (A : Option Addr) (n c : Nat) (l : List Int) (w : World) (h : SlN w B A n c l) (hB : B ≤ w.heap.size) (hn : n ≤ 100) :
    Calls Try.prog 107 #[.slice A n c] w fun e w' => e = .returned (.string (strU (doneL l))) ∧ Below w.heap.size w w' := by
  have H := Lib.hid h
  have HLn := Lib.hid h.1
  clear h
  go_enter Try.func107, Try.ntmps107
  go_wp2
  go_loopw [3, 8] (fun s i wr => ∃ k : Nat, k ≤ n ∧ i = .int .i64 k ∧ s = .string (strU (doneL (l.take k))) ∧ Hid (Below w.heap.size w wr)) (fun _ i _ => n - (intOf i).toNat)
  case atStart => exact ⟨0, Nat.zero_le _, rfl, rfl, Below.refl _ _⟩
  case round =>
    obtain ⟨k, hk, rfl, rfl, hb⟩ := hrel
    by_cases hlt : k < n
    · have hs := H.out.keep (hb.out.mono hB)
      obtain ⟨b1, o1, x, rfl, hb1, hx, hc1, hd⟩ := sln_at hs hlt
      have HF := Lib.hid (done_snoc hx)
      have la := doneL_len (l := l.take k) (fun e he => hs.bd e (List.mem_of_mem_take he))
      rw [List.length_take] at la
      have z1 : (strU (digM x)).size ≤ 20 := by rw [strU_size]; exact digM_len hd.1 hd.2
      have z3 : (strU (doneL (l.take k))).size ≤ 10000 := by rw [strU_size]; omega
      have cx := fun W => iDig x hd W
      obtain ⟨s1, e1⟩ : ∃ z, strU (digM x) = z := ⟨_, rfl⟩
      obtain ⟨s3, e3⟩ : ∃ z, strU (doneL (l.take k)) = z := ⟨_, rfl⟩
      rw [e1] at z1 cx HF
      rw [e3] at z3 HF ⊢
      have y1 : (⟨#[32]⟩ : ByteArray).size + s1.size ≤ 9223372036854775807 := by have : (⟨#[32]⟩ : ByteArray).size = 1 := rfl; omega
      have y4 : s3.size + (⟨#[32]⟩ ++ s1).size ≤ 9223372036854775807 := by have : (⟨#[32]⟩ : ByteArray).size = 1 := rfl; rw [ByteArray.size_append]; omega
      clear e1 e3 hx hd la hs hb1 z1 z3
      go_wp2_with fail
      refine Calls.mono (cx _).out ?_
      rintro e w3 ⟨rfl, hb3⟩
      have X := Lib.hid (bl_trans hb.out hb.out.size hb3)
      clear hb3
      go_wp2_with fail
      go_roundw
      case rel => exact ⟨k + 1, by omega, by go_num, by rw [HF.out], X.out⟩
      case measure => simp [intOf]; omega
    · have hkn : k = n := by omega
      subst hkn
      have e : l.take k = l := List.take_of_length_le (by rw [HLn.out]; omega)
      rw [e]
      clear e
      go_wp2
      go_ret
      exact ⟨rfl, hb.out⟩

def sCrash : List UInt8 := [99, 114, 97, 115, 104, 101, 100]
def sPan : List UInt8 := [112, 97, 110, 105, 99, 32]
def sRecd : List UInt8 := [32, 114, 101, 99, 111, 118, 101, 114, 101, 100]
def recdL (b : Bool) : List UInt8 := if b then sRecd else []
def panB (x : DBlame) : List UInt8 := sPan ++ (digM x.kind ++ 32 :: digM x.num) ++ recdL x.reco ++ entsL x.trace
def crashL (l : List DBlame) : List UInt8 := sCrash ++ l.flatMap (fun x => 10 :: panB x)
def OkP (x : DBlame) : Prop := Bd x.kind ∧ Bd x.num ∧ (∀ e ∈ x.trace, OkE e) ∧ x.trace.length ≤ 10000000000000
theorem SlE.few {w : World} {B : Nat} {A : Option Addr} {n c : Nat} {l : List DEntry} (h : SlE w B A n c l) : (∀ e ∈ l, OkE e) ∧ l.length ≤ 10000000000000 := by
  refine ⟨sle_ok h, ?_⟩
  have h1 := h.1
  have h2 := h.2.2.2.1
  unfold reachBytes at h2
  omega
theorem SlP.ok {w : World} {B : Nat} {A : Option Addr} {n c : Nat} {xs : List DBlame} (h : SlP w B A n c xs) : ∀ x ∈ xs, OkP x :=
  SlR.all (R := RBlame) h fun cs x hr => by
    obtain ⟨A0, n0, c0, _, h1, h2, h3⟩ := hr
    have h4 := SlE.few (w := w) h3
    exact ⟨bd_of h1, bd_of h2, h4.1, h4.2⟩
theorem panB_len {x : DBlame} (h : OkP x) : (panB x).length ≤ 500000000000000 := by
  have h1 := digM_len h.1.1 h.1.2
  have h2 := digM_len h.2.1.1 h.2.1.2
  have h3 := entsL_len h.2.2.1
  have h4 := h.2.2.2
  have h5 : (recdL x.reco).length ≤ 10 := by cases x.reco <;> simp [recdL, sRecd]
  have h6 : sPan.length = 6 := rfl
  unfold panB
  simp only [List.length_append, List.length_cons]
  omega
theorem crashL_len {l : List DBlame} (h : ∀ x ∈ l, OkP x) : (crashL l).length ≤ 7 + 500000000000001 * l.length := by
  have := lenF (fun x => 10 :: panB x) 500000000000001 (l := l) (fun x hx => by have := panB_len (h x hx); simp only [List.length_cons]; omega)
  have h7 : sCrash.length = 7 := rfl
  unfold crashL
  rw [List.length_append]
  omega
theorem crash_snoc {l : List DBlame} {k : Nat} {x : DBlame} (h : l[k]? = some x) : strU (crashL (l.take k)) ++ ((⟨#[10, 112, 97, 110, 105, 99, 32]⟩ : ByteArray) ++ strU (digM x.kind) ++ ⟨#[32]⟩ ++ strU (digM x.num)) ++ strU (recdL x.reco) ++ strU (entsL x.trace) = strU (crashL (l.take (k + 1))) := by
  rw [show (⟨#[32]⟩ : ByteArray) = strU [32] from rfl, show (⟨#[10, 112, 97, 110, 105, 99, 32]⟩ : ByteArray) = strU (10 :: sPan) from rfl]
  simp only [← strU_app]
  unfold crashL
  rw [snocF _ h]
  unfold panB
  simp
theorem ByteArray.append_empty' (a : ByteArray) : a ++ (⟨#[]⟩ : ByteArray) = a := by
  apply ByteArray.ext
  rw [ByteArray.data_append]
  simp

set_option maxRecDepth 100000 in
set_option maxHeartbeats 2000000 in
theorem crashed_any (B : Nat) (A : Option Addr) (n c : Nat) (l : List DBlame) (w : World) (h : SlP w B A n c l) (hB : B ≤ w.heap.size) (hn : n ≤ 100) :
    Calls Try.prog 108 #[.slice A n c] w fun e w' => e = .returned (.string (strU (crashL l))) ∧ Below w.heap.size w w' := by
  have H := Lib.hid h
  have HLn := Lib.hid h.1
  clear h
  go_enter Try.func108, Try.ntmps108
  go_wp2
  go_loopw [3, 8] (fun s i wr => ∃ k : Nat, k ≤ n ∧ i = .int .i64 k ∧ s = .string (strU (crashL (l.take k))) ∧ Hid (Below w.heap.size w wr)) (fun _ i _ => n - (intOf i).toNat)
  case atStart => exact ⟨0, Nat.zero_le _, rfl, rfl, Below.refl _ _⟩
  case round =>
    obtain ⟨k, hk, rfl, rfl, hb⟩ := hrel
    by_cases hlt : k < n
    · have hs := H.out.keep (hb.out.mono hB)
      obtain ⟨b1, o1, x, A0, n0, c0, rfl, hb1, hx, hc1, hc2, hc3, hc4, hse, hd1, hd2⟩ := slp_at H.out hlt
      have hbB := hb.out.mono hB
      rw [← hbB.cell hb1] at hc1 hc2 hc3 hc4
      have HF := Lib.hid (crash_snoc hx)
      have hokp := hs.ok
      have la := crashL_len (l := l.take k) (fun e he => hokp e (List.mem_of_mem_take he))
      rw [List.length_take] at la
      have hok := hokp x (List.mem_of_getElem? hx)
      have z1 : (strU (digM x.kind)).size ≤ 20 := by rw [strU_size]; exact digM_len hd1.1 hd1.2
      have z2 : (strU (digM x.num)).size ≤ 20 := by rw [strU_size]; exact digM_len hd2.1 hd2.2
      have z5 : (strU (entsL x.trace)).size ≤ 500000000000000 := by rw [strU_size]; have := entsL_len hok.2.2.1; have := hok.2.2.2; omega
      have z3 : (strU (crashL (l.take k))).size ≤ 50100000000000000 := by rw [strU_size]; omega
      have cf := fun W => iDig x.kind hd1 W
      have cl := fun W => iDig x.num hd2 W
      have ce : ∀ W : World, Hid (Below w.heap.size w W) → Hid (Calls Try.prog 66 #[.slice A0 n0 c0] W fun e w' => e = .returned (.string (strU (entsL x.trace))) ∧ Below W.heap.size W w') := fun W hW => entries_text B A0 n0 c0 x.trace W (hse.keep (hW.out.mono hB)) (Nat.le_trans hB hW.out.size)
      obtain ⟨f, hf⟩ : ∃ z, x.kind = z := ⟨_, rfl⟩
      obtain ⟨g, hg⟩ : ∃ z, x.num = z := ⟨_, rfl⟩
      obtain ⟨r, hr⟩ : ∃ z, x.reco = z := ⟨_, rfl⟩
      rw [hf] at hc1 HF cf z1
      rw [hg] at hc2 HF cl z2
      rw [hr] at hc3 HF
      obtain ⟨s1, e1⟩ : ∃ z, strU (digM f) = z := ⟨_, rfl⟩
      obtain ⟨s2, e2⟩ : ∃ z, strU (digM g) = z := ⟨_, rfl⟩
      obtain ⟨s3, e3⟩ : ∃ z, strU (crashL (l.take k)) = z := ⟨_, rfl⟩
      obtain ⟨s5, e5⟩ : ∃ z, strU (entsL x.trace) = z := ⟨_, rfl⟩
      rw [e1] at z1 cf HF
      rw [e2] at z2 cl HF
      rw [e3] at z3 HF ⊢
      rw [e5] at z5 ce HF
      clear hf hg hr e1 e2 e3 e5 hx hok hokp hd1 hd2 la hs hb1 hse hbB
      rw [show strU (recdL r) = if r then (⟨#[32, 114, 101, 99, 111, 118, 101, 114, 101, 100]⟩ : ByteArray) else ⟨#[]⟩ from by cases r <;> rfl] at HF
      cases r
      case true =>
        rw [if_pos rfl] at HF
        obtain ⟨w2, hw2⟩ : ∃ w2, wr.alloc (.cells #[.int .i64 f, .int .i64 g, .bool true, .slice A0 n0 c0] 142) = w2 := ⟨_, rfl⟩
        have hb2 : Below w.heap.size w w2 := by rw [← hw2]; exact hb.out.alloc hb.out.size _
        have hcA : ∀ W, Below w2.heap.size w2 W → Below (wr.heap.size + 1) (wr.alloc (.cells #[.int .i64 f, .int .i64 g, .bool true, .slice A0 n0 c0] 142)) W := fun W hW => by rw [hw2]; exact hW.mono (by rw [← hw2]; simp)
        have ea0 : ∀ W, Below w2.heap.size w2 W → W.cell? ⟨wr.heap.size, 0, none⟩ = some (.int .i64 f) := fun W hW => box_cells _ _ _ W (hcA W hW) 0 _ rfl
        have ea1 : ∀ W, Below w2.heap.size w2 W → W.cell? ⟨wr.heap.size, 1, none⟩ = some (.int .i64 g) := fun W hW => box_cells _ _ _ W (hcA W hW) 1 _ rfl
        have ea2 : ∀ W, Below w2.heap.size w2 W → W.cell? ⟨wr.heap.size, 2, none⟩ = some (.bool true) := fun W hW => box_cells _ _ _ W (hcA W hW) 2 _ rfl
        have ea3 : ∀ W, Below w2.heap.size w2 W → W.cell? ⟨wr.heap.size, 3, none⟩ = some (.slice A0 n0 c0) := fun W hW => box_cells _ _ _ W (hcA W hW) 3 _ rfl
        have hS0 : Below w2.heap.size w2 w2.drew := (Below.refl _ _).drew
        have HB2 := Lib.hid hb2
        clear hb2 hcA
        go_wp2_with fail
        refine wp_region_held (S := fun W => Below w2.heap.size w2 W) (by kernel_rfl) ?_
        change wpAnyH _ _ _ _ _ _ _ _ (World.drew _)
        refine wpAnyH_take (i := 0) (v := .string s3) rfl (by kernel_rfl) (by kernel_rfl) (by kernel_rfl) (fun _ _ _ h => h) (Or.inl ⟨by rfl, by intro W hW; go_simp; try (with_reducible rfl)⟩) hS0 ?_
        refine wpAnyH_take (i := 1) (v := .pointer (some ⟨wr.heap.size, 0, none⟩)) rfl (by kernel_rfl) (by kernel_rfl) (by kernel_rfl) (fun _ _ _ h => h) (Or.inl ⟨by rfl, by intro W hW; go_simp; try (with_reducible rfl)⟩) hS0 ?_
        refine wpAnyH_take (i := 2) (v := .int .i64 f) rfl (by kernel_rfl) (by kernel_rfl) (by kernel_rfl) (fun _ _ _ h => h) (Or.inl ⟨by rfl, by intro W hW; have a0 := ea0 W hW; go_simp; try (with_reducible rfl)⟩) hS0 ?_
        refine wpAnyH_take (i := 6) (v := .pointer (some ⟨wr.heap.size, 1, none⟩)) rfl (by kernel_rfl) (by kernel_rfl) (by kernel_rfl) (fun _ _ _ h => h) (Or.inl ⟨by rfl, by intro W hW; go_simp; try (with_reducible rfl)⟩) hS0 ?_
        refine wpAnyH_take (i := 7) (v := .int .i64 g) rfl (by kernel_rfl) (by kernel_rfl) (by kernel_rfl) (fun _ _ _ h => h) (Or.inl ⟨by rfl, by intro W hW; have a0 := ea1 W hW; go_simp; try (with_reducible rfl)⟩) hS0 ?_
        refine wpAnyH_one (i := 3) (by kernel_rfl) rfl (fun K hK => ?_)
        go_simp
        refine Calls.mono (cf _).out ?_
        rintro e w3 ⟨rfl, hb3⟩
        have hS3 := bl_trans hS0 hS0.size hb3
        go_simp
        refine hK _ _ ⟨hS3, ?_⟩; clear hK K
        refine wpAnyH_take (i := 4) (v := .string ((⟨#[10, 112, 97, 110, 105, 99, 32]⟩ : ByteArray) ++ s1)) rfl (by kernel_rfl) (by kernel_rfl) (by kernel_rfl) (fun _ _ _ h => h) (Or.inl ⟨by rfl, by intro W hW; go_simp; first | omega | (simp only [ByteArray.size_append, size_lit]; omega) | (simp; omega)⟩) hS3 ?_
        refine wpAnyH_take (i := 5) (v := .string ((⟨#[10, 112, 97, 110, 105, 99, 32]⟩ : ByteArray) ++ s1 ++ ⟨#[32]⟩)) rfl (by kernel_rfl) (by kernel_rfl) (by kernel_rfl) (fun _ _ _ h => h) (Or.inl ⟨by rfl, by intro W hW; go_simp; first | omega | (simp only [ByteArray.size_append, size_lit]; omega) | (simp; omega)⟩) hS3 ?_
        refine wpAnyH_one (i := 8) (by kernel_rfl) rfl (fun K hK => ?_)
        go_simp
        refine Calls.mono (cl _).out ?_
        rintro e w4 ⟨rfl, hb4⟩
        have hS4 := bl_trans hS3 hS3.size hb4
        go_simp
        refine hK _ _ ⟨hS4, ?_⟩; clear hK K
        refine wpAnyH_one (i := 9) (by kernel_rfl) rfl (fun K hK => ?_)
        go_simp
        rw [if_neg (by first | omega | (simp only [ByteArray.size_append, size_lit]; omega) | (simp; omega))]
        go_simp
        refine hK _ _ ⟨hS4, ?_⟩; clear hK K
        refine wpAnyH_one (i := 10) (by kernel_rfl) rfl (fun K hK => ?_)
        go_simp
        rw [if_neg (by first | omega | (simp only [ByteArray.size_append, size_lit]; omega) | (simp; omega))]
        go_simp
        refine hK _ _ ⟨hS4, ?_⟩; clear hK K
        refine wpAnyH_one (i := 11) (by kernel_rfl) rfl (fun K hK => ?_)
        go_simp
        refine hK _ _ ⟨hS4, ?_⟩; clear hK K
        refine wpAnyH_done (by kernel_rfl) ?_ _
        have q2 := ea2 w4 hS4
        have q3 := ea3 w4 hS4
        have HX := Lib.hid (bl_trans HB2.out HB2.out.size hS4)
        have hz : (s3 ++ ((⟨#[10, 112, 97, 110, 105, 99, 32]⟩ : ByteArray) ++ s1 ++ ⟨#[32]⟩ ++ s2)).size ≤ 60000000000000000 := by have : (⟨#[10, 112, 97, 110, 105, 99, 32]⟩ : ByteArray).size = 7 := rfl; have : (⟨#[32]⟩ : ByteArray).size = 1 := rfl; simp only [ByteArray.size_append]; omega
        obtain ⟨s4, e4⟩ : ∃ z, s3 ++ ((⟨#[10, 112, 97, 110, 105, 99, 32]⟩ : ByteArray) ++ s1 ++ ⟨#[32]⟩ ++ s2) = z := ⟨_, rfl⟩
        rw [e4] at hz HF
        try rw [e4]
        have y1 : s4.size + (⟨#[32, 114, 101, 99, 111, 118, 101, 114, 101, 100]⟩ : ByteArray).size ≤ 9223372036854775807 := by have : (⟨#[32, 114, 101, 99, 111, 118, 101, 114, 101, 100]⟩ : ByteArray).size = 10 := rfl; omega
        have y2 : (s4 ++ (⟨#[32, 114, 101, 99, 111, 118, 101, 114, 101, 100]⟩ : ByteArray)).size + s5.size ≤ 9223372036854775807 := by have : (⟨#[32, 114, 101, 99, 111, 118, 101, 114, 101, 100]⟩ : ByteArray).size = 10 := rfl; rw [ByteArray.size_append]; omega
        have cE := ce w4 HX
        clear hz z1 z2 z3 z5 ea0 ea1 ea2 ea3 e4 ce
        go_wp2_with fail
        refine Calls.mono cE.out ?_
        rintro e w5 ⟨rfl, hb5⟩
        have X := Lib.hid (bl_trans HX.out HX.out.size hb5)
        clear hb5 hS4 hb4 hb3 hS3
        go_wp2_with fail
        go_roundw
        case rel => exact ⟨k + 1, by omega, by go_num, by rw [HF.out], X.out⟩
        case measure => simp [intOf]; omega
      case false =>
        rw [if_neg (by decide), ByteArray.append_empty'] at HF
        obtain ⟨w2, hw2⟩ : ∃ w2, wr.alloc (.cells #[.int .i64 f, .int .i64 g, .bool false, .slice A0 n0 c0] 142) = w2 := ⟨_, rfl⟩
        have hb2 : Below w.heap.size w w2 := by rw [← hw2]; exact hb.out.alloc hb.out.size _
        have hcA : ∀ W, Below w2.heap.size w2 W → Below (wr.heap.size + 1) (wr.alloc (.cells #[.int .i64 f, .int .i64 g, .bool false, .slice A0 n0 c0] 142)) W := fun W hW => by rw [hw2]; exact hW.mono (by rw [← hw2]; simp)
        have ea0 : ∀ W, Below w2.heap.size w2 W → W.cell? ⟨wr.heap.size, 0, none⟩ = some (.int .i64 f) := fun W hW => box_cells _ _ _ W (hcA W hW) 0 _ rfl
        have ea1 : ∀ W, Below w2.heap.size w2 W → W.cell? ⟨wr.heap.size, 1, none⟩ = some (.int .i64 g) := fun W hW => box_cells _ _ _ W (hcA W hW) 1 _ rfl
        have ea2 : ∀ W, Below w2.heap.size w2 W → W.cell? ⟨wr.heap.size, 2, none⟩ = some (.bool false) := fun W hW => box_cells _ _ _ W (hcA W hW) 2 _ rfl
        have ea3 : ∀ W, Below w2.heap.size w2 W → W.cell? ⟨wr.heap.size, 3, none⟩ = some (.slice A0 n0 c0) := fun W hW => box_cells _ _ _ W (hcA W hW) 3 _ rfl
        have hS0 : Below w2.heap.size w2 w2.drew := (Below.refl _ _).drew
        have HB2 := Lib.hid hb2
        clear hb2 hcA
        go_wp2_with fail
        refine wp_region_held (S := fun W => Below w2.heap.size w2 W) (by kernel_rfl) ?_
        change wpAnyH _ _ _ _ _ _ _ _ (World.drew _)
        refine wpAnyH_take (i := 0) (v := .string s3) rfl (by kernel_rfl) (by kernel_rfl) (by kernel_rfl) (fun _ _ _ h => h) (Or.inl ⟨by rfl, by intro W hW; go_simp; try (with_reducible rfl)⟩) hS0 ?_
        refine wpAnyH_take (i := 1) (v := .pointer (some ⟨wr.heap.size, 0, none⟩)) rfl (by kernel_rfl) (by kernel_rfl) (by kernel_rfl) (fun _ _ _ h => h) (Or.inl ⟨by rfl, by intro W hW; go_simp; try (with_reducible rfl)⟩) hS0 ?_
        refine wpAnyH_take (i := 2) (v := .int .i64 f) rfl (by kernel_rfl) (by kernel_rfl) (by kernel_rfl) (fun _ _ _ h => h) (Or.inl ⟨by rfl, by intro W hW; have a0 := ea0 W hW; go_simp; try (with_reducible rfl)⟩) hS0 ?_
        refine wpAnyH_take (i := 6) (v := .pointer (some ⟨wr.heap.size, 1, none⟩)) rfl (by kernel_rfl) (by kernel_rfl) (by kernel_rfl) (fun _ _ _ h => h) (Or.inl ⟨by rfl, by intro W hW; go_simp; try (with_reducible rfl)⟩) hS0 ?_
        refine wpAnyH_take (i := 7) (v := .int .i64 g) rfl (by kernel_rfl) (by kernel_rfl) (by kernel_rfl) (fun _ _ _ h => h) (Or.inl ⟨by rfl, by intro W hW; have a0 := ea1 W hW; go_simp; try (with_reducible rfl)⟩) hS0 ?_
        refine wpAnyH_one (i := 3) (by kernel_rfl) rfl (fun K hK => ?_)
        go_simp
        refine Calls.mono (cf _).out ?_
        rintro e w3 ⟨rfl, hb3⟩
        have hS3 := bl_trans hS0 hS0.size hb3
        go_simp
        refine hK _ _ ⟨hS3, ?_⟩; clear hK K
        refine wpAnyH_take (i := 4) (v := .string ((⟨#[10, 112, 97, 110, 105, 99, 32]⟩ : ByteArray) ++ s1)) rfl (by kernel_rfl) (by kernel_rfl) (by kernel_rfl) (fun _ _ _ h => h) (Or.inl ⟨by rfl, by intro W hW; go_simp; first | omega | (simp only [ByteArray.size_append, size_lit]; omega) | (simp; omega)⟩) hS3 ?_
        refine wpAnyH_take (i := 5) (v := .string ((⟨#[10, 112, 97, 110, 105, 99, 32]⟩ : ByteArray) ++ s1 ++ ⟨#[32]⟩)) rfl (by kernel_rfl) (by kernel_rfl) (by kernel_rfl) (fun _ _ _ h => h) (Or.inl ⟨by rfl, by intro W hW; go_simp; first | omega | (simp only [ByteArray.size_append, size_lit]; omega) | (simp; omega)⟩) hS3 ?_
        refine wpAnyH_one (i := 8) (by kernel_rfl) rfl (fun K hK => ?_)
        go_simp
        refine Calls.mono (cl _).out ?_
        rintro e w4 ⟨rfl, hb4⟩
        have hS4 := bl_trans hS3 hS3.size hb4
        go_simp
        refine hK _ _ ⟨hS4, ?_⟩; clear hK K
        refine wpAnyH_one (i := 9) (by kernel_rfl) rfl (fun K hK => ?_)
        go_simp
        rw [if_neg (by first | omega | (simp only [ByteArray.size_append, size_lit]; omega) | (simp; omega))]
        go_simp
        refine hK _ _ ⟨hS4, ?_⟩; clear hK K
        refine wpAnyH_one (i := 10) (by kernel_rfl) rfl (fun K hK => ?_)
        go_simp
        rw [if_neg (by first | omega | (simp only [ByteArray.size_append, size_lit]; omega) | (simp; omega))]
        go_simp
        refine hK _ _ ⟨hS4, ?_⟩; clear hK K
        refine wpAnyH_one (i := 11) (by kernel_rfl) rfl (fun K hK => ?_)
        go_simp
        refine hK _ _ ⟨hS4, ?_⟩; clear hK K
        refine wpAnyH_done (by kernel_rfl) ?_ _
        have q2 := ea2 w4 hS4
        have q3 := ea3 w4 hS4
        have HX := Lib.hid (bl_trans HB2.out HB2.out.size hS4)
        have hz : (s3 ++ ((⟨#[10, 112, 97, 110, 105, 99, 32]⟩ : ByteArray) ++ s1 ++ ⟨#[32]⟩ ++ s2)).size ≤ 60000000000000000 := by have : (⟨#[10, 112, 97, 110, 105, 99, 32]⟩ : ByteArray).size = 7 := rfl; have : (⟨#[32]⟩ : ByteArray).size = 1 := rfl; simp only [ByteArray.size_append]; omega
        obtain ⟨s4, e4⟩ : ∃ z, s3 ++ ((⟨#[10, 112, 97, 110, 105, 99, 32]⟩ : ByteArray) ++ s1 ++ ⟨#[32]⟩ ++ s2) = z := ⟨_, rfl⟩
        rw [e4] at hz HF
        try rw [e4]
        have y2 : s4.size + s5.size ≤ 9223372036854775807 := by omega
        have cE := ce w4 HX
        clear hz z1 z2 z3 z5 ea0 ea1 ea2 ea3 e4 ce
        go_wp2_with fail
        refine Calls.mono cE.out ?_
        rintro e w5 ⟨rfl, hb5⟩
        have X := Lib.hid (bl_trans HX.out HX.out.size hb5)
        clear hb5 hS4 hb4 hb3 hS3
        go_wp2_with fail
        go_roundw
        case rel => exact ⟨k + 1, by omega, by go_num, by rw [HF.out], X.out⟩
        case measure => simp [intOf]; omega
    · have hkn : k = n := by omega
      subst hkn
      have e : l.take k = l := List.take_of_length_le (by rw [HLn.out]; omega)
      rw [e]
      clear e
      go_wp2
      go_ret
      exact ⟨rfl, hb.out⟩
end Go.Proofs.Ytpladpmkpchndaa
