/-
  Panics: whether the last is open; the last one recovered.
-/
import Derived.Test.YtnnpgljmfjemnaaBlame6
namespace Go.Proofs.Ytnnpgljmfjemnaa
open Go.RowKit
set_option linter.unusedSimpArgs false
set_option linter.unusedVariables false

def lastB (xs : List DBlame) : Option DBlame := xs[xs.length - 1]?
def openM (xs : List DBlame) : Bool := match lastB xs with | some x => !x.reco | none => false
def recM (xs : List DBlame) : List DBlame := match lastB xs with | some x => if x.reco then xs else xs.set (xs.length - 1) { x with reco := true } | none => xs
def kindM (xs : List DBlame) : Int := match lastB xs with | some x => if x.reco then 0 else x.kind | none => 0
def numM (xs : List DBlame) : Int := match lastB xs with | some x => if x.reco then 0 else x.num | none => 0
theorem recM_len (xs : List DBlame) : (recM xs).length = xs.length := by
  unfold recM
  split
  · split
    · rfl
    · simp
  · rfl

set_option maxHeartbeats 1000000 in
theorem open_any (B : Nat) (A : Option Addr) (n c : Nat) (xs : List DBlame) (w : World) (h : SlC w B A n c xs) (hn : n ≤ 100) :
    Calls Try.prog 25 #[.slice A n c] w fun e w' => e = .returned (.bool (openM xs)) ∧ w = w' := by
  have hl := h.1
  rcases Nat.eq_zero_or_pos n with h0 | h0
  · subst h0
    have : xs = [] := List.eq_nil_of_length_eq_zero hl
    subst this
    clear h
    go_enter Try.func25, Try.ntmps25
    go_wp2
    go_ret
    exact ⟨rfl, rfl⟩
  · obtain ⟨b, off, x, A0, n0, c0, rfl, hb, hx, q0, q1, q2, q3, _, _, _⟩ := SlR.cell4 h (show n - 1 < n by omega)
    have e : openM xs = !x.reco := by unfold openM lastB; rw [hl, hx]
    rw [e]
    obtain ⟨r, hr⟩ : ∃ r, x.reco = r := ⟨_, rfl⟩
    rw [hr] at q2 ⊢
    obtain ⟨k, rfl⟩ : ∃ k, n = k + 1 := ⟨n - 1, by omega⟩
    rw [Nat.add_sub_cancel] at q2
    have hpos : (0 : Int) < ((k + 1 : Nat) : Int) := by omega
    clear h hx q0 q1 q3 e hr hl
    go_enter Try.func25, Try.ntmps25
    go_wp2
    go_ret
    exact ⟨rfl, rfl⟩
set_option maxHeartbeats 1000000 in
theorem refOpen_any (B : Nat) (A : Option Addr) (n c : Nat) (xs : List DBlame) (w : World) (h : SlC w B A n c xs) (hn : n ≤ 100) :
    Calls Try.prog 16 #[.slice A n c] w fun e w' => e = .returned (.bool (openM xs)) ∧ w = w' := by
  have hl := h.1
  rcases Nat.eq_zero_or_pos n with h0 | h0
  · subst h0
    have : xs = [] := List.eq_nil_of_length_eq_zero hl
    subst this
    clear h
    go_enter Try.func16, Try.ntmps16
    go_wp2
    go_ret
    exact ⟨rfl, rfl⟩
  · obtain ⟨b, off, x, A0, n0, c0, rfl, hb, hx, q0, q1, q2, q3, _, _, _⟩ := SlR.cell4 h (show n - 1 < n by omega)
    have e : openM xs = !x.reco := by unfold openM lastB; rw [hl, hx]
    rw [e]
    obtain ⟨r, hr⟩ : ∃ r, x.reco = r := ⟨_, rfl⟩
    rw [hr] at q2 ⊢
    obtain ⟨k, rfl⟩ : ∃ k, n = k + 1 := ⟨n - 1, by omega⟩
    rw [Nat.add_sub_cancel] at q2
    have hpos : (0 : Int) < ((k + 1 : Nat) : Int) := by omega
    clear h hx q0 q1 q3 e hr hl
    go_enter Try.func16, Try.ntmps16
    go_wp2
    go_ret
    exact ⟨rfl, rfl⟩

theorem rec_step {w : World} {base g k : Nat} {cells : List Value} {xs : List DBlame} {x : DBlame} (hown : w.ownsRow base 35 4 (.slice (some ⟨g, 0, none⟩) (k + 1) (k + 1)) (k + 1) cells) (hf : Filled w g cells xs (k + 1)) (hl : xs.length = k + 1) (hx : xs[k]? = some x) (hm : k + 1 ≤ 100) :
    SlC (w.setCell ⟨g, k * 4 + 2, none⟩ (.bool true)) (w.setCell ⟨g, k * 4 + 2, none⟩ (.bool true)).heap.size (some ⟨g, 0, none⟩) (k + 1) (k + 1) (xs.set k { x with reco := true }) := by
  have hown1 := (hown.stored (k * 4 + 2) (.bool true)).1
  have hcl := hown.1
  refine filled_sl hown1 (fun i y hi hy => ?_) (by simpa using hl) (by unfold maxLen; omega) (by unfold reachBytes; omega)
  have hfar : ∀ q : Addr, q.block ≠ g → q.block < w.heap.size → (w.setCell ⟨g, k * 4 + 2, none⟩ (.bool true)).cell? q = w.cell? q := fun q hq _ => World.cell?_setCell_far _ _ _ _ (by show g ≠ q.block; exact Ne.symm hq)
  by_cases hik : i = k
  · subst hik
    rw [List.getElem?_set_self (by omega)] at hy
    injection hy with hy
    subst hy
    obtain ⟨A, m, c, h⟩ := hf i x hi hx
    refine ⟨A, m, c, ?_, ?_, ?_, ?_, h.tr.keepAt (fun b => b ≠ g) h.far hfar (by simp), h.far, h.ok0, h.ok1⟩
    · rw [List.getElem?_set_ne (by omega)]; exact h.h0
    · rw [List.getElem?_set_ne (by omega)]; exact h.h1
    · rw [List.getElem?_set_self (by omega)]
    · rw [List.getElem?_set_ne (by omega)]; exact h.h3
  · rw [List.getElem?_set_ne (by omega)] at hy
    obtain ⟨A, m, c, h⟩ := hf i y hi hy
    exact ⟨A, m, c, h.keep (fun j hj => by rw [List.getElem?_set_ne (by omega)]) hfar (by simp)⟩
theorem slc_drewN {w : World} {A : Option Addr} {n c : Nat} {xs : List DBlame} (h : SlC w w.heap.size A n c xs) (q : Nat) : SlC (w.drewN q) (w.drewN q).heap.size A n c xs := by
  have : SlC (w.drewN q) w.heap.size A n c xs := SlR.keep stable_Blame h (fun p hp => by simp)
  simpa using this

def IsRec (n : Nat) (xs : List DBlame) (w : World) (e : Ending) (w' : World) : Prop := ∃ A c, e = .returned (.tuple #[.slice A n c, .int .i64 (kindM xs), .int .i64 (numM xs)]) ∧ SlC w' w'.heap.size A n c (recM xs) ∧ Below w.heap.size w w'

set_option maxRecDepth 100000 in
set_option maxHeartbeats 2000000 in
theorem recover_any (A : Option Addr) (n c : Nat) (xs : List DBlame) (w : World) (h : SlC w w.heap.size A n c xs) (hn : n ≤ 100) :
    Calls Try.prog 22 #[.slice A n c] w (IsRec n xs w) := by
  have hl := h.1
  have c1 : Hid (Calls Try.prog 26 #[.slice A n c] w (IsChain n xs w)) := copy_any A n c xs w h hn
  have c2 : ∀ (B : Nat) (A : Option Addr) (c : Nat) (W : World), SlC W B A n c xs → Hid (Calls Try.prog 25 #[.slice A n c] W fun e w' => e = .returned (.bool (openM xs)) ∧ W = w') := fun B A c W hs => open_any B A n c xs W hs hn
  clear h
  rcases Bool.eq_false_or_eq_true (openM xs) with ho | ho
  · obtain ⟨x, hx, hr⟩ : ∃ x, lastB xs = some x ∧ x.reco = false := by
      unfold openM at ho
      split at ho
      · rename_i x hx; exact ⟨x, hx, by simpa using ho⟩
      · cases ho
    have hlt : xs.length - 1 < xs.length := (List.getElem?_eq_some_iff.1 hx).1
    obtain ⟨k, rfl⟩ : ∃ k, n = k + 1 := ⟨n - 1, by omega⟩
    have hxk : xs[k]? = some x := by unfold lastB at hx; rw [hl, Nat.add_sub_cancel] at hx; exact hx
    have e1 : kindM xs = x.kind := by unfold kindM; rw [hx]; simp [hr]
    have e2 : numM xs = x.num := by unfold numM; rw [hx]; simp [hr]
    have e3 : recM xs = xs.set k { x with reco := true } := by unfold recM; rw [hx, hl, Nat.add_sub_cancel]; simp [hr]
    rw [ho] at c2
    unfold IsRec
    rw [e1, e2, e3]
    have HX := Lib.hid hxk
    have HL := Lib.hid hl
    clear e1 e2 e3 hx hr hxk ho hlt hl
    go_enter Try.func22, Try.ntmps22
    go_wp2_with fail
    refine Calls.mono c1.out ?_
    rintro e w1 ⟨g, cells, rfl, hown, hf, hbw⟩
    go_wp2_with fail
    refine Calls.mono (c2 _ _ _ _ (filled_sl hown hf HL.out (by unfold maxLen; omega) (by unfold reachBytes; omega))).out ?_
    rintro e w2 ⟨rfl, rfl⟩
    obtain ⟨A', m', c', hat⟩ := hf k x (by omega) HX.out
    have hlen := hown.1
    have q0 : w1.cell? ⟨g, k * 4, none⟩ = some (.int .i64 x.kind) := (hown.cellAt _ (by omega)).trans hat.h0
    have q1 : w1.cell? ⟨g, k * 4 + 1, none⟩ = some (.int .i64 x.num) := (hown.cellAt _ (by omega)).trans hat.h1
    have q2 : w1.cell? ⟨g, k * 4 + 2, none⟩ = some (.bool x.reco) := (hown.cellAt _ (by omega)).trans hat.h2
    have f2 := hown.frozenAt (k * 4 + 2)
    have X := Lib.hid (rec_step hown hf HL.out HX.out hn)
    have HB : Hid (Below w.heap.size w (w1.setCell ⟨g, k * 4 + 2, none⟩ (.bool true))) := below_set hbw (hown.lt _ rfl).1 _
    obtain ⟨x0, hx0⟩ : ∃ z, x.kind = z := ⟨_, rfl⟩
    obtain ⟨x1, hx1⟩ : ∃ z, x.num = z := ⟨_, rfl⟩
    rw [hx0] at q0
    rw [hx1] at q1
    have E0 := Lib.hid hx0
    have E1 := Lib.hid hx1
    clear hown hf hbw hat hlen hx0 hx1 c1 c2
    have hpos : (0 : Int) < ((k + 1 : Nat) : Int) := by omega
    go_wp2_with fail
    go_quiet (fail)
    go_wp2
    go_outline
    go_ret3
    refine ⟨_, _, by rw [E0.out, E1.out]; rfl, slc_drewN X.out _, below_drewN' HB.out _⟩
  · have hz : kindM xs = 0 ∧ numM xs = 0 ∧ recM xs = xs := by
      unfold openM at ho
      unfold kindM numM recM
      split at ho
      · rename_i x hx
        have hr : x.reco = true := by simpa using ho
        simp [hr]
      · exact ⟨rfl, rfl, rfl⟩
    rw [ho] at c2
    unfold IsRec
    rw [hz.1, hz.2.1, hz.2.2]
    have HL := Lib.hid hl
    clear hz ho hl
    go_enter Try.func22, Try.ntmps22
    go_wp2_with fail
    refine Calls.mono c1.out ?_
    rintro e w1 ⟨g, cells, rfl, hown, hf, hbw⟩
    have hs := filled_sl hown hf HL.out (by unfold maxLen; omega) (by unfold reachBytes; omega)
    go_wp2_with fail
    refine Calls.mono (c2 _ _ _ _ hs).out ?_
    rintro e w2 ⟨rfl, rfl⟩
    have X := Lib.hid hs
    clear hs hown hf c1 c2
    go_wp2_with fail
    go_ret3
    exact ⟨_, _, rfl, X.out, hbw⟩
end Go.Proofs.Ytnnpgljmfjemnaa
