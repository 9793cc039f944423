/-
  The table of the instructions' names, made of a text by the program.
-/
import Derived.Test.YtnnpgljmfjemnaaOps
import Derived.Lib.OthersKept
import Derived.Deep.LoopGhost
import Derived.Lib.Hide
namespace Go.Proofs.Ytnnpgljmfjemnaa
open Go.RowKit
set_option linter.unusedSimpArgs false
set_option linter.unusedVariables false

def bs (l : List UInt8) : ByteArray := ⟨l.toArray⟩
theorem bs_add (a b : List UInt8) : bs a ++ bs b = bs (a ++ b) := by
  apply ByteArray.ext
  simp [bs]
def wordsL : List UInt8 := [110, 111, 112, 32, 112, 117, 115, 104, 32, 108, 111, 97, 100, 32, 115, 116, 111, 114, 101, 32, 112, 111, 112, 32, 100, 117, 112, 32, 97, 100, 100, 32, 115, 117, 98, 32, 109, 117, 108, 32, 100, 105, 118, 32, 109, 111, 100, 32, 110, 101, 103, 32, 108, 101, 115, 115, 32, 115, 97, 109, 101, 32, 110, 111, 116, 32, 112, 97, 105, 114, 32, 112, 108, 117, 115, 32, 109, 105, 110, 117, 115, 32, 116, 105, 109, 101, 115, 32, 114, 101, 97, 108, 32, 105, 109, 97, 103, 32, 106, 117, 109, 112, 32, 105, 102, 32, 99, 97, 108, 108, 32, 100, 101, 102, 101, 114, 32, 114, 101, 116, 32, 112, 97, 110, 105, 99, 32, 114, 101, 99, 111, 118, 101, 114, 32, 103, 101, 116, 114, 101, 115, 32, 115, 101, 116, 114, 101, 115, 32, 101, 109, 105, 116, 32, 116, 114, 97, 99, 101, 32, 100, 114, 97, 119, 32, 111, 112, 101, 110, 32, 99, 108, 111, 115, 101]
def wordsB : ByteArray := ⟨#[110, 111, 112, 32, 112, 117, 115, 104, 32, 108, 111, 97, 100, 32, 115, 116, 111, 114, 101, 32, 112, 111, 112, 32, 100, 117, 112, 32, 97, 100, 100, 32, 115, 117, 98, 32, 109, 117, 108, 32, 100, 105, 118, 32, 109, 111, 100, 32, 110, 101, 103, 32, 108, 101, 115, 115, 32, 115, 97, 109, 101, 32, 110, 111, 116, 32, 112, 97, 105, 114, 32, 112, 108, 117, 115, 32, 109, 105, 110, 117, 115, 32, 116, 105, 109, 101, 115, 32, 114, 101, 97, 108, 32, 105, 109, 97, 103, 32, 106, 117, 109, 112, 32, 105, 102, 32, 99, 97, 108, 108, 32, 100, 101, 102, 101, 114, 32, 114, 101, 116, 32, 112, 97, 110, 105, 99, 32, 114, 101, 99, 111, 118, 101, 114, 32, 103, 101, 116, 114, 101, 115, 32, 115, 101, 116, 114, 101, 115, 32, 101, 109, 105, 116, 32, 116, 114, 97, 99, 101, 32, 100, 114, 97, 119, 32, 111, 112, 101, 110, 32, 99, 108, 111, 115, 101]⟩
theorem wordsB_eq : wordsB = bs wordsL := rfl
def nNames : Nat := 35
def namesL : List (List UInt8) := [[110, 111, 112], [112, 117, 115, 104], [108, 111, 97, 100], [115, 116, 111, 114, 101], [112, 111, 112], [100, 117, 112], [97, 100, 100], [115, 117, 98], [109, 117, 108], [100, 105, 118], [109, 111, 100], [110, 101, 103], [108, 101, 115, 115], [115, 97, 109, 101], [110, 111, 116], [112, 97, 105, 114], [112, 108, 117, 115], [109, 105, 110, 117, 115], [116, 105, 109, 101, 115], [114, 101, 97, 108], [105, 109, 97, 103], [106, 117, 109, 112], [105, 102], [99, 97, 108, 108], [100, 101, 102, 101, 114], [114, 101, 116], [112, 97, 110, 105, 99], [114, 101, 99, 111, 118, 101, 114], [103, 101, 116, 114, 101, 115], [115, 101, 116, 114, 101, 115], [101, 109, 105, 116], [116, 114, 97, 99, 101], [100, 114, 97, 119], [111, 112, 101, 110], [99, 108, 111, 115, 101]]
/-- One byte: the names that are whole, and the one that grows. -/
def spl (s : List (List UInt8) × List UInt8) (c : UInt8) : List (List UInt8) × List UInt8 := if c = 32 then (s.1 ++ [s.2], []) else (s.1, s.2 ++ [c])
def splAt (p : Nat) : List (List UInt8) × List UInt8 := (wordsL.take p).foldl spl ([], [])
theorem spl_end : (splAt 175).1 ++ [(splAt 175).2] = namesL := by decide +kernel
theorem splAt_succ (p : Nat) (h : p < wordsL.length) : splAt (p + 1) = spl (splAt p) wordsL[p] := by
  unfold splAt
  rw [List.take_succ_eq_append_getElem h, List.foldl_append]
  rfl
theorem words_ascii : ∀ c ∈ wordsL, c.toNat < 128 := by decide +kernel
theorem words_size : wordsB.size = 175 := by decide +kernel
theorem encode_byte : ∀ k : Fin 128, Utf8.encode ((k.val : Nat) : Int) = ⟨#[UInt8.ofNat k.val]⟩ := by decide +kernel
theorem encode_small (c : UInt8) (h : c.toNat < 128) : Utf8.encode (c.toNat : Int) = bs [c] := by
  have := encode_byte ⟨c.toNat, h⟩
  simpa [bs] using this
theorem splAt_len : ∀ p : Fin 176, (splAt p.val).1.length ≤ 60 ∧ (splAt p.val).2.length ≤ 60 := by decide +kernel
theorem bs_size (l : List UInt8) : (bs l).size = l.length := by simp [bs, ByteArray.size]

theorem info_string : (Try.prog.info? 9).map (fun i => (i.zero, i.size, i.bytes)) = some (some (.string ByteArray.empty), 1, 16) := by kernel_rfl

theorem own_iter {w : World} {base : Nat} {e : TypeId} {size : Nat} {v : Value} {n : Nat} {xs : List Value} (h : w.ownsRow base e size v n xs) {k : Nat} {s : ByteArray} {q : Nat} (hk : w.heap[k]? = some (.stringIter s q)) (p : Nat) : (w.iterAt k s p).ownsRow base e size v n xs := by
  obtain ⟨h1, h2⟩ := h
  refine ⟨h1, ?_⟩
  rcases h2 with h2 | ⟨g, cap, cur, a, b, c, d⟩
  · exact .inl h2
  · have hne : g ≠ k := by rintro rfl; rw [hk] at c; cases c
    exact .inr ⟨g, cap, cur, a, b, by rw [Lib.iterAt_other _ _ _ _ _ hne]; exact c, d⟩
theorem own_ne_iter {w : World} {base : Nat} {e : TypeId} {size : Nat} {v : Value} {n : Nat} {xs : List Value} (h : w.ownsRow base e size v n xs) {k : Nat} {s : ByteArray} {q : Nat} (hk : w.heap[k]? = some (.stringIter s q)) : some k ≠ v.ownBlock := by
  rcases h.2 with ⟨rfl, _⟩ | ⟨g, cap, cur, rfl, b, c, d⟩
  · simp [Value.ownBlock]
  · intro he
    have : g = k := by simpa [Value.ownBlock] using he.symm
    subst this
    rw [hk] at c
    cases c

def rowOf (s : List (List UInt8) × List UInt8) : List Value := (s.1 ++ [s.2]).map fun l => .string (bs l)
theorem rowOf_len (s : List (List UInt8) × List UInt8) : (rowOf s).length = s.1.length + 1 := by simp [rowOf]
theorem rowOf_last (s : List (List UInt8) × List UInt8) : (rowOf s)[s.1.length]? = some (.string (bs s.2)) := by simp [rowOf]
theorem rowOf_set (s : List (List UInt8) × List UInt8) (t : List UInt8) : (rowOf s).set s.1.length (.string (bs t)) = rowOf (s.1, t) := by
  simp [rowOf]

theorem iter0 (w : World) : ((w.alloc (.cells #[.string ⟨#[]⟩] 9)).iter wordsB 0).heap[w.heap.size + 1]? = some (.stringIter wordsB 0) := by
  have := World.iter_heap (w.alloc (.cells #[.string ⟨#[]⟩] 9)) wordsB 0
  simpa using this
theorem own_fin {wr : World} {B : Nat} {v : Value} (h : wr.ownsRow B 9 1 v ((splAt 175).1.length + 1) (rowOf (splAt 175))) : wr.ownsRow B 9 1 v nNames (namesL.map fun l => .string (bs l)) := by
  have h1 : rowOf (splAt 175) = namesL.map fun l => .string (bs l) := by unfold rowOf; rw [spl_end]
  have h2 : (splAt 175).1.length + 1 = nNames := by decide +kernel
  rw [h1, h2] at h
  exact h
theorem own_iter0 (w : World) : ((w.alloc (.cells #[.string ⟨#[]⟩] 9)).iter wordsB 0).ownsRow w.heap.size 9 1 (.slice (some ⟨w.heap.size, 0, none⟩) 1 1) ((splAt 0).1.length + 1) (rowOf (splAt 0)) := by
  refine ⟨rfl, .inr ⟨w.heap.size, 1, #[.string ⟨#[]⟩], rfl, Nat.le_refl _, ?_, Nat.le_refl _, by unfold maxLen; omega, rfl, rfl⟩⟩
  show ((w.heap.push _).push _)[w.heap.size]? = _
  rw [Array.getElem?_push, Array.getElem?_push]
  simp

set_option maxRecDepth 1000000 in
set_option maxHeartbeats 400000 in
theorem all_any (w : World) :
    Calls Try.prog 73 #[] w fun e w' => ∃ v, e = .returned v ∧ w'.ownsRow w.heap.size 9 1 v nNames (namesL.map fun l => .string (bs l)) ∧ Below w.heap.size w w' := by
  obtain ⟨i0, hi, hz0, hz1, hz2⟩ := info_parts info_string
  go_enter Try.func73, Try.ntmps73
  go_wp2
  go_loopw [1] (fun v wr => ∃ (pos : Nat), wr.heap[w.heap.size + 1]? = some (.stringIter wordsB pos) ∧ wr.ownsRow w.heap.size 9 1 v ((splAt pos).1.length + 1) (rowOf (splAt pos)) ∧ Below w.heap.size w wr ∧ pos ≤ 175) (fun _ wr => 175 - wr.iterPos (w.heap.size + 1))
  case atStart => exact ⟨0, iter0 w, own_iter0 w, ((Below.refl _ _).alloc (Nat.le_refl _) _).alloc (by simp) _, by omega⟩
  case round =>
    obtain ⟨pos, hit, hown, hbw, hle⟩ := hrel
    have hpos0 := iterPos_of hit
    by_cases hp : pos < 175
    · have hpl : pos < wordsL.length := hp
      have hpb : pos < wordsB.size := by rw [words_size]; exact hp
      obtain ⟨c, hc⟩ : ∃ c, wordsL[pos] = c := ⟨_, rfl⟩
      have hcb : wordsB[pos]'hpb = c := hc
      have ha : c.toNat < 128 := by rw [← hc]; exact words_ascii _ (List.getElem_mem hpl)
      have hnx0 : ∀ ty, (Instr.next (.pointer (some ⟨w.heap.size + 1, 0, none⟩)) true ty).run Try.prog wr = .ok (.tuple #[.bool true, .int .i64 pos, .int .i32 (c.toNat : Int)]) (wr.iterAt (w.heap.size + 1) wordsB (pos + 1)) := by
        intro ty
        rw [Lib.run_next_ascii_at wr (w.heap.size + 1) wordsB pos ty hit hpb (by rw [hcb]; exact ha), hcb]
      have hit2 := Lib.iterAt_heap wr (w.heap.size + 1) wordsB pos (pos + 1) hit
      have hbw2 := Lib.below_iterAt hbw (k := w.heap.size + 1) (by omega) wordsB (pos + 1)
      have hown2 := own_iter hown hit (pos + 1)
      obtain ⟨W1, hW1⟩ : ∃ W1, wr.iterAt (w.heap.size + 1) wordsB (pos + 1) = W1 := ⟨_, rfl⟩
      rw [hW1] at hit2 hbw2 hown2
      have hnx : ∀ ty, (Instr.next (.pointer (some ⟨w.heap.size + 1, 0, none⟩)) true ty).run Try.prog wr = .ok (.tuple #[.bool true, .int .i64 pos, .int .i32 (c.toNat : Int)]) W1 := fun ty => by rw [hnx0 ty, hW1]
      have HS : Hid (splAt (pos + 1) = spl (splAt pos) c) := by rw [← hc]; exact splAt_succ pos hpl
      obtain ⟨hsl, hsl2⟩ : (splAt pos).1.length ≤ 60 ∧ (splAt pos).2.length ≤ 60 := splAt_len ⟨pos, by omega⟩
      have HP : Hid (wr.iterPos (w.heap.size + 1) = pos) := hpos0
      have hit3 : Hid (W1.heap[w.heap.size + 1]? = some (.stringIter wordsB (pos + 1))) := hit2
      have hBlt : w.heap.size + 1 < W1.heap.size := (Array.getElem?_eq_some_iff.1 hit2).1
      clear hW1 hit hown hbw hnx0 hcb hc hpos0 hit2
      generalize splAt pos = S at *
      by_cases h32 : c = 32
      · subst h32
        have htest : (((32 : UInt8).toNat : Int) == 32) = true := rfl
        go_wp2_with (first
          | (at_builtin; refine wpList_append_own _ rfl _ _ 85 rfl w.heap.size 9 i0 (.string ByteArray.empty) 1 16 Try.underlying85 hi hz0 hz1 hz2 rfl (by decide) _ _ _ rfl (hown2.alloc _) ⟨W1.heap.size, 0, none⟩ 1 1 [.string ⟨#[]⟩] rfl rfl (cell_one_new _ _ _) (fun x hx => by simp at hx; subst hx; rfl) (by unfold maxLen; omega) (by omega) (by simp; omega) ?_; intro v' w3 hown' hgrow3 hnil3
             have X : Hid (w3.ownsRow w.heap.size 9 1 v' (S.1.length + 1 + 1) (rowOf S ++ [.string ⟨#[]⟩]) ∧ w3.heap[w.heap.size + 1]? = some (.stringIter wordsB (pos + 1)) ∧ Below w.heap.size w w3) := ⟨hown', by
                 rw [hgrow3.block (w.heap.size + 1) (by simp; omega) (own_ne_iter hown2 hit3.out), Below.heap_alloc _ _ _ hBlt]; exact hit3.out, Below.grown (hbw2.alloc (by omega) _) hgrow3 (by simp; omega) (fun j hj => (hown2.lt _ hj).1)⟩
             clear hown' hgrow3 hnil3))
        go_roundw
        case rel =>
          refine ⟨pos + 1, X.out.2.1, ?_, X.out.2.2, by omega⟩
          rw [HS.out]
          have := X.out.1
          simpa [spl, rowOf, bs] using this
        case measure =>
          rw [iterPos_of X.out.2.1, HP.out]
          omega
      · have htest : (((c.toNat : Nat) : Int) == 32) = false := by
          rw [beq_eq_false_iff_ne]
          intro h
          exact h32 (UInt8.toNat_inj.1 (by simpa using (by omega : c.toNat = 32)))
        rcases hown2.2 with ⟨_, hn0⟩ | ⟨g, cap, cur, rfl, hg, hh, hncap, hcapm, hcs, htk⟩
        · omega
        · have hcell : W1.cell? ⟨g, S.1.length, none⟩ = some (.string (bs S.2)) := (hown2.cellAt S.1.length (by omega)).trans (rowOf_last S)
          have hfr : W1.frozen? ⟨g, S.1.length, none⟩ = false := hown2.frozenAt _
          have hne : g ≠ w.heap.size + 1 := by
            intro h; subst h
            have := hit3.out
            rw [this] at hh
            cases hh
          unfold maxLen at hcapm
          have HC : Hid (¬ c = 32) := h32
          clear htk hcs hh hpl hpb h32 hi hz0 hz1 hz2
          have HO := Lib.hid hown2
          clear hown2
          obtain ⟨n, hn⟩ : ∃ n, S.1.length = n := ⟨_, rfl⟩
          rw [hn] at hcell hfr hncap hsl
          rw [hn]
          have HN := Lib.hid hn
          clear hn
          obtain ⟨x, hx⟩ : ∃ x, bs S.2 = x := ⟨_, rfl⟩
          rw [hx] at hcell
          have HX := Lib.hid hx
          clear hx
          have hcv : ∀ w : World, (convert 21 9 (.int .i32 (c.toNat : Int))).run Try.prog w = .ok (.string (bs [c])) w := by
            intro w
            rw [run_convert_int_string w _ _ _ _ (by kernel_rfl) Try.underlying9, encode_small c ha]
          obtain ⟨z, hz⟩ : ∃ z : Int, ((c.toNat : Nat) : Int) = z := ⟨_, rfl⟩
          rw [hz] at hcv hnx htest
          clear hz ha
          obtain ⟨y, hy⟩ : ∃ x, bs [c] = x := ⟨_, rfl⟩
          rw [hy] at hcv
          have hxs : x.size ≤ 60 := by rw [← HX.out, bs_size]; exact hsl2
          have hys : y.size ≤ 1 := by rw [← hy, bs_size]; simp
          have HY := Lib.hid hy
          clear hy hsl2
          go_wp2
          go_roundw
          case rel =>
            refine ⟨pos + 1, ?_, ?_, ?_, by omega⟩
            · rw [heap_setCell_other W1 _ _ _ (by exact fun h => hne h.symm)]
              exact hit3.out
            · have h1 := (HO.out.stored S.1.length (.string (bs (S.2 ++ [c])))).1
              rw [rowOf_set] at h1
              rw [HS.out]
              unfold spl
              rw [if_neg HC.out, ← HX.out, ← HY.out, bs_add, ← HN.out]
              exact h1
            · exact hbw2.setCell (by exact hg) _
          case measure =>
            rw [HP.out]
            have : (W1.setCell ⟨g, n, none⟩ (.string (x ++ y))).iterPos (w.heap.size + 1) = pos + 1 := iterPos_of (by rw [heap_setCell_other W1 _ _ _ (by exact fun h => hne h.symm)]; exact hit3.out)
            rw [this]
            omega
    · have hpe : pos = 175 := by omega
      subst hpe
      have hnx : ∀ ty, (Instr.next (.pointer (some ⟨w.heap.size + 1, 0, none⟩)) true ty).run Try.prog wr = .ok (.tuple #[.bool false]) wr := fun ty => Lib.run_next_end_at wr (w.heap.size + 1) wordsB _ ty hit (by rw [words_size]; omega)
      have hfin := own_fin hown
      clear hown hpos0 hit
      go_wp2
      go_ret
      exact ⟨_, rfl, hfin, hbw⟩
end Go.Proofs.Ytnnpgljmfjemnaa
