import Derived.Test.YtobmjnmcjddhcaaGreatCGs9
set_option linter.unusedSimpArgs false
set_option linter.unusedVariables false
namespace Go.Proofs.YtobmjnmcjddhcaaGreat
open Go.RowKit
structure FR where
 s : ByteArray
 b : Bool
 A0 : Option Addr
 n0 : Nat
 c0 : Nat
 A1 : Option Addr
 n1 : Nat
 c1 : Nat
 A2 : Option Addr
 n2 : Nat
 c2 : Nat
 A3 : Option Addr
 n3 : Nat
 c3 : Nat
 A4 : Option Addr
 n4 : Nat
 c4 : Nat
 A5 : Option Addr
 n5 : Nat
 c5 : Nat
 A6 : Option Addr
 n6 : Nat
 c6 : Nat
 A7 : Option Addr
 n7 : Nat
 c7 : Nat
 A8 : Option Addr
 n8 : Nat
 c8 : Nat
abbrev FnV (w : World) (B : Nat) (V : FR) (x : DFunc) : Prop := FnW w B V.s V.b V.A0 V.n0 V.c0 V.A1 V.n1 V.c1 V.A2 V.n2 V.c2 V.A3 V.n3 V.c3 V.A4 V.n4 V.c4 V.A5 V.n5 V.c5 V.A6 V.n6 V.c6 V.A7 V.n7 V.c7 V.A8 V.n8 V.c8 x
structure QB (W : World) (g : Nat) (V : FR) : Prop where
 e0 : W.cell? ⟨g, 0, none⟩ = some (.string V.s)
 e1 : W.cell? ⟨g, 1, none⟩ = some (.bool V.b)
 e2 : W.cell? ⟨g, 2, none⟩ = some (.slice V.A0 V.n0 V.c0)
 e3 : W.cell? ⟨g, 3, none⟩ = some (.slice V.A1 V.n1 V.c1)
 e4 : W.cell? ⟨g, 4, none⟩ = some (.slice V.A2 V.n2 V.c2)
 e5 : W.cell? ⟨g, 5, none⟩ = some (.slice V.A3 V.n3 V.c3)
 e6 : W.cell? ⟨g, 6, none⟩ = some (.slice V.A4 V.n4 V.c4)
 e7 : W.cell? ⟨g, 7, none⟩ = some (.slice V.A5 V.n5 V.c5)
 e8 : W.cell? ⟨g, 8, none⟩ = some (.slice V.A6 V.n6 V.c6)
 e9 : W.cell? ⟨g, 9, none⟩ = some (.slice V.A7 V.n7 V.c7)
 e10 : W.cell? ⟨g, 10, none⟩ = some (.slice V.A8 V.n8 V.c8)
structure QE (W : World) (b o : Nat) (V : FR) : Prop where
 e0 : W.cell? ⟨b, o, none⟩ = some (.string V.s)
 e1 : W.cell? ⟨b, o + 1, none⟩ = some (.bool V.b)
 e2 : W.cell? ⟨b, o + 2, none⟩ = some (.slice V.A0 V.n0 V.c0)
 e3 : W.cell? ⟨b, o + 3, none⟩ = some (.slice V.A1 V.n1 V.c1)
 e4 : W.cell? ⟨b, o + 4, none⟩ = some (.slice V.A2 V.n2 V.c2)
 e5 : W.cell? ⟨b, o + 5, none⟩ = some (.slice V.A3 V.n3 V.c3)
 e6 : W.cell? ⟨b, o + 6, none⟩ = some (.slice V.A4 V.n4 V.c4)
 e7 : W.cell? ⟨b, o + 7, none⟩ = some (.slice V.A5 V.n5 V.c5)
 e8 : W.cell? ⟨b, o + 8, none⟩ = some (.slice V.A6 V.n6 V.c6)
 e9 : W.cell? ⟨b, o + 9, none⟩ = some (.slice V.A7 V.n7 V.c7)
 e10 : W.cell? ⟨b, o + 10, none⟩ = some (.slice V.A8 V.n8 V.c8)
theorem QB.new (w : World) (V : FR) {W : World} (hW : Below (w.alloc (.cells #[.string V.s, .bool V.b, .slice V.A0 V.n0 V.c0, .slice V.A1 V.n1 V.c1, .slice V.A2 V.n2 V.c2, .slice V.A3 V.n3 V.c3, .slice V.A4 V.n4 V.c4, .slice V.A5 V.n5 V.c5, .slice V.A6 V.n6 V.c6, .slice V.A7 V.n7 V.c7, .slice V.A8 V.n8 V.c8] 38)).heap.size (w.alloc (.cells #[.string V.s, .bool V.b, .slice V.A0 V.n0 V.c0, .slice V.A1 V.n1 V.c1, .slice V.A2 V.n2 V.c2, .slice V.A3 V.n3 V.c3, .slice V.A4 V.n4 V.c4, .slice V.A5 V.n5 V.c5, .slice V.A6 V.n6 V.c6, .slice V.A7 V.n7 V.c7, .slice V.A8 V.n8 V.c8] 38)) W) : QB W w.heap.size V := by
 have h := (Cells.new w [.string V.s, .bool V.b, .slice V.A0 V.n0 V.c0, .slice V.A1 V.n1 V.c1, .slice V.A2 V.n2 V.c2, .slice V.A3 V.n3 V.c3, .slice V.A4 V.n4 V.c4, .slice V.A5 V.n5 V.c5, .slice V.A6 V.n6 V.c6, .slice V.A7 V.n7 V.c7, .slice V.A8 V.n8 V.c8] 38).on hW
 exact ⟨h.at_ 0 _ rfl, h.at_ 1 _ rfl, h.at_ 2 _ rfl, h.at_ 3 _ rfl, h.at_ 4 _ rfl, h.at_ 5 _ rfl, h.at_ 6 _ rfl, h.at_ 7 _ rfl, h.at_ 8 _ rfl, h.at_ 9 _ rfl, h.at_ 10 _ rfl⟩
theorem QB.of {W : World} {g : Nat} {V : FR} (h : Cells W g [.string V.s, .bool V.b, .slice V.A0 V.n0 V.c0, .slice V.A1 V.n1 V.c1, .slice V.A2 V.n2 V.c2, .slice V.A3 V.n3 V.c3, .slice V.A4 V.n4 V.c4, .slice V.A5 V.n5 V.c5, .slice V.A6 V.n6 V.c6, .slice V.A7 V.n7 V.c7, .slice V.A8 V.n8 V.c8]) : QB W g V := ⟨h.at_ 0 _ rfl, h.at_ 1 _ rfl, h.at_ 2 _ rfl, h.at_ 3 _ rfl, h.at_ 4 _ rfl, h.at_ 5 _ rfl, h.at_ 6 _ rfl, h.at_ 7 _ rfl, h.at_ 8 _ rfl, h.at_ 9 _ rfl, h.at_ 10 _ rfl⟩
structure PgO (w : World) (FA : Option Addr) (fn fc : Nat) (fs : List DFunc) : Prop where
 ex : ∃ B, B ≤ w.heap.size ∧ SlR 11 240 RFunc w B FA fn fc fs
 sm : ∀ x ∈ fs, smallF x = true
 le : fn ≤ 50
theorem PgO.on {w w' : World} {FA : Option Addr} {fn fc : Nat} {fs : List DFunc} (h : PgO w FA fn fc fs) (hb : Below w.heap.size w w') : PgO w' FA fn fc fs := by
 obtain ⟨B, hB, hr⟩ := h.ex
 exact ⟨⟨B, Nat.le_trans hB hb.size, SlR.keep stable_Func hr fun p hp => hb.cell (Nat.lt_of_lt_of_le hp hB)⟩, h.sm, h.le⟩
theorem PgO.len {w : World} {FA : Option Addr} {fn fc : Nat} {fs : List DFunc} (h : PgO w FA fn fc fs) : fs.length = fn := h.ex.elim fun _ hr => hr.2.1
theorem PgO.at_ {w : World} {FA : Option Addr} {fn fc : Nat} {fs : List DFunc} (h : PgO w FA fn fc fs) {i : Nat} (hi : i < fn) :
  ∃ b off V x, FA = some ⟨b, off, none⟩ ∧ b < w.heap.size ∧ fs[i]? = some x ∧ QE w b (off + i * 11) V ∧ FnV w w.heap.size V x ∧ V.s = x.name ∧ V.b = x.inner := by
 obtain ⟨B, hB, hrd⟩ := h.ex
 obtain ⟨b, off, x, cs, hA, hb, hx, hl, hc, hr⟩ := SlR.at_ hrd hi
 obtain ⟨A0, n0, c0, A1, n1, c1, A2, n2, c2, A3, n3, c3, A4, n4, c4, A5, n5, c5, A6, n6, c6, A7, n7, c7, A8, n8, c8, rfl, z, r0, r1, r2, r3, r4, r5, r6, r7, r8⟩ := hr
 have hcell : ∀ (j : Nat) (u : Value), [Value.string x.name, .bool x.inner, .slice A0 n0 c0, .slice A1 n1 c1, .slice A2 n2 c2, .slice A3 n3 c3, .slice A4 n4 c4, .slice A5 n5 c5, .slice A6 n6 c6, .slice A7 n7 c7, .slice A8 n8 c8][j]? = some u → w.cell? ⟨b, off + i * 11 + j, none⟩ = some u := fun j u hj => by
  have := hc j u hj
  simpa [Nat.add_assoc] using this
 have hsm := h.sm x (List.mem_of_getElem? hx)
 unfold smallF smallB at hsm
 rw [r0.1, r1.1, r2.1, r3.1, r4.1, r5.1, r6.1, r7.1, r8.1] at hsm
 simp only [Bool.and_eq_true, decide_eq_true_eq] at hsm
 refine ⟨b, off, ⟨x.name, x.inner, A0, n0, c0, A1, n1, c1, A2, n2, c2, A3, n3, c3, A4, n4, c4, A5, n5, c5, A6, n6, c6, A7, n7, c7, A8, n8, c8⟩, x, hA, Nat.lt_of_lt_of_le hb hB, hx, ⟨hcell 0 _ rfl, hcell 1 _ rfl, hcell 2 _ rfl, hcell 3 _ rfl, hcell 4 _ rfl, hcell 5 _ rfl, hcell 6 _ rfl, hcell 7 _ rfl, hcell 8 _ rfl, hcell 9 _ rfl, hcell 10 _ rfl⟩, FnW.more ⟨by show x.name.size ≤ _; unfold reachBytes at z; omega, sli_of r0, sli_of r1, sli_of r2, sli_of r3, slc_of r4, sli_of r5, sln_of r6, sli_of r7, sls4_of r8, hsm⟩ hB, rfl, rfl⟩
end Go.Proofs.YtobmjnmcjddhcaaGreat
