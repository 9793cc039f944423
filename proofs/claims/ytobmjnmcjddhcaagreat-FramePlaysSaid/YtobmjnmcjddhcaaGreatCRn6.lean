import Derived.Test.YtobmjnmcjddhcaaGreatCB1
set_option linter.unusedSimpArgs false
set_option linter.unusedVariables false
namespace Go.Proofs.YtobmjnmcjddhcaaGreat
open Go.RowKit
def cellsN (x : DNode) : List Value := [.int .i64 x.parent, .int .i64 x.fn, .int .i64 x.line, .int .i64 x.from_, .int .i64 x.args, .int .i64 x.to_, .int .i64 x.resume]
abbrev SlN (w : World) (B : Nat) (A : Option Addr) (n c : Nat) (xs : List DNode) : Prop := SlR 7 56 (RC cellsN) w B A n c xs
theorem sln_of {w : World} {B : Nat} {A : Option Addr} {n c : Nat} {xs : List DNode} (h : SlR 7 56 RNode w B A n c xs) : SlN w B A n c xs := h.imp fun cs x _ hr => hr.1
theorem sln_at {w : World} {B : Nat} {A : Option Addr} {n c : Nat} {xs : List DNode} (h : SlN w B A n c xs) {k : Nat} (hk : k < n) : ∃ b off x, A = some ⟨b, off, none⟩ ∧ b < B ∧ xs[k]? = some x ∧ w.cell? ⟨b, off + k * 7, none⟩ = some (.int .i64 x.parent) ∧ w.cell? ⟨b, off + k * 7 + 1, none⟩ = some (.int .i64 x.fn) ∧ w.cell? ⟨b, off + k * 7 + 2, none⟩ = some (.int .i64 x.line) ∧ w.cell? ⟨b, off + k * 7 + 3, none⟩ = some (.int .i64 x.from_) ∧ w.cell? ⟨b, off + k * 7 + 4, none⟩ = some (.int .i64 x.args) ∧ w.cell? ⟨b, off + k * 7 + 5, none⟩ = some (.int .i64 x.to_) ∧ w.cell? ⟨b, off + k * 7 + 6, none⟩ = some (.int .i64 x.resume) := by
 obtain ⟨b, off, x, cs, hA, hb, hx, _, hc, hr⟩ := h.at_ hk
 unfold RC at hr
 subst hr
 exact ⟨b, off, x, hA, hb, hx, by simpa using hc 0 _ rfl, by simpa [Nat.add_assoc] using hc 1 _ rfl, by simpa [Nat.add_assoc] using hc 2 _ rfl, by simpa [Nat.add_assoc] using hc 3 _ rfl, by simpa [Nat.add_assoc] using hc 4 _ rfl, by simpa [Nat.add_assoc] using hc 5 _ rfl, by simpa [Nat.add_assoc] using hc 6 _ rfl⟩
theorem SlN.on {w w' : World} {A : Option Addr} {n c : Nat} {xs : List DNode} (h : SlN w w.heap.size A n c xs) (hb : Below w.heap.size w w') : SlN w' w'.heap.size A n c xs := (SlR.keep (stable_rc _) h fun p hp => hb.cell hp).more hb.size
end Go.Proofs.YtobmjnmcjddhcaaGreat
