/-
  The flat stack: a round, whatever call it is.
-/
import Derived.Test.YthddhipmmhihlaaSp7a
import Derived.Test.YthddhipmmhihlaaSp7b
import Derived.Test.YthddhipmmhihlaaSp7c
import Derived.Test.YthddhipmmhihlaaSp7d
import Derived.Test.YthddhipmmhihlaaSp7e
import Derived.Test.YthddhipmmhihlaaSp7f
import Derived.Test.YthddhipmmhihlaaSp7g
namespace Go.Proofs.Ythddhipmmhihlaa
open Go.RowKit
theorem step_any (w wr : World) (t n lc : Nat) (lA : Option Addr) (k N M vk vn vr vi : Int) (HS : LT w wr t lA n lc) (ht : t ≤ 300) (wfk : (Lit.int .i64 k).wf = true) (wfN : (Lit.int .i64 N).wf = true) (wfM : (Lit.int .i64 M).wf = true) :
    Calls Try.prog 14 #[.pointer (some ⟨w.heap.size, 0, none⟩), .slice lA n lc, .agg #[.int .i64 k, .int .i64 N, .int .i64 M, .int .i64 vk, .int .i64 vn, .int .i64 vr, .int .i64 vi]] wr (StepTo w t) := by
  by_cases h0 : k.tmod 7 = 0
  · exact step_0 w wr t n lc lA k N M vk vn vr vi HS ht wfk wfN wfM h0
  by_cases h1 : k.tmod 7 = 1
  · exact step_1 w wr t n lc lA k N M vk vn vr vi HS ht wfk wfN wfM h1
  by_cases h2 : k.tmod 7 = 2
  · exact step_2 w wr t n lc lA k N M vk vn vr vi HS ht wfk wfN wfM h2
  by_cases h3 : k.tmod 7 = 3
  · exact step_3 w wr t n lc lA k N M vk vn vr vi HS ht wfk wfN wfM h3
  by_cases h4 : k.tmod 7 = 4
  · exact step_4 w wr t n lc lA k N M vk vn vr vi HS ht wfk wfN wfM h4
  by_cases h5 : k.tmod 7 = 5
  · exact step_5 w wr t n lc lA k N M vk vn vr vi HS ht wfk wfN wfM h5
  exact step_6 w wr t n lc lA k N M vk vn vr vi HS ht wfk wfN wfM ⟨h0, h1, h2, h3, h4, h5⟩
end Go.Proofs.Ythddhipmmhihlaa
