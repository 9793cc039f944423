/-
  FrameNil: the walk.
-/
import Derived.Test.YtafcggibhmkgkaaFr8
namespace Go.Proofs.Ytafcggibhmkgkaa
open Go.RowKit
set_option linter.unusedSimpArgs false
set_option linter.unusedVariables false
attribute [local go_sem] run_store_cplx
theorem PlainW.keep {w w' : World} {b k l : Nat} {A : Option Addr} {n c : Nat} (h : PlainW w b A n c k l) (hb : Below w.heap.size w w') : PlainW w' b A n c k l := by
  have hbl : b < w.heap.size := World.block_lt_of_cell? _ _ h.c0
  have hll : l < w.heap.size := World.block_lt_of_cell? _ _ h.l0
  exact ⟨(hb.cell hbl).trans h.c0, (hb.cell hbl).trans h.c1, (hb.cell hbl).trans h.c2, (hb.cell hbl).trans h.c3, (hb.cell hbl).trans h.c4, (hb.cell hbl).trans h.c5, (hb.cell hbl).trans h.c6, (hb.cell hbl).trans h.c7, (hb.cell hbl).trans h.c8, (hb.cell hbl).trans h.c9, (hb.cell hbl).trans h.c10, (hb.cell hll).trans h.l0⟩
theorem new_f (b k l : Nat) (f : Int) (w : World) (h : PlainW w b none 0 0 k l) : Calls Try.prog 10 #[progV b, .int .i64 f, .slice none 0 0, npV] w fun e w' => (∃ p, e = .returned (.pointer p) ∧ ((p = none) = ¬ f = 0)) ∧ Below w.heap.size w w' := by
  by_cases hf : f = 0
  · subst hf
    refine (new_zero b k l w h).mono ?_
    rintro e w' ⟨⟨g, rfl⟩, hb⟩
    exact ⟨⟨_, rfl, by simp⟩, hb⟩
  · refine (new_out b f w hf).mono ?_
    rintro e w' ⟨rfl, hb⟩
    exact ⟨⟨_, rfl, by simp [hf]⟩, hb⟩
set_option maxRecDepth 100000 in
set_option maxHeartbeats 4000000 in
theorem frameNil_walk (f n : Int) (w : World) (hf : (Lit.int .i64 f).wf = true) (hn : (Lit.int .i64 n).wf = true) : Calls Try.prog 3 #[.int .i64 f, .int .i64 n] w fun e w' => e = .returned (.bool true) ∧ Below w.heap.size w w' := by
  have hec : ∀ w, (Op.equalIn 9999 25 (.complex .f64 0 0) (.complex .f64 0 0)).run Try.prog w = .ok true w := fun w => by kernel_rfl
  go_enter Try.func3, Try.ntmps3
  go_wp2_with fail
  refine (n_push _).mono ?_
  rintro e w1 ⟨⟨v1, rfl⟩, hb1⟩
  have HB1 := Lib.hid hb1
  clear hb1
  go_wp2_with fail
  refine (n_go _ _).mono ?_
  rintro e w2 ⟨⟨v2, rfl⟩, hb2⟩
  have HB2 := Lib.hid (bl_trans HB1.out HB1.out.size hb2)
  clear hb2
  go_wp2_with fail
  refine (n_defer _ _).mono ?_
  rintro e w3 ⟨⟨v3, rfl⟩, hb3⟩
  have HB3 := Lib.hid (bl_trans HB2.out HB2.out.size hb3)
  clear hb3
  go_wp2_with fail
  refine (n_setslot _ _).mono ?_
  rintro e w4 ⟨⟨v4, rfl⟩, hb4⟩
  have HB4 := Lib.hid (bl_trans HB3.out HB3.out.size hb4)
  clear hb4
  go_wp2_with fail
  refine (n_setresult _ _).mono ?_
  rintro e w5 ⟨⟨v5, rfl⟩, hb5⟩
  have HB5 := Lib.hid (bl_trans HB4.out HB4.out.size hb5)
  clear hb5
  go_wp2_with fail
  refine (n_next _).mono ?_
  rintro e w' ⟨rfl, rfl⟩
  go_wp2_with fail
  refine (plain_any _).mono ?_
  rintro e w6 ⟨b, k, l, rfl, hp, _, _, _, _, hb6⟩
  have HB6 := Lib.hid (bl_trans HB5.out HB5.out.size hb6)
  have cn := Lib.hid (new_zero b k l w6 hp)
  clear hb6 hp
  go_wp2_with fail
  refine cn.out.mono ?_
  rintro e w7 ⟨⟨g, rfl⟩, hb7⟩
  have HB7 := Lib.hid (bl_trans HB6.out HB6.out.size hb7)
  clear hb7 cn
  go_wp2_with fail
  refine (plain_any _).mono ?_
  rintro e w8 ⟨b2, k2, l2, rfl, hp, _, _, _, _, hb8⟩
  have HB8 := Lib.hid (bl_trans HB7.out HB7.out.size hb8)
  have cn := Lib.hid (new_f b2 k2 l2 f w8 hp)
  clear hb8 hp
  go_wp2_with fail
  refine cn.out.mono ?_
  rintro e w9 ⟨⟨p, rfl, hpf⟩, hb9⟩
  have HB9 := Lib.hid (bl_trans HB8.out HB8.out.size hb9)
  obtain ⟨q, hq⟩ : ∃ q : Bool, (f == 0) = q := ⟨_, rfl⟩
  have hpq : p.isSome = q := by
    rw [← hq]
    cases p with
    | none => have : f ≠ 0 := by simpa using hpf
              simp [this]
    | some g => have : f = 0 := by simpa using hpf
                simp [this]
  clear hb9 cn hpf
  go_wp2_with fail
  refine (n_pop _).mono ?_
  rintro e w10 ⟨rfl, hb⟩
  have HB10 := Lib.hid (bl_trans HB9.out HB9.out.size hb)
  clear hb
  go_wp2_with fail
  refine (n_take _ _).mono ?_
  rintro e w' ⟨rfl, rfl⟩
  go_wp2_with fail
  refine (n_high _).mono ?_
  rintro e w' ⟨rfl, rfl⟩
  go_wp2_with fail
  refine (n_slot _ _).mono ?_
  rintro e w11 ⟨rfl, hb⟩
  have HB11 := Lib.hid (bl_trans HB10.out HB10.out.size hb)
  clear hb
  go_wp2_with fail
  refine (n_resultv _ _).mono ?_
  rintro e w12 ⟨rfl, hb⟩
  have HB12 := Lib.hid (bl_trans HB11.out HB11.out.size hb)
  clear hb
  go_wp2_with fail
  refine (n_results _).mono ?_
  rintro e w' ⟨rfl, rfl⟩
  go_wp2_with fail
  refine (n_from _).mono ?_
  rintro e w' ⟨rfl, rfl⟩
  go_wp2_with fail
  refine (n_waits _).mono ?_
  rintro e w' ⟨rfl, rfl⟩
  go_wp2_with fail
  refine (n_func _).mono ?_
  rintro e w' ⟨rfl, rfl⟩
  go_wp2_with fail
  refine (n_pc _).mono ?_
  rintro e w' ⟨rfl, rfl⟩
  go_wp2_with fail
  refine (n_line _).mono ?_
  rintro e w' ⟨rfl, rfl⟩
  go_wp2_with fail
  refine (frame_lives _).mono ?_
  rintro e w13 ⟨rfl, hb⟩
  have HB13 := Lib.hid (bl_trans HB12.out HB12.out.size hb)
  clear hb
  go_wp2_with fail
  go_ret
  exact ⟨rfl, HB13.out⟩
end Go.Proofs.Ytafcggibhmkgkaa
