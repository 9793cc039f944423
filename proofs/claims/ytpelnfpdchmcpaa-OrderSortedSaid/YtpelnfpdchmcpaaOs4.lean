/-
  Circles, of one thing that leads nowhere: who belongs to it, whether it comes back, its order.
-/
import Derived.Test.YtpelnfpdchmcpaaOs3
import Derived.ScopeJumps
namespace Go.Proofs.Ytpelnfpdchmcpaa
open Go.RowKit
set_option linter.unusedSimpArgs false
set_option linter.unusedVariables false
theorem int_src (w : World) (v : Int) : SrcCells (w.alloc (.cells #[.int .i64 v] 3)) (some ⟨w.heap.size, 0, none⟩) 1 1 [.int .i64 v] := row_src w #[.int .i64 v] 3 1 rfl
set_option maxRecDepth 100000 in
set_option maxHeartbeats 2000000 in
theorem members_one (b : Nat) (w : World) (hb : Cells w b [.slice none 0 0]) :
    Calls Try.prog 22 #[.slice (some ⟨b, 0, none⟩) 1 1, .int .i64 0] w fun e W' => ∃ A c, e = .returned (.slice A 1 c) ∧ Below w.heap.size w W' := by
  obtain ⟨i0, hi, hz0, hz1, hz2⟩ := info_parts info_int
  have cI := Lib.hid (is_zero b 1 w)
  have cL := Lib.hid (least_one b w hb)
  clear hb
  go_enter Try.func22, Try.ntmps22
  go_wp2_with fail
  refine cI.out.mono ?_
  rintro e w' ⟨rfl, rfl⟩
  go_wp2_with fail
  refine cL.out.mono ?_
  rintro e w1 ⟨h, rfl, hc, _, hb1⟩
  have h0 := hc.at_ 0 _ rfl
  have HB1 := Lib.hid hb1
  have hsrc := Lib.hid (int_src w1 0)
  clear hc hb1 cL cI
  go_wp2_with fail
  refine wp_loop_rounds 2 ?_
  rw [rounds_succ]
  go_wp2_with (first
    | (at_builtin; go_must (refine wpList_append_src _ rfl _ _ 26 rfl w1.heap.size 3 i0 (.int .i64 0) 1 8 Try.underlying26 hi hz0 hz1 hz2 rfl (by decide) (.slice none 0 0) 0 [] rfl ⟨rfl, .inl ⟨rfl, rfl⟩⟩ (some ⟨w1.heap.size, 0, none⟩) 1 1 [.int .i64 0] rfl hsrc.out (fun u hu => by simp at hu; subst hu; rfl) (by unfold maxLen; omega) (by omega) (by simp) ?_)
       intro v' w3 hown' hgrow3 hat3
       have X : Hid (∃ A c, v' = .slice A 1 c ∧ Below w1.heap.size w1 w3) := Lib.hid (by
         obtain ⟨A', c', rfl, _⟩ := own_form hown'
         exact ⟨A', c', rfl, Below.grown (bl_one _) hgrow3 (by simp) (fun j hj => by simp [Value.ownBlock] at hj)⟩)
       obtain ⟨A', c', rfl, X1⟩ := X.out
       have HB3 := Lib.hid X1
       clear X X1 hown' hgrow3 hat3)
    | fail)
  rw [rounds_succ]
  go_wp2_with fail
  go_ret
  exact ⟨A', c', rfl, HB1.out.trans (HB3.out.mono HB1.out.size)⟩
set_option maxRecDepth 100000 in
theorem circle_one (b : Nat) (w : World) (hb : Cells w b [.slice none 0 0]) :
    Calls Try.prog 14 #[.slice (some ⟨b, 0, none⟩) 1 1, .int .i64 0] w fun e W' => e = .returned (.bool false) ∧ Below w.heap.size w W' := by
  have cI := Lib.hid (is_zero b 1 w)
  have cM := Lib.hid (members_one b w hb)
  have HC := Lib.hid hb
  clear hb
  go_enter Try.func14, Try.ntmps14
  go_wp2_with fail
  refine cI.out.mono ?_
  rintro e w' ⟨rfl, rfl⟩
  go_wp2_with fail
  refine cM.out.mono ?_
  rintro e w1 ⟨A, c, rfl, hb1⟩
  have b0 := (HC.out.on hb1).at_ 0 _ rfl
  have cN := Lib.hid (contains_nil w1)
  go_wp2_with fail
  refine cN.out.mono ?_
  rintro e w' ⟨rfl, rfl⟩
  go_wp2_with fail
  go_ret
  exact ⟨rfl, hb1⟩
set_option maxRecDepth 100000 in
theorem free_one (b h d : Nat) (w : World) (hb : Cells w b [.slice none 0 0]) (hh : Cells w h [.int .i64 0]) :
    Calls Try.prog 25 #[.slice (some ⟨b, 0, none⟩) 1 1, .slice (some ⟨h, 0, none⟩) 1 1, .slice (some ⟨d, 0, none⟩) 1 1, .int .i64 0] w fun e W' => e = .returned (.bool true) ∧ w = W' := by
  have b0 := hb.at_ 0 _ rfl
  have h0 := hh.at_ 0 _ rfl
  go_enter Try.func25, Try.ntmps25
  go_wp2_with fail
  refine wp_loop_rounds 2 ?_
  rw [rounds_succ]
  go_wp2_with fail
  refine wp_loop_rounds 1 ?_
  rw [rounds_succ]
  go_wp2_with fail
  rw [rounds_succ]
  go_wp2_with fail
  go_ret
  exact ⟨rfl, rfl⟩
set_option maxRecDepth 100000 in
set_option maxHeartbeats 4000000 in
theorem order_one (b : Nat) (w : World) (hb : Cells w b [.slice none 0 0]) :
    Calls Try.prog 15 #[.slice (some ⟨b, 0, none⟩) 1 1] w fun e W' => ∃ A c, e = .returned (.slice A 1 c) ∧ Below w.heap.size w W' := by
  obtain ⟨i0, hi, hz0, hz1, hz2⟩ := info_parts info_int
  have hmk : ∀ W, (Instr.makeSlice 60 (.int .i64 1) (.int .i64 1)).run Try.prog W = .ok (.slice (some ⟨W.heap.size, 0, none⟩) 1 1) (W.alloc (.cells #[.bool false] 4)) := fun W => by kernel_rfl
  have cL := Lib.hid (least_one b w hb)
  have HC := Lib.hid hb
  clear hb
  go_enter Try.func15, Try.ntmps15
  go_wp2_with fail
  refine wp_scope_jumps 0 (fun a' w' => ∃ (h d : Nat), ((fun a' w' => ∃ (A : Option Addr) (c : Nat) (u1 u2 u6 u7 u8 u9 u10 u11 u12 u13 u14 u15 u16 u17 u18 u19 u20 u21 u22 u23 u24 u25 u26 u27 u28 u29 u30 u31 u32 u33 u34 u35 u36 u37 u38 u39 u40 u41 u42 u43 u44 u45 : Value), a' = { tmps := #[.slice (some ⟨b, 0, none⟩) 1 1, u1, u2, .slice A 1 c, .slice (some ⟨h, 0, none⟩) 1 1, .slice (some ⟨d, 0, none⟩) 1 1, u6, u7, u8, u9, u10, u11, u12, u13, u14, u15, u16, u17, u18, u19, u20, u21, u22, u23, u24, u25, u26, u27, u28, u29, u30, u31, u32, u33, u34, u35, u36, u37, u38, u39, u40, u41, u42, u43, u44, u45], defers := [] } ∧ Hid (Cells w' d [.bool true] ∧ Cells w' h [.int .i64 0] ∧ Cells w' b [.slice none 0 0] ∧ Below w.heap.size w w'))) a' w') (fun _ _ => 0) rfl ?_ ?_
  · go_wp2_with fail
    refine cL.out.mono ?_
    rintro e w1 ⟨h, rfl, hc, hh1, hb1⟩
    have HH := Lib.hid hc
    have HB1 := Lib.hid hb1
    have HH1 := Lib.hid hh1
    clear hc hb1 hh1 cL
    go_wp2_with fail
    go_step3
    go_wp2_with fail
    obtain ⟨d, hd⟩ : ∃ d, w1.heap.size = d := ⟨_, rfl⟩
    obtain ⟨w2, hw2⟩ : ∃ X, w1.alloc (.cells #[.bool false] 4) = X := ⟨_, rfl⟩
    have hdc : Cells w2 d [.bool false] := by rw [← hw2, ← hd]; exact Cells.new w1 [.bool false] _
    have hb2 : Below w1.heap.size w1 w2 := by rw [← hw2]; exact bl_one _
    have hhd : ¬ h = d := by have := HH.out.lt; omega
    have hbd : ¬ b = d := by have := HC.out.lt; have := HB1.out.size; omega
    have HC2 : Hid (Cells w2 b [.slice none 0 0]) := Lib.hid ((HC.out.kp (Kp.belowOf HB1.out) (by have := HC.out.lt; omega)).on hb2)
    have HH2 : Hid (Cells w2 h [.int .i64 0]) := Lib.hid (HH.out.on hb2)
    have HD2 := Lib.hid hdc
    have HB2 : Hid (Below w.heap.size w w2) := Lib.hid (HB1.out.trans (hb2.mono HB1.out.size))
    have HL2 : Hid (w.heap.size ≤ d ∧ w.heap.size ≤ w2.heap.size) := Lib.hid ⟨by have := HB1.out.size; omega, HB2.out.size⟩
    rw [hw2, hd]
    clear hw2 hd hdc hb2
    have h0 := HH2.out.at_ 0 _ rfl
    have d0 := HD2.out.at_ 0 _ rfl
    have df := HD2.out.fz 0 (by simp)
    have cF := Lib.hid (free_one b h d w2 HC2.out HH2.out)
    refine wp_loop_rounds 2 ?_
    rw [rounds_succ]
    go_wp2_with fail
    refine cF.out.mono ?_
    rintro e w' ⟨rfl, rfl⟩
    go_upto_region 9 with fail
    obtain ⟨w3, hw3⟩ : ∃ X, w2.setCell ⟨d, 0, none⟩ (.bool true) = X := ⟨_, rfl⟩
    have hk3 : Kp (fun j => j = d) w2 w3 := by rw [← hw3]; exact kp_set w2 d 0 _
    have HD3 : Hid (Cells w3 d [.bool true]) := Lib.hid (by rw [← hw3]; exact HD2.out.put 0 (by simp) _)
    have HC3 : Hid (Cells w3 b [.slice none 0 0]) := Lib.hid (HC2.out.kp hk3 hbd)
    have HH3 : Hid (Cells w3 h [.int .i64 0]) := Lib.hid (HH2.out.kp hk3 hhd)
    have HB3 : Hid (Below w.heap.size w w3) := Lib.hid (HB2.out.trans (hk3.below HL2.out.2 fun j hj => by have hj' : j = d := hj; have := HL2.out.1; omega))
    rw [hw3]
    clear hw3 hk3 h0 d0 df cF
    have hsrc := Lib.hid (int_src w3 0)
    go_wp2_with (first
      | (at_builtin; go_must (refine wpList_append_src _ rfl _ _ 26 rfl w3.heap.size 3 i0 (.int .i64 0) 1 8 Try.underlying26 hi hz0 hz1 hz2 rfl (by decide) (.slice none 0 0) 0 [] rfl ⟨rfl, .inl ⟨rfl, rfl⟩⟩ (some ⟨w3.heap.size, 0, none⟩) 1 1 [.int .i64 0] rfl hsrc.out (fun u hu => by simp at hu; subst hu; rfl) (by unfold maxLen; omega) (by omega) (by simp) ?_)
         intro v' w4 hown' hgrow3 hat3
         have X : Hid (∃ A c, v' = .slice A 1 c ∧ Below w3.heap.size w3 w4) := Lib.hid (by
           obtain ⟨A', c', rfl, _⟩ := own_form hown'
           exact ⟨A', c', rfl, Below.grown (bl_one _) hgrow3 (by simp) (fun j hj => by simp [Value.ownBlock] at hj)⟩)
         obtain ⟨A', c', rfl, X1⟩ := X.out
         have HB4 := Lib.hid X1
         clear X X1 hown' hgrow3 hat3)
      | fail)
    go_step3
    refine ⟨rfl, h, d, A', c', ?_⟩
    repeat apply Exists.intro
    refine ⟨rfl, Lib.hid ⟨HD3.out.on HB4.out, HH3.out.on HB4.out, HC3.out.on HB4.out, HB3.out.trans (HB4.out.mono HB3.out.size)⟩⟩
  · rintro a2 W2 ⟨h, d, A, c, u1, u2, u6, u7, u8, u9, u10, u11, u12, u13, u14, u15, u16, u17, u18, u19, u20, u21, u22, u23, u24, u25, u26, u27, u28, u29, u30, u31, u32, u33, u34, u35, u36, u37, u38, u39, u40, u41, u42, u43, u44, u45, rfl, HF⟩
    have h0 := HF.out.2.1.at_ 0 _ rfl
    have d0 := HF.out.1.at_ 0 _ rfl
    go_wp2_with fail
    refine wp_loop_rounds 2 ?_
    rw [rounds_succ]
    go_wp2_with fail
    rw [rounds_succ]
    go_wp2_with fail
    simp only [Exit.jump]
    go_ret
    exact ⟨A, c, rfl, HF.out.2.2.2⟩
end Go.Proofs.Ytpelnfpdchmcpaa
