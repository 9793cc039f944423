/-
  Order, the document's: which functions each function takes.
-/
import Derived.Test.YtnfoahcdmaphnaaOt2
import Derived.Test.YtnfoahcdmaphnaaOs6
import Derived.Test.YtnfoahcdmaphnaaHeld
import Derived.OrdersHeld
namespace Go.Proofs.Ytnfoahcdmaphnaa
open Go.RowKit
set_option linter.unusedSimpArgs false
set_option linter.unusedVariables false
theorem upd_self {α : Type} (f : Nat → α) (a : Nat) : upd f a (f a) = f := by
  funext j
  unfold upd
  split
  · rename_i h; rw [h]
  · rfl
/-- What stands while one row is made. -/
structure RoR (base : Nat) (A : Option Addr) (k c : Nat) (V : Vs) (L : Nat → List Int) (A2 : Option Addr) (m c2 : Nat) (l2 : List Int) (w1 W : World) : Prop where
  ro : RoW base A k c V L W
  row : W.ownsRow base 3 1 (.slice A2 m c2) m (rowI l2)
  ap : ∀ b, (Value.slice A2 m c2).ownBlock = some b → (Value.slice A k c).ownBlock ≠ some b ∧ ∀ i, i < k → (svV (V i)).ownBlock ≠ some b
  bw : Below base w1 W
theorem RoR.on {base k c : Nat} {A : Option Addr} {V : Vs} {L : Nat → List Int} {A2 : Option Addr} {m c2 : Nat} {l2 : List Int} {w1 W W' : World} (h : RoR base A k c V L A2 m c2 l2 w1 W) (hb : Below W.heap.size W W') (hB : base ≤ W.heap.size) : RoR base A k c V L A2 m c2 l2 w1 W' :=
  ⟨h.ro.on hb, own_keep h.row hb, h.ap, h.bw.trans (hb.mono hB)⟩
theorem RoR.start {base k c : Nat} {A : Option Addr} {V : Vs} {L : Nat → List Int} {w1 W : World} (h : RoW base A k c V L W) (hb : Below base w1 W) : RoR base A k c V L none 0 0 [] w1 W :=
  ⟨h, ⟨rfl, .inl ⟨rfl, rfl⟩⟩, fun b hb => by simp [Value.ownBlock] at hb, hb⟩
theorem RoR.snoc {base k c : Nat} {A : Option Addr} {V : Vs} {L : Nat → List Int} {A2 : Option Addr} {m c2 : Nat} {l2 : List Int} {w1 W w4 : World} (h : RoR base A k c V L A2 m c2 l2 w1 W) (hB : base ≤ W.heap.size) {x : Int} {v' : Value}
    (hown' : w4.ownsRow base 3 1 v' (m + 1) (rowI l2 ++ [.int .i64 x])) (hgrow : (W.alloc (.cells #[.int .i64 x] 3)).grownBy w4 (Value.slice A2 m c2).ownBlock)
    (hat : v'.ownBlock = (Value.slice A2 m c2).ownBlock ∨ v'.ownBlock = some (W.alloc (.cells #[.int .i64 x] 3)).heap.size) :
    ∃ A' c', v' = .slice A' (m + 1) c' ∧ RoR base A k c V L A' (m + 1) c' (l2 ++ [x]) w1 w4 := by
  obtain ⟨A', c', rfl, X1, X2, _⟩ := app_int h.bw hB h.row hown' hgrow
  have hk : Kp (fun j => (Value.slice A2 m c2).ownBlock = some j) W w4 := ((Kp.refl _ W).alloc _).ofGrown hgrow fun k hk _ => hk
  refine ⟨A', c', rfl, ⟨h.ro.kp hk (fun j hj => h.ap j hj), X1, fun b hb => ?_, X2⟩⟩
  rcases hat with e | e
  · rw [e] at hb
    exact h.ap b hb
  · rw [e] at hb
    have h1 := Option.some.inj hb
    simp at h1
    refine ⟨fun h2 => ?_, fun i hi h2 => ?_⟩
    · have h3 := (h.ro.own.lt b h2).2
      omega
    · have h3 := ((h.ro.ro i hi).lt b h2).2
      omega
theorem one_sv (x : Option Addr × Nat × Nat) : ∀ u ∈ [svV x], u.oneCell' = true := by
  intro u hu
  simp at hu
  subst hu
  rfl
def IsTk (codes : List (List DInstr)) (l : List DSite) (n : Nat) (w : World) (e : Ending) (w' : World) : Prop := ∃ A c, e = .returned (.slice A n c) ∧ GrW w' w'.heap.size A n c (takesU codes l n) ∧ Below w.heap.size w w'
set_option maxRecDepth 100000 in
set_option maxHeartbeats 8000000 in
theorem rtakes_any (FA : Option Addr) (fn fc : Nat) (codes : List (List DInstr)) (SA : Option Addr) (sn sc : Nat) (l : List DSite) (w : World) (h : PgW w w.heap.size FA fn fc codes) (hs : SlS w w.heap.size SA sn sc l) (hfn : fn ≤ 50) (hsn : sn ≤ 100) :
    Calls Try.prog 8 #[.agg #[.slice FA fn fc], .slice SA sn sc] w (IsTk codes l fn w) := by
  obtain ⟨i0, hi, hz0, hz1, hz2⟩ := info_parts info_int
  obtain ⟨j0, hj, hy0, hy1, hy2⟩ := info_parts info_intsl
  have HL : Hid (codes.length = fn) := Lib.hid h.1
  have HSL : Hid (l.length = sn) := Lib.hid hs.1
  obtain ⟨w1, hw1⟩ : ∃ X, w.alloc (.cells #[.slice FA fn fc] 24) = X := ⟨_, rfl⟩
  obtain ⟨g, hg⟩ : ∃ g, w.heap.size = g := ⟨_, rfl⟩
  have hb1 : Below g w w1 := by rw [← hw1, ← hg]; exact bl_one _
  have EQ : Hid (∀ W, Below w1.heap.size w1 W → W.cell? ⟨g, 0, none⟩ = some (.slice FA fn fc)) := Lib.hid fun W hW => (hW.cell (p := ⟨g, 0, none⟩) (by rw [← hw1]; simp; omega)).trans (by rw [← hw1, ← hg]; exact (Cells.new w [.slice FA fn fc] _).at_ 0 _ rfl)
  have HBW : Hid (∀ W, Below w1.heap.size w1 W → Below w.heap.size w W ∧ w.heap.size ≤ W.heap.size) := Lib.hid fun W hW => by
    have h1 := hb1.size
    have h2 : Below w.heap.size w W := by rw [hg]; exact hb1.trans (hW.mono (by omega))
    exact ⟨h2, h2.size⟩
  have HP : Hid (∀ W, Below w1.heap.size w1 W → PgW W w.heap.size FA fn fc codes ∧ w.heap.size ≤ W.heap.size) := Lib.hid fun W hW => ⟨h.keep (HBW.out W hW).1, (HBW.out W hW).2⟩
  have HS : Hid (∀ W, Below w1.heap.size w1 W → SlS W W.heap.size SA sn sc l) := Lib.hid fun W hW => SlS.on hs (HBW.out W hW).1
  have hfb : (fn : Int) ≤ 50 := by omega
  have hsb : (sn : Int) ≤ 100 := by omega
  clear h hs hb1
  go_enter Try.func8, Try.ntmps8
  go_wp2_with fail
  clear hw1 hg
  go_loopw [5, 6] (fun ov f wr => ∃ (k : Nat) (A : Option Addr) (c : Nat) (V : Vs), ov = .slice A k c ∧ f = .int .i64 k ∧ k ≤ fn ∧ Hid (RoW w1.heap.size A k c V (fun i => rowU codes l i fn) wr ∧ Below w1.heap.size w1 wr)) (fun _ f _ => fn - (intOf f).toNat)
  case atStart => exact ⟨0, none, 0, fun _ => (none, 0, 0), rfl, rfl, Nat.zero_le _, Lib.hid ⟨RoW.start _ _ _ _, Below.refl _ _⟩⟩
  case round =>
    obtain ⟨k, A, c, V, rfl, rfl, hk, HK⟩ := hrel
    have q0 := EQ.out wr HK.out.2
    have hk0 : (0 : Int) ≤ (k : Int) := by omega
    by_cases hlt : k < fn
    · have hkn : (k : Int) < (fn : Int) := by omega
      have HR0 : Hid (RoR w1.heap.size A k c V (fun i => rowU codes l i fn) none 0 0 (rowU codes l k 0) w1 wr) := Lib.hid (by rw [rowU_zero]; exact RoR.start HK.out.1 HK.out.2)
      go_wp2_with fail
      clear q0 HK
      go_loopw [7, 8] (fun rv gv wr => ∃ (j : Nat) (A2 : Option Addr) (m c2 : Nat), rv = .slice A2 m c2 ∧ gv = .int .i64 j ∧ j ≤ fn ∧ m ≤ j ∧ Hid (RoR w1.heap.size A k c V (fun i => rowU codes l i fn) A2 m c2 (rowU codes l k j) w1 wr)) (fun _ gv _ => fn - (intOf gv).toNat)
      case atStart => exact ⟨0, none, 0, 0, rfl, rfl, Nat.zero_le _, Nat.le_refl _, HR0⟩
      case round =>
        clear HR0
        obtain ⟨j, A2, m, c2, rfl, rfl, hj', hm, HR⟩ := hrel
        have q0 := EQ.out wr HR.out.bw
        have hj0 : (0 : Int) ≤ (j : Int) := by omega
        by_cases hjl : j < fn
        · have hjn : (j : Int) < (fn : Int) := by omega
          go_wp2_with fail
          clear q0
          go_loopw [9, 10] (fun fv iv wr => ∃ (i : Nat) (fd : Bool), fv = .bool fd ∧ iv = .int .i64 i ∧ i ≤ sn ∧ Hid (RoR w1.heap.size A k c V (fun i => rowU codes l i fn) A2 m c2 (rowU codes l k j) w1 wr ∧ hitS codes (l.take i) k j = fd)) (fun _ iv _ => sn - (intOf iv).toNat)
          case atStart => exact ⟨0, false, rfl, rfl, Nat.zero_le _, Lib.hid ⟨HR.out, by simp [hitS]⟩⟩
          case round =>
            clear HR
            obtain ⟨i, fd, rfl, rfl, hi', HK⟩ := hrel
            have hi0 : (0 : Int) ≤ (i : Int) := by omega
            by_cases hil : i < sn
            · have hin : (i : Int) < (sn : Int) := by omega
              obtain ⟨b, off, x, rfl, hbl, hx, hcx⟩ := (HS.out wr HK.out.1.bw).get hil
              have HX : Hid (∀ W, Below wr.heap.size wr W → W.cell? ⟨b, off + i * 2, none⟩ = some (.int .i64 x.fn) ∧ W.cell? ⟨b, off + i * 2 + 1, none⟩ = some (.int .i64 x.pc)) := Lib.hid hcx
              have HIT : Hid (hitS codes (l.take (i + 1)) k j = (fd || ((targetM codes x.fn x.pc).2 && (x.fn == (k : Int)) && ((targetM codes x.fn x.pc).1 == (j : Int))))) := Lib.hid (by rw [hit_next hx, HK.out.2]; rfl)
              have HBZ : Hid (w1.heap.size ≤ wr.heap.size) := Lib.hid HK.out.1.bw.size
              have EQ2 : Hid (∀ W, Below wr.heap.size wr W → W.cell? ⟨g, 0, none⟩ = some (.slice (FA) fn fc)) := Lib.hid fun W hW => EQ.out W (HK.out.1.bw.trans (hW.mono HBZ.out))
              have cT : Hid (∀ W, Below wr.heap.size wr W → Calls Try.prog 18 #[.agg #[.slice FA fn fc], .agg #[.int .i64 x.fn, .int .i64 x.pc]] W (IsT (targetM codes x.fn x.pc) W)) := Lib.hid fun W hW => by
                have h1 := HP.out W (HK.out.1.bw.trans (hW.mono HBZ.out))
                exact rtarget_any w.heap.size FA fn fc codes x.fn x.pc W h1.1 h1.2
              obtain ⟨tm, htm⟩ : ∃ tm, targetM codes x.fn x.pc = tm := ⟨_, rfl⟩
              rw [htm] at HIT cT
              clear htm hx hcx
              obtain ⟨xf, xp⟩ := x
              obtain ⟨r1, r2⟩ := tm
              dsimp only at HX HIT cT
              go_wp2_with fail
              refine wp_region_held (S := fun W => Below wr.heap.size wr W) (by kernel_rfl) ?_
              change wpAnyH _ _ _ _ _ _ _ _ (World.drew _)
              have hS0 : Below wr.heap.size wr wr.drew := (Below.refl _ _).drew
              refine wpAnyH_take (i := 0) (v := .agg #[.slice FA fn fc]) rfl (by kernel_rfl) (by kernel_rfl) (by kernel_rfl) (fun _ _ _ h => h) (Or.inl ⟨by rfl, by intro W hW; have q0 := EQ2.out W hW; go_simp; try (first | (with_reducible rfl) | omega)⟩) hS0 ?_
              refine wpAnyH_take (i := 1) (v := .slice (some ⟨b, off, none⟩) sn sc) rfl (by kernel_rfl) (by kernel_rfl) (by kernel_rfl) (fun _ _ _ h => h) (Or.inl ⟨by rfl, by intro W hW; go_simp; try (first | (with_reducible rfl) | omega)⟩) hS0 ?_
              refine wpAnyH_take (i := 2) (v := .int .i64 (i : Int)) rfl (by kernel_rfl) (by kernel_rfl) (by kernel_rfl) (fun _ _ _ h => h) (Or.inl ⟨by rfl, by intro W hW; go_simp; try (first | (with_reducible rfl) | omega)⟩) hS0 ?_
              try go_simp
              refine wpAnyH_take (i := 3) (v := .pointer (some ⟨b, off + i * 2, none⟩)) rfl (by kernel_rfl) (by kernel_rfl) (by kernel_rfl) (fun _ _ _ h => h) (Or.inl ⟨by rfl, by intro W hW; go_simp; try (first | (with_reducible rfl) | omega)⟩) hS0 ?_
              refine wpAnyH_take (i := 4) (v := .agg #[.int .i64 xf, .int .i64 xp]) rfl (by kernel_rfl) (by kernel_rfl) (by kernel_rfl) (fun _ _ _ h => h) (Or.inl ⟨by rfl, by intro W hW; obtain ⟨q2, q3⟩ := HX.out W hW; go_simp; try (first | (with_reducible rfl) | omega)⟩) hS0 ?_
              try go_simp
              refine wpAnyH_one (i := 5) (by kernel_rfl) rfl (fun K hK => ?_)
              go_simp
              refine (cT.out _ hS0).mono ?_
              rintro e w3 ⟨rfl, hb3⟩
              have hS1 : Below wr.heap.size wr w3 := hS0.trans (hb3.mono (by simp))
              clear hb3
              go_simp
              refine hK _ _ ⟨hS1, ?_⟩; clear hK K
              refine wpAnyH_take (i := 6) (v := .tuple #[.int .i64 r1, .bool r2]) rfl (by kernel_rfl) (by kernel_rfl) (by kernel_rfl) (fun _ _ _ h => h) (Or.inl ⟨by rfl, by intro W hW; go_simp; try (first | (with_reducible rfl) | omega)⟩) hS1 ?_
              try go_simp
              refine wpAnyH_take (i := 7) (v := .int .i64 r1) rfl (by kernel_rfl) (by kernel_rfl) (by kernel_rfl) (fun _ _ _ h => h) (Or.inl ⟨by rfl, by intro W hW; go_simp; try (first | (with_reducible rfl) | omega)⟩) hS1 ?_
              refine wpAnyH_take (i := 8) (v := .bool r2) rfl (by kernel_rfl) (by kernel_rfl) (by kernel_rfl) (fun _ _ _ h => h) (Or.inl ⟨by rfl, by intro W hW; go_simp; try (first | (with_reducible rfl) | omega)⟩) hS1 ?_
              try go_simp
              refine wpAnyH_take (i := 9) (v := .int .i64 r1) rfl (by kernel_rfl) (by kernel_rfl) (by kernel_rfl) (fun _ _ _ h => h) (Or.inl ⟨by rfl, by intro W hW; go_simp; try (first | (with_reducible rfl) | omega)⟩) hS1 ?_
              refine wpAnyH_take (i := 10) (v := .bool r2) rfl (by kernel_rfl) (by kernel_rfl) (by kernel_rfl) (fun _ _ _ h => h) (Or.inl ⟨by rfl, by intro W hW; go_simp; try (first | (with_reducible rfl) | omega)⟩) hS1 ?_
              try go_simp
              refine wpAnyH_done (by kernel_rfl) ?_ _
              have HB3 : Hid (Below wr.heap.size wr w3) := Lib.hid hS1
              have HR3 : Hid (RoR w1.heap.size A k c V (fun i => rowU codes l i fn) A2 m c2 (rowU codes l k j) w1 w3) := Lib.hid (HK.out.1.on HB3.out HBZ.out)
              clear hS0 hS1
              go_simp
              obtain ⟨q2, q3⟩ := HX.out w3 HB3.out
              cases fd with
              | true =>
                go_wp2_with fail
                go_roundw
                case rel => exact ⟨i + 1, true, rfl, by go_num, by omega, Lib.hid ⟨HR3.out, by rw [HIT.out]; rfl⟩⟩
                case measure => simp [intOf]; omega
              | false =>
                cases r2 with
                | false =>
                  go_wp2_with fail
                  go_roundw
                  case rel => exact ⟨i + 1, false, rfl, by go_num, by omega, Lib.hid ⟨HR3.out, by rw [HIT.out]; rfl⟩⟩
                  case measure => simp [intOf]; omega
                | true =>
                  by_cases e1 : xf = (k : Int)
                  · subst e1
                    have t1 : ((k : Int) == (k : Int)) = true := by simp
                    go_wp2_with fail
                    go_roundw
                    case rel => exact ⟨i + 1, (r1 == (j : Int)), rfl, by go_num, by omega, Lib.hid ⟨HR3.out, by rw [HIT.out]; simp⟩⟩
                    case measure => simp [intOf]; omega
                  · have t1 : (xf == (k : Int)) = false := by simpa using e1
                    clear e1
                    go_wp2_with fail
                    go_roundw
                    case rel => exact ⟨i + 1, false, rfl, by go_num, by omega, Lib.hid ⟨HR3.out, by rw [HIT.out, t1]; simp⟩⟩
                    case measure => simp [intOf]; omega
            · obtain rfl : i = sn := by omega
              have HIT : Hid (hitS codes l k j = fd) := Lib.hid (by have h1 := HK.out.2; rw [List.take_of_length_le (by have := HSL.out; omega)] at h1; exact h1)
              have HR := Lib.hid HK.out.1
              have HBZ : Hid (w1.heap.size ≤ wr.heap.size) := Lib.hid HR.out.bw.size
              clear HK
              have hsrc := Lib.hid (src_int wr (j : Int))
              have hb8 : (m + 1) * 8 ≤ 140737488355328 := by omega
              cases fd with
              | false =>
                have HE := Lib.hid (rowU_no HIT.out)
                go_wp2_with fail
                go_roundw
                case rel => exact ⟨j + 1, A2, m, c2, rfl, by go_num, by omega, by omega, Lib.hid (by rw [← HE.out]; exact HR.out)⟩
                case measure => simp [intOf]; omega
              | true =>
                have HE := Lib.hid (rowU_yes HIT.out)
                go_wp2_with (first
                  | (at_builtin; go_must (refine wpList_append_src _ rfl _ _ 31 rfl w1.heap.size 3 i0 (.int .i64 0) 1 8 Try.underlying31 hi hz0 hz1 hz2 rfl (by decide) _ _ _ rfl (HR.out.row.alloc _) (some ⟨wr.heap.size, 0, none⟩) 1 1 [.int .i64 (j : Int)] rfl hsrc.out (one_int (j : Int)) (by unfold maxLen; omega) (by omega) (by have := HBZ.out; simp; omega) ?_)
                     intro v' w4 hown' hgrow3 hat3
                     obtain ⟨A', c', rfl, XR⟩ := HR.out.snoc HBZ.out hown' hgrow3 hat3
                     rw [HE.out] at XR
                     have XRH := Lib.hid XR
                     clear XR hown' hgrow3 hat3)
                  | fail)
                go_roundw
                case rel => exact ⟨j + 1, A', m + 1, c', rfl, by go_num, by omega, by omega, XRH⟩
                case measure => simp [intOf]; omega
        · obtain rfl : j = fn := by omega
          have HBZ : Hid (w1.heap.size ≤ wr.heap.size) := Lib.hid HR.out.bw.size
          have hsrc := Lib.hid (row_src wr #[svV (A2, m, c2)] 31 1 rfl)
          go_wp2_with (first
            | (at_builtin; go_must (refine wpList_append_src _ rfl _ _ 28 rfl w1.heap.size 31 j0 (.slice none 0 0) 1 24 Try.underlying28 hj hy0 hy1 hy2 rfl (by decide) _ _ _ rfl (HR.out.ro.own.alloc _) (some ⟨wr.heap.size, 0, none⟩) 1 1 [svV (A2, m, c2)] rfl hsrc.out (one_sv _) (by unfold maxLen; omega) (by omega) (by have := HBZ.out; simp; omega) ?_)
               intro v' w4 hown' hgrow3 hat3
               obtain ⟨A', c', rfl, XM, XK⟩ := HR.out.ro.push (x := (A2, m, c2)) (l := rowU codes l k j) HR.out.row (fun b hb => (HR.out.ap b hb).1) hown' hgrow3 hat3
               rw [upd_self (fun i => rowU codes l i j) k] at XM
               have XMH := Lib.hid XM
               have XB : Hid (Below w1.heap.size w1 w4) := Lib.hid (HR.out.bw.trans (XK.below HBZ.out (fun b hb => (HR.out.ro.own.lt b hb).1)))
               clear XM XK hown' hgrow3 hat3)
            | fail)
          go_roundw
          case rel => exact ⟨k + 1, A', c', _, rfl, by go_num, by omega, Lib.hid ⟨XMH.out, XB.out⟩⟩
          case measure => simp [intOf]; omega
    · obtain rfl : k = fn := by omega
      go_wp2_with fail
      go_ret
      refine ⟨A, c, rfl, HK.out.1.grw hfn (fun i hi => by have := rowU_len codes l i k; omega) (takesU_len _ _ _) (fun i hi => by rw [takesU_row _ _ hi, HL.out]), (HBW.out wr HK.out.2).1⟩
end Go.Proofs.Ytnfoahcdmaphnaa
