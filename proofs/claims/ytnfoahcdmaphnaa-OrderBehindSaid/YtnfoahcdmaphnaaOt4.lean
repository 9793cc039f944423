/-
  Order, the program's: which functions each function takes.
-/
import Derived.Test.YtnfoahcdmaphnaaOt3
import Derived.Test.YtnfoahcdmaphnaaOt0
namespace Go.Proofs.Ytnfoahcdmaphnaa
open Go.RowKit
set_option linter.unusedSimpArgs false
set_option linter.unusedVariables false
theorem wpAnyH_two {P : Program} {ops : Array Oper} {Q : Exit → Act → World → Prop} {md : Region.Mode} {S : World → Prop} {i j fuel : Nat} {oi oj : Oper} {listed : Array Bool} {a : Act} {w : World}
    (hr : Region.ready md ops listed = [i, j]) (hi : ops[i]? = some oi) (hj : ops[j]? = some oj)
    (h : ∀ K' : Act → World → Prop, (∀ a w, S w ∧ wpAnyH P md ops Q S fuel (listed.setIfInBounds i true) a w → K' a w) → if Region.wanted oi (yielded ops a.tmps) = true then Oper.wp P oi a w K' Q else K' (a.put oi.dst undef) w)
    (k : ∀ K' : Act → World → Prop, (∀ a w, S w ∧ wpAnyH P md ops Q S fuel (listed.setIfInBounds j true) a w → K' a w) → if Region.wanted oj (yielded ops a.tmps) = true then Oper.wp P oj a w K' Q else K' (a.put oj.dst undef) w) :
    wpAnyH P md ops Q S (fuel + 1) listed a w :=
  wpAnyH_all hr (by simp) (fun x hx => by
    simp only [List.mem_cons, List.not_mem_nil, or_false] at hx
    rcases hx with rfl | rfl
    · exact wpOp_step hi h
    · exact wpOp_step hj k)
theorem blk_same (A : Option Addr) (n c n' c' : Nat) : (Value.slice A n c).ownBlock = (Value.slice A n' c').ownBlock := by cases A <;> rfl
theorem TkW.grown {base ob n : Nat} {V : Vs} {L : Nat → List Int} {W w5 : World} (h : TkW base ob n V L W) {i : Nat} (hi : i < n) {A1 : Option Addr} {n1 c1 : Nat} (hV : V i = (A1, n1, c1)) {x : Int} {v' : Value}
    (hown' : w5.ownsRow base 3 1 v' (n1 + 1) (rowI (L i) ++ [.int .i64 x])) (hgrow : (W.alloc (.cells #[.int .i64 x] 3)).grownBy w5 (Value.slice A1 n1 c1).ownBlock)
    (hat : v'.ownBlock = (Value.slice A1 n1 c1).ownBlock ∨ v'.ownBlock = some (W.alloc (.cells #[.int .i64 x] 3)).heap.size) :
    ∃ A' c', v' = .slice A' (n1 + 1) c' ∧ TkW base ob n (upd V i (A', n1 + 1, c')) (upd L i (L i ++ [x])) (w5.setCell ⟨ob, i, none⟩ (.slice A' (n1 + 1) c')) ∧ Kp (fun j => (Value.slice A1 n1 c1).ownBlock = some j) W w5 ∧ Cells w5 ob (rowV n V) := by
  have e : rowI (L i) ++ [.int .i64 x] = rowI (L i ++ [x]) := by simp [rowI]
  rw [e] at hown'
  obtain ⟨A', c', rfl, _⟩ := own_form hown'
  have hk : Kp (fun j => (Value.slice A1 n1 c1).ownBlock = some j) W w5 := ((Kp.refl _ W).alloc _).ofGrown hgrow fun k hk _ => hk
  have hs : svV (V i) = .slice A1 n1 c1 := by rw [hV]; rfl
  have hk2 : Kp (fun b => (svV (V i)).ownBlock = some b) W w5 := by rw [hs]; exact hk
  refine ⟨A', c', rfl, h.put hi hk2 (x := (A', n1 + 1, c')) hown' ?_, hk, h.oc.kp hk2 (fun e => by have := ((h.ro i hi).lt _ e).1; have := h.ob; omega)⟩
  rcases hat with e1 | e1
  · left
    rw [hs]
    exact e1
  · right
    intro b hb
    have h1 : (Value.slice A' (n1 + 1) c').ownBlock = some b := hb
    rw [e1] at h1
    have h2 := Option.some.inj h1
    simp at h2
    omega
def mixU (codes : List (List DInstr)) (l : List DSite) (k : Nat) : Nat → List Int := fun i => if i < k then rowU codes l i codes.length else rawU codes l l.length i
theorem mixU_zero (codes : List (List DInstr)) (l : List DSite) : mixU codes l 0 = rawU codes l l.length := by funext i; simp [mixU]
theorem mixU_at (codes : List (List DInstr)) (l : List DSite) (k : Nat) : mixU codes l k k = rawU codes l l.length k := by simp [mixU]
theorem mixU_step (codes : List (List DInstr)) (l : List DSite) (k : Nat) : upd (mixU codes l k) k (Lib.compact (sortL (mixU codes l k k))) = mixU codes l (k + 1) := by
  rw [mixU_at, row_same]
  funext i
  unfold upd mixU
  by_cases e : i = k
  · subst e
    simp
  · rw [if_neg e]
    by_cases h : i < k
    · rw [if_pos h, if_pos (by omega)]
    · rw [if_neg h, if_neg (by omega)]
theorem mixU_len (codes : List (List DInstr)) (l : List DSite) (k i : Nat) (hc : codes.length ≤ 50) (hl : l.length ≤ 100) : (mixU codes l k i).length ≤ 100 := by
  unfold mixU
  split
  · have := rowU_len codes l i codes.length
    omega
  · have := rawU_len codes l l.length i
    omega
theorem TkW.len {base ob n : Nat} {V : Vs} {L : Nat → List Int} {W : World} (h : TkW base ob n V L W) {i : Nat} (hi : i < n) : (V i).2.1 = (L i).length := by
  have := (h.ro i hi).1
  unfold rowI at this
  rw [List.length_map] at this
  omega
/-- One row sorted and thinned: its block alone is touched, and its place. -/
theorem TkW.thin {base ob n : Nat} {V : Vs} {L : Nat → List Int} {W w2 w3 : World} (h : TkW base ob n V L W) {i : Nat} (hi : i < n) {A1 : Option Addr} {n1 c1 m1 : Nat} (hV : V i = (A1, n1, c1)) {l' : List Int}
    (h2 : W.grownBy w2 (Value.slice A1 n1 c1).ownBlock) (h3 : w2.grownBy w3 (Value.slice A1 n1 c1).ownBlock) (ho : w3.ownsRow base 3 1 (.slice A1 m1 c1) m1 (rowI l')) :
    TkW base ob n (upd V i (A1, m1, c1)) (upd L i l') (w3.setCell ⟨ob, i, none⟩ (.slice A1 m1 c1)) ∧ Kp (fun j => (Value.slice A1 n1 c1).ownBlock = some j) W w3 ∧ Cells w3 ob (rowV n V) ∧ Cells w2 ob (rowV n V) := by
  have hs : svV (V i) = .slice A1 n1 c1 := by rw [hV]; rfl
  have k2 : Kp (fun j => (Value.slice A1 n1 c1).ownBlock = some j) W w2 := (Kp.refl _ W).ofGrown h2 fun k hk _ => hk
  have k3 : Kp (fun j => (Value.slice A1 n1 c1).ownBlock = some j) W w3 := k2.ofGrown h3 fun k hk _ => hk
  have hno : ¬ (Value.slice A1 n1 c1).ownBlock = some ob := fun e => by
    rw [← hs] at e
    have := ((h.ro i hi).lt _ e).1
    have := h.ob
    omega
  refine ⟨h.put hi (by rw [hs]; exact k3) (x := (A1, m1, c1)) ho (.inl (by rw [hs]; exact blk_same _ _ _ _ _)), k3, h.oc.kp k3 hno, h.oc.kp k2 hno⟩
set_option maxRecDepth 100000 in
set_option maxHeartbeats 8000000 in
theorem takes_any (FA : Option Addr) (fn fc : Nat) (codes : List (List DInstr)) (SA : Option Addr) (sn sc : Nat) (l : List DSite) (w : World) (h : PgW w w.heap.size FA fn fc codes) (hs : SlS w w.heap.size SA sn sc l) (hfn : fn ≤ 50) (hsn : sn ≤ 100) :
    Calls Try.prog 7 #[.agg #[.slice FA fn fc], .slice SA sn sc] w (IsTk codes l fn w) := by
  obtain ⟨i0, hi, hz0, hz1, hz2⟩ := info_parts info_int
  obtain ⟨zc, hzc, hmk⟩ := made_rows fn (by omega)
  have HL : Hid (codes.length = fn) := Lib.hid h.1
  have HSL : Hid (l.length = sn) := Lib.hid hs.1
  obtain ⟨w1, hw1⟩ : ∃ X, w.alloc (.cells #[.slice FA fn fc] 24) = X := ⟨_, rfl⟩
  obtain ⟨g, hg⟩ : ∃ g, w.heap.size = g := ⟨_, rfl⟩
  obtain ⟨ob, hob⟩ : ∃ ob, w1.heap.size = ob := ⟨_, rfl⟩
  have hgo : g < ob := by rw [← hob, ← hw1, ← hg]; simp
  have hb1 : Below g w w1 := by rw [← hw1, ← hg]; exact bl_one _
  have EQ : Hid (∀ W, Below ob w1 W → W.cell? ⟨g, 0, none⟩ = some (.slice FA fn fc)) := Lib.hid fun W hW => (hW.cell (p := ⟨g, 0, none⟩) hgo).trans (by rw [← hw1, ← hg]; exact (Cells.new w [.slice FA fn fc] _).at_ 0 _ rfl)
  have HBW : Hid (∀ W, Below ob w1 W → Below w.heap.size w W ∧ w.heap.size ≤ W.heap.size) := Lib.hid fun W hW => by
    have h2 : Below w.heap.size w W := by rw [hg]; exact hb1.trans (hW.mono (by omega))
    exact ⟨h2, h2.size⟩
  have HP : Hid (∀ W, Below ob w1 W → PgW W w.heap.size FA fn fc codes ∧ w.heap.size ≤ W.heap.size) := Lib.hid fun W hW => ⟨h.keep (HBW.out W hW).1, (HBW.out W hW).2⟩
  have HS : Hid (∀ W, Below ob w1 W → SlS W W.heap.size SA sn sc l) := Lib.hid fun W hW => SlS.on hs (HBW.out W hW).1
  have HOB : Hid (w1.heap.size = ob) := Lib.hid hob
  have hT0 : TkW (ob + 1) ob fn (fun _ => (none, 0, 0)) (rawU codes l 0) (w1.alloc (.cells zc 31)) := by
    refine ⟨?_, fun i hi => ?_, fun i j hi hj hij b hb => ?_, by omega⟩
    · rw [← hzc, ← hob]
      exact Cells.new w1 zc.toList _
    · rw [rawU_zero]
      exact ⟨rfl, .inl ⟨rfl, rfl⟩⟩
    · simp [svV, Value.ownBlock] at hb
  have HT0 := Lib.hid hT0
  have HB0 : Hid (Below ob w1 (w1.alloc (.cells zc 31))) := Lib.hid (by rw [← hob]; exact bl_one _)
  have hfb : (fn : Int) ≤ 50 := by omega
  have hsb : (sn : Int) ≤ 100 := by omega
  have hf0 : (0 : Int) ≤ (fn : Int) := by omega
  have q0 := EQ.out w1 (Below.refl _ _)
  clear h hs hb1 hT0 hzc
  go_enter Try.func7, Try.ntmps7
  go_wp2_with fail
  clear hw1 hg hob q0
  go_loopw [17] (fun iv wr => ∃ (k : Nat) (V : Vs), iv = .int .i64 k ∧ k ≤ sn ∧ Hid (TkW (ob + 1) ob fn V (rawU codes l k) wr ∧ Below ob w1 wr)) (fun iv _ => sn - (intOf iv).toNat)
  case atStart => exact ⟨0, _, rfl, Nat.zero_le _, Lib.hid ⟨HT0.out, HB0.out⟩⟩
  case round =>
    clear HT0 HB0
    obtain ⟨k, V, rfl, hk, HK⟩ := hrel
    have hk0 : (0 : Int) ≤ (k : Int) := by omega
    by_cases hlt : k < sn
    · have hkn : (k : Int) < (sn : Int) := by omega
      obtain ⟨b, off, x, rfl, hbl, hx, hcx⟩ := (HS.out wr HK.out.2).get hlt
      have HXK := Lib.hid hx
      obtain ⟨p0, p1⟩ := hcx wr (Below.refl _ _)
      obtain ⟨xf, xp⟩ := x
      dsimp only at p0 p1
      obtain ⟨sb, hsbe⟩ : ∃ sb, wr.heap.size = sb := ⟨_, rfl⟩
      obtain ⟨w2, hw2⟩ : ∃ X, wr.alloc (.cells #[.int .i64 xf, .int .i64 xp] 46) = X := ⟨_, rfl⟩
      have hb2 : Below wr.heap.size wr w2 := by rw [← hw2]; exact bl_one _
      have hc2 : Cells w2 sb [.int .i64 xf, .int .i64 xp] := by rw [← hw2, ← hsbe]; exact Cells.new wr [.int .i64 xf, .int .i64 xp] _
      have HC2 := Lib.hid hc2
      have HOS : Hid (ob ≤ wr.heap.size) := Lib.hid (by have h1 := HK.out.2.size; have := HOB.out; omega)
      have HB2 : Hid (Below ob w1 w2) := Lib.hid (HK.out.2.trans (hb2.mono HOS.out))
      have HT2 := Lib.hid (HK.out.1.on hb2)
      have HBK : Hid (∀ i j, i < fn → (svV (V i)).ownBlock = some j → j < sb ∧ ob + 1 ≤ j) := Lib.hid fun i j hi hj => ⟨by have := ((HK.out.1.ro i hi).lt j hj).2; omega, ((HK.out.1.ro i hi).lt j hj).1⟩
      have HSB : Hid (ob < sb) := Lib.hid (by have := HK.out.1.oc.lt; omega)
      have c20 := hc2.at_ 0 _ rfl
      have c21 := hc2.at_ 1 _ rfl
      have q0 := EQ.out w2 HB2.out
      have cT := Lib.hid (target_any w.heap.size FA fn fc codes xf xp w2 (HP.out w2 HB2.out).1 (HP.out w2 HB2.out).2)
      have HYES : Hid (∀ i : Nat, (targetM codes xf xp).2 = true → xf = (i : Int) → upd (rawU codes l k) i (rawU codes l k i ++ [(targetM codes xf xp).1]) = rawU codes l (k + 1)) := Lib.hid fun i h1 h2 => rawU_yes HXK.out h1 h2
      have HNO : Hid ((targetM codes xf xp).2 = false → rawU codes l k = rawU codes l (k + 1)) := Lib.hid fun h1 => rawU_no HXK.out h1
      have HRG : Hid ((targetM codes xf xp).2 = true → 0 ≤ xf ∧ xf < (fn : Int)) := Lib.hid fun h1 => by
        have := okS_range (codes := codes) (s := ⟨xf, xp⟩) h1
        have h2 := HL.out
        exact ⟨this.2.2.1, by have := this.2.2.2; dsimp only at this; omega⟩
      obtain ⟨tm, htm⟩ : ∃ tm, targetM codes xf xp = tm := ⟨_, rfl⟩
      rw [htm] at cT HYES HNO HRG
      obtain ⟨r1, r2⟩ := tm
      dsimp only at HYES HNO HRG
      clear hcx hb2 hc2 htm hx
      have hwz : wr.heap.size = sb := hsbe
      go_wp2_with fail
      refine cT.out.mono ?_
      rintro e w3 ⟨rfl, hb3⟩
      have HB3 : Hid (Below ob w1 w3) := Lib.hid (HB2.out.trans (hb3.mono (by have := HB2.out.size; have := HOB.out; omega)))
      have HT3 := Lib.hid (HT2.out.on hb3)
      have HC3 := Lib.hid (HC2.out.on hb3)
      have d20 := HC3.out.at_ 0 _ rfl
      clear hb3 cT c20 c21 q0 hw2 hwz p0 p1 hsbe
      cases r2 with
      | false =>
        have HE := Lib.hid (HNO.out rfl)
        clear d20
        go_wp2_with fail
        go_roundw
        case rel => exact ⟨k + 1, V, by go_num, by omega, Lib.hid ⟨by rw [← HE.out]; exact HT3.out, HB3.out⟩⟩
        case measure => simp [intOf]; omega
      | true =>
        obtain ⟨hx0, hx1⟩ := HRG.out rfl
        obtain ⟨i, rfl⟩ : ∃ i : Nat, xf = (i : Int) := ⟨xf.toNat, by omega⟩
        have hifn : i < fn := by omega
        have HE := Lib.hid (HYES.out i rfl rfl)
        have HIF := Lib.hid hifn
        obtain ⟨vi, hVi⟩ : ∃ x, V i = x := ⟨_, rfl⟩
        obtain ⟨A1, n1, c1⟩ := vi
        have HTD : Hid (TkW (ob + 1) ob fn V (rawU codes l k) w3.drew) := Lib.hid (HT3.out.kp (Kp.refl _ _).drew)
        have HVI := Lib.hid hVi
        have HRO : Hid (w3.drew.ownsRow (ob + 1) 3 1 (.slice A1 n1 c1) n1 (rowI (rawU codes l k i))) := Lib.hid (by have := HTD.out.ro i hifn; rw [hVi] at this; exact this)
        have hn1 : n1 ≤ k := by have h1 := HTD.out.len hifn; rw [hVi] at h1; have h2 := rawU_len codes l k i; dsimp only at h1; omega
        have HNB : Hid (∀ j, (Value.slice A1 n1 c1).ownBlock = some j → j < sb ∧ ob + 1 ≤ j) := Lib.hid fun j hj => HBK.out i j HIF.out (by rw [HVI.out]; exact hj)
        have o3 : w3.cell? ⟨ob, i, none⟩ = some (.slice A1 n1 c1) := by have := HT3.out.oc.at_ i _ (rowV_at V hifn); rw [hVi] at this; exact this
        have hsrc := Lib.hid (src_int w3.drew r1)
        have HZ3 : Hid (ob + 1 ≤ w3.heap.size ∧ sb < w3.heap.size) := Lib.hid ⟨by have := HT3.out.oc.lt; omega, HC3.out.lt⟩
        have hkb : k ≤ 100 := by omega
        clear hVi
        go_wp2_with fail
        refine wp_region_held (S := fun W => W.cell? ⟨sb, 0, none⟩ = some (.int .i64 (i : Int))) (by kernel_rfl) ?_
        change wpAnyH _ _ _ _ _ _ _ _ (World.drew _)
        have hS0 : w3.drew.cell? ⟨sb, 0, none⟩ = some (.int .i64 (i : Int)) := d20
        have hSA : (w3.drew.alloc (.cells #[.int .i64 r1] 3)).cell? ⟨sb, 0, none⟩ = some (.int .i64 (i : Int)) := (World.cell?_alloc_lt _ _ _ HZ3.out.2).trans d20
        have o3d : w3.drew.cell? ⟨ob, i, none⟩ = some (.slice A1 n1 c1) := o3
        have o3b : (w3.alloc (.cells #[.int .i64 r1] 3)).cell? ⟨ob, i, none⟩ = some (.slice A1 n1 c1) := (World.cell?_alloc_lt _ _ _ (by have := HZ3.out.1; show ob < w3.heap.size; omega)).trans o3
        have o3a : (w3.drew.alloc (.cells #[.int .i64 r1] 3)).cell? ⟨ob, i, none⟩ = some (.slice A1 n1 c1) := (World.cell?_alloc_lt _ _ _ (by have := HZ3.out.1; show ob < w3.heap.size; omega)).trans o3
        refine wpAnyH_take (i := 0) (v := .slice (some ⟨ob, 0, none⟩) fn fn) rfl (by kernel_rfl) (by kernel_rfl) (by kernel_rfl) (fun _ _ _ h => h) (Or.inl ⟨by rfl, by intro W hW; go_simp; try (first | (with_reducible rfl) | omega)⟩) hS0 ?_
        refine wpAnyH_take (i := 1) (v := .pointer (some ⟨sb, 0, none⟩)) rfl (by kernel_rfl) (by kernel_rfl) (by kernel_rfl) (fun _ _ _ h => h) (Or.inl ⟨by rfl, by intro W hW; go_simp; try (first | (with_reducible rfl) | omega)⟩) hS0 ?_
        refine wpAnyH_take (i := 3) (v := .slice (some ⟨ob, 0, none⟩) fn fn) rfl (by kernel_rfl) (by kernel_rfl) (by kernel_rfl) (fun _ _ _ h => h) (Or.inl ⟨by rfl, by intro W hW; go_simp; try (first | (with_reducible rfl) | omega)⟩) hS0 ?_
        refine wpAnyH_take (i := 4) (v := .pointer (some ⟨sb, 0, none⟩)) rfl (by kernel_rfl) (by kernel_rfl) (by kernel_rfl) (fun _ _ _ h => h) (Or.inl ⟨by rfl, by intro W hW; go_simp; try (first | (with_reducible rfl) | omega)⟩) hS0 ?_
        refine wpAnyH_take (i := 8) (v := .int .i64 r1) rfl (by kernel_rfl) (by kernel_rfl) (by kernel_rfl) (fun _ _ _ h => h) (Or.inl ⟨by rfl, by intro W hW; go_simp; try (first | (with_reducible rfl) | omega)⟩) hS0 ?_
        try go_simp
        refine wpAnyH_take (i := 2) (v := .int .i64 (i : Int)) rfl (by kernel_rfl) (by kernel_rfl) (by kernel_rfl) (fun _ _ _ h => h) (Or.inl ⟨by rfl, by intro W hW; go_simp; try (first | (with_reducible rfl) | omega)⟩) hS0 ?_
        refine wpAnyH_take (i := 5) (v := .int .i64 (i : Int)) rfl (by kernel_rfl) (by kernel_rfl) (by kernel_rfl) (fun _ _ _ h => h) (Or.inl ⟨by rfl, by intro W hW; go_simp; try (first | (with_reducible rfl) | omega)⟩) hS0 ?_
        try go_simp
        refine wpAnyH_take (i := 6) (v := .pointer (some ⟨ob, i, none⟩)) rfl (by kernel_rfl) (by kernel_rfl) (by kernel_rfl) (fun _ _ _ h => h) (Or.inl ⟨by rfl, by intro W hW; go_simp; try (first | (with_reducible rfl) | omega)⟩) hS0 ?_
        try go_simp
        refine wpAnyH_two (i := 7) (j := 9) (by kernel_rfl) rfl rfl (fun K hK => ?_) (fun K hK => ?_)
        · go_simp
          refine hK _ _ ⟨hS0, ?_⟩; clear hK K
          refine wpAnyH_one (i := 9) (by kernel_rfl) rfl (fun K hK => ?_)
          go_simp
          refine hK _ _ ⟨hSA, ?_⟩; clear hK K
          refine wpAnyH_one (i := 10) (by kernel_rfl) rfl (fun K hK => ?_)
          refine step_append_src _ rfl _ _ 31 rfl (ob + 1) 3 i0 (.int .i64 0) 1 8 Try.underlying31 hi hz0 hz1 hz2 rfl (by decide) (.slice A1 n1 c1) n1 (rowI (rawU codes l k i)) ?qq1 (HRO.out.alloc _) (some ⟨w3.heap.size, 0, none⟩) 1 1 [.int .i64 r1] ?qq2 hsrc.out (one_int r1) (by unfold maxLen; omega) (by omega) (by have := HZ3.out.1; simp; omega) ?_
          case qq1 => go_simp
          case qq2 => go_simp
          intro v' w5 hown' hgrow hat
          obtain ⟨A', c', rfl, XT, XK, XC⟩ := HTD.out.grown HIF.out HVI.out hown' hgrow hat
          have hS5 : w5.cell? ⟨sb, 0, none⟩ = some (.int .i64 (i : Int)) := XK.cellv d20 (fun e => by have := (HNB.out sb e).1; omega)
          have o5 : w5.cell? ⟨ob, i, none⟩ = some (.slice A1 n1 c1) := by have := XC.at_ i _ (rowV_at V HIF.out); rw [HVI.out] at this; exact this
          have f5 : w5.frozen? ⟨ob, i, none⟩ = false := XC.fz i (by rw [rowV_len]; exact HIF.out)
          have HBN : Hid (Below ob w1 (w5.setCell ⟨ob, i, none⟩ (.slice A' (n1 + 1) c'))) := Lib.hid (((HB3.out.drew).trans (XK.below (by have := HZ3.out.1; show ob ≤ w3.heap.size; omega) (fun b hb => by have := (HNB.out b hb).2; omega))).setCell (p := ⟨ob, i, none⟩) (Nat.le_refl _) _)
          rw [HE.out] at XT
          have XTH := Lib.hid XT
          clear XT XK XC hown' hgrow hat
          refine hK _ _ ⟨hS5, ?_⟩; clear hK K
          refine wpAnyH_one (i := 11) (by kernel_rfl) rfl (fun K hK => ?_)
          go_simp
          refine hK _ _ ⟨hS5, ?_⟩; clear hK K
          refine wpAnyH_one (i := 12) (by kernel_rfl) rfl (fun K hK => ?_)
          go_simp
          refine hK _ _ ⟨(World.cell?_setCell_other _ _ _ _ (by have := HSB.out; simp; try omega)).trans hS5, ?_⟩; clear hK K
          refine wpAnyH_done (by kernel_rfl) ?_ _
          go_simp
          go_wp2_with fail
          go_roundw
          case rel => exact ⟨k + 1, _, by go_num, by omega, Lib.hid ⟨XTH.out, HBN.out⟩⟩
          case measure => simp [intOf]; omega
        · go_simp
          refine hK _ _ ⟨hSA, ?_⟩; clear hK K
          refine wpAnyH_one (i := 7) (by kernel_rfl) rfl (fun K hK => ?_)
          go_simp
          refine hK _ _ ⟨hSA, ?_⟩; clear hK K
          refine wpAnyH_one (i := 10) (by kernel_rfl) rfl (fun K hK => ?_)
          refine step_append_src _ rfl _ _ 31 rfl (ob + 1) 3 i0 (.int .i64 0) 1 8 Try.underlying31 hi hz0 hz1 hz2 rfl (by decide) (.slice A1 n1 c1) n1 (rowI (rawU codes l k i)) ?qq1 (HRO.out.alloc _) (some ⟨w3.heap.size, 0, none⟩) 1 1 [.int .i64 r1] ?qq2 hsrc.out (one_int r1) (by unfold maxLen; omega) (by omega) (by have := HZ3.out.1; simp; omega) ?_
          case qq1 => go_simp
          case qq2 => go_simp
          intro v' w5 hown' hgrow hat
          obtain ⟨A', c', rfl, XT, XK, XC⟩ := HTD.out.grown HIF.out HVI.out hown' hgrow hat
          have hS5 : w5.cell? ⟨sb, 0, none⟩ = some (.int .i64 (i : Int)) := XK.cellv d20 (fun e => by have := (HNB.out sb e).1; omega)
          have o5 : w5.cell? ⟨ob, i, none⟩ = some (.slice A1 n1 c1) := by have := XC.at_ i _ (rowV_at V HIF.out); rw [HVI.out] at this; exact this
          have f5 : w5.frozen? ⟨ob, i, none⟩ = false := XC.fz i (by rw [rowV_len]; exact HIF.out)
          have HBN : Hid (Below ob w1 (w5.setCell ⟨ob, i, none⟩ (.slice A' (n1 + 1) c'))) := Lib.hid (((HB3.out.drew).trans (XK.below (by have := HZ3.out.1; show ob ≤ w3.heap.size; omega) (fun b hb => by have := (HNB.out b hb).2; omega))).setCell (p := ⟨ob, i, none⟩) (Nat.le_refl _) _)
          rw [HE.out] at XT
          have XTH := Lib.hid XT
          clear XT XK XC hown' hgrow hat
          refine hK _ _ ⟨hS5, ?_⟩; clear hK K
          refine wpAnyH_one (i := 11) (by kernel_rfl) rfl (fun K hK => ?_)
          go_simp
          refine hK _ _ ⟨hS5, ?_⟩; clear hK K
          refine wpAnyH_one (i := 12) (by kernel_rfl) rfl (fun K hK => ?_)
          go_simp
          refine hK _ _ ⟨(World.cell?_setCell_other _ _ _ _ (by have := HSB.out; simp; try omega)).trans hS5, ?_⟩; clear hK K
          refine wpAnyH_done (by kernel_rfl) ?_ _
          go_simp
          go_wp2_with fail
          go_roundw
          case rel => exact ⟨k + 1, _, by go_num, by omega, Lib.hid ⟨XTH.out, HBN.out⟩⟩
          case measure => simp [intOf]; omega
    · obtain rfl : k = sn := by omega
      have HT : Hid (TkW (ob + 1) ob fn V (mixU codes l 0) wr) := Lib.hid (by rw [mixU_zero, HSL.out]; exact HK.out.1)
      have HB := Lib.hid HK.out.2
      clear HK
      go_wp2_with fail
      go_loopw [43] (fun iv wr => ∃ (j : Nat) (V : Vs), iv = .int .i64 j ∧ j ≤ fn ∧ Hid (TkW (ob + 1) ob fn V (mixU codes l j) wr ∧ Below ob w1 wr)) (fun iv _ => fn - (intOf iv).toNat)
      case atStart => exact ⟨0, V, rfl, Nat.zero_le _, Lib.hid ⟨HT.out, HB.out⟩⟩
      case round =>
        clear HT HB
        obtain ⟨j, V, rfl, hj, HK⟩ := hrel
        have hj0 : (0 : Int) ≤ (j : Int) := by omega
        by_cases hjl : j < fn
        · have hjn : (j : Int) < (fn : Int) := by omega
          have HJL := Lib.hid hjl
          obtain ⟨vi, hVi⟩ : ∃ x, V j = x := ⟨_, rfl⟩
          obtain ⟨A1, n1, c1⟩ := vi
          have HVI := Lib.hid hVi
          have HN1 : Hid (n1 ≤ 100) := Lib.hid (by have h1 := HK.out.1.len hjl; rw [hVi] at h1; have h2 := mixU_len codes l j j (by have := HL.out; omega) (by have := HSL.out; omega); dsimp only at h1; omega)
          have HRO : Hid (wr.ownsRow (ob + 1) 3 1 (.slice A1 n1 c1) n1 (rowI (mixU codes l j j))) := Lib.hid (by have := HK.out.1.ro j hjl; rw [hVi] at this; exact this)
          have o3 : wr.cell? ⟨ob, j, none⟩ = some (.slice A1 n1 c1) := by have := HK.out.1.oc.at_ j _ (rowV_at V hjl); rw [hVi] at this; exact this
          have cS := Lib.hid (sort_own wr HRO.out (by have := HN1.out; omega))
          have HOZ : Hid (ob + 1 ≤ wr.heap.size) := Lib.hid (by have := HK.out.1.oc.lt; omega)
          clear hVi
          go_wp2_with fail
          refine cS.out.mono ?_
          rintro e w2 ⟨⟨v, rfl⟩, ho2, hg2⟩
          have HO2 := Lib.hid ho2
          have HG2 := Lib.hid hg2
          have o4 : w2.cell? ⟨ob, j, none⟩ = some (.slice A1 n1 c1) := by
            have h1 := (HK.out.1.thin HJL.out HVI.out hg2 (World.grownBy.refl _ _) ho2).2.2.2.at_ j _ (rowV_at V HJL.out)
            rw [HVI.out] at h1
            exact h1
          have cC := Lib.hid (compact_own w2 ho2 (by have := HN1.out; omega))
          clear ho2 hg2 cS o3
          go_wp2_with fail
          refine cC.out.mono ?_
          rintro e w3 ⟨m1, rfl, hm1, ho3, hg3⟩
          obtain ⟨XT, XK, XC, _⟩ := HK.out.1.thin HJL.out HVI.out HG2.out hg3 ho3
          rw [mixU_step] at XT
          have XTH := Lib.hid XT
          have o5 : w3.cell? ⟨ob, j, none⟩ = some (.slice A1 n1 c1) := by
            have h1 := XC.at_ j _ (rowV_at V HJL.out)
            rw [HVI.out] at h1
            exact h1
          have f5 : w3.frozen? ⟨ob, j, none⟩ = false := XC.fz j (by rw [rowV_len]; exact HJL.out)
          have HBN : Hid (Below ob w1 (w3.setCell ⟨ob, j, none⟩ (.slice A1 m1 c1))) := Lib.hid ((HK.out.2.trans (XK.below (by have := HOZ.out; omega) (fun b hb => by have := (HRO.out.lt b hb).1; omega))).setCell (p := ⟨ob, j, none⟩) (Nat.le_refl _) _)
          clear XT XK XC ho3 hg3 cC o4
          go_wp2_with fail
          go_roundw
          case rel => exact ⟨j + 1, _, by go_num, by omega, Lib.hid ⟨XTH.out, HBN.out⟩⟩
          case measure => simp [intOf]; omega
        · obtain rfl : j = fn := by omega
          go_wp2_with fail
          go_ret
          refine ⟨some ⟨ob, 0, none⟩, j, rfl, HK.out.1.grw hfn (fun i hi => by have := mixU_len codes l j i (by have := HL.out; omega) (by have := HSL.out; omega); omega) (takesU_len _ _ _) (fun i hi => by rw [takesU_row _ _ hi]; unfold mixU; rw [if_pos hi]), (HBW.out wr HK.out.2).1⟩
end Go.Proofs.Ytnfoahcdmaphnaa
