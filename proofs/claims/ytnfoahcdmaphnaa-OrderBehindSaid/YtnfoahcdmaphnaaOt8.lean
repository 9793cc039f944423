/-
  Order: the walk of OrderBehind.
-/
import Derived.Test.YtnfoahcdmaphnaaOt7
namespace Go.Proofs.Ytnfoahcdmaphnaa
open Go.RowKit
set_option linter.unusedSimpArgs false
set_option linter.unusedVariables false
structure PbW (w : World) (n : Nat) (pb : Nat) (OA : Option Addr) (m oc : Nat) (o : List Nat) (i : Nat) (W : World) : Prop where
  pc : Cells W pb (arrC n (plc o i))
  oo : W.ownsRow w.heap.size 3 1 (.slice OA m oc) m (rowN o)
  ne : (Value.slice OA m oc).ownBlock ≠ some pb ∧ w.heap.size ≤ pb
  bw : Below w.heap.size w W
theorem PbW.on {w : World} {n : Nat} {pb : Nat} {OA : Option Addr} {m oc : Nat} {o : List Nat} {i : Nat} {W W' : World} (H : PbW w n pb OA m oc o i W) (hb : Below W.heap.size W W') : PbW w n pb OA m oc o i W' :=
  ⟨H.pc.on hb, own_keep H.oo hb, H.ne, H.bw.trans (hb.mono H.bw.size)⟩
theorem PbW.drewN {w : World} {n : Nat} {pb : Nat} {OA : Option Addr} {m oc : Nat} {o : List Nat} {i : Nat} {W : World} (H : PbW w n pb OA m oc o i W) (a : Nat) : PbW w n pb OA m oc o i (W.drewN a) := H.on (below_drewN' (Below.refl _ _) a)
theorem PbW.put {w : World} {n : Nat} {pb : Nat} {OA : Option Addr} {m oc : Nat} {o : List Nat} {i x : Nat} {W : World} (H : PbW w n pb OA m oc o i W) (hnd : o.Nodup) (hx : o[i]? = some x) (hxn : x < n) (z : Int) (hz : z = (i : Int) + 1) : PbW w n pb OA m oc o (i + 1) (W.setCell ⟨pb, x, none⟩ (.int .i64 z)) := by
  subst hz
  have h1 := H.pc.put x (by rw [arrC_len]; exact hxn) (.int .i64 ((i : Int) + 1))
  rw [arrC_set, plc_succ hnd hx] at h1
  exact ⟨h1, (kp_set W pb x _).own H.oo (fun k hk e => by have e' : k = pb := e; rw [e'] at hk; exact H.ne.1 hk), H.ne, H.bw.setCell (p := ⟨pb, x, none⟩) H.ne.2 _⟩
set_option maxRecDepth 100000 in
set_option maxHeartbeats 16000000 in
theorem orderBehind_walk (cs0 : Array Value) (x0 : DProgram) (SA : Option Addr) (sn sc : Nat) (l : List DSite) (w : World) (h0 : RProgram w w.heap.size cs0.toList x0) (h1 : SlR 2 16 RSite w w.heap.size SA sn sc l) :
    Calls Try.prog 4 #[.agg cs0, .slice SA sn sc] w fun e w' => e = .returned (.bool true) ∧ Below w.heap.size w w' := by
  obtain ⟨FA, fn, fc, e0, hfs⟩ := h0
  have hs := sls_of h1
  obtain rfl : cs0 = #[.slice FA fn fc] := by rw [← Array.toArray_toList (xs := cs0), e0]
  obtain ⟨fs⟩ := x0
  dsimp only at hfs
  have cl := Lib.hid order_lives
  obtain ⟨codes, hco⟩ : ∃ l, fs.map DFunc.code = l := ⟨_, rfl⟩
  obtain ⟨g, hg⟩ : ∃ g, w.heap.size = g := ⟨_, rfl⟩
  obtain ⟨w1, hw1⟩ : ∃ X, w.alloc (.cells #[.slice FA fn fc] 24) = X := ⟨_, rfl⟩
  have x2 : Cells w1 g [.slice FA fn fc] := by rw [← hw1, ← hg]; exact Cells.new w [.slice FA fn fc] _
  have hb1 : Below w.heap.size w w1 := by rw [← hw1]; exact bl_one _
  have EQ : Hid (∀ W, Below w1.heap.size w1 W → W.cell? ⟨g, 0, none⟩ = some (.slice FA fn fc)) := Lib.hid fun W hW => (x2.on hW).at_ 0 _ rfl
  have HB1 := Lib.hid hb1
  have HP : Hid (∀ W, Below w1.heap.size w1 W → PgW W W.heap.size FA fn fc codes) := Lib.hid fun W hW => by rw [← hco]; exact (pgw_of hfs).on (hb1.trans (hW.mono hb1.size))
  have HS : Hid (∀ W, Below w1.heap.size w1 W → SlS W W.heap.size SA sn sc l) := Lib.hid fun W hW => SlS.on hs (hb1.trans (hW.mono hb1.size))
  have HBW : Hid (∀ W, Below w1.heap.size w1 W → Below w.heap.size w W) := Lib.hid fun W hW => hb1.trans (hW.mono hb1.size)
  have cSm := Lib.hid (small16_any w.heap.size FA fn fc fs w1 (SlR.keep stable_Func hfs fun p hp => hb1.cell hp) hb1.size)
  have HSM : Hid (fs.length = fn ∧ codes.length = fn) := Lib.hid ⟨hfs.1, by rw [← hco, List.length_map]; exact hfs.1⟩
  have q0 := EQ.out w1 (Below.refl _ _)
  clear x2 hb1 hfs e0 hco hs h1
  go_enter Try.func4, Try.ntmps4
  go_wp2_with fail
  refine cSm.out.mono ?_
  rintro e w3 ⟨r, rfl, hr, hb3⟩
  have HR := Lib.hid hr
  have HC3 := Lib.hid hb3
  clear hr hb3 cSm q0 hw1 hg
  have hcl : Hid (∀ W, Below w1.heap.size w1 W → Calls Try.prog 6 #[] W fun e w' => e = .returned (.bool true) ∧ Below w.heap.size w w') := Lib.hid fun W hW => (cl.out W).mono (by
    rintro e w' ⟨rfl, hb⟩
    exact ⟨rfl, (HBW.out W hW).trans (hb.mono (HBW.out W hW).size)⟩)
  cases r with
  | false =>
    go_wp2_with fail
    refine (hcl.out w3 HC3.out).mono ?_
    rintro e w4 ⟨rfl, hb4⟩
    go_wp2_with fail
    go_ret
    exact ⟨rfl, hb4⟩
  | true =>
    by_cases hsn : 100 < sn
    · have hsn1 : (100 : Int) < (sn : Int) := by omega
      go_wp2_with fail
      refine (hcl.out w3 HC3.out).mono ?_
      rintro e w4 ⟨rfl, hb4⟩
      go_wp2_with fail
      go_ret
      exact ⟨rfl, hb4⟩
    · have hsn1 : ¬ (100 : Int) < (sn : Int) := by omega
      have hsn' : sn ≤ 100 := by omega
      have hfn : fn ≤ 50 := by have h1 := (HR.out rfl).1; have h2 := HSM.out.1; omega
      have hsn2 : (sn : Int) ≤ 100 := by omega
      have cF := Lib.hid (of_any FA fn fc codes SA sn sc l w3 (HP.out w3 HC3.out) (HS.out w3 HC3.out) hfn hsn')
      have cB : Hid (∀ W, Below w1.heap.size w1 W → Calls Try.prog 8 #[.agg #[.slice FA fn fc], .slice SA sn sc] W (IsTk codes l fn W)) := Lib.hid fun W hW => rtakes_any FA fn fc codes SA sn sc l W (HP.out W hW) (HS.out W hW) hfn hsn'
      have q0 := EQ.out w3 HC3.out
      go_wp2_with fail
      refine cF.out.mono ?_
      rintro e w4 h4
      rcases h4 with ⟨_, rfl, hb4⟩ | ⟨hno, OA, m, oc, o, lf, d, rfl, ho, hl, hp, hn, hb4⟩
      · have HC4 : Hid (Below w1.heap.size w1 w4) := Lib.hid (HC3.out.trans (hb4.mono HC3.out.size))
        clear hb4 q0
        go_wp2_with fail
        refine (hcl.out w4 HC4.out).mono ?_
        rintro e w9 ⟨rfl, hb9⟩
        go_wp2_with fail
        go_ret
        exact ⟨rfl, hb9⟩
      · obtain ⟨G, hG⟩ : ∃ G, takesU codes l fn = G := ⟨_, rfl⟩
        have hgl : G.length = fn := by rw [← hG]; exact takesU_len _ _ _
        have hrw : ∀ i, (rowG G i).length ≤ 60 := fun i => by rw [← hG]; exact takesU_small codes l fn i (by have := HSM.out.2; omega)
        rw [hG] at hno hl hp hn
        have hno' : ∀ i, i < G.length → ¬ Rp G i i := fun i hi => hno i (by omega)
        have HC4 : Hid (Below w1.heap.size w1 w4) := Lib.hid (HC3.out.trans (hb4.mono HC3.out.size))
        have HO := Lib.hid (own_less ho HC3.out.size)
        have HGL := Lib.hid hgl
        have HROW := Lib.hid hrw
        have HGG := Lib.hid hG
        have HNO := Lib.hid hno
        have HL := Lib.hid hl
        have HPK := Lib.hid hp
        have HALL : Hid (∀ x, x < fn → x ∈ o) := Lib.hid fun x hx => by
          have h1 := hp.all hl hn x (by omega) (lst_self hl hno' (by omega))
          exact h1
        have HSELF : Hid (∀ x, x < fn → lf x = x) := Lib.hid fun x hx => lst_self hl hno' (by omega)
        have HLM : Hid (o.length = m) := Lib.hid (by have h1 := ho.1; unfold rowN at h1; rw [List.length_map] at h1; omega)
        have HMN : Hid (m = fn) := Lib.hid (by have h1 := order_len hl hno' hp hn; have := HLM.out; omega)
        have hm50 : m ≤ 50 := by have := HMN.out; omega
        obtain ⟨zc, hzc, hmk⟩ := made_int fn (by omega)
        have HZ := Lib.hid hzc
        obtain ⟨pb, hpb⟩ : ∃ pb, w4.heap.size = pb := ⟨_, rfl⟩
        obtain ⟨w5, hw5⟩ : ∃ X, w4.alloc (.cells zc 3) = X := ⟨_, rfl⟩
        have HPL : Hid (PbW w1 fn pb OA m oc o 0 w5) := Lib.hid (by
          have hbo : Below w4.heap.size w4 w5 := by rw [← hw5]; exact bl_one _
          refine ⟨?_, own_keep HO.out hbo, ⟨fun e => by have := (HO.out.lt _ e).2; omega, by have := HC4.out.size; omega⟩, HC4.out.trans (hbo.mono HC4.out.size)⟩
          rw [plc_zero, ← hw5, ← hpb, ← HZ.out]
          exact Cells.new w4 zc.toList _)
        have q4 := EQ.out w4 HC4.out
        have hwz := hpb
        have hfb : (fn : Int) ≤ 50 := by omega
        have hf0 : (0 : Int) ≤ (fn : Int) := by omega
        clear hno hl hp hn ho hb4 hgl hrw hG hno' q0 cF hzc
        go_wp2_with fail
        clear hw5 hwz hpb q4
        go_loopw [8] (fun iv wr => ∃ i : Nat, iv = .int .i64 i ∧ i ≤ m ∧ Hid (PbW w1 fn pb OA m oc o i wr)) (fun iv _ => m - (intOf iv).toNat)
        case atStart => exact ⟨0, rfl, Nat.zero_le _, HPL⟩
        case round =>
          clear HPL
          obtain ⟨i, rfl, hi, HK⟩ := hrel
          have hi0 : (0 : Int) ≤ (i : Int) := by omega
          have hib : (i : Int) ≤ 50 := by omega
          by_cases hlt : i < m
          · have him : (i : Int) < (m : Int) := by omega
            obtain ⟨x, hx⟩ : ∃ x, o[i]? = some x := ⟨_, List.getElem?_eq_getElem (by have := HLM.out; omega)⟩
            obtain ⟨oa, rfl, hoc⟩ : ∃ oa, OA = some ⟨oa, 0, none⟩ ∧ wr.cell? ⟨oa, i, none⟩ = some (.int .i64 (x : Int)) := by
              rcases HK.out.oo.2 with ⟨hv, h3⟩ | ⟨g', cap, cur, hv, _⟩
              · omega
              · simp only [Value.slice.injEq, true_and] at hv
                obtain ⟨rfl, rfl⟩ := hv
                have := HK.out.oo.cells (g := g') rfl i (.int .i64 (x : Int)) (by unfold rowN; rw [List.getElem?_map, hx]; rfl)
                rw [add_zero_at] at this
                exact ⟨g', rfl, this⟩
            have hxo := HPK.out.nodup.2 x (List.mem_of_getElem? hx)
            have hxn : x < fn := by have := HGL.out; omega
            have HXN := Lib.hid hxn
            have HX := Lib.hid hx
            have p0 : wr.cell? ⟨pb, x, none⟩ = some (.int .i64 0) := by have := HK.out.pc.at_ x _ (arrC_at _ hxn); rw [plc_new HPK.out.nodup.1 hx] at this; exact this
            have p0f : wr.frozen? ⟨pb, x, none⟩ = false := HK.out.pc.fz x (by rw [arrC_len]; exact hxn)
            have hx0 : (0 : Int) ≤ (x : Int) := by omega
            have hxn1 : (x : Int) < (fn : Int) := by omega
            have t1 : decide ((x : Int) < 0) = false := by simp
            have t2 : decide ((x : Int) ≥ (fn : Int)) = false := by simp; omega
            have t2' : decide (fn ≤ x) = false := by simp; omega
            have t4 : decide ((0 : Int) > 0) = false := by decide
            clear hx hxo hxn
            go_wp2_with fail
            go_roundw
            case rel => exact ⟨i + 1, by go_num, by omega, Lib.hid (HK.out.put HPK.out.nodup.1 HX.out HXN.out _ (by first | rfl | omega))⟩
            case measure => simp [intOf]; omega
          · obtain rfl : i = m := by omega
            have HF : Hid (PbW w1 fn pb OA i oc o o.length wr) := Lib.hid (by have := HK.out; rw [HLM.out]; exact this)
            have q4 := EQ.out wr HK.out.bw
            have cT := Lib.hid (cB.out wr HK.out.bw)
            go_wp2_with fail
            refine cT.out.mono ?_
            rintro e w6 ⟨A6, c6, rfl, hg6, hb6⟩
            have HF6 := Lib.hid (HF.out.on hb6)
            rw [HGG.out] at hg6
            have HG6 : Hid (∀ W, Below w6.heap.size w6 W → GrW W w6.heap.size A6 fn c6 G) := Lib.hid fun W hW => hg6.keep hW
            clear hb6 hg6 cT q4
            go_wp2_with fail
            go_loopw [10] (fun av wr => ∃ a : Nat, av = .int .i64 a ∧ a ≤ fn ∧ Hid (PbW w1 fn pb OA i oc o o.length wr ∧ Below w6.heap.size w6 wr)) (fun av _ => fn - (intOf av).toNat)
            case atStart => exact ⟨0, rfl, Nat.zero_le _, Lib.hid ⟨HF6.out, Below.refl _ _⟩⟩
            case round =>
              clear HF HF6 HK
              obtain ⟨a, rfl, ha, HK⟩ := hrel
              have ha0 : (0 : Int) ≤ (a : Int) := by omega
              by_cases hal : a < fn
              · have han : (a : Int) < (fn : Int) := by omega
                go_wp2_with fail
                go_loopw [11] (fun kv wr => ∃ k : Nat, kv = .int .i64 k ∧ k ≤ (rowG G a).length ∧ Hid (PbW w1 fn pb OA i oc o o.length wr ∧ Below w6.heap.size w6 wr)) (fun kv _ => (rowG G a).length - (intOf kv).toNat)
                case atStart => exact ⟨0, rfl, Nat.zero_le _, HK⟩
                case round =>
                  clear HK
                  obtain ⟨k, rfl, hk, HK⟩ := hrel
                  obtain ⟨bg, og, Ar, nr, cr, rfl, hbg, hgc, hrw⟩ := (HG6.out _ HK.out.2).row hal
                  have hnr : (rowG G a).length = nr := hrw.1
                  have HNR := Lib.hid hnr
                  have hk0 : (0 : Int) ≤ (k : Int) := by omega
                  have hkb : (k : Int) ≤ 60 := by have := HROW.out a; omega
                  by_cases hkl : k < nr
                  · have hkn : (k : Int) < (nr : Int) := by omega
                    obtain ⟨b2, o2, tv, rfl, hb2, htv, hct⟩ := SlR.cell1 (f := Value.int .i64) hrw hkl
                    have HT := Lib.hid htv
                    have hmem : tv ∈ rowG G a := List.mem_of_getElem? htv
                    obtain ⟨t, rfl, htn⟩ : ∃ t : Nat, tv = (t : Int) ∧ t < fn := by
                      rw [← HGG.out, takesU_row _ _ hal, rowU_mem] at hmem
                      obtain ⟨s, _, hok, _, hts⟩ := hmem
                      have h1 := okS_range hok
                      have h2 := HSM.out.2
                      exact ⟨tv.toNat, by omega, by omega⟩
                    have ht0 : (0 : Int) ≤ (t : Int) := by omega
                    have htn1 : (t : Int) < (fn : Int) := by omega
                    obtain ⟨p1, hp1⟩ : ∃ p, plc o o.length t = p := ⟨_, rfl⟩
                    obtain ⟨p2, hp2⟩ : ∃ p, plc o o.length a = p := ⟨_, rfl⟩
                    have u4 : decide (p1 ≥ p2) = false := by
                      have hr : Rp G a t := ⟨t, ⟨by have := HGL.out; omega, hmem⟩, .refl t⟩
                      have hne : t ≠ a := fun e => by subst e; exact HNO.out t hal hr
                      have hst := HSELF.out t htn
                      have q1 := HPK.out.before a t (HALL.out a hal) hr (by rw [hst]; exact hne)
                      rw [hst] at q1
                      have q3 := plc_full q1.2
                      have q5 := plc_full (HALL.out a hal)
                      rw [hp1] at q3
                      rw [hp2] at q5
                      have q4 := q1.1
                      simp
                      omega
                    have x0 : wr.cell? ⟨pb, t, none⟩ = some (.int .i64 p1) := by have := HK.out.1.pc.at_ t _ (arrC_at _ htn); rw [hp1] at this; exact this
                    have x1 : wr.cell? ⟨pb, a, none⟩ = some (.int .i64 p2) := by have := HK.out.1.pc.at_ a _ (arrC_at _ hal); rw [hp2] at this; exact this
                    clear htv hrw hb2 hbg hmem hp1 hp2
                    go_wp2_with fail
                    go_quiet (fail)
                    go_wp2_with fail
                    refine ⟨⟨k + 1, by go_num, by have := HNR.out; omega, Lib.hid ⟨HK.out.1.drewN _, below_drewN' HK.out.2 _⟩⟩, by have := HNR.out; simp [intOf]; omega⟩
                  · obtain rfl : k = nr := by omega
                    clear hrw
                    go_wp2_with fail
                    refine ⟨⟨a + 1, by go_num, by omega, HK⟩, by simp [intOf]; omega⟩
              · obtain rfl : a = fn := by omega
                have tmn : ((i : Int) == (a : Int)) = true := by have := HMN.out; simp; omega
                have q4 := EQ.out wr HK.out.1.bw
                go_wp2_with fail
                refine (hcl.out wr HK.out.1.bw).mono ?_
                rintro e w9 ⟨rfl, hb9⟩
                go_wp2_with fail
                go_ret
                exact ⟨rfl, hb9⟩
end Go.Proofs.Ytnfoahcdmaphnaa
