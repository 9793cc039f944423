/-
  Circles: the walk of SccBehind.
-/
import Derived.Test.YtpkbhldafmmglaaSc12
namespace Go.Proofs.Ytpkbhldafmmglaa
open Go.RowKit
set_option linter.unusedSimpArgs false
set_option linter.unusedVariables false
structure PlW (w : World) (n : Nat) (pb h : Nat) (l : Nat → Nat) (OA : Option Addr) (m oc : Nat) (o : List Nat) (i : Nat) (W : World) : Prop where
  pc : Cells W pb (arrC n (plc o i))
  hc : Cells W h (arrC n fun i => (l i : Int))
  oo : W.ownsRow w.heap.size 3 1 (.slice OA m oc) m (rowN o)
  ne : h ≠ pb ∧ (Value.slice OA m oc).ownBlock ≠ some pb ∧ w.heap.size ≤ pb
  bw : Below w.heap.size w W
theorem PlW.on {w : World} {n : Nat} {pb h : Nat} {l : Nat → Nat} {OA : Option Addr} {m oc : Nat} {o : List Nat} {i : Nat} {W W' : World} (H : PlW w n pb h l OA m oc o i W) (hb : Below W.heap.size W W') : PlW w n pb h l OA m oc o i W' :=
  ⟨H.pc.on hb, H.hc.on hb, own_keep H.oo hb, H.ne, H.bw.trans (hb.mono H.bw.size)⟩
theorem PlW.drewN {w : World} {n : Nat} {pb h : Nat} {l : Nat → Nat} {OA : Option Addr} {m oc : Nat} {o : List Nat} {i : Nat} {W : World} (H : PlW w n pb h l OA m oc o i W) (a : Nat) : PlW w n pb h l OA m oc o i (W.drewN a) := H.on (below_drewN' (Below.refl _ _) a)
theorem PlW.put {w : World} {n : Nat} {pb h : Nat} {l : Nat → Nat} {OA : Option Addr} {m oc : Nat} {o : List Nat} {i x : Nat} {W : World} (H : PlW w n pb h l OA m oc o i W) (hnd : o.Nodup) (hx : o[i]? = some x) (hxn : x < n) (z : Int) (hz : z = (i : Int) + 1) : PlW w n pb h l OA m oc o (i + 1) (W.setCell ⟨pb, x, none⟩ (.int .i64 z)) := by
  subst hz
  have h1 := H.pc.put x (by rw [arrC_len]; exact hxn) (.int .i64 ((i : Int) + 1))
  rw [arrC_set, plc_succ hnd hx] at h1
  exact ⟨h1, H.hc.far H.ne.1 _, (kp_set W pb x _).own H.oo (fun k hk e => by have e' : k = pb := e; rw [e'] at hk; exact H.ne.2.1 hk), H.ne, H.bw.setCell (p := ⟨pb, x, none⟩) H.ne.2.2 _⟩
set_option maxRecDepth 100000 in
set_option maxHeartbeats 16000000 in
theorem sccBehind_walk (GA : Option Addr) (n gc : Nat) (g : Gr) (w : World) (h0 : SlR 1 24 (RSl 1 8 (RInt .i64)) w w.heap.size GA n gc g) :
    Calls Try.prog 4 #[.slice GA n gc] w fun e w' => e = .returned (.bool true) ∧ Below w.heap.size w w' := by
  have hG := grw_of h0
  have HG : Hid (∀ W, Below w.heap.size w W → GrW W W.heap.size GA n gc g) := Lib.hid fun W hW => (hG.keep hW).more hW.size
  have HGB : Hid (∀ W, Below w.heap.size w W → GrW W w.heap.size GA n gc g) := Lib.hid fun W hW => hG.keep hW
  have HGL : Hid (g.length = n) := Lib.hid hG.1
  have cl := Lib.hid scc_lives
  have cS := Lib.hid (smallg_any w.heap.size GA n gc g w hG)
  clear hG h0
  go_enter Try.func4, Try.ntmps4
  go_wp2_with fail
  refine cS.out.mono ?_
  rintro e w' ⟨r, rfl, hr, rfl⟩
  have HR := Lib.hid hr
  clear hr cS
  cases r with
  | false =>
    go_wp2_with fail
    refine (cl.out w).mono ?_
    rintro e w' ⟨rfl, hb⟩
    go_wp2_with fail
    go_ret
    exact ⟨rfl, hb⟩
  | true =>
    obtain ⟨hnn, hrow⟩ := HR.out rfl
    have HROW := Lib.hid hrow
    obtain ⟨zc, hzc, hmk⟩ := made_int n (by omega)
    have HZ := Lib.hid hzc
    have cA := Lib.hid (least_any GA n gc g w (HG.out w (Below.refl _ _)) hnn hrow)
    have cB : Hid (∀ W, Below w.heap.size w W → Calls Try.prog 8 #[.slice GA n gc] W (IsOrd g W)) := Lib.hid fun W hW => order_any GA n gc g W (HG.out W hW) hnn HROW.out
    have tnn : ((n : Int) != (n : Int)) = false := by simp
    clear hrow hzc HR
    go_wp2_with fail
    refine cA.out.mono ?_
    rintro e w1 ⟨h, l, rfl, hl, hc, hh1, hb1⟩
    have HL := Lib.hid hl
    have HH1 := Lib.hid (And.intro hc hh1)
    have HB1 := Lib.hid hb1
    clear hl hc hh1 hb1 cA
    go_wp2_with fail
    refine (cB.out w1 HB1.out).mono ?_
    rintro e w2 ⟨OA, m, oc, o, l2, d, rfl, ho, hl2, hp2, hn2, hb2⟩
    have HO := Lib.hid ho
    have heq : ∀ v, v < g.length → l2 v = l v := fun v hv => hl2.uniq HL.out hv
    have HP := Lib.hid (hp2.congr heq)
    have HN : Hid (∀ x, ¬ Cand g l d x) := Lib.hid fun x hcx => hn2 x (hcx.congr fun v hv => (heq v hv).symm)
    have HB2 : Hid (Below w.heap.size w w2) := Lib.hid (HB1.out.trans (hb2.mono HB1.out.size))
    have HLM : Hid (o.length = m) := Lib.hid (by have h1 := ho.1; unfold rowN at h1; rw [List.length_map] at h1; omega)
    have hm40 : m ≤ 40 := by have h1 := hp2.len; have h2 := HLM.out; have := HGL.out; omega
    have HC2 := Lib.hid (HH1.out.1.on hb2)
    have HSW : Hid (w.heap.size ≤ w1.heap.size) := Lib.hid HB1.out.size
    clear ho hl2 hp2 hn2 hb2 heq cB
    obtain ⟨pb, hpb⟩ : ∃ pb, w2.heap.size = pb := ⟨_, rfl⟩
    obtain ⟨w3, hw3⟩ : ∃ X, w2.alloc (.cells zc 3) = X := ⟨_, rfl⟩
    have HPL : Hid (PlW w n pb h l OA m oc o 0 w3) := Lib.hid (by
      have hbo : Below w2.heap.size w2 w3 := by rw [← hw3]; exact bl_one _
      refine ⟨?_, HC2.out.on hbo, own_less (own_keep HO.out hbo) HSW.out, ⟨by have := HC2.out.lt; omega, fun e => by have := (HO.out.lt _ e).2; omega, by have := HB2.out.size; omega⟩, HB2.out.trans (hbo.mono HB2.out.size)⟩
      rw [plc_zero, ← hw3, ← hpb, ← HZ.out]
      exact Cells.new w2 zc.toList _)
    have hwz := hpb
    go_wp2_with fail
    clear hw3 hwz hpb
    go_loopw [6] (fun iv wr => ∃ i : Nat, iv = .int .i64 i ∧ i ≤ m ∧ Hid (PlW w n pb h l OA m oc o i wr)) (fun iv _ => m - (intOf iv).toNat)
    case atStart => exact ⟨0, rfl, Nat.zero_le _, HPL⟩
    case round =>
      clear HPL
      obtain ⟨i, rfl, hi, HK⟩ := hrel
      have hi0 : (0 : Int) ≤ (i : Int) := by omega
      have hib : (i : Int) ≤ 40 := by omega
      by_cases hlt : i < m
      · have him : (i : Int) < (m : Int) := by omega
        obtain ⟨x, hx⟩ : ∃ x, o[i]? = some x := ⟨_, List.getElem?_eq_getElem (by have := HLM.out; omega)⟩
        obtain ⟨oa, rfl, hoc⟩ : ∃ oa, OA = some ⟨oa, 0, none⟩ ∧ wr.cell? ⟨oa, i, none⟩ = some (.int .i64 (x : Int)) := by
          rcases HK.out.oo.2 with ⟨hv, h3⟩ | ⟨g', cap, cur, hv, _⟩
          · omega
          · simp only [Value.slice.injEq, true_and] at hv
            obtain ⟨rfl, rfl⟩ := hv
            have := HK.out.oo.cells (g := g') rfl i (.int .i64 (x : Int)) (by unfold rowN; rw [List.getElem?_map, hx]; rfl)
            rw [add_zero_at] at this
            exact ⟨g', rfl, this⟩
        have hxo := HP.out.nodup.2 x (List.mem_of_getElem? hx)
        have hxn : x < n := by have := HGL.out; omega
        have HXN := Lib.hid hxn
        have HX := Lib.hid hx
        have l0 : wr.cell? ⟨h, x, none⟩ = some (.int .i64 (x : Int)) := by have := HK.out.hc.at_ x _ (arrC_at _ hxn); rw [hxo.2] at this; exact this
        have p0 : wr.cell? ⟨pb, x, none⟩ = some (.int .i64 0) := by have := HK.out.pc.at_ x _ (arrC_at _ hxn); rw [plc_new HP.out.nodup.1 hx] at this; exact this
        have p0f : wr.frozen? ⟨pb, x, none⟩ = false := HK.out.pc.fz x (by rw [arrC_len]; exact hxn)
        have hx0 : (0 : Int) ≤ (x : Int) := by omega
        have hxn1 : (x : Int) < (n : Int) := by omega
        have t1 : decide ((x : Int) < 0) = false := by simp
        have t2 : decide ((x : Int) ≥ (n : Int)) = false := by simp; omega
        have t2' : decide (n ≤ x) = false := by simp; omega
        have t3 : ((x : Int) != (x : Int)) = false := by simp
        have t4 : decide ((0 : Int) > 0) = false := by decide
        clear hx hxo hxn
        go_wp2_with fail
        go_quiet (fail)
        go_wp2_with fail
        refine ⟨⟨i + 1, by go_num, by omega, Lib.hid ((HK.out.drewN _).put HP.out.nodup.1 HX.out HXN.out _ (by first | rfl | omega))⟩, by simp [intOf]; omega⟩
      · obtain rfl : i = m := by omega
        have HF : Hid (PlW w n pb h l OA i oc o o.length wr) := Lib.hid (by have := HK.out; rw [HLM.out]; exact this)
        go_wp2_with fail
        go_loopw [7] (fun av w4 => ∃ a : Nat, av = .int .i64 a ∧ a ≤ n ∧ Hid (PlW w n pb h l OA i oc o o.length w4)) (fun av _ => n - (intOf av).toNat)
        case atStart => exact ⟨0, rfl, Nat.zero_le _, HF⟩
        case round =>
          clear HF HK
          obtain ⟨a, rfl, ha, HK⟩ := hrel
          have ha0 : (0 : Int) ≤ (a : Int) := by omega
          have hab : (a : Int) ≤ 40 := by omega
          by_cases hal : a < n
          · have han : (a : Int) < (n : Int) := by omega
            have hag : a < g.length := by have := HGL.out; omega
            have HAG := Lib.hid hag
            have hla : l a ≤ a := HL.out.le hag
            have hlo : l a ∈ o := HP.out.all HL.out HN.out (l a) (HL.out.lt hag) (HL.out.idem hag)
            have HLO := Lib.hid hlo
            obtain ⟨p2, hp2⟩ : ∃ p, plc o o.length (l a) = p := ⟨_, rfl⟩
            have hp2v := plc_full hlo
            rw [hp2] at hp2v
            have HP2 := Lib.hid hp2v
            have l0 : wr.cell? ⟨h, a, none⟩ = some (.int .i64 (l a : Int)) := HK.out.hc.at_ a _ (arrC_at _ hal)
            have p0 : wr.cell? ⟨pb, l a, none⟩ = some (.int .i64 p2) := by have := HK.out.pc.at_ (l a) _ (arrC_at _ (by omega)); rw [hp2] at this; exact this
            have hl0 : (0 : Int) ≤ (l a : Int) := by omega
            have hln : (l a : Int) < (n : Int) := by omega
            have t1 : decide ((l a : Int) < 0) = false := by simp
            have t2 : decide ((l a : Int) > (a : Int)) = false := by simp; omega
            have t2' : decide (a < l a) = false := by simp; omega
            have t3 : (p2 == 0) = false := by simp; omega
            have HPE : Hid (plc o o.length (l a) = p2) := Lib.hid hp2
            have HLA : Hid (l a < n) := Lib.hid (by omega)
            clear hla hlo hp2v hp2 hag
            go_wp2_with fail
            clear l0 p0
            go_loopw [8] (fun kv w5 => ∃ k : Nat, kv = .int .i64 k ∧ k ≤ (rowG g a).length ∧ Hid (PlW w n pb h l OA i oc o o.length w5)) (fun kv _ => (rowG g a).length - (intOf kv).toNat)
            case atStart => exact ⟨0, rfl, Nat.zero_le _, HK⟩
            case round =>
              clear HK
              obtain ⟨k, rfl, hk, HK⟩ := hrel
              obtain ⟨bg, og, Ar, nr, cr, rfl, hbg, hgc, hrw⟩ := (HGB.out _ HK.out.bw).row hal
              have hnr : (rowG g a).length = nr := hrw.1
              have HNR := Lib.hid hnr
              have hk0 : (0 : Int) ≤ (k : Int) := by omega
              have hkb : (k : Int) ≤ 60 := by have := HROW.out a; omega
              by_cases hkl : k < nr
              · have hkn : (k : Int) < (nr : Int) := by omega
                obtain ⟨b2, o2, tv, rfl, hb2, htv, hct⟩ := SlR.cell1 (f := Value.int .i64) hrw hkl
                have HT := Lib.hid htv
                clear htv hrw hb2 hbg
                by_cases htr : 0 ≤ tv
                · have u1 : decide (tv ≥ 0) = true := by simpa using htr
                  by_cases htn : tv < (n : Int)
                  · have u2 : decide (tv < (n : Int)) = true := by simpa using htn
                    obtain ⟨t, rfl⟩ : ∃ t : Nat, tv = (t : Int) := ⟨tv.toNat, by omega⟩
                    have htg : t < n := by omega
                    have ht0 : (0 : Int) ≤ (t : Int) := by omega
                    have htn1 : (t : Int) < (n : Int) := by omega
                    have u2' : decide (t < n) = true := by simpa using htg
                    have htl : t < g.length := by have := HGL.out; omega
                    have m0 : wr.cell? ⟨h, t, none⟩ = some (.int .i64 (l t : Int)) := HK.out.hc.at_ t _ (arrC_at _ htg)
                    have m1 : wr.cell? ⟨h, a, none⟩ = some (.int .i64 (l a : Int)) := HK.out.hc.at_ a _ (arrC_at _ hal)
                    have hlt2 : l t < n := by have := HL.out.lt htl; have := HGL.out; omega
                    have hlt0 : (0 : Int) ≤ (l t : Int) := by omega
                    have hltn : (l t : Int) < (n : Int) := by omega
                    by_cases hle : l t = l a
                    · have u3 : ((l t : Int) != (l a : Int)) = false := by simp [hle]
                      have u3' : ((l a : Int) != (l a : Int)) = false := by simp
                      clear hle htr htn htg htl hlt2
                      go_wp2_with fail
                      go_quiet (fail)
                      go_wp2_with fail
                      refine ⟨⟨k + 1, by go_num, by have := HNR.out; omega, Lib.hid (HK.out.drewN _)⟩, by have := HNR.out; simp [intOf]; omega⟩
                    · have u3 : ((l t : Int) != (l a : Int)) = true := by simp; omega
                      obtain ⟨p1, hp1⟩ : ∃ p, plc o o.length (l t) = p := ⟨_, rfl⟩
                      have HBE : Hid (decide (p1 > p2) = false) := Lib.hid (by
                        have hr : Rp g (l a) t := ((HL.out a HAG.out).1.2).rp ⟨t, ⟨htl, List.mem_of_getElem? HT.out⟩, .refl t⟩
                        obtain ⟨q1, q2⟩ := HP.out.before (l a) t HLO.out hr hle
                        have q3 := plc_full q2
                        rw [hp1] at q3
                        have q4 := HP2.out
                        simp
                        omega)
                      have u4 := HBE.out
                      have x0 : wr.cell? ⟨pb, l t, none⟩ = some (.int .i64 p1) := by have := HK.out.pc.at_ (l t) _ (arrC_at _ hlt2); rw [hp1] at this; exact this
                      have x1 : wr.cell? ⟨pb, l a, none⟩ = some (.int .i64 p2) := by have := HK.out.pc.at_ (l a) _ (arrC_at _ HLA.out); rw [HPE.out] at this; exact this
                      clear hle htr htn htg htl hlt2 hp1
                      go_wp2_with fail
                      go_quiet (fail)
                      go_wp2_with fail
                      refine ⟨⟨k + 1, by go_num, by have := HNR.out; omega, Lib.hid (HK.out.drewN _)⟩, by have := HNR.out; simp [intOf]; omega⟩
                  · have u2 : decide (tv < (n : Int)) = false := by simpa using htn
                    clear htr htn
                    go_wp2_with fail
                    go_quiet (fail)
                    go_wp2_with fail
                    refine ⟨⟨k + 1, by go_num, by have := HNR.out; omega, Lib.hid (HK.out.drewN _)⟩, by have := HNR.out; simp [intOf]; omega⟩
                · have u1 : decide (tv ≥ 0) = false := by simpa using htr
                  clear htr
                  go_wp2_with fail
                  go_quiet (fail)
                  go_wp2_with fail
                  refine ⟨⟨k + 1, by go_num, by have := HNR.out; omega, Lib.hid (HK.out.drewN _)⟩, by have := HNR.out; simp [intOf]; omega⟩
              · obtain rfl : k = nr := by omega
                clear hrw
                go_wp2_with fail
                refine ⟨⟨a + 1, by go_num, by omega, HK⟩, by simp [intOf]; omega⟩
          · obtain rfl : a = n := by omega
            have HBW := Lib.hid HK.out.bw
            go_wp2_with fail
            refine (cl.out _).mono ?_
            rintro e w9 ⟨rfl, hb9⟩
            have HB9 : Hid (Below w.heap.size w w9) := Lib.hid (HBW.out.trans (hb9.mono HBW.out.size))
            clear hb9
            go_wp2_with fail
            go_ret
            exact ⟨rfl, HB9.out⟩
end Go.Proofs.Ytpkbhldafmmglaa
