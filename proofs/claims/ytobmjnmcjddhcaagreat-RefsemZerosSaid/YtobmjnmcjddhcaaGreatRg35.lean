import Derived.Test.YtobmjnmcjddhcaaGreatRg34
set_option linter.unusedSimpArgs false
set_option linter.unusedVariables false
namespace Go.Proofs.YtobmjnmcjddhcaaGreat
section
set_option maxRecDepth 100000
set_option maxHeartbeats 8000000
open Go.RowKit
variable {T : Tag → Prop} {K : RK} {τ τ' τ3 τ4 : Nat → Tag} {w w' w3 w4 : World} {gs : List Nat} {g : Nat} {fr fp : Option Addr} {cb L : Nat} {s s' s3 t : Ms} {x x' x3 : Fr} {ys ys' ys3 : List Fr} {ch : List Bl}
def LeaveC (K : RK) (v : Nat) : Prop := ∀ (τ : Nat → Tag) (w : World) (gs : List Nat) (g : Nat) (fr fp : Option Addr) (cb : Nat) (s : Ms) (x : Fr) (ys : List Fr), XI K τ w gs g fr fp cb s x ys → OkM K.fs K.fuel s → x.mode = 1 → K.fuel - s.steps ≤ v →
 Calls Tryz.prog 103 #[ptrV K.m, ptrV g] w (LvP K τ w gs g fr fp cb s x ys)
def UnwC (K : RK) (v : Nat) : Prop := ∀ (τ : Nat → Tag) (w : World) (gs : List Nat) (g : Nat) (fr fp : Option Addr) (cb : Nat) (s : Ms) (x : Fr) (ys : List Fr) (A : Option Addr) (n c : Nat), XI K τ w gs g fr fp cb s x ys → OkM K.fs K.fuel s → x.mode = 2 → openB x.ch = true → ChZ τ w A n c x.ch → K.fuel - s.steps ≤ v →
 Calls Tryz.prog 102 #[ptrV K.m, ptrV g, .slice A n c] w (LvP K τ w gs g fr fp cb s x ys)
def LvI (K : RK) (τ0 : Nat → Tag) (w0 : World) (gs : List Nat) (g : Nat) (fr fp : Option Addr) (cb : Nat) (s0 : Ms) (x0 : Fr) (ys0 : List Fr) (v mo : Nat) (b : Option Nat) (wr : World) : Prop := ∃ τ t x' ys', RchK K s0 t ∧ XI K τ wr gs g fr fp cb t x' ys' ∧ OkM K.fs K.fuel t ∧ Tr (TT (ys0.length + 1)) τ0 w0 τ wr ∧ x'.dfd = x0.dfd ∧ x'.by_ = x0.by_ ∧ Und ys0 ys' ∧ x'.mode = mo ∧ K.fuel - t.steps ≤ v ∧ ∀ b', b = some b' → openB x'.ch = true ∧ CtxZ τ wr (ys0.length + 1) b' x'.ch
theorem LvP.from {τ1 : Nat → Tag} {w1 : World} {x1 : Fr} {ys1 : List Fr} {e : Ending} (h : LvP K τ1 w1 gs g fr fp cb t x1 ys1 e w') (r : RchK K s t) (k : Tr (TT (ys.length + 1)) τ w τ1 w1) (hd : x1.dfd = x.dfd) (hb : x1.by_ = x.by_) (hu : Und ys ys1) : LvP K τ w gs g fr fp cb s x ys e w' := by
 rcases h with h | ⟨τ', t', x', ys', h1, h2, h3, h4, h5, h6, h7, h8⟩
 ·exact .inl ((h.lv hu).from r k)
 ·exact .inr ⟨τ', t', x', ys', Nat.le_trans (reach_steps r) h1, r.trans h2, h3, k.trans (by rw [hu.len] at h4; exact h4), h5.trans hd, h6.trans hb, hu.trans h7, h8⟩
theorem cs_nil (h : x.cs = []) : { x with cs := x.cs.dropLast } = x := by
 cases x
 subst h
 rfl
theorem end_open {c : Wt} {b : Bool} (hf : s.fr = x :: ys) (hm : x.mode = 1 ∨ (x.mode = 2 ∧ openB x.ch = true)) (hb : decide (x.mode = 2) = b) (hc : x.cs.getLast? = some c) : endM K.fs s = { s with fr := openF K.fs c.f c.args true b :: { x with cs := x.cs.dropLast } :: ys } := by
 subst hb
 unfold endM
 rw [hf]
 dsimp only
 rw [if_neg (by rcases hm with hm | ⟨hm, ho⟩ <;> simp [hm]; try simp [ho])]
 rw [hc]
theorem end_gone {y : Fr} {r : List Fr} (hf : t.fr = x :: y :: r) (hm : x.mode = 1) (hc : x.cs = []) (hd : x.dfd = true) : endM K.fs t = { t with fr := y :: r } := by
 unfold endM
 rw [hf]
 dsimp only
 rw [if_neg (by simp [hm]), hc]
 dsimp only [List.getLast?]
 rw [if_neg (by rw [hm]; decide)]
 unfold goneM
 rw [if_pos hd]
theorem end_fall {y : Fr} {r : List Fr} (hf : t.fr = x :: y :: r) (hm : x.mode = 2) (ho : openB x.ch = true) (hc : x.cs = []) (hd : x.dfd = true) : endM K.fs t = { t with fr := { y with st := [], mode := 2, ch := if y.mode = 2 then y.ch ++ x.ch else x.ch } :: r } := by
 unfold endM
 rw [hf]
 dsimp only
 rw [if_neg (by simp [ho]), hc]
 dsimp only [List.getLast?]
 rw [if_pos hm]
 unfold fallM
 dsimp only
 by_cases h2 : y.mode = 2
 ·rw [if_pos ⟨hd, h2⟩, if_pos h2]
 ·rw [if_neg (fun h => h2 h.2), if_neg h2]
theorem end_shut (hf : t.fr = x :: ys) (hm : x.mode = 2) (ho : openB x.ch = false) : endM K.fs t = { t with fr := { x with mode := 1, ch := [] } :: ys } := by
 unfold endM
 rw [hf]
 dsimp only
 rw [if_pos ⟨hm, ho⟩]
theorem und_one {y : Fr} {r ys2 : List Fr} (h : Und (y :: r) ys2) : ∃ y2, ys2 = y2 :: r ∧ y2.dfd = y.dfd ∧ y2.by_ = y.by_ ∧ y2.mode = y.mode ∧ y2.cs = y.cs ∧ y2.f = y.f := by
 rcases h with rfl | ⟨y', r', sl, ch, e, rfl⟩
 ·exact ⟨y, rfl, rfl, rfl, rfl, rfl, rfl⟩
 ·injection e with e1 e2
  subst e1; subst e2
  exact ⟨_, rfl, rfl, rfl, rfl, rfl, rfl⟩
theorem arg_len (hG : KG K) (hw : WfX K.fs x ys) {c : Wt} (hc : x.cs.getLast? = some c) : c.f < K.fn ∧ c.args.length ≤ 300 := by
 obtain ⟨h1, h2, _⟩ := hw.t.cs c (List.mem_of_getLast? hc)
 have h3 := hG.pg.pg.len
 have hf := hG.pg.pg.sm _ (fnOf_mem h1)
 unfold smallF smallB at hf
 simp only [Bool.and_eq_true, decide_eq_true_eq] at hf
 have h4 := kinds_len h2
 exact ⟨by omega, by omega⟩
theorem leave_step {v : Nat} (hI : CallC K v) (hG : KG K) (hU : ∀ v', v' < v → UnwC K v') : LeaveC K v := by
 intro τ w gs g fr fp cb s x ys h hok hm hsv
 have HB0 : Hid (LvI K τ w gs g fr fp cb s x ys v 1 none w) := Hd ⟨τ, s, x, ys, .refl _, h, hok, Tr.refl h.hz, rfl, rfl, .inl rfl, hm, hsv, (fun b' e => by cases e)⟩
 have HI := Hd hI
 have HG := Hd hG
 have HU := Hd hU
 obtain ⟨m, hkm⟩ : ∃ m, K.m = m := ⟨_, rfl⟩
 have HKM := Hd hkm
 rw [hkm]
 clear h hok hm hsv hI hG hU hkm
 go_in
 go_wp2_with fail
 go_loopw [5, 6, 7, 8, 9] (fun _ _ _ _ _ wr => Hid (LvI K τ w gs g fr fp cb s x ys v 1 none wr)) (fun _ _ _ _ _ wr => K.fuel - stW m wr)
 case atStart => exact HB0
 case round =>
  obtain ⟨τ1, t, x1, ys1, hr, hx, hok, hkt, hd1, hb1, hu1, hm1, hsu1, hcx⟩ := hrel.out
  have hw := hok.wf.x hx.fre
  have hlen : x1.cs.length ≤ 90000 := by
   have h1 := hok.sz.load
   have h2 := hok.fu
   have h3 := HG.out.fu
   rw [hx.fre] at h1
   have h4 : loadM (x1 :: ys1) = x1.cs.length + 1 + loadM ys1 := rfl
   omega
  have cN := Hd (znext hx.fz (by omega) hx.hz hlen)
  have HR := Hd hr
  have HX := Hd hx
  have HOK := Hd hok
  have HKT := Hd hkt
  have HD1 := Hd hd1
  have HB1 := Hd hb1
  have HU1 := Hd hu1
  have HM1 := Hd hm1
  have HSU := Hd hsu1
  have HW := Hd hw
  have HCX := Hd hcx
  have HMZ : Hid (stW m wr = t.steps) := Hd (by rw [← HKM.out]; exact hx.stw)
  clear hr hx hok hkt hd1 hb1 hu1 hm1 hsu1 hw hlen hcx
  go_wp2_with fail
  refine cN.out.mono ?_
  rintro e w2 ⟨τ2, hf2, hk2, hres⟩
  have hx2 := HX.out.own hk2 hf2 rfl rfl
  have HX2 := Hd hx2
  have HK2 := Hd hk2
  have HKT2 : Hid (Tr (TT (ys.length + 1)) τ w τ2 w2) := Hd (HKT.out.trans (hk2.mono fun t ht => TT.tf (by rw [HU1.out.len] at ht; exact ht)))
  clear hf2 hk2 hx2 cN
  rcases hres with ⟨hcn, rfl⟩ | ⟨cc, A, n, cap, l, hcl, rfl, hla, him⟩
  ·have HF : Hid (LvP K τ w gs g fr fp cb s x ys (.returned (.slice none 0 0)) w2) := Hd (.inr ⟨τ2, t, { x1 with cs := x1.cs.dropLast }, ys1, reach_steps HR.out, HR.out, HX2.out.ms id rfl rfl rfl rfl rfl (by rw [HX.out.fre, cs_nil hcn]), HKT2.out, HD1.out, HB1.out, HU1.out, by simp [hcn], .inl ⟨HM1.out, rfl⟩⟩)
   clear hcn
   go_wp2_with fail
   go_ret
   exact HF.out
  ·have hstep : stepM K.fs K.ds K.fuel t = some (endM K.fs t) := stepM_end HX.out.fre (by rw [HM1.out]; decide)
   have hend := end_open (K := K) HX.out.fre (.inl HM1.out) (b := false) (by rw [HM1.out]; rfl) hcl
   have hokc := step_ok HG.out.hf HOK.out hstep
   obtain ⟨hcf, hca⟩ := arg_len HG.out HW.out hcl
   have hnl : n ≤ 300 := by have h1 := him.len; have h2 := congrArg List.length hla; rw [List.length_map] at h2; omega
   rw [hend, ← hla] at hokc
   have cC := Hd (HI.out τ2 w2 (g :: gs) (some ⟨g, 0, none⟩) fr 0 { t with fr := { x1 with cs := x1.cs.dropLast } :: ys1 } ({ x1 with cs := x1.cs.dropLast } :: ys1) cc.f A n cap l true false (HX2.out.sub (fun e => by cases e)) hokc hcf hnl him (by have := HSU.out; exact this))
   rw [HKM.out, if_neg (by decide)] at cC
   have HRC : Hid (RchK K s { t with fr := openF K.fs cc.f (cnL l) true false :: { x1 with cs := x1.cs.dropLast } :: ys1 }) := Hd (HR.out.tail (by rw [hstep, hend, hla]))
   have HOKC := Hd hokc
   clear hstep hend hokc hcf hca hnl hla him hcl
   go_wp2_with fail
   refine cC.out.mono ?_
   rintro e w3 (hdry | ⟨τ3, t3, xc, yt, hst, hr3, hfr3, hcs3, hdf3, hci, hk3, hu3, hres3⟩)
   ·obtain ⟨rfl, hdr⟩ := hdry
    have HF : Hid (LvP K τ w gs g fr fp cb s x ys (.panicked dryE) w3) := Hd (.inl (DryP.from (DryP.lv (DryP.up ⟨rfl, hdr⟩) HU1.out) HRC.out HKT2.out))
    clear hdr cC
    go_wp2_with fail
    exact ⟨rfl, HF.out⟩
   obtain ⟨y2, rfl, hy1, hy2, hy3, hy4, hy5⟩ := und_one hu3
   have HX3 := Hd (HX2.out.back hk3 hci hy1 hy2)
   have HKT3 : Hid (Tr (TT (ys.length + 1)) τ w τ3 w3) := Hd (HKT2.out.trans (by have h9 : Tr (TT (ys1.length + 1)) τ2 w2 τ3 w3 := hk3.up; rw [HU1.out.len] at h9; exact h9))
   have HRT : Hid (RchK K s t3) := Hd (HRC.out.trans hr3)
   have HOK3 : Hid (OkM K.fs K.fuel t3) := Hd (reach_ok HG.out.hf HOKC.out hr3)
   have HST : Hid (t.steps < t3.steps) := Hd hst
   have HFR := Hd hfr3
   have HCS := Hd hcs3
   have HDF := Hd hdf3
   have HCI := Hd hci
   have HY : Hid (y2.dfd = x.dfd ∧ y2.by_ = x.by_ ∧ y2.mode = 1) := Hd ⟨hy1.trans HD1.out, hy2.trans HB1.out, hy3.trans HM1.out⟩
   clear hst hr3 hfr3 hcs3 hdf3 hci hk3 hu3 hy1 hy2 hy3 hy4 hy5 cC
   rcases hres3 with ⟨hmo, A2, n2, c2, l2, rfl, hl2, him2⟩ | ⟨hmo, hop, ad, n2, c2, rfl, hcz⟩
   ·have hend2 := end_gone (K := K) HFR.out hmo HCS.out HDF.out
    have hst2 : stepM K.fs K.ds K.fuel t3 = some (endM K.fs t3) := stepM_end HFR.out (by rw [hmo]; decide)
    rw [hend2] at hst2
    have HBI : Hid (LvI K τ w gs g fr fp cb s x ys v 1 none w3) := Hd ⟨τ3, _, y2, ys1, HRT.out.tail hst2, HX3.out, step_ok HG.out.hf HOK3.out hst2, HKT3.out, HY.out.1, HY.out.2.1, HU1.out, HY.out.2.2, (by have h1 := HSU.out; have h2 := HST.out; show K.fuel - t3.steps ≤ v; omega), (fun b' e => by cases e)⟩
    have HME : Hid (K.fuel - stW m w3 < K.fuel - stW m wr) := Hd (by
     rw [HMZ.out, show stW m w3 = t3.steps by rw [← HKM.out]; exact HX3.out.stw]
     have h1 := HST.out
     have h2 := HOK3.out.fu
     omega)
    clear hmo hl2 him2 hend2 hst2
    go_wp2_with fail
    go_roundw
    case rel => exact HBI
    case measure => exact HME.out
   ·have hend2 := end_fall (K := K) HFR.out hmo hop HCS.out HDF.out
    rw [if_neg (by rw [HY.out.2.2]; decide)] at hend2
    have hst2 : stepM K.fs K.ds K.fuel t3 = some (endM K.fs t3) := stepM_end HFR.out (by rw [hmo]; decide)
    rw [hend2] at hst2
    have hx4 : XI K τ3 w3 gs g fr fp cb { t3 with fr := { y2 with st := [], mode := 2, ch := xc.ch } :: ys1 } { y2 with st := [], mode := 2, ch := xc.ch } ys1 := HX3.out.ms (fun hf => hf.leave (by decide)) rfl rfl rfl rfl rfl rfl
    have cU := Hd (HU.out (K.fuel - t3.steps) (by have h1 := HSU.out; have h2 := HST.out; have h3 := HOK3.out.fu; omega) τ3 w3 gs g fr fp cb _ _ ys1 (some ad) n2 c2 hx4 (step_ok HG.out.hf HOK3.out hst2) rfl hop hcz (Nat.le_refl _))
    rw [HKM.out] at cU
    have HRU := Hd (HRT.out.tail hst2)
    clear hmo hop hcz hend2 hst2 hx4
    go_wp2_with fail
    refine cU.out.mono ?_
    rintro e w5 hl
    have HF := Hd (hl.from HRU.out HKT3.out HY.out.1 HY.out.2.1 HU1.out)
    clear cU
    rcases hl with ⟨rfl, _⟩ | ⟨τ5, t5, x5, ys5, _, _, _, _, _, _, _, _, ⟨_, rfl⟩ | ⟨_, _, ad5, n5, c5, rfl, _⟩⟩
    ·go_wp2_with fail
     exact ⟨rfl, HF.out⟩
    ·go_wp2_with fail
     go_ret
     exact HF.out
    ·go_wp2_with fail
     go_ret
     exact HF.out
end
section
set_option maxRecDepth 100000
set_option maxHeartbeats 8000000
open Go.RowKit
variable {T : Tag → Prop} {K : RK} {τ τ' τ3 τ4 : Nat → Tag} {w w' w3 w4 : World} {gs : List Nat} {g : Nat} {fr fp : Option Addr} {cb L : Nat} {s s' s3 t : Ms} {x x' x3 : Fr} {ys ys' ys3 : List Fr} {ch : List Bl}
theorem XI.cx {b : Nat} {u : Value} (h : XI K τ w gs g fr fp cb s x ys) (hb : τ b = (ys.length + 1, 4)) : XI K τ (w.setCell ⟨b, 0, none⟩ u) gs g fr fp cb s x ys ∧ Tr (fun t => t = (ys.length + 1, 4)) τ w τ (w.setCell ⟨b, 0, none⟩ u) := by
 have hk : Kp (fun j => j = b) w (w.setCell ⟨b, 0, none⟩ u) := (Kp.refl (fun j => j = b) w).setCell (p := ⟨b, 0, none⟩) (fun _ => rfl) _
 have hsz : (w.setCell ⟨b, 0, none⟩ u).heap.size = w.heap.size := by simp [World.setCell]
 have k : Tr (fun t => t = (ys.length + 1, 4)) τ w τ (w.setCell ⟨b, 0, none⟩ u) := ⟨hk.mono fun j _ e => by rw [e]; exact hb, fun _ _ => rfl, fun j hj => h.hz j (by omega)⟩
 have n0 : ¬ ((0, 0) : Tag) = (ys.length + 1, 4) := by simp
 refine ⟨⟨h.env.tr k n0, h.vm.tr k fun j e => by simp at e, h.tb.tr k fun l _ _ e => by simp at e, h.fz.tr k (fun j hj e => by simp at e; omega) n0, pr_tr h k rfl (fun j e => by simp at e) n0, h.nf, h.dn, h.bd, fun hb' => (h.ct hb').tr k (fun e => by simp at e) n0, h.fre⟩, k⟩
theorem bl_le (hok : OkM K.fs K.fuel t) (hG : KG K) (hf : t.fr = x :: ys) : x.ch.length ≤ 1500 := by
 have h1 := hok.sz.blm
 have h2 := hok.fu
 have h3 := hG.fu
 rw [hf] at h1
 have h4 : blmM (x :: ys) = x.ch.length + blmM ys := rfl
 omega
theorem unw_step {v : Nat} (hI : CallC K v) (hG : KG K) (hLv : ∀ v', v' < v → LeaveC K v') : UnwC K v := by
 intro τ w gs g fr fp cb s x ys A0 n0 c0 h hok hm hop hch hsv
 obtain ⟨b, hbe⟩ : ∃ b, w.heap.size = b := ⟨_, rfl⟩
 obtain ⟨w1, hw1⟩ : ∃ W, w.alloc (.cells #[.slice A0 n0 c0] 222) = W := ⟨_, rfl⟩
 have hsz : w1.heap.size = b + 1 := by rw [← hw1, ← hbe]; simp
 have hb1 : Below w.heap.size w w1 := by rw [← hw1]; exact (Below.refl _ _).alloc (Nat.le_refl _) _
 have hτ : ∀ j, w1.heap.size ≤ j → (fun j => if j = b then ((ys.length + 1, 4) : Tag) else τ j) j = (0, 0) := fun j hj => by
  show (if j = b then ((ys.length + 1, 4) : Tag) else τ j) = (0, 0)
  rw [if_neg (by omega)]
  exact h.hz j (by omega)
 have hk1 : Tr (fun _ => False) τ w (fun j => if j = b then ((ys.length + 1, 4) : Tag) else τ j) w1 := ⟨(Kp.refl _ _).ofBelow hb1, fun j hj => if_neg (by omega), hτ⟩
 obtain ⟨τ1, hτ1⟩ : ∃ t, (fun j => if j = b then ((ys.length + 1, 4) : Tag) else τ j) = t := ⟨_, rfl⟩
 have htb : τ1 b = (ys.length + 1, 4) := by rw [← hτ1]; exact if_pos rfl
 rw [hτ1] at hk1
 have e0 : w1.cell? ⟨b, 0, none⟩ = some (.slice A0 n0 c0) := by rw [← hw1, ← hbe]; simp [go_sem]
 have ef : w1.frozen? ⟨b, 0, none⟩ = false := by rw [← hw1, ← hbe]; simp [go_sem]
 have HB0 : Hid (LvI K τ w gs g fr fp cb s x ys v 2 (some b) w1) := Hd ⟨τ1, s, x, ys, .refl _, h.re hk1, hok, hk1.mono fun _ e => e.elim, rfl, rfl, .inl rfl, hm, hsv, fun b' e => by
  injection e with e
  subst e
  exact ⟨hop, htb, ef, A0, n0, c0, e0, hch.tr hk1 id⟩⟩
 have HI := Hd hI
 have HG := Hd hG
 have HLV := Hd hLv
 have HW1 := Hd hw1
 have HBE := Hd hbe
 obtain ⟨m, hkm⟩ : ∃ m, K.m = m := ⟨_, rfl⟩
 have HKM := Hd hkm
 rw [hkm]
 clear h hok hm hsv hI hG hLv hkm hop hch hsz hb1 hτ hk1 hτ1 htb e0 ef hw1 hbe
 go_in
 go_wp2_with fail
 rw [HW1.out, HBE.out]
 go_loopw [8, 9, 10, 11, 12] (fun _ _ _ _ _ wr => Hid (LvI K τ w gs g fr fp cb s x ys v 2 (some b) wr)) (fun _ _ _ _ _ wr => K.fuel - stW m wr)
 case atStart => exact HB0
 case round =>
  obtain ⟨τ1, t, x1, ys1, hr, hx, hok, hkt, hd1, hb1, hu1, hm1, hsu1, hcx⟩ := hrel.out
  have hw := hok.wf.x hx.fre
  have hlen : x1.cs.length ≤ 90000 := by
   have h1 := hok.sz.load
   have h2 := hok.fu
   have h3 := HG.out.fu
   rw [hx.fre] at h1
   have h4 : loadM (x1 :: ys1) = x1.cs.length + 1 + loadM ys1 := rfl
   omega
  have cN := Hd (znext hx.fz (by omega) hx.hz hlen)
  have HR := Hd hr
  have HX := Hd hx
  have HOK := Hd hok
  have HKT := Hd hkt
  have HD1 := Hd hd1
  have HB1 := Hd hb1
  have HU1 := Hd hu1
  have HM1 := Hd hm1
  have HSU := Hd hsu1
  have HW := Hd hw
  have HCX := Hd hcx
  have HMZ : Hid (stW m wr = t.steps) := Hd (by rw [← HKM.out]; exact hx.stw)
  clear hr hx hok hkt hd1 hb1 hu1 hm1 hsu1 hw hlen hcx
  go_wp2_with fail
  refine cN.out.mono ?_
  rintro e w2 ⟨τ2, hf2, hk2, hres⟩
  have hx2 := HX.out.own hk2 hf2 rfl rfl
  have HX2 := Hd hx2
  have HK2 := Hd hk2
  have HKT2 : Hid (Tr (TT (ys.length + 1)) τ w τ2 w2) := Hd (HKT.out.trans (hk2.mono fun t ht => TT.tf (by rw [HU1.out.len] at ht; exact ht)))
  clear hf2 hk2 hx2 cN
  obtain ⟨hop1, hcx1⟩ := HCX.out b rfl
  have hcx2 : CtxZ τ2 w2 (ys1.length + 1) b x1.ch := by
   rw [← HU1.out.len] at hcx1
   exact hcx1.tr HK2.out (fun e => e.2 rfl) (TF.no (by omega))
  have HOP := Hd hop1
  have HC2 := Hd hcx2
  clear hop1 hcx1 hcx2
  rcases hres with ⟨hcn, rfl⟩ | ⟨cc, A, n, cap, l, hcl, rfl, hla, him⟩
  ·obtain ⟨A3, n3, c3, q0, hch3⟩ := HC2.out.at_
   obtain ⟨ad, rfl⟩ := hch3.some_ HOP.out
   have HF : Hid (LvP K τ w gs g fr fp cb s x ys (.returned (.slice (some ad) n3 c3)) w2) := Hd (.inr ⟨τ2, t, { x1 with cs := x1.cs.dropLast }, ys1, reach_steps HR.out, HR.out, HX2.out.ms id rfl rfl rfl rfl rfl (by rw [HX.out.fre, cs_nil hcn]), HKT2.out, HD1.out, HB1.out, HU1.out, by simp [hcn], .inr ⟨HM1.out, HOP.out, ad, n3, c3, rfl, hch3⟩⟩)
   clear hcn hch3
   go_wp2_with fail
   go_ret
   exact HF.out
  ·have hstep : stepM K.fs K.ds K.fuel t = some (endM K.fs t) := stepM_end HX.out.fre (by rw [HM1.out]; decide)
   have hend := end_open (K := K) HX.out.fre (.inr ⟨HM1.out, HOP.out⟩) (b := true) (by rw [HM1.out]; rfl) hcl
   have hokc := step_ok HG.out.hf HOK.out hstep
   obtain ⟨hcf, hca⟩ := arg_len HG.out HW.out hcl
   have hnl : n ≤ 300 := by have h1 := him.len; have h2 := congrArg List.length hla; rw [List.length_map] at h2; omega
   rw [hend, ← hla] at hokc
   have cC := Hd (HI.out τ2 w2 (g :: gs) (some ⟨g, 0, none⟩) fr b { t with fr := { x1 with cs := x1.cs.dropLast } :: ys1 } ({ x1 with cs := x1.cs.dropLast } :: ys1) cc.f A n cap l true true (HX2.out.sub (fun _ => HC2.out)) hokc hcf hnl him (by have := HSU.out; exact this))
   rw [HKM.out, if_pos rfl] at cC
   have HRC : Hid (RchK K s { t with fr := openF K.fs cc.f (cnL l) true true :: { x1 with cs := x1.cs.dropLast } :: ys1 }) := Hd (HR.out.tail (by rw [hstep, hend, hla]))
   have HOKC := Hd hokc
   clear hstep hend hokc hcf hca hnl hla him hcl
   go_wp2_with fail
   refine cC.out.mono ?_
   rintro e w3 (hdry | ⟨τ3, t3, xc, yt, hst, hr3, hfr3, hcs3, hdf3, hci, hk3, hu3, hres3⟩)
   ·obtain ⟨rfl, hdr⟩ := hdry
    have HF : Hid (LvP K τ w gs g fr fp cb s x ys (.panicked dryE) w3) := Hd (.inl (DryP.from (DryP.lv (DryP.up ⟨rfl, hdr⟩) HU1.out) HRC.out HKT2.out))
    clear hdr cC
    go_wp2_with fail
    exact ⟨rfl, HF.out⟩
   obtain ⟨y2, rfl, hy1, hy2, hy3, hy4, hy5⟩ := und_one hu3
   have HX3 := Hd (HX2.out.back hk3 hci hy1 hy2)
   have HKT3 : Hid (Tr (TT (ys.length + 1)) τ w τ3 w3) := Hd (HKT2.out.trans (by have h9 : Tr (TT (ys1.length + 1)) τ2 w2 τ3 w3 := hk3.up; rw [HU1.out.len] at h9; exact h9))
   have HRT : Hid (RchK K s t3) := Hd (HRC.out.trans hr3)
   have HOK3 : Hid (OkM K.fs K.fuel t3) := Hd (reach_ok HG.out.hf HOKC.out hr3)
   have HST : Hid (t.steps < t3.steps) := Hd hst
   have HFR := Hd hfr3
   have HCS := Hd hcs3
   have HDF := Hd hdf3
   have HCI := Hd hci
   have HY : Hid (y2.dfd = x.dfd ∧ y2.by_ = x.by_ ∧ y2.mode = 2) := Hd ⟨hy1.trans HD1.out, hy2.trans HB1.out, hy3.trans HM1.out⟩
   clear hst hr3 hfr3 hcs3 hdf3 hci hk3 hu3 hy1 hy2 hy3 hy4 hy5 cC
   have hcx3 : CtxZ τ3 w3 (ys1.length + 1) b y2.ch := HCI.out.ct rfl
   have hst3 : stepM K.fs K.ds K.fuel t3 = some (endM K.fs t3) := stepM_end HFR.out (by rcases hres3 with ⟨hmo, _⟩ | ⟨hmo, _⟩ <;> rw [hmo] <;> decide)
   obtain ⟨RA, rn, rc, A2, n2, c2, t4, y4, chm, rfl, h4, hx4, hy4, hyc, hcm, hs4, hd4, hb4⟩ : ∃ RA rn rc A2 n2 c2 t4 y4 chm, e = .returned (.tuple #[.slice RA rn rc, .slice A2 n2 c2]) ∧ stepM K.fs K.ds K.fuel t3 = some t4 ∧ XI K τ3 w3 gs g fr fp cb t4 y4 ys1 ∧ y4.mode = 2 ∧ y4.ch = y2.ch ++ chm ∧ ChZ τ3 w3 A2 n2 c2 chm ∧ t4.steps = t3.steps ∧ y4.dfd = y2.dfd ∧ y4.by_ = y2.by_ := by
    rcases hres3 with ⟨hmo, A2, n2, c2, l2, rfl, hl2, him2⟩ | ⟨hmo, hop, ad, n2, c2, rfl, hcz⟩
    ·refine ⟨A2, n2, c2, none, 0, 0, _, y2, [], rfl, by rw [hst3, end_gone HFR.out hmo HCS.out HDF.out], HX3.out, HY.out.2.2, by rw [List.append_nil], ChZ.nil, rfl, rfl, rfl⟩
    ·refine ⟨none, 0, 0, some ad, n2, c2, { t3 with fr := { y2 with st := [], mode := 2, ch := y2.ch ++ xc.ch } :: ys1 }, { y2 with st := [], mode := 2, ch := y2.ch ++ xc.ch }, xc.ch, rfl, by rw [hst3, end_fall HFR.out hmo hop HCS.out HDF.out, if_pos HY.out.2.2], HX3.out.ms (fun hf => hf.leave (by decide)) rfl rfl rfl rfl rfl rfl, rfl, rfl, hcz, rfl, rfl, rfl⟩
   obtain ⟨A3, n3, c3, q0, hch3⟩ := hcx3.at_
   have hok4 := step_ok HG.out.hf HOK3.out h4
   have hlen4 := bl_le hok4 HG.out hx4.fre
   have hn3 : n3 ≤ 3000 := by have h1 := hch3.2.2.1; have h2 := congrArg List.length hyc; rw [List.length_append] at h2; omega
   have hn2 : n2 ≤ 3000 := by have h1 := hcm.2.2.1; have h2 := congrArg List.length hyc; rw [List.length_append] at h2; omega
   have cJ := Hd (zjoin hch3 hcm hx4.hz hn3 hn2)
   have hbl := hcx3.lt
   have HX4 := Hd hx4
   have HC3 := Hd hcx3
   have HR4 : Hid (RchK K s t4) := Hd (HRT.out.tail h4)
   have HOK4 := Hd hok4
   have HY4 : Hid (y4.mode = 2 ∧ y4.ch = y2.ch ++ chm ∧ t4.steps = t3.steps ∧ y4.dfd = x.dfd ∧ y4.by_ = x.by_ ∧ y4.ch.length ≤ 1500) := Hd ⟨hy4, hyc, hs4, hd4.trans HY.out.1, hb4.trans HY.out.2.1, hlen4⟩
   have HBL := Hd hbl
   clear hst3 h4 hx4 hy4 hyc hcm hs4 hd4 hb4 hch3 hok4 hlen4 hn3 hn2 hcx3 hbl hres3
   go_wp2_with fail
   refine cJ.out.mono ?_
   rintro e w4 ⟨A4, c4, rfl, hcj, hbj⟩
   have p0 : w4.cell? ⟨b, 0, none⟩ = some (.slice A3 n3 c3) := (hbj.cell (p := ⟨b, 0, none⟩) HBL.out).trans q0
   have pf : w4.frozen? ⟨b, 0, none⟩ = false := (hbj.frozen (p := ⟨b, 0, none⟩) HBL.out).trans HC3.out.fz
   rw [← HY4.out.2.1] at hcj
   have hcx := (HX4.out.on hbj).cx (b := b) (u := .slice A4 (n3 + n2) c4) HC3.out.tg
   obtain ⟨w5, hw5⟩ : ∃ z, w4.setCell ⟨b, 0, none⟩ (.slice A4 (n3 + n2) c4) = z := ⟨_, rfl⟩
   rw [hw5] at hcx
   have hcz5 : ChZ τ3 w5 A4 (n3 + n2) c4 y4.ch := hcj.tr hcx.2 (by simp)
   have q5 : w5.cell? ⟨b, 0, none⟩ = some (.slice A4 (n3 + n2) c4) := by rw [← hw5]; simp [go_sem, p0]
   have qf5 : w5.frozen? ⟨b, 0, none⟩ = false := by rw [← hw5]; exact (World.frozen?_setCell _ _ _ _).trans pf
   have HCX5 : Hid (CtxZ τ3 w5 (ys1.length + 1) b y4.ch) := Hd ⟨HC3.out.tg, qf5, A4, _, c4, q5, hcz5⟩
   have cO := Hd (zopen hcz5 (by have h1 := hcz5.2.2.1; have h2 := HY4.out.2.2.2.2.2; omega))
   have HX5 := Hd hcx.1
   have HK5 : Hid (Tr (TT (ys.length + 1)) τ w τ3 w5) := Hd (HKT3.out.trans ((Tr.below HX4.out.hz hbj).trans (hcx.2.mono fun t e => by rw [e, HU1.out.len]; exact TT.own)))
   have HW5 := Hd hw5
   clear hcj hbj hcx hcz5 qf5 q0 cJ hw5
   go_wp2_with fail
   rw [HW5.out]
   clear p0 pf HW5
   refine cO.out.mono ?_
   rintro e w6 ⟨rfl, hw6⟩
   obtain rfl := hw6
   obtain ⟨ob, hob⟩ : ∃ o, openB y4.ch = o := ⟨_, rfl⟩
   rw [hob]
   have HOB := Hd hob
   clear hob cO
   cases ob with
   | true =>
    have HBI : Hid (LvI K τ w gs g fr fp cb s x ys v 2 (some b) w5) := Hd ⟨τ3, t4, y4, ys1, HR4.out, HX5.out, HOK4.out, HK5.out, HY4.out.2.2.2.1, HY4.out.2.2.2.2.1, HU1.out, HY4.out.1, (by have h1 := HSU.out; have h2 := HST.out; have h3 := HY4.out.2.2.1; omega), fun b' e => by
     injection e with e
     subst e
     exact ⟨HOB.out, by rw [← HU1.out.len]; exact HCX5.out⟩⟩
    have HME : Hid (K.fuel - stW m w5 < K.fuel - stW m wr) := Hd (by
     rw [HMZ.out, show stW m w5 = t4.steps by rw [← HKM.out]; exact HX5.out.stw]
     have h1 := HST.out
     have h2 := HOK3.out.fu
     have h3 := HY4.out.2.2.1
     omega)
    go_wp2_with fail
    go_roundw
    case rel => exact HBI
    case measure => exact HME.out
   | false =>
    have hst5 : stepM K.fs K.ds K.fuel t4 = some (endM K.fs t4) := stepM_end HX5.out.fre (by rw [HY4.out.1]; decide)
    rw [end_shut HX5.out.fre HY4.out.1 HOB.out] at hst5
    have hx6 : XI K τ3 w5 gs g fr fp cb { t4 with fr := { y4 with mode := 1, ch := [] } :: ys1 } { y4 with mode := 1, ch := [] } ys1 := HX5.out.ms (fun hf => hf.leave (st := y4.st) (by decide)) rfl rfl rfl rfl rfl rfl
    have cL := Hd (HLV.out (K.fuel - t4.steps) (by have h1 := HSU.out; have h2 := HST.out; have h3 := HOK3.out.fu; have h4 := HY4.out.2.2.1; omega) τ3 w5 gs g fr fp cb _ _ ys1 hx6 (step_ok HG.out.hf HOK4.out hst5) rfl (Nat.le_refl _))
    rw [HKM.out] at cL
    have HRL := Hd (HR4.out.tail hst5)
    clear hst5 hx6
    go_wp2_with fail
    refine cL.out.mono ?_
    rintro e w7 hl
    have HF := Hd (hl.from HRL.out HK5.out HY4.out.2.2.2.1 HY4.out.2.2.2.2.1 HU1.out)
    clear cL
    rcases hl with ⟨rfl, _⟩ | ⟨τ7, t7, x7, ys7, _, _, _, _, _, _, _, _, ⟨_, rfl⟩ | ⟨_, _, ad7, n7, c7, rfl, _⟩⟩
    ·go_wp2_with fail
     exact ⟨rfl, HF.out⟩
    ·go_wp2_with fail
     go_ret
     exact HF.out
    ·go_wp2_with fail
     go_ret
     exact HF.out
theorem both_any (hG : KG K) : ∀ v, CallC K v → LeaveC K v ∧ UnwC K v := by
 intro v
 induction v using Nat.strongRecOn with
 | _ v ih =>
  intro hI
  have h1 : ∀ v', v' < v → LeaveC K v' ∧ UnwC K v' := fun v' hv => ih v' hv (hI.mono (Nat.le_of_lt hv))
  exact ⟨leave_step hI hG fun v' hv => (h1 v' hv).2, unw_step hI hG fun v' hv => (h1 v' hv).1⟩
end
end Go.Proofs.YtobmjnmcjddhcaaGreat
