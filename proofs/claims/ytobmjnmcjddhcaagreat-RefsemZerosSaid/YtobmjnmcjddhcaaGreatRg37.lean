import Derived.Test.YtobmjnmcjddhcaaGreatRg2
import Derived.Test.YtobmjnmcjddhcaaGreatRg36
set_option linter.unusedSimpArgs false
set_option linter.unusedVariables false
set_option maxRecDepth 100000
set_option maxHeartbeats 8000000
namespace Go.Proofs.YtobmjnmcjddhcaaGreat
open Go.RowKit
variable {T : Tag → Prop} {K : RK} {τ τ' τ3 τ4 : Nat → Tag} {w w' w3 w4 : World} {gs : List Nat} {g : Nat} {fr fp : Option Addr} {cb L : Nat} {s s' s3 t : Ms} {x x' x3 : Fr} {ys ys' ys3 : List Fr} {ch : List Bl}
def NoPan (Q : Exit → Act → World → Prop) : Exit → Act → World → Prop
 | .panic _, _, _ => False
 | e, a, w => Q e a w
theorem NoPan.normal {Q : Exit → Act → World → Prop} {a : Act} {w : World} (h : Q .normal a w) : NoPan Q .normal a w := h
theorem wp_region_np {P : Program} {id : Nat} {ops : Array Oper} {b : Bool} {Q : Exit → Act → World → Prop} {a : Act} {w : World} (h : (Code.region id ops b).wp P (NoPan Q) a w) : (Code.region id ops b).wp P Q a w :=
 Code.wp_mono (fun e a w h => by cases e <;> first | exact h | exact (h : False).elim) h
theorem src_fr (W : World) (g : Nat) : SrcCells (W.alloc (.cells #[ptrV g] 47)) (some ⟨W.heap.size, 0, none⟩) 1 1 [ptrV g] :=
 own_src (World.ownsRow_lit (base := W.heap.size) (e := 47) (size := 1) W #[ptrV g] 1 (Nat.le_refl _) (by unfold maxLen; omega) rfl)
theorem one_fr (g : Nat) : ∀ u ∈ [ptrV g], u.oneCell' = true := by
 intro u hu
 simp at hu
 subst hu
 rfl
theorem call_step {u : Nat} (hG : KG K) (hI : ∀ v, v < u → CallC K v) : CallC K u := by
 intro τ w gs fr fp cb s ys f A n c l dfd by_ hc hok hf hn him hsu
 have hmf : ∀ (fn : Fn) (first cap : Array Value) (w : World), (Instr.makeFunc fn first cap).run Tryz.prog w = .ok (.func fn first cap) w := fun _ _ _ _ => rfl
 obtain ⟨i0, hi, hz0, hz1, hz2⟩ := info_parts info_frp
 obtain ⟨m, hkm⟩ : ∃ m, K.m = m := ⟨_, rfl⟩
 obtain ⟨b5, hb5⟩ : ∃ b, w.heap.size = b := ⟨_, rfl⟩
 obtain ⟨w0, hw0⟩ : ∃ W, w.alloc (.cells #[ptrV m] 117) = W := ⟨_, rfl⟩
 have hb0 : Below w.heap.size w w0 := by rw [← hw0]; exact (Below.refl _ _).alloc (Nat.le_refl _) _
 have q0 : w0.cell? ⟨b5, 0, none⟩ = some (ptrV m) := by rw [← hw0, ← hb5]; simp [go_sem]
 have hk0 : Tr (fun _ => False) τ w τ w0 := Tr.below hc.env.z hb0
 have cN := Hd (znew (L := ys.length + 1) (mc := c) hG.pg (hc.env.tr hk0 id) (by omega) hf (him.on hb0).srcv hn fr dfd by_)
 obtain ⟨PA, pn, pc, EA, en, ec, evs, hv⟩ := hc.vm
 have hml : m < w0.heap.size := by rw [← hkm]; exact Nat.lt_of_lt_of_le hv.lt hb0.size
 have q1 : w0.cell? ⟨m, 0, none⟩ = some (.slice K.FA K.fn K.fc) := by rw [← hkm]; exact (hv.tr' hk0 (fun _ => id)).c0
 have HV0 : Hid (VMr K τ w0 gs s PA pn pc EA en ec evs) := Hd (hv.tr' hk0 (fun _ => id))
 have HC := Hd hc
 have HK0 := Hd hk0
 have HB5 : Hid (τ b5 = (0, 0)) := Hd (hc.env.z b5 (by omega))
 have HG := Hd hG
 have HI := Hd hI
 have HOK := Hd hok
 have HSU := Hd hsu
 have HKM := Hd hkm
 have HGL : Hid (gs.length ≤ 9000) := Hd (by
  have h1 := hok.sz.load
  have h2 := hok.fu
  have h3 := hG.fu
  have h4 := (hc.tb.at_).1
  have h5 := load_len ys
  have h6 : loadM (openF K.fs f (cnL l) dfd by_ :: ys) = 0 + 1 + loadM ys := rfl
  simp only at h1 h2
  rw [h6] at h1
  omega)
 have HQ0 := Hd q0
 have HBL : Hid (b5 < w0.heap.size) := Hd (World.block_lt_of_cell? _ _ q0)
 have HML := Hd hml
 obtain ⟨bv, hbv⟩ : ∃ v, (if by_ = true then Value.pointer (some ⟨cb, 0, none⟩) else .pointer none) = v := ⟨_, rfl⟩
 have HBV := Hd hbv
 rw [hkm, hbv]
 clear hc hok hf hn him hsu hG hI hkm hv hb0 hk0 hbv hml
 go_enter_defers Tryz.func75, Tryz.ntmps75
 go_wp2_with fail
 refine cN.out.mono ?_
 rintro e w1 ⟨g, rfl, hgw, τ1, hfz, hk1⟩
 have HFZ := Hd hfz
 have HK1 := Hd hk1
 have hv1 := HV0.out.tr' hk1 (fun _ => id)
 have HV1 := Hd hv1
 have g5 := hv1.c5
 have f5 := hv1.fz 5
 have hr5 := hv1.r5
 rw [HKM.out] at g5 f5 hr5
 have hbx1 := hk1.cellv HQ0.out id
 have HT1 : Hid (τ1 b5 = (0, 0) ∧ τ1 m = (0, 1)) := Hd ⟨(hk1.eq b5 HBL.out).trans HB5.out, by rw [← HKM.out]; exact hv1.tm⟩
 have hpn : pn ≤ 9000 := by have h1 := hr5.1; have h2 := HGL.out; simp at h1; omega
 have hbm1 : ¬ (b5 = m ∨ PA = some ⟨b5, 0, none⟩) := fun h => by
  rcases h with h | h
  ·have h1 := HT1.out.1; rw [h, HT1.out.2] at h1; simp at h1
  ·have h1 := HT1.out.1; rw [hv1.t5 b5 h] at h1; simp at h1
 have HNB := Hd hbm1
 have HB1L : Hid (b5 < w1.heap.size) := Hd (World.block_lt_of_cell? _ _ hbx1)
 have hm1 : m < w1.heap.size := Nat.lt_of_lt_of_le HML.out hk1.kp.size
 have HBX : Hid (∀ W : World, Kp (fun k => k = m ∨ PA = some ⟨k, 0, none⟩) w1 W → W.cell? ⟨b5, 0, none⟩ = some (ptrV m)) := Hd fun W hW => hW.cellv hbx1 HNB.out
 have hk4 : Kp (fun _ => False) w1 (w1.drew.alloc (.cells #[ptrV g] 47)) := ((Kp.refl _ _).drew).alloc _
 have HF : Hid (∀ (W' : World) (A' : Option Addr) (c' : Nat), W'.ownsRow (m + 1) 47 1 (.slice A' (pn + 1) c') (pn + 1) (gs.reverse.map ptrV ++ [ptrV g]) → Kp (fun k => PA = some (⟨k, 0, none⟩ : Addr)) (w1.drew.alloc (.cells #[ptrV g] 47)) W' → (A' = PA ∨ ∃ k, A' = some ⟨k, 0, none⟩ ∧ (w1.drew.alloc (.cells #[ptrV g] 47)).heap.size ≤ k) → Pushed 5 (m + 1) 47 1 m PA pn (gs.reverse.map ptrV ++ [ptrV g]) A' c' w1 (W'.setCell ⟨m, 5, none⟩ (.slice A' (pn + 1) c')) ∧ W'.cell? ⟨m, 5, none⟩ = some (.slice PA pn pc) ∧ W'.frozen? ⟨m, 5, none⟩ = false) := Hd fun W' A' c' hown hk hA => push_fin g5 f5 (Nat.lt_succ_self _) (RowF.ofOwn hr5) hk4 hown hk hA
 have HOPEN : Hid (∀ (W' : World) (A' : Option Addr) (c' : Nat), W'.ownsRow (m + 1) 47 1 (.slice A' (pn + 1) c') (pn + 1) (gs.reverse.map ptrV ++ [ptrV g]) → Pushed 5 (m + 1) 47 1 m PA pn (gs.reverse.map ptrV ++ [ptrV g]) A' c' w1 (W'.setCell ⟨m, 5, none⟩ (.slice A' (pn + 1) c')) → ∃ τ3, XI K τ3 (W'.setCell ⟨m, 5, none⟩ (.slice A' (pn + 1) c')) gs g fr fp cb { s with fr := openF K.fs f (cnL l) dfd by_ :: ys } (openF K.fs f (cnL l) dfd by_) ys ∧ Tr TV τ w τ3 (W'.setCell ⟨m, 5, none⟩ (.slice A' (pn + 1) c')) ∧ τ3 b5 = (0, 0)) := Hd fun W' A' c' hown hp => by
  have ho : (W'.setCell ⟨m, 5, none⟩ (.slice A' (pn + 1) c')).ownsRow (m + 1) 47 1 (.slice A' (pn + 1) c') (pn + 1) (gs.reverse.map ptrV ++ [ptrV g]) := own_kpF hown ((Kp.refl (fun j => j = m) W').setCell (p := ⟨m, 5, none⟩) (fun _ => rfl) _) fun j e e' => by have := (row_ge (RowF.ofOwn hown) e).1; omega
  rw [← HKM.out] at hp ho ⊢
  obtain ⟨τ3, h1, h2⟩ := vm_push (g := g) HV1.out HK1.out.z hp ho
  have hk : Tr TV τ w τ3 _ := ((HK0.out.trans HK1.out).mono fun _ e => e.elim).trans h2
  exact ⟨τ3, HC.out.xi hk h1 (HFZ.out.tr h2 (fun j _ e => by have := e.1; simp at this) TV.no) rfl rfl, hk, (h2.eq b5 HB1L.out).trans HT1.out.1⟩
 have HBX5 : Hid (∀ (W' : World) (A' : Option Addr) (c' : Nat), W'.ownsRow (m + 1) 47 1 (.slice A' (pn + 1) c') (pn + 1) (gs.reverse.map ptrV ++ [ptrV g]) → Pushed 5 (m + 1) 47 1 m PA pn (gs.reverse.map ptrV ++ [ptrV g]) A' c' w1 (W'.setCell ⟨m, 5, none⟩ (.slice A' (pn + 1) c')) → (W'.setCell ⟨m, 5, none⟩ (.slice A' (pn + 1) c')).cell? ⟨b5, 0, none⟩ = some (ptrV m)) := Hd fun W' A' c' _ hp => HBX.out _ hp.kp
 have hsrc := Hd (src_fr w1.drew g)
 have hone := Hd (one_fr g)
 have hrow : Hid (RowF (w1.drew.alloc (.cells #[ptrV g] 47)) (m + 1) 47 1 PA pn pc (gs.reverse.map ptrV)) := Hd (RowF.kp (RowF.ofOwn hr5) hk4 fun _ _ h => h)
 have hbase : Hid (m + 1 ≤ (w1.drew.alloc (.cells #[ptrV g] 47)).heap.size) := Hd (by have := hk4.size; omega)
 have hS0 : Kp (fun k => k = m ∨ PA = some ⟨k, 0, none⟩) w1 w1.drew := (Kp.refl _ _).drew
 have hS4 : Kp (fun k => k = m ∨ PA = some ⟨k, 0, none⟩) w1 (w1.drew.alloc (.cells #[ptrV g] 47)) := hk4.mono fun _ _ h => h.elim
 have g4 : (w1.drew.alloc (.cells #[ptrV g] 47)).cell? ⟨m, 5, none⟩ = some (.slice PA pn pc) := hk4.cellv g5 id
 clear hfz hk1 hv1 f5 hr5 hgw hk4 q0 q1 hbm1 cN hbx1
 go_wp2_with fail
 refine wp_region_np ?_
 refine wp_region_held (S := fun W => Kp (fun k => k = m ∨ PA = some ⟨k, 0, none⟩) w1 W) (by kernel_rfl) ?_
 change wpAnyH _ _ _ _ _ _ _ _ (World.drew _)
 refine tkH 0 rfl (by intro W hW; have r0 := HBX.out W hW; go_simp; first | done | exact rfl) hS0 ?_
 try go_simp
 refine tkH 1 rfl (by intro W hW; have r0 := HBX.out W hW; go_simp; first | done | exact rfl) hS0 ?_
 try go_simp
 refine tkH 2 rfl (by intro W hW; go_simp; first | done | exact rfl) hS0 ?_
 try go_simp
 refine tkH 3 rfl (by intro W hW; go_simp; first | done | exact rfl) hS0 ?_
 try go_simp
 refine tkH 5 rfl (by intro W hW; go_simp; first | done | exact rfl) hS0 ?_
 try go_simp
 refine wpAnyH_two (i := 4) (j := 6) (by kernel_rfl) rfl rfl (fun K' hK => ?_) (fun K' hK => ?_)
 ·go_simp
  refine hK _ _ ⟨hS0, ?_⟩; clear hK K'
  try go_simp
  refine wpAnyH_one (i := 6) (by kernel_rfl) rfl (fun K' hK => ?_)
  go_simp
  refine hK _ _ ⟨hS4, ?_⟩; clear hK K'
  try go_simp
  refine wpAnyH_one (i := 7) (by kernel_rfl) rfl (fun K' hK => ?_)
  refine step_append_rowF _ rfl (.tmp 26) (.tmp 28) 118 rfl (m + 1) 47 i0 (.pointer none) 1 8 Tryz.underlying118 hi hz0 hz1 hz2 rfl (by decide) PA pn pc (gs.reverse.map ptrV) ?qq1 hrow.out ⟨w1.heap.size, 0, none⟩ 1 1 (by decide) [ptrV g] ?qq2 hsrc.out hone.out (by unfold maxLen; omega) (by omega) hbase.out ?_
  case qq1 => go_simp
  case qq2 => go_simp
  intro A' c' W' hown hkA hA
  have F := Hd (HF.out W' A' c' hown hkA hA)
  have e0 := F.out.2.1
  have e1 := F.out.2.2
  have hS5 : Kp (fun k => k = m ∨ PA = some ⟨k, 0, none⟩) w1 W' := hS4.trans (hkA.mono fun j _ e => .inr e)
  have HOW := Hd hown
  clear hown hkA hA
  refine hK _ _ ⟨hS5, ?_⟩; clear hK K'
  refine wpAnyH_one (i := 8) (by kernel_rfl) rfl (fun K' hK => ?_)
  go_simp
  refine hK _ _ ⟨hS5, ?_⟩; clear hK K'
  try go_simp
  refine wpAnyH_one (i := 9) (by kernel_rfl) rfl (fun K' hK => ?_)
  go_simp
  refine hK _ _ ⟨hS5, ?_⟩; clear hK K'
  try go_simp
  refine wpAnyH_one (i := 10) (by kernel_rfl) rfl (fun K' hK => ?_)
  go_simp
  refine hK _ _ ⟨(hS5.setCell (p := ⟨m, 5, none⟩) (fun _ => .inl rfl) _), ?_⟩; clear hK K'
  try go_simp
  refine wpAnyH_done (by kernel_rfl) ?_ _
  refine NoPan.normal ?_
  obtain ⟨wr, hwr⟩ : ∃ z, W'.setCell ⟨m, 5, none⟩ (.slice A' (pn + 1) c') = z := ⟨_, rfl⟩
  obtain ⟨τ3, hx3, hk3, ht3⟩ := HOPEN.out W' A' c' HOW.out F.out.1
  have HX3 := Hd hx3
  have HK3 := Hd hk3
  rw [hwr] at HX3 HK3
  have hbx3 : wr.cell? ⟨b5, 0, none⟩ = some (ptrV m) := by rw [← hwr]; exact HBX5.out W' A' c' HOW.out F.out.1
  have HWR := Hd hwr
  clear hx3 hk3 F HOW e0 e1 hS5 hwr hS0 hS4
  have cB := Hd (body_any HI.out HG.out HX3.out HOK.out rfl HSU.out)
  rw [HKM.out] at cB
  have HBX3 := Hd hbx3
  have HTB : Hid (τ3 b5 = (0, 0)) := Hd ht3
  have hbyv : byV (openF K.fs f (cnL l) dfd by_) cb = bv := HBV.out
  rw [hbyv] at cB
  rw [HWR.out]
  clear hbyv
  go_wp2_with fail
  refine cB.out.mono ?_
  rintro e w4 (hdry | ⟨τ4, t4, x4, ys4, hst4, hr4, hx4, hk4, hd4, hby4, hu4, hres⟩)
  ·obtain ⟨rfl, τ5, t5, hk5, henv, hvm, hrr, hne, hnone⟩ := hdry
   have hbx5 : w4.cell? ⟨b5, 0, none⟩ = some (ptrV m) := hk5.cellv HBX3.out (by rw [HTB.out]; exact TT.no (by omega))
   have cE := Hd (pop_any b5 hvm henv.z (by rw [HKM.out]; exact hbx5) ((hk5.eq b5 (World.block_lt_of_cell? _ _ HBX3.out)).trans HTB.out) (by have := HGL.out; omega) (.panicking dryE))
   have HF : Hid (∀ wq, (VM K τ5 wq gs t5 ∧ Tr TV τ5 w4 τ5 wq) → CallP K τ w gs fr fp cb { s with fr := openF K.fs f (cnL l) dfd by_ :: ys } ys dfd by_ (.panicked dryE) wq) := Hd fun wq hq => .inl ⟨rfl, τ5, t5, ((HK3.out.mono fun _ => TV.tt).trans hk5).trans (hq.2.mono fun _ => TV.tt), henv.tr hq.2 TV.no, hq.1, hrr, hne, hnone⟩
   clear hk5 henv hvm hrr hne hnone hbx3 cB
   go_wp2_with fail
   refine leaves_cons (f := 99) (args := #[.pointer (some ⟨b5, 0, none⟩)]) (by simp) (by simp [go_sem]) ?_
   refine cE.out.mono ?_
   rintro e u' wq ⟨rfl, ⟨uv, rfl⟩, hvq, hkq⟩
   exact HF.out wq ⟨hvq, hkq⟩
  have hbx4 : w4.cell? ⟨b5, 0, none⟩ = some (ptrV m) := hk4.cellv HBX3.out (by rw [HTB.out]; exact TT.no (by omega))
  have HX4 := Hd hx4
  have HKT4 : Hid (Tr (TT (ys.length + 1)) τ w τ4 w4) := Hd ((HK3.out.mono fun _ => TV.tt).trans hk4)
  have HD4 : Hid (x4.dfd = dfd ∧ x4.by_ = by_ ∧ Und ys ys4 ∧ s.steps < t4.steps) := Hd ⟨hd4, hby4, hu4, hst4⟩
  have HR4 := Hd hr4
  have HO4 := Hd (reach_ok HG.out.hf HOK.out hr4)
  have HTB4 : Hid (τ4 b5 = (0, 0)) := Hd ((hk4.eq b5 (World.block_lt_of_cell? _ _ HBX3.out)).trans HTB.out)
  have hlu : K.fuel - t4.steps < u := by
   have h1 := HSU.out
   have h2 := HO4.out.fu
   have h3 : s.steps + 1 ≤ t4.steps := hst4
   omega
  have HLU := Hd (both_any HG.out _ (HI.out _ hlu))
  clear hst4 hr4 hx4 hk4 hd4 hby4 hu4 hlu cB hbx3
  rcases hres with ⟨hm4, rfl⟩ | ⟨hm4, hop4, ad4, n4, c4, rfl, hcz4⟩
  ·have cO := Hd (zopen (w := w4) (ChZ.nil (τ := τ4)) (by omega))
   have cL := Hd (HLU.out.1 τ4 w4 gs g fr fp cb t4 x4 ys4 HX4.out HO4.out hm4 (Nat.le_refl _))
   rw [HKM.out] at cL
   clear hm4
   go_wp2_with fail
   refine cO.out.mono ?_
   rintro e w5 ⟨rfl, hw5⟩
   obtain rfl := hw5
   clear cO
   go_wp2_with fail
   refine cL.out.mono ?_
   rintro e w5 hl
   clear cL
   rcases hl with hdry | ⟨τ5, t5, x5, ys5, hst5, hr5, hx5, hk5, hd5, hby5, hu5, hcs5, hres⟩
   ·have hdry2 : DryP K τ4 w4 (ys.length + 1) t4 (g :: gs) e w5 := hdry.lv HD4.out.2.2.1
    obtain ⟨rfl, τ5, t5, hk5, henv, hvm, hrr, hne, hnone⟩ := hdry2.from HR4.out (Tr.refl HX4.out.hz)
    have hbx5 : w5.cell? ⟨b5, 0, none⟩ = some (ptrV m) := hk5.cellv hbx4 (by rw [HTB4.out]; exact TT.no (by omega))
    have cE := Hd (pop_any b5 hvm henv.z (by rw [HKM.out]; exact hbx5) ((hk5.eq b5 (World.block_lt_of_cell? _ _ hbx4)).trans HTB4.out) (by have := HGL.out; omega) (.panicking dryE))
    have HF : Hid (∀ wq, (VM K τ5 wq gs t5 ∧ Tr TV τ5 w5 τ5 wq) → CallP K τ w gs fr fp cb { s with fr := openF K.fs f (cnL l) dfd by_ :: ys } ys dfd by_ (.panicked dryE) wq) := Hd fun wq hq => .inl ⟨rfl, τ5, t5, (HKT4.out.trans hk5).trans (hq.2.mono fun _ => TV.tt), henv.tr hq.2 TV.no, hq.1, hrr, hne, hnone⟩
    clear hk5 henv hvm hrr hne hnone hbx4 hdry hdry2
    go_wp2_with fail
    refine leaves_cons (f := 99) (args := #[.pointer (some ⟨b5, 0, none⟩)]) (by simp) (by simp [go_sem]) ?_
    refine cE.out.mono ?_
    rintro e u' wq ⟨rfl, ⟨uv, rfl⟩, hvq, hkq⟩
    exact HF.out wq ⟨hvq, hkq⟩
   have hbx5 : w5.cell? ⟨b5, 0, none⟩ = some (ptrV m) := hk5.cellv hbx4 (by rw [HTB4.out]; exact TT.no (by omega))
   have HX5 := Hd hx5
   have HKT5 : Hid (Tr (TT (ys.length + 1)) τ w τ5 w5) := Hd (HKT4.out.trans (by rw [HD4.out.2.2.1.len] at hk5; exact hk5))
   have HTB5 : Hid (τ5 b5 = (0, 0)) := Hd ((hk5.eq b5 (World.block_lt_of_cell? _ _ hbx4)).trans HTB4.out)
   have HD5 : Hid (x5.dfd = dfd ∧ x5.by_ = by_ ∧ Und ys ys5 ∧ s.steps < t5.steps) := Hd ⟨hd5.trans HD4.out.1, hby5.trans HD4.out.2.1, HD4.out.2.2.1.trans hu5, by have h1 := HD4.out.2.2.2; omega⟩
   have HR5 := Hd (HR4.out.trans hr5)
   have HO5 := Hd (reach_ok HG.out.hf HO4.out hr5)
   have HCS5 := Hd hcs5
   clear hst5 hr5 hx5 hk5 hd5 hby5 hu5 hcs5 hbx4
   rcases hres with ⟨hm5, rfl⟩ | ⟨hm5, hop5, ad5, n5, c5, rfl, hcz5⟩
   ·have cZ := Hd (zresults HX5.out.fz HX5.out.hz (by have h1 := (HO5.out.wf.x HX5.out.fre).t.sl; have h2 := congrArg List.length h1; rwa [List.length_map] at h2))
    have HM5 := Hd hm5
    clear hm5
    go_wp2_with fail
    refine cZ.out.mono ?_
    rintro e w6 ⟨RA, rn, rc, rl, rfl, hrl, hrn, him6, hb6⟩
    have HX6 := Hd (HX5.out.on hb6)
    have HKT6 := Hd (HKT5.out.trans (Tr.below (T := TT (ys.length + 1)) HX5.out.hz hb6))
    have hbx6 := (hb6.cell (p := ⟨b5, 0, none⟩) (World.block_lt_of_cell? _ _ hbx5)).trans hbx5
    have cE := Hd (pop_any b5 HX6.out.vm HX6.out.hz (by rw [HKM.out]; exact hbx6) HTB5.out (by have := HGL.out; omega) .returning)
    have HF : Hid (∀ wq, (VM K τ5 wq gs t5 ∧ Tr TV τ5 w6 τ5 wq) → CallP K τ w gs fr fp cb { s with fr := openF K.fs f (cnL l) dfd by_ :: ys } ys dfd by_ (.returned (.tuple #[.slice RA rn rc, .slice none 0 0])) wq) := Hd fun wq hq => .inr ⟨τ5, t5, x5, ys5, HD5.out.2.2.2, HR5.out, HX6.out.fre, HCS5.out, HD5.out.1, (by have := HX6.out.popd hq.2 hq.1; rw [HD5.out.1, HD5.out.2.1] at this; exact this), HKT6.out.trans (hq.2.mono fun _ => TV.tt), HD5.out.2.2.1, .inl ⟨HM5.out, RA, rn, rc, rl, rfl, hrl, him6.tr hq.2 TV.no⟩⟩
    clear hrl hrn him6 hb6 hbx5 cZ
    go_wp2_with fail
    refine leaves_cons (f := 99) (args := #[.pointer (some ⟨b5, 0, none⟩)]) (by simp) (by simp [go_sem]) ?_
    refine cE.out.mono ?_
    rintro e u' wq ⟨rfl, ⟨uv, rfl⟩, hvq, hkq⟩
    exact ⟨_, (by simp [results, Tryz.results75, go_sem]), HF.out wq ⟨hvq, hkq⟩⟩
   ·have cE := Hd (pop_any b5 HX5.out.vm HX5.out.hz (by rw [HKM.out]; exact hbx5) HTB5.out (by have := HGL.out; omega) .returning)
    have HF : Hid (∀ wq, (VM K τ5 wq gs t5 ∧ Tr TV τ5 w5 τ5 wq) → CallP K τ w gs fr fp cb { s with fr := openF K.fs f (cnL l) dfd by_ :: ys } ys dfd by_ (.returned (.tuple #[.slice none 0 0, .slice (some ad5) n5 c5])) wq) := Hd fun wq hq => .inr ⟨τ5, t5, x5, ys5, HD5.out.2.2.2, HR5.out, HX5.out.fre, HCS5.out, HD5.out.1, (by have := HX5.out.popd hq.2 hq.1; rw [HD5.out.1, HD5.out.2.1] at this; exact this), HKT5.out.trans (hq.2.mono fun _ => TV.tt), HD5.out.2.2.1, .inr ⟨hm5, hop5, ad5, n5, c5, rfl, hcz5.tr hq.2 TV.no⟩⟩
    clear hm5 hop5 hcz5 hbx5
    go_wp2_with fail
    refine leaves_cons (f := 99) (args := #[.pointer (some ⟨b5, 0, none⟩)]) (by simp) (by simp [go_sem]) ?_
    refine cE.out.mono ?_
    rintro e u' wq ⟨rfl, ⟨uv, rfl⟩, hvq, hkq⟩
    exact ⟨_, (by simp [results, Tryz.results75, go_sem]), HF.out wq ⟨hvq, hkq⟩⟩
  ·have cO := Hd (zopen hcz4 (by have h1 := hcz4.2.2.1; have h2 := bl_le HO4.out HG.out HX4.out.fre; omega))
   rw [hop4] at cO
   have cL := Hd (HLU.out.2 τ4 w4 gs g fr fp cb t4 x4 ys4 (some ad4) n4 c4 HX4.out HO4.out hm4 hop4 hcz4 (Nat.le_refl _))
   rw [HKM.out] at cL
   clear hm4 hop4 hcz4
   go_wp2_with fail
   refine cO.out.mono ?_
   rintro e w5 ⟨rfl, hw5⟩
   obtain rfl := hw5
   clear cO
   go_wp2_with fail
   refine cL.out.mono ?_
   rintro e w5 hl
   clear cL
   rcases hl with hdry | ⟨τ5, t5, x5, ys5, hst5, hr5, hx5, hk5, hd5, hby5, hu5, hcs5, hres⟩
   ·have hdry2 : DryP K τ4 w4 (ys.length + 1) t4 (g :: gs) e w5 := hdry.lv HD4.out.2.2.1
    obtain ⟨rfl, τ5, t5, hk5, henv, hvm, hrr, hne, hnone⟩ := hdry2.from HR4.out (Tr.refl HX4.out.hz)
    have hbx5 : w5.cell? ⟨b5, 0, none⟩ = some (ptrV m) := hk5.cellv hbx4 (by rw [HTB4.out]; exact TT.no (by omega))
    have cE := Hd (pop_any b5 hvm henv.z (by rw [HKM.out]; exact hbx5) ((hk5.eq b5 (World.block_lt_of_cell? _ _ hbx4)).trans HTB4.out) (by have := HGL.out; omega) (.panicking dryE))
    have HF : Hid (∀ wq, (VM K τ5 wq gs t5 ∧ Tr TV τ5 w5 τ5 wq) → CallP K τ w gs fr fp cb { s with fr := openF K.fs f (cnL l) dfd by_ :: ys } ys dfd by_ (.panicked dryE) wq) := Hd fun wq hq => .inl ⟨rfl, τ5, t5, (HKT4.out.trans hk5).trans (hq.2.mono fun _ => TV.tt), henv.tr hq.2 TV.no, hq.1, hrr, hne, hnone⟩
    clear hk5 henv hvm hrr hne hnone hbx4 hdry hdry2
    go_wp2_with fail
    refine leaves_cons (f := 99) (args := #[.pointer (some ⟨b5, 0, none⟩)]) (by simp) (by simp [go_sem]) ?_
    refine cE.out.mono ?_
    rintro e u' wq ⟨rfl, ⟨uv, rfl⟩, hvq, hkq⟩
    exact HF.out wq ⟨hvq, hkq⟩
   have hbx5 : w5.cell? ⟨b5, 0, none⟩ = some (ptrV m) := hk5.cellv hbx4 (by rw [HTB4.out]; exact TT.no (by omega))
   have HX5 := Hd hx5
   have HKT5 : Hid (Tr (TT (ys.length + 1)) τ w τ5 w5) := Hd (HKT4.out.trans (by rw [HD4.out.2.2.1.len] at hk5; exact hk5))
   have HTB5 : Hid (τ5 b5 = (0, 0)) := Hd ((hk5.eq b5 (World.block_lt_of_cell? _ _ hbx4)).trans HTB4.out)
   have HD5 : Hid (x5.dfd = dfd ∧ x5.by_ = by_ ∧ Und ys ys5 ∧ s.steps < t5.steps) := Hd ⟨hd5.trans HD4.out.1, hby5.trans HD4.out.2.1, HD4.out.2.2.1.trans hu5, by have h1 := HD4.out.2.2.2; omega⟩
   have HR5 := Hd (HR4.out.trans hr5)
   have HO5 := Hd (reach_ok HG.out.hf HO4.out hr5)
   have HCS5 := Hd hcs5
   clear hst5 hr5 hx5 hk5 hd5 hby5 hu5 hcs5 hbx4
   rcases hres with ⟨hm5, rfl⟩ | ⟨hm5, hop5, ad5, n5, c5, rfl, hcz5⟩
   ·have cZ := Hd (zresults HX5.out.fz HX5.out.hz (by have h1 := (HO5.out.wf.x HX5.out.fre).t.sl; have h2 := congrArg List.length h1; rwa [List.length_map] at h2))
    have HM5 := Hd hm5
    clear hm5
    go_wp2_with fail
    refine cZ.out.mono ?_
    rintro e w6 ⟨RA, rn, rc, rl, rfl, hrl, hrn, him6, hb6⟩
    have HX6 := Hd (HX5.out.on hb6)
    have HKT6 := Hd (HKT5.out.trans (Tr.below (T := TT (ys.length + 1)) HX5.out.hz hb6))
    have hbx6 := (hb6.cell (p := ⟨b5, 0, none⟩) (World.block_lt_of_cell? _ _ hbx5)).trans hbx5
    have cE := Hd (pop_any b5 HX6.out.vm HX6.out.hz (by rw [HKM.out]; exact hbx6) HTB5.out (by have := HGL.out; omega) .returning)
    have HF : Hid (∀ wq, (VM K τ5 wq gs t5 ∧ Tr TV τ5 w6 τ5 wq) → CallP K τ w gs fr fp cb { s with fr := openF K.fs f (cnL l) dfd by_ :: ys } ys dfd by_ (.returned (.tuple #[.slice RA rn rc, .slice none 0 0])) wq) := Hd fun wq hq => .inr ⟨τ5, t5, x5, ys5, HD5.out.2.2.2, HR5.out, HX6.out.fre, HCS5.out, HD5.out.1, (by have := HX6.out.popd hq.2 hq.1; rw [HD5.out.1, HD5.out.2.1] at this; exact this), HKT6.out.trans (hq.2.mono fun _ => TV.tt), HD5.out.2.2.1, .inl ⟨HM5.out, RA, rn, rc, rl, rfl, hrl, him6.tr hq.2 TV.no⟩⟩
    clear hrl hrn him6 hb6 hbx5 cZ
    go_wp2_with fail
    refine leaves_cons (f := 99) (args := #[.pointer (some ⟨b5, 0, none⟩)]) (by simp) (by simp [go_sem]) ?_
    refine cE.out.mono ?_
    rintro e u' wq ⟨rfl, ⟨uv, rfl⟩, hvq, hkq⟩
    exact ⟨_, (by simp [results, Tryz.results75, go_sem]), HF.out wq ⟨hvq, hkq⟩⟩
   ·have cE := Hd (pop_any b5 HX5.out.vm HX5.out.hz (by rw [HKM.out]; exact hbx5) HTB5.out (by have := HGL.out; omega) .returning)
    have HF : Hid (∀ wq, (VM K τ5 wq gs t5 ∧ Tr TV τ5 w5 τ5 wq) → CallP K τ w gs fr fp cb { s with fr := openF K.fs f (cnL l) dfd by_ :: ys } ys dfd by_ (.returned (.tuple #[.slice none 0 0, .slice (some ad5) n5 c5])) wq) := Hd fun wq hq => .inr ⟨τ5, t5, x5, ys5, HD5.out.2.2.2, HR5.out, HX5.out.fre, HCS5.out, HD5.out.1, (by have := HX5.out.popd hq.2 hq.1; rw [HD5.out.1, HD5.out.2.1] at this; exact this), HKT5.out.trans (hq.2.mono fun _ => TV.tt), HD5.out.2.2.1, .inr ⟨hm5, hop5, ad5, n5, c5, rfl, hcz5.tr hq.2 TV.no⟩⟩
    clear hm5 hop5 hcz5 hbx5
    go_wp2_with fail
    refine leaves_cons (f := 99) (args := #[.pointer (some ⟨b5, 0, none⟩)]) (by simp) (by simp [go_sem]) ?_
    refine cE.out.mono ?_
    rintro e u' wq ⟨rfl, ⟨uv, rfl⟩, hvq, hkq⟩
    exact ⟨_, (by simp [results, Tryz.results75, go_sem]), HF.out wq ⟨hvq, hkq⟩⟩
 ·go_simp
  refine hK _ _ ⟨hS4, ?_⟩; clear hK K'
  try go_simp
  refine wpAnyH_one (i := 4) (by kernel_rfl) rfl (fun K' hK => ?_)
  go_simp
  refine hK _ _ ⟨hS4, ?_⟩; clear hK K'
  try go_simp
  refine wpAnyH_one (i := 7) (by kernel_rfl) rfl (fun K' hK => ?_)
  refine step_append_rowF _ rfl (.tmp 26) (.tmp 28) 118 rfl (m + 1) 47 i0 (.pointer none) 1 8 Tryz.underlying118 hi hz0 hz1 hz2 rfl (by decide) PA pn pc (gs.reverse.map ptrV) ?qq1 hrow.out ⟨w1.heap.size, 0, none⟩ 1 1 (by decide) [ptrV g] ?qq2 hsrc.out hone.out (by unfold maxLen; omega) (by omega) hbase.out ?_
  case qq1 => go_simp
  case qq2 => go_simp
  intro A' c' W' hown hkA hA
  have F := Hd (HF.out W' A' c' hown hkA hA)
  have e0 := F.out.2.1
  have e1 := F.out.2.2
  have hS5 : Kp (fun k => k = m ∨ PA = some ⟨k, 0, none⟩) w1 W' := hS4.trans (hkA.mono fun j _ e => .inr e)
  have HOW := Hd hown
  clear hown hkA hA
  refine hK _ _ ⟨hS5, ?_⟩; clear hK K'
  refine wpAnyH_one (i := 8) (by kernel_rfl) rfl (fun K' hK => ?_)
  go_simp
  refine hK _ _ ⟨hS5, ?_⟩; clear hK K'
  try go_simp
  refine wpAnyH_one (i := 9) (by kernel_rfl) rfl (fun K' hK => ?_)
  go_simp
  refine hK _ _ ⟨hS5, ?_⟩; clear hK K'
  try go_simp
  refine wpAnyH_one (i := 10) (by kernel_rfl) rfl (fun K' hK => ?_)
  go_simp
  refine hK _ _ ⟨(hS5.setCell (p := ⟨m, 5, none⟩) (fun _ => .inl rfl) _), ?_⟩; clear hK K'
  try go_simp
  refine wpAnyH_done (by kernel_rfl) ?_ _
  refine NoPan.normal ?_
  obtain ⟨wr, hwr⟩ : ∃ z, W'.setCell ⟨m, 5, none⟩ (.slice A' (pn + 1) c') = z := ⟨_, rfl⟩
  obtain ⟨τ3, hx3, hk3, ht3⟩ := HOPEN.out W' A' c' HOW.out F.out.1
  have HX3 := Hd hx3
  have HK3 := Hd hk3
  rw [hwr] at HX3 HK3
  have hbx3 : wr.cell? ⟨b5, 0, none⟩ = some (ptrV m) := by rw [← hwr]; exact HBX5.out W' A' c' HOW.out F.out.1
  have HWR := Hd hwr
  clear hx3 hk3 F HOW e0 e1 hS5 hwr hS0 hS4
  have cB := Hd (body_any HI.out HG.out HX3.out HOK.out rfl HSU.out)
  rw [HKM.out] at cB
  have HBX3 := Hd hbx3
  have HTB : Hid (τ3 b5 = (0, 0)) := Hd ht3
  have hbyv : byV (openF K.fs f (cnL l) dfd by_) cb = bv := HBV.out
  rw [hbyv] at cB
  rw [HWR.out]
  clear hbyv
  go_wp2_with fail
  refine cB.out.mono ?_
  rintro e w4 (hdry | ⟨τ4, t4, x4, ys4, hst4, hr4, hx4, hk4, hd4, hby4, hu4, hres⟩)
  ·obtain ⟨rfl, τ5, t5, hk5, henv, hvm, hrr, hne, hnone⟩ := hdry
   have hbx5 : w4.cell? ⟨b5, 0, none⟩ = some (ptrV m) := hk5.cellv HBX3.out (by rw [HTB.out]; exact TT.no (by omega))
   have cE := Hd (pop_any b5 hvm henv.z (by rw [HKM.out]; exact hbx5) ((hk5.eq b5 (World.block_lt_of_cell? _ _ HBX3.out)).trans HTB.out) (by have := HGL.out; omega) (.panicking dryE))
   have HF : Hid (∀ wq, (VM K τ5 wq gs t5 ∧ Tr TV τ5 w4 τ5 wq) → CallP K τ w gs fr fp cb { s with fr := openF K.fs f (cnL l) dfd by_ :: ys } ys dfd by_ (.panicked dryE) wq) := Hd fun wq hq => .inl ⟨rfl, τ5, t5, ((HK3.out.mono fun _ => TV.tt).trans hk5).trans (hq.2.mono fun _ => TV.tt), henv.tr hq.2 TV.no, hq.1, hrr, hne, hnone⟩
   clear hk5 henv hvm hrr hne hnone hbx3 cB
   go_wp2_with fail
   refine leaves_cons (f := 99) (args := #[.pointer (some ⟨b5, 0, none⟩)]) (by simp) (by simp [go_sem]) ?_
   refine cE.out.mono ?_
   rintro e u' wq ⟨rfl, ⟨uv, rfl⟩, hvq, hkq⟩
   exact HF.out wq ⟨hvq, hkq⟩
  have hbx4 : w4.cell? ⟨b5, 0, none⟩ = some (ptrV m) := hk4.cellv HBX3.out (by rw [HTB.out]; exact TT.no (by omega))
  have HX4 := Hd hx4
  have HKT4 : Hid (Tr (TT (ys.length + 1)) τ w τ4 w4) := Hd ((HK3.out.mono fun _ => TV.tt).trans hk4)
  have HD4 : Hid (x4.dfd = dfd ∧ x4.by_ = by_ ∧ Und ys ys4 ∧ s.steps < t4.steps) := Hd ⟨hd4, hby4, hu4, hst4⟩
  have HR4 := Hd hr4
  have HO4 := Hd (reach_ok HG.out.hf HOK.out hr4)
  have HTB4 : Hid (τ4 b5 = (0, 0)) := Hd ((hk4.eq b5 (World.block_lt_of_cell? _ _ HBX3.out)).trans HTB.out)
  have hlu : K.fuel - t4.steps < u := by
   have h1 := HSU.out
   have h2 := HO4.out.fu
   have h3 : s.steps + 1 ≤ t4.steps := hst4
   omega
  have HLU := Hd (both_any HG.out _ (HI.out _ hlu))
  clear hst4 hr4 hx4 hk4 hd4 hby4 hu4 hlu cB hbx3
  rcases hres with ⟨hm4, rfl⟩ | ⟨hm4, hop4, ad4, n4, c4, rfl, hcz4⟩
  ·have cO := Hd (zopen (w := w4) (ChZ.nil (τ := τ4)) (by omega))
   have cL := Hd (HLU.out.1 τ4 w4 gs g fr fp cb t4 x4 ys4 HX4.out HO4.out hm4 (Nat.le_refl _))
   rw [HKM.out] at cL
   clear hm4
   go_wp2_with fail
   refine cO.out.mono ?_
   rintro e w5 ⟨rfl, hw5⟩
   obtain rfl := hw5
   clear cO
   go_wp2_with fail
   refine cL.out.mono ?_
   rintro e w5 hl
   clear cL
   rcases hl with hdry | ⟨τ5, t5, x5, ys5, hst5, hr5, hx5, hk5, hd5, hby5, hu5, hcs5, hres⟩
   ·have hdry2 : DryP K τ4 w4 (ys.length + 1) t4 (g :: gs) e w5 := hdry.lv HD4.out.2.2.1
    obtain ⟨rfl, τ5, t5, hk5, henv, hvm, hrr, hne, hnone⟩ := hdry2.from HR4.out (Tr.refl HX4.out.hz)
    have hbx5 : w5.cell? ⟨b5, 0, none⟩ = some (ptrV m) := hk5.cellv hbx4 (by rw [HTB4.out]; exact TT.no (by omega))
    have cE := Hd (pop_any b5 hvm henv.z (by rw [HKM.out]; exact hbx5) ((hk5.eq b5 (World.block_lt_of_cell? _ _ hbx4)).trans HTB4.out) (by have := HGL.out; omega) (.panicking dryE))
    have HF : Hid (∀ wq, (VM K τ5 wq gs t5 ∧ Tr TV τ5 w5 τ5 wq) → CallP K τ w gs fr fp cb { s with fr := openF K.fs f (cnL l) dfd by_ :: ys } ys dfd by_ (.panicked dryE) wq) := Hd fun wq hq => .inl ⟨rfl, τ5, t5, (HKT4.out.trans hk5).trans (hq.2.mono fun _ => TV.tt), henv.tr hq.2 TV.no, hq.1, hrr, hne, hnone⟩
    clear hk5 henv hvm hrr hne hnone hbx4 hdry hdry2
    go_wp2_with fail
    refine leaves_cons (f := 99) (args := #[.pointer (some ⟨b5, 0, none⟩)]) (by simp) (by simp [go_sem]) ?_
    refine cE.out.mono ?_
    rintro e u' wq ⟨rfl, ⟨uv, rfl⟩, hvq, hkq⟩
    exact HF.out wq ⟨hvq, hkq⟩
   have hbx5 : w5.cell? ⟨b5, 0, none⟩ = some (ptrV m) := hk5.cellv hbx4 (by rw [HTB4.out]; exact TT.no (by omega))
   have HX5 := Hd hx5
   have HKT5 : Hid (Tr (TT (ys.length + 1)) τ w τ5 w5) := Hd (HKT4.out.trans (by rw [HD4.out.2.2.1.len] at hk5; exact hk5))
   have HTB5 : Hid (τ5 b5 = (0, 0)) := Hd ((hk5.eq b5 (World.block_lt_of_cell? _ _ hbx4)).trans HTB4.out)
   have HD5 : Hid (x5.dfd = dfd ∧ x5.by_ = by_ ∧ Und ys ys5 ∧ s.steps < t5.steps) := Hd ⟨hd5.trans HD4.out.1, hby5.trans HD4.out.2.1, HD4.out.2.2.1.trans hu5, by have h1 := HD4.out.2.2.2; omega⟩
   have HR5 := Hd (HR4.out.trans hr5)
   have HO5 := Hd (reach_ok HG.out.hf HO4.out hr5)
   have HCS5 := Hd hcs5
   clear hst5 hr5 hx5 hk5 hd5 hby5 hu5 hcs5 hbx4
   rcases hres with ⟨hm5, rfl⟩ | ⟨hm5, hop5, ad5, n5, c5, rfl, hcz5⟩
   ·have cZ := Hd (zresults HX5.out.fz HX5.out.hz (by have h1 := (HO5.out.wf.x HX5.out.fre).t.sl; have h2 := congrArg List.length h1; rwa [List.length_map] at h2))
    have HM5 := Hd hm5
    clear hm5
    go_wp2_with fail
    refine cZ.out.mono ?_
    rintro e w6 ⟨RA, rn, rc, rl, rfl, hrl, hrn, him6, hb6⟩
    have HX6 := Hd (HX5.out.on hb6)
    have HKT6 := Hd (HKT5.out.trans (Tr.below (T := TT (ys.length + 1)) HX5.out.hz hb6))
    have hbx6 := (hb6.cell (p := ⟨b5, 0, none⟩) (World.block_lt_of_cell? _ _ hbx5)).trans hbx5
    have cE := Hd (pop_any b5 HX6.out.vm HX6.out.hz (by rw [HKM.out]; exact hbx6) HTB5.out (by have := HGL.out; omega) .returning)
    have HF : Hid (∀ wq, (VM K τ5 wq gs t5 ∧ Tr TV τ5 w6 τ5 wq) → CallP K τ w gs fr fp cb { s with fr := openF K.fs f (cnL l) dfd by_ :: ys } ys dfd by_ (.returned (.tuple #[.slice RA rn rc, .slice none 0 0])) wq) := Hd fun wq hq => .inr ⟨τ5, t5, x5, ys5, HD5.out.2.2.2, HR5.out, HX6.out.fre, HCS5.out, HD5.out.1, (by have := HX6.out.popd hq.2 hq.1; rw [HD5.out.1, HD5.out.2.1] at this; exact this), HKT6.out.trans (hq.2.mono fun _ => TV.tt), HD5.out.2.2.1, .inl ⟨HM5.out, RA, rn, rc, rl, rfl, hrl, him6.tr hq.2 TV.no⟩⟩
    clear hrl hrn him6 hb6 hbx5 cZ
    go_wp2_with fail
    refine leaves_cons (f := 99) (args := #[.pointer (some ⟨b5, 0, none⟩)]) (by simp) (by simp [go_sem]) ?_
    refine cE.out.mono ?_
    rintro e u' wq ⟨rfl, ⟨uv, rfl⟩, hvq, hkq⟩
    exact ⟨_, (by simp [results, Tryz.results75, go_sem]), HF.out wq ⟨hvq, hkq⟩⟩
   ·have cE := Hd (pop_any b5 HX5.out.vm HX5.out.hz (by rw [HKM.out]; exact hbx5) HTB5.out (by have := HGL.out; omega) .returning)
    have HF : Hid (∀ wq, (VM K τ5 wq gs t5 ∧ Tr TV τ5 w5 τ5 wq) → CallP K τ w gs fr fp cb { s with fr := openF K.fs f (cnL l) dfd by_ :: ys } ys dfd by_ (.returned (.tuple #[.slice none 0 0, .slice (some ad5) n5 c5])) wq) := Hd fun wq hq => .inr ⟨τ5, t5, x5, ys5, HD5.out.2.2.2, HR5.out, HX5.out.fre, HCS5.out, HD5.out.1, (by have := HX5.out.popd hq.2 hq.1; rw [HD5.out.1, HD5.out.2.1] at this; exact this), HKT5.out.trans (hq.2.mono fun _ => TV.tt), HD5.out.2.2.1, .inr ⟨hm5, hop5, ad5, n5, c5, rfl, hcz5.tr hq.2 TV.no⟩⟩
    clear hm5 hop5 hcz5 hbx5
    go_wp2_with fail
    refine leaves_cons (f := 99) (args := #[.pointer (some ⟨b5, 0, none⟩)]) (by simp) (by simp [go_sem]) ?_
    refine cE.out.mono ?_
    rintro e u' wq ⟨rfl, ⟨uv, rfl⟩, hvq, hkq⟩
    exact ⟨_, (by simp [results, Tryz.results75, go_sem]), HF.out wq ⟨hvq, hkq⟩⟩
  ·have cO := Hd (zopen hcz4 (by have h1 := hcz4.2.2.1; have h2 := bl_le HO4.out HG.out HX4.out.fre; omega))
   rw [hop4] at cO
   have cL := Hd (HLU.out.2 τ4 w4 gs g fr fp cb t4 x4 ys4 (some ad4) n4 c4 HX4.out HO4.out hm4 hop4 hcz4 (Nat.le_refl _))
   rw [HKM.out] at cL
   clear hm4 hop4 hcz4
   go_wp2_with fail
   refine cO.out.mono ?_
   rintro e w5 ⟨rfl, hw5⟩
   obtain rfl := hw5
   clear cO
   go_wp2_with fail
   refine cL.out.mono ?_
   rintro e w5 hl
   clear cL
   rcases hl with hdry | ⟨τ5, t5, x5, ys5, hst5, hr5, hx5, hk5, hd5, hby5, hu5, hcs5, hres⟩
   ·have hdry2 : DryP K τ4 w4 (ys.length + 1) t4 (g :: gs) e w5 := hdry.lv HD4.out.2.2.1
    obtain ⟨rfl, τ5, t5, hk5, henv, hvm, hrr, hne, hnone⟩ := hdry2.from HR4.out (Tr.refl HX4.out.hz)
    have hbx5 : w5.cell? ⟨b5, 0, none⟩ = some (ptrV m) := hk5.cellv hbx4 (by rw [HTB4.out]; exact TT.no (by omega))
    have cE := Hd (pop_any b5 hvm henv.z (by rw [HKM.out]; exact hbx5) ((hk5.eq b5 (World.block_lt_of_cell? _ _ hbx4)).trans HTB4.out) (by have := HGL.out; omega) (.panicking dryE))
    have HF : Hid (∀ wq, (VM K τ5 wq gs t5 ∧ Tr TV τ5 w5 τ5 wq) → CallP K τ w gs fr fp cb { s with fr := openF K.fs f (cnL l) dfd by_ :: ys } ys dfd by_ (.panicked dryE) wq) := Hd fun wq hq => .inl ⟨rfl, τ5, t5, (HKT4.out.trans hk5).trans (hq.2.mono fun _ => TV.tt), henv.tr hq.2 TV.no, hq.1, hrr, hne, hnone⟩
    clear hk5 henv hvm hrr hne hnone hbx4 hdry hdry2
    go_wp2_with fail
    refine leaves_cons (f := 99) (args := #[.pointer (some ⟨b5, 0, none⟩)]) (by simp) (by simp [go_sem]) ?_
    refine cE.out.mono ?_
    rintro e u' wq ⟨rfl, ⟨uv, rfl⟩, hvq, hkq⟩
    exact HF.out wq ⟨hvq, hkq⟩
   have hbx5 : w5.cell? ⟨b5, 0, none⟩ = some (ptrV m) := hk5.cellv hbx4 (by rw [HTB4.out]; exact TT.no (by omega))
   have HX5 := Hd hx5
   have HKT5 : Hid (Tr (TT (ys.length + 1)) τ w τ5 w5) := Hd (HKT4.out.trans (by rw [HD4.out.2.2.1.len] at hk5; exact hk5))
   have HTB5 : Hid (τ5 b5 = (0, 0)) := Hd ((hk5.eq b5 (World.block_lt_of_cell? _ _ hbx4)).trans HTB4.out)
   have HD5 : Hid (x5.dfd = dfd ∧ x5.by_ = by_ ∧ Und ys ys5 ∧ s.steps < t5.steps) := Hd ⟨hd5.trans HD4.out.1, hby5.trans HD4.out.2.1, HD4.out.2.2.1.trans hu5, by have h1 := HD4.out.2.2.2; omega⟩
   have HR5 := Hd (HR4.out.trans hr5)
   have HO5 := Hd (reach_ok HG.out.hf HO4.out hr5)
   have HCS5 := Hd hcs5
   clear hst5 hr5 hx5 hk5 hd5 hby5 hu5 hcs5 hbx4
   rcases hres with ⟨hm5, rfl⟩ | ⟨hm5, hop5, ad5, n5, c5, rfl, hcz5⟩
   ·have cZ := Hd (zresults HX5.out.fz HX5.out.hz (by have h1 := (HO5.out.wf.x HX5.out.fre).t.sl; have h2 := congrArg List.length h1; rwa [List.length_map] at h2))
    have HM5 := Hd hm5
    clear hm5
    go_wp2_with fail
    refine cZ.out.mono ?_
    rintro e w6 ⟨RA, rn, rc, rl, rfl, hrl, hrn, him6, hb6⟩
    have HX6 := Hd (HX5.out.on hb6)
    have HKT6 := Hd (HKT5.out.trans (Tr.below (T := TT (ys.length + 1)) HX5.out.hz hb6))
    have hbx6 := (hb6.cell (p := ⟨b5, 0, none⟩) (World.block_lt_of_cell? _ _ hbx5)).trans hbx5
    have cE := Hd (pop_any b5 HX6.out.vm HX6.out.hz (by rw [HKM.out]; exact hbx6) HTB5.out (by have := HGL.out; omega) .returning)
    have HF : Hid (∀ wq, (VM K τ5 wq gs t5 ∧ Tr TV τ5 w6 τ5 wq) → CallP K τ w gs fr fp cb { s with fr := openF K.fs f (cnL l) dfd by_ :: ys } ys dfd by_ (.returned (.tuple #[.slice RA rn rc, .slice none 0 0])) wq) := Hd fun wq hq => .inr ⟨τ5, t5, x5, ys5, HD5.out.2.2.2, HR5.out, HX6.out.fre, HCS5.out, HD5.out.1, (by have := HX6.out.popd hq.2 hq.1; rw [HD5.out.1, HD5.out.2.1] at this; exact this), HKT6.out.trans (hq.2.mono fun _ => TV.tt), HD5.out.2.2.1, .inl ⟨HM5.out, RA, rn, rc, rl, rfl, hrl, him6.tr hq.2 TV.no⟩⟩
    clear hrl hrn him6 hb6 hbx5 cZ
    go_wp2_with fail
    refine leaves_cons (f := 99) (args := #[.pointer (some ⟨b5, 0, none⟩)]) (by simp) (by simp [go_sem]) ?_
    refine cE.out.mono ?_
    rintro e u' wq ⟨rfl, ⟨uv, rfl⟩, hvq, hkq⟩
    exact ⟨_, (by simp [results, Tryz.results75, go_sem]), HF.out wq ⟨hvq, hkq⟩⟩
   ·have cE := Hd (pop_any b5 HX5.out.vm HX5.out.hz (by rw [HKM.out]; exact hbx5) HTB5.out (by have := HGL.out; omega) .returning)
    have HF : Hid (∀ wq, (VM K τ5 wq gs t5 ∧ Tr TV τ5 w5 τ5 wq) → CallP K τ w gs fr fp cb { s with fr := openF K.fs f (cnL l) dfd by_ :: ys } ys dfd by_ (.returned (.tuple #[.slice none 0 0, .slice (some ad5) n5 c5])) wq) := Hd fun wq hq => .inr ⟨τ5, t5, x5, ys5, HD5.out.2.2.2, HR5.out, HX5.out.fre, HCS5.out, HD5.out.1, (by have := HX5.out.popd hq.2 hq.1; rw [HD5.out.1, HD5.out.2.1] at this; exact this), HKT5.out.trans (hq.2.mono fun _ => TV.tt), HD5.out.2.2.1, .inr ⟨hm5, hop5, ad5, n5, c5, rfl, hcz5.tr hq.2 TV.no⟩⟩
    clear hm5 hop5 hcz5 hbx5
    go_wp2_with fail
    refine leaves_cons (f := 99) (args := #[.pointer (some ⟨b5, 0, none⟩)]) (by simp) (by simp [go_sem]) ?_
    refine cE.out.mono ?_
    rintro e u' wq ⟨rfl, ⟨uv, rfl⟩, hvq, hkq⟩
    exact ⟨_, (by simp [results, Tryz.results75, go_sem]), HF.out wq ⟨hvq, hkq⟩⟩
theorem call_any (hG : KG K) : ∀ u, CallC K u := by
 intro u
 induction u using Nat.strongRecOn with
 | _ u ih => exact call_step hG ih
end Go.Proofs.YtobmjnmcjddhcaaGreat
