/-
  Calls that wait: how many a frame has (a map in a struct).
-/
import Derived.Test.YthddhipmmhihlaaCv
import Derived.Maps.OwnSet
import Derived.Maps.OwnOps
namespace Go.Proofs.Ythddhipmmhihlaa
open Go.RowKit Go.Maps
set_option linter.unusedSimpArgs false
set_option linter.unusedVariables false
theorem lawI : Keyed Try.prog 3 := int_keyed Try.underlying3
theorem zeroI (w : World) : (zeroValue 3).run Try.prog w = .ok (.int .i64 0) w := by kernel_rfl
abbrev i64 (a : Int) : DataW Unit := .lit (.int .i64 a)
abbrev OM (w : World) (b k : Nat) (D : DataW Unit) : Prop := w.ownsMap Try.prog 3 (plainElem Try.prog 3) b k D
def Cnts (D : DataW Unit) (m : Int → Int) : Prop := ∀ f, (Lit.int .i64 f).wf = true → D.atKey (.int .i64 f) (i64 0) = i64 (m f)
theorem Kp.turned {S : Nat → Prop} {a w w' : World} {b : Nat} (h : Kp S a w) (ht : w.mapTurned w' b) (hb : b < a.heap.size → S b) : Kp S a w' :=
  h.ofGrown ht.grown fun k hk hl => by injection hk with hk; subst hk; exact hb hl
theorem Kp.map {S : Nat → Prop} {w w' : World} {b k : Nat} {D : DataW Unit} (h : Kp S w w') (hm : OM w b k D) (hs : ¬ S b) : OM w' b k D := by
  obtain ⟨es, clock, hb, r⟩ := hm
  exact ⟨es, clock, (h.block b (Array.getElem?_eq_some_iff.1 hb).1 hs).trans hb, r⟩
theorem OM.not_cells {w : World} {b k : Nat} {D : DataW Unit} (hm : OM w b k D) {j : Nat} {v : Value} (hc : w.cell? ⟨b, j, none⟩ = some v) : False := by
  obtain ⟨es, clock, hb, r⟩ := hm
  simp [World.cell?, hb] at hc
theorem int_lit_wf_ne {f g : Int} (h : f ≠ g) : (Lit.int IntKind.i64 f) ≠ Lit.int .i64 g := fun e => h (by injection e)
theorem cnts_put {D : DataW Unit} {m : Int → Int} {f v : Int} (h : Cnts D m) (hD : IsMap D) (hf : (Lit.int .i64 f).wf = true) : Cnts (D.put (.int .i64 f) (i64 v)) (fun g => if g = f then v else m g) := by
  intro g hg
  show _ = i64 (if g = f then v else m g)
  by_cases e : g = f
  · subst e
    rw [if_pos rfl]
    exact atKey_put_same hD (by trivial) _ _
  · rw [if_neg e, atKey_put_other (int_lit_wf_ne e)]
    exact h g hg
theorem cnts_del {D : DataW Unit} {m : Int → Int} {f : Int} (h : Cnts D m) (h0 : m f = 0) : Cnts (D.del (.int .i64 f)) m := by
  intro g hg
  by_cases e : g = f
  · subst e
    rw [atKey_del_same, h0]
  · rw [atKey_del_other (int_lit_wf_ne e)]
    exact h g hg
theorem i64_inj {a b : Int} (h : (i64 a : DataW Unit) = i64 b) : a = b := by
  unfold i64 at h
  simpa using h
theorem cnts_nil : Cnts (.map []) (fun _ => 0) := fun f _ => rfl

/-- The map of a pile: none, or one that counts. -/
def MapC (w : World) (pb : Nat) (mo : Option Nat) (k : Nat) (m : Int → Int) : Prop :=
  w.cell? ⟨pb, 1, none⟩ = some (.map mo) ∧ w.frozen? ⟨pb, 1, none⟩ = false ∧ ((mo = none ∧ ∀ f, m f = 0) ∨ ∃ b D, mo = some b ∧ OM w b k D ∧ Cnts D m)
theorem MapC.kp {S : Nat → Prop} {w w' : World} {pb k : Nat} {mo : Option Nat} {m : Int → Int} (h : MapC w pb mo k m) (hk : Kp S w w') (h1 : ¬ S pb) (h2 : ∀ b, mo = some b → ¬ S b) : MapC w' pb mo k m := by
  obtain ⟨hc, hf, h3⟩ := h
  have hlt := World.block_lt_of_cell? _ _ hc
  refine ⟨hk.cellv hc h1, (hk.frozen hlt h1).trans hf, ?_⟩
  rcases h3 with h3 | ⟨b, D, rfl, ho, hm⟩
  · exact .inl h3
  · exact .inr ⟨b, D, rfl, hk.map ho (h2 b rfl), hm⟩
set_option maxRecDepth 100000 in
theorem pof_any (pb : Nat) (mo : Option Nat) (k : Nat) (m : Int → Int) (f : Int) (w : World) (h : MapC w pb mo k m) (hf : (Lit.int .i64 f).wf = true) :
    Calls Try.prog 9 #[.pointer (some ⟨pb, 0, none⟩), .int .i64 f] w fun e w' => e = .returned (.int .i64 (m f)) ∧ w = w' := by
  have hkey := keyOf_int_mk Try.underlying3 hf
  obtain ⟨hc, _, ⟨rfl, hm⟩ | ⟨b, D, rfl, ho, hm⟩⟩ := h
  · have hrun := look_nil (w := w) false lawI Try.underlying35 (zeroI _) hkey
    rw [hm f]
    clear hm
    go_enter Try.func9, Try.ntmps9
    go_wp2_with fail
    go_ret
    exact ⟨rfl, rfl⟩
  · obtain ⟨c, hrun, hat, hwf⟩ := ho.lookup_int lawI Try.underlying35 Try.underlying3 (zeroI _) hkey
    have e : m f = c := i64_inj ((hm f hf).symm.trans hat)
    rw [e]
    clear hm ho hat e hkey
    go_enter Try.func9, Try.ntmps9
    go_wp2_with fail
    go_ret
    exact ⟨rfl, rfl⟩
def addM (m : Int → Int) (f by_ : Int) : Int → Int := fun g => if g = f then m f + by_ else m g
def IsCounted (w : World) (pb : Nat) (mo : Option Nat) (k : Nat) (m : Int → Int) (e : Ending) (w' : World) : Prop :=
  (∃ v, e = .returned v) ∧ ∃ mo', MapC w' pb mo' (k + 1) m ∧ Kp (fun j => j = pb ∨ mo = some j) w w' ∧ (mo' = mo ∨ ∃ b, mo' = some b ∧ w.heap.size ≤ b) ∧ w'.cell? ⟨pb, 0, none⟩ = w.cell? ⟨pb, 0, none⟩ ∧ w'.frozen? ⟨pb, 0, none⟩ = w.frozen? ⟨pb, 0, none⟩
theorem cnts_eq {D : DataW Unit} {m m' : Int → Int} (h : Cnts D m) (e : ∀ f, m f = m' f) : Cnts D m' := fun f hf => by rw [← e]; exact h f hf
theorem counted_fin {w w0 w1 : World} {pb b k : Nat} {mo : Option Nat} {D : DataW Unit} {m : Int → Int} {u : Value} (hu : u = .map (some b)) (hc : w0.cell? ⟨pb, 1, none⟩ = some u) (hfz : w0.frozen? ⟨pb, 1, none⟩ = false) (hk : Kp (fun j => j = pb ∨ mo = some j) w w0) (hne : pb ≠ b) (ht : w0.mapTurned w1 b) (ho : OM w1 b (k + 1) D) (hm : Cnts D m) (hb : b < w.heap.size → mo = some b) (hmo : some b = mo ∨ w.heap.size ≤ b) (hz : w0.cell? ⟨pb, 0, none⟩ = w.cell? ⟨pb, 0, none⟩ ∧ w0.frozen? ⟨pb, 0, none⟩ = w.frozen? ⟨pb, 0, none⟩) :
    ∃ mo', MapC w1 pb mo' (k + 1) m ∧ Kp (fun j => j = pb ∨ mo = some j) w w1 ∧ (mo' = mo ∨ ∃ b, mo' = some b ∧ w.heap.size ≤ b) ∧ w1.cell? ⟨pb, 0, none⟩ = w.cell? ⟨pb, 0, none⟩ ∧ w1.frozen? ⟨pb, 0, none⟩ = w.frozen? ⟨pb, 0, none⟩ := by
  have hpl : pb < w0.heap.size := World.block_lt_of_cell? _ _ hc
  have hg : Kp (fun j => j = b) w0 w1 := (Kp.refl _ _).turned ht fun _ => rfl
  refine ⟨some b, ⟨(hg.cellv hc hne).trans (by rw [hu]), (ht.frozen _).trans hfz, .inr ⟨b, D, rfl, ho, hm⟩⟩, hk.turned ht fun hl => .inr (hb hl), ?_, (hg.cell (p := ⟨pb, 0, none⟩) hpl hne).trans hz.1, (ht.frozen _).trans hz.2⟩
  rcases hmo with h | h
  · exact .inl h
  · exact .inr ⟨b, rfl, h⟩
theorem turned_trans {a b c : World} {x : Nat} (h : a.mapTurned b x) (k : b.mapTurned c x) : a.mapTurned c x := h.trans k
theorem eq_mapS (b : Nat) : ∀ W : World, (binOp .eql 35 (.map (some b)) (.map none)).run Try.prog W = .ok (.bool false) W := fun W => by kernel_rfl
theorem eq_mapN : ∀ W : World, (binOp .eql 35 (.map none) (.map none)).run Try.prog W = .ok (.bool true) W := fun W => by kernel_rfl
set_option maxRecDepth 100000 in
set_option maxHeartbeats 1000000 in
theorem count_some (pb b : Nat) (k : Nat) (D : DataW Unit) (m : Int → Int) (f by_ : Int) (w : World) (hc : w.cell? ⟨pb, 1, none⟩ = some (.map (some b))) (hfz : w.frozen? ⟨pb, 1, none⟩ = false) (ho : OM w b k D) (hm : Cnts D m) (hf : (Lit.int .i64 f).wf = true) (hby : -1 ≤ by_ ∧ by_ ≤ 1) (hb : -1000 ≤ m f ∧ m f ≤ 1000) (hk : k ≤ 1000) :
    Calls Try.prog 20 #[.pointer (some ⟨pb, 0, none⟩), .int .i64 f, .int .i64 by_] w (IsCounted w pb (some b) k (addM m f by_)) := by
  have hkey := keyOf_int_mk Try.underlying3 hf
  obtain ⟨c, hrun, hat, hwf⟩ := ho.lookup_int lawI Try.underlying35 Try.underlying3 (zeroI _) hkey
  obtain rfl : m f = c := i64_inj ((hm f hf).symm.trans hat)
  have hne : pb ≠ b := fun e => by subst e; exact ho.not_cells hc
  obtain ⟨v, hv⟩ : ∃ v, m f + by_ = v := ⟨_, rfl⟩
  have hw : wrap64 (m f + by_) = v := by unfold wrap64; omega
  have hvf : (Lit.int .i64 v).wf = true := by rw [← hw]; exact wrap64_wf _
  have HM := Lib.hid hm
  have HA : Hid (∀ g, (if g = f then v else m g) = addM m f by_ g) := Lib.hid fun g => by unfold addM; rw [hv]
  have HO := Lib.hid ho
  have HC := Lib.hid hc
  have HF := Lib.hid hfz
  have HV : Hid (addM m f by_ f = v) := Lib.hid (by unfold addM; rw [if_pos rfl]; exact hv)
  obtain ⟨mf, hmf⟩ : ∃ x, m f = x := ⟨_, rfl⟩
  rw [hmf] at hrun hw
  have hme := eq_mapS b
  have hkn : k < maxLen := by unfold maxLen; omega
  clear hat hwf hb hv hmf hm
  by_cases hv0 : v = 0
  · have hz : (v == 0) = true := by simp [hv0]
    go_enter Try.func20, Try.ntmps20
    go_wp2_with (first
      | (at_mapUpdate; refine wpList_mapUpdate_in _ rfl _ _ _ 35 rfl 3 3 lawI Try.underlying35 _ b k D rfl HO.out hkn _ (.int .i64 v) _ rfl (by go_simp) hkey (i64 v) [] (plainElem_int Try.underlying3 hvf) ?_
         intro w1 hown1 hturn1
         obtain ⟨c1, hrun1, hat1, hwf1⟩ := World.ownsMap.lookup_int hown1 lawI Try.underlying35 Try.underlying3 (zeroI _) hkey
         have ec1 : c1 = v := (i64_inj ((atKey_put_same HO.out.isMap (by trivial) _ _).symm.trans hat1)).symm
         rw [ec1] at hrun1
         have hc1 : w1.cell? ⟨pb, 1, none⟩ = some (.map (some b)) := ((Kp.refl (fun j => j = b) w).turned hturn1 fun _ => rfl).cellv HC.out hne
         have HO1 : Hid (OM w1 b (k + 1) (D.put (.int .i64 f) (i64 v))) := Lib.hid hown1
         have HT1 := Lib.hid hturn1
         clear hown1 hturn1 hat1 hwf1 ec1)
      | (at_delete; refine wpList_delete_own _ rfl _ _ 35 3 rfl 3 lawI Try.underlying35 _ b (k + 1) (D.put (.int .i64 f) (i64 v)) rfl HO1.out _ _ rfl hkey ?_
         intro w2 hown2 hturn2
         have HO2 : Hid (OM w2 b (k + 1) ((D.put (.int .i64 f) (i64 v)).del (.int .i64 f))) := Lib.hid hown2
         have HT2 := Lib.hid (turned_trans HT1.out hturn2)
         clear hown2 hturn2)
      | go_in)
    go_end0
    exact ⟨⟨_, rfl⟩, counted_fin rfl HC.out HF.out (Kp.refl _ _) hne HT2.out HO2.out (cnts_del (cnts_eq (cnts_put HM.out HO.out.isMap hf) HA.out) (HV.out.trans hv0)) (fun _ => rfl) (.inl rfl) ⟨rfl, rfl⟩⟩
  · have hz : (v == 0) = false := by simp [hv0]
    go_enter Try.func20, Try.ntmps20
    go_wp2_with (first
      | (at_mapUpdate; refine wpList_mapUpdate_in _ rfl _ _ _ 35 rfl 3 3 lawI Try.underlying35 _ b k D rfl HO.out hkn _ (.int .i64 v) _ rfl (by go_simp) hkey (i64 v) [] (plainElem_int Try.underlying3 hvf) ?_
         intro w1 hown1 hturn1
         obtain ⟨c1, hrun1, hat1, hwf1⟩ := World.ownsMap.lookup_int hown1 lawI Try.underlying35 Try.underlying3 (zeroI _) hkey
         have ec1 : c1 = v := (i64_inj ((atKey_put_same HO.out.isMap (by trivial) _ _).symm.trans hat1)).symm
         rw [ec1] at hrun1
         have hc1 : w1.cell? ⟨pb, 1, none⟩ = some (.map (some b)) := ((Kp.refl (fun j => j = b) w).turned hturn1 fun _ => rfl).cellv HC.out hne
         have HO1 : Hid (OM w1 b (k + 1) (D.put (.int .i64 f) (i64 v))) := Lib.hid hown1
         have HT1 := Lib.hid hturn1
         clear hown1 hturn1 hat1 hwf1 ec1)
      | go_in)
    go_end0
    exact ⟨⟨_, rfl⟩, counted_fin rfl HC.out HF.out (Kp.refl _ _) hne HT1.out HO1.out (cnts_eq (cnts_put HM.out HO.out.isMap hf) HA.out) (fun _ => rfl) (.inl rfl) ⟨rfl, rfl⟩⟩
theorem made_map (w : World) (pb : Nat) : OM ((w.setCell ⟨pb, 1, none⟩ (.map (some w.heap.size))).alloc (.map #[] 0)) w.heap.size 0 (.map []) := by
  have := World.ownsMap_made (w.setCell ⟨pb, 1, none⟩ (.map (some w.heap.size))) Try.prog 3 (plainElem (H := Unit) Try.prog 3)
  rwa [show (w.setCell ⟨pb, 1, none⟩ (.map (some w.heap.size))).heap.size = w.heap.size from by simp [World.setCell]] at this
set_option maxRecDepth 100000 in
set_option maxHeartbeats 1000000 in
theorem count_none (pb : Nat) (m : Int → Int) (f : Int) (w : World) (hc : w.cell? ⟨pb, 1, none⟩ = some (.map none)) (hfz : w.frozen? ⟨pb, 1, none⟩ = false) (hm : ∀ f, m f = 0) (hf : (Lit.int .i64 f).wf = true) :
    Calls Try.prog 20 #[.pointer (some ⟨pb, 0, none⟩), .int .i64 f, .int .i64 1] w (IsCounted w pb none 0 (addM m f 1)) := by
  have hkey := keyOf_int_mk Try.underlying3 hf
  have hpb : pb < w.heap.size := World.block_lt_of_cell? _ _ hc
  have hne : pb ≠ w.heap.size := by omega
  have ho := made_map w pb
  have hk0 : Kp (fun j => j = pb ∨ (none : Option Nat) = some j) w ((w.setCell ⟨pb, 1, none⟩ (.map (some w.heap.size))).alloc (.map #[] 0)) := ((Kp.refl _ _).setCell (p := ⟨pb, 1, none⟩) (fun _ => .inl rfl) _).alloc _
  have hc0 : (w.setCell ⟨pb, 1, none⟩ (.map (some w.heap.size))).cell? ⟨pb, 1, none⟩ = some (.map (some w.heap.size)) := by simp [go_sem, hc]
  have hs0 : (w.setCell ⟨pb, 1, none⟩ (.map (some w.heap.size))).heap.size = w.heap.size := by simp [World.setCell]
  have hc1 : ((w.setCell ⟨pb, 1, none⟩ (.map (some w.heap.size))).alloc (.map #[] 0)).cell? ⟨pb, 1, none⟩ = some (.map (some w.heap.size)) := (World.cell?_alloc_lt _ _ _ (by rw [hs0]; exact hpb)).trans hc0
  have hf1 : ((w.setCell ⟨pb, 1, none⟩ (.map (some w.heap.size))).alloc (.map #[] 0)).frozen? ⟨pb, 1, none⟩ = false := by
    have := ((Below.refl (pb + 1) (w.setCell ⟨pb, 1, none⟩ (.map (some w.heap.size)))).alloc (o := .map #[] 0) (by omega)).frozen (p := ⟨pb, 1, none⟩) (Nat.lt_succ_self pb)
    rw [this, World.frozen?_setCell]; exact hfz
  obtain ⟨c, hrun, hat, hwf⟩ := ho.lookup_int lawI Try.underlying35 Try.underlying3 (zeroI _) hkey
  obtain rfl : 0 = c := i64_inj hat
  have HM : Hid (Cnts ((DataW.map []).put (.int .i64 f) (i64 1)) (addM m f 1)) := Lib.hid (cnts_eq (cnts_put cnts_nil isMap_empty hf) fun g => by unfold addM; split <;> simp [hm])
  have HO := Lib.hid ho
  have HC1 := Lib.hid hc1
  have HF1 := Lib.hid hf1
  have HK0 := Lib.hid hk0
  have HZ : Hid (((w.setCell ⟨pb, 1, none⟩ (.map (some w.heap.size))).alloc (.map #[] 0)).cell? ⟨pb, 0, none⟩ = w.cell? ⟨pb, 0, none⟩ ∧ ((w.setCell ⟨pb, 1, none⟩ (.map (some w.heap.size))).alloc (.map #[] 0)).frozen? ⟨pb, 0, none⟩ = w.frozen? ⟨pb, 0, none⟩) := Lib.hid ⟨(World.cell?_alloc_lt _ _ _ (by rw [hs0]; exact hpb)).trans (World.cell?_setCell_other _ _ _ _ (by simp)), by
    have := ((Below.refl (pb + 1) (w.setCell ⟨pb, 1, none⟩ (.map (some w.heap.size)))).alloc (o := .map #[] 0) (by omega)).frozen (p := ⟨pb, 0, none⟩) (Nat.lt_succ_self pb)
    rw [this, World.frozen?_setCell]⟩
  have hme := eq_mapN
  have hmm := @run_makeMap Try.prog
  have hkn : 0 < maxLen := by unfold maxLen; omega
  have hvf : (Lit.int .i64 1).wf = true := by decide
  have hz : ((1 : Int) == 0) = false := by decide
  clear hat hwf hm ho hk0 hc0 hc1 hf1 hs0
  go_enter Try.func20, Try.ntmps20
  go_wp2_with (first
    | (at_mapUpdate; refine wpList_mapUpdate_in _ rfl _ _ _ 35 rfl 3 3 lawI Try.underlying35 _ w.heap.size 0 (.map []) rfl HO.out hkn _ (.int .i64 1) _ rfl (by go_simp) hkey (i64 1) [] (plainElem_int Try.underlying3 hvf) ?_
       intro w1 hown1 hturn1
       obtain ⟨c1, hrun1, hat1, hwf1⟩ := World.ownsMap.lookup_int hown1 lawI Try.underlying35 Try.underlying3 (zeroI _) hkey
       have ec1 : c1 = 1 := (i64_inj ((atKey_put_same HO.out.isMap (by trivial) _ _).symm.trans hat1)).symm
       rw [ec1] at hrun1
       have hc2 : w1.cell? ⟨pb, 1, none⟩ = some (.map (some w.heap.size)) := ((Kp.refl (fun j => j = w.heap.size) ((w.setCell ⟨pb, 1, none⟩ (.map (some w.heap.size))).alloc (.map #[] 0))).turned hturn1 fun _ => rfl).cellv HC1.out hne
       have HO1 : Hid (OM w1 w.heap.size 1 ((DataW.map []).put (.int .i64 f) (i64 1))) := Lib.hid hown1
       have HT1 := Lib.hid hturn1
       clear hown1 hturn1 hat1 hwf1 ec1)
    | go_in)
  go_end0
  exact ⟨⟨_, rfl⟩, counted_fin rfl HC1.out HF1.out HK0.out hne HT1.out HO1.out HM.out (fun hl => absurd hl (by omega)) (.inr (Nat.le_refl _)) HZ.out⟩
theorem count_any (pb : Nat) (mo : Option Nat) (k : Nat) (m : Int → Int) (f by_ : Int) (w : World) (h : MapC w pb mo k m) (hf : (Lit.int .i64 f).wf = true) (hby : by_ = 1 ∨ by_ = -1 ∧ mo ≠ none) (hb : -1000 ≤ m f ∧ m f ≤ 1000) (hk : k ≤ 1000) :
    Calls Try.prog 20 #[.pointer (some ⟨pb, 0, none⟩), .int .i64 f, .int .i64 by_] w fun e w' => (∃ v, e = .returned v) ∧ ∃ mo', mo' ≠ none ∧ MapC w' pb mo' (k + 1) (addM m f by_) ∧ Kp (fun j => j = pb ∨ mo = some j) w w' ∧ (mo' = mo ∨ ∃ b, mo' = some b ∧ w.heap.size ≤ b) ∧ w'.cell? ⟨pb, 0, none⟩ = w.cell? ⟨pb, 0, none⟩ ∧ w'.frozen? ⟨pb, 0, none⟩ = w.frozen? ⟨pb, 0, none⟩ := by
  obtain ⟨hc, hfz, ⟨rfl, hm⟩ | ⟨b, D, rfl, ho, hm⟩⟩ := h
  · obtain rfl : by_ = 1 := by rcases hby with h | ⟨_, h⟩; exact h; exact absurd rfl h
    refine (count_none pb m f w hc hfz hm hf).mono ?_
    rintro e w' ⟨he, mo', ⟨h1, h2, h3⟩, hk', hn⟩
    refine ⟨he, mo', ?_, ⟨h1, h2, ?_⟩, hk', hn⟩
    · rcases h3 with ⟨_, h⟩ | ⟨b, D, rfl, _⟩
      · have := h f
        unfold addM at this
        rw [if_pos rfl, hm] at this
        omega
      · simp
    · rcases h3 with h3 | ⟨b, D, e, ho, hm⟩
      · exact .inl h3
      · exact .inr ⟨b, D, e, ho.mono (by omega), hm⟩
  · refine (count_some pb b k D m f by_ w hc hfz ho hm hf (by omega) hb hk).mono ?_
    rintro e w' ⟨he, mo', h1, hk', hn⟩
    exact ⟨he, mo', by rcases hn.1 with rfl | ⟨b, rfl, _⟩ <;> simp, h1, hk', hn⟩
set_option maxRecDepth 100000 in
theorem pof_nil (f : Int) (w : World) : Calls Try.prog 9 #[.pointer none, .int .i64 f] w fun e w' => e = .returned (.int .i64 0) ∧ w = w' := by
  go_enter Try.func9, Try.ntmps9
  go_wp2_with fail
  go_ret
  exact ⟨rfl, rfl⟩
set_option maxRecDepth 100000 in
theorem pcount_nil (w : World) : Calls Try.prog 8 #[.pointer none] w fun e w' => e = .returned (.int .i64 0) ∧ w = w' := by
  go_enter Try.func8, Try.ntmps8
  go_wp2_with fail
  go_ret
  exact ⟨rfl, rfl⟩
set_option maxRecDepth 100000 in
theorem pcount_any (pb n c : Nat) (A : Option Addr) (w : World) (h : w.cell? ⟨pb, 0, none⟩ = some (.slice A n c)) : Calls Try.prog 8 #[.pointer (some ⟨pb, 0, none⟩)] w fun e w' => e = .returned (.int .i64 n) ∧ w = w' := by
  go_enter Try.func8, Try.ntmps8
  go_wp2_with fail
  go_ret
  exact ⟨rfl, rfl⟩
end Go.Proofs.Ythddhipmmhihlaa
