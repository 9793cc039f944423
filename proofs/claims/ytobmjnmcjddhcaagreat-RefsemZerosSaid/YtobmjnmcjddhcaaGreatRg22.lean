import Derived.Test.YtobmjnmcjddhcaaGreatRg21
set_option linter.unusedSimpArgs false
set_option linter.unusedVariables false
namespace Go.Proofs.YtobmjnmcjddhcaaGreat
section
open Go.RowKit
theorem types_res {F : DFunc} {q : Nat} {t : Int} (h : F.results[q]? = some t) : (typesM F)[F.params.length + q]? = some t := by
 have hq := (List.getElem?_eq_some_iff.1 h).1
 rw [show typesM F = F.params ++ (F.results ++ F.locals) from List.append_assoc _ _ _, List.getElem?_append_right (by omega), show F.params.length + q - F.params.length = q by omega, List.getElem?_append_left hq]
 exact h
structure AtR (fs : List DFunc) (x : Fr) (pre xs ys : List Int) : Prop where
 code : (fnOf fs x.f).code[x.pc]? = some (atM fs x)
 ins : instrOk (atM fs x)
 nd : NeedsR fs (fnOf fs x.f) (atM fs x).op (atM fs x).a (pre ++ xs) xs ys
 st : kindsM x.st = pre ++ xs
 le : pre.length + ys.length ≤ 60
 hit : ∀ k ∈ nextM (fnOf fs x.f) x.pc, Hit (tyR fs (fnOf fs x.f)) (tyT fs (fnOf fs x.f)) (fnOf fs x.f).code.length (pre ++ ys) k
 calls : ((atM fs x).op = 23 ∨ (atM fs x).op = 24) → ∃ q : Nat, (atM fs x).a = (q : Int) ∧ q < fs.length ∧ ((fnOf fs q).inner = true → (atM fs x).op = 24 ∧ (fnOf fs q).outer = (fnOf fs x.f).results)
theorem at_run {fs : List DFunc} (hf : FineB fs) {x : Fr} (ht : FrT fs x) (hr : FrRun fs x) : ∃ pre xs ys, AtR fs x pre xs ys := by
 have hfn := hf.fn x.f _ (fnOf_at ht.fn)
 obtain ⟨z, ⟨pre, xs, ys, ⟨i, hi, hn⟩, h1, h2, rfl⟩, hk⟩ := (ty_spec hfn.ty).2.2 x.pc hr.pc hr.rd
 have ha := atM_of (fs := fs) hi
 subst ha
 refine ⟨pre, xs, ys, hi, (hf.can _ (fnOf_mem ht.fn)).ins _ (List.mem_of_getElem? hi), by rw [← h1]; exact hn, hr.st.trans h1, h2, fun k hk' => hk k (List.mem_append.2 (.inl hk')), fun ho => ?_⟩
 obtain ⟨q, g, e1, e2, e3⟩ := hfn.calls x.pc hr.pc _ hi ho
 have hq := (List.getElem?_eq_some_iff.1 e2).1
 have hg := fnOf_of e2
 exact ⟨q, e1, hq, fun h => by rw [hg] at h ⊢; exact e3 h⟩
theorem WfX.go {fs : List DFunc} {x : Fr} {r : List Fr} (hw : WfX fs x r) {q : Nat} {sl st : List DV} {cs : List Wt} (hsl : kindsM sl = kindsM x.sl) (hcs : ∀ c ∈ cs, c ∈ x.cs ∨ (c.f < fs.length ∧ kindsM c.args = (fnOf fs c.f).params ∧ ((fnOf fs c.f).inner = true → (fnOf fs c.f).outer = (fnOf fs x.f).results)))
  {z : List Int} (hh : Hit (tyR fs (fnOf fs x.f)) (tyT fs (fnOf fs x.f)) (fnOf fs x.f).code.length z (q : Int)) (hst : kindsM st = z) (hle : z.length ≤ 60) (x' : Fr) (e : x' = { x with pc := q, sl := sl, st := st, cs := cs }) : WfX fs x' r := by
 subst e
 obtain ⟨q', e, h1, h2, h3⟩ := hh
 obtain rfl : q = q' := by omega
 exact ⟨⟨hw.t.fn, hsl.trans hw.t.sl, fun c hc => (hcs c hc).elim (hw.t.cs c) id⟩, fun _ => ⟨h1, h2, hst.trans h3.symm, by rw [kinds_len hst]; exact hle⟩, hw.mo, hw.un.like rfl rfl rfl⟩
theorem nextM_plain {x : DFunc} {k : Nat} (h21 : (codeAt x k).op ≠ 21) (h22 : (codeAt x k).op ≠ 22) (h25 : (codeAt x k).op ≠ 25) (h26 : (codeAt x k).op ≠ 26) (h34 : (codeAt x k).op ≠ 34) : (k : Int) + 1 ∈ nextM x k := by
 unfold nextM
 rw [if_neg h21, if_neg (fun h => h22 h.1), if_neg (fun h => h.elim h25 h26), if_neg h34]
 simp
theorem AtR.next {fs : List DFunc} {x : Fr} {pre xs ys : List Int} (h : AtR fs x pre xs ys) (h21 : (atM fs x).op ≠ 21) (h22 : (atM fs x).op ≠ 22) (h25 : (atM fs x).op ≠ 25) (h26 : (atM fs x).op ≠ 26) : Hit (tyR fs (fnOf fs x.f)) (tyT fs (fnOf fs x.f)) (fnOf fs x.f).code.length (pre ++ ys) ((x.pc + 1 : Nat) : Int) := by
 have := h.hit _ (nextM_plain h21 h22 h25 h26 h.nd.opens.2)
 rwa [show ((x.pc + 1 : Nat) : Int) = (x.pc : Int) + 1 by omega]
theorem AtR.ll {fs : List DFunc} {x : Fr} {pre xs ys : List Int} (h : AtR fs x pre xs ys) : (pre ++ ys).length ≤ 60 := by rw [List.length_append]; exact h.le
theorem WfX.leave {fs : List DFunc} {x : Fr} {r : List Fr} (hw : WfX fs x r) (m : Nat) (hm : m = 1 ∨ m = 2) (ch : List Bl) (x' : Fr) (e : x' = { x with st := [], mode := m, ch := ch }) : WfX fs x' r := by
 subst e
 exact ⟨⟨hw.t.fn, hw.t.sl, hw.t.cs⟩, (fun h => by rcases hm with rfl | rfl <;> cases h), .inr hm, hw.un.like rfl rfl rfl⟩
theorem opA_k {op : Int} {xs : List DV} {v : DV} (h : opA op xs = some v) : v.k = if op = 15 ∨ op = 16 ∨ op = 17 ∨ op = 18 then 2 else 1 := by
 unfold opA at h
 split at h
 ·rename_i hf
  split at h
  ·have hl : arityN op = 1 := by
    unfold fitsB at hf
    simp at hf
    omega
   have hn : ¬(op = 15 ∨ op = 16 ∨ op = 17 ∨ op = 18) := fun ho => by unfold arityN at hl; rw [if_pos ho] at hl; omega
   rw [if_neg hn]
   split at h <;> (injection h with h; rw [← h])
  ·split at h
   ·rename_i e; injection h with h; rw [← h, e]; rfl
   ·split at h
    ·rename_i e; injection h with h; rw [← h, e]; rfl
    ·split at h
     ·rename_i e; injection h with h; rw [← h, e]; rfl
     ·split at h
      ·rename_i e; injection h with h; rw [← h, e]; rfl
      ·split at h
       ·injection h with h; rw [← h, if_neg (by omega)]
       ·cases h
  ·cases h
 ·cases h
theorem eff_ops {o : Int} (h0 : 6 ≤ o) (h1 : o ≤ 20) : (effM o).1.length = (arityN o).toNat ∧ (effM o).2 = [if o = 15 ∨ o = 16 ∨ o = 17 ∨ o = 18 then 2 else 1] := by
 have : o = 6 ∨ o = 7 ∨ o = 8 ∨ o = 9 ∨ o = 10 ∨ o = 11 ∨ o = 12 ∨ o = 13 ∨ o = 14 ∨ o = 15 ∨ o = 16 ∨ o = 17 ∨ o = 18 ∨ o = 19 ∨ o = 20 := by omega
 rcases this with rfl | rfl | rfl | rfl | rfl | rfl | rfl | rfl | rfl | rfl | rfl | rfl | rfl | rfl | rfl <;> exact ⟨by decide, by decide⟩
theorem do_wf {fs : List DFunc} (hf : FineB fs) (ds : List Int) {s : Ms} {x : Fr} {r : List Fr} (e : s.fr = x :: r) (hw : WfX fs x r) (hm : x.mode = 0) : WfM fs (doM fs ds s) := by
 have hrun := hw.run hm
 obtain ⟨pre, xs, ys, A⟩ := at_run hf hw.t hrun
 have hnd := A.nd
 have hst := A.st
 have hins := A.ins
 unfold doM
 rw [e]
 dsimp only
 obtain ⟨o, ho⟩ : ∃ o, (atM fs x).op = o := ⟨_, rfl⟩
 obtain ⟨a, ha⟩ : ∃ a, (atM fs x).a = a := ⟨_, rfl⟩
 have hnext := A.next
 have hcalls := A.calls
 have hll := A.ll
 have hhit := A.hit
 have hcode : codeAt (fnOf fs x.f) x.pc = atM fs x := rfl
 rw [ho, ha] at hnd
 rw [ho] at hnext
 rw [ho, ha] at hcalls
 rw [ho, ha]
 have cs0 : ∀ c ∈ x.cs, c ∈ x.cs ∨ (c.f < fs.length ∧ kindsM c.args = (fnOf fs c.f).params ∧ ((fnOf fs c.f).inner = true → (fnOf fs c.f).outer = (fnOf fs x.f).results)) := fun c hc => .inl hc
 by_cases h0 : o = 0
 ·subst h0
  rw [if_pos rfl]
  obtain ⟨rfl, rfl⟩ := hnd.rest (by omega) (by omega) (by omega) (by omega) (by omega) (by omega) (by omega) (by omega)
  exact WfM.mk' rfl (hw.go rfl cs0 (hnext (by omega) (by omega) (by omega) (by omega)) hst hll _ rfl)
 rw [if_neg h0]
 by_cases h1 : o = 1
 ·subst h1
  rw [if_pos rfl]
  obtain ⟨rfl, rfl⟩ := hnd.rest (by omega) (by omega) (by omega) (by omega) (by omega) (by omega) (by omega) (by omega)
  exact WfM.mk' rfl (hw.go rfl cs0 (hnext (by omega) (by omega) (by omega) (by omega)) (by rw [kindsM, List.map_append, show x.st.map DV.k = _ from hst]; simp [effM, numV]) hll _ rfl)
 rw [if_neg h1]
 by_cases h2 : o = 2
 ·subst h2
  rw [if_pos rfl]
  obtain ⟨q, t, rfl, ht, rfl, rfl⟩ := hnd.load rfl
  exact WfM.mk' rfl (hw.go rfl cs0 (hnext (by omega) (by omega) (by omega) (by omega)) (by rw [kindsM, List.map_append, show x.st.map DV.k = _ from hst]; simp [slot_k hw.t.sl ht]) hll _ rfl)
 rw [if_neg h2]
 by_cases h3 : o = 3
 ·subst h3
  rw [if_pos rfl]
  obtain ⟨q, t, rfl, ht, rfl, rfl⟩ := hnd.store rfl
  obtain ⟨k1, k2, k3⟩ := kinds_init _ hst
  exact WfM.mk' rfl (hw.go (set_k _ _ fun q' e' hq' => by (obtain rfl : q = q' := by omega); rw [show kindsM x.sl = _ from hw.t.sl, ht, k2]) cs0 (hnext (by omega) (by omega) (by omega) (by omega)) (by rw [k1, List.append_nil]) hll _ rfl)
 rw [if_neg h3]
 by_cases h4 : o = 4
 ·subst h4
  rw [if_pos rfl]
  obtain ⟨t, _, rfl, rfl⟩ := hnd.pop rfl
  obtain ⟨k1, k2, k3⟩ := kinds_init _ hst
  exact WfM.mk' rfl (hw.go rfl cs0 (hnext (by omega) (by omega) (by omega) (by omega)) (by rw [k1, List.append_nil]) hll _ rfl)
 rw [if_neg h4]
 by_cases h5 : o = 5
 ·subst h5
  rw [if_pos rfl]
  obtain ⟨t, htl, rfl, rfl⟩ := hnd.dup rfl
  rw [List.append_nil] at htl hst
  obtain ⟨pr, rfl⟩ := List.getLast?_eq_some_iff.1 htl
  obtain ⟨k1, k2, k3⟩ := kinds_init _ hst
  exact WfM.mk' rfl (hw.go rfl cs0 (hnext (by omega) (by omega) (by omega) (by omega)) (by rw [kindsM, List.map_append, show (initV x.st).map DV.k = _ from k1]; simp [k2]) hll _ rfl)
 rw [if_neg h5]
 by_cases h21 : o = 21
 ·subst h21
  rw [if_pos rfl]
  obtain ⟨rfl, rfl⟩ := hnd.rest (by omega) (by omega) (by omega) (by omega) (by omega) (by omega) (by omega) (by omega)
  have hh := hhit a (by unfold nextM; rw [hcode, ho, if_pos rfl, ha]; simp)
  obtain ⟨q, rfl, hq⟩ := hh
  exact WfM.mk' rfl (hw.go rfl cs0 ⟨q, rfl, hq⟩ hst hll _ rfl)
 rw [if_neg h21]
 by_cases h22 : o = 22
 ·subst h22
  rw [if_pos rfl]
  obtain ⟨rfl, rfl⟩ := hnd.rest (by omega) (by omega) (by omega) (by omega) (by omega) (by omega) (by omega) (by omega)
  have hst' : kindsM x.st = pre ++ [1] := hst
  obtain ⟨k1, k2, k3⟩ := kinds_init _ hst'
  by_cases hz : (topV x.st).n = 0
  ·rw [if_pos hz]
   have hh := hhit ((x.pc : Int) + 1) (by
    unfold nextM
    rw [hcode, ho, ha, if_neg (by omega)]
    by_cases e2 : a = (x.pc : Int) + 1
    ·rw [if_neg (fun h => h.2 e2), if_neg (by omega), if_neg (by omega)]; simp
    ·rw [if_pos ⟨rfl, e2⟩]; simp)
   rw [show (x.pc : Int) + 1 = ((x.pc + 1 : Nat) : Int) by omega] at hh
   exact WfM.mk' rfl (hw.go rfl cs0 hh (by rw [k1]; simp [effM]) hll _ rfl)
  ·rw [if_neg hz]
   have hh := hhit a (by
    unfold nextM
    rw [hcode, ho, ha, if_neg (by omega)]
    by_cases e2 : a = (x.pc : Int) + 1
    ·rw [if_neg (fun h => h.2 e2), if_neg (by omega), if_neg (by omega), e2]; simp
    ·rw [if_pos ⟨rfl, e2⟩]; simp)
   obtain ⟨q, rfl, hq⟩ := hh
   exact WfM.mk' rfl (hw.go rfl cs0 ⟨q, rfl, hq⟩ (by rw [k1]; simp [effM]) hll _ rfl)
 rw [if_neg h22]
 by_cases h23 : o = 23
 ·subst h23
  rw [if_pos rfl]
  obtain ⟨q, g, rfl, hg, rfl, rfl⟩ := hnd.call rfl
  have hgf := fnOf_of hg
  obtain ⟨q', e', hq', hin⟩ := hcalls (.inl rfl)
  obtain rfl : q = q' := by omega
  rw [← hgf] at hst
  obtain ⟨k1, k2⟩ := kinds_cut _ hst
  rw [Int.toNat_natCast]
  obtain ⟨o1, o2⟩ := open_t hf hq' k2 false false
  have hni : (fnOf fs q).inner = false := by
   cases h : (fnOf fs q).inner with
   | false => rfl
   | true => exact absurd (hin h).1 (by decide)
  refine WfM.mk' rfl ⟨o1, fun _ => o2, .inl rfl, ⟨hw.t.fn, hw.t.sl, hw.t.cs⟩, (fun h => by cases h), fun _ => ⟨hm, ⟨hrun.pc, hrun.rd, ⟨ho, ha⟩, ?_, ?_⟩, hni⟩, hw.un.like rfl rfl rfl⟩
  ·show kindsM (x.st.take _) ++ (fnOf fs q).params = _
   rw [k1, ← hrun.st, hst]
  ·show (x.st.take _).length ≤ 60
   rw [List.length_take]
   have := hrun.le
   omega
 rw [if_neg h23]
 by_cases h24 : o = 24
 ·subst h24
  rw [if_pos rfl]
  obtain ⟨q, g, rfl, hg, rfl, rfl⟩ := hnd.later rfl
  have hgf := fnOf_of hg
  obtain ⟨q', e', hq', hin⟩ := hcalls (.inr rfl)
  obtain rfl : q = q' := by omega
  rw [← hgf] at hst
  obtain ⟨k1, k2⟩ := kinds_cut _ hst
  rw [Int.toNat_natCast]
  refine WfM.mk' rfl (hw.go rfl (fun c hc => ?_) (hnext (by omega) (by omega) (by omega) (by omega)) (by rw [k1, List.append_nil]) hll _ rfl)
  rcases List.mem_append.1 hc with hc | hc
  ·exact .inl hc
  ·rw [List.mem_singleton] at hc
   subst hc
   exact .inr ⟨hq', k2, fun h => (hin h).2⟩
 rw [if_neg h24]
 by_cases h25 : o = 25
 ·rw [if_pos h25]
  exact WfM.mk' rfl (hw.leave 1 (.inl rfl) x.ch _ rfl)
 rw [if_neg h25]
 by_cases h26 : o = 26
 ·rw [if_pos h26]
  exact WfM.mk' rfl (hw.leave 2 (.inr rfl) _ _ rfl)
 rw [if_neg h26]
 by_cases h27 : o = 27
 ·subst h27
  rw [if_pos rfl]
  obtain ⟨rfl, rfl⟩ := hnd.rest (by omega) (by omega) (by omega) (by omega) (by omega) (by omega) (by omega) (by omega)
  have := hw.go rfl cs0 (hnext (by omega) (by omega) (by omega) (by omega)) (st := x.st ++ [numV (if x.by_ = true then recM (chOf r) else (chOf r, 0, 0)).2.1, numV (if x.by_ = true then recM (chOf r) else (chOf r, 0, 0)).2.2]) (by rw [kindsM, List.map_append, show x.st.map DV.k = _ from hst]; simp [effM, numV]) hll _ rfl
  exact WfM.mk' rfl ⟨this.t, this.run, this.mo, this.un.ch _⟩
 rw [if_neg h27]
 by_cases h28 : o = 28
 ·subst h28
  rw [if_pos rfl]
  obtain ⟨q, t, rfl, hi, ht, rfl, rfl⟩ := hnd.get_ rfl
  refine WfM.mk' rfl (hw.go rfl cs0 (hnext (by omega) (by omega) (by omega) (by omega)) ?_ hll _ rfl)
  rw [kindsM, List.map_append, show x.st.map DV.k = _ from hst]
  have hun := hw.un
  cases r with
  | nil => exact absurd hun.2 (by rw [hi]; simp)
  | cons y r =>
   obtain ⟨u1, u2, u3, u4⟩ := hun
   cases hd : x.dfd with
   | false => exact absurd (u3 hd).2.2 (by rw [hi]; simp)
   | true =>
    have ho := (u2 hd).2.2 hi
    rw [ho] at ht
    have hq := (List.getElem?_eq_some_iff.1 ht).1
    have hk : (slotM y.sl (resAt fs (y :: r) (q : Int))).k = t := by
     show (slotM y.sl (fresM (fnOf fs y.f).params.length (fnOf fs y.f).results.length (q : Int))).k = t
     unfold fresM
     rw [if_pos ⟨by omega, by omega⟩]
     have := slot_k (q := (fnOf fs y.f).params.length + q) u1.sl (types_res ht)
     rwa [Int.natCast_add] at this
    simp [hk, slOf]
 rw [if_neg h28]
 by_cases h29 : o = 29
 ·subst h29
  rw [if_pos rfl]
  obtain ⟨q, t, rfl, hi, ht, rfl, rfl⟩ := hnd.set_ rfl
  obtain ⟨k1, k2, k3⟩ := kinds_init _ hst
  have hg := hw.go rfl cs0 (hnext (by omega) (by omega) (by omega) (by omega)) (st := initV x.st) (by rw [k1, List.append_nil]) hll _ rfl
  have hun := hw.un
  cases r with
  | nil => exact absurd hun.2 (by rw [hi]; simp)
  | cons y r =>
   obtain ⟨u1, u2, u3, u4⟩ := hun
   by_cases hd : x.dfd = true
   ·skip
    have ho := (u2 hd).2.2 hi
    rw [ho] at ht
    have hq := (List.getElem?_eq_some_iff.1 ht).1
    rw [if_pos hd]
    refine WfM.mk' rfl ⟨hg.t, hg.run, hg.mo, hg.un.sl ?_⟩
    refine set_k _ _ fun q' e' hq' => ?_
    change fresM (fnOf fs y.f).params.length (fnOf fs y.f).results.length (q : Int) = (q' : Int) at e'
    unfold fresM at e'
    rw [if_pos ⟨by omega, by omega⟩] at e'
    show (kindsM y.sl)[q']? = _
    rw [show kindsM y.sl = _ from u1.sl, k2]
    obtain rfl : q' = (fnOf fs y.f).params.length + q := by omega
    exact types_res ht
   ·exact absurd (u3 (by simpa using hd)).2.2 (by rw [hi]; simp)
 rw [if_neg h29]
 by_cases h30 : o = 30
 ·subst h30
  rw [if_pos rfl]
  obtain ⟨rfl, rfl⟩ := hnd.rest (by omega) (by omega) (by omega) (by omega) (by omega) (by omega) (by omega) (by omega)
  have hst' : kindsM x.st = pre ++ [1] := hst
  obtain ⟨k1, k2, k3⟩ := kinds_init _ hst'
  exact WfM.mk' rfl (hw.go rfl cs0 (hnext (by omega) (by omega) (by omega) (by omega)) (by rw [k1]; simp [effM]) hll _ rfl)
 rw [if_neg h30]
 by_cases h31 : o = 31
 ·subst h31
  rw [if_pos rfl]
  obtain ⟨rfl, rfl⟩ := hnd.rest (by omega) (by omega) (by omega) (by omega) (by omega) (by omega) (by omega) (by omega)
  exact WfM.mk' rfl (hw.go rfl cs0 (hnext (by omega) (by omega) (by omega) (by omega)) hst hll _ rfl)
 rw [if_neg h31]
 by_cases h32 : o = 32
 ·subst h32
  rw [if_pos rfl]
  obtain ⟨rfl, rfl⟩ := hnd.rest (by omega) (by omega) (by omega) (by omega) (by omega) (by omega) (by omega) (by omega)
  exact WfM.mk' rfl (hw.go rfl cs0 (hnext (by omega) (by omega) (by omega) (by omega)) (by rw [kindsM, List.map_append, show x.st.map DV.k = _ from hst]; simp [effM, numV]) hll _ rfl)
 rw [if_neg h32]
 have hr : 6 ≤ o ∧ o ≤ 20 := by
  have := hnd.opens
  have h1' := hins.1
  have h2' := hins.2.1
  rw [ho] at h1' h2'
  omega
 obtain ⟨rfl, rfl⟩ := hnd.rest (by omega) (by omega) (by omega) (by omega) (by omega) (by omega) (by omega) (by omega)
 obtain ⟨e1, e2⟩ := eff_ops hr.1 hr.2
 obtain ⟨k1, k2⟩ := kinds_cut _ hst
 rw [e1] at k1 k2
 unfold reckM
 split
 ·rename_i v hv
  refine WfM.mk' rfl (hw.go rfl cs0 (hnext (by omega) (by omega) (by omega) (by omega)) ?_ hll _ rfl)
  rw [kindsM, List.map_append, show (x.st.take _).map DV.k = _ from k1, e2]
  simp [opA_k hv]
 ·exact WfM.mk' rfl (hw.leave 2 (.inr rfl) _ _ rfl)
theorem end_wf {fs : List DFunc} (hf : FineB fs) {s : Ms} {x : Fr} {r : List Fr} (e : s.fr = x :: r) (hw : WfX fs x r) (hm : x.mode ≠ 0) : WfM fs (endM fs s) := by
 unfold endM
 rw [e]
 dsimp only
 have hmo : x.mode = 1 ∨ x.mode = 2 := hw.mo.resolve_left hm
 by_cases h1 : x.mode = 2 ∧ openB x.ch = false
 ·rw [if_pos h1]
  refine WfM.mk' rfl ⟨⟨hw.t.fn, hw.t.sl, hw.t.cs⟩, (fun h => by cases h), .inr (.inl rfl), hw.un.like rfl rfl rfl⟩
 rw [if_neg h1]
 cases hc : x.cs.getLast? with
 | some c =>
  dsimp only
  have hmem : c ∈ x.cs := List.mem_of_getLast? hc
  obtain ⟨c1, c2, c3⟩ := hw.t.cs c hmem
  obtain ⟨o1, o2⟩ := open_t hf c1 c2 true (decide (x.mode = 2))
  refine WfM.mk' rfl ⟨o1, fun _ => o2, .inl rfl, ⟨hw.t.fn, hw.t.sl, fun c hc => hw.t.cs c ((List.dropLast_sublist _).subset hc)⟩, fun _ => ⟨hmo, fun h => of_decide_eq_true h, c3⟩, (fun h => by cases h), hw.un.like rfl rfl rfl⟩
 | none =>
  dsimp only
  by_cases h2 : x.mode = 2
  ·rw [if_pos h2]
   unfold fallM
   have hun := hw.un
   cases r with
   | nil => simp [WfM]
   | cons y r =>
    obtain ⟨u1, u2, u3, u4⟩ := hun
    exact WfM.mk' rfl ⟨⟨u1.fn, u1.sl, u1.cs⟩, (fun h => by cases h), .inr (.inr rfl), u4.like rfl rfl rfl⟩
  ·rw [if_neg h2]
   unfold goneM
   have hun := hw.un
   cases r with
   | nil =>
    rw [if_neg (by rw [hun.1]; simp)]
    simp [WfM]
   | cons y r =>
    obtain ⟨u1, u2, u3, u4⟩ := hun
    cases hd : x.dfd with
    | true =>
     rw [if_pos rfl]
     have hy := (u2 hd).1
     exact WfM.mk' rfl ⟨u1, fun h => by omega, by omega, u4⟩
    | false =>
     rw [if_neg (by simp)]
     obtain ⟨y1, y2, y3⟩ := u3 hd
     have hfn := hf.fn y.f _ (fnOf_at u1.fn)
     obtain ⟨z, ⟨pre, xs, ys, ⟨i, hi, hn⟩, h3, h4, rfl⟩, hk⟩ := (ty_spec hfn.ty).2.2 y.pc y2.pc y2.rd
     have ha := atM_of (fs := fs) hi
     subst ha
     obtain ⟨q, g, e1, e2, rfl, rfl⟩ := hn.call y2.at_.1
     obtain rfl : q = x.f := by have := y2.at_.2; omega
     obtain rfl := fnOf_of e2
     obtain rfl : kindsM y.st = pre := List.append_cancel_right (y2.st.trans h3)
     have hh := hk ((y.pc : Int) + 1) (List.mem_append.2 (.inl (nextM_plain (by rw [show (codeAt _ _).op = _ from y2.at_.1]; omega) (by rw [show (codeAt _ _).op = _ from y2.at_.1]; omega) (by rw [show (codeAt _ _).op = _ from y2.at_.1]; omega) (by rw [show (codeAt _ _).op = _ from y2.at_.1]; omega) (by rw [show (codeAt _ _).op = _ from y2.at_.1]; omega))))
     rw [show (y.pc : Int) + 1 = ((y.pc + 1 : Nat) : Int) by omega] at hh
     have hres : kindsM (resultsM fs x) = (fnOf fs x.f).results := by
      unfold resultsM
      rw [kindsM, List.map_take, List.map_drop, show x.sl.map DV.k = _ from hw.t.sl, show typesM (fnOf fs x.f) = (fnOf fs x.f).params ++ ((fnOf fs x.f).results ++ (fnOf fs x.f).locals) from List.append_assoc _ _ _, List.drop_left, List.take_left]
     obtain ⟨q', e', g1, g2, g3⟩ := hh
     obtain rfl : y.pc + 1 = q' := by omega
     have hk9 : kindsM (y.st ++ resultsM fs x) = kindsM y.st ++ (fnOf fs x.f).results := by rw [kindsM, List.map_append, show (resultsM fs x).map DV.k = _ from hres]
     exact WfM.mk' rfl ⟨⟨u1.fn, u1.sl, u1.cs⟩, fun _ => ⟨g1, g2, hk9.trans g3.symm, by rw [kinds_len hk9, List.length_append]; exact h4⟩, .inl y1, u4.like rfl rfl rfl⟩
end
section
open Go.RowKit
def loadM : List Fr → Nat
 | [] => 0
 | x :: r => x.cs.length + 1 + loadM r
def blmM : List Fr → Nat
 | [] => 0
 | x :: r => x.ch.length + blmM r
theorem loadM_ch (r : List Fr) (c : List Bl) : loadM (setCh r c) = loadM r := by cases r <;> rfl
theorem loadM_sl (r : List Fr) (l : List DV) : loadM (setSl r l) = loadM r := by cases r <;> rfl
theorem blmM_sl (r : List Fr) (l : List DV) : blmM (setSl r l) = blmM r := by cases r <;> rfl
theorem recM_len (c : List Bl) : (recM c).1.length = c.length := by
 unfold recM
 split
 ·rename_i b hb
  split
  ·rfl
  ·obtain ⟨l, rfl⟩ := List.getLast?_eq_some_iff.1 hb
   simp
 ·rfl
theorem blmM_ch (r : List Fr) (c : List Bl) (h : c.length = (chOf r).length) : blmM (setCh r c) = blmM r := by
 cases r with
 | nil => rfl
 | cons y r => simp [blmM, setCh, chOf] at h ⊢; omega
theorem iteP {P : Ms → Prop} {p : Prop} [Decidable p] {a b : Ms} (ha : P a) (hb : P b) : P (if p then a else b) := by
 split
 ·exact ha
 ·exact hb
def SzS (s : Ms) (l b : Nat) (t : Ms) : Prop := loadM t.fr ≤ l + 1 ∧ blmM t.fr ≤ b + 1 ∧ t.evs.length ≤ s.evs.length + 1 ∧ t.drawn ≤ s.drawn + 1 ∧ t.steps = s.steps
theorem do_sz (fs : List DFunc) (ds : List Int) (s : Ms) : SzS s (loadM s.fr) (blmM s.fr) (doM fs ds s) := by
 cases hfr : s.fr with
 | nil =>
  have : doM fs ds s = s := by unfold doM; rw [hfr]
  rw [this]
  unfold SzS
  rw [hfr]
  exact ⟨by omega, by omega, by omega, by omega, rfl⟩
 | cons x r =>
  have e27 : ∀ b : Bool, blmM (setCh r (if b = true then recM (chOf r) else (chOf r, 0, 0)).1) = blmM r := fun b => by
   refine blmM_ch r _ ?_
   split
   ·exact recM_len _
   ·rfl
  have e29 : ∀ l, loadM (if x.dfd = true then setSl r l else r) = loadM r ∧ blmM (if x.dfd = true then setSl r l else r) = blmM r := fun l => by
   split
   ·exact ⟨loadM_sl _ _, blmM_sl _ _⟩
   ·exact ⟨rfl, rfl⟩
  unfold doM
  rw [hfr]
  dsimp only
  repeat' (refine iteP (P := SzS s (loadM (x :: r)) (blmM (x :: r))) ?_ ?_)
  all_goals unfold SzS
  all_goals first
   | (simp [nextM', raiseM, openF, loadM, blmM, loadM_ch, loadM_sl, blmM_sl]; done)
   | (simp [nextM', raiseM, openF, loadM, blmM, loadM_ch, loadM_sl, blmM_sl]; omega)
   | (simp [nextM', raiseM, openF, loadM, blmM, loadM_ch, loadM_sl, blmM_sl, e27]; done)
   | (unfold reckM; split <;> simp [nextM', raiseM, openF, loadM, blmM] <;> omega)
   | (simp [nextM', loadM, blmM, e29]; done)
   | (have := e27 x.by_; simp [nextM', raiseM, openF, loadM, blmM, loadM_ch, loadM_sl, blmM_sl] at this ⊢; omega)
theorem end_sz (fs : List DFunc) (s : Ms) : loadM (endM fs s).fr ≤ loadM s.fr ∧ blmM (endM fs s).fr ≤ blmM s.fr ∧ (endM fs s).evs = s.evs ∧ (endM fs s).drawn = s.drawn ∧ (endM fs s).steps = s.steps := by
 cases hfr : s.fr with
 | nil =>
  have : endM fs s = s := by unfold endM; rw [hfr]
  rw [this, hfr]
  exact ⟨Nat.le_refl _, Nat.le_refl _, rfl, rfl, rfl⟩
 | cons x r =>
  unfold endM
  rw [hfr]
  dsimp only
  split
  ·exact ⟨by simp [loadM], by simp [blmM], rfl, rfl, rfl⟩
  ·cases hc : x.cs.getLast? with
   | some c =>
    obtain ⟨l, hl⟩ := List.getLast?_eq_some_iff.1 hc
    exact ⟨by simp [loadM, openF, hl]; try omega, by simp [blmM, openF], rfl, rfl, rfl⟩
   | none =>
    dsimp only
    split
    ·unfold fallM
     cases r with
     | nil => exact ⟨by simp [loadM], by simp [blmM], rfl, rfl, rfl⟩
     | cons y r => exact ⟨by simp [loadM]; try omega, by simp only [blmM]; split <;> simp <;> try omega, rfl, rfl, rfl⟩
    ·unfold goneM
     split
     ·exact ⟨by simp [loadM], by simp [blmM], rfl, rfl, rfl⟩
     ·cases r with
      | nil => exact ⟨by simp [loadM], by simp [blmM], rfl, rfl, rfl⟩
      | cons y r => exact ⟨by simp [loadM]; try omega, by simp [blmM], rfl, rfl, rfl⟩
structure SzM (s : Ms) : Prop where
 load : loadM s.fr ≤ s.steps + 1
 blm : blmM s.fr ≤ s.steps
 evs : s.evs.length ≤ s.steps
 drawn : s.drawn ≤ s.steps
structure OkM (fs : List DFunc) (fuel : Nat) (s : Ms) : Prop where
 wf : WfM fs s
 sz : SzM s
 fu : s.steps ≤ fuel
theorem stepM_run {fs : List DFunc} {ds : List Int} {fuel : Nat} {s : Ms} {x : Fr} {r : List Fr} (hfr : s.fr = x :: r) (hm : x.mode = 0) : stepM fs ds fuel s = if s.steps < fuel then some (doM fs ds { s with steps := s.steps + 1 }) else none := by
 unfold stepM
 split
 ·rename_i h; rw [hfr] at h; cases h
 ·rename_i y r' h
  rw [hfr] at h
  injection h with h1 h2
  subst h1
  rw [if_pos hm]
theorem stepM_end {fs : List DFunc} {ds : List Int} {fuel : Nat} {s : Ms} {x : Fr} {r : List Fr} (hfr : s.fr = x :: r) (hm : x.mode ≠ 0) : stepM fs ds fuel s = some (endM fs s) := by
 unfold stepM
 split
 ·rename_i h; rw [hfr] at h; cases h
 ·rename_i y r' h
  rw [hfr] at h
  injection h with h1 h2
  subst h1
  rw [if_neg hm]
theorem stepM_nil {fs : List DFunc} {ds : List Int} {fuel : Nat} {s : Ms} (hfr : s.fr = []) : stepM fs ds fuel s = none := by
 unfold stepM
 split
 ·rfl
 ·rename_i h; rw [hfr] at h; cases h
theorem step_cases {fs : List DFunc} {ds : List Int} {fuel : Nat} {s t : Ms} (e : stepM fs ds fuel s = some t) : (∃ x r, s.fr = x :: r ∧ x.mode = 0 ∧ s.steps < fuel ∧ t = doM fs ds { s with steps := s.steps + 1 }) ∨ ∃ x r, s.fr = x :: r ∧ x.mode ≠ 0 ∧ t = endM fs s := by
 obtain ⟨l, hfr⟩ : ∃ l, s.fr = l := ⟨_, rfl⟩
 cases l with
 | nil => rw [stepM_nil hfr] at e; cases e
 | cons x r =>
  by_cases hm : x.mode = 0
  ·rw [stepM_run hfr hm] at e
   split at e
   ·rename_i hlt
    injection e with e
    exact .inl ⟨x, r, hfr, hm, hlt, e.symm⟩
   ·cases e
  ·rw [stepM_end hfr hm] at e
   injection e with e
   exact .inr ⟨x, r, hfr, hm, e.symm⟩
theorem step_ok {fs : List DFunc} (hf : FineB fs) {ds : List Int} {fuel : Nat} {s t : Ms} (h : OkM fs fuel s) (e : stepM fs ds fuel s = some t) : OkM fs fuel t := by
 have z := h.sz
 have z1 := z.load; have z2 := z.blm; have z3 := z.evs; have z4 := z.drawn; have z5 := h.fu
 rcases step_cases e with ⟨x, r, hfr, hm, hlt, rfl⟩ | ⟨x, r, hfr, hm, rfl⟩
 ·obtain ⟨a1, a2, a3, a4, a5⟩ := do_sz fs ds { s with steps := s.steps + 1 }
  dsimp only at a1 a2 a3 a4 a5
  exact ⟨do_wf hf ds (s := { s with steps := s.steps + 1 }) hfr (h.wf.x hfr) hm, ⟨by omega, by omega, by omega, by omega⟩, by omega⟩
 ·obtain ⟨a1, a2, a3, a4, a5⟩ := end_sz fs s
  exact ⟨end_wf hf hfr (h.wf.x hfr) hm, ⟨by omega, by omega, by rw [a3]; omega, by omega⟩, by omega⟩
theorem reach_ok {fs : List DFunc} (hf : FineB fs) {ds : List Int} {fuel : Nat} {s t : Ms} (h : OkM fs fuel s) (r : Reach fs ds fuel s t) : OkM fs fuel t := by
 induction r with
 | refl => exact h
 | tail _ e ih => exact step_ok hf ih e
theorem step_more {fs : List DFunc} {ds : List Int} {f g : Nat} (hfg : f ≤ g) {s t : Ms} (e : stepM fs ds f s = some t) : stepM fs ds g s = some t := by
 rcases step_cases e with ⟨x, r, hfr, hm, hlt, rfl⟩ | ⟨x, r, hfr, hm, rfl⟩
 ·rw [stepM_run hfr hm, if_pos (by omega)]
 ·rw [stepM_end hfr hm]
theorem reach_more {fs : List DFunc} {ds : List Int} {f g : Nat} (hfg : f ≤ g) {s t : Ms} (r : Reach fs ds f s t) : Reach fs ds g s t := by
 induction r with
 | refl => exact .refl _
 | tail _ e ih => exact .tail ih (step_more hfg e)
theorem reach_head {fs : List DFunc} {ds : List Int} {f : Nat} {s t : Ms} (r : Reach fs ds f s t) : s = t ∨ ∃ u, stepM fs ds f s = some u ∧ Reach fs ds f u t := by
 induction r with
 | refl => exact .inl rfl
 | tail _ e ih =>
  rcases ih with rfl | ⟨u, h1, h2⟩
  ·exact .inr ⟨_, e, .refl _⟩
  ·exact .inr ⟨u, h1, .tail h2 e⟩
theorem reach_or {fs : List DFunc} {ds : List Int} {f : Nat} {s t u : Ms} (r : Reach fs ds f s t) (k : Reach fs ds f s u) : Reach fs ds f t u ∨ Reach fs ds f u t := by
 induction r with
 | refl => exact .inl k
 | @tail a b h1 e ih =>
  rcases ih with h | h
  ·rcases reach_head h with rfl | ⟨v, h2, h3⟩
   ·exact .inr (.one e)
   ·rw [e] at h2
    injection h2 with h2
    subst h2
    exact .inl h3
  ·exact .inr (.tail h e)
theorem reach_end {fs : List DFunc} {ds : List Int} {f : Nat} {s t u : Ms} (r : Reach fs ds f s t) (ht : stepM fs ds f t = none) (k : Reach fs ds f s u) : Reach fs ds f u t := by
 rcases reach_or r k with h | h
 ·rcases reach_head h with rfl | ⟨v, h2, _⟩
  ·exact .refl _
  ·rw [ht] at h2; cases h2
 ·exact h
def EvX (s t : Ms) : Prop := ∃ l, t.evs = s.evs ++ l
theorem do_evs (fs : List DFunc) (ds : List Int) (s : Ms) : EvX s (doM fs ds s) := by
 cases hfr : s.fr with
 | nil =>
  have : doM fs ds s = s := by unfold doM; rw [hfr]
  rw [this]
  exact ⟨[], by simp⟩
 | cons x r =>
  unfold doM
  rw [hfr]
  dsimp only
  repeat' (refine iteP (P := EvX s) ?_ ?_)
  all_goals first | (unfold reckM; split <;> exact ⟨[], by simp [nextM', raiseM]⟩) | exact ⟨_, rfl⟩ | exact ⟨[], by simp [nextM', raiseM]⟩
theorem reach_evs {fs : List DFunc} {ds : List Int} {f : Nat} {s t : Ms} (r : Reach fs ds f s t) : ∃ l, t.evs = s.evs ++ l := by
 induction r with
 | refl => exact ⟨[], by simp⟩
 | @tail a b h1 e ih =>
  obtain ⟨l, hl⟩ := ih
  rcases step_cases e with ⟨x, r, hfr, hm, hlt, rfl⟩ | ⟨x, r, hfr, hm, rfl⟩
  ·obtain ⟨l2, h2⟩ := do_evs fs ds { a with steps := a.steps + 1 }
   exact ⟨l ++ l2, by rw [h2]; show a.evs ++ l2 = _; rw [hl, List.append_assoc]⟩
  ·exact ⟨l, by rw [(end_sz fs a).2.2.1, hl]⟩
def EndsAt (fs : List DFunc) (ds ags : List Int) (f : Nat) (t : Ms) : Prop := Reach fs ds f (startM fs ags) t ∧ stepM fs ds f t = none
theorem ends_one {fs : List DFunc} {ds ags : List Int} {f : Nat} {t u : Ms} (h : EndsAt fs ds ags f t) (k : EndsAt fs ds ags f u) : t = u := by
 have h1 := reach_end h.1 h.2 k.1
 rcases reach_head h1 with rfl | ⟨v, h2, _⟩
 ·rfl
 ·rw [k.2] at h2; cases h2
theorem start_ok {fs : List DFunc} (hf : FineB fs) (ags : List Int) (f : Nat) : OkM fs f (startM fs ags) := by
 obtain ⟨x, hx, h1, h2⟩ := (hf.fn 0 _ (fnOf_at (show 0 < fs.length by have := hf.one; omega))).entry rfl
 have hxe := fnOf_of hx
 have ha : kindsM (argsM fs ags) = (fnOf fs 0).params := by
  unfold argsM
  rw [kindsM, List.map_map]
  have : ∀ t ∈ (fnOf fs 0).params, t = 1 := fun t ht => by rw [hxe] at ht; exact h1 t (List.mem_append.2 (.inl ht))
  rw [show (DV.k ∘ fun i => numV (ags.getD i 0)) = fun _ => (1 : Int) from rfl, List.map_const', List.length_range]
  exact (List.eq_replicate_iff.2 ⟨rfl, this⟩).symm
 obtain ⟨o1, o2⟩ := open_t hf (show 0 < fs.length by have := hf.one; omega) ha false false
 exact ⟨⟨o1, fun _ => o2, .inl rfl, ⟨rfl, by show (fnOf fs 0).inner = false; rw [hxe]; exact h2⟩⟩, ⟨by simp [startM, loadM, openF], by simp [startM, blmM, openF], by simp [startM], by simp [startM]⟩, Nat.zero_le _⟩
end
end Go.Proofs.YtobmjnmcjddhcaaGreat
