import Derived.Test.YtobmjnmcjddhcaaGreatRg20
import Derived.Test.YtobmjnmcjddhcaaGreatRg17
set_option linter.unusedSimpArgs false
set_option linter.unusedVariables false
namespace Go.Proofs.YtobmjnmcjddhcaaGreat
section
open Go.RowKit
attribute [local go_sem] run_store_cplx
end
section
open Go.RowKit
def nanB : Nat := 0x7ff0000000000001
def cnF (x : Nat) : Nat := if isN x = true then nanB else x
def cnV (v : DV) : DV := ⟨v.k, v.n, cnF v.x, cnF v.y⟩
abbrev cnL (l : List DV) : List DV := l.map cnV
theorem isN_nanB : isN nanB = true := by decide
theorem cnF_zero : cnF 0 = 0 := by decide
theorem cnF_N {x : Nat} (h : isN x = true) : cnF x = nanB := by unfold cnF; rw [if_pos h]
theorem isN_cnF (x : Nat) : isN (cnF x) = isN x := by
 unfold cnF
 split
 ·rename_i h; rw [h, isN_nanB]
 ·rfl
def flA (op : BinOp) (x y : Nat) : Nat := match floatBits op .f64 x y with
 | some r => cnF r
 | none => nanB
theorem flA_of {op : BinOp} {x y r : Nat} (h : FlR op x y r) : cnF r = flA op x y := by
 unfold flA
 rcases h with h | ⟨h, hn⟩
 ·rw [h]
 ·rw [h]; exact cnF_N hn
theorem flA_cn {op : BinOp} (ho : op = .add ∨ op = .sub ∨ op = .mul) (x y : Nat) : flA op (cnF x) (cnF y) = flA op x y := by
 unfold flA
 by_cases hx : isN x = true
 ·rw [fb_nan_l ho y hx, fb_nan_l ho (cnF y) (by rw [isN_cnF]; exact hx)]
 ·by_cases hy : isN y = true
  ·rw [fb_nan_r ho x hy, fb_nan_r ho (cnF x) (by rw [isN_cnF]; exact hy)]
  ·rw [show cnF x = x by unfold cnF; rw [if_neg hx], show cnF y = y by unfold cnF; rw [if_neg hy]]
theorem inB_N {x : Nat} (h : isN x = true) : inB x = false := by
 obtain ⟨s, t, hr⟩ := isN_rd h
 unfold inB Ieee.Format.order
 rw [hr]
 rfl
theorem partB_cn (x : Nat) : partB (cnF x) = partB x := by
 by_cases h : isN x = true
 ·rw [cnF_N h]
  unfold partB
  rw [inB_N h, inB_N isN_nanB]
  rfl
 ·rw [show cnF x = x by unfold cnF; rw [if_neg h]]
def opA (op : Int) (xs : List DV) : Option DV :=
 if fitsB op xs = true then (match xs with
  | [a] => if op = 19 ∨ op = 20 then some ⟨1, partOf op a.x a.y, 0, 0⟩ else some ⟨1, oneM op a.n, 0, 0⟩
  | [a, b] => if op = 15 then some ⟨2, 0, cnF (nr a.n), cnF (nr b.n)⟩ else if op = 16 then some ⟨2, 0, flA .add a.x b.x, flA .add a.y b.y⟩ else if op = 17 then some ⟨2, 0, flA .sub a.x b.x, flA .sub a.y b.y⟩
   else if op = 18 then some ⟨2, 0, flA .sub (flA .mul a.x b.x) (flA .mul a.y b.y), flA .add (flA .mul a.x b.y) (flA .mul a.y b.x)⟩
   else if (twoM op a.n b.n).2 = true then some ⟨1, (twoM op a.n b.n).1, 0, 0⟩ else none
  | _ => none) else none
theorem allK_cn (t : Int) (xs : List DV) : allK t (cnL xs) = allK t xs := by
 unfold allK
 rw [List.all_map]
 rfl
theorem fitsB_cn (op : Int) (xs : List DV) : fitsB op (cnL xs) = fitsB op xs := by
 unfold fitsB
 rw [allK_cn, List.length_map]
theorem tk1 {op : Int} (h : takesNM op = 1) : op = 11 ∨ op = 14 := by
 unfold takesNM at h
 split at h
 ·omega
 ·split at h
  ·assumption
  ·omega
theorem tk2 {op : Int} (h : takesNM op = 2) : op = 6 ∨ op = 7 ∨ op = 8 ∨ op = 9 ∨ op = 10 ∨ op = 12 ∨ op = 13 := by
 unfold takesNM at h
 split at h
 ·assumption
 ·split at h <;> omega
theorem flA_flA {op : BinOp} (ho : op = .add ∨ op = .sub ∨ op = .mul) {x y p q : Nat} (hp : cnF p = x) (hq : cnF q = y) : flA op p q = flA op x y := by rw [← hp, ← hq, flA_cn ho]
theorem opA_of {op : Int} {xs : List DV} {r : Option DV} (h : OneR op xs r) : r.map cnV = opA op (cnL xs) := by
 unfold opA
 rw [fitsB_cn]
 cases h with
 | pair a b ho hx ha hb =>
  subst hx
  subst ho
  have : fitsB 15 [a, b] = true := by simp [fitsB, arityN, kindN, allK, ha, hb]
  rw [if_pos this]
  rfl
 | two a b r i ho hx ha hb ht =>
  subst hx
  rcases ho with rfl | rfl | rfl
  ·have : fitsB 16 [a, b] = true := by simp [fitsB, arityN, kindN, allK, ha, hb]
   rw [if_pos this]
   obtain ⟨h1, h2⟩ := ht.1 rfl
   simp [cnV, flA_of h1, flA_of h2, flA_cn, cnF_zero]
  ·have : fitsB 17 [a, b] = true := by simp [fitsB, arityN, kindN, allK, ha, hb]
   rw [if_pos this]
   obtain ⟨h1, h2⟩ := ht.2.1 rfl
   simp [cnV, flA_of h1, flA_of h2, flA_cn, cnF_zero]
  ·have : fitsB 18 [a, b] = true := by simp [fitsB, arityN, kindN, allK, ha, hb]
   rw [if_pos this]
   obtain ⟨p, q, u, v, h1, h2, h3, h4, h5, h6⟩ := ht.2.2.1 rfl
   simp only [Option.map, List.map, cnV, flA_of h3, flA_of h6, flA_cn (.inr (.inr rfl))]
   rw [flA_flA (.inr (.inl rfl)) (flA_of h1) (flA_of h2), flA_flA (.inl rfl) (flA_of h4) (flA_of h5)]
   rfl
 | part a ho hx ha =>
  subst hx
  have hk : kindN op = 2 := by rcases ho with rfl | rfl <;> rfl
  have hy : arityN op = 1 := by rcases ho with rfl | rfl <;> rfl
  have : fitsB op [a] = true := by simp [fitsB, hy, hk, allK, ha]
  rw [if_pos this]
  simp only [Option.map, List.map]
  rw [if_pos ho]
  have e : partOf op (cnF a.x) (cnF a.y) = partOf op a.x a.y := by unfold partOf; rw [partB_cn, partB_cn]
  simp only [cnV, e, cnF_zero]
 | w1 a ho hx ha =>
  subst hx
  have h5 := tk1 ho
  have hk : kindN op = 1 := by rcases h5 with rfl | rfl <;> rfl
  have hy : arityN op = 1 := by rcases h5 with rfl | rfl <;> rfl
  have : fitsB op [a] = true := by simp [fitsB, hy, hk, allK, ha]
  rw [if_pos this]
  simp only [Option.map, List.map]
  rw [if_neg (by omega)]
  simp only [cnV, cnF_zero]
 | w2 a b ho hx ha hb ht =>
  subst hx
  have h5 := tk2 ho
  have hk : kindN op = 1 := by rcases h5 with rfl | rfl | rfl | rfl | rfl | rfl | rfl <;> rfl
  have hy : arityN op = 2 := by rcases h5 with rfl | rfl | rfl | rfl | rfl | rfl | rfl <;> rfl
  have : fitsB op [a, b] = true := by simp [fitsB, hy, hk, allK, ha, hb]
  rw [if_pos this]
  simp only [Option.map, List.map]
  rw [if_neg (by omega), if_neg (by omega), if_neg (by omega), if_neg (by omega)]
  simp [cnV, cnF_zero, ht]
 | w2n a b ho hx ha hb ht =>
  subst hx
  have h5 := tk2 ho
  have hk : kindN op = 1 := by rcases h5 with rfl | rfl | rfl | rfl | rfl | rfl | rfl <;> rfl
  have hy : arityN op = 2 := by rcases h5 with rfl | rfl | rfl | rfl | rfl | rfl | rfl <;> rfl
  have : fitsB op [a, b] = true := by simp [fitsB, hy, hk, allK, ha, hb]
  rw [if_pos this]
  simp only [Option.map, List.map]
  rw [if_neg (by omega), if_neg (by omega), if_neg (by omega), if_neg (by omega)]
  simp [cnV, ht]
 | no hf => rw [if_neg (by rw [hf]; simp)]; rfl
structure Bl where
 k : Int
 n : Int
 rc : Bool
 tr : List (Int × Int)
structure Ev where
 k : Int
 n : Int
 m : Int
 tr : List (Int × Int)
structure Wt where
 f : Nat
 args : List DV
structure Fr where
 f : Nat
 pc : Nat
 sl : List DV
 st : List DV
 cs : List Wt
 dfd : Bool
 by_ : Bool
 mode : Nat
 ch : List Bl
inductive Fin' where
 | done (rs : List Int)
 | crash (ch : List Bl)
structure Ms where
 fr : List Fr
 drawn : Nat
 steps : Nat
 evs : List Ev
 fin : Option Fin'
def dF : DFunc := ⟨{ data := #[] }, false, [], [], [], [], [], [], [], [], []⟩
def fnOf (fs : List DFunc) (f : Nat) : DFunc := fs.getD f dF
def traceM (fs : List DFunc) (l : List Fr) : List (Int × Int) := l.map fun x => ((x.f : Int), lineZ (fnOf fs x.f).lines (x.pc : Int))
def openF (fs : List DFunc) (f : Nat) (args : List DV) (dfd by_ : Bool) : Fr := ⟨f, 0, slM (typesM (fnOf fs f)) (fnOf fs f).params.length args, [], [], dfd, by_, 0, []⟩
def resultsM (fs : List DFunc) (x : Fr) : List DV := (x.sl.drop (fnOf fs x.f).params.length).take (fnOf fs x.f).results.length
def numV (n : Int) : DV := ⟨1, n, 0, 0⟩
def openB (ch : List Bl) : Bool := match ch.getLast? with
 | some b => !b.rc
 | none => false
def recM (ch : List Bl) : List Bl × Int × Int := match ch.getLast? with
 | some b => if b.rc = true then (ch, 0, 0) else (ch.dropLast ++ [{ b with rc := true }], b.k, b.n)
 | none => (ch, 0, 0)
def chOf : List Fr → List Bl
 | y :: _ => y.ch
 | [] => []
def setCh (r : List Fr) (ch : List Bl) : List Fr := match r with
 | y :: t => { y with ch := ch } :: t
 | [] => []
def slOf : List Fr → List DV
 | y :: _ => y.sl
 | [] => []
def fOf : List Fr → Nat
 | y :: _ => y.f
 | [] => 0
def setSl (r : List Fr) (sl : List DV) : List Fr := match r with
 | y :: t => { y with sl := sl } :: t
 | [] => []
def initV (l : List DV) : List DV := l.take (l.length - 1)
def raiseM (fs : List DFunc) (s : Ms) (x : Fr) (r : List Fr) (k n : Int) : Ms := { s with fr := { x with st := [], mode := 2, ch := [⟨k, n, false, traceM fs (x :: r)⟩] } :: r }
def nextM' (s : Ms) (x : Fr) (r : List Fr) : Ms := { s with fr := { x with pc := x.pc + 1 } :: r }
def resAt (fs : List DFunc) (r : List Fr) (a : Int) : Int := fresM (fnOf fs (fOf r)).params.length (fnOf fs (fOf r)).results.length a
def atM (fs : List DFunc) (x : Fr) : DInstr := codeAt (fnOf fs x.f) x.pc
def reckM (fs : List DFunc) (s : Ms) (x : Fr) (r : List Fr) (o : Int) : Ms := match opA o (x.st.drop (x.st.length - (arityN o).toNat)) with
 | some v => nextM' s { x with st := x.st.take (x.st.length - (arityN o).toNat) ++ [v] } r
 | none => raiseM fs s x r 2 0
def doM (fs : List DFunc) (ds : List Int) (s : Ms) : Ms := match s.fr with
 | [] => s
 | x :: r =>
  let o := (atM fs x).op
  let a := (atM fs x).a
  let np := (fnOf fs a.toNat).params.length
  if o = 0 then nextM' s x r
  else if o = 1 then nextM' s { x with st := x.st ++ [numV a] } r
  else if o = 2 then nextM' s { x with st := x.st ++ [slotM x.sl a] } r
  else if o = 3 then nextM' s { x with st := initV x.st, sl := setM x.sl a (topV x.st) } r
  else if o = 4 then nextM' s { x with st := initV x.st } r
  else if o = 5 then nextM' s { x with st := initV x.st ++ [topV x.st, topV x.st] } r
  else if o = 21 then { s with fr := { x with pc := a.toNat } :: r }
  else if o = 22 then { s with fr := { x with st := initV x.st, pc := if (topV x.st).n = 0 then x.pc + 1 else a.toNat } :: r }
  else if o = 23 then { s with fr := openF fs a.toNat (x.st.drop (x.st.length - np)) false false :: { x with st := x.st.take (x.st.length - np) } :: r }
  else if o = 24 then nextM' s { x with st := x.st.take (x.st.length - np), cs := x.cs ++ [⟨a.toNat, x.st.drop (x.st.length - np)⟩] } r
  else if o = 25 then { s with fr := { x with st := [], mode := 1 } :: r }
  else if o = 26 then raiseM fs s x r 1 (topV x.st).n
  else if o = 27 then
   let q := if x.by_ = true then recM (chOf r) else (chOf r, 0, 0)
   { nextM' s { x with st := x.st ++ [numV q.2.1, numV q.2.2] } (setCh r q.1) with evs := s.evs ++ [⟨3, q.2.1, q.2.2, []⟩] }
  else if o = 28 then nextM' s { x with st := x.st ++ [if x.dfd = true then slotM (slOf r) (resAt fs r a) else z0] } r
  else if o = 29 then nextM' s { x with st := initV x.st } (if x.dfd = true then setSl r (setM (slOf r) (resAt fs r a) (topV x.st)) else r)
  else if o = 30 then { nextM' s { x with st := initV x.st } r with evs := s.evs ++ [⟨1, (topV x.st).n, 0, []⟩] }
  else if o = 31 then { nextM' s x r with evs := s.evs ++ [⟨2, 0, 0, traceM fs (x :: r)⟩] }
  else if o = 32 then { nextM' s { x with st := x.st ++ [numV (ds.getD s.drawn 0)] } r with drawn := s.drawn + 1 }
  else reckM fs s x r o
def fallM (s : Ms) (x : Fr) (r : List Fr) : Ms := match r with
 | [] => { s with fr := [], fin := some (.crash x.ch) }
 | y :: t => { s with fr := { y with st := [], mode := 2, ch := if x.dfd = true ∧ y.mode = 2 then y.ch ++ x.ch else x.ch } :: t }
def goneM (fs : List DFunc) (s : Ms) (x : Fr) (r : List Fr) : Ms :=
 if x.dfd = true then { s with fr := r } else match r with
 | [] => { s with fr := [], fin := some (.done ((resultsM fs x).map DV.n)) }
 | y :: t => { s with fr := { y with st := y.st ++ resultsM fs x, pc := y.pc + 1 } :: t }
def endM (fs : List DFunc) (s : Ms) : Ms := match s.fr with
 | [] => s
 | x :: r =>
  if x.mode = 2 ∧ openB x.ch = false then { s with fr := { x with mode := 1, ch := [] } :: r }
  else match x.cs.getLast? with
   | some c => { s with fr := openF fs c.f c.args true (decide (x.mode = 2)) :: { x with cs := x.cs.dropLast } :: r }
   | none => if x.mode = 2 then fallM s x r else goneM fs s x r
def stepM (fs : List DFunc) (ds : List Int) (fuel : Nat) (s : Ms) : Option Ms := match s.fr with
 | [] => none
 | x :: _ => if x.mode = 0 then (if s.steps < fuel then some (doM fs ds { s with steps := s.steps + 1 }) else none) else some (endM fs s)
inductive Reach (fs : List DFunc) (ds : List Int) (fuel : Nat) : Ms → Ms → Prop
 | refl (s : Ms) : Reach fs ds fuel s s
 | tail {s t u : Ms} : Reach fs ds fuel s t → stepM fs ds fuel t = some u → Reach fs ds fuel s u
theorem Reach.trans {fs : List DFunc} {ds : List Int} {fuel : Nat} {s t u : Ms} (h : Reach fs ds fuel s t) (k : Reach fs ds fuel t u) : Reach fs ds fuel s u := by
 induction k with
 | refl => exact h
 | tail _ e ih => exact .tail ih e
theorem Reach.one {fs : List DFunc} {ds : List Int} {fuel : Nat} {s t : Ms} (e : stepM fs ds fuel s = some t) : Reach fs ds fuel s t := .tail (.refl s) e
def argsM (fs : List DFunc) (ags : List Int) : List DV := (List.range (fnOf fs 0).params.length).map fun i => numV (ags.getD i 0)
def startM (fs : List DFunc) (ags : List Int) : Ms := ⟨[openF fs 0 (argsM fs ags) false false], 0, 0, [], none⟩
end
section
open Go.RowKit
open Classical in
noncomputable def tyR (fs : List DFunc) (x : DFunc) : Nat → Bool := if h : TyOk fs x then Classical.choose h else fun _ => false
open Classical in
noncomputable def tyT (fs : List DFunc) (x : DFunc) : Nat → List Int := if h : TyOk fs x then Classical.choose (Classical.choose_spec h) else fun _ => []
theorem ty_spec {fs : List DFunc} {x : DFunc} (h : TyOk fs x) : tyR fs x 0 = true ∧ tyT fs x 0 = [] ∧ ∀ p, p < x.code.length → tyR fs x p = true → ∃ z, EffK fs x p (tyT fs x p) z ∧ ∀ k ∈ nextM x p ++ opensM x p, Hit (tyR fs x) (tyT fs x) x.code.length z k := by
 unfold tyR tyT
 rw [dif_pos h, dif_pos h]
 exact Classical.choose_spec (Classical.choose_spec h)
abbrev kindsM (l : List DV) : List Int := l.map DV.k
theorem fnOf_at {fs : List DFunc} {f : Nat} (h : f < fs.length) : fs[f]? = some (fnOf fs f) := by
 unfold fnOf
 rw [List.getD_eq_getElem?_getD, List.getElem?_eq_getElem h]
 rfl
theorem fnOf_mem {fs : List DFunc} {f : Nat} (h : f < fs.length) : fnOf fs f ∈ fs := List.mem_of_getElem? (fnOf_at h)
theorem fnOf_of {fs : List DFunc} {f : Nat} {x : DFunc} (h : fs[f]? = some x) : fnOf fs f = x := by
 unfold fnOf
 rw [List.getD_eq_getElem?_getD, h]
 rfl
structure FrT (fs : List DFunc) (x : Fr) : Prop where
 fn : x.f < fs.length
 sl : kindsM x.sl = typesM (fnOf fs x.f)
 cs : ∀ c ∈ x.cs, c.f < fs.length ∧ kindsM c.args = (fnOf fs c.f).params ∧ ((fnOf fs c.f).inner = true → (fnOf fs c.f).outer = (fnOf fs x.f).results)
structure FrRun (fs : List DFunc) (x : Fr) : Prop where
 pc : x.pc < (fnOf fs x.f).code.length
 rd : tyR fs (fnOf fs x.f) x.pc = true
 st : kindsM x.st = tyT fs (fnOf fs x.f) x.pc
 le : x.st.length ≤ 60
structure FrWait (fs : List DFunc) (x : Fr) (g : Nat) : Prop where
 pc : x.pc < (fnOf fs x.f).code.length
 rd : tyR fs (fnOf fs x.f) x.pc = true
 at_ : (atM fs x).op = 23 ∧ (atM fs x).a = (g : Int)
 st : kindsM x.st ++ (fnOf fs g).params = tyT fs (fnOf fs x.f) x.pc
 le : x.st.length ≤ 60
def UnderM (fs : List DFunc) : Fr → List Fr → Prop
 | x, [] => x.dfd = false ∧ (fnOf fs x.f).inner = false
 | x, y :: r => FrT fs y ∧ (x.dfd = true → (y.mode = 1 ∨ y.mode = 2) ∧ (x.by_ = true → y.mode = 2) ∧ ((fnOf fs x.f).inner = true → (fnOf fs x.f).outer = (fnOf fs y.f).results)) ∧ (x.dfd = false → y.mode = 0 ∧ FrWait fs y x.f ∧ (fnOf fs x.f).inner = false) ∧ UnderM fs y r
structure WfX (fs : List DFunc) (x : Fr) (r : List Fr) : Prop where
 t : FrT fs x
 run : x.mode = 0 → FrRun fs x
 mo : x.mode = 0 ∨ x.mode = 1 ∨ x.mode = 2
 un : UnderM fs x r
def WfM (fs : List DFunc) (s : Ms) : Prop := match s.fr with
 | [] => True
 | x :: r => WfX fs x r
theorem WfM.x {fs : List DFunc} {s : Ms} {x : Fr} {r : List Fr} (h : WfM fs s) (e : s.fr = x :: r) : WfX fs x r := by
 unfold WfM at h
 rw [e] at h
 exact h
theorem WfM.mk' {fs : List DFunc} {s : Ms} {x : Fr} {r : List Fr} (e : s.fr = x :: r) (h : WfX fs x r) : WfM fs s := by
 unfold WfM
 rw [e]
 exact h
theorem UnderM.like {fs : List DFunc} {x x' : Fr} {r : List Fr} (h : UnderM fs x r) (hf : x'.f = x.f) (hd : x'.dfd = x.dfd) (hb : x'.by_ = x.by_) : UnderM fs x' r := by
 cases r with
 | nil =>
  obtain ⟨h1, h2⟩ := h
  exact ⟨by rw [hd]; exact h1, by rw [hf]; exact h2⟩
 | cons y r =>
  obtain ⟨h1, h2, h3, h4⟩ := h
  exact ⟨h1, by rw [hd, hf, hb]; exact h2, by rw [hd, hf]; exact h3, h4⟩
theorem UnderM.ch {fs : List DFunc} {x : Fr} {r : List Fr} (h : UnderM fs x r) (c : List Bl) : UnderM fs x (setCh r c) := by
 cases r with
 | nil => exact h
 | cons y r =>
  obtain ⟨h1, h2, h3, h4⟩ := h
  exact ⟨⟨h1.fn, h1.sl, h1.cs⟩, h2, fun hd => ⟨(h3 hd).1, ⟨(h3 hd).2.1.pc, (h3 hd).2.1.rd, (h3 hd).2.1.at_, (h3 hd).2.1.st, (h3 hd).2.1.le⟩, (h3 hd).2.2⟩, h4.like rfl rfl rfl⟩
theorem UnderM.sl {fs : List DFunc} {x : Fr} {r : List Fr} (h : UnderM fs x r) {l : List DV} (hl : kindsM l = kindsM (slOf r)) : UnderM fs x (setSl r l) := by
 cases r with
 | nil => exact h
 | cons y r =>
  obtain ⟨h1, h2, h3, h4⟩ := h
  exact ⟨⟨h1.fn, hl.trans h1.sl, h1.cs⟩, h2, fun hd => ⟨(h3 hd).1, ⟨(h3 hd).2.1.pc, (h3 hd).2.1.rd, (h3 hd).2.1.at_, (h3 hd).2.1.st, (h3 hd).2.1.le⟩, (h3 hd).2.2⟩, h4.like rfl rfl rfl⟩
theorem kinds_zero {ts : List Int} (h : ∀ t ∈ ts, t = 1 ∨ t = 2) : kindsM (ts.map zD) = ts := by
 induction ts with
 | nil => rfl
 | cons t ts ih =>
  have ht := h t (by simp)
  have hz : zeroM t = t := by unfold zeroM; rw [if_pos ht]
  simp only [kindsM, List.map_cons, zD, hz] at ih ⊢
  rw [ih fun t ht => h t (by simp [ht])]
theorem open_t {fs : List DFunc} (hf : FineB fs) {f : Nat} (hlt : f < fs.length) {args : List DV} (ha : kindsM args = (fnOf fs f).params) (dfd by_ : Bool) : FrT fs (openF fs f args dfd by_) ∧ FrRun fs (openF fs f args dfd by_) := by
 have hm := hf.may _ (fnOf_mem hlt)
 have hty := ty_spec (hf.fn f _ (fnOf_at hlt)).ty
 have hall : ∀ t ∈ typesM (fnOf fs f), t = 1 ∨ t = 2 := fun t ht => by
  rcases List.mem_append.1 ht with ht | ht
  ·rcases List.mem_append.1 ht with ht | ht
   ·exact hm.params t ht
   ·exact hm.results t ht
  ·exact hm.locals t ht
 have hlen : args.length = (fnOf fs f).params.length := by have := congrArg List.length ha; simpa using this
 refine ⟨⟨hlt, ?_, fun c hc => by cases hc⟩, ⟨(hf.can _ (fnOf_mem hlt)).some_, hty.1, hty.2.1.symm, by simp [openF]⟩⟩
 show kindsM (slM (typesM (fnOf fs f)) (fnOf fs f).params.length args) = typesM (fnOf fs f)
 unfold slM
 rw [← hlen, List.take_length]
 have h1 := kinds_zero hall
 simp only [kindsM, List.map_append, List.map_drop] at h1 ⊢
 rw [h1, show args.map DV.k = (fnOf fs f).params from ha, hlen]
 show (fnOf fs f).params ++ List.drop (fnOf fs f).params.length ((fnOf fs f).params ++ (fnOf fs f).results ++ (fnOf fs f).locals) = (fnOf fs f).params ++ (fnOf fs f).results ++ (fnOf fs f).locals
 rw [List.append_assoc, List.drop_left]
theorem kinds_len {l : List DV} {t : List Int} (h : kindsM l = t) : l.length = t.length := by rw [← h]; simp
theorem kinds_init (l : List DV) {p : List Int} {t : Int} (h : kindsM l = p ++ [t]) : kindsM (initV l) = p ∧ (topV l).k = t ∧ l = initV l ++ [topV l] := by
 have hl : l.length = p.length + 1 := by have := kinds_len h; simpa using this
 have hd : l = initV l ++ [topV l] := by
  unfold initV topV
  rw [List.getD_eq_getElem?_getD, List.getElem?_eq_getElem (show l.length - 1 < l.length by omega)]
  conv => lhs; rw [← List.take_append_drop (l.length - 1) l]
  congr 1
  rw [List.drop_eq_getElem_cons (by omega), List.drop_of_length_le (by omega)]
  rfl
 have h2 : kindsM (initV l) ++ [(topV l).k] = p ++ [t] := by have h3 := congrArg kindsM hd; rw [h] at h3; rw [h3]; simp [kindsM]
 have := List.append_inj h2 (by simp [initV, hl])
 exact ⟨this.1, by simpa using this.2, hd⟩
theorem kinds_cut (l : List DV) {p q : List Int} (h : kindsM l = p ++ q) : kindsM (l.take (l.length - q.length)) = p ∧ kindsM (l.drop (l.length - q.length)) = q := by
 have hl : l.length = p.length + q.length := by have := kinds_len h; simpa using this
 have e : l.length - q.length = p.length := by omega
 rw [e]
 constructor
 ·rw [kindsM, List.map_take, show l.map DV.k = p ++ q from h, List.take_left]
 ·rw [kindsM, List.map_drop, show l.map DV.k = p ++ q from h, List.drop_left]
theorem atM_of {fs : List DFunc} {x : Fr} {i : DInstr} (h : (fnOf fs x.f).code[x.pc]? = some i) : atM fs x = i := by
 unfold atM codeAt
 rw [List.getD_eq_getElem?_getD, h]
 rfl
theorem slot_k {l : List DV} {ts : List Int} (h : kindsM l = ts) {q : Nat} {t : Int} (ht : ts[q]? = some t) : (slotM l (q : Int)).k = t := by
 have hl := kinds_len h
 have hq := (List.getElem?_eq_some_iff.1 ht).1
 unfold slotM
 rw [if_pos ⟨by omega, by omega⟩]
 show (l.getD q z0).k = t
 rw [List.getD_eq_getElem?_getD, List.getElem?_eq_getElem (by omega)]
 subst h
 rw [List.getElem?_map, List.getElem?_eq_getElem (by omega)] at ht
 simpa using ht
theorem set_k {l : List DV} (n : Int) (a : DV) (h : ∀ q : Nat, n = (q : Int) → q < l.length → (kindsM l)[q]? = some a.k) : kindsM (setM l n a) = kindsM l := by
 unfold setM
 split
 ·rename_i hn
  obtain ⟨q, rfl⟩ := Int.eq_ofNat_of_zero_le hn.1
  have hq : q < l.length := by omega
  have := h q rfl hq
  show kindsM (l.set q a) = _
  rw [kindsM, List.map_set]
  apply List.ext_getElem?
  intro i
  rw [List.getElem?_set]
  split
  ·rename_i e
   subst e
   rw [if_pos (by simpa using hq)]
   exact this.symm
  ·rfl
 ·rfl
end
end Go.Proofs.YtobmjnmcjddhcaaGreat
