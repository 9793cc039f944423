import Derived.Test.YtobmjnmcjddhcaaGreatRg39
import Derived.Test.YtobmjnmcjddhcaaGreatRg40
set_option linter.unusedSimpArgs false
set_option linter.unusedVariables false
namespace Go.Proofs.YtobmjnmcjddhcaaGreat
section
open Go.RowKit
theorem do_tr (fs : List DFunc) (ds : List Int) (s : Ms) : ∀ e ∈ (doM fs ds s).evs, e ∈ s.evs ∨ e.tr.length ≤ s.fr.length := by
 cases hfr : s.fr with
 | nil =>
  have : doM fs ds s = s := by unfold doM; rw [hfr]
  rw [this]
  exact fun e he => .inl he
 | cons x r =>
  unfold doM
  rw [hfr]
  dsimp only
  repeat' (refine iteP (P := fun t : Ms => ∀ e ∈ t.evs, e ∈ s.evs ∨ e.tr.length ≤ (x :: r).length) ?_ ?_)
  all_goals first
   | (exact fun e he => .inl he)
   | (unfold reckM; split <;> exact fun e he => .inl he)
   | (intro e he; rcases List.mem_append.1 he with he | he; exact .inl he; rw [List.mem_singleton] at he; subst he; exact .inr (by simp [traceM]))
theorem reach_tr {fs : List DFunc} (hf : FineB fs) {ds : List Int} {f : Nat} {s t : Ms} (hok : OkM fs f s) (h0 : ∀ e ∈ s.evs, e.tr.length ≤ f + 1) (r : Reach fs ds f s t) : ∀ e ∈ t.evs, e.tr.length ≤ f + 1 := by
 induction r with
 | refl => exact h0
 | @tail a b r1 e ih =>
  have ha := reach_ok hf hok r1
  have h1 := load_len a.fr
  have h2 := ha.sz.load
  have h3 := ha.fu
  rcases step_cases e with ⟨x, r', e1, e2, e3, rfl⟩ | ⟨x, r', e1, e2, rfl⟩
  ·intro e he
   rcases do_tr fs ds { a with steps := a.steps + 1 } e he with h | h
   ·exact ih e h
   ·have h : e.tr.length ≤ a.fr.length := h
    omega
  ·rw [(end_sz fs a).2.2.1]
   exact ih
theorem end_crash {fs : List DFunc} {s : Ms} {c : List Bl} (h0 : s.fin = none) (h : (endM fs s).fin = some (.crash c)) : c.length ≤ blmM s.fr := by
 cases hfr : s.fr with
 | nil =>
  have : endM fs s = s := by unfold endM; rw [hfr]
  rw [this, h0] at h
  cases h
 | cons x r =>
  unfold endM at h
  rw [hfr] at h
  dsimp only at h
  split at h
  ·rw [h0] at h; cases h
  ·cases hc : x.cs.getLast? with
   | some q => rw [hc] at h; dsimp only at h; rw [h0] at h; cases h
   | none =>
    rw [hc] at h
    dsimp only at h
    split at h
    ·unfold fallM at h
     cases r with
     | nil =>
      injection h with h
      injection h with h
      subst h
      simp [blmM]
     | cons y r => dsimp only at h; rw [h0] at h; cases h
    ·unfold goneM at h
     split at h
     ·rw [h0] at h; cases h
     ·cases r with
      | nil => injection h with h; cases h
      | cons y r => dsimp only at h; rw [h0] at h; cases h
theorem reach_crash {fs : List DFunc} (hf : FineB fs) {ds : List Int} {f : Nat} {s t : Ms} (hok : OkM fs f s) (h0 : s.fin = none) (r : Reach fs ds f s t) : ∀ c, t.fin = some (.crash c) → c.length ≤ f := by
 induction r with
 | refl => intro c h; rw [h0] at h; cases h
 | @tail a b r1 e ih =>
  have ha := reach_ok hf hok r1
  intro c h
  rcases step_cases e with ⟨x, r', e1, e2, e3, rfl⟩ | ⟨x, r', e1, e2, rfl⟩
  ·rw [do_fin] at h
   exact ih c h
  ·have h1 := end_crash (reach_fin r1 h0 (by rw [e1]; simp)) h
   have h2 := ha.sz.blm
   have h3 := ha.fu
   omega
theorem SlR.mapTo {α β : Type} {sz bytes : Nat} {R : Rd α} {R' : Rd β} {g : α → β} {w : World} {B : Nat} {A : Option Addr} {n c : Nat} {xs : List α} (h : SlR sz bytes R w B A n c xs) (hR : ∀ cs x, x ∈ xs → R w B cs x → R' w B cs (g x)) : SlR sz bytes R' w B A n c (xs.map g) := by
 obtain ⟨h1, h2, h3, h4, h5⟩ := h
 refine ⟨by rw [List.length_map]; exact h1, h2, h3, h4, fun hn => ?_⟩
 obtain ⟨b, off, hA, hb, hx⟩ := h5 hn
 refine ⟨b, off, hA, hb, fun i y hi => ?_⟩
 rw [List.getElem?_map] at hi
 cases hj : xs[i]? with
 | none => rw [hj] at hi; cases hi
 | some x =>
  rw [hj] at hi
  injection hi with hi
  subst hi
  obtain ⟨cs, hl, hc, hr⟩ := hx i x hj
  exact ⟨cs, hl, hc, hR _ _ (List.mem_of_getElem? hj) hr⟩
theorem im_slee {τ : Nat → Tag} {w : World} {A : Option Addr} {n c : Nat} {l : List (Int × Int)} (h : Im τ w A n 2 (rowEn l)) (hn : l.length ≤ 3000) : Ru.SlEe w w.heap.size A n c l := by
 have hl : l.length = n := by have := h.src.1; rw [en_len] at this; omega
 exact ImE.slE ⟨hl, fun _ => h⟩ (Nat.le_refl _) (by unfold maxLen; omega) (by unfold reachBytes; omega)
theorem slc_slp {w : World} {B : Nat} {A : Option Addr} {n c : Nat} {xs : List Bl} (h : Bm.SlC w B A n c xs) : Ru.SlP w B A n c xs := h.imp fun cs x _ hr => by
 obtain ⟨A0, n0, c0, e, _, _, h1⟩ := hr
 exact ⟨A0, n0, c0, e, trivial, trivial, h1.1, Nat.le_refl _, Nat.le_trans h1.2.1 h1.2.2.1, h1.2.2.2.1, h1.2.2.2.2⟩
theorem sli_sln {w : World} {B : Nat} {A : Option Addr} {n c : Nat} {xs : List Int} (h : SlI w B A n c xs) : Ru.SlN w B A n c xs := h.imp fun cs x _ hr => ⟨hr, trivial⟩
structure InpW (w : World) (FA : Option Addr) (fn fc : Nat) (AA : Option Addr) (an ac : Nat) (DA : Option Addr) (dn dc : Nat) (fs : List DFunc) (ags ds : List Int) : Prop where
 hf : FineB fs
 pg : PgC w FA fn fc fs
 ar : SlI w w.heap.size AA an ac ags
 an : an ≤ 200
 dr : SlI w w.heap.size DA dn dc ds
 dn : dn ≤ 200
variable {w w' : World} {FA : Option Addr} {fn fc : Nat} {AA : Option Addr} {an ac : Nat} {DA : Option Addr} {dn dc : Nat} {fs : List DFunc} {ags ds : List Int}
theorem InpW.on (h : InpW w FA fn fc AA an ac DA dn dc fs ags ds) (hb : Below w.heap.size w w') : InpW w' FA fn fc AA an ac DA dn dc fs ags ds := ⟨h.hf, h.pg.on hb, h.ar.on hb, h.an, h.dr.on hb, h.dn⟩
structure RunR (w' : World) (lo hi : Nat) (fs : List DFunc) (ags ds : List Int) (f : Nat) (u : Ms) (EA : Option Addr) (en ec : Nat) (ek : Int) (RA : Option Addr) (rn rc : Nat) (CA : Option Addr) (cn cc : Nat) (rl : List Int) (ch : List Bl) : Prop where
 ends : EndsAt fs ds ags f u
 ev : Ru.SlV w' w'.heap.size EA en ec u.evs
 rs : Ru.SlN w' w'.heap.size RA rn rc rl
 hch : Ru.SlP w' w'.heap.size CA cn cc ch
 fin : FinV u ek rl ch
 st : u.steps ≤ f
 rb : rn = 0 ∨ ∃ j, RA = some ⟨j, 0, none⟩ ∧ lo ≤ j ∧ j < hi
 hs : hi ≤ w'.heap.size
def RunQ (w : World) (fs : List DFunc) (ags ds : List Int) (f : Nat) (e : Ending) (w' : World) : Prop := ∃ u EA en ec ek RA rn rc CA cn cc rl ch, e = .returned (Ru.runV EA en ec ek RA rn rc CA cn cc ((u : Ms).steps : Int)) ∧ RunR w' w.heap.size w'.heap.size fs ags ds f u EA en ec ek RA rn rc CA cn cc rl ch ∧ Below w.heap.size w w'
theorem runQ_any (fu : Int) (h : InpW w FA fn fc AA an ac DA dn dc fs ags ds) (hfu : fu ≤ 1500) :
  Calls Tryz.prog 29 #[.agg #[.slice FA fn fc], .agg #[.slice AA an ac, .slice DA dn dc], .int .i64 fu] w (RunQ w fs ags ds (max fu 0).toNat) := by
 have hfm : ((max fu 0).toNat : Int) = max fu 0 := Int.toNat_of_nonneg (by omega)
 have hle : (max fu 0).toNat ≤ 1500 := by omega
 refine (run_any ⟨w, fs, w.heap.size + 3, FA, fn, fc, AA, an, ac, DA, dn, dc, (max fu 0).toNat, ags, ds⟩ fu w rfl rfl hfu hfm ⟨h.hf, h.pg, h.ar, h.an, h.dr, h.dn, hle⟩).mono ?_
 rintro e w' ⟨EA, en, ec, ek, RA, rn, rc, CA, cn, cc, u, τ', evs, rl, ch, rfl, hend, henv, hev, htr, hab, hsl, hch, hfin, hRA⟩
 have hok := start_ok h.hf ags (max fu 0).toNat
 have hok2 := reach_ok h.hf hok hend.1
 have hen : en ≤ 1500 := by
  have h1 := hok2.sz.evs
  have h2 := hok2.fu
  have h3 : evs.length = en := by
   have h4 := hev.1
   rw [flatMap_len EvV.cells EvV.len] at h4
   omega
  have h5 := congrArg List.length hab
  rw [List.length_map] at h5
  omega
 refine ⟨u, EA, en, ec, ek, RA, rn, rc, CA, cn, cc, rl, ch, rfl, ⟨hend, ?_, sli_sln hsl, slc_slp (hch.slc ?_), hfin, hok2.fu, ?_, Nat.le_refl _⟩, henv.b0⟩
 ·rw [← hab]
  have h1 : SlR 4 48 (RC EvV.cells) w' w'.heap.size EA en ec evs := RowF.sl EvV.len (by decide) hev (by unfold reachBytes; omega)
  refine SlR.mapTo h1 fun cs x hx hr => ?_
  unfold RC at hr
  subst hr
  have h2 : x.tr.length ≤ (max fu 0).toNat + 1 := reach_tr h.hf hok (fun e he => by simp [startM] at he) hend.1 x.ab (by rw [← hab]; exact List.mem_map_of_mem hx)
  exact ⟨x.A, x.l, x.c, rfl, trivial, trivial, trivial, im_slee (htr x hx) (show x.tr.length ≤ 3000 by omega)⟩
 ·have h1 := hch.2.2.1
  rcases hfin with ⟨_, _, _, rfl⟩ | ⟨_, _, _, _, rfl⟩ | ⟨c, hc, _, _, rfl⟩
  ·simp at h1
   omega
  ·simp at h1
   omega
  ·have := reach_crash h.hf hok rfl hend.1 _ hc
   omega
 ·rcases Nat.eq_zero_or_pos rn with h0 | h0
  ·exact .inl h0
  ·obtain ⟨b, off, e, hb, _⟩ := hsl.2.2.2.2 h0
   rcases hRA with hRA | ⟨j, hj, hm⟩
   ·rw [hRA] at e; cases e
   ·rw [hj] at e
    injection e with e
    injection e with e1 e2
    subst e1
    have hm : w.heap.size + 3 < j := hm
    exact .inr ⟨j, hj, by omega, hb⟩
abbrev nil5 : List Value := [.slice none 0 0, .int .i64 0, .slice none 0 0, .slice none 0 0, .int .i64 0]
structure NBox (W : World) (g : Nat) : Prop where
 c : Cells W g nil5
 no : ∀ j, 5 ≤ j → W.cell? ⟨g, j, none⟩ = none
theorem NBox.kp {S : Nat → Prop} {W W' : World} {g : Nat} (h : NBox W g) (hk : Kp S W W') (hS : ¬ S g) : NBox W' g := ⟨h.c.kp hk hS, fun j hj => (hk.cell (p := ⟨g, j, none⟩) h.c.lt hS).trans (h.no j hj)⟩
theorem NBox.on {W W' : World} {g : Nat} (h : NBox W g) (hb : Below W.heap.size W W') : NBox W' g := h.kp (S := fun _ => False) ((Kp.refl _ _).ofBelow hb) id
theorem NBox.new (W : World) (T : TypeId) : NBox (W.alloc (.cells nil5.toArray T)) W.heap.size := by
 refine ⟨Cells.new W nil5 _, fun j hj => ?_⟩
 have hh : (W.alloc (.cells nil5.toArray T)).heap[W.heap.size]? = some (.cells nil5.toArray T) := by
  show (W.heap.push _)[W.heap.size]? = _
  simp
 have hx : (nil5.toArray : Array Value)[j]? = none := Array.getElem?_eq_none (by simpa using hj)
 unfold World.cell?
 simp only [hh]
 exact hx
theorem nil5_no {w : World} {g : Nat} (hg : NBox w g) {i : Nat} {a b : Int} (h1 : w.cell? ⟨g, i, none⟩ = some (.int .i64 a)) (h2 : w.cell? ⟨g, i + 1, none⟩ = some (.int .i64 b)) : False := by
 have key : ∀ j v, j < 5 → w.cell? ⟨g, j, none⟩ = some v → nil5[j]? = some v := fun j v hj hv => by
  have hq := hg.c.at_ j (nil5[j]'(by simpa using hj)) (List.getElem?_eq_getElem _)
  rw [hq] at hv
  rw [List.getElem?_eq_getElem (by simpa using hj)]
  exact hv
 have hsz : ∀ j v, w.cell? ⟨g, j, none⟩ = some v → j < 5 := fun j v hv => by
  refine Classical.byContradiction fun hj => ?_
  rw [hg.no j (by omega)] at hv
  cases hv
 have l1 := hsz _ _ h1
 have l2 := hsz _ _ h2
 have k1 := key _ _ l1 h1
 have k2 := key _ _ l2 h2
 have : i = 0 ∨ i = 1 ∨ i = 2 ∨ i = 3 := by omega
 rcases this with rfl | rfl | rfl | rfl <;> simp at k1 k2
theorem SlR.far {α : Type} {sz bytes : Nat} {R : Rd α} {w w' : World} {B g : Nat} {A : Option Addr} {n c : Nat} {xs : List α} (h : SlR sz bytes R w B A n c xs) (hg : NBox w g) (hk : Kp (fun j => j = g) w w') (hB : B ≤ w.heap.size) (h2 : ∀ cs x, R w B cs x → ∃ a b t, cs = .int .i64 a :: .int .i64 b :: t) (hR : ∀ cs x, x ∈ xs → R w B cs x → R w' B cs x) : SlR sz bytes R w' B A n c xs := by
 obtain ⟨h1, h3, h4, h5, h6⟩ := h
 refine ⟨h1, h3, h4, h5, fun hn => ?_⟩
 obtain ⟨b, off, rfl, hb, hx⟩ := h6 hn
 have hne : ¬ b = g := fun e => by
  obtain ⟨cs, hl, hc, hr⟩ := hx 0 _ (List.getElem?_eq_getElem (by omega))
  obtain ⟨a, b', t, rfl⟩ := h2 _ _ hr
  subst e
  exact nil5_no hg (hc 0 _ rfl) (hc 1 _ rfl)
 refine ⟨b, off, rfl, hb, fun i x hi => ?_⟩
 obtain ⟨cs, hl, hc, hr⟩ := hx i x hi
 exact ⟨cs, hl, fun j u hj => (hk.cell (p := ⟨b, off + (i * sz + j), none⟩) (by show b < _; omega) hne).trans (hc j u hj), hR _ _ (List.mem_of_getElem? hi) hr⟩
theorem slee_far {w w' : World} {B g : Nat} {A : Option Addr} {n c : Nat} {l : List (Int × Int)} (h : Ru.SlEe w B A n c l) (hg : NBox w g) (hk : Kp (fun j => j = g) w w') (hB : B ≤ w.heap.size) : Ru.SlEe w' B A n c l :=
 SlR.far h hg hk hB (fun cs x hr => by unfold Bm.REntry RC at hr; exact ⟨_, _, [], hr⟩) fun cs x _ hr => hr
theorem RunR.on {lo hi f : Nat} {u : Ms} {EA : Option Addr} {en ec : Nat} {ek : Int} {RA : Option Addr} {rn rc : Nat} {CA : Option Addr} {cn cc : Nat} {rl : List Int} {ch : List Bl} (h : RunR w lo hi fs ags ds f u EA en ec ek RA rn rc CA cn cc rl ch) (hb : Below w.heap.size w w') : RunR w' lo hi fs ags ds f u EA en ec ek RA rn rc CA cn cc rl ch := by
 have q : ∀ {α : Type} {sz bytes : Nat} {R : Rd α} {A : Option Addr} {n c : Nat} {xs : List α}, Stable R → (∀ cs x, R w' w.heap.size cs x → R w' w'.heap.size cs x) → SlR sz bytes R w w.heap.size A n c xs → SlR sz bytes R w' w'.heap.size A n c xs := fun hR hu hs => by
  obtain ⟨h1, h2, h3, h4, h5⟩ := SlR.keep hR hs fun p hp => hb.cell hp
  refine ⟨h1, h2, h3, h4, fun hn => ?_⟩
  obtain ⟨b, off, hA, hb', hx⟩ := h5 hn
  refine ⟨b, off, hA, Nat.lt_of_lt_of_le hb' hb.size, fun i x hi => ?_⟩
  obtain ⟨cs, hl, hc, hr⟩ := hx i x hi
  exact ⟨cs, hl, hc, hu _ _ hr⟩
 have qe : ∀ {A : Option Addr} {n c : Nat} {l : List (Int × Int)}, Ru.SlEe w' w.heap.size A n c l → Ru.SlEe w' w'.heap.size A n c l := fun h => SlR.more (f := enC) h hb.size
 refine ⟨h.ends, q Ru.stable_Event (fun cs x hr => ?_) h.ev, q Ru.stable_I0 (fun cs x hr => hr) h.rs, q Ru.stable_BlameR (fun cs x hr => ?_) h.hch, h.fin, h.st, h.rb, Nat.le_trans h.hs hb.size⟩
 ·obtain ⟨A0, n0, c0, e, h1, h2, h3, h4⟩ := hr
  exact ⟨A0, n0, c0, e, h1, h2, h3, qe h4⟩
 ·obtain ⟨A0, n0, c0, e, h1, h2, h3⟩ := hr
  exact ⟨A0, n0, c0, e, h1, h2, qe h3⟩
theorem RunR.far {lo hi f g : Nat} {u : Ms} {EA : Option Addr} {en ec : Nat} {ek : Int} {RA : Option Addr} {rn rc : Nat} {CA : Option Addr} {cn cc : Nat} {rl : List Int} {ch : List Bl} (h : RunR w lo hi fs ags ds f u EA en ec ek RA rn rc CA cn cc rl ch) (hg : NBox w g) (hk : Kp (fun j => j = g) w w') (hs : w'.heap.size = w.heap.size) (hgl : g < lo ∨ hi ≤ g) : RunR w' lo hi fs ags ds f u EA en ec ek RA rn rc CA cn cc rl ch := by
 refine ⟨h.ends, ?_, ?_, ?_, h.fin, h.st, h.rb, by rw [hs]; exact h.hs⟩
 ·rw [hs]
  refine SlR.far h.ev hg hk (Nat.le_refl _) (fun cs x hr => ?_) fun cs x _ hr => ?_
  ·obtain ⟨A0, n0, c0, rfl, _⟩ := hr
   exact ⟨_, _, _, rfl⟩
  ·obtain ⟨A0, n0, c0, e, h1, h2, h3, h4⟩ := hr
   exact ⟨A0, n0, c0, e, h1, h2, h3, slee_far h4 hg hk (Nat.le_refl _)⟩
 ·rw [hs]
  obtain ⟨h1, h3, h4, h5, h6⟩ := h.rs
  refine ⟨h1, h3, h4, h5, fun hn => ?_⟩
  obtain ⟨b, off, e, hb, hx⟩ := h6 hn
  refine ⟨b, off, e, hb, fun i x hi => ?_⟩
  obtain ⟨cs, hl, hc, hr⟩ := hx i x hi
  refine ⟨cs, hl, fun j u hj => (hk.cell (p := ⟨b, off + (i * 1 + j), none⟩) hb ?_).trans (hc j u hj), hr⟩
  rcases h.rb with h0 | ⟨j', e', h7, h8⟩
  ·omega
  ·rw [e'] at e
   injection e with e
   injection e with e
   subst e
   show ¬ j' = g
   omega
 ·rw [hs]
  refine SlR.far h.hch hg hk (Nat.le_refl _) (fun cs x hr => ?_) fun cs x _ hr => ?_
  ·obtain ⟨A0, n0, c0, rfl, _⟩ := hr
   exact ⟨_, _, _, rfl⟩
  ·obtain ⟨A0, n0, c0, e, h1, h2, h3⟩ := hr
   exact ⟨A0, n0, c0, e, h1, h2, slee_far h3 hg hk (Nat.le_refl _)⟩
end
section
open Go.RowKit
abbrev set5r (W : World) (b : Nat) (u0 u1 u2 u3 u4 : Value) : World := ((((W.setCell ⟨b, 0, none⟩ u0).setCell ⟨b, 1, none⟩ u1).setCell ⟨b, 2, none⟩ u2).setCell ⟨b, 3, none⟩ u3).setCell ⟨b, 4, none⟩ u4
structure Pr (w4 : World) (UA UB : Option (Nat × Nat) → World → Prop) (o8 o9 : Option Nat) (rA rB : Option (Nat × Nat)) (W : World) : Prop where
 pre : Below w4.heap.size w4 W
 c8 : ∀ b, o8 = some b → NBox W b ∧ w4.heap.size ≤ b
 c9 : ∀ b, o9 = some b → NBox W b ∧ w4.heap.size ≤ b
 ne : ∀ b b', o8 = some b → o9 = some b' → b ≠ b'
 a : UA rA W
 b : UB rB W
 la : ∀ l, rA = some l → l.2 ≤ W.heap.size
 lb : ∀ l, rB = some l → l.2 ≤ W.heap.size
 a8 : ∀ l b, rA = some l → o8 = some b → b < l.1 ∨ l.2 ≤ b
 a9 : ∀ l b, rA = some l → o9 = some b → b < l.1 ∨ l.2 ≤ b
 b8 : ∀ l b, rB = some l → o8 = some b → b < l.1 ∨ l.2 ≤ b
 b9 : ∀ l b, rB = some l → o9 = some b → b < l.1 ∨ l.2 ≤ b
variable {w4 W W' : World} {UA UB : Option (Nat × Nat) → World → Prop} {o8 o9 : Option Nat} {rA rB : Option (Nat × Nat)}
theorem Pr.m8 (h : Pr w4 UA UB none o9 rA rB W) (hA : ∀ W', Below W.heap.size W W' → UA rA W') (hB : ∀ W', Below W.heap.size W W' → UB rB W') : Pr w4 UA UB (some W.heap.size) o9 rA rB (W.alloc (.cells nil5.toArray 71)) :=
 ⟨h.pre.trans ((bl_one _).mono h.pre.size), fun b hb => by injection hb with hb; subst hb; exact ⟨NBox.new W _, h.pre.size⟩, fun b hb => ⟨(h.c9 b hb).1.on (bl_one _), (h.c9 b hb).2⟩, fun b b' hb hb' => by injection hb with hb; subst hb; have := (h.c9 b' hb').1.c.lt; omega,
 hA _ (bl_one _), hB _ (bl_one _), fun l hl => Nat.le_trans (h.la l hl) (bl_one _).size, fun l hl => Nat.le_trans (h.lb l hl) (bl_one _).size, fun l b hl hb => by injection hb with hb; subst hb; exact .inr (h.la l hl), h.a9, fun l b hl hb => by injection hb with hb; subst hb; exact .inr (h.lb l hl), h.b9⟩
theorem Pr.m9 (h : Pr w4 UA UB o8 none rA rB W) (hA : ∀ W', Below W.heap.size W W' → UA rA W') (hB : ∀ W', Below W.heap.size W W' → UB rB W') : Pr w4 UA UB o8 (some W.heap.size) rA rB (W.alloc (.cells nil5.toArray 71)) :=
 ⟨h.pre.trans ((bl_one _).mono h.pre.size), fun b hb => ⟨(h.c8 b hb).1.on (bl_one _), (h.c8 b hb).2⟩, fun b hb => by injection hb with hb; subst hb; exact ⟨NBox.new W _, h.pre.size⟩, fun b b' hb hb' => by injection hb' with hb'; subst hb'; have := (h.c8 b hb).1.c.lt; omega,
 hA _ (bl_one _), hB _ (bl_one _), fun l hl => Nat.le_trans (h.la l hl) (bl_one _).size, fun l hl => Nat.le_trans (h.lb l hl) (bl_one _).size, h.a8, fun l b hl hb => by injection hb with hb; subst hb; exact .inr (h.la l hl), h.b8, fun l b hl hb => by injection hb with hb; subst hb; exact .inr (h.lb l hl)⟩
theorem Pr.cA (h : Pr w4 UA UB o8 o9 none rB W) (hb : Below W.heap.size W W') {QA : Option (Nat × Nat) → World → Prop} (hA : QA (some (W.heap.size, W'.heap.size)) W') (hB : UB rB W') : Pr w4 QA UB o8 o9 (some (W.heap.size, W'.heap.size)) rB W' :=
 ⟨h.pre.trans (hb.mono h.pre.size), fun b hc => ⟨(h.c8 b hc).1.on hb, (h.c8 b hc).2⟩, fun b hc => ⟨(h.c9 b hc).1.on hb, (h.c9 b hc).2⟩, h.ne, hA, hB, fun l hl => by injection hl with hl; subst hl; exact Nat.le_refl _, fun l hl => Nat.le_trans (h.lb l hl) hb.size,
 fun l b hl hc => by injection hl with hl; subst hl; exact .inl (h.c8 b hc).1.c.lt, fun l b hl hc => by injection hl with hl; subst hl; exact .inl (h.c9 b hc).1.c.lt, h.b8, h.b9⟩
theorem Pr.cB (h : Pr w4 UA UB o8 o9 rA none W) (hb : Below W.heap.size W W') {QB : Option (Nat × Nat) → World → Prop} (hA : UA rA W') (hB : QB (some (W.heap.size, W'.heap.size)) W') : Pr w4 UA QB o8 o9 rA (some (W.heap.size, W'.heap.size)) W' :=
 ⟨h.pre.trans (hb.mono h.pre.size), fun b hc => ⟨(h.c8 b hc).1.on hb, (h.c8 b hc).2⟩, fun b hc => ⟨(h.c9 b hc).1.on hb, (h.c9 b hc).2⟩, h.ne, hA, hB, fun l hl => Nat.le_trans (h.la l hl) hb.size, fun l hl => by injection hl with hl; subst hl; exact Nat.le_refl _, h.a8, h.a9,
 fun l b hl hc => by injection hl with hl; subst hl; exact .inl (h.c8 b hc).1.c.lt, fun l b hl hc => by injection hl with hl; subst hl; exact .inl (h.c9 b hc).1.c.lt⟩
def NoP (r : Option (Nat × Nat)) (_ : World) : Prop := True
theorem NoP.on {r : Option (Nat × Nat)} (h : NoP r W) (W' : World) (hb : Below W.heap.size W W') : NoP r W' := trivial
theorem Pr.start (h : Below w4.heap.size w4 W) : Pr w4 NoP NoP none none none none W where
 pre := h
 c8 := fun b h => by cases h
 c9 := fun b h => by cases h
 ne := fun b b' h => by cases h
 a := trivial
 b := trivial
 la := fun l h => by cases h
 lb := fun l h => by cases h
 a8 := fun l b h => by cases h
 a9 := fun l b h => by cases h
 b8 := fun l b h => by cases h
 b9 := fun l b h => by cases h
theorem kp_set5r (W : World) (b : Nat) (u0 u1 u2 u3 u4 : Value) : Kp (fun j => j = b) W (set5r W b u0 u1 u2 u3 u4) :=
 (((((Kp.refl (fun j => j = b) W).setCell (p := ⟨b, 0, none⟩) (fun _ => rfl) _).setCell (p := ⟨b, 1, none⟩) (fun _ => rfl) _).setCell (p := ⟨b, 2, none⟩) (fun _ => rfl) _).setCell (p := ⟨b, 3, none⟩) (fun _ => rfl) _).setCell (p := ⟨b, 4, none⟩) (fun _ => rfl) _
theorem cells_set5r {W : World} {b : Nat} {u0 u1 u2 u3 u4 : Value} {z0 z1 z2 z3 z4 : Value} (h : Cells W b [z0, z1, z2, z3, z4]) : Cells (set5r W b u0 u1 u2 u3 u4) b [u0, u1, u2, u3, u4] :=
 ((((h.put 0 (by simp) u0).put 1 (by simp) u1).put 2 (by simp) u2).put 3 (by simp) u3).put 4 (by simp) u4
theorem bl_set5r {W w4 : World} {B b : Nat} {u0 u1 u2 u3 u4 : Value} (h : Below B w4 W) (hb : B ≤ b) : Below B w4 (set5r W b u0 u1 u2 u3 u4) :=
 ((((h.setCell (p := ⟨b, 0, none⟩) hb _).setCell (p := ⟨b, 1, none⟩) hb _).setCell (p := ⟨b, 2, none⟩) hb _).setCell (p := ⟨b, 3, none⟩) hb _).setCell (p := ⟨b, 4, none⟩) hb _
theorem Pr.m8x (h : Hid (Pr w4 UA UB none o9 rA rB W)) (hA : ∀ W', Below W.heap.size W W' → UA rA W') (hB : ∀ W', Below W.heap.size W W' → UB rB W') : ∃ W' g, W.alloc (.cells #[.slice none 0 0, .int .i64 0, .slice none 0 0, .slice none 0 0, .int .i64 0] 71) = W' ∧ W.heap.size = g ∧ Hid (Pr w4 UA UB (some g) o9 rA rB W') := ⟨_, _, rfl, rfl, Hd (h.out.m8 hA hB)⟩
theorem Pr.m9x (h : Hid (Pr w4 UA UB o8 none rA rB W)) (hA : ∀ W', Below W.heap.size W W' → UA rA W') (hB : ∀ W', Below W.heap.size W W' → UB rB W') : ∃ W' g, W.alloc (.cells #[.slice none 0 0, .int .i64 0, .slice none 0 0, .slice none 0 0, .int .i64 0] 71) = W' ∧ W.heap.size = g ∧ Hid (Pr w4 UA UB o8 (some g) rA rB W') := ⟨_, _, rfl, rfl, Hd (h.out.m9 hA hB)⟩
section
variable {P : Program} {ops : Array Oper} {Q : Exit → Act → World → Prop} {md : Region.Mode} {S : World → Prop} {fuel : Nat} {oi oj ol : Oper} {listed : Array Bool} {a : Act} {w : World}
theorem oN1 (i : Nat) (hi : ops[i]? = some oi)
  (h : ∀ K' : Act → World → Prop, (∀ a w, S w ∧ wpAnyH P md ops Q S fuel (listed.setIfInBounds i true) a w → K' a w) → if Region.wanted oi (yielded ops a.tmps) = true then Oper.wp P oi a w K' Q else K' (a.put oi.dst undef) w)
  (hr : Region.ready md ops listed = [i] := by kernel_rfl) : wpAnyH P md ops Q S (fuel + 1) listed a w := wpAnyH_one hr hi h
theorem oN2 (i j : Nat) (hi : ops[i]? = some oi) (hj : ops[j]? = some oj)
  (h : ∀ K' : Act → World → Prop, (∀ a w, S w ∧ wpAnyH P md ops Q S fuel (listed.setIfInBounds i true) a w → K' a w) → if Region.wanted oi (yielded ops a.tmps) = true then Oper.wp P oi a w K' Q else K' (a.put oi.dst undef) w)
  (k : ∀ K' : Act → World → Prop, (∀ a w, S w ∧ wpAnyH P md ops Q S fuel (listed.setIfInBounds j true) a w → K' a w) → if Region.wanted oj (yielded ops a.tmps) = true then Oper.wp P oj a w K' Q else K' (a.put oj.dst undef) w)
  (hr : Region.ready md ops listed = [i, j] := by kernel_rfl) : wpAnyH P md ops Q S (fuel + 1) listed a w := wpAnyH_two hr hi hj h k
theorem oN3 (i j l : Nat) (hi : ops[i]? = some oi) (hj : ops[j]? = some oj) (hl : ops[l]? = some ol)
  (h : ∀ K' : Act → World → Prop, (∀ a w, S w ∧ wpAnyH P md ops Q S fuel (listed.setIfInBounds i true) a w → K' a w) → if Region.wanted oi (yielded ops a.tmps) = true then Oper.wp P oi a w K' Q else K' (a.put oi.dst undef) w)
  (k : ∀ K' : Act → World → Prop, (∀ a w, S w ∧ wpAnyH P md ops Q S fuel (listed.setIfInBounds j true) a w → K' a w) → if Region.wanted oj (yielded ops a.tmps) = true then Oper.wp P oj a w K' Q else K' (a.put oj.dst undef) w)
  (m : ∀ K' : Act → World → Prop, (∀ a w, S w ∧ wpAnyH P md ops Q S fuel (listed.setIfInBounds l true) a w → K' a w) → if Region.wanted ol (yielded ops a.tmps) = true then Oper.wp P ol a w K' Q else K' (a.put ol.dst undef) w)
  (hr : Region.ready md ops listed = [i, j, l] := by kernel_rfl) : wpAnyH P md ops Q S (fuel + 1) listed a w := wpAnyH_three hr hi hj hl h k m
end
def RdP (fs : List DFunc) (ags ds : List Int) (f : Nat) (EA : Option Addr) (en ec : Nat) (ek : Int) (RA : Option Addr) (rn rc : Nat) (CA : Option Addr) (cn cc : Nat) (st : Int) (r : Option (Nat × Nat)) (W : World) : Prop := ∀ l, r = some l → ∃ u rl ch, st = ((u : Ms).steps : Int) ∧ RunR W l.1 l.2 fs ags ds f u EA en ec ek RA rn rc CA cn cc rl ch
theorem RdP.on {fs : List DFunc} {ags ds : List Int} {f : Nat} {EA : Option Addr} {en ec : Nat} {ek : Int} {RA : Option Addr} {rn rc : Nat} {CA : Option Addr} {cn cc : Nat} {st : Int} {r : Option (Nat × Nat)} (h : RdP fs ags ds f EA en ec ek RA rn rc CA cn cc st r W) (W' : World) (hb : Below W.heap.size W W') : RdP fs ags ds f EA en ec ek RA rn rc CA cn cc st r W' := fun l hl => by
 obtain ⟨u, rl, ch, e, h1⟩ := h l hl
 exact ⟨u, rl, ch, e, h1.on hb⟩
theorem RunQ.get {w w' : World} {fs : List DFunc} {ags ds : List Int} {f : Nat} {e : Ending} (h : RunQ w fs ags ds f e w') : ∃ EA en ec ek RA rn rc CA cn cc st, e = .returned (Ru.runV EA en ec ek RA rn rc CA cn cc st) ∧ (∃ u rl ch, st = ((u : Ms).steps : Int) ∧ RunR w' w.heap.size w'.heap.size fs ags ds f u EA en ec ek RA rn rc CA cn cc rl ch) ∧ Below w.heap.size w w' := by
 obtain ⟨u, EA, en, ec, ek, RA, rn, rc, CA, cn, cc, rl, ch, rfl, h1, h2⟩ := h
 exact ⟨EA, en, ec, ek, RA, rn, rc, CA, cn, cc, _, rfl, ⟨u, rl, ch, rfl, h1⟩, h2⟩
theorem FinV.same {u : Ms} {ek ek' : Int} {rl rl' : List Int} {ch ch' : List Bl} (h : FinV u ek rl ch) (k : FinV u ek' rl' ch') : ek' = ek ∧ rl' = rl ∧ ch' = ch := by
 rcases h with ⟨h1, rfl, rfl, rfl⟩ | ⟨rs, h1, rfl, rfl, rfl⟩ | ⟨c, h1, rfl, rfl, rfl⟩ <;> rcases k with ⟨k1, rfl, rfl, rfl⟩ | ⟨rs', k1, rfl, rfl, rfl⟩ | ⟨c', k1, rfl, rfl, rfl⟩ <;> rw [h1] at k1 <;> simp at k1
 ·exact ⟨rfl, rfl, rfl⟩
 ·subst k1; exact ⟨rfl, rfl, rfl⟩
 ·subst k1; exact ⟨rfl, rfl, rfl⟩
theorem runEq_self (a : Ru.DRun) : Ru.runEq a a = true := by
 rw [Ru.runEq_ref]
 simp [Ru.begL_refl Ru.eqV Ru.eqV_refl, Ru.begL_refl Ru.eqP Ru.eqP_refl, Ru.eqIs_refl]
theorem runs_same {W : World} {lo hi lo' hi' : Nat} {fs fs' : List DFunc} {ags ds ags' ds' : List Int} {f f' : Nat} {u : Ms} {EA : Option Addr} {en ec : Nat} {ek : Int} {RA : Option Addr} {rn rc : Nat} {CA : Option Addr} {cn cc : Nat} {rl : List Int} {ch : List Bl} {GA : Option Addr} {gn gc : Nat} {gk : Int} {SA : Option Addr} {sn sc : Nat} {HA : Option Addr} {hn hc : Nat} {sl : List Int} {hh : List Bl}
  (h : RunR W lo hi fs ags ds f u EA en ec ek RA rn rc CA cn cc rl ch) (k : RunR W lo' hi' fs' ags' ds' f' u GA gn gc gk SA sn sc HA hn hc sl hh) (st : Int) :
  Calls Tryz.prog 31 #[Ru.runV EA en ec ek RA rn rc CA cn cc st, Ru.runV GA gn gc gk SA sn sc HA hn hc st] W fun e w' => e = .returned (.bool true) ∧ Below W.heap.size W w' := by
 obtain ⟨rfl, rfl, rfl⟩ := h.fin.same k.fin
 have := Ru.refRuns_any ⟨u.evs, gk, sl, hh, st⟩ ⟨u.evs, gk, sl, hh, st⟩ EA en ec RA rn rc CA cn cc GA gn gc SA sn sc HA hn hc W.heap.size W h.ev h.rs h.hch k.ev k.rs k.hch (Nat.le_refl _)
 rw [runEq_self] at this
 exact this
theorem begL_pre {α : Type} (f : α → α → Bool) (hf : ∀ x, f x x = true) (l m : List α) : Ru.begL f l (l ++ m) = true := by
 induction l with
 | nil => rfl
 | cons x l ih => simp [Ru.begL, hf, ih]
theorem begins_pre {W : World} {EA : Option Addr} {en ec : Nat} {GA : Option Addr} {gn gc : Nat} {l m : List Ev} (h : Ru.SlV W W.heap.size EA en ec l) (k : Ru.SlV W W.heap.size GA gn gc m) (hp : ∃ r, m = l ++ r) :
  Calls Tryz.prog 32 #[.slice EA en ec, .slice GA gn gc] W fun e w' => e = .returned (.bool true) ∧ Below W.heap.size W w' := by
 obtain ⟨r, rfl⟩ := hp
 have := Ru.refBegins_any W.heap.size EA GA en gn ec gc l (l ++ r) W h k (Nat.le_refl _)
 rw [begL_pre Ru.eqV Ru.eqV_refl] at this
 exact this
end
end Go.Proofs.YtobmjnmcjddhcaaGreat
