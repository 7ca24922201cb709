/- The pure layer, part M: calls by their contracts. No function of the program is named here. -/
import Derived.Test.YtomnmacmlhkceaaQl
set_option linter.unusedVariables false
set_option linter.unusedSimpArgs false
namespace Go.Proofs.Ytomnmacmlhkceaa
open Go
variable {S : Setting} {ρ : Nat → Nm} {a : Act} {w : World} {σ : Env} {st : Store} {o : Oper}
theorem oid_inj {dst i j : Nat} (h : oid dst i = oid dst j) : i = j := by unfold oid at h; omega
theorem resNew_get {dst : Nat} : ∀ (rs : List Re) (i j : Nat) (e : Ent), aget (resNew dst i rs) j = some e →
  ∃ i' q, rs[i']? = some q ∧ q.ent = some e ∧ j = oid dst (i + i') ∧ newIx dst i rs j = some (i + i')
 | [], i, j, e, h => by simp [resNew, aget] at h
 | .d x :: r, i, j, e, h => by
  obtain ⟨i', q, h1, h2, h3, h4⟩ := resNew_get r (i + 1) j e h
  exact ⟨i' + 1, q, by simpa using h1, h2, by rw [h3]; congr 1; omega, by simp only [newIx]; rw [h4]; congr 1; omega⟩
 | .own e1 m1 :: r, i, j, e, h => by
  rcases aget_cons h with ⟨h1, h2⟩ | ⟨h1, h2⟩
  ·exact ⟨0, _, rfl, by rw [h2]; rfl, by simpa using h1, by simp [newIx, h1]⟩
  ·obtain ⟨i', q, g1, g2, g3, g4⟩ := resNew_get r (i + 1) j e h2
   exact ⟨i' + 1, q, by simpa using g1, g2, by rw [g3]; congr 1; omega, by simp only [newIx, h1, if_false]; rw [g4]; congr 1; omega⟩
 | .mat e1 e2 m1 :: r, i, j, e, h => by
  rcases aget_cons h with ⟨h1, h2⟩ | ⟨h1, h2⟩
  ·exact ⟨0, _, rfl, by rw [h2]; rfl, by simpa using h1, by simp [newIx, h1]⟩
  ·obtain ⟨i', q, g1, g2, g3, g4⟩ := resNew_get r (i + 1) j e h2
   exact ⟨i' + 1, q, by simpa using g1, g2, by rw [g3]; congr 1; omega, by simp only [newIx, h1, if_false]; rw [g4]; congr 1; omega⟩
theorem newIx_mem {dst : Nat} : ∀ (rs : List Re) (i j k : Nat), newIx dst i rs j = some k → ∃ e, (j, e) ∈ resNew dst i rs
 | [], i, j, k, h => by simp [newIx] at h
 | .d x :: r, i, j, k, h => by simp only [newIx] at h; exact newIx_mem r (i + 1) j k h
 | .own e m :: r, i, j, k, h => by
  simp only [newIx] at h
  by_cases hj : j = oid dst i
  ·subst hj; exact ⟨_, List.mem_cons_self⟩
  ·rw [if_neg hj] at h
   obtain ⟨e', h'⟩ := newIx_mem r (i + 1) j k h
   exact ⟨e', List.mem_cons_of_mem _ h'⟩
 | .mat e eo m :: r, i, j, k, h => by
  simp only [newIx] at h
  by_cases hj : j = oid dst i
  ·subst hj; exact ⟨_, List.mem_cons_self⟩
  ·rw [if_neg hj] at h
   obtain ⟨e', h'⟩ := newIx_mem r (i + 1) j k h
   exact ⟨e', List.mem_cons_of_mem _ h'⟩
theorem newIx_own {dst : Nat} : ∀ (rs : List Re) (i i' : Nat) (q : Re) (e : Ent), rs[i']? = some q → q.ent = some e → newIx dst i rs (oid dst (i + i')) = some (i + i')
 | [], i, i', q, e, h, _ => by simp at h
 | .d x :: r, i, i', q, e, h, he => by
  cases i' with
  | zero => simp at h; subst h; simp [Re.ent] at he
  | succ i' =>
   simp only [newIx]
   have := newIx_own (dst := dst) r (i + 1) i' q e (by simpa using h) he
   rw [show i + 1 + i' = i + (i' + 1) by omega] at this
   exact this
 | .own e1 m1 :: r, i, i', q, e, h, he => by
  cases i' with
  | zero => simp [newIx]
  | succ i' =>
   simp only [newIx]
   have hne : ¬ oid dst (i + (i' + 1)) = oid dst i := fun hh => by have := oid_inj hh; omega
   rw [if_neg hne]
   have := newIx_own (dst := dst) r (i + 1) i' q e (by simpa using h) he
   rw [show i + 1 + i' = i + (i' + 1) by omega] at this
   exact this
 | .mat e1 e2 m1 :: r, i, i', q, e, h, he => by
  cases i' with
  | zero => simp [newIx]
  | succ i' =>
   simp only [newIx]
   have hne : ¬ oid dst (i + (i' + 1)) = oid dst i := fun hh => by have := oid_inj hh; omega
   rw [if_neg hne]
   have := newIx_own (dst := dst) r (i + 1) i' q e (by simpa using h) he
   rw [show i + 1 + i' = i + (i' + 1) by omega] at this
   exact this
theorem aget_append {α : Type} : ∀ (l r : List (Nat × α)) (j : Nat), aget (l ++ r) j = match aget l j with
  | some e => some e
  | none => aget r j
 | [], r, j => rfl
 | (k, e) :: l, r, j => by
  by_cases h : k = j
  ·subst h; simp only [List.cons_append, aget_cons_same]
  ·simp only [List.cons_append, aget_cons_ne h]; exact aget_append l r j
theorem newOk_mem : ∀ {n : Store}, newOk σ st n = true → ∀ {k : Nat} {e : Ent}, (k, e) ∈ n → unment k σ st = true ∧ aget st k = none
 | (k0, e0) :: r, h, k, e, hm => by
  simp only [newOk, Bool.and_eq_true] at h
  rcases List.mem_cons.1 hm with hm | hm
  ·cases hm
   refine ⟨h.1.1, ?_⟩
   have := h.1.2
   cases hk : aget st k0 with
   | none => rfl
   | some _ => simp [hk] at this
  ·exact newOk_mem h.2 hm
def Re.pv (k : Nat) : Re → PV
 | .d x => .d true x
 | .own _ m => .own k m.len
 | .mat _ _ xss => .own k xss.length
theorem resPVs_get (dst : Nat) : ∀ (rs : List Re) (i j : Nat) (p : PV), (resPVs dst i rs)[j]? = some p → ∃ r, rs[j]? = some r ∧ p = r.pv (oid dst (i + j))
 | [], i, j, p, h => by simp [resPVs] at h
 | .d x :: r, i, 0, p, h => by simp [resPVs] at h; exact ⟨_, rfl, h.symm⟩
 | .own e m :: r, i, 0, p, h => by simp [resPVs] at h; exact ⟨_, rfl, h.symm⟩
 | .mat e eo m :: r, i, 0, p, h => by simp [resPVs] at h; exact ⟨_, rfl, h.symm⟩
 | .d x :: r, i, j + 1, p, h => by
  simp [resPVs] at h
  obtain ⟨q, h1, h2⟩ := resPVs_get dst r (i + 1) j p h
  exact ⟨q, by simpa using h1, by rw [h2]; congr 2; omega⟩
 | .own e m :: r, i, j + 1, p, h => by
  simp [resPVs] at h
  obtain ⟨q, h1, h2⟩ := resPVs_get dst r (i + 1) j p h
  exact ⟨q, by simpa using h1, by rw [h2]; congr 2; omega⟩
 | .mat e eo m :: r, i, j + 1, p, h => by
  simp [resPVs] at h
  obtain ⟨q, h1, h2⟩ := resPVs_get dst r (i + 1) j p h
  exact ⟨q, by simpa using h1, by rw [h2]; congr 2; omega⟩
theorem resPVs_len (dst : Nat) : ∀ (rs : List Re) (i : Nat), (resPVs dst i rs).length = rs.length
 | [], _ => rfl
 | .d _ :: r, i => by simp [resPVs, resPVs_len dst r (i + 1)]
 | .own _ _ :: r, i => by simp [resPVs, resPVs_len dst r (i + 1)]
 | .mat _ _ _ :: r, i => by simp [resPVs, resPVs_len dst r (i + 1)]
theorem rgmL_none {j : Nat} : ∀ l : List PV, (∀ p ∈ l, p.rgm j = false) → PV.rgmL j l = false := by
 intro l
 induction l with
 | nil => intro _; rfl
 | cons q r ih => intro hl; simp [PV.rgmL, hl q (by simp), ih fun p hp => hl p (by simp [hp])]
theorem RP.ofOwn {w : World} {O base : Nat → Prop} {ρ : Nat → Nm} {v : Value} {k n : Nat} (h : v = .slice (some ⟨(ρ k).1, 0, none⟩) n (ρ k).2 ∨ (v = .slice none 0 0 ∧ n = 0 ∧ (ρ k).2 = 0)) :
  RP w O base ρ v (.own k n) := by
 rcases h with rfl | ⟨rfl, rfl, h⟩
 ·exact .own k n
 ·exact .ownN k h
theorem RP.own_inv {w : World} {O base : Nat → Prop} {ρ : Nat → Nm} {v : Value} {k n : Nat} (h : RP w O base ρ v (.own k n)) :
  v = .slice (some ⟨(ρ k).1, 0, none⟩) n (ρ k).2 ∨ (v = .slice none 0 0 ∧ n = 0 ∧ (ρ k).2 = 0) := by
 cases h with
 | own => exact .inl rfl
 | ownN _ h => exact .inr ⟨rfl, rfl, h⟩
theorem RP.agt {w : World} {O base : Nat → Prop} {ρ : Nat → Nm} {vs : List Value} {ps : List PV} (n : Nat) (hl : vs.length = ps.length)
  (hr : ∀ (i : Nat) (u : Value) (p : PV), vs[i]? = some u → ps[i]? = some p → RP w O base ρ u p) : RP w O base ρ (.tuple (Value.agg (vs.take n).toArray :: vs.drop n).toArray) (.tup (.agg (ps.take n) :: ps.drop n)) := by
 refine .tup _ _ (by simp [hl]) fun i u p hu hp => ?_
 cases i with
 | zero =>
  simp at hu hp
  subst hu hp
  refine .agg _ _ (by simp [hl]) fun j u p hu hp => ?_
  have hj := (List.getElem?_eq_some_iff.1 hu).1
  simp only [List.length_take] at hj
  rw [List.getElem?_take_of_lt (by omega)] at hu hp
  exact hr j u p hu hp
 | succ i =>
  simp only [List.getElem?_cons_succ, List.getElem?_drop] at hu hp
  exact hr (n + i) u p hu hp
theorem rgm_agt {ps : List PV} (n j : Nat) (h : (PV.tup (.agg (ps.take n) :: ps.drop n)).rgm j = true) : ∃ p ∈ ps, p.rgm j = true := by
 have key : ∀ l : List PV, PV.rgmL j l = true → ∃ p ∈ l, p.rgm j = true := by
  intro l
  induction l with
  | nil => intro h; simp [PV.rgmL] at h
  | cons q r ih =>
   intro h
   simp only [PV.rgmL, Bool.or_eq_true] at h
   rcases h with h | h
   ·exact ⟨q, List.mem_cons_self, h⟩
   ·obtain ⟨p, h1, h2⟩ := ih h
    exact ⟨p, List.mem_cons_of_mem _ h1, h2⟩
 simp only [PV.rgm, PV.rgmL, Bool.or_eq_true] at h
 rcases h with h | h
 ·obtain ⟨p, h1, h2⟩ := key _ h
  exact ⟨p, List.mem_of_mem_take h1, h2⟩
 ·obtain ⟨p, h1, h2⟩ := key _ h
  exact ⟨p, List.mem_of_mem_drop h1, h2⟩
theorem call_in (h : StR S ρ a w σ st) (hd : ∀ d, o.dst = some d → d < S.n) {w' : World} {v : Value} {r : Res} {dst : Nat} (hb : Bel w.heap.size w w') (hr : ResOk w.heap.size w' v r)
  (hnew : newOk σ st (resNew dst 0 r.list) = true) : ∃ ρ', StR S ρ' (a.put o.dst v) w' (eput σ o.dst (resPV dst r)) (resNew dst 0 r.list ++ st) := by
 obtain ⟨ρr, vs, hv, hl, hdis, hok⟩ := hr
 let ρ' : Nat → Nm := fun j => match newIx dst 0 r.list j with
  | some i => ρr i
  | none => ρ j
 have hold : ∀ j, (∀ e, (j, e) ∉ resNew dst 0 r.list) → ρ' j = ρ j := by
  intro j hj
  show (match newIx dst 0 r.list j with | some i => ρr i | none => ρ j) = ρ j
  cases hx : newIx dst 0 r.list j with
  | none => rfl
  | some i => obtain ⟨e, he⟩ := newIx_mem _ _ _ _ hx; exact absurd he (hj e)
 have hnewρ : ∀ i q e, r.list[i]? = some q → q.ent = some e → ρ' (oid dst i) = ρr i := by
  intro i q e hi he
  have := newIx_own (dst := dst) r.list 0 i q e hi he
  rw [Nat.zero_add] at this
  show (match newIx dst 0 r.list (oid dst i) with | some i => ρr i | none => ρ (oid dst i)) = ρr i
  rw [this]
 have hget : ∀ j e, aget (resNew dst 0 r.list ++ st) j = some e → (aget st j = some e ∧ ∀ e', (j, e') ∉ resNew dst 0 r.list) ∨ ∃ i q, r.list[i]? = some q ∧ q.ent = some e ∧ j = oid dst i := by
  intro j e hj
  rw [aget_append] at hj
  cases hx : aget (resNew dst 0 r.list) j with
  | none =>
   simp only [hx] at hj
   refine .inl ⟨hj, fun e' he' => ?_⟩
   have := (newOk_mem hnew he').2
   rw [this] at hj; cases hj
  | some e1 =>
   simp only [hx, Option.some.injEq] at hj
   subst hj
   obtain ⟨i', q, g1, g2, g3, _⟩ := resNew_get _ _ _ _ hx
   exact .inr ⟨i', q, g1, g2, by simpa using g3⟩
 have hvlt : ∀ i q e b, r.list[i]? = some q → q.ent = some e → blk e (ρr i) b → w.heap.size ≤ b ∧ b < w'.heap.size := by
  intro i q e b hi he hbk
  have hil : i < vs.length := by rw [hl]; exact (List.getElem?_eq_some_iff.1 hi).1
  have hvi : vs[i]? = some vs[i] := List.getElem?_eq_getElem hil
  have hq := hok i _ _ hvi hi
  cases q with
  | d x => simp [Re.ent] at he
  | own e0 m =>
   simp only [Re.ent, Option.some.injEq] at he
   subst he
   obtain ⟨hb1, hpos⟩ := hbk
   obtain ⟨_, h2, cur, h3, _⟩ := hq
   rw [hb1]
   exact ⟨h2 hpos, (Array.getElem?_eq_some_iff.1 (h3 hpos)).1⟩
  | mat e0 eo xss =>
   simp only [Re.ent, Option.some.injEq] at he
   subst he
   exact hq.2.2 b hbk
 -- reading in the new memory
 have hlive : ∀ b, liveO S.O ρ' (resNew dst 0 r.list ++ st) b ∨ S.F b → ownB ρr r.list b ∨ b < w.heap.size := by
  intro b hb'
  rcases hb' with (hb' | ⟨j, e, hj, hbj⟩) | hb'
  ·have := h.ob b hb'; have := h.frm.size; exact .inr (by omega)
  ·rcases hget j e hj with ⟨h1, h2⟩ | ⟨i, q, h1, h3, h2⟩
   ·rw [hold j h2] at hbj
    exact .inr (h.own j e h1 b hbj).1
   ·subst h2
    rw [hnewρ i q e h1 h3] at hbj
    exact .inl ⟨i, q, e, h1, h3, hbj⟩
  ·have := S.fb b hb'; have := h.frm.size; exact .inr (by omega)
 have hrd : ∀ {u : Value} {x : D}, R (ucell w') (fun b => ownB ρr r.list b ∨ b < w.heap.size) u x → RD w' (liveO S.O ρ' (resNew dst 0 r.list ++ st)) S.F true u x := by
  intro u x hx
  exact hx.mono fun a v h1 h2 => ⟨h1, fun h3 => h2 (hlive _ h3)⟩
 have h2 : StR S ρ' a w' σ (resNew dst 0 r.list ++ st) := by
  refine h.call hb (fun j e hj => ?_) (fun j e hj => ?_) (fun j j' e e' n1 n2 g1 g2 b hb1 hb2 => ?_) (fun t p hp j hj => ?_) (fun t e he j hj => ?_)
  ·rcases hget j e hj with ⟨h1, h2⟩ | ⟨i, q, h1, h3, h2⟩
   ·exact .inl ⟨h1, hold j h2⟩
   ·subst h2
    have hmem : ∃ e, (oid dst i, e) ∈ resNew dst 0 r.list := by
     have := newIx_own (dst := dst) r.list 0 i q e h1 h3
     rw [Nat.zero_add] at this
     exact newIx_mem _ _ _ _ this
    obtain ⟨e', he⟩ := hmem
    have hρ := hnewρ i q e h1 h3
    have hil : i < vs.length := by rw [hl]; exact (List.getElem?_eq_some_iff.1 h1).1
    have hvi : vs[i]? = some vs[i] := List.getElem?_eq_getElem hil
    have hq := hok i _ _ hvi h1
    refine .inr ⟨(newOk_mem hnew he).2, fun b hbk => ?_, fun t cs ht => ?_, ?_⟩
    ·rw [hρ] at hbk
     exact hvlt i q e b h1 h3 hbk
    ·subst ht; cases q <;> simp [Re.ent] at h3
    ·cases q with
     | d x => simp [Re.ent] at h3
     | own e0 m =>
      simp only [Re.ent, Option.some.injEq] at h3
      subst h3
      obtain ⟨_, _, cur, q1, q2, q3, q4, q5⟩ := hq
      refine ⟨cur, by rw [hρ]; exact q1, by rw [hρ]; exact q2, by rw [hρ]; exact q3, by rw [hρ]; exact q4, fun i2 c hi2 hc => ?_⟩
      obtain ⟨u, u1, u2⟩ := q5 i2 c hi2 hc
      exact ⟨u, u1, hrd u2⟩
     | mat e0 eo xss =>
      simp only [Re.ent, Option.some.injEq] at h3
      subst h3
      rw [EntOk, hρ]
      exact hq.2.1
  ·rw [aget_append]
   cases hx : aget (resNew dst 0 r.list) j with
   | none => exact hj
   | some e1 =>
    have := (newOk_mem hnew (aget_mem hx)).2
    rw [this] at hj; cases hj
  ·rcases hget j e g1 with ⟨h1, _⟩ | ⟨i, q, h1, h3, h2⟩
   ·rw [n1] at h1; cases h1
   rcases hget j' e' g2 with ⟨k1, _⟩ | ⟨i', q', k1, k3, k2⟩
   ·rw [n2] at k1; cases k1
   subst h2 k2
   rw [hnewρ i q e h1 h3] at hb1
   rw [hnewρ i' q' e' k1 k3] at hb2
   have : i = i' := hdis i i' q q' e e' b h1 k1 h3 k3 hb1 hb2
   rw [this]
  ·refine hold j fun e he => ?_
   have := unment_env (newOk_mem hnew he).1 hp
   rw [this] at hj; cases hj
  ·refine hold j fun e' he' => ?_
   have := unment_st (newOk_mem hnew he').1 he
   rw [this] at hj; cases hj
 have hone : ∀ (i : Nat) (u : Value) (p : PV), vs[i]? = some u → (resPVs dst 0 r.list)[i]? = some p → RP w' (liveO S.O ρ' (resNew dst 0 r.list ++ st)) S.F ρ' u p := by
  intro i u p hu hp
  obtain ⟨q, q1, q2⟩ := resPVs_get dst r.list 0 i p hp
  have := hok i u q hu q1
  cases q with
  | d x => rw [q2]; exact .d _ _ _ (hrd this)
  | own e m =>
   rw [q2, Nat.zero_add]
   exact RP.ofOwn (by rw [hnewρ i _ _ q1 rfl]; exact this.1)
  | mat e eo xss =>
   rw [q2, Nat.zero_add]
   exact RP.ofOwn (by rw [hnewρ i _ _ q1 rfl]; exact this.1)
 have hrg : ∀ (i : Nat) (p : PV), (resPVs dst 0 r.list)[i]? = some p → ∀ j, p.rgm j = false := by
  intro i p hp j
  obtain ⟨q, _, q2⟩ := resPVs_get dst r.list 0 i p hp
  cases q <;> (rw [q2]; rfl)
 refine ⟨ρ', h2.val o.dst v _ hd ?_ ?_⟩
 ·cases r with
  | one x =>
   have hvl : vs.length = 1 := hl
   have hv0 : vs[0]? = some vs[0] := List.getElem?_eq_getElem (by omega)
   have hvv : v = vs[0] := by rw [hv]; simp [Res.value, List.getD, hv0]
   rw [hvv]
   cases x with
   | d y => exact hone 0 _ _ hv0 rfl
   | own e m => exact hone 0 _ _ hv0 rfl
   | mat e eo xss => exact hone 0 _ _ hv0 rfl
  | tup rs =>
   have hvv : v = .tuple vs.toArray := hv
   rw [hvv]
   exact .tup vs _ (by rw [resPVs_len]; exact hl) hone
  | agg rs =>
   have hvv : v = .agg vs.toArray := hv
   rw [hvv]
   exact .agg vs _ (by rw [resPVs_len]; exact hl) hone
  | agt n rs =>
   have hvv : v = .tuple (Value.agg (vs.take n).toArray :: vs.drop n).toArray := hv
   rw [hvv]
   exact RP.agt n (by rw [resPVs_len]; exact hl) hone
 ·intro j hj
  exfalso
  cases r with
  | one x => cases x <;> simp [resPV, resPVs, PV.rgm] at hj
  | tup rs =>
   simp only [resPV, PV.rgm] at hj
   rw [rgmL_none _ fun p hp => by obtain ⟨i, hi⟩ := List.mem_iff_getElem?.1 hp; exact hrg i p hi j] at hj
   cases hj
  | agg rs =>
   simp only [resPV, PV.rgm] at hj
   rw [rgmL_none _ fun p hp => by obtain ⟨i, hi⟩ := List.mem_iff_getElem?.1 hp; exact hrg i p hi j] at hj
   cases hj
  | agt n rs =>
   obtain ⟨p, hp, hr⟩ := rgm_agt (ps := resPVs dst 0 rs) n j hj
   obtain ⟨i, hi⟩ := List.mem_iff_getElem?.1 hp
   rw [hrg i p hi j] at hr
   cases hr
theorem call_inG (h : StR S ρ a w σ st) (hd : ∀ d, o.dst = some d → d < S.n) {w' : World} {v : Value} {r : Res} {dst : Nat} (hb : Bel w.heap.size w w') (hr : ResOk w.heap.size w' v r)
  (hnew : newOk σ st [(dst, .reg)] = true) : ∃ ρ', StR S ρ' (a.put o.dst v) w' (eput σ o.dst (resPVG dst r)) ((dst, .reg) :: st) := by
 obtain ⟨ρr, vs, hv, hl, _, hok⟩ := hr
 obtain ⟨n1, n2⟩ := newOk_one hnew
 have hne : ∀ j e, aget st j = some e → dst ≠ j := fun j e he ej => by rw [← ej, n2] at he; cases he
 have h2 : StR S (upd ρ dst (nm w.heap.size w'.heap.size)) a w' σ ((dst, .reg) :: st) := by
  refine h.call hb (fun j e hj => ?_) (fun j e hj => ?_) (fun j j' e e' q1 q2 g1 g2 b _ _ => ?_) (fun t p hp j hj => ?_) (fun t e he j hj => ?_)
  ·rcases aget_cons hj with ⟨hjd, he⟩ | ⟨hjd, hj⟩
   ·subst hjd he
    refine .inr ⟨n2, fun b hbk => ?_, by simp, ?_⟩
    ·rw [upd_same] at hbk; exact hbk
    ·rw [EntOk, upd_same]; exact ⟨hb.size, Nat.le_refl _⟩
   ·exact .inl ⟨hj, upd_ne ρ _ hjd⟩
  ·rw [aget_cons_ne (hne j e hj)]; exact hj
  ·rcases aget_cons g1 with ⟨e1, _⟩ | ⟨_, g1⟩
   ·rcases aget_cons g2 with ⟨e2, _⟩ | ⟨_, g2⟩
    ·rw [e1, e2]
    ·rw [q2] at g2; cases g2
   ·rw [q1] at g1; cases g1
  ·exact upd_ne ρ _ fun e => by rw [e, unment_env n1 hp] at hj; cases hj
  ·exact upd_ne ρ _ fun e => by rw [e, unment_st n1 he] at hj; cases hj
 have hone : ∀ (i : Nat) (u : Value) (x : Re), vs[i]? = some u → r.list[i]? = some x →
   RP w' (liveO S.O (upd ρ dst (nm w.heap.size w'.heap.size)) ((dst, .reg) :: st)) S.F (upd ρ dst (nm w.heap.size w'.heap.size)) u (rePVG dst x) := by
  intro i u x hu hx
  have hR := hok i u x hu hx
  cases x with
  | d y =>
   simp only [rePVG]
   cases hf : y.flats with
   | true => exact .d _ _ _ (RD.mk hR hf)
   | false =>
    refine .reg _ _ _ (R.mono hR fun ad z h1 h2 => ⟨h1, fun h3 => h3 ?_⟩)
    rw [upd_same]
    exact ⟨Nat.le_of_not_lt fun h4 => h2 (.inr h4), ucell_lt h1⟩
  | own e m =>
   simp only [rePVG]
   obtain ⟨g1, g2, cur, g3, g4, g5, g6, g7⟩ := hR
   have hin : ∀ ad z, ucell w' ad = some z → ¬ (ownB ρr r.list ad.block ∨ ad.block < w.heap.size) → ucell w' ad = some z ∧ ¬ ¬ ((upd ρ dst (nm w.heap.size w'.heap.size) dst).1 ≤ ad.block ∧ ad.block < (upd ρ dst (nm w.heap.size w'.heap.size) dst).2) := by
    intro ad z h1 h2
    refine ⟨h1, fun h3 => h3 ?_⟩
    rw [upd_same]
    exact ⟨Nat.le_of_not_lt fun h4 => h2 (.inr h4), ucell_lt h1⟩
   rcases g1 with g1 | ⟨g1, g1m, _⟩
   ·rw [g1]
    refine .reg _ _ _ (.sl m ⟨(ρr i).1, 0, none⟩ m.len (ρr i).2 rfl ⟨g6, Nat.le_trans g6 g4⟩ (fun i2 c => cur.getD (i2 * m.width + c) undef) (fun i2 c hi hc => ?_) (fun i2 c hi hc => ?_))
    ·have hpos : 0 < (ρr i).2 := by omega
     obtain ⟨z, hz, _⟩ := g7 i2 c hi hc
     have hval : w'.cell? ⟨(ρr i).1, i2 * m.width + c, none⟩ = some (cur.getD (i2 * m.width + c) undef) := by
      rw [cell_of_row w' _ _ _ _ _ (g3 hpos), hz]; simp [hz]
     rw [add_lit0]
     refine ⟨ucell_mk hval (frozen_of_row _ _ _ _ _ (g3 hpos)), fun h3 => h3 ?_⟩
     rw [upd_same]
     exact ⟨g2 hpos, (Array.getElem?_eq_some_iff.1 (g3 hpos)).1⟩
    ·obtain ⟨z, hz, hr⟩ := g7 i2 c hi hc
     have e2 : cur.getD (i2 * m.width + c) undef = z := by simp [hz]
     rw [e2]
     exact R.mono hr hin
   ·rw [g1]
    exact .reg _ _ _ (.slnil m g1m)
  | mat e eo xss =>
   simp only [rePVG]
   obtain ⟨g1, g2, g3⟩ := hR
   refine .reg _ _ _ (mat_read g2 (fun b hb h3 => h3 ?_) g1)
   rw [upd_same]
   exact g3 b hb
 have hrg1 : ∀ (x : Re) (j : Nat), (rePVG dst x).rgm j = true → aget ((dst, Ent.reg) :: st) j = some .reg := by
  intro x j hj
  have : Nat.beq dst j = true := by
   cases x with
   | d y =>
    simp only [rePVG] at hj
    cases hf : y.flats <;> simp only [hf, cond_true, cond_false, PV.rgm] at hj
    ·exact hj
    ·cases hj
   | own e m => exact hj
   | mat e eo xss => exact hj
  have := beq_true.1 this
  subst this
  exact aget_cons_same _ _ _
 refine ⟨_, h2.val o.dst v _ hd ?_ ?_⟩
 ·cases r with
  | one x =>
   have hvl : vs.length = 1 := hl
   have hv0 : vs[0]? = some vs[0] := List.getElem?_eq_getElem (by omega)
   have hvv : v = vs[0] := by rw [hv]; simp [Res.value, List.getD, hv0]
   rw [hvv]
   exact hone 0 _ x hv0 rfl
  | tup rs =>
   have hvv : v = .tuple vs.toArray := hv
   rw [hvv]
   have hl' : vs.length = rs.length := hl
   refine .tup vs _ (by simpa using hl') fun i u p hu hp => ?_
   simp only [List.getElem?_map, Option.map_eq_some_iff] at hp
   obtain ⟨x, hx, rfl⟩ := hp
   exact hone i u x hu hx
  | agg rs =>
   have hvv : v = .agg vs.toArray := hv
   rw [hvv]
   have hl' : vs.length = rs.length := hl
   refine .agg vs _ (by simpa using hl') fun i u p hu hp => ?_
   simp only [List.getElem?_map, Option.map_eq_some_iff] at hp
   obtain ⟨x, hx, rfl⟩ := hp
   exact hone i u x hu hx
  | agt n rs =>
   have hvv : v = .tuple (Value.agg (vs.take n).toArray :: vs.drop n).toArray := hv
   rw [hvv]
   have hl' : vs.length = rs.length := hl
   refine RP.agt n (by simpa using hl') fun i u p hu hp => ?_
   simp only [List.getElem?_map, Option.map_eq_some_iff] at hp
   obtain ⟨x, hx, rfl⟩ := hp
   exact hone i u x hu hx
 ·intro j hj
  cases r with
  | agt n rs =>
   obtain ⟨p, hp, hr⟩ := rgm_agt (ps := rs.map (rePVG dst)) n j hj
   obtain ⟨x, _, rfl⟩ := List.mem_map.1 hp
   exact hrg1 x j hr
  | one x => exact hrg1 x j hj
  | tup rs =>
   simp only [resPVG, PV.rgm] at hj
   have : ∀ l : List Re, PV.rgmL j (l.map (rePVG dst)) = true → aget ((dst, Ent.reg) :: st) j = some .reg := by
    intro l
    induction l with
    | nil => intro h; simp [PV.rgmL] at h
    | cons q r ih =>
     intro h
     simp only [List.map_cons, PV.rgmL, Bool.or_eq_true] at h
     rcases h with h | h
     ·exact hrg1 q j h
     ·exact ih h
   exact this rs hj
  | agg rs =>
   simp only [resPVG, PV.rgm] at hj
   have : ∀ l : List Re, PV.rgmL j (l.map (rePVG dst)) = true → aget ((dst, Ent.reg) :: st) j = some .reg := by
    intro l
    induction l with
    | nil => intro h; simp [PV.rgmL] at h
    | cons q r ih =>
     intro h
     simp only [List.map_cons, PV.rgmL, Bool.or_eq_true] at h
     rcases h with h | h
     ·exact hrg1 q j h
     ·exact ih h
   exact this rs hj
theorem castD_ok {g : Addr → Option Value} {O : Nat → Prop} {v : Value} {x y : D} (h : R g O v x) (hc : castD x y) : R g O v y := by
 cases x with
 | nil =>
  cases y with
  | sl m => cases h; exact .slnil m hc
  | nil => exact h
  | _ => exact absurd hc (by simp [castD])
 | _ => simp only [castD] at hc; rw [← hc]; exact h
theorem castL_get : ∀ {xs ys : List D}, castL xs ys → xs.length = ys.length ∧ ∀ (j : Nat) (x y : D), xs[j]? = some x → ys[j]? = some y → castD x y
 | [], [], _ => ⟨rfl, fun j x y h => by simp at h⟩
 | x :: r, y :: s, h => by
  obtain ⟨h1, h2⟩ := castL_get (xs := r) (ys := s) h.2
  refine ⟨by simp [h1], fun j u v hu hv => ?_⟩
  cases j with
  | zero => simp at hu hv; subst hu hv; exact h.1
  | succ j => simp at hu hv; exact h2 j u v hu hv
 | [], _ :: _, h => by simp [castL] at h
 | _ :: _, [], h => by simp [castL] at h
theorem snapPs_P (st : Store) : ∀ (n : Nat) (p : PV), (∀ q ∈ snapPs n st p, q) → snapP n st p
 | 0, p, _ => trivial
 | n + 1, p, h => by
  have key : ∀ l : List PV, (∀ q ∈ l.foldr (fun q r => snapPs n st q ++ r) [], q) → l.foldr (fun q r => snapP n st q ∧ r) True := by
   intro l
   induction l with
   | nil => intro _; trivial
   | cons q r ih =>
    intro h
    simp only [List.foldr_cons] at h ⊢
    exact ⟨snapPs_P st n q fun x hx => h x (List.mem_append_left _ hx), ih fun x hx => h x (List.mem_append_right _ hx)⟩
  cases p with
  | own k len =>
   simp only [snapPs] at h
   simp only [snapP]
   cases hk : aget st k with
   | none => trivial
   | some e =>
    cases e with
    | arr fr t m => simp only [hk] at h; exact h _ (by simp)
    | mat t o xss hole =>
     cases hole with
     | none => simp only [hk] at h; exact h _ (by simp)
     | some i => trivial
    | _ => trivial
  | rw k i len =>
   simp only [snapPs] at h
   simp only [snapP]
   cases hk : aget st k with
   | none => trivial
   | some e =>
    cases e with
    | mat t o xss hole =>
     cases hole with
     | none => simp only [hk] at h; exact ⟨h _ (by simp), h _ (by simp)⟩
     | some i => trivial
    | _ => trivial
  | ptr k c =>
   simp only [snapPs] at h
   simp only [snapP]
   cases hk : aget st k with
   | none => trivial
   | some e => cases e <;> first | trivial | (simp only [hk] at h; exact key _ h)
  | fn f k ps => simp only [snapPs] at h; exact key ps h
  | agg ps => simp only [snapPs] at h; exact key ps h
  | tup ps => simp only [snapPs] at h; exact key ps h
  | vw k len =>
   simp only [snapPs] at h
   simp only [snapP]
   cases hk : aget st k with
   | none => trivial
   | some e => cases e <;> first | trivial | (simp only [hk] at h; exact h _ (by simp))
  | _ => trivial
theorem snapL_P (st : Store) : ∀ (as : List PV), (∀ q ∈ snapL st as, q) → ∀ p ∈ as, snapP 4 st p
 | [], _, p, hp => by simp at hp
 | x :: r, h, p, hp => by
  simp only [snapL, List.foldr_cons] at h
  rcases List.mem_cons.1 hp with rfl | hp
  ·exact snapPs_P st 4 p fun q hq => h q (List.mem_append_left _ hq)
  ·exact snapL_P st r (fun q hq => h q (List.mem_append_right _ hq)) p hp
theorem get_app {α β : Type} {r : α → β → Prop} {us vs : List α} {ps qs : List β} (hl : us.length = ps.length) (h1 : ∀ (j : Nat) (v : α) (p : β), us[j]? = some v → ps[j]? = some p → r v p)
  (h2 : ∀ (j : Nat) (v : α) (p : β), vs[j]? = some v → qs[j]? = some p → r v p) : ∀ (j : Nat) (v : α) (p : β), (us ++ vs)[j]? = some v → (ps ++ qs)[j]? = some p → r v p := by
 intro j v p hv hp
 by_cases hj : j < ps.length
 ·rw [List.getElem?_append_left hj] at hp
  rw [List.getElem?_append_left (by omega)] at hv
  exact h1 j v p hv hp
 ·rw [List.getElem?_append_right (by omega)] at hp
  rw [List.getElem?_append_right (by omega)] at hv
  exact h2 (j - ps.length) v p (by rw [← hl]; exact hv) hp
theorem get_cut {α β : Type} {r : α → β → Prop} {us : List α} {ps : List β} (h1 : ∀ (j : Nat) (v : α) (p : β), us[j]? = some v → ps[j]? = some p → r v p) (k : Nat) :
  (∀ (j : Nat) (v : α) (p : β), (us.take k)[j]? = some v → (ps.take k)[j]? = some p → r v p) ∧ ∀ (j : Nat) (v : α) (p : β), (us.drop k)[j]? = some v → (ps.drop k)[j]? = some p → r v p := by
 refine ⟨fun j v p hv hp => ?_, fun j v p hv hp => ?_⟩
 ·rw [List.getElem?_take] at hv hp
  split at hv
  ·rename_i hlt
   rw [if_pos hlt] at hp
   exact h1 j v p hv hp
  ·cases hv
 ·rw [List.getElem?_drop] at hv hp
  exact h1 _ v p hv hp
def Setting.shut (S : Setting) (w : World) (hs : S.w0.heap.size ≤ w.heap.size) (B : Nat → Prop) : Setting where
 P := S.P
 n := S.n
 w0 := w
 O := fun b => S.O b ∨ B b
 may := fun _ => True
 F := S.F
 fb := fun b hb => Nat.lt_of_lt_of_le (S.fb b hb) hs
theorem StR.shutG (h : StR S ρ a w σ st) {k : Nat} {e : Ent} (hke : aget st k = some e) (hnr : e ≠ .reg) :
  StR (S.shut w h.frm.size fun b => blk e (ρ k) b) ρ a w σ (adel st k) := by
 have hlow : ∀ b, liveO (S.shut w h.frm.size fun b => blk e (ρ k) b).O ρ (adel st k) b → liveO S.O ρ st b := by
  intro b hb
  rcases hb with (hb | hb) | ⟨j, e1, hj, hb⟩
  ·exact .inl hb
  ·exact .inr ⟨k, _, hke, hb⟩
  ·exact .inr ⟨j, e1, (aget_adel hj).2, hb⟩
 have hk : ∀ b, b < w.heap.size → ¬ liveO S.O ρ st b → w.heap[b]? = w.heap[b]? ∧ ¬ liveO (S.shut w h.frm.size fun b => blk e (ρ k) b).O ρ (adel st k) b :=
  fun b _ hn => ⟨rfl, fun h3 => hn (hlow b h3)⟩
 have hnk : ∀ j, aget st j = some .reg → j ≠ k := fun j hj e1 => by rw [e1, hke] at hj; cases hj; exact hnr rfl
 refine ⟨h.sz, h.dfr, fun b hb => ?_, fun j e1 he => ?_, fun j e1 he b hb => ?_, fun j j' e1 e2 h1 h2 => h.inj j j' e1 e2 (aget_adel h1).2 (aget_adel h2).2, fun t p hp => ⟨(h.env t p hp).1, ?_⟩,
  ⟨rfl, rfl, rfl, Nat.le_refl _, Nat.le_refl _, fun _ _ _ => rfl⟩, fun t p hp j hj => ?_, fun k' t cs hk' j hj => ?_, fun _ hg => by cases hg⟩
 ·rcases hb with hb | hb
  ·exact Nat.lt_of_lt_of_le (h.ob b hb) h.frm.size
  ·exact (h.own k _ hke b hb).1
 ·exact (h.ents j e1 (aget_adel he).2).step (Nat.le_refl _) hk (fun _ _ => rfl) rfl (fun _ _ _ => rfl) (fun _ _ _ _ _ _ _ _ _ => rfl)
 ·obtain ⟨x1, x2, _⟩ := h.own j e1 (aget_adel he).2 b hb
  refine ⟨x1, fun ho => ?_, .inr trivial⟩
  rcases ho with ho | ho
  ·exact x2 ho
  ·exact (aget_adel he).1 (h.inj j k e1 _ (aget_adel he).2 hke b hb ho)
 ·exact (h.env t p hp).2.step hk (fun _ _ => rfl) (fun _ _ _ _ _ _ => rfl)
 ·have hr := h.rg t p hp j hj
  rw [aget_adel_ne st (hnk j hr)]; exact hr
 ·have hr := h.rb k' t cs (aget_adel hk').2 j hj
  rw [aget_adel_ne st (hnk j hr)]; exact hr
theorem StR.shutRP (h : StR S ρ a w σ st) {k : Nat} {e : Ent} (hke : aget st k = some e) {v : Value} {p : PV} (hv : RPs S ρ w st v p) :
  RPs (S.shut w h.frm.size fun b => blk e (ρ k) b) ρ w (adel st k) v p := by
 refine RP.step hv (fun b _ hn => ⟨rfl, fun h3 => hn ?_⟩) (fun _ _ => rfl) (fun _ _ _ _ _ _ => rfl)
 rcases h3 with (h3 | h3) | ⟨j, e1, hj, h3⟩
 ·exact .inl h3
 ·exact .inr ⟨k, _, hke, h3⟩
 ·exact .inr ⟨j, e1, (aget_adel hj).2, h3⟩
theorem newOk_put {k : Nat} {e e' : Ent} (hk : aget st k = some e) (hm : ∀ j, e'.ment j = false) : ∀ {n : Store}, newOk σ st n = true → newOk σ ((k, e') :: adel st k) n = true
 | [], _ => rfl
 | (j, x) :: r, h => by
  simp only [newOk, Bool.and_eq_true] at h ⊢
  obtain ⟨⟨h1, h2⟩, h3⟩ := h
  have hn : aget st j = none := by
   cases hj : aget st j with
   | none => rfl
   | some z => rw [hj] at h2; cases h2
  have hjk : k ≠ j := fun e => by rw [e, hn] at hk; cases hk
  refine ⟨⟨?_, ?_⟩, newOk_put hk hm h3⟩
  ·simp only [unment, Bool.and_eq_true, List.all_eq_true] at h1 ⊢
   refine ⟨h1.1, fun x hx => ?_⟩
   rcases List.mem_cons.1 hx with rfl | hx
   ·simp [hm]
   ·exact h1.2 x (mem_adel hx)
  ·rw [aget_cons_ne hjk, aget_adel_ne _ (Ne.symm hjk), hn]
theorem cell_core (h : StR S ρ a w σ st) (hd : ∀ d, o.dst = some d → d < S.n) {f : FuncId} {ds ds' : List D} {rest : List D} {r : Res} {d k : Nat} {t : TypeId} {fr : Bool} {y : D} {cs : List PV} {vs : List Value} {K : Act → World → Prop}
  (hk : aget st k = some (.box t (.d fr y :: cs))) (hcs : cellDs cs = some ds) (hflat : flatDs ds' = true) (hnew : newOk σ ((k, .box t (.d fr y :: ds'.map (.d true))) :: adel st k) (resNew d 0 r.list) = true)
  (hrest : All2 (R w.cell? (fun b => S.O b ∨ blk (.box t (.d fr y :: cs)) (ρ k) b)) vs rest) (hpk : PK S.P f t y.unl ds ds' rest r)
  (hK : ∀ ρ' a' w', StR S ρ' a' w' (eput σ o.dst (resPV d r)) (resNew d 0 r.list ++ ((k, .box t (.d fr y :: ds'.map (.d true))) :: adel st k)) → K a' w') :
  Calls S.P f (.pointer (some ⟨(ρ k).1, 0, none⟩) :: vs).toArray w (fun en w' => ∃ v, en = .returned v ∧ K (a.put o.dst v) w') := by
 obtain ⟨hcl, hcg⟩ := cellDs_get hcs
 obtain ⟨hbody, hlen, hcall⟩ := hpk
 have hs := h.shutG hk (by simp)
 obtain ⟨cur, e1, e2, e3⟩ := h.ents k _ hk
 have e2 : cur.size = cs.length + 1 := by simpa using e2
 have hlt : (ρ k).1 < w.heap.size := (Array.getElem?_eq_some_iff.1 e1).1
 have := hcall w _ (ρ k).1 cur vs e1 (by rw [e2, hcl]) hs.ob (.inr rfl) (fun j z hz => by
  cases j with
  | zero =>
   simp at hz
   subst hz
   obtain ⟨u, hu, h1c, hr⟩ := e3 0 (.d fr y) rfl
   refine ⟨u, hu, h1c, ?_⟩
   cases hr with
   | d _ _ _ hr =>
    exact R.unl (hr.plain.step fun b _ hb => ⟨rfl, fun ho => hb (by
     rcases ho with ho | ho
     ·exact .inl ho
     ·exact .inr ⟨k, _, hk, ho⟩)⟩)
  | succ j =>
   obtain ⟨hfz, hcz, fr2, hj⟩ := hcg j z (by simpa using hz)
   obtain ⟨u, hu, h1c, hr⟩ := e3 (j + 1) (.d fr2 z) (by simpa using hj)
   refine ⟨u, hu, h1c, ?_⟩
   cases hr with
   | d _ _ _ hr => exact hr.plain.flat hfz) hrest
 refine Calls.mono this fun en w' he => ?_
 obtain ⟨v, rfl, h1, h2, h3, h4, hdr, h5, ⟨cur', h6, h7, h8, h9⟩, hres⟩ := he
 -- the world with the record alone turned
 have hsz : (w.setRow (ρ k).1 cur').heap.size = w.heap.size := by simp
 have hlow : ∀ b, liveO S.O ρ ((k, .box t (.d fr y :: ds'.map (.d true))) :: adel st k) b → liveO S.O ρ st b := by
  intro b h3
  rcases h3 with h3 | ⟨j, e1, hj, hbj⟩
  ·exact .inl h3
  ·rcases aget_cons hj with ⟨rfl, rfl⟩ | ⟨_, hj⟩
   ·exact .inr ⟨j, _, hk, hbj⟩
   ·exact .inr ⟨j, e1, (aget_adel hj).2, hbj⟩
 have hok : EntOk (w.setRow (ρ k).1 cur') (liveO S.O ρ ((k, .box t (.d fr y :: ds'.map (.d true))) :: adel st k)) S.F ρ k (.box t (.d fr y :: ds'.map (.d true))) := by
  refine ⟨cur', setRow_heap w _ cur _ _ _ e1, by simp [h7, hlen], fun j p hp => ?_⟩
  cases j with
  | zero =>
   simp at hp
   subst hp
   obtain ⟨u, hu, h1c, hr⟩ := e3 0 (.d fr y) rfl
   refine ⟨u, by rw [h8]; exact hu, h1c, ?_⟩
   cases hr with
   | d _ _ _ hr =>
    exact .d _ _ _ (hr.step fun b hb hn => ⟨setRow_other w _ b _ fun ee => hn (.inr ⟨k, _, hk, ee⟩), fun h3 => hn (hlow b h3)⟩)
  | succ j =>
   simp only [List.getElem?_cons_succ, List.getElem?_map, Option.map_eq_some_iff] at hp
   obtain ⟨z, hz, rfl⟩ := hp
   obtain ⟨u, hu, h1c, g1, O1, hr⟩ := h9 j z hz
   have hfz := (List.all_eq_true.1 hflat) z (List.mem_of_getElem? hz)
   simp only [Bool.and_eq_true] at hfz
   exact ⟨u, hu, h1c, .d _ _ _ (RD.mk hr (D.flats_of_flat hfz.1))⟩
 have hrb : ∀ t' cs', Ent.box t (.d fr y :: ds'.map (.d true)) = .box t' cs' → ∀ j, PV.rgmL j cs' = true → aget st j = some .reg := by
  intro t' cs' he j hj
  exfalso
  cases he
  have key : ∀ l : List D, PV.rgmL j (l.map (.d true)) = false := by
   intro l
   induction l with
   | nil => rfl
   | cons z r ih => simp [PV.rgmL, PV.rgm, ih]
  simp [PV.rgmL, PV.rgm, key] at hj
 have hw1 := h.writeG k _ (.box t (.d fr y :: ds'.map (.d true))) hk (w' := w.setRow (ρ k).1 cur') rfl rfl rfl (by simp) (fun b _ hne => setRow_other w _ b _ fun ee => hne ee)
  (fun _ => Iff.rfl) (by simp) hrb hok (Nat.le_refl _)
 have hb : Bel (w.setRow (ρ k).1 cur').heap.size (w.setRow (ρ k).1 cur') w' := by
  refine ⟨⟨h1, h2, h3, by rw [hsz]; exact h4, fun b hb => ?_⟩, hdr⟩
  rw [hsz] at hb
  by_cases hbk : b = (ρ k).1
  ·rw [hbk, h6, setRow_heap w _ cur _ _ _ e1]
  ·rw [setRow_other w _ b _ hbk]
   exact h5 b hb hbk
 obtain ⟨ρ', hfin⟩ := call_in hw1 hd hb (by rw [hsz]; exact hres) hnew
 exact ⟨_, rfl, hK ρ' _ _ hfin⟩
theorem call_good (h : StR S ρ a w σ st) (hd : ∀ d, o.dst = some d → d < S.n) {oc : Orc} {f : Operand} {args : Array Operand} {ats : Array TypeId}
  (ho : o.op = .call { callee := .value f, args := args, argTypes := ats }) {dst : Nat} {c : PV} {ps : List PV} {vf : Value} (hvf : a.eval f = vf) (hf : RPs S ρ w st vf c)
  (hl : ps.length = args.size) (hx : ∀ (j : Nat) (x : Operand) (p : PV), args[j]? = some x → ps[j]? = some p → RPs S ρ w st (a.eval x) p)
  (hpre : ∀ r ∈ (callRun S.P oc dst st c ps).pre, r) (hnew : newOk σ st (callRun S.P oc dst st c ps).new = true) : Good S a w σ st o (callRun S.P oc dst st c ps) := by
 unfold callRun at hpre hnew ⊢
 cases hc : calleeOf c with
 | none => simp only [hc] at hpre; exact (bad_pre hpre).elim
 | some fc =>
 obtain ⟨g, fronts, caps⟩ := fc
 simp only [hc] at hpre hnew ⊢
 -- the callee
 have hcal : ∃ fv cv : List Value, vf = .func (.func g) fv.toArray cv.toArray ∧ fv.length = fronts.length ∧ cv.length = caps.length ∧
   (∀ (j : Nat) (v : Value) (p : PV), fv[j]? = some v → fronts[j]? = some p → RPs S ρ w st v p) ∧ ∀ (j : Nat) (v : Value) (p : PV), cv[j]? = some v → caps[j]? = some p → RPs S ρ w st v p := by
  cases c with
  | fn f' k cs =>
   simp only [calleeOf, Option.some.injEq, Prod.mk.injEq] at hc
   obtain ⟨rfl, rfl, rfl⟩ := hc
   cases hf with
   | fn _ _ vs _ hl hr => exact ⟨_, _, rfl, by simp [hl], by simp [hl], (get_cut hr k).1, (get_cut hr k).2⟩
  | d fr x =>
   cases x with
   | fn f' k cs =>
    simp only [calleeOf, Option.some.injEq, Prod.mk.injEq] at hc
    obtain ⟨rfl, rfl, rfl⟩ := hc
    have hf' := RPs.d_inv hf
    cases fr with
    | true =>
     cases hf' with
     | fn _ _ vs _ hl hr =>
      refine ⟨_, _, rfl, by simp [hl], by simp [hl], fun j v p hv hp => ?_, fun j v p hv hp => ?_⟩
      ·simp only [List.getElem?_map, Option.map_eq_some_iff] at hp
       obtain ⟨d, hd, rfl⟩ := hp
       exact .d _ _ _ ((get_cut hr k).1 j v d hv hd)
      ·simp only [List.getElem?_map, Option.map_eq_some_iff] at hp
       obtain ⟨d, hd, rfl⟩ := hp
       exact .d _ _ _ ((get_cut hr k).2 j v d hv hd)
    | false =>
     cases hf' with
     | fn _ _ vs _ hl hr =>
      refine ⟨_, _, rfl, by simp [hl], by simp [hl], fun j v p hv hp => ?_, fun j v p hv hp => ?_⟩
      ·simp only [List.getElem?_map, Option.map_eq_some_iff] at hp
       obtain ⟨d, hd, rfl⟩ := hp
       exact .d _ _ _ ((get_cut hr k).1 j v d hv hd)
      ·simp only [List.getElem?_map, Option.map_eq_some_iff] at hp
       obtain ⟨d, hd, rfl⟩ := hp
       exact .d _ _ _ ((get_cut hr k).2 j v d hv hd)
   | _ => simp [calleeOf] at hc
  | _ => simp [calleeOf] at hc
 obtain ⟨fv, cv, hvf', hfl, hcl, hfr, hcr⟩ := hcal
 let vs : List Value := fv ++ (args.toList.map a.eval ++ cv)
 have hvsl : vs.length = (fronts ++ (ps ++ caps)).length := by simp [vs, hl, hcl, hfl]
 have hvs : ∀ (j : Nat) (v : Value) (p : PV), vs[j]? = some v → (fronts ++ (ps ++ caps))[j]? = some p → RPs S ρ w st v p := by
  refine get_app hfl hfr (get_app (by simp [hl]) (fun j v p hv hp => ?_) hcr)
  simp only [List.getElem?_map, Option.map_eq_some_iff] at hv
  obtain ⟨x, hx1, rfl⟩ := hv
  exact hx j x p (by simpa using hx1) hp
 have hall : (∀ q ∈ snapL st (fronts ++ (ps ++ caps)), q) → All2 (R w.cell? S.O) vs ((fronts ++ (ps ++ caps)).map (snapV 4 st)) := by
  intro hsn
  refine ⟨by simpa using hvsl, fun j v d hv hd => ?_⟩
  simp only [List.getElem?_map, Option.map_eq_some_iff] at hd
  obtain ⟨p, hp, rfl⟩ := hd
  exact snap_ok h 4 v p (hvs j v p hv hp) (snapL_P st _ hsn p (List.mem_of_getElem? hp))
 have hob : ∀ b, S.O b → b < w.heap.size := fun b hb => Nat.lt_of_lt_of_le (h.ob b hb) h.frm.size
 have hexec : Body S.P g → (execOp a.eval o).run S.P w = .ok (.enter g vs.toArray) w := by
  intro hbody
  have e : fv.toArray ++ args.map a.eval ++ cv.toArray = vs.toArray := by
   apply Array.ext'
   simp [vs]
  have e2 : (execOp a.eval o) = callFunc g (fv.toArray ++ args.map a.eval ++ cv.toArray) := by
   simp only [execOp, ho, resolve, hvf, hvf', Deferred.ofValue, invoke]
   rfl
  rw [e2, e]
  exact hbody.run _ _
 have hwp : ∀ {K : Act → World → Prop} {Q : Exit → Act → World → Prop}, Body S.P g → Calls S.P g vs.toArray w (fun e w' => ∃ v, e = .returned v ∧ K (a.put o.dst v) w') → o.wp S.P a w K Q := by
  intro K Q hbody hcalls
  unfold Oper.wp
  rw [hexec hbody]
  refine Calls.mono hcalls fun e w' he => ?_
  obtain ⟨v, rfl, hk⟩ := he
  exact hk
 have main : ∀ {r : Res} {ds : List D} {pre : List Prop}, PC S.P g ds r → All2 (R w.cell? S.O) vs ds → newOk σ st (resNew dst 0 r.list) = true →
   Good S a w σ st o ⟨pre, resPV dst r, resNew dst 0 r.list, none, none⟩ := by
  intro r ds pre hpc hall hnew K Q hK
  refine hwp hpc.1 ((hpc.2 w S.O vs hob hall).mono fun e w' he => ?_)
  obtain ⟨v, rfl, hb, hres⟩ := he
  obtain ⟨ρ', h2⟩ := call_in h hd hb hres hnew
  exact ⟨v, rfl, hK ρ' _ _ h2⟩
 have mainG : ∀ {r : Res} {ds : List D} {pre : List Prop}, PC S.P g ds r → All2 (R w.cell? S.O) vs ds → newOk σ st [(dst, .reg)] = true →
   Good S a w σ st o ⟨pre, resPVG dst r, [(dst, .reg)], none, none⟩ := by
  intro r ds pre hpc hall hnew K Q hK
  refine hwp hpc.1 ((hpc.2 w S.O vs hob hall).mono fun e w' he => ?_)
  obtain ⟨v, rfl, hb, hres⟩ := he
  obtain ⟨ρ', h2⟩ := call_inG h hd hb hres hnew
  exact ⟨v, rfl, hK ρ' _ _ h2⟩
 cases oc with
 | callG cast r =>
  cases cast with
  | none =>
   simp only at hpre hnew ⊢
   exact mainG (hpre _ (by simp)) (hall fun q hq => hpre q (by simp [hq])) hnew
  | some ds' =>
   simp only at hpre hnew ⊢
   have hc1 : castL ((fronts ++ (ps ++ caps)).map (snapV 4 st)) ds' := hpre _ (by simp)
   obtain ⟨c1, c2⟩ := castL_get hc1
   have ha := hall fun q hq => hpre q (by simp [hq])
   refine mainG (hpre _ (by simp)) ⟨ha.1.trans c1, fun j v d hv hdj => ?_⟩ hnew
   have hjl : j < ((fronts ++ (ps ++ caps)).map (snapV 4 st)).length := by rw [c1]; exact (List.getElem?_eq_some_iff.1 hdj).1
   have hj2 := List.getElem?_eq_getElem hjl
   exact castD_ok (ha.2 j v _ hv hj2) (c2 j _ d hj2 hdj)
 | call cast r =>
  cases cast with
  | none =>
   simp only at hpre hnew ⊢
   exact main (hpre _ (by simp)) (hall fun q hq => hpre q (by simp [hq])) hnew
  | some ds' =>
   simp only at hpre hnew ⊢
   have hc1 : castL ((fronts ++ (ps ++ caps)).map (snapV 4 st)) ds' := hpre _ (by simp)
   obtain ⟨c1, c2⟩ := castL_get hc1
   have ha := hall fun q hq => hpre q (by simp [hq])
   refine main (hpre _ (by simp)) ⟨ha.1.trans c1, fun j v d hv hdj => ?_⟩ hnew
   have hjl : j < ((fronts ++ (ps ++ caps)).map (snapV 4 st)).length := by rw [c1]; exact (List.getElem?_eq_some_iff.1 hdj).1
   have hj2 := List.getElem?_eq_getElem hjl
   exact castD_ok (ha.2 j v _ hv hj2) (c2 j _ d hj2 hdj)
 | callS j x =>
  simp only at hpre hnew ⊢
  cases hj : (fronts ++ (ps ++ caps))[j]? with
  | none => simp only [hj] at hpre; exact (bad_pre hpre).elim
  | some p =>
   cases p with
   | d fr y =>
    cases fr with
    | true =>
     simp only [hj] at hpre ⊢
     have hpc : PCs S.P g ((fronts ++ (ps ++ caps)).map (snapV 4 st)) j x := hpre _ (by simp [Out.ok])
     have ha := hall fun q hq => hpre q (by simp [Out.ok, hq])
     intro K Q hK
     have hjl : j < vs.length := by rw [hvsl]; exact (List.getElem?_eq_some_iff.1 hj).1
     have hvj := List.getElem?_eq_getElem hjl
     have hrd : RD w (liveO S.O ρ st) S.F true vs[j] y := RPs.d_inv (hvs j _ _ hvj hj)
     refine hwp hpc.1 ((hpc.2 w S.O (fun b => liveO S.O ρ st b ∨ S.F b) vs vs[j] y hob (fun b hb => hb.elim (fun h1 => h.liveO_lt h1) fun h1 => Nat.lt_of_lt_of_le (S.fb b h1) h.frm.size) ha hvj (by simp only [List.getElem?_map, hj]; rfl) (R.mono hrd fun a z h1 h2 => ⟨h1, fun h3 => h3.elim (fun h4 => h2 (.inl (.inl h4))) h2⟩)).mono fun e w' he => ?_)
     obtain ⟨v, rfl, hb, hres⟩ := he
     exact ⟨v, rfl, hK ρ _ _ ((h.below hb).val o.dst v _ hd (.d _ _ _ (R.mono hres fun a z h1 h2 => ⟨h1, fun h3 => h2 (.inr h3)⟩)) (rgm_d _ _))⟩
    | false => simp only [hj] at hpre; exact (bad_pre hpre).elim
   | _ => simp only [hj] at hpre; exact (bad_pre hpre).elim
 | cell ds' r =>
  simp only at hpre hnew ⊢
  clear main mainG
  cases hall0 : fronts ++ (ps ++ caps) with
  | nil => simp only [hall0] at hpre; exact (bad_pre hpre).elim
  | cons p0 rest =>
  simp only [hall0] at hpre hnew ⊢
  split at hpre
  rotate_left
  ·exact (bad_pre hpre).elim
  rename_i k rest' heq
  cases heq
  simp only at hnew ⊢
  split at hpre
  rotate_left
  ·exact (bad_pre hpre).elim
  rename_i t fr y cs hk
  simp only [hk] at hnew ⊢
  split at hpre
  rotate_left
  ·exact (bad_pre hpre).elim
  rename_i ds hcs hflat
  simp only [hcs, hflat] at hnew ⊢
  have hpk : PK S.P g t y.unl ds ds' (rest.map (snapV 4 (adel st k))) r := hpre _ (by simp)
  have hsn : ∀ q ∈ snapL (adel st k) rest, q := fun q hq => hpre q (by simp [hq])
  rw [hall0] at hvsl hvs
  obtain ⟨v0, vr, hvr⟩ : ∃ v0 vr, vs = v0 :: vr := by
   cases hq : vs with
   | nil => rw [hq] at hvsl; simp at hvsl
   | cons v0 vr => exact ⟨v0, vr, rfl⟩
  have hv0 := hvs 0 v0 (.ptr k 0) (by rw [hvr]; rfl) rfl
  have hv : v0 = .pointer (some ⟨(ρ k).1, 0, none⟩) := by
   cases hv0
   rfl
  have hs := h.shutG hk (by simp)
  have hrest : All2 (R w.cell? (fun b => S.O b ∨ blk (.box t (.d fr y :: cs)) (ρ k) b)) vr (rest.map (snapV 4 (adel st k))) := by
   refine ⟨by rw [hvr] at hvsl; simpa using hvsl, fun j v d hv hd => ?_⟩
   simp only [List.getElem?_map, Option.map_eq_some_iff] at hd
   obtain ⟨p, hp, rfl⟩ := hd
   exact snap_ok hs 4 _ _ (h.shutRP hk (hvs (j + 1) v p (by rw [hvr]; exact hv) hp)) (snapL_P (adel st k) _ hsn _ (List.mem_of_getElem? hp))
  intro K Q hK
  refine hwp hpk.1 ?_
  rw [hvr, hv]
  have key : ∀ j, (PV.mentL j (.d fr y :: ds'.map (.d true))) = false := by
   intro j
   simp only [PV.mentL, PV.ment, Bool.false_or]
   exact mentL_map_d j true ds'
  have key2 : ∀ j, (Ent.box t (.d fr y :: ds'.map (.d true))).ment j = false := key
  exact cell_core h hd hk hcs hflat (newOk_put hk key2 hnew) hrest hpk hK
 | _ => exact (bad_pre hpre).elim
end Go.Proofs.Ytomnmacmlhkceaa
