/- The pure layer, part M: calls by their contracts. No function of the program is named here. -/
import Derived.Test.YtomnmacmlhkceaaPl
set_option linter.unusedVariables false
set_option linter.unusedSimpArgs false
namespace Go.Proofs.Ytomnmacmlhkceaa
open Go

variable {S : Setting} {ρ : Nat → Nat × Nat} {a : Act} {w : World} {σ : Env} {st : Store} {o : Oper}

theorem oid_inj {dst i j : Nat} (h : oid dst i = oid dst j) : i = j := by unfold oid at h; omega

theorem resNew_get {dst : Nat} : ∀ (rs : List Re) (i j : Nat) (e : Ent), aget (resNew dst i rs) j = some e →
    ∃ i' e0 m, rs[i']? = some (.own e0 m) ∧ j = oid dst (i + i') ∧ e = .arr true e0 m ∧ newIx dst i rs j = some (i + i')
  | [], i, j, e, h => by simp [resNew, aget] at h
  | .d x :: r, i, j, e, h => by
    obtain ⟨i', e0, m, h1, h2, h3, h4⟩ := resNew_get r (i + 1) j e h
    exact ⟨i' + 1, e0, m, by simpa using h1, by rw [h2]; congr 1; omega, h3, by simp only [newIx]; rw [h4]; congr 1; omega⟩
  | .own e1 m1 :: r, i, j, e, h => by
    rcases aget_cons h with ⟨h1, h2⟩ | ⟨h1, h2⟩
    · exact ⟨0, e1, m1, rfl, by simpa using h1, h2, by simp [newIx, h1]⟩
    · obtain ⟨i', e0, m, g1, g2, g3, g4⟩ := resNew_get r (i + 1) j e h2
      exact ⟨i' + 1, e0, m, by simpa using g1, by rw [g2]; congr 1; omega, g3, by simp only [newIx, h1, if_false]; rw [g4]; congr 1; omega⟩

theorem newIx_mem {dst : Nat} : ∀ (rs : List Re) (i j k : Nat), newIx dst i rs j = some k → ∃ e, (j, e) ∈ resNew dst i rs
  | [], i, j, k, h => by simp [newIx] at h
  | .d x :: r, i, j, k, h => by simp only [newIx] at h; exact newIx_mem r (i + 1) j k h
  | .own e m :: r, i, j, k, h => by
    simp only [newIx] at h
    by_cases hj : j = oid dst i
    · subst hj; exact ⟨_, List.mem_cons_self⟩
    · rw [if_neg hj] at h
      obtain ⟨e', h'⟩ := newIx_mem r (i + 1) j k h
      exact ⟨e', List.mem_cons_of_mem _ h'⟩

theorem newIx_own {dst : Nat} : ∀ (rs : List Re) (i i' : Nat) (e : TypeId) (m : Mem), rs[i']? = some (.own e m) → newIx dst i rs (oid dst (i + i')) = some (i + i')
  | [], i, i', e, m, h => by simp at h
  | .d x :: r, i, i', e, m, h => by
    cases i' with
    | zero => simp at h
    | succ i' =>
      simp only [newIx]
      have := newIx_own (dst := dst) r (i + 1) i' e m (by simpa using h)
      rw [show i + 1 + i' = i + (i' + 1) by omega] at this
      exact this
  | .own e1 m1 :: r, i, i', e, m, h => by
    cases i' with
    | zero => simp [newIx]
    | succ i' =>
      simp only [newIx]
      have hne : ¬ oid dst (i + (i' + 1)) = oid dst i := fun hh => by have := oid_inj hh; omega
      rw [if_neg hne]
      have := newIx_own (dst := dst) r (i + 1) i' e m (by simpa using h)
      rw [show i + 1 + i' = i + (i' + 1) by omega] at this
      exact this

theorem aget_append {α : Type} : ∀ (l r : List (Nat × α)) (j : Nat), aget (l ++ r) j = match aget l j with
    | some e => some e
    | none => aget r j
  | [], r, j => rfl
  | (k, e) :: l, r, j => by
    by_cases h : k = j
    · subst h; simp only [List.cons_append, aget_cons_same]
    · simp only [List.cons_append, aget_cons_ne h]; exact aget_append l r j

theorem newOk_mem : ∀ {n : Store}, newOk σ st n = true → ∀ {k : Nat} {e : Ent}, (k, e) ∈ n → unment k σ st = true ∧ aget st k = none
  | (k0, e0) :: r, h, k, e, hm => by
    simp only [newOk, Bool.and_eq_true] at h
    rcases List.mem_cons.1 hm with hm | hm
    · cases hm
      refine ⟨h.1.1, ?_⟩
      have := h.1.2
      cases hk : aget st k0 with
      | none => rfl
      | some _ => simp [hk] at this
    · exact newOk_mem h.2 hm

theorem resPVs_get (dst : Nat) : ∀ (rs : List Re) (i j : Nat) (p : PV), (resPVs dst i rs)[j]? = some p → ∃ r, rs[j]? = some r ∧ p = (match r with
    | .d x => .d true x
    | .own _ m => .own (oid dst (i + j)) m.len)
  | [], i, j, p, h => by simp [resPVs] at h
  | .d x :: r, i, 0, p, h => by simp [resPVs] at h; exact ⟨_, rfl, h.symm⟩
  | .own e m :: r, i, 0, p, h => by simp [resPVs] at h; exact ⟨_, rfl, h.symm⟩
  | .d x :: r, i, j + 1, p, h => by
    simp [resPVs] at h
    obtain ⟨q, h1, h2⟩ := resPVs_get dst r (i + 1) j p h
    refine ⟨q, by simpa using h1, ?_⟩
    rw [h2]
    cases q with
    | d x => rfl
    | own e m => simp only; congr 2; omega
  | .own e m :: r, i, j + 1, p, h => by
    simp [resPVs] at h
    obtain ⟨q, h1, h2⟩ := resPVs_get dst r (i + 1) j p h
    refine ⟨q, by simpa using h1, ?_⟩
    rw [h2]
    cases q with
    | d x => rfl
    | own e m => simp only; congr 2; omega

theorem resPVs_len (dst : Nat) : ∀ (rs : List Re) (i : Nat), (resPVs dst i rs).length = rs.length
  | [], _ => rfl
  | .d _ :: r, i => by simp [resPVs, resPVs_len dst r (i + 1)]
  | .own _ _ :: r, i => by simp [resPVs, resPVs_len dst r (i + 1)]

/-- The results of a call, taken in. -/
theorem call_in (h : StR S ρ a w σ st) (hd : ∀ d, o.dst = some d → d < S.n) {w' : World} {v : Value} {r : Res} {dst : Nat} (hb : Bel w.heap.size w w') (hr : ResOk w.heap.size w' v r)
    (hnew : newOk σ st (resNew dst 0 r.list) = true) : ∃ ρ', StR S ρ' (a.put o.dst v) w' (eput σ o.dst (resPV dst r)) (resNew dst 0 r.list ++ st) := by
  obtain ⟨ρr, vs, hv, hl, hdis, hok⟩ := hr
  let ρ' : Nat → Nat × Nat := fun j => match newIx dst 0 r.list j with
    | some i => ρr i
    | none => ρ j
  have hold : ∀ j, (∀ e, (j, e) ∉ resNew dst 0 r.list) → ρ' j = ρ j := by
    intro j hj
    show (match newIx dst 0 r.list j with | some i => ρr i | none => ρ j) = ρ j
    cases hx : newIx dst 0 r.list j with
    | none => rfl
    | some i => obtain ⟨e, he⟩ := newIx_mem _ _ _ _ hx; exact absurd he (hj e)
  have hnewρ : ∀ i e m, r.list[i]? = some (.own e m) → ρ' (oid dst i) = ρr i := by
    intro i e m hi
    have := newIx_own (dst := dst) r.list 0 i e m hi
    rw [Nat.zero_add] at this
    show (match newIx dst 0 r.list (oid dst i) with | some i => ρr i | none => ρ (oid dst i)) = ρr i
    rw [this]
  have hget : ∀ j e, aget (resNew dst 0 r.list ++ st) j = some e → (aget st j = some e ∧ ∀ e', (j, e') ∉ resNew dst 0 r.list) ∨ ∃ i e0 m, r.list[i]? = some (.own e0 m) ∧ j = oid dst i ∧ e = .arr true e0 m := by
    intro j e hj
    rw [aget_append] at hj
    cases hx : aget (resNew dst 0 r.list) j with
    | none =>
      simp only [hx] at hj
      refine .inl ⟨hj, fun e' he' => ?_⟩
      have := (newOk_mem hnew he').2
      rw [this] at hj; cases hj
    | some e1 =>
      simp only [hx, Option.some.injEq] at hj
      subst hj
      obtain ⟨i', e0, m, g1, g2, g3, _⟩ := resNew_get _ _ _ _ hx
      exact .inr ⟨i', e0, m, g1, by simpa using g2, g3⟩
  have hvlt : ∀ i e m, r.list[i]? = some (.own e m) → 0 < (ρr i).2 → w.heap.size ≤ (ρr i).1 ∧ (ρr i).1 < w'.heap.size := by
    intro i e m hi hpos
    have hil : i < vs.length := by rw [hl]; exact (List.getElem?_eq_some_iff.1 hi).1
    have hvi : vs[i]? = some vs[i] := List.getElem?_eq_getElem hil
    obtain ⟨_, h2, cur, h3, _⟩ := hok i _ _ hvi hi
    exact ⟨h2 hpos, (Array.getElem?_eq_some_iff.1 (h3 hpos)).1⟩
  -- reading in the new memory
  have hlive : ∀ b, liveO S.O ρ' (resNew dst 0 r.list ++ st) b ∨ S.F b → ownB ρr r.list b ∨ b < w.heap.size := by
    intro b hb'
    rcases hb' with (hb' | ⟨j, e, hj, hbj⟩) | hb'
    · have := h.ob b hb'; have := h.frm.size; exact .inr (by omega)
    · rcases hget j e hj with ⟨h1, h2⟩ | ⟨i, e0, m, h1, h2, h3⟩
      · rw [hold j h2] at hbj
        exact .inr (h.own j e h1 b hbj).1
      · subst h2 h3
        rw [hnewρ i e0 m h1] at hbj
        exact .inl ⟨i, e0, m, h1, hbj⟩
    · have := S.fb b hb'; have := h.frm.size; exact .inr (by omega)
  have hrd : ∀ {u : Value} {x : D}, R (ucell w') (fun b => ownB ρr r.list b ∨ b < w.heap.size) u x → RD w' (liveO S.O ρ' (resNew dst 0 r.list ++ st)) S.F true u x := by
    intro u x hx
    exact hx.mono fun a v h1 h2 => ⟨h1, fun h3 => h2 (hlive _ h3)⟩
  have h2 : StR S ρ' a w' σ (resNew dst 0 r.list ++ st) := by
    refine h.call hb (fun j e hj => ?_) (fun j e hj => ?_) (fun j j' e e' n1 n2 g1 g2 b hb1 hb2 => ?_) (fun t p hp j hj => ?_) (fun t e he j hj => ?_)
    · rcases hget j e hj with ⟨h1, h2⟩ | ⟨i, e0, m, h1, h2, h3⟩
      · exact .inl ⟨h1, hold j h2⟩
      · subst h2 h3
        have hmem : ∃ e, (oid dst i, e) ∈ resNew dst 0 r.list := by
          have := newIx_own (dst := dst) r.list 0 i e0 m h1
          rw [Nat.zero_add] at this
          exact newIx_mem _ _ _ _ this
        obtain ⟨e, he⟩ := hmem
        refine .inr ⟨(newOk_mem hnew he).2, fun b hbk => ?_, (by simp), ?_⟩
        · rw [hnewρ i e0 m h1] at hbk
          have hbk' : b = (ρr i).1 ∧ 0 < (ρr i).2 := hbk
          rw [hbk'.1]; exact hvlt i e0 m h1 hbk'.2
        · have hil : i < vs.length := by rw [hl]; exact (List.getElem?_eq_some_iff.1 h1).1
          have hvi : vs[i]? = some vs[i] := List.getElem?_eq_getElem hil
          obtain ⟨_, _, cur, q1, q2, q3, q4, q5⟩ := hok i _ _ hvi h1
          refine ⟨cur, by rw [hnewρ i e0 m h1]; exact q1, by rw [hnewρ i e0 m h1]; exact q2, by rw [hnewρ i e0 m h1]; exact q3, by rw [hnewρ i e0 m h1]; exact q4, fun i2 c hi2 hc => ?_⟩
          obtain ⟨u, u1, u2⟩ := q5 i2 c hi2 hc
          exact ⟨u, u1, hrd u2⟩
    · rw [aget_append]
      cases hx : aget (resNew dst 0 r.list) j with
      | none => exact hj
      | some e1 =>
        have := (newOk_mem hnew (aget_mem hx)).2
        rw [this] at hj; cases hj
    · rcases hget j e g1 with ⟨h1, _⟩ | ⟨i, e0, m, h1, h2, h3⟩
      · rw [n1] at h1; cases h1
      rcases hget j' e' g2 with ⟨k1, _⟩ | ⟨i', e0', m', k1, k2, k3⟩
      · rw [n2] at k1; cases k1
      subst h2 h3 k2 k3
      rw [hnewρ i e0 m h1] at hb1
      rw [hnewρ i' e0' m' k1] at hb2
      have : i = i' := hdis i i' e0 m e0' m' h1 k1 hb1.2 hb2.2 (by have e1 : b = (ρr i).1 := hb1.1; have e2 : b = (ρr i').1 := hb2.1; rw [← e1, ← e2])
      rw [this]
    · refine hold j fun e he => ?_
      have := unment_env (newOk_mem hnew he).1 hp
      rw [this] at hj; cases hj
    · refine hold j fun e' he' => ?_
      have := unment_st (newOk_mem hnew he').1 he
      rw [this] at hj; cases hj
  have hone : ∀ (i : Nat) (u : Value) (p : PV), vs[i]? = some u → (resPVs dst 0 r.list)[i]? = some p → RP w' (liveO S.O ρ' (resNew dst 0 r.list ++ st)) S.F ρ' u p := by
    intro i u p hu hp
    obtain ⟨q, q1, q2⟩ := resPVs_get dst r.list 0 i p hp
    have := hok i u q hu q1
    cases q with
    | d x => rw [q2]; exact .d _ _ _ (hrd this)
    | own e m =>
      rw [q2, Nat.zero_add]
      obtain ⟨g1, _⟩ := this
      rcases g1 with g1 | ⟨g1, g2, g3⟩
      rotate_left
      · rw [g1]
        show RP _ _ _ _ _ (PV.own (oid dst i) m.len)
        rw [g2]
        exact .ownN _ (by rw [hnewρ i e m q1]; exact g3)
      rw [g1]
      have e1 := RP.own (w := w') (O := liveO S.O ρ' (resNew dst 0 r.list ++ st)) (base := S.F) (ρ := ρ') (oid dst i) m.len
      rw [hnewρ i e m q1] at e1
      exact e1
  have hrg : ∀ (i : Nat) (p : PV), (resPVs dst 0 r.list)[i]? = some p → ∀ j, p.rgm j = false := by
    intro i p hp j
    obtain ⟨q, _, q2⟩ := resPVs_get dst r.list 0 i p hp
    cases q <;> (rw [q2]; rfl)
  refine ⟨ρ', h2.val o.dst v _ hd ?_ ?_⟩
  · cases r with
    | one x =>
      have hvl : vs.length = 1 := hl
      have hv0 : vs[0]? = some vs[0] := List.getElem?_eq_getElem (by omega)
      have hvv : v = vs[0] := by rw [hv]; simp [Res.value, List.getD, hv0]
      rw [hvv]
      cases x with
      | d y => exact hone 0 _ _ hv0 rfl
      | own e m => exact hone 0 _ _ hv0 rfl
    | tup rs =>
      have hvv : v = .tuple vs.toArray := hv
      rw [hvv]
      exact .tup vs _ (by rw [resPVs_len]; exact hl) hone
  · intro j hj
    exfalso
    cases r with
    | one x => cases x <;> simp [resPV, resPVs, PV.rgm] at hj
    | tup rs =>
      simp only [resPV, PV.rgm] at hj
      have : ∀ l : List PV, (∀ p ∈ l, p.rgm j = false) → PV.rgmL j l = false := by
        intro l
        induction l with
        | nil => intro _; rfl
        | cons q r ih => intro hl; simp [PV.rgmL, hl q (by simp), ih fun p hp => hl p (by simp [hp])]
      rw [this _ fun p hp => by obtain ⟨i, hi⟩ := List.mem_iff_getElem?.1 hp; exact hrg i p hi j] at hj
      cases hj

/-- The results of a call, taken in as a region. -/
theorem call_inG (h : StR S ρ a w σ st) (hd : ∀ d, o.dst = some d → d < S.n) {w' : World} {v : Value} {r : Res} {dst : Nat} (hb : Bel w.heap.size w w') (hr : ResOk w.heap.size w' v r)
    (hnew : newOk σ st [(dst, .reg)] = true) : ∃ ρ', StR S ρ' (a.put o.dst v) w' (eput σ o.dst (resPVG dst r)) ((dst, .reg) :: st) := by
  obtain ⟨ρr, vs, hv, hl, _, hok⟩ := hr
  obtain ⟨n1, n2⟩ := newOk_one hnew
  have hne : ∀ j e, aget st j = some e → dst ≠ j := fun j e he ej => by rw [← ej, n2] at he; cases he
  have h2 : StR S (upd ρ dst (w.heap.size, w'.heap.size)) a w' σ ((dst, .reg) :: st) := by
    refine h.call hb (fun j e hj => ?_) (fun j e hj => ?_) (fun j j' e e' q1 q2 g1 g2 b _ _ => ?_) (fun t p hp j hj => ?_) (fun t e he j hj => ?_)
    · rcases aget_cons hj with ⟨hjd, he⟩ | ⟨hjd, hj⟩
      · subst hjd he
        refine .inr ⟨n2, fun b hbk => ?_, by simp, ?_⟩
        · rw [upd_same] at hbk; exact hbk
        · rw [EntOk, upd_same]; exact ⟨hb.size, Nat.le_refl _⟩
      · exact .inl ⟨hj, upd_ne ρ _ hjd⟩
    · rw [aget_cons_ne (hne j e hj)]; exact hj
    · rcases aget_cons g1 with ⟨e1, _⟩ | ⟨_, g1⟩
      · rcases aget_cons g2 with ⟨e2, _⟩ | ⟨_, g2⟩
        · rw [e1, e2]
        · rw [q2] at g2; cases g2
      · rw [q1] at g1; cases g1
    · exact upd_ne ρ _ fun e => by rw [e, unment_env n1 hp] at hj; cases hj
    · exact upd_ne ρ _ fun e => by rw [e, unment_st n1 he] at hj; cases hj
  have hone : ∀ (i : Nat) (u : Value) (x : Re), vs[i]? = some u → r.list[i]? = some x →
      RP w' (liveO S.O (upd ρ dst (w.heap.size, w'.heap.size)) ((dst, .reg) :: st)) S.F (upd ρ dst (w.heap.size, w'.heap.size)) u (rePVG dst x) := by
    intro i u x hu hx
    have hR := hok i u x hu hx
    cases x with
    | d y =>
      simp only [rePVG]
      cases hf : y.flats with
      | true => exact .d _ _ _ (RD.mk hR hf)
      | false =>
        refine .reg _ _ _ (R.mono hR fun ad z h1 h2 => ⟨h1, fun h3 => h3 ?_⟩)
        rw [upd_same]
        exact ⟨Nat.le_of_not_lt fun h4 => h2 (.inr h4), ucell_lt h1⟩
    | own e m =>
      simp only [rePVG]
      obtain ⟨g1, g2, cur, g3, g4, g5, g6, g7⟩ := hR
      have hin : ∀ ad z, ucell w' ad = some z → ¬ (ownB ρr r.list ad.block ∨ ad.block < w.heap.size) → ucell w' ad = some z ∧ ¬ ¬ ((upd ρ dst (w.heap.size, w'.heap.size) dst).1 ≤ ad.block ∧ ad.block < (upd ρ dst (w.heap.size, w'.heap.size) dst).2) := by
        intro ad z h1 h2
        refine ⟨h1, fun h3 => h3 ?_⟩
        rw [upd_same]
        exact ⟨Nat.le_of_not_lt fun h4 => h2 (.inr h4), ucell_lt h1⟩
      rcases g1 with g1 | ⟨g1, g1m, _⟩
      · rw [g1]
        refine .reg _ _ _ (.sl m ⟨(ρr i).1, 0, none⟩ m.len (ρr i).2 rfl ⟨g6, Nat.le_trans g6 g4⟩ (fun i2 c => cur.getD (i2 * m.width + c) undef) (fun i2 c hi hc => ?_) (fun i2 c hi hc => ?_))
        · have hpos : 0 < (ρr i).2 := by omega
          obtain ⟨z, hz, _⟩ := g7 i2 c hi hc
          have hval : w'.cell? ⟨(ρr i).1, i2 * m.width + c, none⟩ = some (cur.getD (i2 * m.width + c) undef) := by
            rw [cell_of_row w' _ _ _ _ _ (g3 hpos), hz]; simp [hz]
          rw [add_lit0]
          refine ⟨ucell_mk hval (frozen_of_row _ _ _ _ _ (g3 hpos)), fun h3 => h3 ?_⟩
          rw [upd_same]
          exact ⟨g2 hpos, (Array.getElem?_eq_some_iff.1 (g3 hpos)).1⟩
        · obtain ⟨z, hz, hr⟩ := g7 i2 c hi hc
          have e2 : cur.getD (i2 * m.width + c) undef = z := by simp [hz]
          rw [e2]
          exact R.mono hr hin
      · rw [g1]
        exact .reg _ _ _ (.slnil m g1m)
  have hrg1 : ∀ (x : Re) (j : Nat), (rePVG dst x).rgm j = true → aget ((dst, Ent.reg) :: st) j = some .reg := by
    intro x j hj
    have : Nat.beq dst j = true := by
      cases x with
      | d y =>
        simp only [rePVG] at hj
        cases hf : y.flats <;> simp only [hf, cond_true, cond_false, PV.rgm] at hj
        · exact hj
        · cases hj
      | own e m => exact hj
    have := beq_true.1 this
    subst this
    exact aget_cons_same _ _ _
  refine ⟨_, h2.val o.dst v _ hd ?_ ?_⟩
  · cases r with
    | one x =>
      have hvl : vs.length = 1 := hl
      have hv0 : vs[0]? = some vs[0] := List.getElem?_eq_getElem (by omega)
      have hvv : v = vs[0] := by rw [hv]; simp [Res.value, List.getD, hv0]
      rw [hvv]
      exact hone 0 _ x hv0 rfl
    | tup rs =>
      have hvv : v = .tuple vs.toArray := hv
      rw [hvv]
      have hl' : vs.length = rs.length := hl
      refine .tup vs _ (by simpa using hl') fun i u p hu hp => ?_
      simp only [List.getElem?_map, Option.map_eq_some_iff] at hp
      obtain ⟨x, hx, rfl⟩ := hp
      exact hone i u x hu hx
  · intro j hj
    cases r with
    | one x => exact hrg1 x j hj
    | tup rs =>
      simp only [resPVG, PV.rgm] at hj
      have : ∀ l : List Re, PV.rgmL j (l.map (rePVG dst)) = true → aget ((dst, Ent.reg) :: st) j = some .reg := by
        intro l
        induction l with
        | nil => intro h; simp [PV.rgmL] at h
        | cons q r ih =>
          intro h
          simp only [List.map_cons, PV.rgmL, Bool.or_eq_true] at h
          rcases h with h | h
          · exact hrg1 q j h
          · exact ih h
      exact this rs hj

theorem castD_ok {g : Addr → Option Value} {O : Nat → Prop} {v : Value} {x y : D} (h : R g O v x) (hc : castD x y) : R g O v y := by
  cases x with
  | nil =>
    cases y with
    | sl m => cases h; exact .slnil m hc
    | nil => exact h
    | _ => exact absurd hc (by simp [castD])
  | _ => simp only [castD] at hc; rw [← hc]; exact h

theorem castL_get : ∀ {xs ys : List D}, castL xs ys → xs.length = ys.length ∧ ∀ (j : Nat) (x y : D), xs[j]? = some x → ys[j]? = some y → castD x y
  | [], [], _ => ⟨rfl, fun j x y h => by simp at h⟩
  | x :: r, y :: s, h => by
    obtain ⟨h1, h2⟩ := castL_get (xs := r) (ys := s) h.2
    refine ⟨by simp [h1], fun j u v hu hv => ?_⟩
    cases j with
    | zero => simp at hu hv; subst hu hv; exact h.1
    | succ j => simp at hu hv; exact h2 j u v hu hv
  | [], _ :: _, h => by simp [castL] at h
  | _ :: _, [], h => by simp [castL] at h

theorem snapPs_P (st : Store) : ∀ (n : Nat) (p : PV), (∀ q ∈ snapPs n st p, q) → snapP n st p
  | 0, p, _ => trivial
  | n + 1, p, h => by
    have key : ∀ l : List PV, (∀ q ∈ l.foldr (fun q r => snapPs n st q ++ r) [], q) → l.foldr (fun q r => snapP n st q ∧ r) True := by
      intro l
      induction l with
      | nil => intro _; trivial
      | cons q r ih =>
        intro h
        simp only [List.foldr_cons] at h ⊢
        exact ⟨snapPs_P st n q fun x hx => h x (List.mem_append_left _ hx), ih fun x hx => h x (List.mem_append_right _ hx)⟩
    cases p with
    | own k len =>
      simp only [snapPs] at h
      simp only [snapP]
      cases hk : aget st k with
      | none => trivial
      | some e => cases e <;> first | trivial | (simp only [hk] at h; exact h _ (by simp))
    | ptr k c =>
      simp only [snapPs] at h
      simp only [snapP]
      cases hk : aget st k with
      | none => trivial
      | some e => cases e <;> first | trivial | (simp only [hk] at h; exact key _ h)
    | fn f k ps => simp only [snapPs] at h; exact key ps h
    | agg ps => simp only [snapPs] at h; exact key ps h
    | tup ps => simp only [snapPs] at h; exact key ps h
    | vw k len =>
      simp only [snapPs] at h
      simp only [snapP]
      cases hk : aget st k with
      | none => trivial
      | some e => cases e <;> first | trivial | (simp only [hk] at h; exact h _ (by simp))
    | _ => trivial

theorem snapL_P (st : Store) : ∀ (as : List PV), (∀ q ∈ snapL st as, q) → ∀ p ∈ as, snapP 4 st p
  | [], _, p, hp => by simp at hp
  | x :: r, h, p, hp => by
    simp only [snapL, List.foldr_cons] at h
    rcases List.mem_cons.1 hp with rfl | hp
    · exact snapPs_P st 4 p fun q hq => h q (List.mem_append_left _ hq)
    · exact snapL_P st r (fun q hq => h q (List.mem_append_right _ hq)) p hp

theorem get_app {α β : Type} {r : α → β → Prop} {us vs : List α} {ps qs : List β} (hl : us.length = ps.length) (h1 : ∀ (j : Nat) (v : α) (p : β), us[j]? = some v → ps[j]? = some p → r v p)
    (h2 : ∀ (j : Nat) (v : α) (p : β), vs[j]? = some v → qs[j]? = some p → r v p) : ∀ (j : Nat) (v : α) (p : β), (us ++ vs)[j]? = some v → (ps ++ qs)[j]? = some p → r v p := by
  intro j v p hv hp
  by_cases hj : j < ps.length
  · rw [List.getElem?_append_left hj] at hp
    rw [List.getElem?_append_left (by omega)] at hv
    exact h1 j v p hv hp
  · rw [List.getElem?_append_right (by omega)] at hp
    rw [List.getElem?_append_right (by omega)] at hv
    exact h2 (j - ps.length) v p (by rw [← hl]; exact hv) hp

theorem get_cut {α β : Type} {r : α → β → Prop} {us : List α} {ps : List β} (h1 : ∀ (j : Nat) (v : α) (p : β), us[j]? = some v → ps[j]? = some p → r v p) (k : Nat) :
    (∀ (j : Nat) (v : α) (p : β), (us.take k)[j]? = some v → (ps.take k)[j]? = some p → r v p) ∧ ∀ (j : Nat) (v : α) (p : β), (us.drop k)[j]? = some v → (ps.drop k)[j]? = some p → r v p := by
  refine ⟨fun j v p hv hp => ?_, fun j v p hv hp => ?_⟩
  · rw [List.getElem?_take] at hv hp
    split at hv
    · rename_i hlt
      rw [if_pos hlt] at hp
      exact h1 j v p hv hp
    · cases hv
  · rw [List.getElem?_drop] at hv hp
    exact h1 _ v p hv hp

/-- A call by its contract. -/
theorem call_good (h : StR S ρ a w σ st) (hd : ∀ d, o.dst = some d → d < S.n) {oc : Orc} {f : Operand} {args : Array Operand} {ats : Array TypeId}
    (ho : o.op = .call { callee := .value f, args := args, argTypes := ats }) {dst : Nat} {c : PV} {ps : List PV} {vf : Value} (hvf : a.eval f = vf) (hf : RPs S ρ w st vf c)
    (hl : ps.length = args.size) (hx : ∀ (j : Nat) (x : Operand) (p : PV), args[j]? = some x → ps[j]? = some p → RPs S ρ w st (a.eval x) p)
    (hpre : ∀ r ∈ (callRun S.P oc dst st c ps).pre, r) (hnew : newOk σ st (callRun S.P oc dst st c ps).new = true) : Good S a w σ st o (callRun S.P oc dst st c ps) := by
  unfold callRun at hpre hnew ⊢
  cases hc : calleeOf c with
  | none => simp only [hc] at hpre; exact (bad_pre hpre).elim
  | some fc =>
  obtain ⟨g, fronts, caps⟩ := fc
  simp only [hc] at hpre hnew ⊢
  -- the callee
  have hcal : ∃ fv cv : List Value, vf = .func (.func g) fv.toArray cv.toArray ∧ fv.length = fronts.length ∧ cv.length = caps.length ∧
      (∀ (j : Nat) (v : Value) (p : PV), fv[j]? = some v → fronts[j]? = some p → RPs S ρ w st v p) ∧ ∀ (j : Nat) (v : Value) (p : PV), cv[j]? = some v → caps[j]? = some p → RPs S ρ w st v p := by
    cases c with
    | fn f' k cs =>
      simp only [calleeOf, Option.some.injEq, Prod.mk.injEq] at hc
      obtain ⟨rfl, rfl, rfl⟩ := hc
      cases hf with
      | fn _ _ vs _ hl hr => exact ⟨_, _, rfl, by simp [hl], by simp [hl], (get_cut hr k).1, (get_cut hr k).2⟩
    | d fr x =>
      cases x with
      | fn f' k cs =>
        simp only [calleeOf, Option.some.injEq, Prod.mk.injEq] at hc
        obtain ⟨rfl, rfl, rfl⟩ := hc
        have hf' := RPs.d_inv hf
        cases fr with
        | true =>
          cases hf' with
          | fn _ _ vs _ hl hr =>
            refine ⟨_, _, rfl, by simp [hl], by simp [hl], fun j v p hv hp => ?_, fun j v p hv hp => ?_⟩
            · simp only [List.getElem?_map, Option.map_eq_some_iff] at hp
              obtain ⟨d, hd, rfl⟩ := hp
              exact .d _ _ _ ((get_cut hr k).1 j v d hv hd)
            · simp only [List.getElem?_map, Option.map_eq_some_iff] at hp
              obtain ⟨d, hd, rfl⟩ := hp
              exact .d _ _ _ ((get_cut hr k).2 j v d hv hd)
        | false =>
          cases hf' with
          | fn _ _ vs _ hl hr =>
            refine ⟨_, _, rfl, by simp [hl], by simp [hl], fun j v p hv hp => ?_, fun j v p hv hp => ?_⟩
            · simp only [List.getElem?_map, Option.map_eq_some_iff] at hp
              obtain ⟨d, hd, rfl⟩ := hp
              exact .d _ _ _ ((get_cut hr k).1 j v d hv hd)
            · simp only [List.getElem?_map, Option.map_eq_some_iff] at hp
              obtain ⟨d, hd, rfl⟩ := hp
              exact .d _ _ _ ((get_cut hr k).2 j v d hv hd)
      | _ => simp [calleeOf] at hc
    | _ => simp [calleeOf] at hc
  obtain ⟨fv, cv, hvf', hfl, hcl, hfr, hcr⟩ := hcal
  let vs : List Value := fv ++ (args.toList.map a.eval ++ cv)
  have hvsl : vs.length = (fronts ++ (ps ++ caps)).length := by simp [vs, hl, hcl, hfl]
  have hvs : ∀ (j : Nat) (v : Value) (p : PV), vs[j]? = some v → (fronts ++ (ps ++ caps))[j]? = some p → RPs S ρ w st v p := by
    refine get_app hfl hfr (get_app (by simp [hl]) (fun j v p hv hp => ?_) hcr)
    simp only [List.getElem?_map, Option.map_eq_some_iff] at hv
    obtain ⟨x, hx1, rfl⟩ := hv
    exact hx j x p (by simpa using hx1) hp
  have hall : (∀ q ∈ snapL st (fronts ++ (ps ++ caps)), q) → All2 (R w.cell? S.O) vs ((fronts ++ (ps ++ caps)).map (snapV 4 st)) := by
    intro hsn
    refine ⟨by simpa using hvsl, fun j v d hv hd => ?_⟩
    simp only [List.getElem?_map, Option.map_eq_some_iff] at hd
    obtain ⟨p, hp, rfl⟩ := hd
    exact snap_ok h 4 v p (hvs j v p hv hp) (snapL_P st _ hsn p (List.mem_of_getElem? hp))
  have hob : ∀ b, S.O b → b < w.heap.size := fun b hb => Nat.lt_of_lt_of_le (h.ob b hb) h.frm.size
  have hexec : Body S.P g → (execOp a.eval o).run S.P w = .ok (.enter g vs.toArray) w := by
    intro hbody
    have e : fv.toArray ++ args.map a.eval ++ cv.toArray = vs.toArray := by
      apply Array.ext'
      simp [vs]
    have e2 : (execOp a.eval o) = callFunc g (fv.toArray ++ args.map a.eval ++ cv.toArray) := by
      simp only [execOp, ho, resolve, hvf, hvf', Deferred.ofValue, invoke]
      rfl
    rw [e2, e]
    exact hbody.run _ _
  have hwp : ∀ {K : Act → World → Prop} {Q : Exit → Act → World → Prop}, Body S.P g → Calls S.P g vs.toArray w (fun e w' => ∃ v, e = .returned v ∧ K (a.put o.dst v) w') → o.wp S.P a w K Q := by
    intro K Q hbody hcalls
    unfold Oper.wp
    rw [hexec hbody]
    refine Calls.mono hcalls fun e w' he => ?_
    obtain ⟨v, rfl, hk⟩ := he
    exact hk
  have main : ∀ {r : Res} {ds : List D} {pre : List Prop}, PC S.P g ds r → All2 (R w.cell? S.O) vs ds → newOk σ st (resNew dst 0 r.list) = true →
      Good S a w σ st o ⟨pre, resPV dst r, resNew dst 0 r.list, none, none⟩ := by
    intro r ds pre hpc hall hnew K Q hK
    refine hwp hpc.1 ((hpc.2 w S.O vs hob hall).mono fun e w' he => ?_)
    obtain ⟨v, rfl, hb, hres⟩ := he
    obtain ⟨ρ', h2⟩ := call_in h hd hb hres hnew
    exact ⟨v, rfl, hK ρ' _ _ h2⟩
  have mainG : ∀ {r : Res} {ds : List D} {pre : List Prop}, PC S.P g ds r → All2 (R w.cell? S.O) vs ds → newOk σ st [(dst, .reg)] = true →
      Good S a w σ st o ⟨pre, resPVG dst r, [(dst, .reg)], none, none⟩ := by
    intro r ds pre hpc hall hnew K Q hK
    refine hwp hpc.1 ((hpc.2 w S.O vs hob hall).mono fun e w' he => ?_)
    obtain ⟨v, rfl, hb, hres⟩ := he
    obtain ⟨ρ', h2⟩ := call_inG h hd hb hres hnew
    exact ⟨v, rfl, hK ρ' _ _ h2⟩
  cases oc with
  | callG cast r =>
    cases cast with
    | none =>
      simp only at hpre hnew ⊢
      exact mainG (hpre _ (by simp)) (hall fun q hq => hpre q (by simp [hq])) hnew
    | some ds' =>
      simp only at hpre hnew ⊢
      have hc1 : castL ((fronts ++ (ps ++ caps)).map (snapV 4 st)) ds' := hpre _ (by simp)
      obtain ⟨c1, c2⟩ := castL_get hc1
      have ha := hall fun q hq => hpre q (by simp [hq])
      refine mainG (hpre _ (by simp)) ⟨ha.1.trans c1, fun j v d hv hdj => ?_⟩ hnew
      have hjl : j < ((fronts ++ (ps ++ caps)).map (snapV 4 st)).length := by rw [c1]; exact (List.getElem?_eq_some_iff.1 hdj).1
      have hj2 := List.getElem?_eq_getElem hjl
      exact castD_ok (ha.2 j v _ hv hj2) (c2 j _ d hj2 hdj)
  | call cast r =>
    cases cast with
    | none =>
      simp only at hpre hnew ⊢
      exact main (hpre _ (by simp)) (hall fun q hq => hpre q (by simp [hq])) hnew
    | some ds' =>
      simp only at hpre hnew ⊢
      have hc1 : castL ((fronts ++ (ps ++ caps)).map (snapV 4 st)) ds' := hpre _ (by simp)
      obtain ⟨c1, c2⟩ := castL_get hc1
      have ha := hall fun q hq => hpre q (by simp [hq])
      refine main (hpre _ (by simp)) ⟨ha.1.trans c1, fun j v d hv hdj => ?_⟩ hnew
      have hjl : j < ((fronts ++ (ps ++ caps)).map (snapV 4 st)).length := by rw [c1]; exact (List.getElem?_eq_some_iff.1 hdj).1
      have hj2 := List.getElem?_eq_getElem hjl
      exact castD_ok (ha.2 j v _ hv hj2) (c2 j _ d hj2 hdj)
  | callS j x =>
    simp only at hpre hnew ⊢
    cases hj : (fronts ++ (ps ++ caps))[j]? with
    | none => simp only [hj] at hpre; exact (bad_pre hpre).elim
    | some p =>
      cases p with
      | d fr y =>
        cases fr with
        | true =>
          simp only [hj] at hpre ⊢
          have hpc : PCs S.P g ((fronts ++ (ps ++ caps)).map (snapV 4 st)) j x := hpre _ (by simp [Out.ok])
          have ha := hall fun q hq => hpre q (by simp [Out.ok, hq])
          intro K Q hK
          have hjl : j < vs.length := by rw [hvsl]; exact (List.getElem?_eq_some_iff.1 hj).1
          have hvj := List.getElem?_eq_getElem hjl
          have hrd : RD w (liveO S.O ρ st) S.F true vs[j] y := RPs.d_inv (hvs j _ _ hvj hj)
          refine hwp hpc.1 ((hpc.2 w S.O (fun b => liveO S.O ρ st b ∨ S.F b) vs vs[j] y hob (fun b hb => hb.elim (fun h1 => h.liveO_lt h1) fun h1 => Nat.lt_of_lt_of_le (S.fb b h1) h.frm.size) ha hvj (by simp only [List.getElem?_map, hj]; rfl) (R.mono hrd fun a z h1 h2 => ⟨h1, fun h3 => h3.elim (fun h4 => h2 (.inl (.inl h4))) h2⟩)).mono fun e w' he => ?_)
          obtain ⟨v, rfl, hb, hres⟩ := he
          exact ⟨v, rfl, hK ρ _ _ ((h.below hb).val o.dst v _ hd (.d _ _ _ (R.mono hres fun a z h1 h2 => ⟨h1, fun h3 => h2 (.inr h3)⟩)) (rgm_d _ _))⟩
        | false => simp only [hj] at hpre; exact (bad_pre hpre).elim
      | _ => simp only [hj] at hpre; exact (bad_pre hpre).elim
  | _ => exact (bad_pre hpre).elim
end Go.Proofs.Ytomnmacmlhkceaa
