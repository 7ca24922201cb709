/- The pure layer: calls that take own rows with them. No function of the program is named here. -/
import Derived.Test.YtomnmacmlhkceaaPm3
set_option linter.unusedVariables false
set_option linter.unusedSimpArgs false
namespace Go.Proofs.Ytomnmacmlhkceaa
open Go
variable {S : Setting} {ρ : Nat → Nm} {a : Act} {w : World} {σ : Env} {st : Store} {o : Oper} {all : Array Oper}
def ReOkN (w' : World) (N : Nat → Prop) (ρ : Nat → Nm) (Ob : Nat → Prop) (i : Nat) (v : Value) : Re → Prop
 | .d x => R (ucell w') (fun b => Ob b ∨ ¬ N b) v x
 | .own e m => (v = .slice (some ⟨(ρ i).1, 0, none⟩) m.len (ρ i).2 ∨ (v = .slice none 0 0 ∧ m.len = 0 ∧ (ρ i).2 = 0)) ∧ (0 < (ρ i).2 → N (ρ i).1) ∧
   ∃ cur : Array Value, (0 < (ρ i).2 → w'.heap[(ρ i).1]? = some (.cells cur e (0, 0))) ∧ (ρ i).2 ≤ maxLen ∧ cur.size = (ρ i).2 * m.width ∧ m.len ≤ (ρ i).2 ∧
    ∀ i c, i < m.len → c < m.width → ∃ v, cur[i * m.width + c]? = some v ∧ R (ucell w') (fun b => Ob b ∨ ¬ N b) v (m.get i c)
 | .mat e eo xss => (v = .slice (some ⟨(ρ i).1, 0, none⟩) xss.length (ρ i).2 ∨ (v = .slice none 0 0 ∧ xss.length = 0 ∧ (ρ i).2 = 0)) ∧ MatOk w' (ρ i) e eo xss none ∧ ∀ b, blk (.mat e eo xss none) (ρ i) b → N b ∧ b < w'.heap.size
def ResOkN (N : Nat → Prop) (w' : World) (v : Value) (r : Res) : Prop :=
 ∃ (ρ : Nat → Nm) (vs : List Value), v = r.value vs ∧ vs.length = r.list.length ∧
  (∀ i j x y e e' b, r.list[i]? = some x → r.list[j]? = some y → x.ent = some e → y.ent = some e' → blk e (ρ i) b → blk e' (ρ j) b → i = j) ∧
  ∀ (i : Nat) (v : Value) (x : Re), vs[i]? = some v → r.list[i]? = some x → ReOkN w' N ρ (ownB ρ r.list) i v x
structure Over (S : Setting) (ρ : Nat → Nm) (w w' : World) (st : Store) (L : List Nat) (M : Nat → Prop) : Prop where
 os : w'.os = w.os
 tape : w'.tape = w.tape
 output : w'.output = w.output
 size : w.heap.size ≤ w'.heap.size
 drawn : w.drawn ≤ w'.drawn
 block : ∀ b, b < w.heap.size → ¬ M b → w'.heap[b]? = w.heap[b]?
 mine : ∀ b, M b → ∃ k e, k ∈ L ∧ aget st k = some e ∧ blk e (ρ k) b
 noreg : ∀ k, k ∈ L → aget st k ≠ some .reg
 nozero : (0 : Nat) ∉ L
theorem StR.callN (h : StR S ρ a w σ st) {w' : World} {L : List Nat} {M : Nat → Prop} (hb : Over S ρ w w' st L M) {ρ' : Nat → Nm} {st' : Store}
  (hget : ∀ j e, aget st' j = some e → (aget st j = some e ∧ ρ' j = ρ j ∧ j ∉ L) ∨
   (aget st j = none ∧ (∀ b, blk e (ρ' j) b → (w.heap.size ≤ b ∨ M b) ∧ b < w'.heap.size) ∧ (∀ t cs, e ≠ .box t cs) ∧ EntOk w' (liveO S.O ρ' st') S.F ρ' j e))
  (hkeep : ∀ j e, aget st j = some e → j ∉ L → aget st' j = some e)
  (hinj : ∀ j j' e e', aget st j = none → aget st j' = none → aget st' j = some e → aget st' j' = some e' → ∀ b, blk e (ρ' j) b → blk e' (ρ' j') b → j = j')
  (hm : ∀ t p, aget (cutE L σ) t = some p → ∀ j, p.ment j = true → ρ' j = ρ j) (hme : ∀ t e, aget st t = some e → t ∉ L → ∀ j, e.ment j = true → ρ' j = ρ j) : StR S ρ' a w' (cutE L σ) st' := by
 have hMlive : ∀ b, M b → liveO S.O ρ st b := fun b hMb => by
  obtain ⟨k, e, _, hk, hbk⟩ := hb.mine b hMb
  exact .inr ⟨k, e, hk, hbk⟩
 have hother : ∀ j e, aget st j = some e → j ∉ L → ∀ b, blk e (ρ j) b → b < w.heap.size → w'.heap[b]? = w.heap[b]? := by
  intro j e hj hjL b hbj hlt
  refine hb.block b hlt fun hMb => ?_
  obtain ⟨k, e', hkL, hk, hbk⟩ := hb.mine b hMb
  exact hjL (h.inj j k e e' hj hk b hbj hbk ▸ hkL)
 have hlow : ∀ b, b < w.heap.size → ¬ liveO S.O ρ st b → ¬ liveO S.O ρ' st' b := by
  intro b hlt hn h3
  rcases h3 with h3 | ⟨j, e, hj, hbj⟩
  ·exact hn (.inl h3)
  ·rcases hget j e hj with ⟨h1, h2, _⟩ | ⟨_, h2, _⟩
   ·rw [h2] at hbj; exact hn (.inr ⟨j, e, h1, hbj⟩)
   ·rcases (h2 b hbj).1 with h4 | h4
    ·omega
    ·exact hn (hMlive b h4)
 have hk : ∀ b, b < w.heap.size → ¬ liveO S.O ρ st b → w'.heap[b]? = w.heap[b]? ∧ ¬ liveO S.O ρ' st' b := fun b hlt hn => ⟨hb.block b hlt fun hMb => hn (hMlive b hMb), hlow b hlt hn⟩
 have hMown : ∀ b, M b → b < w.heap.size ∧ ¬ S.O b ∧ (S.w0.heap.size ≤ b ∨ S.may b) := fun b hMb => by
  obtain ⟨k, e, _, hk, hbk⟩ := hb.mine b hMb
  exact h.own k e hk b hbk
 have hregL : ∀ j, aget st j = some .reg → j ∉ L := fun j hj hjL => hb.noreg j hjL hj
 have hreg : ∀ j, aget st j = some .reg → ∀ b, (ρ j).1 ≤ b → b < (ρ j).2 → b < w.heap.size → w'.heap[b]? = w.heap[b]? := fun j hj b h1 h2 h3 => hother j .reg hj (hregL j hj) b ⟨h1, h2⟩ h3
 refine ⟨h.sz, h.dfr, h.ob, fun j e he => ?_, fun j e he b hbj => ?_, fun j j' e e' h1 h2 b hb1 hb2 => ?_, fun t p hp => ?_, ?_, fun t p hp j hj => ?_, fun j t cs hj i hi => ?_, fun g hg => ?_⟩
 rotate_right
 ·obtain ⟨p1, t, cs, p2⟩ := h.pn g hg
  have p3 := hkeep 0 _ p2 hb.nozero
  rcases hget 0 _ p3 with ⟨_, h2, _⟩ | ⟨h2, _⟩
  ·exact ⟨by rw [h2]; exact p1, t, cs, p3⟩
  ·rw [p2] at h2; cases h2
 ·rcases hget j e he with ⟨h1, h2, h5⟩ | ⟨_, _, _, h3⟩
  ·refine (h.ents j e h1).step hb.size hk (hme j e h1 h5) h2 (fun b hbj hlt => hother j e h1 h5 b hbj hlt) fun t cs hcs i hi b q1 q2 q3 => ?_
   subst hcs
   exact hreg i (h.rb j t cs h1 i hi) b q1 q2 q3
  ·exact h3
 ·rcases hget j e he with ⟨h1, h2, _⟩ | ⟨_, h2, _⟩
  ·rw [h2] at hbj
   obtain ⟨x1, x2, x3⟩ := h.own j e h1 b hbj
   exact ⟨Nat.lt_of_lt_of_le x1 hb.size, x2, x3⟩
  ·obtain ⟨x1, x2⟩ := h2 b hbj
   have hs := h.frm.size
   rcases x1 with x1 | x1
   ·exact ⟨x2, fun ho => by have := h.ob b ho; omega, .inl (by omega)⟩
   ·exact ⟨x2, (hMown b x1).2⟩
 ·rcases hget j e h1 with ⟨g1, g2, g3⟩ | ⟨g0, g2, _⟩ <;> rcases hget j' e' h2 with ⟨k1, k2, k3⟩ | ⟨k0, k2, _⟩
  ·rw [g2] at hb1; rw [k2] at hb2; exact h.inj j j' e e' g1 k1 b hb1 hb2
  ·rw [g2] at hb1
   have q1 := (h.own j e g1 b hb1).1
   rcases (k2 b hb2).1 with q2 | q2
   ·omega
   ·obtain ⟨k, e2, hkL, hkk, hbk⟩ := hb.mine b q2
    exact (g3 (h.inj j k e e2 g1 hkk b hb1 hbk ▸ hkL)).elim
  ·rw [k2] at hb2
   have q1 := (h.own j' e' k1 b hb2).1
   rcases (g2 b hb1).1 with q2 | q2
   ·omega
   ·obtain ⟨k, e2, hkL, hkk, hbk⟩ := hb.mine b q2
    exact (k3 (h.inj j' k e' e2 k1 hkk b hb2 hbk ▸ hkL)).elim
  ·exact hinj j j' e e' g0 k0 h1 h2 b hb1 hb2
 ·obtain ⟨q, h1, h2⟩ := cutE_get hp
  refine ⟨(h.env t q h1).1, ?_⟩
  rcases h2 with ⟨hcl, rfl⟩ | rfl
  ·exact (h.env t p h1).2.step hk (hm t p hp) fun i hi b q1 q2 q3 => hreg i (h.rg t p h1 i hi) b q1 q2 q3
  ·exact .d _ _ _ (R.undef _)
 ·refine h.frm.trans hb.os hb.tape hb.output hb.size hb.drawn fun b h1 h2 => hb.block b (Nat.lt_of_lt_of_le h1 h.frm.size) fun hMb => ?_
  rcases (hMown b hMb).2.2 with h3 | h3
  ·omega
  ·exact h2 h3
 ·obtain ⟨q, h1, h2⟩ := cutE_get hp
  rcases h2 with ⟨hcl, rfl⟩ | rfl
  ·have hr := h.rg t p h1 j hj
   exact hkeep _ _ hr (hregL j hr)
  ·simp [PV.rgm] at hj
 ·rcases hget j _ hj with ⟨h1, _, _⟩ | ⟨_, _, h1, _⟩
  ·have hr := h.rb j t cs h1 i hi
   exact hkeep _ _ hr (hregL i hr)
  ·exact absurd rfl (h1 t cs)
theorem call_inN (h : StR S ρ a w σ st) (hd : ∀ d, o.dst = some d → d < S.n) {w' : World} {v : Value} {r : Res} {dst : Nat} {L : List Nat} {M : Nat → Prop} (hb : Over S ρ w w' st L M) (hr : ResOkN (fun b => w.heap.size ≤ b ∨ M b) w' v r) (hcl : cleanS L (cutS L st) = true)
  (hnew : newOk σ st (resNew dst 0 r.list) = true) (hmay : ∀ b, S.may b → ¬ S.F b) : ∃ ρ', StR S ρ' (a.put o.dst v) w' (eput (cutE L σ) o.dst (resPV dst r)) (resNew dst 0 r.list ++ cutS L st) := by
 obtain ⟨ρr, vs, hv, hl, hdis, hok⟩ := hr
 let ρ' : Nat → Nm := fun j => match newIx dst 0 r.list j with
  | some i => ρr i
  | none => ρ j
 have hold : ∀ j, (∀ e, (j, e) ∉ resNew dst 0 r.list) → ρ' j = ρ j := by
  intro j hj
  show (match newIx dst 0 r.list j with | some i => ρr i | none => ρ j) = ρ j
  cases hx : newIx dst 0 r.list j with
  | none => rfl
  | some i => obtain ⟨e, he⟩ := newIx_mem _ _ _ _ hx; exact absurd he (hj e)
 have hnewρ : ∀ i q e, r.list[i]? = some q → q.ent = some e → ρ' (oid dst i) = ρr i := by
  intro i q e hi he
  have := newIx_own (dst := dst) r.list 0 i q e hi he
  rw [Nat.zero_add] at this
  show (match newIx dst 0 r.list (oid dst i) with | some i => ρr i | none => ρ (oid dst i)) = ρr i
  rw [this]
 have hget : ∀ j e, aget (resNew dst 0 r.list ++ cutS L st) j = some e → (aget st j = some e ∧ j ∉ L ∧ ∀ e', (j, e') ∉ resNew dst 0 r.list) ∨ ∃ i q, r.list[i]? = some q ∧ q.ent = some e ∧ j = oid dst i := by
  intro j e hj
  rw [aget_append] at hj
  cases hx : aget (resNew dst 0 r.list) j with
  | none =>
   simp only [hx] at hj
   obtain ⟨q1, q2⟩ := cutS_get hj
   refine .inl ⟨q2, q1, fun e' he' => ?_⟩
   have := (newOk_mem hnew he').2
   rw [this] at q2; cases q2
  | some e1 =>
   simp only [hx, Option.some.injEq] at hj
   subst hj
   obtain ⟨i', q, g1, g2, g3, _⟩ := resNew_get _ _ _ _ hx
   exact .inr ⟨i', q, g1, g2, by simpa using g3⟩
 have hvlt : ∀ i q e b, r.list[i]? = some q → q.ent = some e → blk e (ρr i) b → (w.heap.size ≤ b ∨ M b) ∧ b < w'.heap.size := by
  intro i q e b hi he hbk
  have hil : i < vs.length := by rw [hl]; exact (List.getElem?_eq_some_iff.1 hi).1
  have hvi : vs[i]? = some vs[i] := List.getElem?_eq_getElem hil
  have hq := hok i _ _ hvi hi
  cases q with
  | d x => simp [Re.ent] at he
  | own e0 m =>
   simp only [Re.ent, Option.some.injEq] at he
   subst he
   obtain ⟨hb1, hpos⟩ := hbk
   obtain ⟨_, h2, cur, h3, _⟩ := hq
   rw [hb1]
   exact ⟨h2 hpos, (Array.getElem?_eq_some_iff.1 (h3 hpos)).1⟩
  | mat e0 eo xss =>
   simp only [Re.ent, Option.some.injEq] at he
   subst he
   exact hq.2.2 b hbk
 -- reading in the new memory
 have hlive : ∀ b, liveO S.O ρ' (resNew dst 0 r.list ++ cutS L st) b ∨ S.F b → ownB ρr r.list b ∨ ¬ (w.heap.size ≤ b ∨ M b) := by
  intro b hb'
  rcases hb' with (hb' | ⟨j, e, hj, hbj⟩) | hb'
  ·have h6 := h.ob b hb'
   have h7 := h.frm.size
   exact .inr fun h8 => by
    rcases h8 with h8 | h8
    ·omega
    ·obtain ⟨k, e2, _, hk, hbk⟩ := hb.mine b h8
     exact (h.own k e2 hk b hbk).2.1 hb'
  ·rcases hget j e hj with ⟨h1, h4, h2⟩ | ⟨i, q, h1, h3, h2⟩
   ·rw [hold j h2] at hbj
    refine .inr fun h8 => ?_
    rcases h8 with h8 | h8
    ·have := (h.own j e h1 b hbj).1; omega
    ·obtain ⟨k, e2, hkL, hk, hbk⟩ := hb.mine b h8
     exact h4 (h.inj j k e e2 h1 hk b hbj hbk ▸ hkL)
   ·subst h2
    rw [hnewρ i q e h1 h3] at hbj
    exact .inl ⟨i, q, e, h1, h3, hbj⟩
  ·have h6 := S.fb b hb'
   have h7 := h.frm.size
   refine .inr fun h8 => ?_
   rcases h8 with h8 | h8
   ·omega
   ·obtain ⟨k, e2, _, hk, hbk⟩ := hb.mine b h8
    rcases (h.own k e2 hk b hbk).2.2 with h9 | h9
    ·omega
    ·exact hmay b h9 hb'
 have hrd : ∀ {u : Value} {x : D}, R (ucell w') (fun b => ownB ρr r.list b ∨ ¬ (w.heap.size ≤ b ∨ M b)) u x → RD w' (liveO S.O ρ' (resNew dst 0 r.list ++ cutS L st)) S.F true u x := by
  intro u x hx
  exact hx.mono fun a v h1 h2 => ⟨h1, fun h3 => h2 (hlive _ h3)⟩
 have h2 : StR S ρ' a w' (cutE L σ) (resNew dst 0 r.list ++ cutS L st) := by
  refine h.callN hb (fun j e hj => ?_) (fun j e hj hjL => ?_) (fun j j' e e' n1 n2 g1 g2 b hb1 hb2 => ?_) (fun t p hp j hj => ?_) (fun t e he hte j hj => ?_)
  ·rcases hget j e hj with ⟨h1, h4, h2⟩ | ⟨i, q, h1, h3, h2⟩
   ·exact .inl ⟨h1, hold j h2, h4⟩
   ·subst h2
    have hmem : ∃ e, (oid dst i, e) ∈ resNew dst 0 r.list := by
     have := newIx_own (dst := dst) r.list 0 i q e h1 h3
     rw [Nat.zero_add] at this
     exact newIx_mem _ _ _ _ this
    obtain ⟨e', he⟩ := hmem
    have hρ := hnewρ i q e h1 h3
    have hil : i < vs.length := by rw [hl]; exact (List.getElem?_eq_some_iff.1 h1).1
    have hvi : vs[i]? = some vs[i] := List.getElem?_eq_getElem hil
    have hq := hok i _ _ hvi h1
    refine .inr ⟨(newOk_mem hnew he).2, fun b hbk => ?_, fun t cs ht => ?_, ?_⟩
    ·rw [hρ] at hbk
     exact hvlt i q e b h1 h3 hbk
    ·subst ht; cases q <;> simp [Re.ent] at h3
    ·cases q with
     | d x => simp [Re.ent] at h3
     | own e0 m =>
      simp only [Re.ent, Option.some.injEq] at h3
      subst h3
      obtain ⟨_, _, cur, q1, q2, q3, q4, q5⟩ := hq
      refine ⟨cur, by rw [hρ]; exact q1, by rw [hρ]; exact q2, by rw [hρ]; exact q3, by rw [hρ]; exact q4, fun i2 c hi2 hc => ?_⟩
      obtain ⟨u, u1, u2⟩ := q5 i2 c hi2 hc
      exact ⟨u, u1, hrd u2⟩
     | mat e0 eo xss =>
      simp only [Re.ent, Option.some.injEq] at h3
      subst h3
      rw [EntOk, hρ]
      exact hq.2.1
  ·rw [aget_append]
   cases hx : aget (resNew dst 0 r.list) j with
   | none => exact cutS_keep hjL hj
   | some e1 =>
    have := (newOk_mem hnew (aget_mem hx)).2
    rw [this] at hj; cases hj
  ·rcases hget j e g1 with ⟨h1, _, _⟩ | ⟨i, q, h1, h3, h2⟩
   ·rw [n1] at h1; cases h1
   rcases hget j' e' g2 with ⟨k1, _, _⟩ | ⟨i', q', k1, k3, k2⟩
   ·rw [n2] at k1; cases k1
   subst h2 k2
   rw [hnewρ i q e h1 h3] at hb1
   rw [hnewρ i' q' e' k1 k3] at hb2
   have : i = i' := hdis i i' q q' e e' b h1 k1 h3 k3 hb1 hb2
   rw [this]
  ·refine hold j fun e he => ?_
   obtain ⟨q, q1, q2⟩ := cutE_get hp
   rcases q2 with ⟨_, rfl⟩ | rfl
   ·have := unment_env (newOk_mem hnew he).1 q1
    rw [this] at hj; cases hj
   ·simp [PV.ment] at hj
  ·refine hold j fun e' he' => ?_
   have := unment_st (newOk_mem hnew he').1 he
   rw [this] at hj; cases hj
 have hone : ∀ (i : Nat) (u : Value) (p : PV), vs[i]? = some u → (resPVs dst 0 r.list)[i]? = some p → RP w' (liveO S.O ρ' (resNew dst 0 r.list ++ cutS L st)) S.F ρ' u p := by
  intro i u p hu hp
  obtain ⟨q, q1, q2⟩ := resPVs_get dst r.list 0 i p hp
  have := hok i u q hu q1
  cases q with
  | d x => rw [q2]; exact .d _ _ _ (hrd this)
  | own e m =>
   rw [q2, Nat.zero_add]
   exact RP.ofOwn (by rw [hnewρ i _ _ q1 rfl]; exact this.1)
  | mat e eo xss =>
   rw [q2, Nat.zero_add]
   exact RP.ofOwn (by rw [hnewρ i _ _ q1 rfl]; exact this.1)
 have hrg : ∀ (i : Nat) (p : PV), (resPVs dst 0 r.list)[i]? = some p → ∀ j, p.rgm j = false := by
  intro i p hp j
  obtain ⟨q, _, q2⟩ := resPVs_get dst r.list 0 i p hp
  cases q <;> (rw [q2]; rfl)
 refine ⟨ρ', h2.val o.dst v _ hd ?_ ?_⟩
 ·cases r with
  | one x =>
   have hvl : vs.length = 1 := hl
   have hv0 : vs[0]? = some vs[0] := List.getElem?_eq_getElem (by omega)
   have hvv : v = vs[0] := by rw [hv]; simp [Res.value, List.getD, hv0]
   rw [hvv]
   cases x with
   | d y => exact hone 0 _ _ hv0 rfl
   | own e m => exact hone 0 _ _ hv0 rfl
   | mat e eo xss => exact hone 0 _ _ hv0 rfl
  | tup rs =>
   have hvv : v = .tuple vs.toArray := hv
   rw [hvv]
   exact .tup vs _ (by rw [resPVs_len]; exact hl) hone
  | agg rs =>
   have hvv : v = .agg vs.toArray := hv
   rw [hvv]
   exact .agg vs _ (by rw [resPVs_len]; exact hl) hone
 ·intro j hj
  exfalso
  cases r with
  | one x => cases x <;> simp [resPV, resPVs, PV.rgm] at hj
  | tup rs =>
   simp only [resPV, PV.rgm] at hj
   rw [rgmL_none _ fun p hp => by obtain ⟨i, hi⟩ := List.mem_iff_getElem?.1 hp; exact hrg i p hi j] at hj
   cases hj
  | agg rs =>
   simp only [resPV, PV.rgm] at hj
   rw [rgmL_none _ fun p hp => by obtain ⟨i, hi⟩ := List.mem_iff_getElem?.1 hp; exact hrg i p hi j] at hj
   cases hj
def mvB (p1 p2 : Nm) (e eo : TypeId) (xss : List (List Int)) (b : Nat) : Prop := (b = p1.1 ∧ 0 < p1.2) ∨ blk (.mat e eo xss none) p2 b
def PKV (P : Program) (f : FuncId) (t : TypeId) (kx : D) (ds : List D) (e1 : TypeId) (xs : List Int) (e eo : TypeId) (xss : List (List Int)) (X : Ex) : Prop :=
 Body P f ∧ ∀ (w : World) (O : Nat → Prop) (g : Nat) (cur : Array Value) (p1 p2 : Nm) (v1 v2 : Value) (cu1 : Array Value),
  w.heap[g]? = some (.cells cur t (0, 0)) → cur.size = ds.length + 1 → (∀ b, O b → b < w.heap.size) → O g →
  (∀ (j : Nat) (x : D), (kx :: ds)[j]? = some x → ∃ u, cur[j]? = some u ∧ u.oneCell' = true ∧ R w.cell? O u x) →
  (v1 = .slice (some ⟨p1.1, 0, none⟩) xs.length p1.2 ∨ (v1 = .slice none 0 0 ∧ xs.length = 0 ∧ p1.2 = 0)) →
  (0 < p1.2 → w.heap[p1.1]? = some (.cells cu1 e1 (0, 0))) → p1.2 ≤ maxLen → cu1.size = p1.2 → xs.length ≤ p1.2 → (∀ i, i < xs.length → cu1[i]? = some (.int .i64 (xs.getD i 0))) →
  (v2 = .slice (some ⟨p2.1, 0, none⟩) xss.length p2.2 ∨ (v2 = .slice none 0 0 ∧ xss.length = 0 ∧ p2.2 = 0)) → MatOk w p2 e eo xss none →
  (∀ b, mvB p1 p2 e eo xss b → O b ∧ b ≠ g) → (∀ b, b = p1.1 ∧ 0 < p1.2 → ¬ blk (.mat e eo xss none) p2 b) →
  Calls P f [.pointer (some ⟨g, 0, none⟩), .agg [v1, v2].toArray].toArray w fun en w' => ∃ v, en = .returned v ∧
   w'.os = w.os ∧ w'.tape = w.tape ∧ w'.output = w.output ∧ w.heap.size ≤ w'.heap.size ∧ w.drawn ≤ w'.drawn ∧ (∀ b, b < w.heap.size → b ≠ g → ¬ mvB p1 p2 e eo xss b → w'.heap[b]? = w.heap[b]?) ∧
   ∃ x : X.γ, X.Q x ∧ (X.ds x).length = ds.length ∧ (∃ cur' : Array Value, w'.heap[g]? = some (.cells cur' t (0, 0)) ∧ cur'.size = ds.length + 1 ∧ cur'[0]? = cur[0]? ∧
    ∀ (j : Nat) (z : D), (X.ds x)[j]? = some z → ∃ u, cur'[j + 1]? = some u ∧ u.oneCell' = true ∧ ∃ g1 O1, R g1 O1 u z) ∧ ResOkN (fun b => w.heap.size ≤ b ∨ mvB p1 p2 e eo xss b) w' v (X.r x)
theorem cell_coreV (h : StR S ρ a w σ st) (hd : ∀ d, o.dst = some d → d < S.n) {f : FuncId} {ds : List D} {X : Ex} {d k : Nat} {t : TypeId} {fr : Bool} {y : D} {cs : List PV} {k1 k2 : Nat} {fr1 : Bool} {e1 : TypeId} {xs : List Int} {e eo : TypeId} {xss : List (List Int)} {v1 v2 : Value} {K : Act → World → Prop}
  (hk : aget st k = some (.box t (.d fr y :: cs))) (hcs : cellDs cs = some ds)
  (hk1 : aget st k1 = some (.arr fr1 e1 (.ints xs))) (hk2 : aget st k2 = some (.mat e eo xss none)) (hv1 : v1 = .slice (some ⟨(ρ k1).1, 0, none⟩) xs.length (ρ k1).2 ∨ (v1 = .slice none 0 0 ∧ xs.length = 0 ∧ (ρ k1).2 = 0))
  (hv2 : v2 = .slice (some ⟨(ρ k2).1, 0, none⟩) xss.length (ρ k2).2 ∨ (v2 = .slice none 0 0 ∧ xss.length = 0 ∧ (ρ k2).2 = 0)) (hmay : ∀ b, S.may b → ¬ S.F b) (hz1 : k1 ≠ 0) (hz2 : k2 ≠ 0) (hpk : PKV S.P f t y.unl ds e1 xs e eo xss X)
  (hK : ∀ x, X.Q x → flatDs (X.ds x) = true ∧ newOk σ ((k, .box t (.d fr y :: (X.ds x).map (.d true))) :: adel st k) (resNew d 0 (X.r x).list) = true ∧ cleanS [k1, k2] (cutS [k1, k2] ((k, .box t (.d fr y :: (X.ds x).map (.d true))) :: adel st k)) = true ∧
   ∀ ρ' a' w', StR S ρ' a' w' (eput (cutE [k1, k2] σ) o.dst (resPV d (X.r x))) (resNew d 0 (X.r x).list ++ cutS [k1, k2] ((k, .box t (.d fr y :: (X.ds x).map (.d true))) :: adel st k)) → K a' w') :
  Calls S.P f [.pointer (some ⟨(ρ k).1, 0, none⟩), .agg [v1, v2].toArray].toArray w (fun en w' => ∃ v, en = .returned v ∧ K (a.put o.dst v) w') := by
 obtain ⟨hcl, hcg⟩ := cellDs_get hcs
 obtain ⟨hbody, hcall⟩ := hpk
 have hk1k : k1 ≠ k := fun e9 => by rw [e9, hk] at hk1; cases hk1
 have hk2k : k2 ≠ k := fun e9 => by rw [e9, hk] at hk2; cases hk2
 have hk12 : k1 ≠ k2 := fun e9 => by rw [e9, hk2] at hk1; cases hk1
 have hM : ∀ b, mvB (ρ k1) (ρ k2) e eo xss b → ∃ j en, j ∈ [k1, k2] ∧ aget st j = some en ∧ blk en (ρ j) b := by
  intro b hb
  rcases hb with hb | hb
  ·exact ⟨k1, _, by simp, hk1, hb⟩
  ·exact ⟨k2, _, by simp, hk2, hb⟩
 have hMk : ∀ b, mvB (ρ k1) (ρ k2) e eo xss b → b ≠ (ρ k).1 := by
  intro b hb e9
  obtain ⟨j, en, hj, hje, hbj⟩ := hM b hb
  have := h.inj j k en _ hje hk b hbj (by rw [e9]; rfl)
  simp only [List.mem_cons, List.not_mem_nil, or_false] at hj
  rcases hj with rfl | rfl
  ·exact hk1k this
  ·exact hk2k this
 obtain ⟨cu1, a1, a2, a3, a4, a5⟩ := h.ents k1 _ hk1
 have a3 : cu1.size = (ρ k1).2 := by simpa [Mem.width] using a3
 have a4 : xs.length ≤ (ρ k1).2 := a4
 have hcell1 : ∀ i, i < xs.length → cu1[i]? = some (.int .i64 (xs.getD i 0)) := fun i hi => by
  obtain ⟨v, hv1, hv2⟩ := a5 i 0 hi (by simp [Mem.width])
  have : v = .int .i64 (xs.getD i 0) := hv2.int_inv
  rw [← this, ← hv1]
  simp [Mem.width]
 have hmat : MatOk w (ρ k2) e eo xss none := h.ents k2 _ hk2
 obtain ⟨cur, q1, e2, e3⟩ := h.ents k _ hk
 have e2 : cur.size = cs.length + 1 := by simpa using e2
 have hlt : (ρ k).1 < w.heap.size := (Array.getElem?_eq_some_iff.1 q1).1
 have := hcall w (fun b => S.O b ∨ b = (ρ k).1 ∨ mvB (ρ k1) (ρ k2) e eo xss b) (ρ k).1 cur (ρ k1) (ρ k2) v1 v2 cu1 q1 (by rw [e2, hcl]) (fun b hb => by
  rcases hb with hb | rfl | hb
  ·exact Nat.lt_of_lt_of_le (h.ob b hb) h.frm.size
  ·exact hlt
  ·obtain ⟨j, en, _, hje, hbj⟩ := hM b hb
   exact (h.own j en hje b hbj).1) (.inr (.inl rfl)) (fun j z hz => by
  cases j with
  | zero =>
   simp at hz
   subst hz
   obtain ⟨u, hu, h1c, hr⟩ := e3 0 (.d fr y) rfl
   refine ⟨u, hu, h1c, ?_⟩
   cases hr with
   | d _ _ _ hr =>
    exact R.unl (hr.plain.step fun b _ hb => ⟨rfl, fun ho => hb (by
     rcases ho with ho | ho | ho
     ·exact .inl ho
     ·exact .inr ⟨k, _, hk, ho⟩
     ·obtain ⟨j, en, _, hje, hbj⟩ := hM _ ho
      exact .inr ⟨j, en, hje, hbj⟩)⟩)
  | succ j =>
   obtain ⟨hfz, hcz, fr2, hj⟩ := hcg j z (by simpa using hz)
   obtain ⟨u, hu, h1c, hr⟩ := e3 (j + 1) (.d fr2 z) (by simpa using hj)
   refine ⟨u, hu, h1c, ?_⟩
   cases hr with
   | d _ _ _ hr => exact hr.plain.flat hfz) hv1 a1 a2 a3 a4 hcell1 hv2 hmat (fun b hb => ⟨.inr (.inr hb), hMk b hb⟩) (fun b hb1 hb2 => hk12 (h.inj k1 k2 _ _ hk1 hk2 b hb1 hb2))
 refine Calls.mono this fun en w' he => ?_
 obtain ⟨v, rfl, h1, h2, h3, h4, hdr, h5, x, hQ, hlen, ⟨cur', h6, h7, h8, h9⟩, hres⟩ := he
 obtain ⟨hflat, hnew, hcl9, hK⟩ := hK x hQ
 revert hflat hnew hK hlen h9 hres hcl9
 generalize X.ds x = ds'
 generalize X.r x = r
 intro hlen hres h9 hflat hnew hcl9 hK
 -- the world with the record alone turned
 have hsz : (w.setRow (ρ k).1 cur').heap.size = w.heap.size := by simp
 have hlow : ∀ b, liveO S.O ρ ((k, .box t (.d fr y :: ds'.map (.d true))) :: adel st k) b → liveO S.O ρ st b := by
  intro b h3
  rcases h3 with h3 | ⟨j, e9, hj, hbj⟩
  ·exact .inl h3
  ·rcases aget_cons hj with ⟨rfl, rfl⟩ | ⟨_, hj⟩
   ·exact .inr ⟨j, _, hk, hbj⟩
   ·exact .inr ⟨j, e9, (aget_adel hj).2, hbj⟩
 have hok : EntOk (w.setRow (ρ k).1 cur') (liveO S.O ρ ((k, .box t (.d fr y :: ds'.map (.d true))) :: adel st k)) S.F ρ k (.box t (.d fr y :: ds'.map (.d true))) := by
  refine ⟨cur', setRow_heap w _ cur _ _ _ q1, by simp [h7, hlen], fun j p hp => ?_⟩
  cases j with
  | zero =>
   simp at hp
   subst hp
   obtain ⟨u, hu, h1c, hr⟩ := e3 0 (.d fr y) rfl
   refine ⟨u, by rw [h8]; exact hu, h1c, ?_⟩
   cases hr with
   | d _ _ _ hr =>
    exact .d _ _ _ (hr.step fun b hb hn => ⟨setRow_other w _ b _ fun ee => hn (.inr ⟨k, _, hk, ee⟩), fun h3 => hn (hlow b h3)⟩)
  | succ j =>
   simp only [List.getElem?_cons_succ, List.getElem?_map, Option.map_eq_some_iff] at hp
   obtain ⟨z, hz, rfl⟩ := hp
   obtain ⟨u, hu, h1c, g1, O1, hr⟩ := h9 j z hz
   have hfz := (List.all_eq_true.1 hflat) z (List.mem_of_getElem? hz)
   simp only [Bool.and_eq_true] at hfz
   exact ⟨u, hu, h1c, .d _ _ _ (RD.mk hr (D.flats_of_flat hfz.1))⟩
 have hrb : ∀ t' cs', Ent.box t (.d fr y :: ds'.map (.d true)) = .box t' cs' → ∀ j, PV.rgmL j cs' = true → aget st j = some .reg := by
  intro t' cs' he j hj
  exfalso
  cases he
  have key : ∀ l : List D, PV.rgmL j (l.map (.d true)) = false := by
   intro l
   induction l with
   | nil => rfl
   | cons z r ih => simp [PV.rgmL, PV.rgm, ih]
  simp [PV.rgmL, PV.rgm, key] at hj
 have hw1 := h.writeG k _ (.box t (.d fr y :: ds'.map (.d true))) hk (w' := w.setRow (ρ k).1 cur') rfl rfl rfl (by simp) (fun b _ hne => setRow_other w _ b _ fun ee => hne ee)
  (fun _ => Iff.rfl) (by simp) hrb hok (Nat.le_refl _)
 have hb : Over S ρ (w.setRow (ρ k).1 cur') w' ((k, .box t (.d fr y :: ds'.map (.d true))) :: adel st k) [k1, k2] (mvB (ρ k1) (ρ k2) e eo xss) := by
  have g1 : aget ((k, Ent.box t (.d fr y :: ds'.map (.d true))) :: adel st k) k1 = some (.arr fr1 e1 (.ints xs)) := by rw [aget_cons_ne (Ne.symm hk1k), aget_adel_ne _ hk1k]; exact hk1
  have g2 : aget ((k, Ent.box t (.d fr y :: ds'.map (.d true))) :: adel st k) k2 = some (.mat e eo xss none) := by rw [aget_cons_ne (Ne.symm hk2k), aget_adel_ne _ hk2k]; exact hk2
  refine ⟨h1, h2, h3, by rw [hsz]; exact h4, hdr, fun b hb hbm => ?_, fun b hb => ?_, fun j hj => ?_, fun h0 => ?_⟩
  ·rw [hsz] at hb
   by_cases hbk : b = (ρ k).1
   ·rw [hbk, h6, setRow_heap w _ cur _ _ _ q1]
   ·rw [setRow_other w _ b _ hbk]
    exact h5 b hb hbk hbm
  ·rcases hb with hb | hb
   ·exact ⟨k1, _, by simp, g1, hb⟩
   ·exact ⟨k2, _, by simp, g2, hb⟩
  ·simp only [List.mem_cons, List.not_mem_nil, or_false] at hj
   rcases hj with rfl | rfl
   ·rw [g1]; simp
   ·rw [g2]; simp
  ·simp only [List.mem_cons, List.not_mem_nil, or_false] at h0
   rcases h0 with h0 | h0
   ·exact hz1 h0.symm
   ·exact hz2 h0.symm
 obtain ⟨ρ', hfin⟩ := call_inN hw1 hd hb (by rw [hsz]; exact hres) hcl9 hnew hmay
 exact ⟨_, rfl, hK ρ' _ _ hfin⟩
def andQ : List Prop → Prop → Prop
 | [], q => q
 | p :: r, q => p ∧ andQ r q
theorem andQ_ok : ∀ {l : List Prop} {q : Prop}, andQ l q → (∀ p ∈ l, p) ∧ q
 | [], _, h => ⟨by simp, h⟩
 | p :: r, q, h => by
  obtain ⟨h1, h2⟩ := h
  obtain ⟨h3, h4⟩ := andQ_ok h2
  refine ⟨fun x hx => ?_, h4⟩
  rcases List.mem_cons.1 hx with rfl | hx
  ·exact h1
  ·exact h3 x hx
def exStep (P : Program) (X : Ex) (o : Oper) (σ : Env) (st : Store) (next : X.γ → Env → Store → Prop) : Prop :=
 match o.guard, o.op with
 | none, .call c =>
  match c.callee, c.args.toList with
  | .value (.func f), l =>
   match X.kind, l with
   | 0, xs =>
    andQ (snapL st (xs.map (evP σ)) ++ [PE P f ((xs.map (evP σ)).map (snapV 4 st)) X])
     (X.all fun g => X.Q g → (newOk σ st (resNew (o.dst.getD 0) 0 (X.r g).list) = true ∧ next g (eput σ o.dst (resPV (o.dst.getD 0) (X.r g))) (resNew (o.dst.getD 0) 0 (X.r g).list ++ st)))
   | 1, x :: xs =>
    match evP σ x with
    | .ptr k 0 =>
     match aget st k with
     | some (.box t (.d fr y :: cs)) =>
      match cellDs cs with
      | some ds => andQ (snapL (adel st k) (xs.map (evP σ)) ++ [PKE P f t y.unl ds ((xs.map (evP σ)).map (snapV 4 (adel st k))) X])
        (X.all fun g => X.Q g → ((flatDs (X.ds g) && newOk σ ((k, .box t (.d fr y :: (X.ds g).map (.d true))) :: adel st k) (resNew (o.dst.getD 0) 0 (X.r g).list)) = true ∧
         next g (eput σ o.dst (resPV (o.dst.getD 0) (X.r g))) (resNew (o.dst.getD 0) 0 (X.r g).list ++ ((k, .box t (.d fr y :: (X.ds g).map (.d true))) :: adel st k))))
      | _ => False
     | _ => False
    | _ => False
   | 2, [x, z] =>
    match evP σ x, evP σ z with
    | .ptr k 0, .agg [.own k1 n1, .own k2 n2] =>
     match aget st k, aget st k1, aget st k2 with
     | some (.box t (.d fr y :: cs)), some (.arr fr1 e1 (.ints xs)), some (.mat e eo xss none) =>
      match cellDs cs, !Nat.beq k1 0 && !Nat.beq k2 0 with
      | some ds, true => n1 = xs.length ∧ n2 = xss.length ∧ PKV P f t y.unl ds e1 xs e eo xss X ∧
        (X.all fun g => X.Q g → ((flatDs (X.ds g) && newOk σ ((k, .box t (.d fr y :: (X.ds g).map (.d true))) :: adel st k) (resNew (o.dst.getD 0) 0 (X.r g).list) && cleanS [k1, k2] (cutS [k1, k2] ((k, .box t (.d fr y :: (X.ds g).map (.d true))) :: adel st k))) = true ∧
         next g (eput (cutE [k1, k2] σ) o.dst (resPV (o.dst.getD 0) (X.r g))) (resNew (o.dst.getD 0) 0 (X.r g).list ++ cutS [k1, k2] ((k, .box t (.d fr y :: (X.ds g).map (.d true))) :: adel st k))))
      | _, _ => False
     | _, _, _ => False
    | _, _ => False
   | _, _ => False
  | _, _ => False
 | _, _ => False
theorem exStep_wanted {P : Program} {X : Ex} {next : X.γ → Env → Store → Prop} (hp : exStep P X o σ st next) (a : Act) : Region.wanted o (yielded all a.tmps) = true := by
 unfold exStep at hp
 split at hp
 ·rename_i c hg ho
  simp [Region.wanted, hg]
 ·exact hp.elim
theorem exStep_good (h : StR S ρ a w σ st) (hd : ∀ d, o.dst = some d → d < S.n) {X : Ex} {next : X.γ → Env → Store → Prop} {K : Act → World → Prop} {Q : Exit → Act → World → Prop} (hp : exStep S.P X o σ st next)
  (hn : ∀ g ρ' a' w' σ' st', StR S ρ' a' w' σ' st' → next g σ' st' → K a' w') (hmay : ∀ b, S.may b → ¬ S.F b) : o.wp S.P a w K Q := by
 unfold exStep at hp
 split at hp
 rotate_left
 ·exact hp.elim
 rename_i c hg ho
 split at hp
 rotate_left
 ·exact hp.elim
 rename_i f hc
 split at hp
 ·
  obtain ⟨hl, hall⟩ := andQ_ok hp
  have hsn : ∀ q ∈ snapL st (c.args.toList.map (evP σ)), q := fun q hq => hl q (by simp [hq])
  obtain ⟨hbody, hcall⟩ : PE S.P f ((c.args.toList.map (evP σ)).map (snapV 4 st)) X := hl _ (by simp)
  have hrest : All2 (R w.cell? S.O) (c.args.toList.map a.eval) ((c.args.toList.map (evP σ)).map (snapV 4 st)) := by
   refine ⟨by simp, fun j v d hv hd => ?_⟩
   simp only [List.getElem?_map, Option.map_eq_some_iff] at hv hd
   obtain ⟨y, hy, rfl⟩ := hv
   obtain ⟨p, ⟨y', hy', rfl⟩, rfl⟩ := hd
   rw [hy] at hy'; cases hy'
   exact snap_ok h 4 _ _ (evP_ok h y) (snapL_P st _ hsn _ (List.mem_map_of_mem (List.mem_of_getElem? hy)))
  have := hcall w S.O (c.args.toList.map a.eval) (fun b hb => Nat.lt_of_lt_of_le (h.ob b hb) h.frm.size) hrest
  unfold Oper.wp
  rw [call_exec ho hc hbody]
  have ea : c.args.map a.eval = (c.args.toList.map a.eval).toArray := by rw [← Array.toList_map]
  rw [ea]
  refine Calls.mono this fun en w' he => ?_
  obtain ⟨v, rfl, hb, g, hQ, hres⟩ := he
  obtain ⟨hnew, hnx⟩ := X.allOk _ hall g hQ
  obtain ⟨ρ', hfin⟩ := call_in h hd hb hres hnew
  exact hn g ρ' _ _ _ _ hfin hnx
 ·
  rename_i x xs hX hargs0
  have hargs : c.args = (x :: xs).toArray := by rw [← hargs0]
  split at hp
  rotate_left
  ·exact hp.elim
  rename_i k hx1
  split at hp
  rotate_left
  ·exact hp.elim
  rename_i t fr y cs hk
  split at hp
  rotate_left
  ·exact hp.elim
  rename_i ds hcs
  obtain ⟨hl, hall⟩ := andQ_ok hp
  have hsn : ∀ p ∈ snapL (adel st k) (xs.map (evP σ)), p := fun p hq => hl p (List.mem_append_left _ hq)
  have hpk : PKE S.P f t y.unl ds ((xs.map (evP σ)).map (snapV 4 (adel st k))) X := hl _ (List.mem_append_right _ (List.mem_singleton.2 rfl))
  have hs := h.shutG hk (by simp)
  have hrest : All2 (R w.cell? (fun b => S.O b ∨ blk (.box t (.d fr y :: cs)) (ρ k) b)) (xs.map a.eval) ((xs.map (evP σ)).map (snapV 4 (adel st k))) := by
   refine ⟨by simp, fun j v d hv hd => ?_⟩
   simp only [List.getElem?_map, Option.map_eq_some_iff] at hv hd
   obtain ⟨y, hy, rfl⟩ := hv
   obtain ⟨p, ⟨y', hy', rfl⟩, rfl⟩ := hd
   rw [hy] at hy'; cases hy'
   exact snap_ok hs 4 _ _ (evP_ok hs y) (snapL_P (adel st k) _ hsn _ (List.mem_map_of_mem (List.mem_of_getElem? hy)))
  have hvx := evP_ok h x
  rw [hx1] at hvx
  have hv : a.eval x = .pointer (some ⟨(ρ k).1, 0, none⟩) := by
   revert hvx
   generalize a.eval x = u
   intro hvx
   cases hvx
   rfl
  unfold Oper.wp
  rw [call_exec ho hc hpk.1]
  have ea : c.args.map a.eval = (.pointer (some ⟨(ρ k).1, 0, none⟩) :: xs.map a.eval).toArray := by rw [hargs, ← hv]; simp
  rw [ea]
  refine Calls.mono (cell_coreE (d := o.dst.getD 0) h hd hk hcs hrest hpk (K := K) fun g hQ => ?_) fun en w' he => ?_
  ·obtain ⟨hb, hnx⟩ := X.allOk _ hall g hQ
   rw [Bool.and_eq_true] at hb
   exact ⟨hb.1, hb.2, fun ρ' a' w' hst => hn g ρ' a' w' _ _ hst hnx⟩
  ·obtain ⟨v, rfl, hv2⟩ := he
   exact hv2
 ·
  rename_i x z hX hargs0
  have hargs : c.args = #[x, z] := by rw [← hargs0]
  split at hp
  rotate_left
  ·exact hp.elim
  rename_i k k1 n1 k2 n2 hx1 hz1
  split at hp
  rotate_left
  ·exact hp.elim
  rename_i t fr y cs fr1 e1 xs e eo xss hk hk1 hk2
  split at hp
  rotate_left
  ·exact hp.elim
  rename_i ds hcs hz0
  simp only [Bool.and_eq_true, Bool.not_eq_true'] at hz0
  obtain ⟨hn1, hn2, hpk, hall⟩ := hp
  have hvx := evP_ok h x
  rw [hx1] at hvx
  have hv : a.eval x = .pointer (some ⟨(ρ k).1, 0, none⟩) := by
   revert hvx
   generalize a.eval x = u
   intro hvx
   cases hvx
   rfl
  have hvz := evP_ok h z
  rw [hz1] at hvz
  obtain ⟨v1, v2, hz, hv1, hv2⟩ : ∃ v1 v2, a.eval z = .agg [v1, v2].toArray ∧ (v1 = .slice (some ⟨(ρ k1).1, 0, none⟩) xs.length (ρ k1).2 ∨ (v1 = .slice none 0 0 ∧ xs.length = 0 ∧ (ρ k1).2 = 0)) ∧
    (v2 = .slice (some ⟨(ρ k2).1, 0, none⟩) xss.length (ρ k2).2 ∨ (v2 = .slice none 0 0 ∧ xss.length = 0 ∧ (ρ k2).2 = 0)) := by
   revert hvz
   generalize a.eval z = u
   intro hvz
   cases hvz with
   | agg vs _ hl hr =>
    match vs, hl with
    | [v1, v2], _ =>
     have r1 := (hr 0 v1 _ rfl rfl).own_inv
     have r2 := (hr 1 v2 _ rfl rfl).own_inv
     rw [hn1] at r1
     rw [hn2] at r2
     exact ⟨v1, v2, rfl, r1, r2⟩
  unfold Oper.wp
  rw [call_exec ho hc hpk.1]
  have ea : c.args.map a.eval = [.pointer (some ⟨(ρ k).1, 0, none⟩), .agg [v1, v2].toArray].toArray := by rw [hargs, ← hv, ← hz]; simp
  rw [ea]
  refine Calls.mono (cell_coreV (d := o.dst.getD 0) h hd hk hcs hk1 hk2 hv1 hv2 hmay (beq_false.1 hz0.1) (beq_false.1 hz0.2) hpk (K := K) fun g hQ => ?_) fun en w' he => ?_
  ·obtain ⟨hb, hnx⟩ := X.allOk _ hall g hQ
   simp only [Bool.and_eq_true] at hb
   exact ⟨hb.1.1, hb.1.2, hb.2, fun ρ' a' w' hst => hn g ρ' a' w' _ _ hst hnx⟩
  ·obtain ⟨v, rfl, hv2⟩ := he
   exact hv2
 ·exact hp.elim
end Go.Proofs.Ytomnmacmlhkceaa
