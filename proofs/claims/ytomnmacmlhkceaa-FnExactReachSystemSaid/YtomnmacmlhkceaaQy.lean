/- The pure layer, part Y: regions whose order is drawn, second part: what any order leaves. No function of the program is named here. -/
import Derived.Test.YtomnmacmlhkceaaQx
set_option linter.unusedVariables false
set_option linter.unusedSimpArgs false
namespace Go.Proofs.Ytomnmacmlhkceaa
open Go
variable {S : Setting} {ρ : Nat → Nm} {a : Act} {w : World} {σ σ' : Env} {st st' : Store} {all : Array Oper}
structure SD where
 o : Oper
 σ : Env
 st : Store
 out : Out
def SD.put (d : SD) (s : Env × Store) : Env × Store := (eput s.1 d.o.dst d.out.val, d.out.app s.2)
def stepsOf (P : Program) (all : Array Oper) (oc : Nat → Oper → Env → Store → Orc) : Nat → List Oper → Env → Store → List SD
 | _, [], _, _ => []
 | i, o :: r, σ, st => ⟨o, σ, st, opStep P all (oc i o σ st) o σ st⟩ ::
   stepsOf P all oc (i + 1) r (eput σ o.dst (opStep P all (oc i o σ st) o σ st).val) ((opStep P all (oc i o σ st) o σ st).app st)
def foldL (L : Nat → Bool) : Nat → List SD → Env × Store → Env × Store
 | _, [], s => s
 | i, d :: r, s => foldL L (i + 1) r (match L i with
  | true => d.put s
  | false => s)
structure Same (s s' : Env × Store) : Prop where
 e : ∀ t, aget s.1 t = aget s'.1 t
 s : ∀ k, aget s.2 k = aget s'.2 k
theorem Same.refl (s : Env × Store) : Same s s := ⟨fun _ => rfl, fun _ => rfl⟩
theorem Same.trans {s s' s'' : Env × Store} (h : Same s s') (k : Same s' s'') : Same s s'' := ⟨fun t => (h.e t).trans (k.e t), fun t => (h.s t).trans (k.s t)⟩
theorem Same.symm {s s' : Env × Store} (h : Same s s') : Same s' s := ⟨fun t => (h.e t).symm, fun t => (h.s t).symm⟩
def Out.touch (out : Out) : List Nat := out.new.map (·.1) ++ out.dead.toList ++ (out.up.map (·.1)).toList
def Out.seen (out : Out) (k : Nat) (x : Option Ent) : Option Ent :=
 match aget out.new k with
 | some e => some e
 | none => match out.up with
  | some (j, e) => if j = k then some e else if out.dead = some k then none else x
  | none => if out.dead = some k then none else x
theorem aget_app (out : Out) (st : Store) (k : Nat) : aget (out.app st) k = out.seen k (aget st k) := by
 unfold Out.app Out.seen
 simp only
 rw [aget_append]
 cases aget out.new k with
 | some e => rfl
 | none =>
  simp only
  have hd : aget (match out.dead with | some k => adel st k | none => st) k = if out.dead = some k then none else aget st k := by
   cases hdd : out.dead with
   | none => simp
   | some j =>
    simp only [Option.some.injEq]
    by_cases e : j = k
    ·rw [if_pos e, e, aget_adel_same]
    ·rw [if_neg e, aget_adel_ne st (Ne.symm e)]
  cases hu : out.up with
  | none => exact hd
  | some je =>
   obtain ⟨j, e⟩ := je
   simp only
   by_cases hj : j = k
   ·rw [if_pos hj, hj, aget_cons_same]
   ·rw [if_neg hj, aget_cons_ne hj, aget_adel_ne _ (Ne.symm hj)]
    exact hd
theorem aget_none_of {α : Type} : ∀ {l : List (Nat × α)} {k : Nat}, k ∉ l.map (·.1) → aget l k = none
 | [], _, _ => rfl
 | (j, p) :: r, k, h => by
  have : j ≠ k := fun e => h (by simp [e])
  rw [aget_cons_ne this]
  exact aget_none_of fun hm => h (by simp only [List.map_cons]; exact List.mem_cons_of_mem _ hm)
theorem seen_skip {out : Out} {k : Nat} (h : k ∉ out.touch) (x : Option Ent) : out.seen k x = x := by
 simp only [Out.touch, List.mem_append, not_or] at h
 obtain ⟨⟨h1, h2⟩, h3⟩ := h
 unfold Out.seen
 rw [aget_none_of h1]
 simp only
 have hd : ¬ out.dead = some k := fun e => h2 (by rw [e]; simp)
 cases hu : out.up with
 | none => simp only; rw [if_neg hd]
 | some je =>
  obtain ⟨j, e⟩ := je
  have : j ≠ k := fun ej => h3 (by rw [hu]; simp [ej])
  simp only
  rw [if_neg this, if_neg hd]
theorem put_e (d : SD) (s : Env × Store) (t : Nat) : aget (d.put s).1 t = if d.o.dst = some t then some d.out.val else aget s.1 t := by
 unfold SD.put eput
 cases hd : d.o.dst with
 | none => simp
 | some j =>
  simp only [Option.some.injEq]
  by_cases e : j = t
  ·rw [if_pos e, e, aget_cons_same]
  ·rw [if_neg e, aget_cons_ne e]
theorem put_s (d : SD) (s : Env × Store) (k : Nat) : aget (d.put s).2 k = d.out.seen k (aget s.2 k) := aget_app _ _ _
theorem Same.put {s s' : Env × Store} (h : Same s s') (d : SD) : Same (d.put s) (d.put s') :=
 ⟨fun t => by rw [put_e, put_e, h.e t], fun k => by rw [put_s, put_s, h.s k]⟩
theorem Same.fold {L : Nat → Bool} : ∀ (ds : List SD) (i : Nat) {s s' : Env × Store}, Same s s' → Same (foldL L i ds s) (foldL L i ds s')
 | [], _, _, _, h => h
 | d :: r, i, s, s', h => by
  simp only [foldL]
  refine Same.fold r (i + 1) ?_
  cases L i with
  | true => exact h.put d
  | false => exact h
structure Apart (x y : SD) : Prop where
 slot : ∀ t, x.o.dst = some t → y.o.dst ≠ some t
 name : ∀ k, k ∈ x.out.touch → k ∉ y.out.touch
theorem put_comm {x y : SD} (h : Apart x y) (s : Env × Store) : Same (x.put (y.put s)) (y.put (x.put s)) := by
 refine ⟨fun t => ?_, fun k => ?_⟩
 ·rw [put_e, put_e, put_e, put_e]
  by_cases h1 : x.o.dst = some t
  ·rw [if_pos h1, if_neg (h.slot t h1), if_pos h1]
  ·rw [if_neg h1, if_neg h1]
 ·rw [put_s, put_s, put_s, put_s]
  by_cases h1 : k ∈ x.out.touch
  ·rw [seen_skip (h.name k h1), seen_skip (h.name k h1)]
  ·rw [seen_skip h1, seen_skip h1]
theorem fold_put {L : Nat → Bool} {x : SD} : ∀ (ds : List SD) (i : Nat) (s : Env × Store), (∀ j d, ds[j]? = some d → L (i + j) = true → Apart x d) → Same (foldL L i ds (x.put s)) (x.put (foldL L i ds s))
 | [], _, s, _ => Same.refl _
 | d :: r, i, s, h => by
  simp only [foldL]
  have hr : ∀ j d', r[j]? = some d' → L (i + 1 + j) = true → Apart x d' := fun j d' hd hL => h (j + 1) d' (by simpa using hd) (by rw [← Nat.add_assoc, Nat.add_right_comm]; exact hL)
  cases hL : L i with
  | false => exact fold_put r (i + 1) s hr
  | true =>
   simp only
   have hx : Apart x d := h 0 d rfl (by simpa using hL)
   have hsw : Same (d.put (x.put s)) (x.put (d.put s)) := (put_comm hx s).symm
   exact (Same.fold r (i + 1) hsw).trans (fold_put r (i + 1) (d.put s) hr)
theorem fold_insert {L : Nat → Bool} {x : SD} {n : Nat} (hn : L n = false) : ∀ (ds : List SD) (i : Nat) (s : Env × Store), i ≤ n → ds[n - i]? = some x → (∀ j d, ds[j]? = some d → n < i + j → L (i + j) = true → Apart x d) →
  Same (foldL (fun j => L j || Nat.beq j n) i ds s) (x.put (foldL L i ds s))
 | [], i, s, _, hx, _ => by simp at hx
 | d :: r, i, s, hin, hx, h => by
  simp only [foldL]
  by_cases e : i = n
  ·subst e
   simp only [Nat.sub_self, List.getElem?_cons_zero, Option.some.injEq] at hx
   subst hx
   rw [hn, beq_self]
   simp only [Bool.or_true]
   have e2 : foldL (fun j => L j || Nat.beq j i) (i + 1) r (d.put s) = foldL L (i + 1) r (d.put s) := by
    have key : ∀ (ds : List SD) (k : Nat) (s : Env × Store), i < k → foldL (fun j => L j || Nat.beq j i) k ds s = foldL L k ds s := by
     intro ds
     induction ds with
     | nil => intro k s _; rfl
     | cons d' r' ih =>
      intro k s hk
      simp only [foldL]
      have hb : Nat.beq k i = false := beq_false.2 (by omega)
      rw [hb, Bool.or_false]
      exact ih (k + 1) _ (by omega)
    exact key r (i + 1) _ (Nat.lt_succ_self _)
   rw [e2]
   exact fold_put r (i + 1) s fun j d' hd hL => h (j + 1) d' (by simpa using hd) (by omega) (by rw [← Nat.add_assoc, Nat.add_right_comm]; exact hL)
  ·have hb : Nat.beq i n = false := beq_false.2 e
   rw [hb, Bool.or_false]
   have hx' : r[n - (i + 1)]? = some x := by
    have e3 : n - i = (n - (i + 1)) + 1 := by omega
    rw [e3] at hx
    simpa using hx
   exact fold_insert hn r (i + 1) _ (by omega) hx' fun j d' hd hlt hL => h (j + 1) d' (by simpa using hd) (by omega) (by rw [← Nat.add_assoc, Nat.add_right_comm]; exact hL)
theorem fold_e {L L' : Nat → Bool} {t : Nat} : ∀ (ds : List SD) (i : Nat) (s s' : Env × Store), aget s.1 t = aget s'.1 t → (∀ j d, ds[j]? = some d → L (i + j) ≠ L' (i + j) → d.o.dst ≠ some t) →
  aget (foldL L i ds s).1 t = aget (foldL L' i ds s').1 t
 | [], _, _, _, h, _ => h
 | d :: r, i, s, s', h, hd => by
  simp only [foldL]
  refine fold_e r (i + 1) _ _ ?_ fun j d' hj hL => hd (j + 1) d' (by simpa using hj) (by rw [← Nat.add_assoc, Nat.add_right_comm]; exact hL)
  have h0 := hd 0 d rfl
  rw [Nat.add_zero] at h0
  cases hL : L i <;> cases hL' : L' i
  ·exact h
  ·simp only; rw [put_e, if_neg (h0 (by rw [hL, hL']; simp))]; exact h
  ·simp only; rw [put_e, if_neg (h0 (by rw [hL, hL']; simp))]; exact h
  ·simp only; rw [put_e, put_e, h]
theorem fold_s {L L' : Nat → Bool} {k : Nat} : ∀ (ds : List SD) (i : Nat) (s s' : Env × Store), aget s.2 k = aget s'.2 k → (∀ j d, ds[j]? = some d → L (i + j) ≠ L' (i + j) → k ∉ d.out.touch) →
  aget (foldL L i ds s).2 k = aget (foldL L' i ds s').2 k
 | [], _, _, _, h, _ => h
 | d :: r, i, s, s', h, hd => by
  simp only [foldL]
  refine fold_s r (i + 1) _ _ ?_ fun j d' hj hL => hd (j + 1) d' (by simpa using hj) (by rw [← Nat.add_assoc, Nat.add_right_comm]; exact hL)
  have h0 := hd 0 d rfl
  rw [Nat.add_zero] at h0
  cases hL : L i <;> cases hL' : L' i
  ·exact h
  ·simp only; rw [put_s, seen_skip (h0 (by rw [hL, hL']; simp))]; exact h
  ·simp only; rw [put_s, seen_skip (h0 (by rw [hL, hL']; simp))]; exact h
  ·simp only; rw [put_s, put_s, h]
end Go.Proofs.Ytomnmacmlhkceaa
