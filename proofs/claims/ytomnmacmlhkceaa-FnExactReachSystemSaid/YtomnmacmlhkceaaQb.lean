/- The pure layer, part B: what a frame's slots and the memory that a call owns hold, as plain data. No function of the program is named here. -/
import Derived.Test.YtomnmacmlhkceaaQa
set_option linter.unusedVariables false
set_option linter.unusedSimpArgs false
namespace Go.Proofs.Ytomnmacmlhkceaa
open Go
inductive PV where
 | d (fr : Bool) (x : D)
 | own (k n : Nat)
 | ptr (k c : Nat)
 | eadr (k wd i c : Nat)
 | fn (f : FuncId) (k : Nat) (cs : List PV)
 | agg (cs : List PV)
 | tup (cs : List PV)
 | opt (g : Bool) (p : PV)
 | reg (k : Nat) (x : D)
 | vw (k n : Nat)
 | rw (k i n : Nat)
 | radr (k i c : Nat)
inductive Ent where
 | arr (fr : Bool) (e : TypeId) (m : Mem)
 | box (t : TypeId) (cs : List PV)
 | reg
 | vw (xs : List Int)
 | mat (e eo : TypeId) (xss : List (List Int)) (hole : Option Nat)
structure Nm where
 fst : Nat
 snd : Nat
 rows : Nat → Nat × Nat
abbrev nm (a b : Nat) : Nm := ⟨a, b, fun _ => (0, 0)⟩
def aget {α : Type} : List (Nat × α) → Nat → Option α
 | [], _ => none
 | (k, p) :: r, t => bif Nat.beq k t then some p else aget r t
def adel {α : Type} : List (Nat × α) → Nat → List (Nat × α)
 | [], _ => []
 | (k, p) :: r, t => bif Nat.beq k t then adel r t else (k, p) :: adel r t
theorem beq_true {a b : Nat} : Nat.beq a b = true ↔ a = b := by rw [Nat.beq_eq]
theorem beq_false {a b : Nat} : Nat.beq a b = false ↔ a ≠ b := by
 constructor
 ·intro h e
  rw [beq_true.2 e] at h
  cases h
 ·intro h
  cases hb : Nat.beq a b with
  | true => exact absurd (beq_true.1 hb) h
  | false => rfl
theorem beq_self (a : Nat) : Nat.beq a a = true := beq_true.2 rfl
theorem aget_cons_same {α : Type} (k : Nat) (p : α) (r : List (Nat × α)) : aget ((k, p) :: r) k = some p := by
 simp [aget, beq_self]
theorem aget_cons_ne {α : Type} {k t : Nat} (h : k ≠ t) (p : α) (r : List (Nat × α)) : aget ((k, p) :: r) t = aget r t := by
 simp [aget, beq_false.2 h]
theorem aget_cons {α : Type} {k t : Nat} {p q : α} {r : List (Nat × α)} (h : aget ((k, p) :: r) t = some q) : (t = k ∧ q = p) ∨ (t ≠ k ∧ aget r t = some q) := by
 by_cases e : k = t
 ·subst e; rw [aget_cons_same] at h; cases h; exact .inl ⟨rfl, rfl⟩
 ·rw [aget_cons_ne e] at h; exact .inr ⟨fun h => e h.symm, h⟩
theorem aget_adel_same {α : Type} (l : List (Nat × α)) (k : Nat) : aget (adel l k) k = none := by
 induction l with
 | nil => rfl
 | cons x r ih =>
  obtain ⟨j, p⟩ := x
  by_cases e : j = k
  ·subst e; simp [adel, beq_self, ih]
  ·simp [adel, beq_false.2 e, aget, ih]
theorem aget_adel_ne {α : Type} (l : List (Nat × α)) {k t : Nat} (h : t ≠ k) : aget (adel l k) t = aget l t := by
 induction l with
 | nil => rfl
 | cons x r ih =>
  obtain ⟨j, p⟩ := x
  by_cases e : j = k
  ·subst e; simp [adel, beq_self, ih, aget, beq_false.2 (Ne.symm h)]
  ·by_cases e2 : j = t
   ·subst e2; simp [adel, beq_false.2 e, aget, beq_self]
   ·simp [adel, beq_false.2 e, aget, beq_false.2 e2, ih]
theorem mem_adel {α : Type} {k : Nat} {x : Nat × α} : ∀ {l : List (Nat × α)}, x ∈ adel l k → x ∈ l
 | (j, e) :: r, h => by
  simp only [adel] at h
  cases hb : Nat.beq j k with
  | true => rw [hb] at h; exact List.mem_cons_of_mem _ (mem_adel h)
  | false =>
   rw [hb] at h
   rcases List.mem_cons.1 h with rfl | h
   ·exact List.mem_cons_self
   ·exact List.mem_cons_of_mem _ (mem_adel h)
theorem aget_adel {α : Type} {l : List (Nat × α)} {k t : Nat} {p : α} (h : aget (adel l k) t = some p) : t ≠ k ∧ aget l t = some p := by
 by_cases e : t = k
 ·subst e; rw [aget_adel_same] at h; cases h
 ·rw [aget_adel_ne l e] at h; exact ⟨e, h⟩
theorem adel_adel {α : Type} (l : List (Nat × α)) (k : Nat) : adel (adel l k) k = adel l k := by
 induction l with
 | nil => rfl
 | cons x r ih =>
  obtain ⟨j, p⟩ := x
  by_cases e : j = k
  ·subst e; simp [adel, beq_self, ih]
  ·simp [adel, beq_false.2 e, ih]
mutual
def PV.ment (k : Nat) : PV → Bool
 | .d _ _ => false
 | .own j _ => Nat.beq j k
 | .ptr j _ => Nat.beq j k
 | .eadr j _ _ _ => Nat.beq j k
 | .fn _ _ cs => PV.mentL k cs
 | .agg cs => PV.mentL k cs
 | .tup cs => PV.mentL k cs
 | .opt _ p => PV.ment k p
 | .reg j _ => Nat.beq j k
 | .vw j _ => Nat.beq j k
 | .rw j _ _ => Nat.beq j k
 | .radr j _ _ => Nat.beq j k
def PV.mentL (k : Nat) : List PV → Bool
 | [] => false
 | p :: r => PV.ment k p || PV.mentL k r
end
theorem PV.mentL_mem {k : Nat} : ∀ {cs : List PV} {j : Nat} {p : PV}, cs[j]? = some p → p.ment k = true → PV.mentL k cs = true
 | [], _, _, h, _ => by simp at h
 | q :: r, 0, p, h, hm => by simp at h; subst h; simp [PV.mentL, hm]
 | q :: r, j + 1, p, h, hm => by simp at h; simp [PV.mentL, PV.mentL_mem h hm]
def Ent.ment (k : Nat) : Ent → Bool
 | .box _ cs => PV.mentL k cs
 | _ => false
def RD (w : World) (O : Nat → Prop) (base : Nat → Prop) (fr : Bool) (v : Value) (x : D) : Prop :=
 match fr with
 | true => R (ucell w) (fun b => O b ∨ base b) v x
 | false => R w.cell? O v x
theorem RD.plain {w : World} {O : Nat → Prop} {base : Nat → Prop} {fr : Bool} {v : Value} {x : D} (h : RD w O base fr v x) : R w.cell? O v x := by
 cases fr with
 | true => exact h.mono fun a v h1 h2 => ⟨(ucell_some h1).1, fun ho => h2 (.inl ho)⟩
 | false => exact h
theorem RD.step {w w' : World} {O O' : Nat → Prop} {base : Nat → Prop} {fr : Bool} {v : Value} {x : D} (h : RD w O base fr v x)
  (hk : ∀ b, b < w.heap.size → ¬ O b → w'.heap[b]? = w.heap[b]? ∧ ¬ O' b) : RD w' O' base fr v x := by
 cases fr with
 | true => exact R.ustep h fun b hb hO => ⟨(hk b hb fun ho => hO (.inl ho)).1, fun hor => hor.elim (hk b hb fun ho => hO (.inl ho)).2 fun hlt => hO (.inr hlt)⟩
 | false => exact R.step h hk
theorem RD.of_flats {w w' : World} {O O' : Nat → Prop} {base base' : Nat → Prop} {fr fr' : Bool} {v : Value} {x : D} (h : RD w O base fr v x) (hf : x.flats = true) : RD w' O' base' fr' v x := by
 cases fr <;> cases fr' <;> exact R.flats h hf
theorem RD.mk {w : World} {O : Nat → Prop} {g : Addr → Option Value} {O1 : Nat → Prop} {base : Nat → Prop} {fr : Bool} {v : Value} {x : D} (h : R g O1 v x) (hf : x.flats = true) : RD w O base fr v x := by
 cases fr <;> exact R.flats h hf
abbrev Env := List (Nat × PV)
abbrev Store := List (Nat × Ent)
inductive RP (w : World) (O : Nat → Prop) (base : Nat → Prop) (ρ : Nat → Nm) : Value → PV → Prop
 | d (fr : Bool) (x : D) (v : Value) (h : RD w O base fr v x) : RP w O base ρ v (.d fr x)
 | own (k n : Nat) : RP w O base ρ (.slice (some ⟨(ρ k).1, 0, none⟩) n (ρ k).2) (.own k n)
 | ownN (k : Nat) (h : (ρ k).2 = 0) : RP w O base ρ (.slice none 0 0) (.own k 0)
 | ptr (k c : Nat) : RP w O base ρ (.pointer (some ⟨(ρ k).1, c, none⟩)) (.ptr k c)
 | eadr (k wd i c : Nat) : RP w O base ρ (.pointer (some ⟨(ρ k).1, i * wd + c, none⟩)) (.eadr k wd i c)
 | fn (f : FuncId) (k : Nat) (vs : List Value) (cs : List PV) (hl : vs.length = cs.length)
   (hr : ∀ (j : Nat) (v : Value) (p : PV), vs[j]? = some v → cs[j]? = some p → RP w O base ρ v p) : RP w O base ρ (.func (.func f) (vs.take k).toArray (vs.drop k).toArray) (.fn f k cs)
 | agg (vs : List Value) (cs : List PV) (hl : vs.length = cs.length)
   (hr : ∀ (j : Nat) (v : Value) (p : PV), vs[j]? = some v → cs[j]? = some p → RP w O base ρ v p) : RP w O base ρ (.agg vs.toArray) (.agg cs)
 | tup (vs : List Value) (cs : List PV) (hl : vs.length = cs.length)
   (hr : ∀ (j : Nat) (v : Value) (p : PV), vs[j]? = some v → cs[j]? = some p → RP w O base ρ v p) : RP w O base ρ (.tuple vs.toArray) (.tup cs)
 | optF (p : PV) : RP w O base ρ undef (.opt false p)
 | optT (p : PV) (v : Value) (h : RP w O base ρ v p) : RP w O base ρ v (.opt true p)
 | reg (k : Nat) (x : D) (v : Value) (h : R (ucell w) (fun b => ¬ ((ρ k).1 ≤ b ∧ b < (ρ k).2)) v x) : RP w O base ρ v (.reg k x)
 | vw (k n cap : Nat) (h : n ≤ cap ∧ n ≤ maxLen) : RP w O base ρ (.slice (some ⟨(ρ k).1, (ρ k).2, none⟩) n cap) (.vw k n)
 | vwN (k : Nat) (v : Value) (h : v = .slice none 0 0 ∨ ∃ a cap, v = .slice (some a) 0 cap) : RP w O base ρ v (.vw k 0)
 | rw (k i n : Nat) : RP w O base ρ (.slice (some ⟨((ρ k).rows i).1, 0, none⟩) n ((ρ k).rows i).2) (.rw k i n)
 | rwN (k i : Nat) (h : ((ρ k).rows i).2 = 0) : RP w O base ρ (.slice none 0 0) (.rw k i 0)
 | radr (k i c : Nat) : RP w O base ρ (.pointer (some ⟨((ρ k).rows i).1, c, none⟩)) (.radr k i c)
mutual
def PV.rgm (k : Nat) : PV → Bool
 | .fn _ _ cs => PV.rgmL k cs
 | .agg cs => PV.rgmL k cs
 | .tup cs => PV.rgmL k cs
 | .opt _ p => PV.rgm k p
 | .reg j _ => Nat.beq j k
 | _ => false
def PV.rgmL (k : Nat) : List PV → Bool
 | [] => false
 | p :: r => PV.rgm k p || PV.rgmL k r
end
theorem PV.rgmL_mem {k : Nat} : ∀ {cs : List PV} {j : Nat} {p : PV}, cs[j]? = some p → p.rgm k = true → PV.rgmL k cs = true
 | [], _, _, h, _ => by simp at h
 | q :: r, 0, p, h, hm => by simp at h; subst h; simp [PV.rgmL, hm]
 | q :: r, j + 1, p, h, hm => by simp at h; simp [PV.rgmL, PV.rgmL_mem h hm]
theorem RP.step {w w' : World} {O O' : Nat → Prop} {base : Nat → Prop} {ρ ρ' : Nat → Nm} {v : Value} {p : PV} (h : RP w O base ρ v p)
  (hk : ∀ b, b < w.heap.size → ¬ O b → w'.heap[b]? = w.heap[b]? ∧ ¬ O' b) (hm : ∀ k, p.ment k = true → ρ' k = ρ k)
  (hr : ∀ k, p.rgm k = true → ∀ b, (ρ k).1 ≤ b → b < (ρ k).2 → b < w.heap.size → w'.heap[b]? = w.heap[b]?) : RP w' O' base ρ' v p := by
 induction h with
 | d fr x v h => exact .d fr x v (h.step hk)
 | own k n => have e := hm k (by simp [PV.ment, beq_self]); rw [← e]; exact .own k n
 | ownN k h => exact .ownN k (by rw [hm k (by simp [PV.ment, beq_self])]; exact h)
 | ptr k c => have e := hm k (by simp [PV.ment, beq_self]); rw [← e]; exact .ptr k c
 | eadr k wd i c => have e := hm k (by simp [PV.ment, beq_self]); rw [← e]; exact .eadr k wd i c
 | fn f kk vs cs hl _ ih =>
  exact .fn f kk vs cs hl fun j v p h1 h2 => ih j v p h1 h2 (fun k hk => hm k (PV.mentL_mem h2 hk)) (fun k hk => hr k (PV.rgmL_mem h2 hk))
 | agg vs cs hl _ ih =>
  exact .agg vs cs hl fun j v p h1 h2 => ih j v p h1 h2 (fun k hk => hm k (PV.mentL_mem h2 hk)) (fun k hk => hr k (PV.rgmL_mem h2 hk))
 | tup vs cs hl _ ih =>
  exact .tup vs cs hl fun j v p h1 h2 => ih j v p h1 h2 (fun k hk => hm k (PV.mentL_mem h2 hk)) (fun k hk => hr k (PV.rgmL_mem h2 hk))
 | optF p => exact .optF p
 | optT p v _ ih => exact .optT p v (ih hm hr)
 | reg k x v h =>
  have e := hm k (by simp [PV.ment, beq_self])
  refine .reg k x v (R.ustep h fun b hb hO => ?_)
  simp only [Classical.not_not] at hO ⊢
  exact ⟨hr k (by simp [PV.rgm, beq_self]) b hO.1 hO.2 hb, by rw [e]; exact hO⟩
 | vw k n cap h => have e := hm k (by simp [PV.ment, beq_self]); rw [← e]; exact .vw k n cap h
 | vwN k v h => exact .vwN k v h
 | rw k i n => have e := hm k (by simp [PV.ment, beq_self]); rw [← e]; exact .rw k i n
 | rwN k i h => exact .rwN k i (by rw [hm k (by simp [PV.ment, beq_self])]; exact h)
 | radr k i c => have e := hm k (by simp [PV.ment, beq_self]); rw [← e]; exact .radr k i c
def blk (e : Ent) (p : Nm) (b : Nat) : Prop :=
 match e with
 | .reg => p.1 ≤ b ∧ b < p.2
 | .arr _ _ _ => b = p.1 ∧ 0 < p.2
 | .box _ _ => b = p.1
 | .vw xs => b = p.1 ∧ 0 < xs.length
 | .mat _ _ xss hole => (b = p.1 ∧ 0 < p.2) ∨ ∃ i, i < xss.length ∧ hole ≠ some i ∧ b = (p.rows i).1 ∧ 0 < (p.rows i).2
def liveO (O0 : Nat → Prop) (ρ : Nat → Nm) (st : List (Nat × Ent)) (b : Nat) : Prop :=
 O0 b ∨ ∃ k e, aget st k = some e ∧ blk e (ρ k) b
structure MatOk (w : World) (p : Nm) (e eo : TypeId) (xss : List (List Int)) (hole : Option Nat) : Prop where
 cap : p.2 ≤ maxLen
 len : xss.length ≤ p.2
 out : ∃ cur : Array Value, (0 < p.2 → w.heap[p.1]? = some (.cells cur eo (0, 0))) ∧ cur.size = p.2 ∧
  ∀ i, i < xss.length → hole ≠ some i → ∃ v, cur[i]? = some v ∧ (v = .slice (some ⟨(p.rows i).1, 0, none⟩) (xss.getD i []).length (p.rows i).2 ∨ (v = .slice none 0 0 ∧ (xss.getD i []).length = 0 ∧ (p.rows i).2 = 0))
 inn : ∀ i, i < xss.length → hole ≠ some i → (p.rows i).2 ≤ maxLen ∧ (xss.getD i []).length ≤ (p.rows i).2 ∧ ∃ cur : Array Value, (0 < (p.rows i).2 → w.heap[(p.rows i).1]? = some (.cells cur e (0, 0))) ∧ cur.size = (p.rows i).2 ∧
  ∀ j, j < (xss.getD i []).length → cur[j]? = some (.int .i64 ((xss.getD i []).getD j 0))
 apart : ∀ i j, i < xss.length → j < xss.length → hole ≠ some i → hole ≠ some j → 0 < (p.rows i).2 → 0 < (p.rows j).2 → (p.rows i).1 = (p.rows j).1 → i = j
 outer : ∀ i, i < xss.length → hole ≠ some i → 0 < (p.rows i).2 → 0 < p.2 → (p.rows i).1 ≠ p.1
theorem MatOk.step {w w' : World} {p : Nm} {e eo : TypeId} {xss : List (List Int)} {hole : Option Nat} (h : MatOk w p e eo xss hole)
  (hb : ∀ b, blk (.mat e eo xss hole) p b → b < w.heap.size → w'.heap[b]? = w.heap[b]?) : MatOk w' p e eo xss hole := by
 refine ⟨h.cap, h.len, ?_, fun i hi hh => ?_, h.apart, h.outer⟩
 ·obtain ⟨cur, h1, h2⟩ := h.out
  refine ⟨cur, fun hp => ?_, h2⟩
  rw [hb _ (.inl ⟨rfl, hp⟩) (Array.getElem?_eq_some_iff.1 (h1 hp)).1]; exact h1 hp
 ·obtain ⟨g1, g2, cur, h1, h2⟩ := h.inn i hi hh
  refine ⟨g1, g2, cur, fun hp => ?_, h2⟩
  rw [hb _ (.inr ⟨i, hi, hh, rfl, hp⟩) (Array.getElem?_eq_some_iff.1 (h1 hp)).1]; exact h1 hp
mutual
def PV.rwf (k : Nat) : PV → Bool
 | .rw j _ _ => !Nat.beq j k
 | .radr j _ _ => !Nat.beq j k
 | .fn _ _ cs => PV.rwfL k cs
 | .agg cs => PV.rwfL k cs
 | .tup cs => PV.rwfL k cs
 | .opt _ p => PV.rwf k p
 | _ => true
def PV.rwfL (k : Nat) : List PV → Bool
 | [] => true
 | p :: r => PV.rwf k p && PV.rwfL k r
end
theorem PV.rwfL_mem {k : Nat} : ∀ {cs : List PV} {j : Nat} {p : PV}, cs[j]? = some p → PV.rwfL k cs = true → p.rwf k = true
 | q :: r, 0, p, h, hm => by simp at h; subst h; simp [PV.rwfL] at hm; exact hm.1
 | q :: r, j + 1, p, h, hm => by simp at h; simp [PV.rwfL] at hm; exact PV.rwfL_mem h hm.2
theorem RP.rows {w : World} {O : Nat → Prop} {base : Nat → Prop} {ρ ρ' : Nat → Nm} {k : Nat} (h1 : (ρ' k).1 = (ρ k).1 ∧ (ρ' k).2 = (ρ k).2) (h2 : ∀ j, j ≠ k → ρ' j = ρ j) {v : Value} {p : PV}
  (h : RP w O base ρ v p) (hf : p.rwf k = true) : RP w O base ρ' v p := by
 have e1 : ∀ j, (ρ' j).1 = (ρ j).1 := fun j => by by_cases e : j = k <;> simp_all
 have e2 : ∀ j, (ρ' j).2 = (ρ j).2 := fun j => by by_cases e : j = k <;> simp_all
 induction h with
 | d fr x v h => exact .d _ _ _ h
 | own k n => rw [← e1, ← e2]; exact .own k n
 | ownN k h => exact .ownN k (by rw [e2]; exact h)
 | ptr k c => rw [← e1]; exact .ptr k c
 | eadr k wd i c => rw [← e1]; exact .eadr k wd i c
 | fn f k' vs cs hl hr ih => exact .fn f k' vs cs hl fun j v p hv hp => ih j v p hv hp (PV.rwfL_mem hp (by simpa [PV.rwf] using hf))
 | agg vs cs hl hr ih => exact .agg vs cs hl fun j v p hv hp => ih j v p hv hp (PV.rwfL_mem hp (by simpa [PV.rwf] using hf))
 | tup vs cs hl hr ih => exact .tup vs cs hl fun j v p hv hp => ih j v p hv hp (PV.rwfL_mem hp (by simpa [PV.rwf] using hf))
 | optF p => exact .optF p
 | optT p v hp ih => exact .optT p v (ih (by simpa [PV.rwf] using hf))
 | reg k' x v h => exact .reg k' x v (by rw [e1, e2]; exact h)
 | vw k n cap h => rw [← e1, ← e2]; exact .vw k n cap h
 | vwN k v h => exact .vwN k v h
 | rw j i n =>
  have : j ≠ k := fun e => by subst e; simp [PV.rwf, beq_self] at hf
  rw [← h2 j this]; exact .rw j i n
 | rwN j i h =>
  have : j ≠ k := fun e => by subst e; simp [PV.rwf, beq_self] at hf
  exact .rwN j i (by rw [h2 j this]; exact h)
 | radr j i c =>
  have : j ≠ k := fun e => by subst e; simp [PV.rwf, beq_self] at hf
  rw [← h2 j this]; exact .radr j i c
def rwfE (k : Nat) : Ent → Bool
 | .box _ cs => PV.rwfL k cs
 | _ => true
def rwfree (k : Nat) (σ : Env) (st : Store) : Bool := σ.all (fun x => x.2.rwf k) && st.all (fun x => rwfE k x.2)
def EntOk (w : World) (O : Nat → Prop) (base : Nat → Prop) (ρ : Nat → Nm) (k : Nat) : Ent → Prop
 | .arr fr e m => ∃ cur : Array Value, (0 < (ρ k).2 → w.heap[(ρ k).1]? = some (.cells cur e (0, 0))) ∧ (ρ k).2 ≤ maxLen ∧ cur.size = (ρ k).2 * m.width ∧ m.len ≤ (ρ k).2 ∧
   ∀ i c, i < m.len → c < m.width → ∃ v, cur[i * m.width + c]? = some v ∧ RD w O base fr v (m.get i c)
 | .box t cs => ∃ cur : Array Value, w.heap[(ρ k).1]? = some (.cells cur t (0, 0)) ∧ cur.size = cs.length ∧
   ∀ (c : Nat) (p : PV), cs[c]? = some p → ∃ v, cur[c]? = some v ∧ v.oneCell' = true ∧ RP w O base ρ v p
 | .reg => (ρ k).1 ≤ (ρ k).2 ∧ (ρ k).2 ≤ w.heap.size
 | .vw xs => ∀ i, i < xs.length → ucell w ⟨(ρ k).1, (ρ k).2 + i, none⟩ = some (.int .i64 (xs.getD i 0))
 | .mat e eo xss hole => MatOk w (ρ k) e eo xss hole
structure Setting where
 P : Program
 n : Nat
 w0 : World
 O : Nat → Prop
 may : Nat → Prop
 F : Nat → Prop
 fb : ∀ b, F b → b < w0.heap.size
 pin : Option Nat := none
structure Frm (S : Setting) (w : World) : Prop where
 os : w.os = S.w0.os
 tape : w.tape = S.w0.tape
 output : w.output = S.w0.output
 size : S.w0.heap.size ≤ w.heap.size
 drawn : S.w0.drawn ≤ w.drawn
 block : ∀ b, b < S.w0.heap.size → ¬ S.may b → w.heap[b]? = S.w0.heap[b]?
structure Bel (B : Nat) (w w' : World) : Prop extends RowKit.Below B w w' where
 drawn : w.drawn ≤ w'.drawn
structure StR (S : Setting) (ρ : Nat → Nm) (a : Act) (w : World) (σ : Env) (st : Store) : Prop where
 sz : a.tmps.size = S.n
 dfr : a.defers = []
 ob : ∀ b, S.O b → b < S.w0.heap.size
 ents : ∀ k e, aget st k = some e → EntOk w (liveO S.O ρ st) S.F ρ k e
 own : ∀ k e, aget st k = some e → ∀ b, blk e (ρ k) b → b < w.heap.size ∧ ¬ S.O b ∧ (S.w0.heap.size ≤ b ∨ S.may b)
 inj : ∀ k k' e e', aget st k = some e → aget st k' = some e' → ∀ b, blk e (ρ k) b → blk e' (ρ k') b → k = k'
 env : ∀ t p, aget σ t = some p → t < S.n ∧ RP w (liveO S.O ρ st) S.F ρ (a.tmps.getD t undef) p
 frm : Frm S w
 rg : ∀ t p, aget σ t = some p → ∀ j, p.rgm j = true → aget st j = some .reg
 rb : ∀ k t cs, aget st k = some (.box t cs) → ∀ j, PV.rgmL j cs = true → aget st j = some .reg
 pn : ∀ g, S.pin = some g → (ρ 0).1 = g ∧ ∃ t cs, aget st 0 = some (.box t cs)
theorem EntOk.step {w w' : World} {O O' : Nat → Prop} {base : Nat → Prop} {ρ ρ' : Nat → Nm} {k : Nat} {e : Ent} (h : EntOk w O base ρ k e)
  (hs : w.heap.size ≤ w'.heap.size)
  (hk : ∀ b, b < w.heap.size → ¬ O b → w'.heap[b]? = w.heap[b]? ∧ ¬ O' b) (hm : ∀ k, e.ment k = true → ρ' k = ρ k) (hme : ρ' k = ρ k)
  (hown : ∀ b, blk e (ρ k) b → b < w.heap.size → w'.heap[b]? = w.heap[b]?)
  (hr : ∀ t cs, e = .box t cs → ∀ k, PV.rgmL k cs = true → ∀ b, (ρ k).1 ≤ b → b < (ρ k).2 → b < w.heap.size → w'.heap[b]? = w.heap[b]?) : EntOk w' O' base ρ' k e := by
 cases e with
 | arr fr e m =>
  obtain ⟨cur, h1, h2, h3, h4, h5⟩ := h
  rw [EntOk, hme]
  refine ⟨cur, fun hpos => ?_, h2, h3, h4, fun i c hi hc => ?_⟩
  ·rw [hown _ ⟨rfl, hpos⟩ (Array.getElem?_eq_some_iff.1 (h1 hpos)).1]; exact h1 hpos
  ·obtain ⟨v, hv, hd⟩ := h5 i c hi hc
   exact ⟨v, hv, hd.step hk⟩
 | box t cs =>
  obtain ⟨cur, h1, h2, h3⟩ := h
  rw [EntOk, hme]
  refine ⟨cur, ?_, h2, fun c p hp => ?_⟩
  ·rw [hown _ rfl (Array.getElem?_eq_some_iff.1 h1).1]; exact h1
  ·obtain ⟨v, hv, h1c, hd⟩ := h3 c p hp
   exact ⟨v, hv, h1c, hd.step hk (fun k hk => hm k (PV.mentL_mem hp hk)) (fun k hk => hr t cs rfl k (PV.rgmL_mem hp hk))⟩
 | reg =>
  rw [EntOk, hme]
  exact ⟨h.1, Nat.le_trans h.2 hs⟩
 | vw xs =>
  rw [EntOk, hme]
  intro i hi
  rw [ucell_of_block (hown _ ⟨rfl, by omega⟩ (ucell_lt (h i hi)))]
  exact h i hi
 | mat e eo xss hole =>
  rw [EntOk, hme]
  exact MatOk.step h hown
def unment (k : Nat) (σ : Env) (st : Store) : Bool := σ.all (fun x => !x.2.ment k) && st.all (fun x => !x.2.ment k)
theorem aget_mem {α : Type} : ∀ {l : List (Nat × α)} {t : Nat} {p : α}, aget l t = some p → (t, p) ∈ l
 | (k, q) :: r, t, p, h => by
  rcases aget_cons h with ⟨rfl, rfl⟩ | ⟨_, h⟩
  ·exact List.mem_cons_self
  ·exact List.mem_cons_of_mem _ (aget_mem h)
theorem unment_env {k : Nat} {σ : Env} {st : Store} (h : unment k σ st = true) {t : Nat} {p : PV} (hp : aget σ t = some p) : p.ment k = false := by
 simp only [unment, Bool.and_eq_true, List.all_eq_true] at h
 simpa using h.1 _ (aget_mem hp)
theorem unment_st {k : Nat} {σ : Env} {st : Store} (h : unment k σ st = true) {t : Nat} {p : Ent} (hp : aget st t = some p) : p.ment k = false := by
 simp only [unment, Bool.and_eq_true, List.all_eq_true] at h
 simpa using h.2 _ (aget_mem hp)
theorem rwfree_env {k : Nat} {σ : Env} {st : Store} (h : rwfree k σ st = true) {t : Nat} {p : PV} (hp : aget σ t = some p) : p.rwf k = true := by
 simp only [rwfree, Bool.and_eq_true, List.all_eq_true] at h
 exact h.1 _ (aget_mem hp)
theorem rwfree_st {k : Nat} {σ : Env} {st : Store} (h : rwfree k σ st = true) {j : Nat} {t : TypeId} {cs : List PV} (hp : aget st j = some (.box t cs)) : PV.rwfL k cs = true := by
 simp only [rwfree, Bool.and_eq_true, List.all_eq_true] at h
 exact h.2 _ (aget_mem hp)
end Go.Proofs.Ytomnmacmlhkceaa
