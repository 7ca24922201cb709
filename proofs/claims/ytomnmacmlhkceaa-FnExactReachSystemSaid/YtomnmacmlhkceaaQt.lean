/- Plain aids: folds over indexes, and their steps. No function of the program is named here. -/
import Derived.Test.YtomnmacmlhkceaaQs
set_option linter.unusedVariables false
set_option linter.unusedSimpArgs false
namespace Go.Proofs.Ytomnmacmlhkceaa
open Go
def Mem.wf : Mem → Prop
 | .ints xs => (xs.length : Int) ≤ 9223372036854775807
 | .bytes xs => (xs.length : Int) ≤ 9223372036854775807
 | .rows xss => (xss.length : Int) ≤ 9223372036854775807 ∧ ∀ xs ∈ xss, (xs.length : Int) ≤ 9223372036854775807
 | .pairs ps => (ps.length : Int) ≤ 9223372036854775807
def D.wf : Nat → D → Prop
 | 0, _ => True
 | n + 1, d =>
  match d with
  | .sl m => m.wf
  | .agg cs => cs.foldr (fun c r => D.wf n c ∧ r) True
  | .bx cs _ => cs.foldr (fun c r => D.wf n c ∧ r) True
  | .fn _ _ cs => cs.foldr (fun c r => D.wf n c ∧ r) True
  | .tup cs => cs.foldr (fun c r => D.wf n c ∧ r) True
  | _ => True
def wfL (ds : List D) : Prop := ds.foldr (fun c r => D.wf 4 c ∧ r) True
theorem foldr_and_mk {α : Type} {f : α → Prop} : ∀ {l : List α}, (∀ p ∈ l, f p) → l.foldr (fun q r => f q ∧ r) True
 | [], _ => trivial
 | q :: r, h => ⟨h q List.mem_cons_self, foldr_and_mk (l := r) fun p hp => h p (List.mem_cons_of_mem _ hp)⟩
theorem R.len_le {g : Addr → Option Value} {O : Nat → Prop} {v : Value} {m : Mem} (h : R g O v (.sl m)) : (m.len : Int) ≤ 9223372036854775807 := by
 cases h with
 | slnil _ h => omega
 | sl _ a n cap hn hcap f hc hr => have h2 := hcap.2; unfold maxLen at h2; omega
theorem R.wf {g : Addr → Option Value} {O : Nat → Prop} : ∀ (n : Nat) (v : Value) (d : D), R g O v d → d.wf n
 | 0, _, _, _ => trivial
 | n + 1, v, d, h => by
  have lst : ∀ (vs : List Value) (cs : List D), vs.length = cs.length → (∀ (j : Nat) (v : Value) (d : D), vs[j]? = some v → cs[j]? = some d → R g O v d) → cs.foldr (fun c r => D.wf n c ∧ r) True := by
   intro vs cs hl hr
   refine foldr_and_mk fun p hp => ?_
   obtain ⟨j, hj⟩ := List.mem_iff_getElem?.1 hp
   have hlt := (List.getElem?_eq_some_iff.1 hj).1
   exact R.wf n vs[j] p (hr j _ p (List.getElem?_eq_getElem (by omega)) hj)
  have mem : ∀ m : Mem, R g O v (.sl m) → m.wf := by
   intro m hm
   have h1 := hm.len_le
   cases m with
   | ints xs => exact h1
   | bytes xs => exact h1
   | pairs ps => exact h1
   | rows xss =>
    refine ⟨h1, fun xs hx => ?_⟩
    cases hm with
    | slnil _ h =>
     have : xss = [] := List.eq_nil_of_length_eq_zero h
     rw [this] at hx; cases hx
    | sl _ a n cap hn hcap f hc hr =>
     obtain ⟨k, hk, rfl⟩ := List.mem_iff_getElem.1 hx
     have h3 : R g O (f k 0) (.sl (.ints (xss.getD k []))) := hr k 0 hk Nat.zero_lt_one
     have h4 := h3.len_le
     simp only [Mem.len] at h4
     simpa [hk] using h4
  cases h with
  | agg vs cs hl hr => exact lst vs cs hl hr
  | tup vs cs hl hr => exact lst vs cs hl hr
  | fn f kk vs cs hl hr => exact lst vs cs hl hr
  | bx cs a c0 f hc hr =>
   refine foldr_and_mk fun p hp => ?_
   obtain ⟨j, hj⟩ := List.mem_iff_getElem?.1 hp
   exact R.wf n _ p (hr j p hj)
  | slnil m h => exact mem m (.slnil m h)
  | sl m a n cap hn hcap f hc hr => exact mem m (.sl m a n cap hn hcap f hc hr)
  | _ => trivial
theorem pc_wf {P : Program} {f : FuncId} {args : List D} {r : Res} (hb : Body P f) (h : wfL args → PC P f args r) : PC P f args r := by
 refine ⟨hb, fun w O vs hO hall => (h ?_).2 w O vs hO hall⟩
 refine foldr_and_mk fun p hp => ?_
 obtain ⟨j, hj⟩ := List.mem_iff_getElem?.1 hp
 have hlt := (List.getElem?_eq_some_iff.1 hj).1
 have hl := hall.1
 exact R.wf 4 vs[j] p (hall.2 j _ p (List.getElem?_eq_getElem (by omega)) hj)
def foldTo {α : Type} (f : α → Nat → α) (a : α) : Nat → α
 | 0 => a
 | k + 1 => f (foldTo f a k) k
def allTo (p : Nat → Bool) : Nat → Bool
 | 0 => true
 | k + 1 => allTo p k && p k
theorem allTo_iff {p : Nat → Bool} {n : Nat} : allTo p n = true ↔ ∀ k, k < n → p k = true := by
 induction n with
 | zero => simp [allTo]
 | succ n ih =>
  simp only [allTo, Bool.and_eq_true, ih]
  constructor
  ·rintro ⟨h1, h2⟩ k hk
   rcases Nat.lt_succ_iff_lt_or_eq.1 hk with hk | rfl
   ·exact h1 k hk
   ·exact h2
  ·exact fun h => ⟨fun k hk => h k (Nat.lt_succ_of_lt hk), h n (Nat.lt_succ_self n)⟩
theorem allTo_false {p : Nat → Bool} {n k : Nat} (hk : k < n) (h : p k = false) : allTo p n = false := by
 cases ha : allTo p n with
 | false => rfl
 | true => rw [allTo_iff.1 ha k hk] at h; cases h
theorem allTo_falseI {p : Nat → Bool} {n : Nat} {i : Int} (hk : 0 ≤ i) (hn : i < n) (h : p i.toNat = false) : allTo p n = false := allTo_false (k := i.toNat) (by omega) h
theorem allTo_step {p : Nat → Bool} {i : Int} (h : 0 ≤ i) (ha : allTo p i.toNat = true) (hp : p i.toNat = true) : allTo p (i + 1).toNat = true := by
 have e : (i + 1).toNat = i.toNat + 1 := by omega
 rw [e, allTo, ha, hp]; rfl
theorem allTo_list {α : Type} {p : α → Bool} {d : α} (xs : List α) : allTo (fun k => p (xs.getD k d)) xs.length = xs.all p := by
 rw [Bool.eq_iff_iff, allTo_iff, List.all_eq_true]
 constructor
 ·intro h x hx
  obtain ⟨k, hk, rfl⟩ := List.mem_iff_getElem.1 hx
  have := h k hk
  simpa [hk] using this
 ·intro h k hk
  have : xs.getD k d = xs[k] := by simp [hk]
  rw [this]
  exact h _ (List.getElem_mem hk)
theorem any_not {α : Type} (xs : List α) (p : α → Bool) : (!(xs.any fun x => !(p x))) = xs.all p := by
 induction xs with
 | nil => rfl
 | cons x r ih => simp [← ih]
theorem getD_mem {α : Type} {xs : List α} {k : Nat} {d : α} (h : k < xs.length) : xs.getD k d ∈ xs := by
 have : xs.getD k d = xs[k] := by simp [h]
 rw [this]; exact List.getElem_mem h
theorem getD_memI {α : Type} {xs : List α} {i : Int} {d : α} (h0 : 0 ≤ i) (h : i < (xs.length : Int)) : xs.getD i.toNat d ∈ xs := getD_mem (by omega)
def tabTo {α : Type} (f : Nat → α) (n : Nat) : List α := (List.range n).map f
theorem tabTo_succ {α : Type} (f : Nat → α) (n : Nat) : tabTo f (n + 1) = tabTo f n ++ [f n] := by simp [tabTo, List.range_succ]
theorem tabTo_len {α : Type} (f : Nat → α) (n : Nat) : (tabTo f n).length = n := by simp [tabTo]
theorem take_step {α : Type} {xs : List α} {i : Int} {d : α} (h0 : 0 ≤ i) (h : i < (xs.length : Int)) : xs.take (i + 1).toNat = xs.take i.toNat ++ [xs.getD i.toNat d] := by
 have e : (i + 1).toNat = i.toNat + 1 := by omega
 have hk : i.toNat < xs.length := by omega
 rw [e, List.take_add_one]
 simp [hk]
theorem take_all {α : Type} {xs : List α} {i : Int} (h : (xs.length : Int) ≤ i) : xs.take i.toNat = xs := List.take_of_length_le (by omega)
theorem set_take {α : Type} {xs ys : List α} {i : Int} {d : α} (h0 : 0 ≤ i) (h : i < (xs.length : Int)) :
  (xs.take i.toNat ++ ys.drop i.toNat).set i.toNat (xs.getD i.toNat d) = xs.take (i + 1).toNat ++ ys.drop (i + 1).toNat ∨ ys.length ≤ i.toNat := by
 by_cases hy : ys.length ≤ i.toNat
 ·exact .inr hy
 ·refine .inl ?_
  have e : (i + 1).toNat = i.toNat + 1 := by omega
  have hk : i.toNat < xs.length := by omega
  rw [List.set_append_right _ _ (by simp; omega), take_step (d := d) h0 h, e]
  have : i.toNat - (xs.take i.toNat).length = 0 := by simp; omega
  rw [this, List.drop_eq_getElem_cons (by omega : i.toNat < ys.length), List.set_cons_zero]
  simp
theorem copy_step {α : Type} {xs ys : List α} {i : Int} {d : α} (h0 : 0 ≤ i) (h : i < (xs.length : Int)) (hl : ys.length = xs.length) :
  (xs.take i.toNat ++ ys.drop i.toNat).set i.toNat (xs.getD i.toNat d) = xs.take (i + 1).toNat ++ ys.drop (i + 1).toNat := by
 rcases set_take (ys := ys) (d := d) h0 h with h1 | h1
 ·exact h1
 ·omega
theorem copy_len {α : Type} {xs ys : List α} {k : Nat} (hk : k ≤ xs.length) (hl : ys.length = xs.length) : (xs.take k ++ ys.drop k).length = xs.length := by simp; omega
def idxI {α : Type} (p : α → Bool) (xs : List α) : Int :=
 match xs.findIdx? p with
 | some k => k
 | none => -1
theorem idx_any {α : Type} (p : α → Bool) (xs : List α) : decide (idxI p xs ≥ 0) = xs.any p := by
 unfold idxI
 cases h : xs.findIdx? p with
 | none =>
  have := List.findIdx?_eq_none_iff.1 h
  have e : xs.any p = false := by
   rw [List.any_eq_false]; exact fun x hx => by rw [this x hx]; simp
  simp [e]
 | some k =>
  obtain ⟨hk, hp, _⟩ := List.findIdx?_eq_some_iff_getElem.1 h
  have e : xs.any p = true := List.any_eq_true.2 ⟨_, List.getElem_mem hk, hp⟩
  rw [e]
  simp
theorem idx_step {α : Type} {p : α → Bool} {xs : List α} {i : Int} {d : α} (h1 : 0 ≤ i) (h3 : ∀ k, k < i.toNat → p (xs.getD k d) = false) (hb : p (xs.getD i.toNat d) = false) :
  ∀ k, k < (i + 1).toNat → p (xs.getD k d) = false := by
 intro k hk
 by_cases e : k = i.toNat
 ·rw [e]; exact hb
 ·exact h3 k (by omega)
theorem idx_found {α : Type} {p : α → Bool} {xs : List α} {i : Int} {d : α} (h1 : 0 ≤ i) (h2 : i < (xs.length : Int)) (h3 : ∀ k, k < i.toNat → p (xs.getD k d) = false) (hb : p (xs.getD i.toNat d) = true) :
  i = idxI p xs := by
 have hk : i.toNat < xs.length := by omega
 have : xs.findIdx? p = some i.toNat := by
  rw [List.findIdx?_eq_some_iff_getElem]
  refine ⟨hk, by simpa [hk] using hb, fun j hj => ?_⟩
  have hj' : j < xs.length := by omega
  have := h3 j hj
  simpa [hj'] using this
 simp only [idxI, this]
 omega
theorem idx_none {α : Type} {p : α → Bool} {xs : List α} {i : Int} {d : α} (h2 : (xs.length : Int) ≤ i) (h3 : ∀ k, k < i.toNat → p (xs.getD k d) = false) : idxI p xs = -1 := by
 have : xs.findIdx? p = none := by
  rw [List.findIdx?_eq_none_iff]
  intro x hx
  obtain ⟨k, hk, rfl⟩ := List.mem_iff_getElem.1 hx
  have := h3 k (by omega)
  simpa [hk] using this
 simp only [idxI, this]
def inB (x lo hi : Int) : Bool := decide (lo ≤ x ∧ x ≤ hi)
end Go.Proofs.Ytomnmacmlhkceaa
