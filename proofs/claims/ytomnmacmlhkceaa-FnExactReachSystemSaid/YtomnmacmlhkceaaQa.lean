/- The pure layer, part A: plain data, and how memory reads as plain data. No function of the program is named here. -/
import Derived.WalkKit
set_option linter.unusedVariables false
set_option linter.unusedSimpArgs false
namespace Go.Proofs.Ytomnmacmlhkceaa
open Go
inductive Mem where
 | ints (xs : List Int)
 | bytes (xs : List Nat)
 | rows (xss : List (List Int))
 | pairs (ps : List (Int × Int))
inductive D where
 | undef
 | nil
 | bool (b : Bool)
 | int (k : IntKind) (n : Int)
 | sl (m : Mem)
 | adr (m : Mem) (i c : Nat)
 | bx (cs : List D) (c : Nat)
 | agg (cs : List D)
 | tup (cs : List D)
 | fn (f : FuncId) (k : Nat) (cs : List D)
 | lit (v : Value) (x : D)
def Mem.len : Mem → Nat
 | .ints xs => xs.length
 | .bytes xs => xs.length
 | .rows xss => xss.length
 | .pairs ps => ps.length
def Mem.width : Mem → Nat
 | .ints _ => 1
 | .bytes _ => 1
 | .rows _ => 1
 | .pairs _ => 2
def Mem.get : Mem → Nat → Nat → D
 | .ints xs, i, _ => .int .i64 (xs.getD i 0)
 | .bytes xs, i, _ => .int .u8 (xs.getD i 0 : Nat)
 | .rows xss, i, _ => .sl (.ints (xss.getD i []))
 | .pairs ps, i, 0 => .int .i64 (ps.getD i (0, 0)).1
 | .pairs ps, i, _ + 1 => .int .i64 (ps.getD i (0, 0)).2
theorem Mem.width_pos (m : Mem) : 0 < m.width := by cases m <;> simp [Mem.width]
inductive R (g : Addr → Option Value) (O : Nat → Prop) : Value → D → Prop
 | undef (v : Value) : R g O v .undef
 | nil : R g O (.slice none 0 0) .nil
 | bool (b : Bool) : R g O (.bool b) (.bool b)
 | int (k : IntKind) (n : Int) : R g O (.int k n) (.int k n)
 | slnil (m : Mem) (h : m.len = 0) : R g O (.slice none 0 0) (.sl m)
 | sl (m : Mem) (a : Addr) (n cap : Nat) (hn : n = m.len) (hcap : n ≤ cap ∧ n ≤ maxLen) (f : Nat → Nat → Value)
   (hc : ∀ i c, i < m.len → c < m.width → g (a.add (i * m.width + c)) = some (f i c) ∧ ¬ O a.block)
   (hr : ∀ i c, i < m.len → c < m.width → R g O (f i c) (m.get i c)) : R g O (.slice (some a) n cap) (.sl m)
 | adr (m : Mem) (a : Addr) (i0 c0 : Nat) (f : Nat → Nat → Value)
   (hc : ∀ i c, i < m.len → c < m.width → g (a.add (i * m.width + c)) = some (f i c) ∧ ¬ O a.block)
   (hr : ∀ i c, i < m.len → c < m.width → R g O (f i c) (m.get i c)) : R g O (.pointer (some (a.add (i0 * m.width + c0)))) (.adr m i0 c0)
 | bx (cs : List D) (a : Addr) (c0 : Nat) (f : Nat → Value)
   (hc : ∀ c, c < cs.length → g (a.add c) = some (f c) ∧ ¬ O a.block)
   (hr : ∀ (c : Nat) (d : D), cs[c]? = some d → R g O (f c) d) : R g O (.pointer (some (a.add c0))) (.bx cs c0)
 | agg (vs : List Value) (cs : List D) (hl : vs.length = cs.length)
   (hr : ∀ (j : Nat) (v : Value) (d : D), vs[j]? = some v → cs[j]? = some d → R g O v d) : R g O (.agg vs.toArray) (.agg cs)
 | tup (vs : List Value) (cs : List D) (hl : vs.length = cs.length)
   (hr : ∀ (j : Nat) (v : Value) (d : D), vs[j]? = some v → cs[j]? = some d → R g O v d) : R g O (.tuple vs.toArray) (.tup cs)
 | fn (f : FuncId) (k : Nat) (vs : List Value) (cs : List D) (hl : vs.length = cs.length)
   (hr : ∀ (j : Nat) (v : Value) (d : D), vs[j]? = some v → cs[j]? = some d → R g O v d) : R g O (.func (.func f) (vs.take k).toArray (vs.drop k).toArray) (.fn f k cs)
 | lit (v : Value) (x : D) (h1 : v.oneCell' = true) (h : R g O v x) : R g O v (.lit v x)
theorem block_add (a : Addr) (n : Nat) : (a.add n).block = a.block := by unfold Addr.add; split <;> rfl
theorem add_add (a : Addr) (n m : Nat) : (a.add n).add m = a.add (n + m) := by
 unfold Addr.add
 by_cases hn : n = 0 <;> by_cases hm : m = 0 <;> simp [hn, hm] <;> omega
theorem add_zero (a : Addr) : a.add 0 = a := by simp [Addr.add]
theorem R.mono {g g' : Addr → Option Value} {O O' : Nat → Prop} {v : Value} {d : D} (h : R g O v d)
  (hk : ∀ a x, g a = some x → ¬ O a.block → g' a = some x ∧ ¬ O' a.block) : R g' O' v d := by
 induction h with
 | undef v => exact .undef v
 | nil => exact .nil
 | bool b => exact .bool b
 | int k n => exact .int k n
 | slnil m h => exact .slnil m h
 | sl m a n cap hn hcap f hc _ ih =>
  refine .sl m a n cap hn hcap f (fun i c hi hcw => ?_) ih
  obtain ⟨h1, h2⟩ := hc i c hi hcw
  obtain ⟨h3, h4⟩ := hk _ _ h1 (by rw [block_add]; exact h2)
  exact ⟨h3, by rw [block_add] at h4; exact h4⟩
 | adr m a i0 c0 f hc _ ih =>
  refine .adr m a i0 c0 f (fun i c hi hcw => ?_) ih
  obtain ⟨h1, h2⟩ := hc i c hi hcw
  obtain ⟨h3, h4⟩ := hk _ _ h1 (by rw [block_add]; exact h2)
  exact ⟨h3, by rw [block_add] at h4; exact h4⟩
 | bx cs a c0 f hc _ ih =>
  refine .bx cs a c0 f (fun c hcw => ?_) ih
  obtain ⟨h1, h2⟩ := hc c hcw
  obtain ⟨h3, h4⟩ := hk _ _ h1 (by rw [block_add]; exact h2)
  exact ⟨h3, by rw [block_add] at h4; exact h4⟩
 | agg vs cs hl _ ih => exact .agg vs cs hl ih
 | tup vs cs hl _ ih => exact .tup vs cs hl ih
 | fn f k vs cs hl _ ih => exact .fn f k vs cs hl ih
 | lit v x h1 _ ih => exact .lit v x h1 ih
def D.flat : D → Bool
 | .bool _ | .int _ _ | .undef | .nil => true
 | _ => false
def D.flats : D → Bool
 | .tup cs => cs.all D.flat
 | .agg cs => cs.all D.flat
 | d => d.flat
theorem D.flats_of_flat {d : D} (h : d.flat = true) : d.flats = true := by cases d <;> first | exact h | simp [D.flat] at h
theorem R.flat {g g' : Addr → Option Value} {O O' : Nat → Prop} {v : Value} {d : D} (h : R g O v d) (hf : d.flat = true) : R g' O' v d := by
 cases h <;> simp [D.flat] at hf
 ·exact .undef _
 ·exact .nil
 ·exact .bool _
 ·exact .int _ _
theorem R.flats {g g' : Addr → Option Value} {O O' : Nat → Prop} {v : Value} {d : D} (h : R g O v d) (hf : d.flats = true) : R g' O' v d := by
 cases d with
 | tup cs =>
  cases h with
  | tup vs _ hl hr =>
   simp only [D.flats, List.all_eq_true] at hf
   exact .tup vs cs hl fun j v d h1 h2 => (hr j v d h1 h2).flat (hf d (List.mem_of_getElem? h2))
 | agg cs =>
  cases h with
  | agg vs _ hl hr =>
   simp only [D.flats, List.all_eq_true] at hf
   exact .agg vs cs hl fun j v d h1 h2 => (hr j v d h1 h2).flat (hf d (List.mem_of_getElem? h2))
 | _ => exact h.flat hf
def ucell (w : World) (a : Addr) : Option Value := if w.frozen? a then none else w.cell? a
theorem ucell_some {w : World} {a : Addr} {v : Value} (h : ucell w a = some v) : w.cell? a = some v ∧ w.frozen? a = false := by
 unfold ucell at h
 by_cases hf : w.frozen? a = true
 ·simp [hf] at h
 ·rw [if_neg hf] at h; exact ⟨h, by simpa using hf⟩
theorem ucell_mk {w : World} {a : Addr} {v : Value} (h : w.cell? a = some v) (hf : w.frozen? a = false) : ucell w a = some v := by
 simp [ucell, h, hf]
theorem ucell_lt {w : World} {a : Addr} {v : Value} (h : ucell w a = some v) : a.block < w.heap.size := World.block_lt_of_cell? w a (ucell_some h).1
theorem R.plain {w : World} {O : Nat → Prop} {v : Value} {d : D} (h : R (ucell w) O v d) : R w.cell? O v d :=
 h.mono fun _ _ h1 h2 => ⟨(ucell_some h1).1, h2⟩
theorem R.step {w w' : World} {O O' : Nat → Prop} {v : Value} {d : D} (h : R w.cell? O v d)
  (hk : ∀ b, b < w.heap.size → ¬ O b → w'.heap[b]? = w.heap[b]? ∧ ¬ O' b) : R w'.cell? O' v d :=
 h.mono fun a _ h1 h2 => by
  obtain ⟨h3, h4⟩ := hk a.block (World.block_lt_of_cell? w a h1) h2
  exact ⟨(World.cell?_of_block h3).trans h1, h4⟩
theorem ucell_of_block {w w' : World} {a : Addr} (h : w'.heap[a.block]? = w.heap[a.block]?) : ucell w' a = ucell w a := by
 simp [ucell, World.cell?_of_block h, World.frozen?_of_block h]
theorem R.ustep {w w' : World} {O O' : Nat → Prop} {v : Value} {d : D} (h : R (ucell w) O v d)
  (hk : ∀ b, b < w.heap.size → ¬ O b → w'.heap[b]? = w.heap[b]? ∧ ¬ O' b) : R (ucell w') O' v d :=
 h.mono fun a _ h1 h2 => by
  obtain ⟨h3, h4⟩ := hk a.block (ucell_lt h1) h2
  exact ⟨(ucell_of_block h3).trans h1, h4⟩
def D.unl : D → D
 | .lit _ x => x
 | x => x
theorem R.unl {g : Addr → Option Value} {O : Nat → Prop} {v : Value} {d : D} (h : R g O v d) : R g O v d.unl := by
 cases h with
 | lit _ _ _ h => exact h
 | undef => exact .undef _
 | nil => exact .nil
 | bool b => exact .bool b
 | int k n => exact .int k n
 | slnil m h => exact .slnil m h
 | sl m a n cap hn hcap f hc hr => exact .sl m a n cap hn hcap f hc hr
 | adr m a i0 c0 f hc hr => exact .adr m a i0 c0 f hc hr
 | bx cs a c0 f hc hr => exact .bx cs a c0 f hc hr
 | agg vs cs hl hr => exact .agg vs cs hl hr
 | tup vs cs hl hr => exact .tup vs cs hl hr
 | fn f k vs cs hl hr => exact .fn f k vs cs hl hr
def D.cell : D → Bool
 | .agg _ | .tup _ | .undef => false
 | _ => true
theorem R.oneCell {g : Addr → Option Value} {O : Nat → Prop} {v : Value} {d : D} (h : R g O v d) (hc : d.cell = true) : v.oneCell' = true := by
 cases h <;> first | rfl | assumption | simp [D.cell] at hc
theorem Mem.get_cell (m : Mem) (i c : Nat) : (m.get i c).cell = true := by
 cases m with
 | ints xs => rfl
 | bytes xs => rfl
 | rows xss => rfl
 | pairs ps => cases c <;> rfl
end Go.Proofs.Ytomnmacmlhkceaa
