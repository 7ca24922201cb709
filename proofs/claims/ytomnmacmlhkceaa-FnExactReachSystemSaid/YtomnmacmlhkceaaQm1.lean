/- The pure layer, marks, part 1: shapes, and contracts of bodies that write whole numbers over whole numbers of some blocks. No function of the program is named here. -/
import Derived.Test.YtomnmacmlhkceaaQz
set_option linter.unusedVariables false
set_option linter.unusedSimpArgs false
namespace Go.Proofs.Ytomnmacmlhkceaa
open Go
inductive Sh where
 | any
 | ints (n : Nat)
 | rows (ns : List Nat)
 | pairs (n : Nat)
 | cell
 | rcell (n : Nat)
 | pcell
def ICell (w : World) (B : Nat → Prop) (ad : Addr) : Prop := ∃ x, ucell w ad = some (.int .i64 x) ∧ B ad.block
def RowS (w : World) (B : Nat → Prop) (v : Value) (n : Nat) : Prop :=
 ∃ (ad : Option Addr) (cap : Nat), v = .slice ad n cap ∧ ∀ i, i < n → ∃ b, ad = some b ∧ ICell w B (b.add i)
def RS (w : World) (B : Nat → Prop) (v : Value) : Sh → Prop
 | .any => True
 | .ints n => RowS w B v n
 | .rows ns => ∃ (ad : Option Addr) (cap : Nat), v = .slice ad ns.length cap ∧ ∀ i n, ns[i]? = some n → ∃ b u, ad = some b ∧ ucell w (b.add i) = some u ∧ B (b.add i).block ∧ RowS w B u n
 | .pairs n => ∃ (ad : Option Addr) (cap : Nat), v = .slice ad n cap ∧ ∀ i c, i < n → c < 2 → ∃ b, ad = some b ∧ ICell w B (b.add (i * 2 + c))
 | .cell => ∃ b, v = .pointer (some b) ∧ ICell w B b
 | .rcell n => ∃ b u, v = .pointer (some b) ∧ ucell w b = some u ∧ B b.block ∧ RowS w B u n
 | .pcell => ∃ b, v = .pointer (some b) ∧ ∀ c, c < 2 → ICell w B (b.add c)
structure MkR (B : Nat → Prop) (w w' : World) : Prop where
 os : w'.os = w.os
 tape : w'.tape = w.tape
 output : w'.output = w.output
 size : w.heap.size ≤ w'.heap.size
 drawn : w.drawn ≤ w'.drawn
 out : ∀ b, b < w.heap.size → ¬ B b → w'.heap[b]? = w.heap[b]?
 ins : ∀ ad v, ucell w ad = some v → B ad.block → ucell w' ad = some v ∨ ∃ x y, v = .int .i64 x ∧ ucell w' ad = some (.int .i64 y)
 form : ∀ (b : Nat) (c : Array Value) (e : TypeId) (fz : Nat × Nat), B b → w.heap[b]? = some (.cells c e fz) → ∃ c' : Array Value, w'.heap[b]? = some (.cells c' e fz) ∧ c'.size = c.size
theorem MkR.refl (B : Nat → Prop) (w : World) : MkR B w w := ⟨rfl, rfl, rfl, Nat.le_refl _, Nat.le_refl _, fun _ _ _ => rfl, fun _ _ h _ => .inl h, fun _ c _ _ _ h => ⟨c, h, rfl⟩⟩
theorem MkR.trans {B : Nat → Prop} {w w' w'' : World} (h : MkR B w w') (k : MkR B w' w'') : MkR B w w'' := by
 refine ⟨k.os.trans h.os, k.tape.trans h.tape, k.output.trans h.output, Nat.le_trans h.size k.size, Nat.le_trans h.drawn k.drawn, fun b hb hn => (k.out b (Nat.lt_of_lt_of_le hb h.size) hn).trans (h.out b hb hn), fun ad v hv hb => ?_, fun b c e fz hB hc => ?_⟩
 rotate_left
 ·obtain ⟨c1, h1, h2⟩ := h.form b c e fz hB hc
  obtain ⟨c2, h3, h4⟩ := k.form b c1 e fz hB h1
  exact ⟨c2, h3, h4.trans h2⟩
 rcases h.ins ad v hv hb with h1 | ⟨x, y, rfl, h1⟩
 ·exact k.ins ad v h1 hb
 ·rcases k.ins ad _ h1 hb with h2 | ⟨x', y', _, h2⟩
  ·exact .inr ⟨x, y, rfl, h2⟩
  ·exact .inr ⟨x, y', rfl, h2⟩
variable {B : Nat → Prop} {w w' : World}
theorem ICell.mk {ad : Addr} (h : ICell w B ad) (hm : MkR B w w') : ICell w' B ad := by
 obtain ⟨x, h1, h2⟩ := h
 rcases hm.ins ad _ h1 h2 with h3 | ⟨_, y, _, h3⟩
 ·exact ⟨x, h3, h2⟩
 ·exact ⟨y, h3, h2⟩
theorem RowS.mk {v : Value} {n : Nat} (h : RowS w B v n) (hm : MkR B w w') : RowS w' B v n := by
 obtain ⟨ad, cap, h1, h2⟩ := h
 exact ⟨ad, cap, h1, fun i hi => let ⟨b, h3, h4⟩ := h2 i hi; ⟨b, h3, h4.mk hm⟩⟩
theorem MkR.other {ad : Addr} {u : Value} (hm : MkR B w w') (h : ucell w ad = some u) (hb : B ad.block) (hu : ∀ x, u ≠ .int .i64 x) : ucell w' ad = some u := by
 rcases hm.ins ad _ h hb with h3 | ⟨x, _, e, _⟩
 ·exact h3
 ·exact absurd e (hu x)
theorem RowS.not_int {v : Value} {n : Nat} (h : RowS w B v n) (x : Int) : v ≠ .int .i64 x := by
 obtain ⟨ad, cap, rfl, _⟩ := h; simp
theorem RS.mk {v : Value} {s : Sh} (h : RS w B v s) (hm : MkR B w w') : RS w' B v s := by
 cases s with
 | any => trivial
 | ints n => exact RowS.mk h hm
 | rows ns =>
  obtain ⟨ad, cap, h1, h2⟩ := h
  refine ⟨ad, cap, h1, fun i n hi => ?_⟩
  obtain ⟨b, u, h3, h4, h5, h6⟩ := h2 i n hi
  exact ⟨b, u, h3, hm.other h4 h5 h6.not_int, h5, h6.mk hm⟩
 | pairs n =>
  obtain ⟨ad, cap, h1, h2⟩ := h
  exact ⟨ad, cap, h1, fun i c hi hc => let ⟨b, h3, h4⟩ := h2 i c hi hc; ⟨b, h3, h4.mk hm⟩⟩
 | cell =>
  obtain ⟨b, h1, h2⟩ := h
  exact ⟨b, h1, h2.mk hm⟩
 | rcell n =>
  obtain ⟨b, u, h1, h2, h3, h4⟩ := h
  exact ⟨b, u, h1, hm.other h2 h3 h4.not_int, h3, h4.mk hm⟩
 | pcell =>
  obtain ⟨b, h1, h2⟩ := h
  exact ⟨b, h1, fun c hc => (h2 c hc).mk hm⟩
inductive MV where
 | u
 | int (n : Int)
 | bool (b : Bool)
 | shp (s : Sh)
 | ptr (ss : List Sh) (c : Nat)
 | agg (ss : List Sh)
 | fn (f : FuncId)
 | row (n : Nat)
 | rce (i : Nat)
def RM (w : World) (B : Nat → Prop) (q : Addr) (v : Value) : MV → Prop
 | .u => True
 | .int n => v = .int .i64 n
 | .bool b => v = .bool b
 | .shp s => RS w B v s
 | .agg ss => ∃ vs : List Value, v = .agg vs.toArray ∧ vs.length = ss.length ∧ ∀ (j : Nat) (x : Value) (s : Sh), vs[j]? = some x → ss[j]? = some s → RS w B x s
 | .ptr ss c => ∃ g, v = .pointer (some ⟨g, c, none⟩) ∧ g < w.heap.size ∧ ¬ B g ∧ ∀ (j : Nat) (s : Sh), ss[j]? = some s → ∃ x, w.cell? ⟨g, j, none⟩ = some x ∧ RS w B x s
 | .fn f => v = .func (.func f) #[] #[]
 | .row n => ∃ (ad : Option Addr) (cap : Nat), v = .slice ad n cap ∧ (0 < n → ad = some q)
 | .rce i => v = .pointer (some (q.add i))
theorem RM.mk {q : Addr} {v : Value} {p : MV} (h : RM w B q v p) (hm : MkR B w w') : RM w' B q v p := by
 cases p with
 | u => trivial
 | int n => exact h
 | bool b => exact h
 | shp s => exact RS.mk h hm
 | agg ss =>
  obtain ⟨vs, h1, h2, h3⟩ := h
  exact ⟨vs, h1, h2, fun j x s hx hs => (h3 j x s hx hs).mk hm⟩
 | ptr ss c =>
  obtain ⟨g, h1, h2, h3, h4⟩ := h
  refine ⟨g, h1, Nat.lt_of_lt_of_le h2 hm.size, h3, fun j s hs => ?_⟩
  obtain ⟨x, h5, h6⟩ := h4 j s hs
  exact ⟨x, (World.cell?_of_block (a := ⟨g, j, none⟩) (hm.out g h2 h3)).trans h5, h6.mk hm⟩
 | fn f => exact h
 | row n => exact h
 | rce i => exact h
def PG (P : Program) (f : FuncId) (args : List MV) (n : Int) : Prop :=
 Body P f ∧ ∀ (w : World) (B : Nat → Prop) (q : Addr) (vs : List Value), (∀ b, B b → b < w.heap.size) → All2 (RM w B q) vs args →
  Calls P f vs.toArray w fun e w' => e = .returned (.int .i64 n) ∧ MkR B w w'
def PW (P : Program) (f : FuncId) (e : TypeId) (xs ys : List Int) (k r : Int) : Prop :=
 Body P f ∧ ∀ (w : World) (v : Value) (g cap : Nat) (cur : Array Value),
  (v = .slice (some ⟨g, 0, none⟩) xs.length cap ∨ (v = .slice none 0 0 ∧ xs.length = 0 ∧ cap = 0)) → (0 < cap → w.heap[g]? = some (.cells cur e (0, 0))) → cap ≤ maxLen → cur.size = cap → xs.length ≤ cap →
  (∀ i, i < xs.length → cur[i]? = some (.int .i64 (xs.getD i 0))) →
  Calls P f #[v, .int .i64 k] w fun en w' => en = .returned (.int .i64 r) ∧ w'.os = w.os ∧ w'.tape = w.tape ∧ w'.output = w.output ∧ w.heap.size ≤ w'.heap.size ∧ w.drawn ≤ w'.drawn ∧
   (∀ b, b < w.heap.size → ¬ (b = g ∧ 0 < cap) → w'.heap[b]? = w.heap[b]?) ∧
   ∃ cur' : Array Value, (0 < cap → w'.heap[g]? = some (.cells cur' e (0, 0))) ∧ cur'.size = cap ∧ ∀ i, i < ys.length → cur'[i]? = some (.int .i64 (ys.getD i 0))
def PX (P : Program) (f : FuncId) (xs ys : List Int) (k r : Int) : Prop :=
 Body P f ∧ ∀ (w : World) (B : Nat → Prop) (q : Addr) (ad : Option Addr) (cap : Nat), (0 < xs.length → ad = some q) → (∀ b, B b → b < w.heap.size) → (∀ i, i < xs.length → ucell w (q.add i) = some (.int .i64 (xs.getD i 0)) ∧ B (q.add i).block) →
  Calls P f #[.slice ad xs.length cap, .int .i64 k] w fun en w' => en = .returned (.int .i64 r) ∧ MkR B w w' ∧ ∀ i, i < ys.length → ucell w' (q.add i) = some (.int .i64 (ys.getD i 0))
def OwnV (p : Nm) (n : Nat) (v : Value) : Prop := v = .slice (some ⟨p.1, 0, none⟩) n p.2 ∨ (v = .slice none 0 0 ∧ n = 0 ∧ p.2 = 0)
def PWM (P : Program) (f : FuncId) (e eo : TypeId) (xss yss : List (List Int)) (k r : Int) : Prop :=
 Body P f ∧ ∀ (w : World) (v : Value) (p : Nm), OwnV p xss.length v → MatOk w p e eo xss none →
  Calls P f #[v, .int .i64 k] w fun en w' => en = .returned (.int .i64 r) ∧ w'.os = w.os ∧ w'.tape = w.tape ∧ w'.output = w.output ∧ w.heap.size ≤ w'.heap.size ∧ w.drawn ≤ w'.drawn ∧
   (∀ b, b < w.heap.size → ¬ blk (.mat e eo xss none) p b → w'.heap[b]? = w.heap[b]?) ∧ MatOk w' p e eo yss none
def PWS (P : Program) (f : FuncId) (e eo ei : TypeId) (n0 : Int) (xss yss : List (List Int)) (xs ys : List Int) (k r : Int) : Prop :=
 Body P f ∧ ∀ (w : World) (v1 v2 : Value) (p1 p2 : Nm) (cur : Array Value), OwnV p1 xss.length v1 → MatOk w p1 e eo xss none → OwnV p2 xs.length v2 →
  (0 < p2.2 → w.heap[p2.1]? = some (.cells cur ei (0, 0))) → p2.2 ≤ maxLen → cur.size = p2.2 → xs.length ≤ p2.2 → (∀ i, i < xs.length → cur[i]? = some (.int .i64 (xs.getD i 0))) →
  (∀ b, blk (.mat e eo xss none) p1 b → ¬ (b = p2.1 ∧ 0 < p2.2)) →
  Calls P f #[.agg #[.int .i64 n0, v1, v2], .int .i64 k] w fun en w' => en = .returned (.int .i64 r) ∧ w'.os = w.os ∧ w'.tape = w.tape ∧ w'.output = w.output ∧ w.heap.size ≤ w'.heap.size ∧ w.drawn ≤ w'.drawn ∧
   (∀ b, b < w.heap.size → ¬ blk (.mat e eo xss none) p1 b → ¬ (b = p2.1 ∧ 0 < p2.2) → w'.heap[b]? = w.heap[b]?) ∧ MatOk w' p1 e eo yss none ∧
   ∃ cur' : Array Value, (0 < p2.2 → w'.heap[p2.1]? = some (.cells cur' ei (0, 0))) ∧ cur'.size = p2.2 ∧ ∀ i, i < ys.length → cur'[i]? = some (.int .i64 (ys.getD i 0))
end Go.Proofs.Ytomnmacmlhkceaa
