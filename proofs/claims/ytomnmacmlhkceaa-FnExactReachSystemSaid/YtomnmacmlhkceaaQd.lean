/- The pure layer, part D: contracts of functions on plain data; what a call may read of owned blocks; how the relation goes on behind a call. No function of the program is named here. -/
import Derived.Test.YtomnmacmlhkceaaQc
set_option linter.unusedVariables false
set_option linter.unusedSimpArgs false
namespace Go.Proofs.Ytomnmacmlhkceaa
open Go
def snapV : Nat → Store → PV → D
 | 0, _, _ => .undef
 | n + 1, st, p =>
  match p with
  | .d _ x => x
  | .own k _ => match aget st k with
   | some (.arr _ _ m) => .sl m
   | some (.mat _ _ xss none) => .sl (.rows xss)
   | _ => .undef
  | .ptr k c => match aget st k with
   | some (.box _ ps) => .bx (ps.map (snapV n st)) c
   | _ => .undef
  | .fn f k ps => .fn f k (ps.map (snapV n st))
  | .agg ps => .agg (ps.map (snapV n st))
  | .tup ps => .tup (ps.map (snapV n st))
  | .reg k x => match aget st k with
   | some .reg => x
   | _ => .undef
  | .vw k _ => match aget st k with
   | some (.vw xs) => .sl (.ints xs)
   | _ => .undef
  | .rw k i _ => match aget st k with
   | some (.mat _ _ xss none) => .sl (.ints (xss.getD i []))
   | _ => .undef
  | _ => .undef
def snapP : Nat → Store → PV → Prop
 | 0, _, _ => True
 | n + 1, st, p =>
  match p with
  | .own k len => match aget st k with
   | some (.arr _ _ m) => len = m.len
   | some (.mat _ _ xss none) => len = xss.length
   | _ => True
  | .ptr k _ => match aget st k with
   | some (.box _ ps) => ps.foldr (fun q r => snapP n st q ∧ r) True
   | _ => True
  | .fn _ _ ps => ps.foldr (fun q r => snapP n st q ∧ r) True
  | .agg ps => ps.foldr (fun q r => snapP n st q ∧ r) True
  | .tup ps => ps.foldr (fun q r => snapP n st q ∧ r) True
  | .vw k len => match aget st k with
   | some (.vw xs) => len = xs.length
   | _ => True
  | .rw k i len => match aget st k with
   | some (.mat _ _ xss none) => i < xss.length ∧ len = (xss.getD i []).length
   | _ => True
  | _ => True
theorem foldr_and {α : Type} {f : α → Prop} : ∀ {l : List α}, l.foldr (fun q r => f q ∧ r) True → ∀ {j : Nat} {p : α}, l[j]? = some p → f p
 | [], _, _, _, h => by simp at h
 | q :: r, h, 0, p, hp => by simp at hp; subst hp; exact h.1
 | q :: r, h, j + 1, p, hp => by simp at hp; exact foldr_and (l := r) h.2 hp
variable {S : Setting} {ρ : Nat → Nm} {a : Act} {w : World} {σ : Env} {st : Store}
theorem add_lit0 (g n : Nat) : (⟨g, 0, none⟩ : Addr).add n = ⟨g, n, none⟩ := by
 unfold Addr.add; split <;> simp_all
theorem add_litO (g o n : Nat) : (⟨g, o, none⟩ : Addr).add n = ⟨g, o + n, none⟩ := by
 unfold Addr.add; split <;> simp_all
theorem StR.R0 (h : StR S ρ a w σ st) {v : Value} {x : D} (hx : R w.cell? (liveO S.O ρ st) v x) : R w.cell? S.O v x :=
 hx.step fun _ _ hn => ⟨rfl, fun ho => hn (.inl ho)⟩
theorem row_read {w : World} {O : Nat → Prop} {p : Nm} {e eo : TypeId} {xss : List (List Int)} (hm : MatOk w p e eo xss none) {i : Nat} (hi : i < xss.length)
  (hO : ∀ b, blk (.mat e eo xss none) p b → ¬ O b) {v : Value}
  (hv : v = .slice (some ⟨(p.rows i).1, 0, none⟩) (xss.getD i []).length (p.rows i).2 ∨ (v = .slice none 0 0 ∧ (xss.getD i []).length = 0 ∧ (p.rows i).2 = 0)) : R (ucell w) O v (.sl (.ints (xss.getD i []))) := by
 obtain ⟨g1, g2, cur, h1, h2, h3⟩ := hm.inn i hi (by simp)
 rcases hv with rfl | ⟨rfl, h0, _⟩
 ·refine .sl (.ints _) ⟨(p.rows i).1, 0, none⟩ _ _ rfl ⟨g2, by omega⟩ (fun j _ => .int .i64 ((xss.getD i []).getD j 0)) (fun j c hj hc => ?_) (fun j c hj hc => .int _ _)
  have hj : j < (xss.getD i []).length := hj
  have hc : c < 1 := hc
  have hpos : 0 < (p.rows i).2 := by omega
  refine ⟨?_, hO _ (.inr ⟨i, hi, by simp, rfl, hpos⟩)⟩
  rw [show j * (Mem.ints (xss.getD i [])).width + c = j by show j * 1 + c = j; omega, add_lit0]
  refine ucell_mk ?_ (frozen_of_row _ _ _ _ _ (h1 hpos))
  rw [cell_of_row w _ _ _ _ _ (h1 hpos)]
  exact h3 j hj
 ·exact .slnil _ h0
theorem mat_read {w : World} {O : Nat → Prop} {p : Nm} {e eo : TypeId} {xss : List (List Int)} (hm : MatOk w p e eo xss none)
  (hO : ∀ b, blk (.mat e eo xss none) p b → ¬ O b) {v : Value}
  (hv : v = .slice (some ⟨p.1, 0, none⟩) xss.length p.2 ∨ (v = .slice none 0 0 ∧ xss.length = 0 ∧ p.2 = 0)) : R (ucell w) O v (.sl (.rows xss)) := by
 obtain ⟨cur, h1, h2, h3⟩ := hm.out
 rcases hv with rfl | ⟨rfl, h0, _⟩
 ·refine .sl (.rows xss) ⟨p.1, 0, none⟩ _ _ rfl ⟨hm.len, by have := hm.cap; have := hm.len; omega⟩ (fun i _ => cur.getD i undef) (fun i c hi hc => ?_) (fun i c hi hc => ?_)
  ·have hi : i < xss.length := hi
   have hc : c < 1 := hc
   have hpos : 0 < p.2 := by have := hm.len; omega
   refine ⟨?_, hO _ (.inl ⟨rfl, hpos⟩)⟩
   rw [show i * (Mem.rows xss).width + c = i by show i * 1 + c = i; omega, add_lit0]
   refine ucell_mk ?_ (frozen_of_row _ _ _ _ _ (h1 hpos))
   obtain ⟨v, hv, _⟩ := h3 i hi (by simp)
   rw [cell_of_row w _ _ _ _ _ (h1 hpos), hv]
   simp [hv]
  ·have hi : i < xss.length := hi
   obtain ⟨v, hv, hd⟩ := h3 i hi (by simp)
   have e : cur.getD i undef = v := by simp [hv]
   rw [e]
   exact row_read hm hi hO hd
 ·exact .slnil _ h0
theorem snap_ok (h : StR S ρ a w σ st) : ∀ (n : Nat) (v : Value) (p : PV), RP w (liveO S.O ρ st) S.F ρ v p → snapP n st p → R w.cell? S.O v (snapV n st p)
 | 0, v, p, _, _ => .undef v
 | n + 1, v, p, hp, hs => by
  cases hp with
  | d fr x v hd => exact h.R0 hd.plain
  | own k len =>
   simp only [snapV]
   simp only [snapP] at hs
   cases hk : aget st k with
   | none => exact .undef _
   | some e =>
    cases e with
    | arr fr e m =>
     simp only [hk] at hs
     obtain ⟨cur, h1, h2, h3, h4, h5⟩ := h.ents k _ hk
     have hno : ∀ i, i < m.len → ¬ S.O (ρ k).1 := fun i hi => (h.own k _ hk (ρ k).1 ⟨rfl, by omega⟩).2.1
     have hval : ∀ i c, i < m.len → c < m.width → w.cell? ⟨(ρ k).1, i * m.width + c, none⟩ = some (cur.getD (i * m.width + c) undef) := by
      intro i c hi hc
      obtain ⟨v, hv, _⟩ := h5 i c hi hc
      rw [cell_of_row w _ _ _ _ _ (h1 (by omega)), hv]
      simp [hv]
     refine .sl m ⟨(ρ k).1, 0, none⟩ len (ρ k).2 hs (by omega) (fun i c => cur.getD (i * m.width + c) undef) (fun i c hi hc => ⟨by rw [add_lit0]; exact hval i c hi hc, hno i hi⟩) (fun i c hi hc => ?_)
     obtain ⟨v, hv, hd⟩ := h5 i c hi hc
     have : cur.getD (i * m.width + c) undef = v := by simp [hv]
     rw [this]
     exact h.R0 hd.plain
    | box t cs => exact .undef _
    | reg => exact .undef _
    | vw xs => exact .undef _
    | mat e eo xss hole =>
     cases hole with
     | some i => exact .undef _
     | none =>
      simp only [hk] at hs
      subst hs
      have hm : MatOk w (ρ k) e eo xss none := h.ents k _ hk
      exact R.plain (mat_read hm (fun b hb => (h.own k _ hk b hb).2.1) (.inl rfl))
  | ownN k hcap =>
   simp only [snapV]
   simp only [snapP] at hs
   cases hk : aget st k with
   | none => exact .undef _
   | some e =>
    cases e with
    | arr fr e m => simp only [hk] at hs; exact .slnil m hs.symm
    | box t cs => exact .undef _
    | reg => exact .undef _
    | vw xs => exact .undef _
    | mat e eo xss hole =>
     cases hole with
     | some i => exact .undef _
     | none => simp only [hk] at hs; exact .slnil (.rows xss) hs.symm
  | ptr k c =>
   simp only [snapV]
   simp only [snapP] at hs
   cases hk : aget st k with
   | none => exact .undef _
   | some e =>
    cases e with
    | box t cs =>
     simp only [hk] at hs
     obtain ⟨cur, h1, h2, h3⟩ := h.ents k _ hk
     have hno := (h.own k _ hk (ρ k).1 rfl).2.1
     have e0 : (⟨(ρ k).1, c, none⟩ : Addr) = (⟨(ρ k).1, 0, none⟩ : Addr).add c := (add_lit0 _ _).symm
     rw [e0]
     refine .bx _ ⟨(ρ k).1, 0, none⟩ c (fun j => cur.getD j undef) (fun j hj => ⟨?_, hno⟩) (fun j d hd => ?_)
     ·rw [add_lit0, cell_of_row w _ _ _ _ _ h1]
      have hj' : j < cur.size := by rw [h2]; simpa using hj
      simp [hj']
     ·simp only [List.getElem?_map] at hd
      cases hcs : cs[j]? with
      | none => simp [hcs] at hd
      | some q =>
       simp [hcs] at hd
       subst hd
       obtain ⟨v, hv, _, hq⟩ := h3 j q hcs
       have : cur.getD j undef = v := by simp [hv]
       rw [this]
       exact snap_ok h n v q hq (foldr_and hs hcs)
    | arr fr e m => exact .undef _
    | reg => exact .undef _
    | vw xs => exact .undef _
    | mat e eo xss hole => exact .undef _
  | eadr k wd i c => exact .undef _
  | radr k i c => exact .undef _
  | rw k i len =>
   simp only [snapV]
   simp only [snapP] at hs
   cases hk : aget st k with
   | none => exact .undef _
   | some e =>
    cases e with
    | mat e eo xss hole =>
     cases hole with
     | some _ => exact .undef _
     | none =>
     simp only [hk] at hs
     obtain ⟨hi, rfl⟩ := hs
     have hm : MatOk w (ρ k) e eo xss none := h.ents k _ hk
     exact R.plain (row_read hm hi (fun b hb => (h.own k _ hk b hb).2.1) (.inl rfl))
    | _ => exact .undef _
  | rwN k i hz =>
   simp only [snapV]
   simp only [snapP] at hs
   cases hk : aget st k with
   | none => exact .undef _
   | some e =>
    cases e with
    | mat e eo xss hole =>
     cases hole with
     | some _ => exact .undef _
     | none =>
     simp only [hk] at hs
     exact .slnil (.ints _) hs.2.symm
    | _ => exact .undef _
  | fn f kk vs cs hl hr =>
   simp only [snapP] at hs
   refine .fn f kk vs _ (by simpa using hl) fun j v d hv hd => ?_
   simp only [List.getElem?_map] at hd
   cases hcs : cs[j]? with
   | none => simp [hcs] at hd
   | some q => simp [hcs] at hd; subst hd; exact snap_ok h n v q (hr j v q hv hcs) (foldr_and hs hcs)
  | agg vs cs hl hr =>
   simp only [snapP] at hs
   refine .agg vs _ (by simpa using hl) fun j v d hv hd => ?_
   simp only [List.getElem?_map] at hd
   cases hcs : cs[j]? with
   | none => simp [hcs] at hd
   | some q => simp [hcs] at hd; subst hd; exact snap_ok h n v q (hr j v q hv hcs) (foldr_and hs hcs)
  | tup vs cs hl hr =>
   simp only [snapP] at hs
   refine .tup vs _ (by simpa using hl) fun j v d hv hd => ?_
   simp only [List.getElem?_map] at hd
   cases hcs : cs[j]? with
   | none => simp [hcs] at hd
   | some q => simp [hcs] at hd; subst hd; exact snap_ok h n v q (hr j v q hv hcs) (foldr_and hs hcs)
  | optF p => exact .undef _
  | optT p v hp => exact .undef _
  | reg k x v hx =>
   simp only [snapV]
   split
   ·rename_i hk
    exact (R.plain (hx.mono (g' := ucell w) (O' := S.O) fun a v h1 h2 => ⟨h1, fun ho => by
     simp only [Classical.not_not] at h2
     exact (h.own k _ hk a.block h2).2.1 ho⟩))
   ·exact .undef _
  | vw k len cap hcap =>
   simp only [snapV]
   simp only [snapP] at hs
   cases hk : aget st k with
   | none => exact .undef _
   | some e =>
    cases e with
    | vw xs =>
     simp only [hk] at hs
     have hx := h.ents k _ hk
     refine .sl (.ints xs) ⟨(ρ k).1, (ρ k).2, none⟩ len cap hs hcap (fun i _ => .int .i64 (xs.getD i 0)) (fun i c hi hc => ?_) (fun i c hi hc => .int _ _)
     have hi : i < xs.length := hi
     have hc : c < 1 := hc
     refine ⟨?_, (h.own k _ hk (ρ k).1 ⟨rfl, by omega⟩).2.1⟩
     rw [show i * (Mem.ints xs).width + c = i by show i * 1 + c = i; omega, add_litO]
     exact (ucell_some (hx i hi)).1
    | _ => exact .undef _
  | vwN k v hv =>
   simp only [snapV]
   simp only [snapP] at hs
   cases hk : aget st k with
   | none => exact .undef _
   | some e =>
    cases e with
    | vw xs =>
     simp only [hk] at hs
     have h0 : xs.length = 0 := hs.symm
     rcases hv with rfl | ⟨a, cap, rfl⟩
     ·exact .slnil _ h0
     ·exact .sl (.ints xs) a 0 cap hs ⟨Nat.zero_le _, Nat.zero_le _⟩ (fun _ _ => undef) (fun i c hi _ => by have hi : i < xs.length := hi; omega) (fun i c hi _ => by have hi : i < xs.length := hi; omega)
    | _ => exact .undef _
inductive Re where
 | d (x : D)
 | own (e : TypeId) (m : Mem)
 | mat (e eo : TypeId) (xss : List (List Int))
def Re.ent : Re → Option Ent
 | .d _ => none
 | .own e m => some (.arr true e m)
 | .mat e eo xss => some (.mat e eo xss none)
def ReOk (w' : World) (base : Nat) (ρ : Nat → Nm) (Ob : Nat → Prop) (i : Nat) (v : Value) : Re → Prop
 | .d x => R (ucell w') (fun b => Ob b ∨ b < base) v x
 | .own e m => (v = .slice (some ⟨(ρ i).1, 0, none⟩) m.len (ρ i).2 ∨ (v = .slice none 0 0 ∧ m.len = 0 ∧ (ρ i).2 = 0)) ∧ (0 < (ρ i).2 → base ≤ (ρ i).1) ∧
   ∃ cur : Array Value, (0 < (ρ i).2 → w'.heap[(ρ i).1]? = some (.cells cur e (0, 0))) ∧ (ρ i).2 ≤ maxLen ∧ cur.size = (ρ i).2 * m.width ∧ m.len ≤ (ρ i).2 ∧
    ∀ i c, i < m.len → c < m.width → ∃ v, cur[i * m.width + c]? = some v ∧ R (ucell w') (fun b => Ob b ∨ b < base) v (m.get i c)
 | .mat e eo xss => (v = .slice (some ⟨(ρ i).1, 0, none⟩) xss.length (ρ i).2 ∨ (v = .slice none 0 0 ∧ xss.length = 0 ∧ (ρ i).2 = 0)) ∧ MatOk w' (ρ i) e eo xss none ∧ ∀ b, blk (.mat e eo xss none) (ρ i) b → base ≤ b ∧ b < w'.heap.size
def ownB (ρ : Nat → Nm) (rs : List Re) (b : Nat) : Prop := ∃ i r e, rs[i]? = some r ∧ r.ent = some e ∧ blk e (ρ i) b
inductive Res where
 | one (r : Re)
 | tup (rs : List Re)
 | agg (rs : List Re)
 | agt (n : Nat) (rs : List Re)
def Res.list : Res → List Re
 | .one r => [r]
 | .tup rs => rs
 | .agg rs => rs
 | .agt _ rs => rs
def Res.value : Res → List Value → Value
 | .one _, vs => vs.getD 0 undef
 | .tup _, vs => .tuple vs.toArray
 | .agg _, vs => .agg vs.toArray
 | .agt n _, vs => .tuple (Value.agg (vs.take n).toArray :: vs.drop n).toArray
def ResOk (base : Nat) (w' : World) (v : Value) (r : Res) : Prop :=
 ∃ (ρ : Nat → Nm) (vs : List Value), v = r.value vs ∧ vs.length = r.list.length ∧
  (∀ i j x y e e' b, r.list[i]? = some x → r.list[j]? = some y → x.ent = some e → y.ent = some e' → blk e (ρ i) b → blk e' (ρ j) b → i = j) ∧
  ∀ (i : Nat) (v : Value) (x : Re), vs[i]? = some v → r.list[i]? = some x → ReOk w' base ρ (ownB ρ r.list) i v x
def All2 {α β : Type} (r : α → β → Prop) (xs : List α) (ys : List β) : Prop :=
 xs.length = ys.length ∧ ∀ (j : Nat) (x : α) (y : β), xs[j]? = some x → ys[j]? = some y → r x y
def Body (P : Program) (f : FuncId) : Prop := ∀ (args : Array Value) (w : World), (callFunc f args).run P w = .ok (.enter f args) w
theorem Body.run {P : Program} {f : FuncId} (h : Body P f) (args : Array Value) (w : World) : (callFunc f args).run P w = .ok (.enter f args) w := h args w
def PC (P : Program) (f : FuncId) (args : List D) (r : Res) : Prop :=
 Body P f ∧ ∀ (w : World) (O : Nat → Prop) (vs : List Value), (∀ b, O b → b < w.heap.size) → All2 (R w.cell? O) vs args →
  Calls P f vs.toArray w fun e w' => ∃ v, e = .returned v ∧ Bel w.heap.size w w' ∧ ResOk w.heap.size w' v r
def PCs (P : Program) (f : FuncId) (args : List D) (j : Nat) (x : D) : Prop :=
 Body P f ∧ ∀ (w : World) (O O1 : Nat → Prop) (vs : List Value) (vj : Value) (dj : D), (∀ b, O b → b < w.heap.size) → (∀ b, O1 b → b < w.heap.size) → All2 (R w.cell? O) vs args →
  vs[j]? = some vj → args[j]? = some dj → R (ucell w) (fun b => O b ∨ O1 b) vj dj →
  Calls P f vs.toArray w fun e w' => ∃ v, e = .returned v ∧ Bel w.heap.size w w' ∧ R (ucell w') (fun b => O b ∨ O1 b) v x
def PK (P : Program) (f : FuncId) (t : TypeId) (kx : D) (ds ds' : List D) (rest : List D) (r : Res) : Prop :=
 Body P f ∧ ds'.length = ds.length ∧ ∀ (w : World) (O : Nat → Prop) (g : Nat) (cur : Array Value) (vs : List Value),
  w.heap[g]? = some (.cells cur t (0, 0)) → cur.size = ds.length + 1 → (∀ b, O b → b < w.heap.size) → O g →
  (∀ (j : Nat) (x : D), (kx :: ds)[j]? = some x → ∃ u, cur[j]? = some u ∧ u.oneCell' = true ∧ R w.cell? O u x) → All2 (R w.cell? O) vs rest →
  Calls P f (.pointer (some ⟨g, 0, none⟩) :: vs).toArray w fun en w' => ∃ v, en = .returned v ∧
   w'.os = w.os ∧ w'.tape = w.tape ∧ w'.output = w.output ∧ w.heap.size ≤ w'.heap.size ∧ w.drawn ≤ w'.drawn ∧ (∀ b, b < w.heap.size → b ≠ g → w'.heap[b]? = w.heap[b]?) ∧
   (∃ cur' : Array Value, w'.heap[g]? = some (.cells cur' t (0, 0)) ∧ cur'.size = ds.length + 1 ∧ cur'[0]? = cur[0]? ∧
    ∀ (j : Nat) (x : D), ds'[j]? = some x → ∃ u, cur'[j + 1]? = some u ∧ u.oneCell' = true ∧ ∃ g1 O1, R g1 O1 u x) ∧ ResOk w.heap.size w' v r
def cellDs : List PV → Option (List D)
 | [] => some []
 | .d _ x :: r => match x.flat && x.cell, cellDs r with
  | true, some xs => some (x :: xs)
  | _, _ => none
 | _ => none
theorem cellDs_get : ∀ {cs : List PV} {ds : List D}, cellDs cs = some ds → cs.length = ds.length ∧ ∀ (j : Nat) (x : D), ds[j]? = some x → x.flat = true ∧ x.cell = true ∧ ∃ fr, cs[j]? = some (.d fr x)
 | [], ds, h => by
  simp only [cellDs, Option.some.injEq] at h
  subst h
  exact ⟨rfl, fun j x hx => by simp at hx⟩
 | .d fr y :: r, ds, h => by
  simp only [cellDs] at h
  split at h
  ·rename_i xs hf hxs
   simp only [Option.some.injEq] at h
   subst h
   simp only [Bool.and_eq_true] at hf
   obtain ⟨h1, h2⟩ := cellDs_get hxs
   refine ⟨by simp [h1], fun j x hx => ?_⟩
   cases j with
   | zero => simp at hx; subst hx; exact ⟨hf.1, hf.2, fr, rfl⟩
   | succ j => exact h2 j x (by simpa using hx)
  ·cases h
 | .own _ _ :: _, _, h => by simp [cellDs] at h
 | .ptr _ _ :: _, _, h => by simp [cellDs] at h
 | .eadr _ _ _ _ :: _, _, h => by simp [cellDs] at h
 | .fn _ _ _ :: _, _, h => by simp [cellDs] at h
 | .agg _ :: _, _, h => by simp [cellDs] at h
 | .tup _ :: _, _, h => by simp [cellDs] at h
 | .opt _ _ :: _, _, h => by simp [cellDs] at h
 | .reg _ _ :: _, _, h => by simp [cellDs] at h
 | .vw _ _ :: _, _, h => by simp [cellDs] at h
 | .rw _ _ _ :: _, _, h => by simp [cellDs] at h
 | .radr _ _ _ :: _, _, h => by simp [cellDs] at h
def flatDs (ds : List D) : Bool := ds.all fun x => x.flat && x.cell
theorem StR.call (h : StR S ρ a w σ st) {w' : World} (hb : Bel w.heap.size w w') {ρ' : Nat → Nm} {st' : Store}
  (hget : ∀ j e, aget st' j = some e → (aget st j = some e ∧ ρ' j = ρ j) ∨
   (aget st j = none ∧ (∀ b, blk e (ρ' j) b → w.heap.size ≤ b ∧ b < w'.heap.size) ∧ (∀ t cs, e ≠ .box t cs) ∧ EntOk w' (liveO S.O ρ' st') S.F ρ' j e))
  (hkeep : ∀ j e, aget st j = some e → aget st' j = some e)
  (hinj : ∀ j j' e e', aget st j = none → aget st j' = none → aget st' j = some e → aget st' j' = some e' → ∀ b, blk e (ρ' j) b → blk e' (ρ' j') b → j = j')
  (hm : ∀ t p, aget σ t = some p → ∀ j, p.ment j = true → ρ' j = ρ j) (hme : ∀ t e, aget st t = some e → ∀ j, e.ment j = true → ρ' j = ρ j) : StR S ρ' a w' σ st' := by
 have hlow : ∀ b, b < w.heap.size → ¬ liveO S.O ρ st b → ¬ liveO S.O ρ' st' b := by
  intro b hlt hn h3
  rcases h3 with h3 | ⟨j, e, hj, hbj⟩
  ·exact hn (.inl h3)
  ·rcases hget j e hj with ⟨h1, h2⟩ | ⟨_, h2, _⟩
   ·rw [h2] at hbj; exact hn (.inr ⟨j, e, h1, hbj⟩)
   ·have := (h2 b hbj).1; omega
 have hk : ∀ b, b < w.heap.size → ¬ liveO S.O ρ st b → w'.heap[b]? = w.heap[b]? ∧ ¬ liveO S.O ρ' st' b := fun b hlt hn => ⟨hb.block b hlt, hlow b hlt hn⟩
 refine ⟨h.sz, h.dfr, h.ob, fun j e he => ?_, fun j e he b hbj => ?_, fun j j' e e' h1 h2 b hb1 hb2 => ?_, fun t p hp => ⟨(h.env t p hp).1, ?_⟩, ?_, fun t p hp j hj => hkeep _ _ (h.rg t p hp j hj), fun j t cs hj i hi => ?_, fun g hg => ?_⟩
 rotate_right
 ·obtain ⟨p1, t, cs, p2⟩ := h.pn g hg
  have p3 := hkeep 0 _ p2
  rcases hget 0 _ p3 with ⟨_, h2⟩ | ⟨h2, _⟩
  ·exact ⟨by rw [h2]; exact p1, t, cs, p3⟩
  ·rw [p2] at h2; cases h2
 ·rcases hget j e he with ⟨h1, h2⟩ | ⟨_, _, _, h3⟩
  ·exact (h.ents j e h1).step hb.size hk (hme j e h1) h2 (fun b _ hlt => hb.block b hlt) (fun _ _ _ _ _ b _ _ hlt => hb.block b hlt)
  ·exact h3
 ·rcases hget j e he with ⟨h1, h2⟩ | ⟨_, h2, _⟩
  ·rw [h2] at hbj
   obtain ⟨x1, x2, x3⟩ := h.own j e h1 b hbj
   exact ⟨Nat.lt_of_lt_of_le x1 hb.size, x2, x3⟩
  ·obtain ⟨x1, x2⟩ := h2 b hbj
   have := h.frm.size
   exact ⟨x2, fun ho => by have := h.ob b ho; omega, .inl (by omega)⟩
 ·rcases hget j e h1 with ⟨g1, g2⟩ | ⟨g0, g2, _⟩ <;> rcases hget j' e' h2 with ⟨k1, k2⟩ | ⟨k0, k2, _⟩
  ·rw [g2] at hb1; rw [k2] at hb2; exact h.inj j j' e e' g1 k1 b hb1 hb2
  ·rw [g2] at hb1
   have := (h.own j e g1 b hb1).1; have := (k2 b hb2).1; omega
  ·rw [k2] at hb2
   have := (h.own j' e' k1 b hb2).1; have := (g2 b hb1).1; omega
  ·exact hinj j j' e e' g0 k0 h1 h2 b hb1 hb2
 ·exact (h.env t p hp).2.step hk (hm t p hp) (fun _ _ b _ _ hlt => hb.block b hlt)
 ·exact h.frm.trans hb.os hb.tape hb.output hb.size hb.drawn fun b h1 _ => hb.block b (Nat.lt_of_lt_of_le h1 h.frm.size)
 ·rcases hget j _ hj with ⟨h1, _⟩ | ⟨_, _, h1, _⟩
  ·exact hkeep _ _ (h.rb j t cs h1 i hi)
  ·exact absurd rfl (h1 t cs)
end Go.Proofs.Ytomnmacmlhkceaa
