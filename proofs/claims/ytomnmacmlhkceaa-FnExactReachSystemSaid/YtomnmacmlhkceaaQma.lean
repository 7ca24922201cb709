/- The pure layer, marks, part 3: what the body of a marking function asks. No function of the program is named here. -/
import Derived.Test.YtomnmacmlhkceaaQra
set_option linter.unusedVariables false
set_option linter.unusedSimpArgs false
namespace Go.Proofs.Ytomnmacmlhkceaa
open Go
variable {B : Nat → Prop} {w w' : World}
abbrev MEnv := List (Nat × MV)
def XOk (B : Nat → Prop) (q : Addr) (w : World) (xs : List Int) : Prop := ∀ i, i < xs.length → ucell w (q.add i) = some (.int .i64 (xs.getD i 0)) ∧ B (q.add i).block
structure MSt (n : Nat) (w0 : World) (B : Nat → Prop) (q : Addr) (a : Act) (w : World) (σ : MEnv) (xs : List Int) : Prop where
 xok : XOk B q w xs
 sz : a.tmps.size = n
 dfr : a.defers = []
 bl : ∀ b, B b → b < w0.heap.size
 mr : MkR B w0 w
 env : ∀ t p, aget σ t = some p → t < n ∧ RM w B q (a.tmps.getD t undef) p
def mput (σ : MEnv) (dst : Option Nat) (p : MV) : MEnv :=
 match dst with
 | some d => (d, p) :: σ
 | none => σ
def evM (σ : MEnv) : Operand → MV
 | .tmp t => match aget σ t with
  | some p => p
  | none => .u
 | .const (.int .i64 n) => .int n
 | .const (.bool b) => .bool b
 | .func f => .fn f
 | _ => .u
variable {n : Nat} {w0 : World} {q : Addr} {a : Act} {σ : MEnv} {xs : List Int} {P : Program} {o : Oper}
theorem evM_ok (h : MSt n w0 B q a w σ xs) (x : Operand) : RM w B q (a.eval x) (evM σ x) := by
 cases x with
 | tmp t =>
  simp only [evM]
  cases ht : aget σ t with
  | none => trivial
  | some p => exact (h.env t p ht).2
 | const v =>
  unfold evM
  split
  all_goals first | trivial | (rename_i e; cases e; rfl) | (rename_i e; cases e)
 | global g => trivial
 | func f => rfl
theorem MSt.val (h : MSt n w0 B q a w σ xs) (hm : MkR B w w') {ys : List Int} (hx : XOk B q w' ys) (dst : Option Nat) (v : Value) (p : MV) (hd : ∀ d, dst = some d → d < n) (hp : RM w' B q v p) : MSt n w0 B q (a.put dst v) w' (mput σ dst p) ys := by
 have h0 : MSt n w0 B q a w' σ ys := ⟨hx, h.sz, h.dfr, h.bl, h.mr.trans hm, fun t p ht => ⟨(h.env t p ht).1, (h.env t p ht).2.mk hm⟩⟩
 cases dst with
 | none => exact h0
 | some d =>
  have hlt := hd d rfl
  refine ⟨hx, by simp [Act.put, h.sz], h.dfr, h.bl, h0.mr, fun t q hq => ?_⟩
  rcases aget_cons hq with ⟨rfl, rfl⟩ | ⟨hne, hq⟩
  ·refine ⟨hlt, ?_⟩
   have : t < a.tmps.size := by rw [h.sz]; exact hlt
   simpa [Act.put, this] using hp
  ·have := h0.env t q hq
   simpa [Act.put, Array.getElem?_setIfInBounds_ne (Ne.symm hne)] using this
def mBad : List Prop × MV := ([False], .u)
def isNil (xs : List Int) : Bool :=
 match xs with
 | [] => true
 | _ => false
def mOp (P : Program) (C : FuncId → List MV → Option Int) (ev : Operand → MV) (xs : List Int) : Op → List Prop × MV
 | .move x => ([], ev x)
 | .assign x => ([], ev x)
 | .binOp op _ x y _ =>
  match op, ev x, ev y with
  | .add, .int m, .int n => ([inK .i64 (m + n)], .int (m + n))
  | .lss, .int m, .int n => ([], .bool (decide (m < n)))
  | _, _, _ => mBad
 | .indexAddr t x i =>
  match P.underlying t, ev i with
  | some (.slice e), .int n =>
   match sizeIs P e 1, sizeIs P e 2, ev x with
   | true, _, .shp (.ints m) => ([0 ≤ n, n < m], .shp .cell)
   | true, _, .row m => ([0 ≤ n, n < m], .rce n.toNat)
   | true, _, .shp (.rows ns) => ([0 ≤ n, n < ns.length], .shp (.rcell (ns.getD n.toNat 0)))
   | _, true, .shp (.pairs m) => ([0 ≤ n, n < m], .shp .pcell)
   | _, _, _ => mBad
  | some (.array len e), .int n =>
   match sizeIs P e 1 && Nat.beq len 2, ev x with
   | true, .shp .pcell => ([0 ≤ n, n < 2], .shp .cell)
   | _, _ => mBad
  | _, _ => mBad
 | .load t x =>
  match tyAgg P t, ev x with
  | some false, .shp (.rcell n) => ([], .shp (.ints n))
  | some false, .ptr ss c => match ss[c]? with
   | some s => ([], .shp s)
   | none => mBad
  | _, _ => mBad
 | .store t x y =>
  match sizeIs P t 1, ev x, ev y, isNil xs with
  | true, .shp .cell, .int _, true => ([], .u)
  | true, .rce i, .int _, _ => ([i < xs.length], .u)
  | _, _, _, _ => mBad
 | .box _ x =>
  match ev x with
  | .agg ss => ([], .ptr ss 0)
  | _ => mBad
 | .fieldAddr s x f =>
  match structField P s f, ev x with
  | some fd, .ptr ss c => match tySize P fd.type with
   | some n => match Nat.blt 0 n with
    | true => ([], .ptr ss (c + fd.offset))
    | false => mBad
   | none => mBad
  | _, _ => mBad
 | .call c =>
  match c.callee, c.args.toList, c.argTypes.toList with
  | .builtin .len, [x], [t] =>
   match tyElem P t, ev x with
   | some _, .shp (.ints m) => ([], .int m)
   | some _, .row m => ([], .int m)
   | some _, .shp (.rows ns) => ([], .int ns.length)
   | some _, .shp (.pairs m) => ([], .int m)
   | _, _ => mBad
  | .value g, args, _ =>
   match ev g, isNil xs with
   | .fn f, true => match C f (args.map ev) with
    | some n => ([PG P f (args.map ev) n], .int n)
    | none => mBad
   | _, _ => mBad
  | _, _, _ => mBad
 | _ => mBad
def mX (ev : Operand → MV) (xs : List Int) : Op → List Int
 | .store _ x y =>
  match ev x, ev y with
  | .rce i, .int m => xs.set i m
  | _, _ => xs
 | _ => xs
def MGood (P : Program) (n : Nat) (w0 : World) (B : Nat → Prop) (q : Addr) (a : Act) (w : World) (σ : MEnv) (xs : List Int) (o : Oper) (p : MV) : Prop :=
 ∀ (K : Act → World → Prop) (Q : Exit → Act → World → Prop), (∀ a' w', MSt n w0 B q a' w' (mput σ o.dst p) xs → K a' w') → o.wp P a w K Q
theorem isNil_ok {xs : List Int} (h : isNil xs = true) (B : Nat → Prop) (q : Addr) (w : World) : XOk B q w xs := by
 cases xs with
 | nil => intro i hi; simp at hi
 | cons x r => cases h
theorem MGood.val (h : MSt n w0 B q a w σ xs) (hd : ∀ d, o.dst = some d → d < n) {v : Value} {p : MV} (hr : (execOp a.eval o).run P w = .ok (.value v) w) (hp : RM w B q v p) : MGood P n w0 B q a w σ xs o p :=
 fun _ _ hk => wp_value hr (hk _ _ (h.val (MkR.refl B w) h.xok o.dst v p hd hp))
theorem mbad {α : Prop} (h : ∀ q ∈ mBad.1, q) : α := (h False (by simp [mBad])).elim
theorem sliceAt_run {t e : TypeId} {x i : Operand} (ho : o.op = .indexAddr t x i) (hu : P.underlying t = some (.slice e)) {s : Nat} (hs : tySize P e = some s) {b : Addr} {len cap : Nat} {k : Int}
  (hx : a.eval x = .slice (some b) len cap) (hi : a.eval i = .int .i64 k) (h0 : 0 ≤ k) (h1 : k < len) :
  (execOp a.eval o).run P w = .ok (.value (.pointer (some (b.add (k.toNat * s))))) w := by
 have h2 : ¬ k < 0 := by omega
 have h3 : k.toNat < len := by omega
 simp [execOp, ho, hx, hi, Instr.indexAt, asIntOf, run_underlying hu, h2, h1, h0, run_sizeOf hs]
theorem ucell_set {b ad : Addr} {z v x : Value} (hb : ucell w b = some z) (hv : ucell w ad = some v) : (¬ (b.block = ad.block ∧ b.off = ad.off) ∧ ucell (w.setCell b x) ad = some v) ∨ ((b.block = ad.block ∧ b.off = ad.off) ∧ v = z ∧ ucell (w.setCell b x) ad = some x) := by
 obtain ⟨c1, c2⟩ := ucell_some hb
 obtain ⟨d1, d2⟩ := ucell_some hv
 by_cases hbl : b.block = ad.block
 ·cases hh : w.heap[ad.block]? with
  | none => simp [World.cell?, hh] at d1
  | some ob =>
   cases ob with
   | cells c e fz =>
    have hs : b.spot.isSome = false := by
     cases hs : b.spot.isSome with
     | false => rfl
     | true => simp [World.cell?, hbl, hh, hs] at c1
    have hs2 : ad.spot.isSome = false := by
     cases hs : ad.spot.isSome with
     | false => rfl
     | true => simp [World.cell?, hh, hs] at d1
    have c3 : c[b.off]? = some z := by simpa [World.cell?, hbl, hh, hs] using c1
    have d3 : c[ad.off]? = some v := by simpa [World.cell?, hh, hs2] using d1
    have hw : (w.setCell b x).heap[ad.block]? = some (.cells (c.setIfInBounds b.off x) e fz) := by
     simp [World.setCell, Array.getElem?_modify, hbl, hh, hs]
    have hfr : (w.setCell b x).frozen? ad = false := by simpa [World.frozen?, hh, hw] using d2
    by_cases ho : b.off = ad.off
    ·right
     refine ⟨⟨hbl, ho⟩, ?_, ucell_mk ?_ hfr⟩
     ·rw [ho, d3] at c3; exact Option.some.inj c3
     ·have hlt := (Array.getElem?_eq_some_iff.1 d3).1
      simp [World.cell?, hw, hs2, ho, hlt]
    ·left
     exact ⟨fun hh => ho hh.2, ucell_mk (by simp [World.cell?, hw, hs2, Array.getElem?_setIfInBounds_ne ho, d3]) hfr⟩
   | _ => simp [World.cell?, hh] at d1
 ·left
  exact ⟨fun hh => hbl hh.1, by rw [ucell_of_block (w := w) (by simp [World.setCell, Array.getElem?_modify, hbl])]; exact hv⟩
theorem ucell_set_same {b : Addr} {z x : Value} (hb : ucell w b = some z) : ucell (w.setCell b x) b = some x := by
 rcases ucell_set (x := x) hb hb with h | h
 ·exact absurd ⟨rfl, rfl⟩ h.1
 ·exact h.2.2
theorem add_off (b : Addr) (i : Nat) : (b.add i).off = b.off + i := by
 unfold Addr.add; split <;> simp_all
theorem setCell_mk {b : Addr} {z k : Int} (hb : ucell w b = some (.int .i64 z)) (hB : B b.block) : MkR B w (w.setCell b (.int .i64 k)) := by
 refine ⟨rfl, rfl, rfl, by simp [World.setCell], Nat.le_refl _, fun g hg hn => ?_, fun ad v hv _ => ?_, fun g c e fz _ hc => ?_⟩
 ·have hne : b.block ≠ g := fun e => hn (e ▸ hB)
  simp [World.setCell, Array.getElem?_modify, hne]
 ·rcases ucell_set (x := .int .i64 k) hb hv with h1 | ⟨h1, h2⟩
  ·exact .inl h1.2
  ·exact .inr ⟨z, k, h2.1, h2.2⟩
 ·by_cases hbg : b.block = g
  ·refine ⟨_, by simp only [World.setCell, Array.getElem?_modify, hbg, if_true, hc, Option.map_some]; rfl, ?_⟩
   split <;> simp
  ·exact ⟨c, by simp [World.setCell, Array.getElem?_modify, hbg, hc], rfl⟩
theorem mOp_good (h : MSt n w0 B q a w σ xs) (hd : ∀ d, o.dst = some d → d < n) (C : FuncId → List MV → Option Int) (hp : ∀ q ∈ (mOp P C (evM σ) xs o.op).1, q) :
  MGood P n w0 B q a w σ (mX (evM σ) xs o.op) o (mOp P C (evM σ) xs o.op).2 := by
 revert hp
 cases hop : o.op with
 | move x => intro hp; exact MGood.val h hd (v := a.eval x) (by simp [execOp, hop]) (evM_ok h x)
 | assign x => intro hp; exact MGood.val h hd (v := a.eval x) (by simp [execOp, hop]) (evM_ok h x)
 | binOp op t x y u =>
  simp only [mOp]
  have hx := evM_ok h x
  have hy := evM_ok h y
  have guard : ∀ op' (i j : Int), eqGuard op' t x y (.int .i64 i) (.int .i64 j) = pure () := fun op' _ _ => by cases op' <;> rfl
  split
  ·rename_i m k e1 e2
   rw [e1] at hx; rw [e2] at hy
   intro hp
   have hin : inK .i64 (m + k) := hp _ (by simp)
   have hx : a.eval x = .int .i64 m := hx
   have hy : a.eval y = .int .i64 k := hy
   refine MGood.val h hd (v := .int .i64 (m + k)) ?_ rfl
   simp [execOp, hop, hx, hy, guard, binOp, Op.intArith, wrap_in hin]
  ·rename_i m k e1 e2
   rw [e1] at hx; rw [e2] at hy
   intro hp
   have hx : a.eval x = .int .i64 m := hx
   have hy : a.eval y = .int .i64 k := hy
   refine MGood.val h hd (v := .bool (decide (m < k))) ?_ rfl
   simp [execOp, hop, hx, hy, guard, binOp, Op.intCmp]
  ·exact mbad
 | indexAddr t x i =>
  simp only [mOp]
  have hx := evM_ok h x
  have hi := evM_ok h i
  split
  ·rename_i e k hu e2
   rw [e2] at hi
   have hi : a.eval i = .int .i64 k := hi
   split
   ·rename_i m hs e1
    rw [e1] at hx
    intro hp
    have h0 : 0 ≤ k := hp _ (by simp)
    have h1 : k < m := hp _ (by simp)
    obtain ⟨ad, cap, hx1, hx2⟩ := hx
    obtain ⟨b, rfl, hc⟩ := hx2 k.toNat (by omega)
    have := sliceAt_run (w := w) hop hu (sizeIs_size hs) hx1 hi h0 (by omega)
    rw [Nat.mul_one] at this
    exact MGood.val h hd this ⟨_, rfl, hc⟩
   ·rename_i m hs e1
    rw [e1] at hx
    intro hp
    have h0 : 0 ≤ k := hp _ (by simp)
    have h1 : k < m := hp _ (by simp)
    obtain ⟨ad, cap, hx1, hx2⟩ := hx
    obtain rfl := hx2 (by omega)
    have := sliceAt_run (w := w) hop hu (sizeIs_size hs) hx1 hi h0 (by omega)
    rw [Nat.mul_one] at this
    exact MGood.val h hd this rfl
   ·rename_i ns hs e1
    rw [e1] at hx
    intro hp
    have h0 : 0 ≤ k := hp _ (by simp)
    have h1 : k < ns.length := hp _ (by simp)
    obtain ⟨ad, cap, hx1, hx2⟩ := hx
    have hlt : k.toNat < ns.length := by omega
    obtain ⟨b, u, rfl, hc1, hc2, hc3⟩ := hx2 k.toNat _ (List.getElem?_eq_getElem hlt)
    have := sliceAt_run (w := w) hop hu (sizeIs_size hs) hx1 hi h0 (by omega)
    rw [Nat.mul_one] at this
    refine MGood.val h hd this ⟨_, u, rfl, hc1, hc2, ?_⟩
    have e : ns.getD k.toNat 0 = ns[k.toNat] := by simp [hlt]
    rw [e]; exact hc3
   ·rename_i m hs e1
    rw [e1] at hx
    intro hp
    have h0 : 0 ≤ k := hp _ (by simp)
    have h1 : k < m := hp _ (by simp)
    obtain ⟨ad, cap, hx1, hx2⟩ := hx
    obtain ⟨b, rfl, _⟩ := hx2 k.toNat 0 (by omega) (by omega)
    have := sliceAt_run (w := w) hop hu (sizeIs_size hs) hx1 hi h0 (by omega)
    refine MGood.val h hd this ⟨_, rfl, fun c hc => ?_⟩
    obtain ⟨b', hb', hc'⟩ := hx2 k.toNat c (by omega) hc
    cases hb'
    rw [add_add]; exact hc'
   ·exact mbad
  ·rename_i len e k hu e2
   rw [e2] at hi
   have hi : a.eval i = .int .i64 k := hi
   split
   ·rename_i hs e1
    simp only [Bool.and_eq_true, beq_true] at hs
    rw [e1] at hx
    intro hp
    have h0 : 0 ≤ k := hp _ (by simp)
    have h1 : k < 2 := hp _ (by simp)
    obtain ⟨b, hx1, hx2⟩ := hx
    have hlen : k < len := by omega
    refine MGood.val h hd (v := .pointer (some (b.add k.toNat))) ?_ ⟨_, rfl, hx2 _ (by omega)⟩
    simp [execOp, hop, hx1, hi, Instr.indexAt, asIntOf, run_underlying hu, h0, hlen, run_sizeOf (sizeIs_size hs.1), Instr.sureAddr]
   ·exact mbad
  ·exact mbad
 | load t x =>
  simp only [mOp]
  have hx := evM_ok h x
  have run : ∀ (ad : Addr) (v : Value), tyAgg P t = some false → a.eval x = .pointer (some ad) → w.cell? ad = some v → (execOp a.eval o).run P w = .ok (.value v) w := by
   intro ad v h0 h1 h2
   simp [execOp, hop, h1, Instr.loadAt, Instr.sureAddr, run_loadVar1 h0 h2]
  split
  ·rename_i m hg e1
   rw [e1] at hx
   obtain ⟨b, u, hx1, hx2, hx3, hx4⟩ := hx
   intro _
   exact MGood.val h hd (run b u hg hx1 (ucell_some hx2).1) hx4
  ·rename_i ss c hg e1
   rw [e1] at hx
   obtain ⟨g, hx1, hx2, hx3, hx4⟩ := hx
   split
   ·rename_i s hs
    intro _
    obtain ⟨v, hv1, hv2⟩ := hx4 c s hs
    exact MGood.val h hd (run _ v hg hx1 hv1) hv2
   ·exact mbad
  ·exact mbad
 | store t x y =>
  simp only [mOp]
  have hx := evM_ok h x
  have hy := evM_ok h y
  have run : ∀ (b : Addr) (z k : Int), sizeIs P t 1 = true → a.eval x = .pointer (some b) → a.eval y = .int .i64 k → ucell w b = some (.int .i64 z) → (execOp a.eval o).run P w = .ok .skip (w.setCell b (.int .i64 k)) := by
   intro b z k hs hx1 hy hx2
   obtain ⟨c1, c2⟩ := ucell_some hx2
   have hst : (store (b.add 0) (.int .i64 k)).run P w = .ok () (w.setCell b (.int .i64 k)) := by
    rw [add_zero, run_store P w b _ _ rfl, c1]
    simp [c2]
   simp [execOp, hop, hx1, hy, Instr.storeAt, Instr.sureAddr, storeVar, run_sizeOf (sizeIs_size hs), Value.cells, storeCells, hst]
  split
  ·rename_i k hs e1 e2 e3
   simp only [mX, e1]
   rw [e1] at hx; rw [e2] at hy
   have hy : a.eval y = .int .i64 k := hy
   obtain ⟨b, hx1, z, hx2, hx3⟩ := hx
   intro _ K Q hK
   exact wp_skipped (run b z k hs hx1 hy hx2) (hK _ _ (h.val (setCell_mk hx2 hx3) (isNil_ok e3 _ _ _) o.dst _ .u hd trivial))
  ·rename_i i k hs e1 e2
   simp only [mX, e1, e2]
   rw [e1] at hx; rw [e2] at hy
   have hy : a.eval y = .int .i64 k := hy
   have hx1 : a.eval x = .pointer (some (q.add i)) := hx
   intro hp K Q hK
   have hi : i < xs.length := hp _ (List.mem_singleton.2 rfl)
   obtain ⟨hx2, hx3⟩ := h.xok i hi
   have hX : XOk B q (w.setCell (q.add i) (.int .i64 k)) (xs.set i k) := by
    intro j hj
    have hj' : j < xs.length := by simpa using hj
    obtain ⟨g1, g2⟩ := h.xok j hj'
    refine ⟨?_, g2⟩
    rw [getD_set _ _ _ _ _ hi]
    by_cases hji : j = i
    ·subst hji
     rw [if_pos rfl]
     exact ucell_set_same hx2
    ·rw [if_neg hji]
     rcases ucell_set (x := .int .i64 k) hx2 g1 with h1 | ⟨h1, h2⟩
     ·exact h1.2
     ·rw [add_off, add_off] at h1
      have := h1.2
      omega
   exact wp_skipped (run _ _ k hs hx1 hy hx2) (hK _ _ (h.val (setCell_mk hx2 hx3) hX o.dst _ .u hd trivial))
  ·exact mbad
 | box t x =>
  simp only [mOp]
  have hx := evM_ok h x
  split
  ·rename_i ss e1
   rw [e1] at hx
   obtain ⟨vs, hx1, hx2, hx3⟩ := hx
   intro _ K Q hK
   have hr : (execOp a.eval o).run P w = .ok (.value (.pointer (some ⟨w.heap.size, 0, none⟩))) (w.alloc (.cells vs.toArray t)) := by
    simp [execOp, hop, hx1, Instr.box, newVar, newRow, Value.cells]
   have hm : MkR B w (w.alloc (.cells vs.toArray t)) := by
    refine ⟨rfl, rfl, rfl, by simp, Nat.le_refl _, fun b hb _ => alloc_old w _ hb, fun ad v hv hb => .inl ?_, fun b c e fz _ hc => ⟨c, ?_, rfl⟩⟩
    ·rw [ucell_of_block (alloc_old w _ (ucell_lt hv))]; exact hv
    ·rw [alloc_old w _ (Array.getElem?_eq_some_iff.1 hc).1]; exact hc
   have hX : XOk B q (w.alloc (.cells vs.toArray t)) xs := fun i hi => by
    obtain ⟨g1, g2⟩ := h.xok i hi
    exact ⟨by rw [ucell_of_block (alloc_old w _ (ucell_lt g1))]; exact g1, g2⟩
   refine wp_value hr (hK _ _ (h.val hm hX o.dst _ _ hd ⟨w.heap.size, rfl, by simp, fun hb => ?_, fun j s hs => ?_⟩))
   ·have := h.bl _ hb; have := h.mr.size; omega
   ·have hj : j < vs.length := by rw [hx2]; exact (List.getElem?_eq_some_iff.1 hs).1
    refine ⟨vs[j], ?_, (hx3 j _ s (List.getElem?_eq_getElem hj) hs).mk hm⟩
    rw [cell_of_row _ _ _ _ _ _ (alloc_new w _)]
    simp [hj]
  ·exact mbad
 | fieldAddr s x f =>
  simp only [mOp]
  have hx := evM_ok h x
  split
  ·rename_i fd ss c hf e1
   rw [e1] at hx
   split
   ·rename_i m hm
    split
    ·rename_i hb
     intro _
     obtain ⟨g, hx1, hx2, hx3, hx4⟩ := hx
     obtain ⟨fs, hu, hfs⟩ := structField_run hf
     have h0 : ¬ m = 0 := by
      have : 0 < m := by simpa using hb
      omega
     refine MGood.val h hd (v := .pointer (some ⟨g, c + fd.offset, none⟩)) ?_ ⟨g, rfl, hx2, hx3, hx4⟩
     have e : (⟨g, c, none⟩ : Addr).add fd.offset = ⟨g, c + fd.offset, none⟩ := by unfold Addr.add; split <;> simp_all
     simp [execOp, hop, hx1, Instr.fieldAt, run_underlying hu, hfs, Instr.sureAddr, fieldPlace, run_sizeOf hm, h0, e]
    ·exact mbad
   ·exact mbad
  ·exact mbad
 | call c =>
  obtain ⟨callee, ⟨args⟩, ⟨ats⟩⟩ := c
  simp only [mOp]
  split
  ·rename_i x t
   have hx := evM_ok h x
   have run : ∀ e ad n c, tyElem P t = some e → a.eval x = .slice ad n c → (execOp a.eval o).run P w = .ok (.value (.int .i64 n)) w := by
    intro e ad n c h0 h1
    simp [execOp, hop, resolve, invoke, builtin, h1, Builtin.len_, run_underlying (tyElem_inv h0), goInt]
   split
   ·rename_i ht e1
    rw [e1] at hx
    obtain ⟨ad, cap, hx1, _⟩ := hx
    intro _
    exact MGood.val h hd (run _ _ _ _ ht hx1) rfl
   ·rename_i ht e1
    rw [e1] at hx
    obtain ⟨ad, cap, hx1, _⟩ := hx
    intro _
    exact MGood.val h hd (run _ _ _ _ ht hx1) rfl
   ·rename_i ht e1
    rw [e1] at hx
    obtain ⟨ad, cap, hx1, _⟩ := hx
    intro _
    exact MGood.val h hd (run _ _ _ _ ht hx1) rfl
   ·rename_i ht e1
    rw [e1] at hx
    obtain ⟨ad, cap, hx1, _⟩ := hx
    intro _
    exact MGood.val h hd (run _ _ _ _ ht hx1) rfl
   ·exact mbad
  ·rename_i g
   have hg := evM_ok h g
   split
   ·rename_i f ef enil
    rw [ef] at hg
    have hg : a.eval g = .func (.func f) #[] #[] := hg
    split
    ·rename_i m hC
     intro hp K Q hK
     obtain ⟨hbody, hcall⟩ := hp _ (List.mem_singleton.2 rfl)
     have hall : All2 (RM w B q) (args.map a.eval) (args.map (evM σ)) := by
      refine ⟨by simp, fun j v p hv hq => ?_⟩
      simp only [List.getElem?_map, Option.map_eq_some_iff] at hv hq
      obtain ⟨y, hy, rfl⟩ := hv
      obtain ⟨y', hy', rfl⟩ := hq
      rw [hy] at hy'; cases hy'
      exact evM_ok h y
     have hexec : (execOp a.eval o).run P w = .ok (.enter f (args.map a.eval).toArray) w := by
      have e2 : (execOp a.eval o) = callFunc f (args.map a.eval).toArray := by
       simp [execOp, hop, resolve, hg, Deferred.ofValue, invoke]
      rw [e2]
      exact hbody.run _ _
     unfold Oper.wp
     rw [hexec]
     refine Calls.mono (hcall w B q _ (fun b hb => Nat.lt_of_lt_of_le (h.bl b hb) h.mr.size) hall) fun e w' he => ?_
     obtain ⟨rfl, hm⟩ := he
     exact hK _ _ (h.val hm (isNil_ok enil _ _ _) o.dst _ (.int m) hd rfl)
    ·exact mbad
   ·exact mbad
  ·exact mbad
 | _ => exact mbad
def mOps (P : Program) (C : FuncId → List MV → Option Int) : List Oper → MEnv → List Int → List Prop × MEnv × List Int
 | [], σ, xs => ([], σ, xs)
 | o :: r, σ, xs =>
  match o.guard with
  | some _ => ([False], σ, xs)
  | none =>
   let out := mOp P C (evM σ) xs o.op
   let rest := mOps P C r (mput σ o.dst out.2) (mX (evM σ) xs o.op)
   (out.1 ++ rest.1, rest.2)
theorem wanted_none {all : Array Oper} {tmps : Array Value} (h : o.guard = none) : Region.wanted o (yielded all tmps) = true := by
 simp [Region.wanted, h]
theorem mOps_ok {all : Array Oper} {C : FuncId → List MV → Option Int} (hdst : ∀ (i : Nat) (o : Oper), all[i]? = some o → ∀ d, o.dst = some d → d < n) {Q : Exit → Act → World → Prop} :
  ∀ (ops : List Oper) (i : Nat) (a : Act) (w : World) (σ : MEnv) (xs : List Int), (∀ j, ops[j]? = all[i + j]?) → MSt n w0 B q a w σ xs → (∀ q ∈ (mOps P C ops σ xs).1, q) →
   (∀ a' w', MSt n w0 B q a' w' (mOps P C ops σ xs).2.1 (mOps P C ops σ xs).2.2 → Q .normal a' w') → wpOps P all Q ((List.range ops.length).map (i + ·)) a w
 | [], i, a, w, σ, xs, _, h, _, hQ => hQ a w h
 | o :: r, i, a, w, σ, xs, hl, h, hp, hQ => by
  have h0 : all[i]? = some o := by have := hl 0; simpa using this.symm
  have er : (List.range (o :: r).length).map (i + ·) = i :: (List.range r.length).map (i + 1 + ·) := by
   simp only [List.length_cons, List.range_succ_eq_map, List.map_cons, List.map_map, Nat.add_zero, List.cons.injEq, true_and]
   apply List.map_congr_left
   intro j _
   simp only [Function.comp]
   omega
  rw [er]
  simp only [wpOps, h0]
  cases hg : o.guard with
  | some g => simp only [mOps, hg] at hp; exact (hp False (by simp)).elim
  | none =>
   simp only [mOps, hg] at hp hQ
   rw [wanted_none hg]
   simp only [if_true]
   left
   exact mOp_good h (hdst i o h0) C (fun q hq => hp q (List.mem_append_left _ hq)) _ _ fun a' w' hst =>
    mOps_ok hdst r (i + 1) a' w' _ _ (fun j => by have := hl (j + 1); simp only [List.getElem?_cons_succ] at this; rw [this]; congr 1; omega) hst
     (fun q hq => hp q (List.mem_append_right _ hq)) hQ
inductive MAnn where
 | none
 | two (a b : MAnn)
 | loop (N : Nat) (τ : Nat → MEnv) (ξ : Nat → List Int) (b : Nat → MAnn)
def MAnn.l : MAnn → MAnn
 | .two a _ => a
 | _ => .none
def MAnn.r : MAnn → MAnn
 | .two _ b => b
 | _ => .none
def mvEq : MV → MV → List Prop
 | .int m, .int k => [m = k]
 | .shp s, .shp s' => [s = s']
 | .ptr ss c, .ptr ss' c' => [ss = ss', c = c']
 | .row m, .row k => [m = k]
 | _, _ => [False]
theorem mvEq_ok {v : Value} {p p' : MV} (h : RM w B q v p) (he : ∀ x ∈ mvEq p p', x) : RM w B q v p' := by
 unfold mvEq at he
 split at he
 ·have := he _ (List.mem_singleton.2 rfl); subst this; exact h
 ·have := he _ (List.mem_singleton.2 rfl); subst this; exact h
 ·have h1 := he _ (List.mem_cons_self); have h2 := he _ (List.mem_cons_of_mem _ (List.mem_singleton.2 rfl)); subst h1 h2; exact h
 ·have := he _ (List.mem_singleton.2 rfl); subst this; exact h
 ·exact (he _ (List.mem_singleton.2 rfl)).elim
def mW (σ : MEnv) : MEnv → List Prop
 | [] => []
 | (t, p) :: r => (match aget σ t with
  | some q => mvEq q p
  | none => [False]) ++ mW σ r
theorem mW_ok {σ : MEnv} (h : MSt n w0 B q a w σ xs) : ∀ {τ : MEnv}, (∀ q ∈ mW σ τ, q) → ∀ t p, aget τ t = some p → t < n ∧ RM w B q (a.tmps.getD t undef) p
 | (t0, p0) :: r, hx, t, p, hp => by
  rcases aget_cons hp with ⟨rfl, rfl⟩ | ⟨_, hp⟩
  ·have h1 : ∀ x ∈ (match aget σ t with
     | some q => mvEq q p
     | none => [False]), x := fun x hxm => hx x (by simp only [mW]; exact List.mem_append_left _ hxm)
   cases hq : aget σ t with
   | none => rw [hq] at h1; exact (h1 _ (List.mem_singleton.2 rfl)).elim
   | some q =>
    rw [hq] at h1
    exact ⟨(h.env t q hq).1, mvEq_ok (h.env t q hq).2 h1⟩
  ·exact mW_ok h (fun x hxm => hx x (by simp only [mW]; exact List.mem_append_right _ hxm)) t p hp
theorem MSt.weak {σ τ : MEnv} {ys : List Int} (h : MSt n w0 B q a w σ xs) (hx : ∀ q ∈ mW σ τ, q) (hy : xs = ys) : MSt n w0 B q a w τ ys := ⟨hy ▸ h.xok, h.sz, h.dfr, h.bl, h.mr, mW_ok h hx⟩
abbrev MPost := Exit → MEnv → List Int → Prop
def MPost.seq (K : MPost) (next : MEnv → List Int → Prop) : MPost := fun e σ xs =>
 match e with
 | .normal => next σ xs
 | e => K e σ xs
def MPost.block (K : MPost) (id : Nat) : MPost := fun e σ xs =>
 match e with
 | .exit id' => match Nat.beq id' id with
  | true => K .normal σ xs
  | false => K (.exit id') σ xs
 | e => K e σ xs
def asBoolM (σ : MEnv) (c : Operand) : Option Bool :=
 match evM σ c with
 | .bool b => some b
 | _ => none
def mvc (P : Program) (C : FuncId → List MV → Option Int) : Code → MAnn → MEnv → List Int → MPost → Prop
 | .skip, _, σ, xs, K => K .normal σ xs
 | .region _ ops draw, _, σ, xs, K =>
  match draw with
  | true => False
  | false => andP (mOps P C ops.toList σ xs).1 (K .normal (mOps P C ops.toList σ xs).2.1 (mOps P C ops.toList σ xs).2.2)
 | .seq a b, A, σ, xs, K => mvc P C a A.l σ xs (K.seq fun σ xs => mvc P C b A.r σ xs K)
 | .cond c a b, A, σ, xs, K =>
  match asBoolM σ c with
  | some x => (x = true → mvc P C a A.l σ xs K) ∧ (x = false → mvc P C b A.r σ xs K)
  | none => False
 | .block id c, A, σ, xs, K => mvc P C c A σ xs (K.block id)
 | .loop c, A, σ, xs, K =>
  match A with
  | .loop N τ ξ b => allP ((xs = ξ 0) :: mW σ (τ 0)) ∧ ∀ g, g ≤ N → mvc P C c (b g) (τ g) (ξ g) (K.seq fun σ' xs' => allP ((g + 1 ≤ N) :: (xs' = ξ (g + 1)) :: mW σ' (τ (g + 1))))
  | _ => False
 | .exit id, _, σ, xs, K => K (.exit id) σ xs
 | .ret, _, σ, xs, K => K .ret σ xs
 | _, _, _, _, _ => False
def MLeads (n : Nat) (w0 : World) (B : Nat → Prop) (q : Addr) (K : MPost) (Q : Exit → Act → World → Prop) : Prop := ∀ e a w σ xs, MSt n w0 B q a w σ xs → K e σ xs → Q e a w
theorem MLeads.seq {K : MPost} {Q : Exit → Act → World → Prop} {next : MEnv → List Int → Prop} {nx : Act → World → Prop} (h : MLeads n w0 B q K Q) (hn : ∀ a w σ xs, MSt n w0 B q a w σ xs → next σ xs → nx a w) :
  MLeads n w0 B q (K.seq next) (Exit.then nx Q) := by
 intro e a w σ xs hst hk
 cases e with
 | normal => exact hn a w σ xs hst hk
 | _ => exact h _ a w σ xs hst hk
theorem MLeads.block {K : MPost} {Q : Exit → Act → World → Prop} (h : MLeads n w0 B q K Q) (id : Nat) : MLeads n w0 B q (K.block id) (Exit.inBlock id Q) := by
 intro e a w σ xs hst hk
 cases e with
 | exit id' =>
  simp only [MPost.block] at hk
  simp only [Exit.inBlock]
  split at hk
  ·rename_i hb
   rw [if_pos (beq_true.1 hb)]
   exact h _ a w σ xs hst hk
  ·rename_i hb
   rw [if_neg (beq_false.1 hb)]
   exact h _ a w σ xs hst hk
 | _ => exact h _ a w σ xs hst hk
theorem mvc_ok {C : FuncId → List MV → Option Int} : ∀ (c : Code) (A : MAnn) (σ : MEnv) (xs : List Int) (K : MPost) (a : Act) (w : World) (Q : Exit → Act → World → Prop),
  codeB n c = true → MSt n w0 B q a w σ xs → mvc P C c A σ xs K → MLeads n w0 B q K Q → c.wp P Q a w := by
 intro c
 induction c with
 | skip => intro A σ xs K a w Q _ h hv hl; exact wp_skip (hl _ a w σ xs h hv)
 | region id ops draw =>
  intro A σ xs K a w Q hb h hv hl
  cases draw with
  | true => exact hv.elim
  | false =>
   obtain ⟨h1, h2⟩ := andP_ok hv
   refine wp_region ?_
   have e : List.range ops.size = (List.range ops.toList.length).map (0 + ·) := by simp
   rw [e]
   exact mOps_ok (all := ops) (fun i o ho d hd => dstB_ok hb i o (by simpa using ho) d hd) ops.toList 0 a w σ xs (fun j => by simp) h h1 fun a' w' hst => hl _ a' w' _ _ hst h2
 | seq x y ihx ihy =>
  intro A σ xs K a w Q hb h hv hl
  simp only [codeB, Bool.and_eq_true] at hb
  exact wp_seq (ihx A.l σ xs _ a w _ hb.1 h hv (hl.seq fun a' w' σ' xs' hst hn => ihy A.r σ' xs' K a' w' Q hb.2 hst hn hl))
 | cond c x y ihx ihy =>
  intro A σ xs K a w Q hb h hv hl
  simp only [codeB, Bool.and_eq_true] at hb
  simp only [mvc] at hv
  cases hc : asBoolM σ c with
  | none => rw [hc] at hv; exact hv.elim
  | some b =>
   rw [hc] at hv
   have hev : a.eval c = .bool b := by
    have h1 := evM_ok h c
    unfold asBoolM at hc
    split at hc
    ·rename_i he
     cases hc
     rw [he] at h1
     exact h1
    ·cases hc
   refine wp_cond hev ?_
   cases b with
   | true => exact ihx A.l σ xs K a w Q hb.1 h (hv.1 rfl) hl
   | false => exact ihy A.r σ xs K a w Q hb.2 h (hv.2 rfl) hl
 | block id c ih =>
  intro A σ xs K a w Q hb h hv hl
  exact wp_block (ih A σ xs _ a w _ hb h hv (hl.block id))
 | loop c ih =>
  intro A σ xs K a w Q hb h hv hl
  cases A with
  | loop N τ ξ b =>
   obtain ⟨h1, h2⟩ := hv
   have key : ∀ m g a w, N - g < m → g ≤ N → MSt n w0 B q a w (τ g) (ξ g) → Code.rounds P c Q m a w := by
    intro m
    induction m with
    | zero => intro g a w hlt; omega
    | succ m ihm =>
     intro g a w hlt hg hst
     rw [rounds_succ]
     refine ih (b g) _ _ _ a w _ hb hst (h2 g hg) (hl.seq fun a' w' σ' xs' hst' hn => ?_)
     have hle : g + 1 ≤ N := allP_mem hn _ List.mem_cons_self
     exact ihm (g + 1) a' w' (by omega) hle (hst'.weak (fun q hq => allP_mem hn q (List.mem_cons_of_mem _ (List.mem_cons_of_mem _ hq))) (allP_mem hn _ (List.mem_cons_of_mem _ List.mem_cons_self)))
   exact wp_loop_rounds _ (key (N - 0 + 1) 0 a w (by omega) (Nat.zero_le _) (h.weak (fun q hq => allP_mem h1 q (List.mem_cons_of_mem _ hq)) (allP_mem h1 _ List.mem_cons_self)))
  | none => exact hv.elim
  | two a b => exact hv.elim
 | exit id => intro A σ xs K a w Q _ h hv hl; exact wp_exit (hl _ a w σ xs h hv)
 | ret => intro A σ xs K a w Q _ h hv hl; exact wp_ret (hl _ a w σ xs h hv)
 | rangeFunc _ _ _ _ _ => intro A σ xs K a w Q _ _ hv; exact hv.elim
 | scope _ _ => intro A σ xs K a w Q _ _ hv; exact hv.elim
 | label _ => intro A σ xs K a w Q _ _ hv; exact hv.elim
 | goto _ => intro A σ xs K a w Q _ _ hv; exact hv.elim
 | refuse _ => intro A σ xs K a w Q _ _ hv; exact hv.elim
def menv0 : Nat → List MV → MEnv
 | _, [] => []
 | i, x :: r => (i, x) :: menv0 (i + 1) r
theorem menv0_get : ∀ (l : List MV) (i t : Nat) (p : MV), aget (menv0 i l) t = some p → ∃ j, t = i + j ∧ l[j]? = some p
 | x :: r, i, t, p, h => by
  rcases aget_cons h with ⟨rfl, rfl⟩ | ⟨_, h⟩
  ·exact ⟨0, rfl, rfl⟩
  ·obtain ⟨j, h1, h2⟩ := menv0_get r (i + 1) t p h
   exact ⟨j + 1, by omega, h2⟩
def mretP (rvs : List ResultVar) (n : Int) (σ : MEnv) : Prop :=
 match rvs with
 | [.tmp t] => match aget σ t with
  | some (.int m) => m = n
  | _ => False
 | _ => False
def mretK (rvs : List ResultVar) (n : Int) (ys : List Int) : MPost := fun e σ xs =>
 match e with
 | .normal => mretP rvs n σ ∧ xs = ys
 | .ret => mretP rvs n σ ∧ xs = ys
 | _ => False
theorem mretP_ok {rvs : List ResultVar} {r : Int} {σ : MEnv} (h : mretP rvs r σ) : ∃ t, rvs = [.tmp t] ∧ aget σ t = some (.int r) := by
 unfold mretP at h
 split at h
 ·split at h
  ·rename_i hm
   subst h
   exact ⟨_, rfl, hm⟩
  ·exact h.elim
 ·exact h.elim
theorem body_of {f : FuncId} {fn : Func} {c : Code} (hf : P.funcs[f]? = some fn) (hb : fn.body = some c) (C : FuncId → List MV → Option Int) (A : MAnn) {args : List MV} {xs ys : List Int} {r : Int}
  (hB : (Nat.ble args.length fn.ntmps && codeB fn.ntmps c) = true) (hv : mvc P C c A (menv0 0 args) xs (mretK fn.results.toList r ys)) {vs : List Value} (hBl : ∀ b, B b → b < w.heap.size)
  (hall : All2 (RM w B q) vs args) (hx : XOk B q w xs) : Calls P f vs.toArray w fun e w' => e = .returned (.int .i64 r) ∧ MkR B w w' ∧ XOk B q w' ys := by
 simp only [Bool.and_eq_true] at hB
 have hle := Nat.le_of_ble_eq_true hB.1
 refine calls_of_wp hf hb ?_
 have hst : MSt fn.ntmps w B q { tmps := vs.toArray ++ Array.replicate (fn.ntmps - vs.toArray.size) undef, defers := [] } w (menv0 0 args) xs := by
  have hvl := hall.1
  refine ⟨hx, ?_, rfl, hBl, MkR.refl B w, fun t p hp => ?_⟩
  ·show (vs.toArray ++ Array.replicate (fn.ntmps - vs.toArray.size) undef).size = fn.ntmps
   simp; omega
  ·obtain ⟨j, h1, h2⟩ := menv0_get args 0 t p hp
   rw [Nat.zero_add] at h1
   subst h1
   have hj : t < args.length := (List.getElem?_eq_some_iff.1 h2).1
   refine ⟨by omega, ?_⟩
   have hjv : t < vs.length := by omega
   have hr := hall.2 t _ p (List.getElem?_eq_getElem hjv) h2
   have e : (vs.toArray ++ Array.replicate (fn.ntmps - vs.toArray.size) undef).getD t undef = vs[t] := by
    simp [Array.getD, Array.getElem_append, hjv]
    omega
   show RM w B q ((vs.toArray ++ Array.replicate (fn.ntmps - vs.toArray.size) undef).getD t undef) _
   rw [e]; exact hr
 refine mvc_ok c A _ _ _ _ _ _ hB.2 hst hv ?_
 intro e a' w' σ' xs' hst' hk
 have fin : mretP fn.results.toList r σ' ∧ xs' = ys → a'.defers = [] ∧ ∃ v, (results fn a'.tmps).run P w' = .ok v w' ∧ (Ending.returned v : Ending) = .returned (.int .i64 r) ∧ MkR B w w' ∧ XOk B q w' ys := by
  rintro ⟨hm, rfl⟩
  obtain ⟨t, ht, hg⟩ := mretP_ok hm
  have hv : a'.tmps.getD t undef = .int .i64 r := (hst'.env t _ hg).2
  refine ⟨hst'.dfr, .int .i64 r, ?_, rfl, hst'.mr, hst'.xok⟩
  have e : fn.results = #[.tmp t] := by rw [← ht]
  have hv' : a'.tmps[t]?.getD undef = .int .i64 r := by simpa using hv
  simp [results, e, hv']
 cases e with
 | normal => exact fin hk
 | ret => exact fin hk
 | _ => exact hk.elim
theorem pg_by {f : FuncId} {fn : Func} {Q : Prop} (hf : P.funcs[f]? = some fn) (hbody : Body P f) (hb : fn.body = some (bodyOf fn)) (C : FuncId → List MV → Option Int) (A : MAnn) {args : List MV} {r : Int}
  (hB : (Nat.ble args.length fn.ntmps && codeB fn.ntmps (bodyOf fn)) = true) (hq : Q) (hv : mvc P C (bodyOf fn) A (menv0 0 args) [] (mretK fn.results.toList r []) = Q) : PG P f args r :=
 ⟨hbody, fun w B q vs hBl hall => (body_of hf hb C A hB (hv ▸ hq) hBl hall (isNil_ok rfl B q w)).mono fun e w' he => ⟨he.1, he.2.1⟩⟩
theorem pw_by {f : FuncId} {fn : Func} {Q : Prop} (hf : P.funcs[f]? = some fn) (hbody : Body P f) (hb : fn.body = some (bodyOf fn)) (C : FuncId → List MV → Option Int) (A : MAnn) {ty : TypeId} {xs ys : List Int} {k r : Int}
  (hB : (Nat.ble 2 fn.ntmps && codeB fn.ntmps (bodyOf fn)) = true) (hl : ys.length ≤ xs.length) (hq : Q) (hv : mvc P C (bodyOf fn) A [(0, .row xs.length), (1, .int k)] xs (mretK fn.results.toList r ys) = Q) : PW P f ty xs ys k r := by
 refine ⟨hbody, fun w v g cap cur hv1 hg hcap hsz hle hcur => ?_⟩
 have hgl : ∀ b, (b = g ∧ 0 < cap) → b < w.heap.size := fun b hb => by rw [hb.1]; exact (Array.getElem?_eq_some_iff.1 (hg hb.2)).1
 have hall : All2 (RM w (fun b => b = g ∧ 0 < cap) ⟨g, 0, none⟩) [v, .int .i64 k] [.row xs.length, .int k] := by
  refine ⟨rfl, fun j u p hu hp => ?_⟩
  match j with
  | 0 =>
   simp at hu hp; subst hu hp
   rcases hv1 with rfl | ⟨rfl, h0, _⟩
   ·exact ⟨_, cap, rfl, fun _ => rfl⟩
   ·exact ⟨none, 0, by rw [h0], fun h => by omega⟩
  | 1 => simp at hu hp; subst hu hp; rfl
  | j + 2 => simp at hu
 have hx : XOk (fun b => b = g ∧ 0 < cap) ⟨g, 0, none⟩ w xs := fun i hi => by
  have hpos : 0 < cap := by omega
  rw [add_lit0]
  exact ⟨ucell_mk (by rw [cell_of_row w _ _ _ _ _ (hg hpos), hcur i hi]) (frozen_of_row _ _ _ _ _ (hg hpos)), rfl, hpos⟩
 refine (body_of (args := [.row xs.length, .int k]) hf hb C A hB (hv ▸ hq) hgl hall hx).mono fun e w' he => ?_
 obtain ⟨h1, h2, h3⟩ := he
 refine ⟨h1, h2.os, h2.tape, h2.output, h2.size, h2.drawn, fun b hb hn => h2.out b hb hn, ?_⟩
 by_cases hpos : 0 < cap
 ·obtain ⟨c', h4, h5⟩ := h2.form g cur ty _ ⟨rfl, hpos⟩ (hg hpos)
  refine ⟨c', fun _ => h4, h5.trans hsz, fun i hi => ?_⟩
  obtain ⟨h6, _⟩ := h3 i hi
  rw [add_lit0] at h6
  have h7 := (ucell_some h6).1
  rw [cell_of_row w' _ _ _ _ _ h4] at h7
  exact h7
 ·exact ⟨cur, fun h => absurd h hpos, hsz, fun i hi => by omega⟩
end Go.Proofs.Ytomnmacmlhkceaa
