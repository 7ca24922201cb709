/- The pure layer, part I: operations that make or write owned blocks. No function of the program is named here. -/
import Derived.Test.YtomnmacmlhkceaaQh
set_option linter.unusedVariables false
set_option linter.unusedSimpArgs false
namespace Go.Proofs.Ytomnmacmlhkceaa
open Go
variable {S : Setting} {ρ : Nat → Nm} {a : Act} {w : World} {σ : Env} {st : Store} {o : Oper}
theorem splice_get {α : Type} (l m : List α) (c : Nat) (h : c + m.length ≤ l.length) (j : Nat) :
  (l.take c ++ m ++ l.drop (c + m.length))[j]? = if j < c then l[j]? else if j < c + m.length then m[j - c]? else l[j]? := by
 have hc : (l.take c).length = c := by simp; omega
 by_cases h1 : j < c
 ·rw [if_pos h1, List.append_assoc, List.getElem?_append_left (by omega), List.getElem?_take, if_pos h1]
 ·rw [if_neg h1]
  by_cases h2 : j < c + m.length
  ·rw [if_pos h2, List.append_assoc, List.getElem?_append_right (by omega), List.getElem?_append_left (by omega), hc]
  ·rw [if_neg h2, List.getElem?_append_right (by simp; omega), List.getElem?_drop]
   congr 1
   simp
   omega
theorem splice_len {α : Type} (l m : List α) (c : Nat) (h : c + m.length ≤ l.length) : (l.take c ++ m ++ l.drop (c + m.length)).length = l.length := by
 simp; omega
theorem cells_ok {O : Nat → Prop} {base : Nat → Prop} {v : Value} {p : PV} {qs : List PV} (h : RP w O base ρ v p) (hc : p.cells = some qs) :
  v.cells.toList.length = qs.length ∧ ∀ (j : Nat) (u : Value) (q : PV), v.cells.toList[j]? = some u → qs[j]? = some q → RP w O base ρ u q := by
 have one : v.cells = #[v] → qs = [p] → v.cells.toList.length = qs.length ∧ ∀ (j : Nat) (u : Value) (q : PV), v.cells.toList[j]? = some u → qs[j]? = some q → RP w O base ρ u q := by
  intro h1 h2
  rw [h1, h2]
  refine ⟨rfl, fun j u q hu hq => ?_⟩
  cases j with
  | zero => simp at hu hq; subst hu hq; exact h
  | succ j => simp at hu
 cases p with
 | d fr x =>
  cases x with
  | agg cs =>
   simp only [PV.cells, Option.some.injEq] at hc
   subst hc
   obtain ⟨vs, h1, h2, h3⟩ := (RPs.d_inv h).agg_inv
   subst h1
   refine ⟨by simp [Value.cells, h2], fun j u q hu hq => ?_⟩
   simp only [Value.cells] at hu
   simp only [List.getElem?_map, Option.map_eq_some_iff] at hq
   obtain ⟨d, hd, rfl⟩ := hq
   exact .d _ _ _ (h3 j u d hu hd)
  | undef => simp [PV.cells, PV.cell, D.cell] at hc
  | tup cs => simp [PV.cells, PV.cell, D.cell] at hc
  | _ =>
   have hcell := (RPs.d_inv h).plain.oneCell rfl
   simp [PV.cells, PV.cell, D.cell] at hc
   exact one (by cases v <;> first | rfl | simp [Value.oneCell'] at hcell) hc.symm
 | agg ps =>
  simp only [PV.cells, Option.some.injEq] at hc
  subst hc
  cases h with
  | agg vs _ hl hr => exact ⟨by simp [Value.cells, hl], fun j u q hu hq => hr j u q (by simpa [Value.cells] using hu) hq⟩
 | own k n => simp [PV.cells, PV.cell] at hc; exact one (by cases h <;> rfl) hc.symm
 | ptr k c => simp [PV.cells, PV.cell] at hc; exact one (by cases h; rfl) hc.symm
 | eadr k wd i c => simp [PV.cells, PV.cell] at hc; exact one (by cases h; rfl) hc.symm
 | fn f k cs => simp [PV.cells, PV.cell] at hc; exact one (by cases h; rfl) hc.symm
 | tup cs => simp [PV.cells, PV.cell] at hc
 | vw k n => simp [PV.cells, PV.cell] at hc
 | rw k i n => simp [PV.cells, PV.cell] at hc
 | radr k i c => simp [PV.cells, PV.cell] at hc
 | opt g p => simp [PV.cells, PV.cell] at hc
 | reg k x =>
  cases h with
  | reg _ _ _ h =>
  cases x with
  | agg cs =>
   simp only [PV.cells, Option.some.injEq] at hc
   subst hc
   cases h with
   | agg vs _ hl hr =>
    refine ⟨by simp [Value.cells, hl], fun j u q hu hq => ?_⟩
    simp only [Value.cells] at hu
    simp only [List.getElem?_map, Option.map_eq_some_iff] at hq
    obtain ⟨d, hd, rfl⟩ := hq
    exact .reg _ _ _ (hr j u d (by simpa using hu) hd)
  | undef => simp [PV.cells, PV.cell, D.cell] at hc
  | tup cs => simp [PV.cells, PV.cell, D.cell] at hc
  | _ =>
   have hcell := h.oneCell rfl
   have hh := RP.reg (O := O) (base := base) (ρ := ρ) k _ _ h
   simp [PV.cells, PV.cell, D.cell] at hc
   have e1 : v.cells = #[v] := by cases v <;> first | rfl | simp [Value.oneCell'] at hcell
   rw [e1, ← hc]
   refine ⟨rfl, fun j u q hu hq => ?_⟩
   cases j with
   | zero => simp at hu hq; subst hu hq; exact hh
   | succ j => simp at hu
theorem cell_one {O : Nat → Prop} {base : Nat → Prop} {v : Value} {p : PV} (h : RP w O base ρ v p) (hc : p.cell = true) : v.oneCell' = true := by
 cases p with
 | d fr x => exact (RPs.d_inv h).plain.oneCell hc
 | own k n => cases h <;> rfl
 | ptr k c => cases h; rfl
 | eadr k wd i c => cases h; rfl
 | fn f k cs => cases h; rfl
 | reg k x => cases h with | reg _ _ _ h => exact h.oneCell hc
 | _ => simp [PV.cell] at hc
theorem new_hk (h : StR S ρ a w σ st) (k : Nat) (e : Ent) (ob : Obj) (cap : Nat) (hreg : ∀ p b, blk e p b → b = p.1) :
  ∀ b, b < w.heap.size → ¬ liveO S.O ρ st b → (w.alloc ob).heap[b]? = w.heap[b]? ∧ ¬ liveO S.O (upd ρ k (nm w.heap.size cap)) ((k, e) :: st) b := by
 refine fun b hb hn => ⟨alloc_old w ob hb, fun h3 => ?_⟩
 rcases h3 with h3 | ⟨j, e', hj, hbj⟩
 ·exact hn (.inl h3)
 ·rcases aget_cons hj with ⟨rfl, rfl⟩ | ⟨hne, hj⟩
  ·rw [upd_same] at hbj
   have hbj := hreg _ _ hbj
   simp at hbj; omega
  ·rw [upd_ne ρ _ hne] at hbj
   exact hn (.inr ⟨j, e', hj, hbj⟩)
theorem newOk_one {k : Nat} {e : Ent} (h : newOk σ st [(k, e)] = true) : unment k σ st = true ∧ aget st k = none := by
 simp only [newOk, Bool.and_eq_true, Bool.and_true] at h
 refine ⟨h.1, ?_⟩
 cases hk : aget st k with
 | none => rfl
 | some _ => rw [hk] at h; simp at h
theorem Good.newBox (h : StR S ρ a w σ st) (hd : ∀ d, o.dst = some d → d < S.n) {t : TypeId} {cells : Array Value} {qs : List PV} (k : Nat)
  (hr : (execOp a.eval o).run S.P w = .ok (.value (.pointer (some ⟨w.heap.size, 0, none⟩))) (w.alloc (.cells cells t)))
  (hl : cells.size = qs.length) (hq : ∀ (j : Nat) (u : Value) (q : PV), cells[j]? = some u → qs[j]? = some q → RPs S ρ w st u q)
  (hc : qs.all PV.cell = true) (hlv : ∀ j, PV.rgmL j qs = true → aget st j = some .reg) (hun : unment k σ st = true) (hunq : PV.mentL k qs = false) (hk : aget st k = none) :
  Good S a w σ st o ⟨[], .ptr k 0, [(k, .box t qs)], none, none⟩ := by
 intro K Q hK
 have hb : ∀ p b, blk (.box t qs) p b → b = p.1 := fun _ _ h => h
 have hok : EntOk (w.alloc (.cells cells t)) (liveO S.O (upd ρ k (nm w.heap.size 0)) ((k, .box t qs) :: st)) S.F (upd ρ k (nm w.heap.size 0)) k (.box t qs) := by
  refine ⟨cells, by rw [upd_same]; exact alloc_new w _, hl, fun c p hp => ?_⟩
  obtain ⟨hlt, _⟩ := List.getElem?_eq_some_iff.1 hp
  have hv : cells[c]? = some cells[c] := Array.getElem?_eq_getElem (by omega)
  have hrp := hq c _ p hv hp
  refine ⟨_, hv, cell_one hrp (List.all_eq_true.1 hc p (List.mem_of_getElem? hp)), hrp.step (new_hk h k (.box t qs) (.cells cells t) 0 hb) (fun i hi => upd_ne ρ _ fun hik => ?_) (fun i hi => ?_)⟩
  ·have := PV.mentL_mem hp hi
   rw [hik, hunq] at this; cases this
  ·exact fun b _ _ h3 => alloc_old w _ h3
 have h2 := h.newid k (.box t qs) (.cells cells t) 0 hun (fun t' cs he j hj => by cases he; exact hlv j hj) hb hk hok
 refine wp_value hr (hK _ _ _ (h2.val o.dst _ (.ptr k 0) hd ?_ (fun j hj => by simp [PV.rgm] at hj)))
 have := RP.ptr (w := w.alloc (.cells cells t)) (O := liveO S.O (upd ρ k (nm w.heap.size 0)) ((k, .box t qs) :: st)) (base := S.F) (ρ := upd ρ k (nm w.heap.size 0)) k 0
 rw [upd_same] at this
 exact this
theorem Good.newArr (h : StR S ρ a w σ st) (hd : ∀ d, o.dst = some d → d < S.n) {e : TypeId} {cells : Array Value} {m : Mem} {fr : Bool} {pre : List Prop} (k cap n : Nat) {dead : Option Nat} {w1 : World} {ρ1 : Nat → Nm}
  (hw1 : StR S ρ1 a w1 σ st)
  (hr : (execOp a.eval o).run S.P w = .ok (.value (.slice (some ⟨w1.heap.size, 0, none⟩) n cap)) (w1.alloc (.cells cells e)))
  (hdead : ∀ j, dead = some j → (∃ fr e m, aget st j = some (.arr fr e m)) ∧ j ≠ k)
  (hs : cells.size = cap * m.width) (hcap : m.len ≤ cap) (hmax : cap ≤ maxLen)
  (hq : ∀ i c, i < m.len → c < m.width → ∃ v, cells[i * m.width + c]? = some v ∧ RD w1 (liveO S.O ρ1 st) S.F fr v (m.get i c))
  (hun : unment k σ st = true) (hk : aget st k = none) :
  Good S a w σ st o ⟨pre, .own k n, [(k, .arr fr e m)], dead, none⟩ := by
 intro K Q hK
 have hb : ∀ p b, blk (.arr fr e m) p b → b = p.1 := fun _ _ h => h.1
 have hok : EntOk (w1.alloc (.cells cells e)) (liveO S.O (upd ρ1 k (nm w1.heap.size cap)) ((k, .arr fr e m) :: st)) S.F (upd ρ1 k (nm w1.heap.size cap)) k (.arr fr e m) := by
  refine ⟨cells, fun _ => by rw [upd_same]; exact alloc_new w1 _, by rw [upd_same]; exact hmax, by rw [upd_same]; exact hs, by rw [upd_same]; exact hcap, fun i c hi hc => ?_⟩
  obtain ⟨v, hv, hr⟩ := hq i c hi hc
  exact ⟨v, hv, hr.step (new_hk hw1 k (.arr fr e m) (.cells cells e) cap hb)⟩
 have h2 := hw1.newid k (.arr fr e m) (.cells cells e) cap hun (fun t' cs he => by cases he) hb hk hok
 have hv : RP (w1.alloc (.cells cells e)) (liveO S.O (upd ρ1 k (nm w1.heap.size cap)) ((k, .arr fr e m) :: st)) S.F (upd ρ1 k (nm w1.heap.size cap)) (.slice (some ⟨w1.heap.size, 0, none⟩) n cap) (.own k n) := by
  have := RP.own (w := w1.alloc (.cells cells e)) (O := liveO S.O (upd ρ1 k (nm w1.heap.size cap)) ((k, .arr fr e m) :: st)) (base := S.F) (ρ := upd ρ1 k (nm w1.heap.size cap)) k n
  rw [upd_same] at this
  exact this
 have h3 := h2.val o.dst _ (.own k n) hd hv (fun j hj => by simp [PV.rgm] at hj)
 refine wp_value hr (hK (upd ρ1 k (nm w1.heap.size cap)) _ _ ?_)
 cases dead with
 | none => exact h3
 | some j =>
  obtain ⟨⟨_, _, _, g1⟩, g2⟩ := hdead j rfl
  have h4 := h3.del j (by rw [aget_cons_ne (Ne.symm g2), g1]; simp) (by intro t cs; rw [aget_cons_ne (Ne.symm g2), g1]; simp)
  have e1 : adel ((k, Ent.arr fr e m) :: st) j = (k, .arr fr e m) :: adel st j := by
   simp [adel, beq_false.2 (Ne.symm g2)]
  rw [e1] at h4
  exact h4
theorem write_hk (h : StR S ρ a w σ st) (k : Nat) (e e' : Ent) (hke : aget st k = some e) {w' : World}
  (hb : ∀ b, b < w.heap.size → ¬ blk e (ρ k) b → w'.heap[b]? = w.heap[b]?) (hblk : ∀ b, blk e' (ρ k) b ↔ blk e (ρ k) b) :
  ∀ b, b < w.heap.size → ¬ liveO S.O ρ st b → w'.heap[b]? = w.heap[b]? ∧ ¬ liveO S.O ρ ((k, e') :: adel st k) b := by
 refine fun b hlt hn => ⟨hb b hlt fun hbk => hn (.inr ⟨k, e, hke, hbk⟩), fun h3 => hn ?_⟩
 rcases h3 with h3 | ⟨j, e1, hj, hbj⟩
 ·exact .inl h3
 ·rcases aget_cons hj with ⟨hjk, he1⟩ | ⟨_, hj⟩
  ·rw [hjk, he1, hblk] at hbj; exact .inr ⟨k, e, hke, hbj⟩
  ·exact .inr ⟨j, e1, (aget_adel hj).2, hbj⟩
theorem store_box (h : StR S ρ a w σ st) (hd : ∀ d, o.dst = some d → d < S.n) {t : TypeId} {x y : Operand} (ho : o.op = .store t x y) {n : Nat} (hn : tySize S.P t = some n)
  {k c : Nat} {ty : TypeId} {ps qs : List PV} {p : PV} (hk : aget st k = some (.box ty ps)) (hx : a.eval x = .pointer (some ⟨(ρ k).1, c, none⟩)) {vy : Value} (hvy : a.eval y = vy)
  (hy : RPs S ρ w st vy p) (hc : p.cells = some qs) (hl : qs.length = n) (hle : c + n ≤ ps.length) (hcell : qs.all PV.cell = true) (hlv : ∀ j, PV.rgmL j qs = true → aget st j = some .reg) :
  Good S a w σ st o ⟨[], .d false .undef, [], none, some (k, .box ty (ps.take c ++ qs ++ ps.drop (c + n)))⟩ := by
 intro K Q hK
 obtain ⟨cur, e1, e2, e3⟩ := h.ents k _ hk
 obtain ⟨c1, c2⟩ := cells_ok hy hc
 have hone : ∀ u ∈ vy.cells.toList, u.oneCell' = true := by
  intro u hu
  obtain ⟨j, hj⟩ := List.mem_iff_getElem?.1 hu
  obtain ⟨hlt, _⟩ := List.getElem?_eq_some_iff.1 hj
  have hq : qs[j]? = some qs[j] := List.getElem?_eq_getElem (by omega)
  exact cell_one (c2 j u _ hj hq) (List.all_eq_true.1 hcell _ (List.mem_of_getElem? hq))
 have hfit : c + 0 + vy.cells.toList.length ≤ cur.size := by rw [e2, c1]; omega
 have hrun := run_storeCells_at S.P (ρ k).1 c ty vy.cells.toList 0 cur w e1 hfit hone
 simp only [Nat.add_zero, c1, hl] at hrun
 have hsz : vy.cells.size = n := by
  have : vy.cells.toList.length = vy.cells.size := by simp
  omega
 have hr : (execOp a.eval o).run S.P w = .ok .skip (w.setRow (ρ k).1 (cur.toList.take c ++ vy.cells.toList ++ cur.toList.drop (c + n)).toArray) := by
  simp [execOp, ho, hx, hvy, Instr.storeAt, Instr.sureAddr, storeVar, run_sizeOf hn, hsz, hrun]
 have hb : ∀ b, b < w.heap.size → ¬ blk (.box ty ps) (ρ k) b → (w.setRow (ρ k).1 (cur.toList.take c ++ vy.cells.toList ++ cur.toList.drop (c + n)).toArray).heap[b]? = w.heap[b]? :=
  fun b _ hne => setRow_other w _ b _ hne
 have hrb := h.rb k ty ps hk
 have hregs : ∀ i, aget st i = some .reg → ∀ b, (ρ i).1 ≤ b → b < (ρ i).2 → b < w.heap.size → (w.setRow (ρ k).1 (cur.toList.take c ++ vy.cells.toList ++ cur.toList.drop (c + n)).toArray).heap[b]? = w.heap[b]? :=
  fun i hi b h1 h2 h3 => hb b h3 fun hbk => by
   have e := h.inj i k .reg _ hi hk b ⟨h1, h2⟩ hbk
   subst e
   rw [hk] at hi; cases hi
 have hrgm : ∀ j, PV.rgmL j (ps.take c ++ qs ++ ps.drop (c + n)) = true → aget st j = some .reg := by
  intro j
  have app : ∀ l1 l2 : List PV, PV.rgmL j (l1 ++ l2) = (PV.rgmL j l1 || PV.rgmL j l2) := by
   intro l1 l2
   induction l1 with
   | nil => rfl
   | cons q r ih => simp [PV.rgmL, ih, Bool.or_assoc]
  have sub : ∀ l : List PV, (∀ q ∈ l, q ∈ ps) → PV.rgmL j l = true → aget st j = some .reg := by
   intro l hl hj
   induction l with
   | nil => simp [PV.rgmL] at hj
   | cons q r ih =>
    simp only [PV.rgmL, Bool.or_eq_true] at hj
    rcases hj with hj | hj
    ·obtain ⟨i, hi⟩ := List.mem_iff_getElem?.1 (hl q (by simp))
     exact hrb j (PV.rgmL_mem hi hj)
    ·exact ih (fun q' hq' => hl q' (by simp [hq'])) hj
  rw [app, app]
  intro hj
  simp only [Bool.or_eq_true] at hj
  rcases hj with (hj | hj) | hj
  ·exact sub _ (fun q hq => List.mem_of_mem_take hq) hj
  ·exact hlv j hj
  ·exact sub _ (fun q hq => List.mem_of_mem_drop hq) hj
 have hok : EntOk (w.setRow (ρ k).1 (cur.toList.take c ++ vy.cells.toList ++ cur.toList.drop (c + n)).toArray) (liveO S.O ρ ((k, .box ty (ps.take c ++ qs ++ ps.drop (c + n))) :: adel st k)) S.F ρ k
   (.box ty (ps.take c ++ qs ++ ps.drop (c + n))) := by
  have hkk := write_hk h k (.box ty ps) (.box ty (ps.take c ++ qs ++ ps.drop (c + n))) hk hb (fun _ => Iff.rfl)
  have s1 := splice_get cur.toList vy.cells.toList c (by simp; omega)
  have s2 := splice_get ps qs c (by omega)
  rw [c1, hl] at s1
  rw [hl] at s2
  have hcur : cur.toList.length = ps.length := by simp [e2]
  refine ⟨_, setRow_heap w _ cur _ ty _ e1, ?_, fun j q hq => ?_⟩
  ·simp only [List.size_toArray]
   have := splice_len cur.toList vy.cells.toList c (by simp; omega)
   rw [c1, hl] at this
   rw [this, hcur]
   have := splice_len ps qs c (by omega)
   rw [hl] at this
   exact this.symm
  ·rw [s2] at hq
   simp only [List.getElem?_toArray, s1]
   by_cases h1 : j < c
   ·rw [if_pos h1] at hq ⊢
    obtain ⟨u, g1, g2, g3⟩ := e3 j q hq
    exact ⟨u, by simpa using g1, g2, g3.step hkk (fun _ _ => rfl) (fun i hi => hregs i (hrb i (PV.rgmL_mem hq hi)))⟩
   ·rw [if_neg h1] at hq ⊢
    by_cases h2 : j < c + n
    ·rw [if_pos h2] at hq ⊢
     have hlt : j - c < vy.cells.toList.length := by omega
     have hu : vy.cells.toList[j - c]? = some vy.cells.toList[j - c] := List.getElem?_eq_getElem hlt
     exact ⟨_, hu, hone _ (List.mem_of_getElem? hu), (c2 _ _ q hu hq).step hkk (fun _ _ => rfl) (fun i hi => hregs i (hlv i (PV.rgmL_mem hq hi)))⟩
    ·rw [if_neg h2] at hq ⊢
     obtain ⟨u, g1, g2, g3⟩ := e3 j q hq
     exact ⟨u, by simpa using g1, g2, g3.step hkk (fun _ _ => rfl) (fun i hi => hregs i (hrb i (PV.rgmL_mem hq hi)))⟩
 have h2 := h.write k (.box ty ps) (.box ty (ps.take c ++ qs ++ ps.drop (c + n))) hk (w' := w.setRow (ρ k).1 (cur.toList.take c ++ vy.cells.toList ++ cur.toList.drop (c + n)).toArray) rfl rfl rfl (by simp) hb (fun _ => Iff.rfl) (by simp)
  (fun t cs he j hj => by cases he; exact hrgm j hj) hok
 exact wp_skipped hr (hK ρ _ _ (h2.put_undef o.dst _ hd))
end Go.Proofs.Ytomnmacmlhkceaa
