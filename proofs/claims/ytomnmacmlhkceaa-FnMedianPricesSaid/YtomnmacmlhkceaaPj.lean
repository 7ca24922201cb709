/- The pure layer, part J: rows that grow and are written; literals; calls. No function of the program is named here. -/
import Derived.Test.YtomnmacmlhkceaaPi
set_option linter.unusedVariables false
set_option linter.unusedSimpArgs false
namespace Go.Proofs.Ytomnmacmlhkceaa
open Go
variable {S : Setting} {ρ : Nat → Nm} {a : Act} {w : World} {σ : Env} {st : Store} {o : Oper}
theorem zeroValue_run {P : Program} {t : TypeId} {i : TypeInfo} {z : Value} (hi : P.info? t = some i) (hz : i.zero = some z) (w : World) : (zeroValue t).run P w = .ok z w := by
 simp [zeroValue, typeInfo, hi, hz]
theorem zeroCells_inv {P : Program} {t : TypeId} {qs : List PV} (h : zeroCellsP P t = some qs) : ∃ i z, P.info? t = some i ∧ i.zero = some z ∧ qs = z.cells.toList.map PV.ofV := by
 unfold zeroCellsP at h
 cases hi : P.info? t with
 | none => simp [hi] at h
 | some i =>
  cases hz : i.zero with
  | none => simp [hi, hz] at h
  | some z => simp [hi, hz] at h; exact ⟨i, z, rfl, hz, h.symm⟩
theorem mentL_ofV (k : Nat) (vs : List Value) : PV.mentL k (vs.map PV.ofV) = false := by
 induction vs with
 | nil => rfl
 | cons v r ih => simp [PV.mentL, ih, PV.ofV, PV.ment]
theorem alloc_good (h : StR S ρ a w σ st) (hd : ∀ d, o.dst = some d → d < S.n) {t : TypeId} (ho : o.op = .alloc t) {k : Nat} (hpre : ∀ r ∈ (allocRun S.P t k).pre, r)
  (hnew : newOk σ st (allocRun S.P t k).new = true) : Good S a w σ st o (allocRun S.P t k) := by
 unfold allocRun at hpre hnew ⊢
 cases hz : zeroCellsP S.P t with
 | none => simp only [hz] at hpre; exact (bad_pre hpre).elim
 | some qs =>
  simp only [hz] at hpre hnew ⊢
  obtain ⟨hb, he, _⟩ := chk_pre hpre
  rw [he] at hnew ⊢
  simp only [Bool.and_eq_true] at hb
  obtain ⟨i, z, h1, h2, rfl⟩ := zeroCells_inv hz
  obtain ⟨n1, n2⟩ := newOk_one hnew
  refine Good.newBox h hd k (cells := z.cells) ?_ (by simp) (fun j u q hu hq => ?_) hb.1 (fun j hj => by rw [PV.nrL_rgmL j _ hb.2] at hj; cases hj) n1 (mentL_ofV k _) n2
  ·simp [execOp, ho, Instr.alloc, zeroValue_run h1 h2, newVar, newRow]
  ·simp only [List.getElem?_map, Option.map_eq_some_iff] at hq
   obtain ⟨u', hu', rfl⟩ := hq
   have : u' = u := by simpa [hu] using hu'.symm
   subst this
   exact ofV_ok _
theorem mentL_map_d (k : Nat) (fr : Bool) (cs : List D) : PV.mentL k (cs.map (.d fr)) = false := by
 induction cs with
 | nil => rfl
 | cons v r ih => simp [PV.mentL, ih, PV.ment]
theorem cells_ment {p : PV} {qs : List PV} (hc : p.cells = some qs) {k : Nat} (hm : p.ment k = false) : PV.mentL k qs = false := by
 cases p with
 | d fr x =>
  cases x with
  | agg cs => simp [PV.cells] at hc; subst hc; exact mentL_map_d k fr cs
  | undef => simp [PV.cells, PV.cell, D.cell] at hc
  | tup cs => simp [PV.cells, PV.cell, D.cell] at hc
  | _ => simp [PV.cells, PV.cell, D.cell] at hc; subst hc; simp [PV.mentL, PV.ment]
 | agg ps => simp [PV.cells] at hc; subst hc; exact hm
 | own k n => simp [PV.cells, PV.cell] at hc; subst hc; simp [PV.mentL, hm]
 | ptr k c => simp [PV.cells, PV.cell] at hc; subst hc; simp [PV.mentL, hm]
 | eadr k wd i c => simp [PV.cells, PV.cell] at hc; subst hc; simp [PV.mentL, hm]
 | fn f kk cs => simp [PV.cells, PV.cell] at hc; subst hc; simp [PV.mentL, hm]
 | tup cs => simp [PV.cells, PV.cell] at hc
 | vw k n => simp [PV.cells, PV.cell] at hc
 | rw k i n => simp [PV.cells, PV.cell] at hc
 | radr k i c => simp [PV.cells, PV.cell] at hc
 | opt g p => simp [PV.cells, PV.cell] at hc
 | reg j x =>
  cases x with
  | agg cs =>
   simp [PV.cells] at hc; subst hc
   induction cs with
   | nil => rfl
   | cons v r ih => simp only [List.map_cons, PV.mentL, ih hm, Bool.or_false]; exact hm
  | undef => simp [PV.cells, PV.cell, D.cell] at hc
  | tup cs => simp [PV.cells, PV.cell, D.cell] at hc
  | _ => simp [PV.cells, PV.cell, D.cell] at hc; subst hc; simp [PV.mentL]; exact hm
theorem cells_rgm {p : PV} {qs : List PV} (hc : p.cells = some qs) {k : Nat} (hm : PV.rgmL k qs = true) : p.rgm k = true := by
 cases p with
 | d fr x =>
  have : ∀ cs : List D, PV.rgmL k (cs.map (.d fr)) = false := by
   intro cs
   induction cs with
   | nil => rfl
   | cons v r ih => simp [PV.rgmL, ih, PV.rgm]
  cases x with
  | agg cs => simp [PV.cells] at hc; subst hc; rw [this] at hm; cases hm
  | undef => simp [PV.cells, PV.cell, D.cell] at hc
  | tup cs => simp [PV.cells, PV.cell, D.cell] at hc
  | _ => simp [PV.cells, PV.cell, D.cell] at hc; subst hc; simp [PV.rgmL, PV.rgm] at hm
 | agg ps => simp [PV.cells] at hc; subst hc; exact hm
 | own k n => simp [PV.cells, PV.cell] at hc; subst hc; simpa [PV.rgmL] using hm
 | ptr k c => simp [PV.cells, PV.cell] at hc; subst hc; simpa [PV.rgmL] using hm
 | eadr k wd i c => simp [PV.cells, PV.cell] at hc; subst hc; simpa [PV.rgmL] using hm
 | fn f kk cs => simp [PV.cells, PV.cell] at hc; subst hc; simpa [PV.rgmL] using hm
 | tup cs => simp [PV.cells, PV.cell] at hc
 | vw k n => simp [PV.cells, PV.cell] at hc
 | rw k i n => simp [PV.cells, PV.cell] at hc
 | radr k i c => simp [PV.cells, PV.cell] at hc
 | opt g p => simp [PV.cells, PV.cell] at hc
 | reg j x =>
  cases x with
  | agg cs =>
   simp [PV.cells] at hc; subst hc
   have : PV.rgmL k (cs.map (.reg j)) = true → Nat.beq j k = true := by
    intro hm
    induction cs with
    | nil => simp [PV.rgmL] at hm
    | cons v r ih =>
     simp only [List.map_cons, PV.rgmL, Bool.or_eq_true] at hm
     rcases hm with hm | hm
     ·exact hm
     ·exact ih hm hm
   exact this hm
  | undef => simp [PV.cells, PV.cell, D.cell] at hc
  | tup cs => simp [PV.cells, PV.cell, D.cell] at hc
  | _ => simp [PV.cells, PV.cell, D.cell] at hc; subst hc; simpa [PV.rgmL] using hm
theorem box_good (h : StR S ρ a w σ st) (hd : ∀ d, o.dst = some d → d < S.n) {t : TypeId} {x : Operand} (ho : o.op = .box t x) {k : Nat} {p : PV} {vx : Value} (hvx : a.eval x = vx) (hx : RPs S ρ w st vx p)
  (hm : unment k σ st = true → p.ment k = false) (hg : ∀ j, p.rgm j = true → aget st j = some .reg) (hpre : ∀ r ∈ (boxRun t k p).pre, r) (hnew : newOk σ st (boxRun t k p).new = true) : Good S a w σ st o (boxRun t k p) := by
 unfold boxRun at hpre hnew ⊢
 cases hc : p.cells with
 | none => simp only [hc] at hpre; exact (bad_pre hpre).elim
 | some qs =>
  simp only [hc] at hpre hnew ⊢
  obtain ⟨hb, he, _⟩ := chk_pre hpre
  rw [he] at hnew ⊢
  obtain ⟨n1, n2⟩ := newOk_one hnew
  obtain ⟨c1, c2⟩ := cells_ok hx hc
  refine Good.newBox h hd k (cells := vx.cells) ?_ (by simpa using c1) (fun j u q hu hq => c2 j u q (by simpa using hu) hq) hb (fun j hj => hg j (cells_rgm hc hj)) n1 (cells_ment hc (hm n1)) n2
  simp [execOp, ho, hvx, Instr.box, newVar, newRow]
theorem tyElem_inv {P : Program} {t : TypeId} {e : TypeId} (ht : tyElem P t = some e) : P.underlying t = some (.slice e) := by
 unfold tyElem at ht
 cases hu : P.underlying t with
 | none => simp [hu] at ht
 | some d => cases d <;> simp [hu] at ht; exact ht ▸ rfl
theorem zsize_inv {i : TypeInfo} (h : zsize i = true) : ∃ z, i.zero = some z ∧ z.cells.size = i.size ∧ 1 ≤ i.bytes := by
 unfold zsize at h
 cases hz : i.zero with
 | none => simp [hz] at h
 | some z => simp only [hz, Bool.and_eq_true, beq_true, Nat.ble_eq] at h; exact ⟨z, rfl, h.1, h.2⟩
theorem getD_app {α : Type} (xs ys : List α) (i : Nat) (d : α) : (xs ++ ys).getD i d = if i < xs.length then xs.getD i d else ys.getD (i - xs.length) d := by
 simp only [List.getD, List.getElem?_append]
 split <;> rfl
theorem Mem.app_spec {m m2 m3 : Mem} (h : m.app m2 = some m3) : m3.len = m.len + m2.len ∧ m3.width = m.width ∧ m2.width = m.width ∧ m3.flat = m.flat ∧ m2.flat = m.flat ∧
  ∀ i c, m3.get i c = if i < m.len then m.get i c else m2.get (i - m.len) c := by
 have key : ∀ {α : Type} (xs ys : List α) (d : α) (f : α → D) (i : Nat), f ((xs ++ ys).getD i d) = if i < xs.length then f (xs.getD i d) else f (ys.getD (i - xs.length) d) := by
  intro α xs ys d f i
  rw [getD_app]
  split <;> rfl
 cases m <;> cases m2 <;> simp only [Mem.app, Option.some.injEq, reduceCtorEq] at h <;> subst h
 ·exact ⟨by simp [Mem.len], rfl, rfl, rfl, rfl, fun i c => key _ _ _ (fun x => D.int .i64 x) i⟩
 ·exact ⟨by simp [Mem.len], rfl, rfl, rfl, rfl, fun i c => key _ _ _ (fun x => D.int .u8 ((x : Nat) : Int)) i⟩
 ·exact ⟨by simp [Mem.len], rfl, rfl, rfl, rfl, fun i c => key _ _ _ (fun x => D.sl (.ints x)) i⟩
 ·refine ⟨by simp [Mem.len], rfl, rfl, rfl, rfl, fun i c => ?_⟩
  cases c with
  | zero => exact key _ _ _ (fun (x : Int × Int) => D.int .i64 x.1) i
  | succ c => exact key _ _ _ (fun (x : Int × Int) => D.int .i64 x.2) i
theorem Mem.flat_get {m : Mem} (h : m.flat = true) (i c : Nat) : (m.get i c).flats = true := by
 cases m with
 | ints xs => rfl
 | bytes xs => rfl
 | rows xs => simp [Mem.flat] at h
 | pairs xs => cases c <;> rfl
theorem RD.weaken {O : Nat → Prop} {base : Nat → Prop} {fr fr' : Bool} {v : Value} {x : D} (h : RD w O base fr v x) (hf : fr' = true → fr = true) : RD w O base fr' v x := by
 cases fr' with
 | true => rw [hf rfl] at h; exact h
 | false => exact h.plain
theorem divmod_cell {i c n : Nat} (hc : c < n) : (i * n + c) / n = i ∧ (i * n + c) % n = c := by
 constructor
 ·rw [Nat.mul_comm, Nat.mul_add_div (by omega), Nat.div_eq_of_lt hc]; rfl
 ·rw [Nat.mul_comm, Nat.mul_add_mod, Nat.mod_eq_of_lt hc]
theorem cell_lt {i c n k : Nat} (hi : i < k) (hc : c < n) : i * n + c < k * n := by
 have : (i + 1) * n ≤ k * n := Nat.mul_le_mul_right _ hi
 rw [Nat.add_mul, Nat.one_mul] at this
 omega
structure RowAt (S : Setting) (ρ : Nat → Nm) (w : World) (st : Store) (v : Value) (fr : Bool) (m : Mem) (news : List Value) : Prop where
 form : ∃ ad n c, v = .slice ad n c ∧ n = m.len ∧ (ad = none → m.len = 0) ∧ ∀ b, ad = some b → ∀ (j : Nat) (u : Value), news[j]? = some u → w.cell? (b.add j) = some u
 len : news.length = m.len * m.width
 one : ∀ u ∈ news, u.oneCell' = true
 rd : ∀ i c, i < m.len → c < m.width → ∃ u, news[i * m.width + c]? = some u ∧ RD w (liveO S.O ρ st) S.F fr u (m.get i c)
theorem rowOf_ok (h : StR S ρ a w σ st) {v : Value} {p : PV} (hx : RPs S ρ w st v p) {fr : Bool} {m : Mem} {pr : Prop} (hr : rowOf (aget st) p = some (fr, m, pr)) (hpr : pr) :
  ∃ news, RowAt S ρ w st v fr m news := by
 cases p with
 | d f x =>
  cases x with
  | sl m' =>
   simp only [rowOf, Option.some.injEq, Prod.mk.injEq] at hr
   obtain ⟨rfl, rfl, _⟩ := hr
   have hx' := RPs.d_inv hx
   -- the cells
   have key : ∃ ad c, v = .slice ad m'.len c ∧ (ad = none → m'.len = 0) ∧ ∀ b, ad = some b → ∀ i c, i < m'.len → c < m'.width → ∃ u, w.cell? (b.add (i * m'.width + c)) = some u ∧ RD w (liveO S.O ρ st) S.F f u (m'.get i c) := by
    cases f with
    | true =>
     cases hx' with
     | slnil _ h0 => exact ⟨none, 0, by rw [h0], fun _ => h0, by simp⟩
     | sl _ b len cap hl hcp g hc hr =>
      refine ⟨some b, cap, by rw [hl], by simp, fun b' hb' i c hi hcw => ?_⟩
      cases hb'
      exact ⟨_, (ucell_some (hc i c hi hcw).1).1, hr i c hi hcw⟩
    | false =>
     cases hx' with
     | slnil _ h0 => exact ⟨none, 0, by rw [h0], fun _ => h0, by simp⟩
     | sl _ b len cap hl hcp g hc hr =>
      refine ⟨some b, cap, by rw [hl], by simp, fun b' hb' i c hi hcw => ?_⟩
      cases hb'
      exact ⟨_, (hc i c hi hcw).1, hr i c hi hcw⟩
   obtain ⟨ad, cap, h1, h2, h3⟩ := key
   have hw := m'.width_pos
   refine ⟨(List.range (m'.len * m'.width)).map fun j => ((ad.bind fun b => w.cell? (b.add j)).getD undef), ⟨ad, _, cap, h1, rfl, h2, fun b hb j u hu => ?_⟩, by simp, fun u hu => ?_, fun i c hi hcw => ?_⟩
   ·simp only [List.getElem?_map, Option.map_eq_some_iff] at hu
    obtain ⟨k, hk, rfl⟩ := hu
    obtain ⟨hlt, rfl⟩ := List.getElem?_eq_some_iff.1 hk
    simp at hlt
    have hq : j / m'.width < m'.len := Nat.div_lt_of_lt_mul (by rw [Nat.mul_comm]; exact hlt)
    obtain ⟨u, hu, _⟩ := h3 b hb (j / m'.width) (j % m'.width) hq (Nat.mod_lt _ hw)
    have e : j / m'.width * m'.width + j % m'.width = j := by rw [Nat.mul_comm]; exact Nat.div_add_mod _ _
    rw [e] at hu
    simp [hb, hu]
   ·simp only [List.mem_map, List.mem_range] at hu
    obtain ⟨j, hlt, rfl⟩ := hu
    have hq : j / m'.width < m'.len := Nat.div_lt_of_lt_mul (by rw [Nat.mul_comm]; exact hlt)
    cases had : ad with
    | none => have h0 := h2 had; rw [h0, Nat.zero_mul] at hlt; omega
    | some b =>
     obtain ⟨u, hu, hr⟩ := h3 b had (j / m'.width) (j % m'.width) hq (Nat.mod_lt _ hw)
     have e : j / m'.width * m'.width + j % m'.width = j := by rw [Nat.mul_comm]; exact Nat.div_add_mod _ _
     rw [e] at hu
     simp [hu, hr.plain.oneCell (Mem.get_cell _ _ _)]
   ·cases had : ad with
    | none => have := h2 had; omega
    | some b =>
     obtain ⟨u, hu, hr⟩ := h3 b had i c hi hcw
     exact ⟨u, by simp [cell_lt hi hcw, hu], hr⟩
  | _ => simp [rowOf] at hr
 | own k n =>
  simp only [rowOf] at hr
  cases hk : aget st k with
  | none => simp [hk] at hr
  | some e =>
   cases e with
   | arr f e' m' =>
    simp only [hk, Option.some.injEq, Prod.mk.injEq] at hr
    obtain ⟨rfl, rfl, rfl⟩ := hr
    obtain ⟨cur, e1, _, e2, e3, e4⟩ := h.ents k _ hk
    have hw := m'.width_pos
    have hle : m'.len * m'.width ≤ cur.size := by rw [e2]; exact Nat.mul_le_mul_right _ e3
    have key : ∃ ad c, v = .slice ad n c ∧ (ad = none → m'.len = 0) ∧ ∀ b, ad = some b → b = ⟨(ρ k).1, 0, none⟩ := by
     cases hx with
     | own => exact ⟨_, _, rfl, by simp, fun b hb => by cases hb; rfl⟩
     | ownN => exact ⟨none, 0, rfl, fun _ => by omega, by simp⟩
    obtain ⟨ad, cc, k1, k2, k3⟩ := key
    refine ⟨cur.toList.take (m'.len * m'.width), ⟨ad, n, cc, k1, hpr, k2, fun b hb j u hu => ?_⟩, by simp; omega, fun u hu => ?_, fun i c hi hcw => ?_⟩
    ·rw [k3 b hb]
     rw [List.getElem?_take] at hu
     split at hu
     ·rename_i hlt
      have hpos : 0 < m'.len := by
       rcases Nat.eq_zero_or_pos m'.len with h0 | h0
       ·rw [h0, Nat.zero_mul] at hlt; omega
       ·exact h0
      rw [add_lit0]; exact cell_in h hk (e1 (by omega)) (by simpa using hu)
     ·cases hu
    ·obtain ⟨j, hj⟩ := List.mem_iff_getElem?.1 hu
     rw [List.getElem?_take] at hj
     split at hj
     ·rename_i hlt
      have hq : j / m'.width < m'.len := Nat.div_lt_of_lt_mul (by rw [Nat.mul_comm]; exact hlt)
      obtain ⟨u', hu', hr⟩ := e4 (j / m'.width) (j % m'.width) hq (Nat.mod_lt _ hw)
      have e : j / m'.width * m'.width + j % m'.width = j := by rw [Nat.mul_comm]; exact Nat.div_add_mod _ _
      rw [e] at hu'
      have : u' = u := by simpa [hu'] using hj
      subst this
      exact hr.plain.oneCell (Mem.get_cell _ _ _)
     ·cases hj
    ·obtain ⟨u, hu, hr⟩ := e4 i c hi hcw
     exact ⟨u, by rw [List.getElem?_take, if_pos (cell_lt hi hcw)]; simpa using hu, hr⟩
   | box _ _ => simp [hk] at hr
   | reg => simp [hk] at hr
   | vw xs => simp [hk] at hr
   | mat _ _ _ _ => simp [hk] at hr
 | _ => simp [rowOf] at hr
theorem appendArr_good (h : StR S ρ a w σ st) (hd : ∀ d, o.dst = some d → d < S.n) {t : TypeId} {x y : Operand}
  (ho : o.op = .call { callee := .builtin .append, args := #[x, y], argTypes := #[t, t] }) {k : Nat} {p q : PV} {vx vy : Value} (hvx : a.eval x = vx) (hvy : a.eval y = vy)
  (hx : RPs S ρ w st vx p) (hy : RPs S ρ w st vy q) (hpre : ∀ r ∈ (appendArr S.P t k (aget st) p q).pre, r)
  (hnew : newOk σ st (appendArr S.P t k (aget st) p q).new = true) : Good S a w σ st o (appendArr S.P t k (aget st) p q) := by
 unfold appendArr at hpre hnew ⊢
 cases ht : tyElem S.P t with
 | none => simp only [ht] at hpre; exact (bad_pre hpre).elim
 | some e =>
 simp only [ht] at hpre hnew ⊢
 have hu := tyElem_inv ht
 cases hi : S.P.info? e with
 | none => simp only [hi] at hpre; exact (bad_pre hpre).elim
 | some i =>
 simp only [hi] at hpre hnew ⊢
 cases hmk : memKind S.P e with
 | none => simp only [hmk] at hpre; exact (bad_pre hpre).elim
 | some mk =>
 simp only [hmk] at hpre hnew ⊢
 cases hrow : rowOf (aget st) q with
 | none => simp only [hrow] at hpre; exact (bad_pre hpre).elim
 | some r =>
 obtain ⟨frx, m2, p2⟩ := r
 simp only [hrow] at hpre hnew ⊢
 have hexec : (execOp a.eval o) = (do pure (.value (← Builtin.append_ #[t, t] o.type #[vx, vy]))) := by
  simp only [execOp, ho, resolve, invoke, builtin, List.map_toArray, List.map_cons, List.map_nil, hvx, hvy]
  rfl
 have hrun : ∀ {v : Value} {w' : World}, (Builtin.append_ #[t, t] o.type #[vx, vy]).run S.P w = .ok v w' → (execOp a.eval o).run S.P w = .ok (.value v) w' := by
  intro v w' h1
  rw [hexec]
  simp only [Sem.run_bind, h1, Result.andThen_ok, Sem.run_pure]
 cases p with
 | own k1 n =>
  dsimp only at hpre hnew ⊢
  cases hk : aget st k1 with
  | none => simp only [hk] at hpre; exact (bad_pre hpre).elim
  | some en =>
  cases en with
  | arr fr e' m =>
   simp only [hk] at hpre hnew ⊢
   cases happ : m.app m2 with
   | none => simp only [happ] at hpre; exact (bad_pre hpre).elim
   | some m3 =>
   simp only [happ] at hpre hnew ⊢
   obtain ⟨hb, he, hp⟩ := chk_pre hpre
   rw [he] at hnew ⊢
   simp only [Bool.and_eq_true, beq_true] at hb
   obtain ⟨⟨rfl, hisz⟩, hzs⟩ := hb
   obtain ⟨z, hz, hzc, hby⟩ := zsize_inv hzs
   have hn : n = m.len := hp _ (by simp)
   have hp2 : p2 := hp _ (by simp)
   have hbytes : (m.len + m2.len) * i.bytes ≤ 140737488355328 := hp _ (by simp)
   obtain ⟨a1, a2, a3, a4, a5, a6⟩ := Mem.app_spec happ
   obtain ⟨news, ⟨ad, n2, c2, f1, f2, f3, f4⟩, r2, r3, r4⟩ := rowOf_ok h hy hrow hp2
   obtain ⟨n1, nk⟩ := newOk_one hnew
   obtain ⟨cur, e1, e2, e3, e4, e5⟩ := h.ents k1 _ hk
   have hform : vx = .slice (some ⟨(ρ k1).1, 0, none⟩) n (ρ k1).2 ∨ (vx = .slice none 0 0 ∧ n = 0 ∧ (ρ k1).2 = 0) := by
    cases hx with
    | own => exact .inl rfl
    | ownN _ hc => exact .inr ⟨rfl, rfl, hc⟩
   clear hx
   subst hn
   have hle63 : m.len + m2.len ≤ 140737488355328 := Nat.le_trans (Nat.le_mul_of_pos_right _ (by omega)) hbytes
   have hw := m.width_pos
   -- the old cells
   have olds_len : (cur.toList.take (m.len * m.width)).length = m.len * i.size := by
    rw [hisz]; simp
    have : m.len * m.width ≤ (ρ k1).2 * m.width := Nat.mul_le_mul_right _ e4
    omega
   have olds_get : ∀ (i c : Nat), i < m.len → c < m.width → ∃ v, (cur.toList.take (m.len * m.width))[i * m.width + c]? = some v ∧ RD w (liveO S.O ρ st) S.F fr v (m.get i c) := by
    intro i c hi hc
    obtain ⟨v, hv, hr⟩ := e5 i c hi hc
    exact ⟨v, by rw [List.getElem?_take, if_pos (cell_lt hi hc)]; simpa using hv, hr⟩
   -- the cells joined
   have join_get : ∀ (extra : List Value) (i c : Nat), i < m3.len → c < m3.width → ∃ v, ((cur.toList.take (m.len * m.width)) ++ news ++ extra)[i * m3.width + c]? = some v ∧ RD w (liveO S.O ρ st) S.F (m.flat || (fr && frx)) v (m3.get i c) := by
    intro extra i' c hi' hc
    rw [a2] at hc ⊢
    rw [a6]
    by_cases hlt : i' < m.len
    ·obtain ⟨v, hv, hr⟩ := olds_get i' c hlt hc
     refine ⟨v, ?_, ?_⟩
     ·rw [List.append_assoc, List.getElem?_append_left (by rw [olds_len, hisz]; exact cell_lt hlt hc)]; exact hv
     ·rw [if_pos hlt]
      cases hf : m.flat with
      | true => exact RD.of_flats hr (Mem.flat_get hf _ _)
      | false => exact hr.weaken (by simp; intro h1 _; exact h1)
    ·obtain ⟨v, hv, hr⟩ := r4 (i' - m.len) c (by omega) (by rw [a3]; exact hc)
     rw [a3] at hv
     have eidx : i' * m.width + c - m.len * m.width = (i' - m.len) * m.width + c := by
      rw [Nat.sub_mul]
      have : m.len * m.width ≤ i' * m.width := Nat.mul_le_mul_right _ (by omega)
      omega
     have hge : (cur.toList.take (m.len * m.width)).length ≤ i' * m.width + c := by
      rw [olds_len, hisz]
      have : m.len * m.width ≤ i' * m.width := Nat.mul_le_mul_right _ (by omega)
      omega
     have hlt2 : (i' - m.len) * m.width + c < news.length := (List.getElem?_eq_some_iff.1 hv).1
     refine ⟨v, ?_, ?_⟩
     ·rw [List.append_assoc, List.getElem?_append_right hge, olds_len, hisz, eidx, List.getElem?_append_left hlt2]; exact hv
     ·rw [if_neg hlt]
      cases hf : m.flat with
      | true => exact RD.of_flats hr (Mem.flat_get (by rw [a5]; exact hf) _ _)
      | false => exact hr.weaken (by simp)
   have hdead : ∀ j, (some k1 : Option Nat) = some j → (∃ fr e m, aget st j = some (.arr fr e m)) ∧ j ≠ k := by
    intro j hj
    cases hj
    exact ⟨⟨_, _, _, hk⟩, fun e => by rw [e, nk] at hk; cases hk⟩
   have hnl : news.length = m2.len * i.size := by rw [r2, a3, hisz]
   have fin : ∀ (w' : World) (v : Value), (Builtin.append_ #[t, t] o.type #[vx, vy]).run S.P w = .ok v w' → StR S ρ a w' σ ((k1, Ent.arr (m.flat || (fr && frx)) e' m3) :: adel st k1) →
     RP w' (liveO S.O (upd ρ k (ρ k1)) ((k, Ent.arr (m.flat || (fr && frx)) e' m3) :: adel st k1)) S.F (upd ρ k (ρ k1)) v (.own k (m.len + m2.len)) →
     Good S a w σ st o ⟨[m.len = m.len, p2, (m.len + m2.len) * i.bytes ≤ 140737488355328], .own k (m.len + m2.len), [(k, Ent.arr (m.flat || (fr && frx)) e' m3)], some k1, none⟩ := by
    intro w' v hr1 h2 hv K Q hK
    have hne : k1 ≠ k := (hdead k1 rfl).2
    have hun2 : unment k σ ((k1, Ent.arr (m.flat || (fr && frx)) e' m3) :: adel st k1) = true := by
     simp only [unment, Bool.and_eq_true, List.all_eq_true] at n1 ⊢
     refine ⟨n1.1, fun x hx => ?_⟩
     rcases List.mem_cons.1 hx with rfl | hx
     ·rfl
     ·have : ∀ (l : Store) (x : Nat × Ent), x ∈ adel l k1 → x ∈ l := by
       intro l
       induction l with
       | nil => intro x hx; exact hx
       | cons y r ih =>
        intro x hx
        obtain ⟨jy, ey⟩ := y
        simp only [adel] at hx
        cases hb : Nat.beq jy k1 with
        | true => rw [hb] at hx; exact List.mem_cons_of_mem _ (ih x hx)
        | false =>
         rw [hb] at hx
         rcases List.mem_cons.1 hx with rfl | hx
         ·exact List.mem_cons_self
         ·exact List.mem_cons_of_mem _ (ih x hx)
      exact n1.2 x (this st x hx)
    have h3 := h2.rename k1 k (.arr (m.flat || (fr && frx)) e' m3) (aget_cons_same _ _ _) hne hun2 (by rw [aget_cons_ne hne, aget_adel_ne st (Ne.symm hne)]; exact nk) rfl (by simp)
    have est : adel ((k1, Ent.arr (m.flat || (fr && frx)) e' m3) :: adel st k1) k1 = adel st k1 := by
     simp only [adel, beq_self, cond_true]
     have idem : ∀ l : Store, adel (adel l k1) k1 = adel l k1 := by
      intro l
      induction l with
      | nil => rfl
      | cons y r ih =>
       obtain ⟨jy, ey⟩ := y
       simp only [adel]
       cases hb : Nat.beq jy k1 with
       | true => simp [ih]
       | false => simp [adel, hb, ih]
     exact idem st
    rw [est] at h3
    exact wp_value (hrun hr1) (hK _ _ _ (h3.val o.dst _ (.own k (m.len + m2.len)) hd hv (fun j hj => by simp [PV.rgm] at hj)))
   by_cases hcap0 : (ρ k1).2 = 0 ∧ m2.len = 0
   ·
    obtain ⟨hc0, hm2⟩ := hcap0
    have hm0 : m.len = 0 := by omega
    have hm3 : m3.len = 0 := by omega
    have hn0 : news = [] := List.eq_nil_of_length_eq_zero (by rw [r2, hm2]; simp)
    have hvy' : vy = .slice ad 0 c2 := by rw [f1, f2, hm2]
    have hfc : (Builtin.firstCells i.size 0 (.slice ad 0 c2)).run S.P w = .ok #[] w := by
     cases ad with
     | none => exact run_firstCells_none w _ _ _ _
     | some b => exact run_firstCells_some (P := S.P) w i.size 0 b 0 c2 [] (by simp) (by simp)
    have hr1 : (Builtin.append_ #[t, t] o.type #[vx, vy]).run S.P w = .ok vx w := by
     rw [hvy']
     rcases hform with h1 | ⟨h1, _, _⟩
     ·rw [h1]; simp [Builtin.append_, run_underlying hu, sizeOf, typeInfo, hi, Builtin.lenOf, hm0, hc0, hfc, storeCells]
     ·rw [h1]; simp [Builtin.append_, run_underlying hu, sizeOf, typeInfo, hi, Builtin.lenOf, hfc, storeCells]
    have h2 := h.write k1 (.arr fr e' m) (Ent.arr (m.flat || (fr && frx)) e' m3) hk (w' := w) rfl rfl rfl rfl (fun _ _ _ => rfl) (fun _ => Iff.rfl) (by simp) (fun t cs he => by cases he)
     ⟨cur, e1, e2, by rw [a2]; exact e3, by omega, fun i' c hi' _ => by omega⟩
    refine fin w vx hr1 h2 ?_
    rw [hm0, hm2]
    have hc0' : (upd ρ k (ρ k1) k).2 = 0 := by rw [upd_same]; exact hc0
    rcases hform with h1 | ⟨h1, _, _⟩
    ·rw [h1, hm0]
     have := RP.own (w := w) (O := liveO S.O (upd ρ k (ρ k1)) ((k, Ent.arr (m.flat || (fr && frx)) e' m3) :: adel st k1)) (base := S.F) (ρ := upd ρ k (ρ k1)) k 0
     rw [upd_same] at this
     exact this
    ·rw [h1]; exact .ownN k hc0'
   by_cases hroom : m.len + m2.len ≤ (ρ k1).2
   ·
    have hfit : m.len * i.size + news.length ≤ cur.size := by
     rw [hnl, e3, hisz, ← Nat.add_mul]; exact Nat.mul_le_mul_right _ hroom
    have hpos : 0 < (ρ k1).2 := by omega
    have e1 := e1 hpos
    have hx' : vx = .slice (some ⟨(ρ k1).1, 0, none⟩) m.len (ρ k1).2 := by
     rcases hform with h1 | ⟨_, _, h1⟩
     ·exact h1
     ·omega
    have hr1 : (Builtin.append_ #[t, t] o.type #[vx, vy]).run S.P w = .ok (.slice (some ⟨(ρ k1).1, 0, none⟩) (m.len + m2.len) (ρ k1).2)
      (w.setRow (ρ k1).1 (cur.toList.take (m.len * i.size) ++ news ++ cur.toList.drop (m.len * i.size + news.length)).toArray) := by
     rw [hx', f1, f2]
     cases ad with
     | some b => exact run_append_room (P := S.P) w t o.type e' i hu hi _ _ _ cur e1 b m2.len c2 news hnl (f4 b rfl) r3 hroom hfit
     | none =>
      have hm2 : m2.len = 0 := f3 rfl
      have hn0 : news = [] := List.eq_nil_of_length_eq_zero (by rw [r2, hm2]; simp)
      subst hn0
      have hself : w.setRow (ρ k1).1 (cur.toList.take (m.len * i.size) ++ [] ++ cur.toList.drop (m.len * i.size + ([] : List Value).length)).toArray = w := by
       have : (cur.toList.take (m.len * i.size) ++ [] ++ cur.toList.drop (m.len * i.size + ([] : List Value).length)).toArray = cur := by simp
       rw [this]
       exact setRow_self w _ cur _ _ e1
      rw [hself, hm2]
      have hroom' : m.len ≤ (ρ k1).2 := e4
      simp [Builtin.append_, run_underlying hu, sizeOf, typeInfo, hi, Builtin.lenOf, hroom', run_firstCells_none, storeCells]
    rw [hisz] at hr1
    have hb : ∀ b, b < w.heap.size → ¬ blk (.arr fr e' m) (ρ k1) b →
      (w.setRow (ρ k1).1 (cur.toList.take (m.len * m.width) ++ news ++ cur.toList.drop (m.len * m.width + news.length)).toArray).heap[b]? = w.heap[b]? := fun b _ hne => setRow_other w _ b _ fun e => hne ⟨e, hpos⟩
    have hkk := write_hk h k1 (.arr fr e' m) (.arr (m.flat || (fr && frx)) e' m3) hk hb (fun _ => Iff.rfl)
    have hok : EntOk (w.setRow (ρ k1).1 (cur.toList.take (m.len * m.width) ++ news ++ cur.toList.drop (m.len * m.width + news.length)).toArray)
      (liveO S.O ρ ((k1, .arr (m.flat || (fr && frx)) e' m3) :: adel st k1)) S.F ρ k1 (.arr (m.flat || (fr && frx)) e' m3) := by
     refine ⟨_, fun _ => setRow_heap w _ cur _ _ _ e1, e2, ?_, by omega, fun i' c hi' hc => ?_⟩
     ·simp only [List.size_toArray, List.length_append, List.length_take, List.length_drop, Array.length_toList]
      rw [a2]
      rw [hisz] at hfit
      have : m.len * m.width ≤ cur.size := by omega
      rw [← e3]; omega
     ·obtain ⟨v, hv, hr⟩ := join_get _ i' c hi' hc
      exact ⟨v, by simpa using hv, hr.step hkk⟩
    have h2 := h.write k1 (.arr fr e' m) (.arr (m.flat || (fr && frx)) e' m3) hk (w' := w.setRow (ρ k1).1 (cur.toList.take (m.len * m.width) ++ news ++ cur.toList.drop (m.len * m.width + news.length)).toArray) rfl rfl rfl (by simp) hb
     (fun _ => Iff.rfl) (by simp) (fun t cs he => by cases he) hok
    have hv : RP (w.setRow (ρ k1).1 (cur.toList.take (m.len * m.width) ++ news ++ cur.toList.drop (m.len * m.width + news.length)).toArray)
      (liveO S.O (upd ρ k (ρ k1)) ((k, .arr (m.flat || (fr && frx)) e' m3) :: adel st k1)) S.F (upd ρ k (ρ k1)) (.slice (some ⟨(ρ k1).1, 0, none⟩) (m.len + m2.len) (ρ k1).2) (.own k (m.len + m2.len)) := by
     have := RP.own (w := w.setRow (ρ k1).1 (cur.toList.take (m.len * m.width) ++ news ++ cur.toList.drop (m.len * m.width + news.length)).toArray)
      (O := liveO S.O (upd ρ k (ρ k1)) ((k, .arr (m.flat || (fr && frx)) e' m3) :: adel st k1)) (base := S.F) (ρ := upd ρ k (ρ k1)) k (m.len + m2.len)
     rw [upd_same] at this
     exact this
    exact fin _ _ hr1 h2 hv
   ·
    have hlt : (ρ k1).2 < m.len + m2.len := by omega
    have holds : ∀ (j : Nat) (u : Value), (cur.toList.take (m.len * m.width))[j]? = some u → w.cell? ((⟨(ρ k1).1, 0, none⟩ : Addr).add j) = some u := by
     intro j u hu
     rw [List.getElem?_take] at hu
     split at hu
     ·rename_i hlt2
      have hpos : 0 < m.len := by
       rcases Nat.eq_zero_or_pos m.len with h0 | h0
       ·rw [h0, Nat.zero_mul] at hlt2; omega
       ·exact h0
      rw [add_lit0]; exact cell_in h hk (e1 (by omega)) (by simpa using hu)
     ·cases hu
    have hm2 : ad ≠ none := fun h0 => by have := f3 h0; omega
    obtain ⟨b, hb⟩ := Option.ne_none_iff_exists'.1 hm2
    subst hb
    have f1' : vy = .slice (some b) m2.len c2 := by rw [f1, f2]
    have hr1 : (Builtin.append_ #[t, t] o.type #[vx, vy]).run S.P w = .ok (.slice (some ⟨w.heap.size, 0, none⟩) (m.len + m2.len) (grownCap w (m.len + m2.len) (ρ k1).2 e'))
      (w.drew.alloc (.cells ((cur.toList.take (m.len * m.width)).toArray ++ news.toArray ++ Builtin.zeroCells z.cells (grownCap w (m.len + m2.len) (ρ k1).2 e' - (m.len + m2.len))) e')) := by
     rw [f1']
     rcases hform with h1 | ⟨h1, hm0, hc0⟩
     ·rw [h1]; exact run_append_grow (P := S.P) w t o.type e' i z hu hi hz ⟨(ρ k1).1, 0, none⟩ m.len (ρ k1).2 _ olds_len holds b m2.len c2 news hnl (f4 b rfl) hlt (by omega) (growslice_fits hlt hbytes)
     ·rw [h1]
      have hr := run_append_nil (P := S.P) w t o.type e' i z hu hi hz b m2.len c2 news hnl (f4 b rfl) (by omega) (by omega) (by rw [hm0, Nat.zero_add] at hbytes; omega)
      rw [hr, hm0, hc0]
      simp
    have hge := grownCap_ge w (m.len + m2.len) (ρ k1).2 e'
    have hmax : grownCap w (m.len + m2.len) (ρ k1).2 e' ≤ maxLen := grownCap_le_maxLen w _ _ _ (by unfold maxLen; omega)
    refine Good.newArr (w1 := w.drew) (ρ1 := ρ) h hd k (grownCap w (m.len + m2.len) (ρ k1).2 e') (m.len + m2.len) h.drew (hrun hr1) hdead ?_ (by omega) hmax (fun i' c hi' hc => ?_) n1 nk
    ·simp only [Array.size_append, List.size_toArray, size_zeroCells, hzc, olds_len, hnl, ← Nat.add_mul]
     rw [a2, ← hisz]
     congr 1
     omega
    ·obtain ⟨v, hv, hr⟩ := join_get (Builtin.zeroCells z.cells (grownCap w (m.len + m2.len) (ρ k1).2 e' - (m.len + m2.len))).toList i' c hi' hc
     refine ⟨v, ?_, hr.step fun _ _ hn => ⟨rfl, hn⟩⟩
     rw [← hv, ← Array.getElem?_toList]
     simp
  | box _ _ => simp only [hk] at hpre; exact (bad_pre hpre).elim
  | reg => simp only [hk] at hpre; exact (bad_pre hpre).elim
  | vw xs => simp only [hk] at hpre; exact (bad_pre hpre).elim
  | mat _ _ _ _ => simp only [hk] at hpre; exact (bad_pre hpre).elim
 | d f xd =>
  cases xd with
  | nil =>
   dsimp only at hpre hnew ⊢
   cases happ : mk.empty.app m2 with
   | none => simp only [happ] at hpre; exact (bad_pre hpre).elim
   | some m3 =>
   simp only [happ] at hpre hnew ⊢
   obtain ⟨hb, he, hp⟩ := chk_pre hpre
   rw [he] at hnew ⊢
   simp only [Bool.and_eq_true, beq_true] at hb
   obtain ⟨hisz, hzs⟩ := hb
   obtain ⟨z, hz, hzc, hby⟩ := zsize_inv hzs
   have hp2 : p2 := hp _ (by simp)
   have hpos : 0 < m2.len := hp _ (by simp)
   have hbytes : m2.len * i.bytes ≤ 140737488355328 := hp _ (by simp)
   obtain ⟨a1, a2, a3, a4, a5, a6⟩ := Mem.app_spec happ
   have hml : mk.empty.len = 0 := by cases mk <;> rfl
   obtain ⟨news, ⟨ad, n2, c2, f1, f2, f3, f4⟩, r2, r3, r4⟩ := rowOf_ok h hy hrow hp2
   obtain ⟨n1, nk⟩ := newOk_one hnew
   have hx' : vx = .slice none 0 0 := (RPs.d_inv hx).nil_inv
   have hm2 : ad ≠ none := fun h0 => by have := f3 h0; omega
   obtain ⟨b, hb⟩ := Option.ne_none_iff_exists'.1 hm2
   subst hb
   have hnl : news.length = m2.len * i.size := by rw [r2, hisz]
   have hle63 : m2.len ≤ 140737488355328 := Nat.le_trans (Nat.le_mul_of_pos_right _ (by omega)) hbytes
   have hr1 := run_append_nil (P := S.P) w t o.type e i z hu hi hz b m2.len c2 news hnl (f4 b rfl) hpos (by omega) (by omega)
   have f1' : vy = .slice (some b) m2.len c2 := by rw [f1, f2]
   rw [← hx', ← f1'] at hr1
   have hge := grownCap_ge w m2.len 0 e
   have hmax : grownCap w m2.len 0 e ≤ maxLen := grownCap_le_maxLen w _ _ _ (by unfold maxLen; omega)
   refine Good.newArr (w1 := w.drew) (ρ1 := ρ) h hd k (grownCap w m2.len 0 e) m2.len h.drew (hrun hr1) (by simp) ?_ (by omega) hmax (fun i' c hi' hc => ?_) n1 nk
   ·simp only [Array.size_append, List.size_toArray, size_zeroCells, hzc, hnl, ← Nat.add_mul]
    rw [a2, ← a3, ← hisz]
    congr 1
    omega
   ·rw [a1, hml, Nat.zero_add] at hi'
    rw [a2, ← a3] at hc ⊢
    obtain ⟨v, hv, hr⟩ := r4 i' c hi' hc
    refine ⟨v, ?_, ?_⟩
    ·rw [← Array.getElem?_toList, Array.toList_append, List.getElem?_append_left (List.getElem?_eq_some_iff.1 hv).1]; exact hv
    ·rw [a6, hml, if_neg (by omega), Nat.sub_zero]
     have hr' : RD w.drew (liveO S.O ρ st) S.F frx v (m2.get i' c) := hr.step fun _ _ hn => ⟨rfl, hn⟩
     cases hf : m2.flat with
     | true => exact RD.of_flats hr' (Mem.flat_get hf _ _)
     | false => exact hr'.weaken (by simp)
  | _ => exact (bad_pre hpre).elim
 | _ => exact (bad_pre hpre).elim
end Go.Proofs.Ytomnmacmlhkceaa
