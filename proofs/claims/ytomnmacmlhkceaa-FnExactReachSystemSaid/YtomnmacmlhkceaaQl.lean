/- The pure layer, part L: structs and arrays built, elements written, calls. No function of the program is named here. -/
import Derived.Test.YtomnmacmlhkceaaQk
set_option linter.unusedVariables false
set_option linter.unusedSimpArgs false
namespace Go.Proofs.Ytomnmacmlhkceaa
open Go
variable {S : Setting} {ρ : Nat → Nm} {a : Act} {w : World} {σ : Env} {st : Store} {o : Oper}
theorem fill_rel {O : Nat → Prop} {base : Nat → Prop} (place : Nat → Option (Nat × Nat)) : ∀ (pp : List (Nat × PV)) (pv : List (Nat × Value)) (cs cs' : List PV) (cells : Array Value),
  cells.size = cs.length → (∀ (j : Nat) (u : Value) (q : PV), cells[j]? = some u → cs[j]? = some q → RP w O base ρ u q) →
  pp.length = pv.length → (∀ (j : Nat) (x : Nat × PV) (y : Nat × Value), pp[j]? = some x → pv[j]? = some y → x.1 = y.1 ∧ RP w O base ρ y.2 x.2) →
  fillPV place cs pp = some cs' → ∃ out, Instr.fill place cells pv = some out ∧ out.size = cs'.length ∧ ∀ (j : Nat) (u : Value) (q : PV), out[j]? = some u → cs'[j]? = some q → RP w O base ρ u q
 | [], [], cs, cs', cells, h1, h2, _, _, hf => by
  simp only [fillPV, Option.some.injEq] at hf
  subst hf
  exact ⟨cells, rfl, h1, h2⟩
 | (i, p) :: r, (i', v) :: r', cs, cs', cells, h1, h2, hl, hp, hf => by
  obtain ⟨e1, e2⟩ := hp 0 _ _ rfl rfl
  simp only at e1 e2
  subst e1
  simp only [fillPV] at hf
  cases hpl : place i with
  | none => simp [hpl] at hf
  | some os =>
  obtain ⟨off, size⟩ := os
  cases hc : p.cells with
  | none => simp [hpl, hc] at hf
  | some qs =>
  simp only [hpl, hc] at hf
  cases hb : (Nat.beq qs.length size && Nat.ble (off + qs.length) cs.length) with
  | false => simp [hb] at hf
  | true =>
  simp only [hb, cond_true] at hf
  simp only [Bool.and_eq_true, beq_true, Nat.ble_eq] at hb
  obtain ⟨hb1, hb2⟩ := hb
  obtain ⟨c1, c2⟩ := cells_ok e2 hc
  have hvs : v.cells.size = qs.length := by simpa using c1
  obtain ⟨f1, f2⟩ := fold_set_arr off v.cells cells (by omega)
  have s1 := splice_len cs qs off hb2
  have s2 := splice_get cs qs off hb2
  obtain ⟨out, o1, o2, o3⟩ := fill_rel place r r' _ cs' (v.cells.zipIdx.foldl (fun cs (c, j) => cs.setIfInBounds (off + j) c) cells) (by rw [f1, s1, h1])
   (fun j u q hu hq => by
    rw [f2] at hu
    rw [s2] at hq
    by_cases g1 : j < off
    ·rw [if_neg (by omega)] at hu; rw [if_pos g1] at hq; exact h2 j u q hu hq
    ·rw [if_neg g1] at hq
     by_cases g2 : j < off + qs.length
     ·rw [if_pos (by omega)] at hu; rw [if_pos g2] at hq; exact c2 (j - off) u q (by simpa using hu) hq
     ·rw [if_neg (by omega)] at hu; rw [if_neg g2] at hq; exact h2 j u q hu hq)
   (by simpa using hl) (fun j x y hx hy => hp (j + 1) x y (by simpa using hx) (by simpa using hy)) hf
  refine ⟨out, ?_, o2, o3⟩
  have hne : (v.cells.size ≠ size || off + v.cells.size > cells.size) = false := by simp [hvs, hb1]; omega
  unfold Instr.fill
  simp only [hpl, hne, Bool.false_eq_true, if_false]
  exact o1
theorem places_run {P : Program} (w : World) : ∀ (fs : List Field) , (∀ f ∈ fs, ∃ n, tySize P f.type = some n) →
  ∃ ps : List (Nat × Nat), (fs.mapM (fun f => (do pure (f.offset, ← sizeOf f.type) : Sem (Nat × Nat)))).run P w = .ok ps w ∧ ps.length = fs.length ∧ ∀ (j : Nat) (f : Field), fs[j]? = some f → ∃ n, tySize P f.type = some n ∧ ps[j]? = some (f.offset, n)
 | [], _ => ⟨[], rfl, rfl, fun j f h => by simp at h⟩
 | f :: r, h => by
  obtain ⟨n, hn⟩ := h f (by simp)
  obtain ⟨ps, h1, h2, h3⟩ := places_run w r fun f hf => h f (by simp [hf])
  refine ⟨(f.offset, n) :: ps, ?_, by simp [h2], fun j g hg => ?_⟩
  ·simp only [List.mapM_cons, Sem.run_bind, run_sizeOf hn, Result.andThen_ok, Sem.run_pure, h1]
  ·cases j with
   | zero => simp at hg; subst hg; exact ⟨n, hn, rfl⟩
   | succ j => simp at hg; simpa using h3 j g hg
theorem build_good (h : StR S ρ a w σ st) (hd : ∀ d, o.dst = some d → d < S.n) {t : TypeId} {parts : Array (Nat × Operand)} (ho : o.op = .build t parts) {ps : List PV}
  (hl : ps.length = parts.size) (hx : ∀ (j i : Nat) (x : Operand) (p : PV), parts[j]? = some (i, x) → ps[j]? = some p → RPs S ρ w st (a.eval x) p)
  (hpre : ∀ r ∈ (buildRun S.P t parts.toList ps).pre, r) : Good S a w σ st o (buildRun S.P t parts.toList ps) := by
 unfold buildRun at hpre ⊢
 cases hpl : placesOf S.P t with
 | none => simp only [hpl] at hpre; exact (bad_pre hpre).elim
 | some pl =>
 cases hz : zeroCellsP S.P t with
 | none => simp only [hpl, hz] at hpre; exact (bad_pre hpre).elim
 | some zs =>
 simp only [hpl, hz] at hpre ⊢
 cases hf : fillPV pl zs ((parts.toList.map (·.1)).zip ps) with
 | none => simp only [hf] at hpre; exact (bad_pre hpre).elim
 | some cs =>
 simp only [hf] at hpre ⊢
 obtain ⟨hb, he, _⟩ := chk_pre hpre
 rw [he]
 simp only [Bool.and_eq_true] at hb
 obtain ⟨hb, hsf⟩ := hb
 obtain ⟨i, z, h1, h2, rfl⟩ := zeroCells_inv hz
 obtain ⟨out, o1, o2, o3⟩ := fill_rel (w := w) (ρ := ρ) (O := liveO S.O ρ st) (base := S.F) pl ((parts.toList.map (·.1)).zip ps) ((parts.map fun (i, x) => (i, a.eval x)).toList) _ cs z.cells (by simp)
  (fun j u q hu hq => by
   simp only [List.getElem?_map, Option.map_eq_some_iff] at hq
   obtain ⟨u', hu', rfl⟩ := hq
   have : u' = u := by simpa [hu] using hu'.symm
   subst this
   exact ofV_ok _)
  (by simp [hl])
  (fun j x y hx1 hy1 => by
   simp only [Array.toList_map, List.getElem?_map, Option.map_eq_some_iff] at hy1
   obtain ⟨⟨i', xo⟩, hp1, hp2⟩ := hy1
   have hjl : j < ps.length := by rw [hl]; have := (List.getElem?_eq_some_iff.1 hp1).1; simpa using this
   have hpj : ps[j]? = some ps[j] := List.getElem?_eq_getElem hjl
   rw [List.getElem?_zip_eq_some] at hx1
   obtain ⟨g1, g2⟩ := hx1
   simp only [List.getElem?_map, hp1, Option.map_some, Option.some.injEq] at g1
   subst hp2
   exact ⟨g1.symm, hx j i' xo x.2 (by simpa using hp1) g2⟩) hf
 have hr : (execOp a.eval o).run S.P w = .ok (.value (.agg out)) w := by
  have hb : (Instr.build t (parts.map fun (i, x) => (i, a.eval x))).run S.P w = .ok (.agg out) w := by
   unfold placesOf at hpl
   cases hu : S.P.underlying t with
   | none => simp [hu] at hpl
   | some dd =>
    cases dd with
    | struct fs =>
     simp only [hu, Option.some.injEq] at hpl
     have hsz : ∀ f ∈ fs.toList, ∃ n, tySize S.P f.type = some n := by
      intro f hf
      unfold sizedFields at hsf
      simp only [hu] at hsf
      have := Array.all_eq_true_iff_forall_mem.1 hsf f (by simpa using hf)
      exact Option.isSome_iff_exists.1 this
     obtain ⟨pls, q1, q2, q3⟩ := places_run (P := S.P) w fs.toList hsz
     have hpleq : (fun i => pls.toArray[i]?) = pl := by
      funext i
      rw [← hpl]
      simp only [List.getElem?_toArray]
      cases hfi : fs[i]? with
      | none =>
       have : pls[i]? = none := by
        rw [List.getElem?_eq_none_iff, q2]
        have := Array.getElem?_eq_none_iff.1 hfi
        simpa using this
       simp [this]
      | some f =>
       obtain ⟨n, hn, hp⟩ := q3 i f (by simpa using hfi)
       simp [hn, hp]
     have hmapM : (fs.mapM (fun f => (do pure (f.offset, ← sizeOf f.type) : Sem (Nat × Nat)))).run S.P w = .ok pls.toArray w := by
      have e1 : fs.mapM (fun f => (do pure (f.offset, ← sizeOf f.type) : Sem (Nat × Nat))) = List.toArray <$> fs.toList.mapM (fun f => (do pure (f.offset, ← sizeOf f.type) : Sem (Nat × Nat))) := by
       cases fs with
       | mk l => exact List.mapM_toArray ..
      rw [e1, Sem.run_map, q1]
      rfl
     simp only [Instr.build, Sem.run_bind, zeroValue_run h1 h2, Result.andThen_ok, run_underlying hu, hmapM, hpleq, o1]
     rfl
    | array len e =>
     simp only [hu] at hpl
     cases hse : tySize S.P e with
     | none => simp [hse] at hpl
     | some n =>
      simp only [hse, Option.some.injEq] at hpl
      have hpl' : (fun i => some (i * n, n)) = pl := by rw [← hpl]; funext i; rw [mulw_eq]
      simp only [Instr.build, Sem.run_bind, zeroValue_run h1 h2, Result.andThen_ok, run_underlying hu, run_sizeOf hse, hpl', o1]
      rfl
    | _ => simp [hu] at hpl
  simp only [execOp, ho, Sem.run_bind, hb, Result.andThen_ok, Sem.run_pure]
 have harr : out = out.toList.toArray := by simp
 rw [harr] at hr
 exact Good.val h hd hr (.agg _ _ (by simpa using o2) fun j u q hu hq => o3 j u q (by simpa using hu) hq) (fun j hj => by
  simp only [PV.rgm] at hj
  rw [PV.nrL_rgmL j cs hb.2] at hj; cases hj)
theorem getD_set {α : Type} (xs : List α) (i j : Nat) (x d : α) (hi : i < xs.length) : (xs.set i x).getD j d = if j = i then x else xs.getD j d := by
 by_cases h : j = i
 ·subst h; simp [List.getD, hi]
 ·rw [if_neg h]; simp [List.getD, List.getElem?_set_ne (Ne.symm h)]
theorem Mem.set_spec {m m' : Mem} {i c : Nat} {y : D} (h : m.set i c y = some m') (hi : i < m.len) (hc : c < m.width) :
  m'.len = m.len ∧ m'.width = m.width ∧ m'.flat = m.flat ∧
  ((y.cell = true ∧ aggW y = 1 ∧ ∀ i' c', c' < m.width → m'.get i' c' = if i' = i ∧ c' = c then y else m.get i' c') ∨
     (∃ u v, y = .agg [u, v] ∧ m.width = 2 ∧ c = 0 ∧ u.cell = true ∧ v.cell = true ∧ ∀ i' c', c' < m.width → m'.get i' c' = if i' = i then (if c' = 0 then u else v) else m.get i' c')) := by
 cases m with
 | ints xs =>
  cases y with
  | int k n =>
   cases k <;> simp only [Mem.set, Option.some.injEq, reduceCtorEq] at h
   subst h
   simp only [Mem.len, Mem.width] at hi hc
   refine ⟨by simp [Mem.len], rfl, rfl, .inl ⟨rfl, rfl, fun i' c' hc' => ?_⟩⟩
   have e : c = 0 := by omega
   have e' : c' = 0 := by simp [Mem.width] at hc'; exact hc'
   subst e e'
   show D.int .i64 ((xs.set i n).getD i' 0) = _
   rw [getD_set _ _ _ _ _ hi]
   by_cases g : i' = i
   ·rw [if_pos g, if_pos ⟨g, rfl⟩]
   ·rw [if_neg g, if_neg (by simp [g])]; rfl
  | _ => simp [Mem.set] at h
 | bytes xs => cases y <;> simp [Mem.set] at h
 | rows xss =>
  cases y with
  | sl mm =>
   cases mm <;> simp only [Mem.set, Option.some.injEq, reduceCtorEq] at h
   rename_i ys
   subst h
   simp only [Mem.len, Mem.width] at hi hc
   refine ⟨by simp [Mem.len], rfl, rfl, .inl ⟨rfl, rfl, fun i' c' hc' => ?_⟩⟩
   have e : c = 0 := by omega
   have e' : c' = 0 := by simp [Mem.width] at hc'; exact hc'
   subst e e'
   show D.sl (.ints ((xss.set i ys).getD i' [])) = _
   rw [getD_set _ _ _ _ _ hi]
   by_cases g : i' = i
   ·rw [if_pos g, if_pos ⟨g, rfl⟩]
   ·rw [if_neg g, if_neg (by simp [g])]; rfl
  | _ => simp [Mem.set] at h
 | pairs ps =>
  simp only [Mem.len, Mem.width] at hi hc
  have comp : ∀ (i' c' : Nat), c' < 2 → c' = 0 ∨ c' = 1 := fun _ _ h => by omega
  cases y with
  | int k n =>
   match c, h with
   | 0, h =>
    cases k <;> simp only [Mem.set, Option.some.injEq, reduceCtorEq] at h
    subst h
    refine ⟨by simp [Mem.len], rfl, rfl, .inl ⟨rfl, rfl, fun i' c' hc' => ?_⟩⟩
    have hc2 : c' = 0 ∨ c' = 1 := comp i' c' hc'
    rcases hc2 with rfl | rfl
    ·show D.int .i64 ((ps.set i _).getD i' (0, 0)).1 = _
     rw [getD_set _ _ _ _ _ hi]
     by_cases g : i' = i
     ·rw [if_pos g, if_pos ⟨g, rfl⟩]
     ·rw [if_neg g, if_neg (by simp [g])]; rfl
    ·show D.int .i64 ((ps.set i _).getD i' (0, 0)).2 = _
     rw [getD_set _ _ _ _ _ hi]
     have e10 : ¬ (i' = i ∧ 1 = 0) := by simp
     by_cases g : i' = i
     ·rw [if_pos g, if_neg e10, g]; rfl
     ·rw [if_neg g, if_neg e10]; rfl
   | 1, h =>
    cases k <;> simp only [Mem.set, Option.some.injEq, reduceCtorEq] at h
    subst h
    refine ⟨by simp [Mem.len], rfl, rfl, .inl ⟨rfl, rfl, fun i' c' hc' => ?_⟩⟩
    have hc2 : c' = 0 ∨ c' = 1 := comp i' c' hc'
    rcases hc2 with rfl | rfl
    ·show D.int .i64 ((ps.set i _).getD i' (0, 0)).1 = _
     rw [getD_set _ _ _ _ _ hi]
     have e10 : ¬ (i' = i ∧ 0 = 1) := by simp
     by_cases g : i' = i
     ·rw [if_pos g, if_neg e10, g]; rfl
     ·rw [if_neg g, if_neg e10]; rfl
    ·show D.int .i64 ((ps.set i _).getD i' (0, 0)).2 = _
     rw [getD_set _ _ _ _ _ hi]
     by_cases g : i' = i
     ·rw [if_pos g, if_pos ⟨g, rfl⟩]
     ·rw [if_neg g, if_neg (by simp [g])]; rfl
   | c + 2, h => omega
  | agg cs =>
   have hc0 : c = 0 ∧ ∃ x z, cs = [.int .i64 x, .int .i64 z] ∧ m' = .pairs (ps.set i (x, z)) := by
    match c, cs, h with
    | 0, [.int .i64 x, .int .i64 z], h => simp only [Mem.set, Option.some.injEq] at h; exact ⟨rfl, x, z, rfl, h.symm⟩
    | c + 1, cs, h => cases c <;> simp [Mem.set] at h
    | 0, [], h => simp [Mem.set] at h
    | 0, [_], h => simp [Mem.set] at h
    | 0, _ :: _ :: _ :: _, h => simp [Mem.set] at h
    | 0, [u, v], h =>
     cases u with
     | int k x =>
      cases k <;> first | (simp [Mem.set] at h; done) | skip
      cases v with
      | int k' z => cases k' <;> first | (simp [Mem.set] at h; done) | (simp only [Mem.set, Option.some.injEq] at h; exact ⟨rfl, x, z, rfl, h.symm⟩)
      | _ => simp [Mem.set] at h
     | _ => simp [Mem.set] at h
   obtain ⟨rfl, x, z, rfl, rfl⟩ := hc0
   refine ⟨by simp [Mem.len], rfl, rfl, .inr ⟨_, _, rfl, rfl, rfl, rfl, rfl, fun i' c' hc' => ?_⟩⟩
   have hc2 : c' = 0 ∨ c' = 1 := comp i' c' hc'
   rcases hc2 with rfl | rfl
   ·show D.int .i64 ((ps.set i _).getD i' (0, 0)).1 = _
    rw [getD_set _ _ _ _ _ hi]
    by_cases g : i' = i
    ·rw [if_pos g, if_pos g]; rfl
    ·rw [if_neg g, if_neg g]; rfl
   ·show D.int .i64 ((ps.set i _).getD i' (0, 0)).2 = _
    rw [getD_set _ _ _ _ _ hi]
    by_cases g : i' = i
    ·rw [if_pos g, if_pos g]; rfl
    ·rw [if_neg g, if_neg g]; rfl
  | _ => match c, h with
   | 0, h => simp [Mem.set] at h
   | 1, h => simp [Mem.set] at h
   | c + 2, h => simp [Mem.set] at h
theorem getD_setD {α : Type} (l : List α) {i : Nat} (j : Nat) (x d : α) (hi : i < l.length) : (l.set i x).getD j d = if j = i then x else l.getD j d := by
 simp only [List.getD_eq_getElem?_getD, List.getElem?_set]
 by_cases e : j = i
 ·subst e; simp [hi]
 ·rw [if_neg e, if_neg (fun h => e h.symm)]
theorem MatOk.setCell {w : World} {p : Nm} {e eo : TypeId} {xss : List (List Int)} (h : MatOk w p e eo xss none) {i c : Nat} (hi : i < xss.length) (hc : c < (xss.getD i []).length) (n : Int)
  {cur cur' : Array Value} (hcur : w.heap[(p.rows i).1]? = some (.cells cur e (0, 0))) (hs : cur'.size = cur.size) (hg : ∀ j, cur'[j]? = if j = c then some (.int .i64 n) else cur[j]?) :
  MatOk (w.setRow (p.rows i).1 cur') p e eo (xss.set i ((xss.getD i []).set c n)) none := by
 have hlen : ∀ j, ((xss.set i ((xss.getD i []).set c n)).getD j []).length = (xss.getD j []).length := by
  intro j
  rw [getD_setD _ _ _ _ hi]
  split
  ·rename_i e; subst e; simp
  ·rfl
 have hn : ∀ j : Nat, (none : Option Nat) ≠ some j := fun j => by simp
 have hposi : 0 < (p.rows i).2 := by have := (h.inn i hi (hn i)).2.1; omega
 have hll : (xss.set i ((xss.getD i []).set c n)).length = xss.length := by simp
 refine ⟨h.cap, by rw [hll]; exact h.len, ?_, fun j hj _ => ?_, fun i' j' hi' hj' => h.apart i' j' (hll ▸ hi') (hll ▸ hj'), fun i' hi' => h.outer i' (hll ▸ hi')⟩
 ·obtain ⟨co, o1, o2, o3⟩ := h.out
  refine ⟨co, fun hp => ?_, o2, fun j hj hh => ?_⟩
  ·rw [setRow_other w _ _ _ (fun ee => h.outer i hi (hn i) hposi hp ee.symm)]; exact o1 hp
  ·rw [hll] at hj
   rw [hlen]
   exact o3 j hj hh
 ·rw [hll] at hj
  obtain ⟨g1, g2, curj, g3, g4, g5⟩ := h.inn j hj (hn j)
  rw [hlen]
  refine ⟨g1, g2, ?_⟩
  by_cases e1 : j = i
  ·subst e1
   have : curj = cur := by have := g3 hposi; rw [hcur] at this; cases this; rfl
   subst this
   refine ⟨cur', fun _ => setRow_heap w _ curj _ _ _ hcur, by rw [hs]; exact g4, fun l hl => ?_⟩
   rw [hg, getD_setD _ _ _ _ hi, if_pos rfl, getD_setD _ _ _ _ hc]
   by_cases el : l = c
   ·rw [if_pos el, if_pos el]
   ·rw [if_neg el, if_neg el]; exact g5 l hl
  ·refine ⟨curj, fun hp => ?_, g4, fun l hl => ?_⟩
   ·rw [setRow_other w _ _ _ (fun ee => e1 (h.apart j i hj hi (hn j) (hn i) hp hposi ee))]; exact g3 hp
   ·rw [getD_setD _ _ _ _ hi, if_neg e1]; exact g5 l hl
theorem MatOk.setHole {w : World} {p : Nm} {e eo : TypeId} {xss : List (List Int)} {i : Nat} (h : MatOk w p e eo xss (some i)) (hpos : 0 < p.2) {v : Value}
  {cur cur' : Array Value} (hcur : w.heap[p.1]? = some (.cells cur eo (0, 0))) (hs : cur'.size = cur.size) (hg : ∀ j, cur'[j]? = if j = i then some v else cur[j]?) :
  MatOk (w.setRow p.1 cur') p e eo xss (some i) := by
 refine ⟨h.cap, h.len, ?_, fun j hj hh => ?_, h.apart, h.outer⟩
 ·obtain ⟨co, o1, o2, o3⟩ := h.out
  have : co = cur := by have := o1 hpos; rw [hcur] at this; cases this; rfl
  subst this
  refine ⟨cur', fun _ => setRow_heap w _ co _ _ _ hcur, by rw [hs]; exact o2, fun j hj hh => ?_⟩
  obtain ⟨u, u1, u2⟩ := o3 j hj hh
  have e1 : ¬ j = i := fun e1 => hh (by rw [e1])
  exact ⟨u, by rw [hg, if_neg e1]; exact u1, u2⟩
 ·obtain ⟨g1, g2, curj, g3, g4, g5⟩ := h.inn j hj hh
  exact ⟨g1, g2, curj, fun hp => by rw [setRow_other w _ _ _ (h.outer j hj hh hp hpos)]; exact g3 hp, g4, g5⟩
theorem MatOk.fill {w : World} {p : Nm} {e eo : TypeId} {xss : List (List Int)} {i : Nat} (h : MatOk w p e eo xss (some i)) (hi : i < xss.length) {q : Nat × Nat} {ys : List Int}
  (hq : q.2 ≤ maxLen ∧ ys.length ≤ q.2 ∧ ∃ cur : Array Value, (0 < q.2 → w.heap[q.1]? = some (.cells cur e (0, 0))) ∧ cur.size = q.2 ∧ ∀ j, j < ys.length → cur[j]? = some (.int .i64 (ys.getD j 0)))
  (hap : ∀ j, j < xss.length → j ≠ i → 0 < (p.rows j).2 → 0 < q.2 → (p.rows j).1 ≠ q.1) (hout : 0 < q.2 → 0 < p.2 → q.1 ≠ p.1)
  {v : Value} {cur : Array Value} (hcur : 0 < p.2 → w.heap[p.1]? = some (.cells cur eo (0, 0))) (hv : cur[i]? = some v)
  (hvf : v = .slice (some ⟨q.1, 0, none⟩) ys.length q.2 ∨ (v = .slice none 0 0 ∧ ys.length = 0 ∧ q.2 = 0)) :
  MatOk w ⟨p.1, p.2, fun j => if j = i then q else p.rows j⟩ e eo (xss.set i ys) none := by
 have hs : ∀ j, j ≠ i → (some i : Option Nat) ≠ some j := fun j hj e1 => hj (Option.some.inj e1).symm
 have hll : (xss.set i ys).length = xss.length := by simp
 refine ⟨h.cap, by rw [hll]; exact h.len, ?_, fun j hj _ => ?_, fun j j' hj hj' _ _ => ?_, fun j hj _ => ?_⟩
 ·obtain ⟨co, o1, o2, o3⟩ := h.out
  have hpos : 0 < p.2 := by have := h.len; omega
  have : co = cur := by have := o1 hpos; rw [hcur hpos] at this; cases this; rfl
  subst this
  refine ⟨co, o1, o2, fun j hj _ => ?_⟩
  rw [hll] at hj
  simp only
  rw [getD_setD _ _ _ _ hi]
  by_cases e1 : j = i
  ·subst e1
   exact ⟨v, hv, by rw [if_pos rfl, if_pos rfl]; exact hvf⟩
  ·obtain ⟨u, u1, u2⟩ := o3 j hj (hs j e1)
   exact ⟨u, u1, by rw [if_neg e1, if_neg e1]; exact u2⟩
 ·rw [hll] at hj
  simp only
  rw [getD_setD _ _ _ _ hi]
  by_cases e1 : j = i
  ·rw [if_pos e1, if_pos e1]; exact hq
  ·rw [if_neg e1, if_neg e1]; exact h.inn j hj (hs j e1)
 ·rw [hll] at hj hj'
  simp only
  by_cases e1 : j = i <;> by_cases e2 : j' = i
  ·rw [e1, e2]; intro _ _ _; rfl
  ·rw [if_pos e1, if_neg e2]
   exact fun a b c => absurd c.symm (hap j' hj' e2 b a)
  ·rw [if_neg e1, if_pos e2]
   exact fun a b c => absurd c (hap j hj e1 a b)
  ·rw [if_neg e1, if_neg e2]
   exact h.apart j j' hj hj' (hs j e1) (hs j' e2)
 ·rw [hll] at hj
  simp only
  by_cases e1 : j = i
  ·rw [if_pos e1]; exact hout
  ·rw [if_neg e1]; exact h.outer j hj (hs j e1)
theorem StR.rowEnt (h : StR S ρ a w σ st) {k : Nat} {fr : Bool} {e : TypeId} {ys : List Int} (hk : aget st k = some (.arr fr e (.ints ys))) :
  (ρ k).2 ≤ maxLen ∧ ys.length ≤ (ρ k).2 ∧ ∃ cur : Array Value, (0 < (ρ k).2 → w.heap[(ρ k).1]? = some (.cells cur e (0, 0))) ∧ cur.size = (ρ k).2 ∧ ∀ j, j < ys.length → cur[j]? = some (.int .i64 (ys.getD j 0)) := by
 obtain ⟨cur, h1, h2, h3, h4, h5⟩ := h.ents k _ hk
 refine ⟨h2, h4, cur, h1, by rw [h3]; exact Nat.mul_one _, fun j hj => ?_⟩
 obtain ⟨v, hv, hd⟩ := h5 j 0 hj (by show 0 < 1; omega)
 have e1 : j * (Mem.ints ys).width + 0 = j := by show j * 1 + 0 = j; omega
 rw [e1] at hv
 rw [hv]
 have hd : RD w (liveO S.O ρ st) S.F fr v (.int .i64 (ys.getD j 0)) := hd
 have := hd.plain
 cases this
 rfl
theorem splice_one (cur : Array Value) {c : Nat} (hc : c < cur.size) (v : Value) : (cur.toList.take c ++ [v] ++ cur.toList.drop (c + 1)).toArray.size = cur.size ∧
  ∀ j, (cur.toList.take c ++ [v] ++ cur.toList.drop (c + 1)).toArray[j]? = if j = c then some v else cur[j]? := by
 have h1 := splice_len cur.toList [v] c (by simp; omega)
 have h2 := splice_get cur.toList [v] c (by simp; omega)
 refine ⟨by simpa using h1, fun j => ?_⟩
 simp only [List.getElem?_toArray]
 rw [show [v].length = 1 from rfl] at h2
 rw [h2]
 by_cases e : j = c
 ·subst e; rw [if_neg (by omega), if_pos (by omega), if_pos rfl]; simp
 ·rw [if_neg e]
  by_cases e2 : j < c
  ·rw [if_pos e2]; simp
  ·rw [if_neg e2, if_neg (by omega)]; simp
theorem fill_good (h : StR S ρ a w σ st) (hd : ∀ d, o.dst = some d → d < S.n) {t : TypeId} {x y : Operand} (ho : o.op = .store t x y) (hn : tySize S.P t = some 1) {k k' i : Nat} {fr : Bool} {e eo : TypeId} {xss : List (List Int)} {ys : List Int} {vy : Value}
  (hk : aget st k = some (.mat e eo xss (some i))) (hk' : aget st k' = some (.arr fr e (.ints ys))) (hne : k' ≠ k) (hi : i < xss.length)
  (hvx : a.eval x = .pointer (some ⟨(ρ k).1, i, none⟩)) (hvy : a.eval y = vy) (hy : RPs S ρ w st vy (.own k' ys.length)) (hrw : rwfree k σ st = true) :
  Good S a w σ st o ⟨[i = i, i < xss.length, ys.length = ys.length], .d false .undef, [], some k', some (k, .mat e eo (xss.set i ys) none)⟩ := by
 have hm : MatOk w (ρ k) e eo xss (some i) := h.ents k _ hk
 have hpos : 0 < (ρ k).2 := by have := hm.len; omega
 obtain ⟨cur, c1, c2, c3⟩ := hm.out
 have hcur := c1 hpos
 have hrow : vy = .slice (some ⟨(ρ k').1, 0, none⟩) ys.length (ρ k').2 ∨ (vy = .slice none 0 0 ∧ ys.length = 0 ∧ (ρ k').2 = 0) := by
  revert hy
  generalize hz : ys.length = z
  intro hy
  cases hy with
  | own => exact .inl rfl
  | ownN _ h => exact .inr ⟨rfl, rfl, h⟩
 have hone : vy.oneCell' = true := by rcases hrow with h1 | ⟨h1, _⟩ <;> rw [h1] <;> rfl
 have hvc : vy.cells = #[vy] := by rcases hrow with h1 | ⟨h1, _⟩ <;> rw [h1] <;> rfl
 have hlt : i < cur.size := by have := hm.len; omega
 have hrun := run_storeCells_at S.P (ρ k).1 i eo [vy] 0 cur w hcur (by simp; omega) (by simpa using hone)
 simp only [Nat.add_zero, List.length_singleton] at hrun
 have hr : (execOp a.eval o).run S.P w = .ok .skip (w.setRow (ρ k).1 (cur.toList.take i ++ [vy] ++ cur.toList.drop (i + 1)).toArray) := by
  simp [execOp, ho, hvx, hvy, Instr.storeAt, Instr.sureAddr, storeVar, run_sizeOf hn, hvc] at hrun ⊢
  rw [hrun]
  rfl
 obtain ⟨s1, s2⟩ := splice_one cur hlt vy
 generalize hcc : (cur.toList.take i ++ [vy] ++ cur.toList.drop (i + 1)).toArray = cur' at hr s1 s2
 have hok := hm.setHole hpos hcur s1 s2
 have h2 := h.write k (.mat e eo xss (some i)) (.mat e eo xss (some i)) hk (w' := w.setRow (ρ k).1 cur') rfl rfl rfl (by simp)
  (fun b _ hnb => setRow_other w _ b _ fun ee => hnb (.inl ⟨ee, hpos⟩)) (fun b => Iff.rfl) (by simp) (fun t cs he => by cases he) hok
 have hk2 : aget ((k, Ent.mat e eo xss (some i)) :: adel st k) k = some (.mat e eo xss (some i)) := aget_cons_same _ _ _
 have hk2' : aget ((k, Ent.mat e eo xss (some i)) :: adel st k) k' = some (.arr fr e (.ints ys)) := by rw [aget_cons_ne (Ne.symm hne), aget_adel_ne st hne]; exact hk'
 have hrw2 : rwfree k σ ((k, Ent.mat e eo xss (some i)) :: adel st k) = true := by
  simp only [rwfree, Bool.and_eq_true, List.all_eq_true] at hrw ⊢
  refine ⟨hrw.1, fun x hx => ?_⟩
  rcases List.mem_cons.1 hx with rfl | hx
  ·rfl
  ·exact hrw.2 x (mem_adel hx)
 obtain ⟨aw1, aw2⟩ := rwfree_away (S := S) (ρ := ρ) hrw2 ⟨(ρ k).1, (ρ k).2, fun j => if j = i then ((ρ k').1, (ρ k').2) else (ρ k).rows j⟩ ⟨rfl, rfl⟩
 have hent := h2.rowEnt hk2'
 have hpos' : ∀ b, blk (.arr fr e (.ints ys)) (ρ k') b → blk (.mat e eo xss (some i)) (ρ k) b → False := fun b b1 b2 => hne (h.inj k' k _ _ hk' hk b b1 b2)
 have hs : ∀ j, j ≠ i → (some i : Option Nat) ≠ some j := fun j hj e1 => hj (Option.some.inj e1).symm
 have hfill := MatOk.fill hok hi (q := ((ρ k').1, (ρ k').2)) (ys := ys) hent
  (fun j hj hji p1 p2 ee => hpos' _ ⟨rfl, p2⟩ (.inr ⟨j, hj, hs j hji, ee.symm, p1⟩)) (fun p1 p2 ee => hpos' _ ⟨rfl, p1⟩ (.inl ⟨ee, p2⟩))
  (fun _ => setRow_heap w _ cur _ _ _ hcur) (by rw [s2, if_pos rfl]) hrow
 have h3 := h2.regroup (w' := w.setRow (ρ k).1 cur') rfl rfl rfl (Nat.le_refl _) (Nat.le_refl _) (fun _ _ => rfl) (ρ' := upd ρ k ⟨(ρ k).1, (ρ k).2, fun j => if j = i then ((ρ k').1, (ρ k').2) else (ρ k).rows j⟩)
  (st' := (k, .mat e eo (xss.set i ys) none) :: adel (adel st k') k) (fun j => j = k ∨ j = k')
  (fun j hj => by
   have h1 : j ≠ k := fun e => hj (.inl e)
   have h2 : j ≠ k' := fun e => hj (.inr e)
   refine ⟨?_, fun _ _ => upd_ne ρ _ h1⟩
   rw [aget_cons_ne (Ne.symm h1), aget_cons_ne (Ne.symm h1), aget_adel_ne _ h1, aget_adel_ne _ h1, aget_adel_ne _ h2])
  (fun j en hj hen => by
   rcases hj with rfl | rfl
   ·rw [hk2] at hen; cases hen; simp
   ·rw [hk2'] at hen; cases hen; simp)
  (fun j en hj hen => by
   rcases hj with rfl | rfl
   ·rw [aget_cons_same] at hen
    cases hen
    refine ⟨by simp, fun b hb => .inl ?_, by rw [EntOk, upd_same]; exact hfill⟩
    rw [upd_same] at hb
    rcases hb with hb | ⟨j2, hj2, _, hb1, hb2⟩
    ·exact ⟨j, _, .inl rfl, hk2, .inl hb⟩
    ·rw [List.length_set] at hj2
     by_cases e1 : j2 = i
     ·simp only [if_pos e1] at hb1 hb2
      exact ⟨k', _, .inr rfl, hk2', hb1, hb2⟩
     ·simp only [if_neg e1] at hb1 hb2
      exact ⟨j, _, .inl rfl, hk2, .inr ⟨j2, hj2, hs j2 e1, hb1, hb2⟩⟩
   ·rw [aget_cons_ne (Ne.symm hne)] at hen
    exact absurd rfl (aget_adel (aget_adel hen).2).1)
  (fun j j' e1 e2 hj hj' g1 g2 b _ _ => by
   have key : ∀ j en, (j = k ∨ j = k') → aget ((k, Ent.mat e eo (xss.set i ys) none) :: adel (adel st k') k) j = some en → j = k := by
    intro j en hj g
    rcases hj with rfl | rfl
    ·rfl
    ·rw [aget_cons_ne (Ne.symm hne)] at g
     exact absurd rfl (aget_adel (aget_adel g).2).1
   rw [key j _ hj g1, key j' _ hj' g2])
  aw1 aw2
 intro K Q hK
 exact wp_skipped hr (hK _ _ _ (h3.put_undef o.dst _ hd))
theorem store_good (h : StR S ρ a w σ st) (hd : ∀ d, o.dst = some d → d < S.n) {t : TypeId} {x y : Operand} (ho : o.op = .store t x y) {n : Nat} (hn : tySize S.P t = some n) {p q : PV} {vx vy : Value}
  (hvx : a.eval x = vx) (hvy : a.eval y = vy) (hx : RPs S ρ w st vx p) (hy : RPs S ρ w st vy q) (hg : ∀ j, q.rgm j = true → aget st j = some .reg) (hpre : ∀ r ∈ (storeRun n (aget st) p q).pre, r)
  (hrw : rwOk σ st (storeRun n (aget st) p q) = true) : Good S a w σ st o (storeRun n (aget st) p q) := by
 unfold storeRun at hpre ⊢
 cases p with
 | ptr k c =>
  dsimp only at hpre ⊢
  cases hk : aget st k with
  | none => simp only [hk] at hpre; exact (bad_pre hpre).elim
  | some e =>
  cases e with
  | box ty ps =>
   cases hc : q.cells with
   | none => simp only [hk, hc] at hpre; exact (bad_pre hpre).elim
   | some qs =>
   simp only [hk, hc] at hpre ⊢
   obtain ⟨hb, he, _⟩ := chk_pre hpre
   rw [he]
   simp only [Bool.and_eq_true, beq_true, Nat.ble_eq] at hb
   exact store_box h hd ho hn hk (hvx.trans (by cases hx; rfl)) hvy hy hc hb.1.1 hb.1.2 hb.2 (fun j hj => hg j (cells_rgm hc hj))
  | arr _ _ _ => simp only [hk] at hpre; exact (bad_pre hpre).elim
  | reg => simp only [hk] at hpre; exact (bad_pre hpre).elim
  | vw xs => simp only [hk] at hpre; exact (bad_pre hpre).elim
  | mat _ _ _ _ => simp only [hk] at hpre; exact (bad_pre hpre).elim
 | radr k i c =>
  dsimp only at hpre ⊢
  cases hk : aget st k with
  | none => simp only [hk] at hpre; exact (bad_pre hpre).elim
  | some e =>
  cases e with
  | mat te teo xss hole =>
   cases hole with
   | some _ => simp only [hk] at hpre; exact (bad_pre hpre).elim
   | none =>
   cases q with
   | d frx yd =>
    have hbad : (match yd with | .int .i64 _ => true | _ => false) = true := by
     cases yd with
     | int kk z => cases kk <;> first | rfl | (simp only [hk] at hpre; exact (bad_pre hpre).elim)
     | _ => simp only [hk] at hpre; exact (bad_pre hpre).elim
    cases yd with
    | int kk z =>
     cases kk with
     | i64 =>
      simp only [hk] at hpre ⊢
      obtain ⟨hb, he, hp⟩ := chk_pre hpre
      rw [he]
      have hn1 : n = 1 := beq_true.1 hb
      subst hn1
      have hi : i < xss.length := hp _ (by simp)
      have hc : c < (xss.getD i []).length := hp _ (by simp)
      have hm : MatOk w (ρ k) te teo xss none := h.ents k _ hk
      obtain ⟨g1, g2, cur, g3, g4, g5⟩ := hm.inn i hi (by simp)
      have hposi : 0 < ((ρ k).rows i).2 := by omega
      have hcur := g3 hposi
      have hvy' : vy = .int .i64 z := RPs.int_inv hy
      have hvx' : vx = .pointer (some ⟨((ρ k).rows i).1, c, none⟩) := by cases hx; rfl
      have hrun := run_storeCells_at S.P ((ρ k).rows i).1 c te [Value.int IntKind.i64 z] 0 cur w hcur (by simp; omega) (by simp [Value.oneCell'])
      simp only [Nat.add_zero, List.length_singleton] at hrun
      have hr : (execOp a.eval o).run S.P w = .ok .skip (w.setRow ((ρ k).rows i).1 (cur.toList.take c ++ [Value.int IntKind.i64 z] ++ cur.toList.drop (c + 1)).toArray) := by
       simp [execOp, ho, hvx, hvx', hvy, hvy', Instr.storeAt, Instr.sureAddr, storeVar, run_sizeOf hn, Value.cells] at hrun ⊢
       rw [hrun]
       rfl
      obtain ⟨s1, s2⟩ := splice_one cur (show c < cur.size by omega) (Value.int IntKind.i64 z)
      have hok := hm.setCell hi hc z hcur s1 s2
      have hll : (xss.set i ((xss.getD i []).set c z)).length = xss.length := by simp
      have h2 := h.write k (.mat te teo xss none) (.mat te teo (xss.set i ((xss.getD i []).set c z)) none) hk (w' := w.setRow ((ρ k).rows i).1 (cur.toList.take c ++ [Value.int IntKind.i64 z] ++ cur.toList.drop (c + 1)).toArray) rfl rfl rfl (by simp)
       (fun b _ hne => setRow_other w _ b _ fun e => hne (.inr ⟨i, hi, by simp, e, hposi⟩)) (fun b => by simp only [blk, hll]) (by simp) (fun t cs he => by cases he) hok
      intro K Q hK
      exact wp_skipped hr (hK ρ _ _ (h2.put_undef o.dst _ hd))
     | _ => cases hbad
    | _ => cases hbad
   | _ => simp only [hk] at hpre; exact (bad_pre hpre).elim
  | _ => simp only [hk] at hpre; exact (bad_pre hpre).elim
 | eadr k wd i c =>
  dsimp only at hpre ⊢
  cases hk : aget st k with
  | none => simp only [hk] at hpre; exact (bad_pre hpre).elim
  | some e =>
  cases e with
  | arr fr ty m =>
   cases q with
   | d frx yd =>
    cases hs : m.set i c yd with
    | none => simp only [hk, hs] at hpre; exact (bad_pre hpre).elim
    | some m' =>
    simp only [hk, hs] at hpre ⊢
    obtain ⟨hb, he, hp⟩ := chk_pre hpre
    rw [he]
    have hi : i < m.len := hp _ (by simp)
    simp only [Bool.and_eq_true, beq_true, Nat.blt_eq] at hb
    obtain ⟨⟨⟨hwd, hcw⟩, hfr⟩, hsz⟩ := hb
    subst hwd
    obtain ⟨s1, s2, s3, s4⟩ := Mem.set_spec hs hi hcw
    obtain ⟨cur, e1, e2, e3, e4, e5⟩ := h.ents k _ hk
    have hy' := RPs.d_inv hy
    -- the cells of the value
    have hcells : vy.cells.size = n ∧ (∀ u ∈ vy.cells.toList, u.oneCell' = true) ∧ c + n ≤ m.width ∧
      ∀ i' c', i' < m.len → c' < m.width → m'.get i' c' = (if i' = i ∧ c ≤ c' ∧ c' < c + n then (m'.get i c') else m.get i' c') ∧
       (c ≤ c' → c' < c + n → ∃ u, vy.cells[c' - c]? = some u ∧ RD w (liveO S.O ρ st) S.F frx u (m'.get i c')) := by
     rcases s4 with ⟨y1, y2, y3⟩ | ⟨u, v, y1, y2, y3, y4, y5, y6⟩
     ·have hone := hy'.plain.oneCell y1
      have hvc : vy.cells = #[vy] := by cases vy <;> first | rfl | simp [Value.oneCell'] at hone
      have hn1 : n = 1 := by rw [hsz, y2]
      subst hn1
      refine ⟨by rw [hvc]; rfl, fun u hu => by rw [hvc] at hu; simp at hu; rw [hu]; exact hone, by omega, fun i' c' hi' hc' => ⟨?_, fun g1 g2 => ?_⟩⟩
      ·rw [y3 i' c' hc']
       by_cases g : i' = i ∧ c' = c
       ·rw [if_pos g, if_pos ⟨g.1, by omega, by omega⟩, y3 i c' hc', if_pos ⟨rfl, g.2⟩]
       ·rw [if_neg g, if_neg (by omega)]
      ·have : c' = c := by omega
       subst this
       refine ⟨vy, by rw [hvc]; simp, ?_⟩
       rw [y3 i c' hc', if_pos ⟨rfl, rfl⟩]
       exact hy'
     ·subst y1
      obtain ⟨vs, v1, v2, v3⟩ := hy'.agg_inv
      subst v1
      have hn2 : n = 2 := hsz
      subst hn2 y3
      refine ⟨by simp [Value.cells, v2], fun z hz => ?_, by omega, fun i' c' hi' hc' => ⟨?_, fun g1 g2 => ?_⟩⟩
      ·simp only [Value.cells] at hz
       obtain ⟨j, hj⟩ := List.mem_iff_getElem?.1 hz
       have hjl : j < 2 := by have := (List.getElem?_eq_some_iff.1 hj).1; simpa [v2] using this
       have : j = 0 ∨ j = 1 := by omega
       rcases this with rfl | rfl
       ·exact (v3 0 z u hj rfl).plain.oneCell y4
       ·exact (v3 1 z v hj rfl).plain.oneCell y5
      ·rw [y6 i' c' hc', y6 i c' hc']
       by_cases g : i' = i
       ·rw [if_pos g, if_pos (show i' = i ∧ 0 ≤ c' ∧ c' < 0 + 2 from ⟨g, by omega, by omega⟩), if_pos (rfl : i = i)]
       ·rw [if_neg g, if_neg (by omega)]
      ·have hjl : c' < vs.length := by rw [v2]; simp; omega
       have hv : vs[c']? = some vs[c'] := List.getElem?_eq_getElem hjl
       refine ⟨vs[c'], by simp [Value.cells], ?_⟩
       rw [y6 i c' hc', if_pos rfl]
       have : c' = 0 ∨ c' = 1 := by omega
       rcases this with rfl | rfl
       ·exact v3 0 _ u hv rfl
       ·exact v3 1 _ v hv rfl
    obtain ⟨hcs, hone, hcn, hget⟩ := hcells
    intro K Q hK
    have hcl : vy.cells.toList.length = n := by simpa using hcs
    have hroom : i * m.width + c + n ≤ cur.size := by
     have : (i + 1) * m.width ≤ (ρ k).2 * m.width := Nat.mul_le_mul_right _ (by omega)
     rw [Nat.add_mul, Nat.one_mul] at this
     omega
    have hpos : 0 < (ρ k).2 := by omega
    have e1 := e1 hpos
    have hrun := run_storeCells_at S.P (ρ k).1 (i * m.width + c) ty vy.cells.toList 0 cur w e1 (by omega) hone
    simp only [Nat.add_zero, hcl] at hrun
    have hvx' : vx = .pointer (some ⟨(ρ k).1, i * m.width + c, none⟩) := by cases hx; rfl
    have hr : (execOp a.eval o).run S.P w = .ok .skip (w.setRow (ρ k).1 (cur.toList.take (i * m.width + c) ++ vy.cells.toList ++ cur.toList.drop (i * m.width + c + n)).toArray) := by
     simp [execOp, ho, hvx, hvx', hvy, Instr.storeAt, Instr.sureAddr, storeVar, run_sizeOf hn, hcs, hrun]
    have hb : ∀ b, b < w.heap.size → ¬ blk (.arr fr ty m) (ρ k) b →
      (w.setRow (ρ k).1 (cur.toList.take (i * m.width + c) ++ vy.cells.toList ++ cur.toList.drop (i * m.width + c + n)).toArray).heap[b]? = w.heap[b]? := fun b _ hne => setRow_other w _ b _ fun e => hne ⟨e, hpos⟩
    have hkk := write_hk h k (.arr fr ty m) (.arr fr ty m') hk hb (fun _ => Iff.rfl)
    have sp := splice_get cur.toList vy.cells.toList (i * m.width + c) (by simp; omega)
    have spl := splice_len cur.toList vy.cells.toList (i * m.width + c) (by simp; omega)
    rw [hcl] at sp spl
    have hok : EntOk (w.setRow (ρ k).1 (cur.toList.take (i * m.width + c) ++ vy.cells.toList ++ cur.toList.drop (i * m.width + c + n)).toArray)
      (liveO S.O ρ ((k, .arr fr ty m') :: adel st k)) S.F ρ k (.arr fr ty m') := by
     refine ⟨_, fun _ => setRow_heap w _ cur _ _ _ e1, e2, ?_, by omega, fun i' c' hi' hc' => ?_⟩
     ·simp only [List.size_toArray, spl, s2]; simpa using e3
     ·rw [s1] at hi'
      rw [s2] at hc' ⊢
      obtain ⟨g1, g2⟩ := hget i' c' hi' hc'
      simp only [List.getElem?_toArray, sp]
      by_cases hin : i' = i ∧ c ≤ c' ∧ c' < c + n
      ·obtain ⟨rfl, q1, q2⟩ := hin
       obtain ⟨u, u1, u2⟩ := g2 q1 q2
       rw [if_neg (by omega), if_pos (by omega)]
       refine ⟨u, by
         have : i' * m.width + c' - (i' * m.width + c) = c' - c := by omega
         rw [this]; simpa using u1, ?_⟩
       refine RD.step ?_ hkk
       cases hf : m'.flat with
       | true => exact RD.of_flats u2 (Mem.flat_get hf _ _)
       | false =>
        refine u2.weaken fun h1 => ?_
        rw [s3] at hf
        simp [hf, h1] at hfr
        exact hfr
      ·have hout : ¬ (i * m.width + c ≤ i' * m.width + c' ∧ i' * m.width + c' < i * m.width + c + n) := by
        intro hx2
        apply hin
        have d1 := divmod_cell hc' (i := i')
        have hlt : c + (i' * m.width + c' - (i * m.width + c)) < m.width := by omega
        have d2 := divmod_cell hlt (i := i)
        have e : i * m.width + (c + (i' * m.width + c' - (i * m.width + c))) = i' * m.width + c' := by omega
        rw [e] at d2
        have e1 : i' = i := by rw [← d1.1, d2.1]
        have e2 : c' = c + (i' * m.width + c' - (i * m.width + c)) := d1.2.symm.trans d2.2
        exact ⟨e1, by omega, by subst e1; omega⟩
       obtain ⟨u, u1, u2⟩ := e5 i' c' hi' hc'
       rw [g1, if_neg hin]
       refine ⟨u, ?_, u2.step hkk⟩
       by_cases hlt : i' * m.width + c' < i * m.width + c
       ·rw [if_pos hlt]; simpa using u1
       ·rw [if_neg hlt, if_neg (by omega)]; simpa using u1
    have h2 := h.write k (.arr fr ty m) (.arr fr ty m') hk (w' := w.setRow (ρ k).1 (cur.toList.take (i * m.width + c) ++ vy.cells.toList ++ cur.toList.drop (i * m.width + c + n)).toArray) rfl rfl rfl (by simp) hb
     (fun _ => Iff.rfl) (by simp) (fun t cs he => by cases he) hok
    exact wp_skipped hr (hK ρ _ _ (h2.put_undef o.dst _ hd))
   | _ => simp only [hk] at hpre; exact (bad_pre hpre).elim
  | box _ _ => simp only [hk] at hpre; exact (bad_pre hpre).elim
  | reg => simp only [hk] at hpre; exact (bad_pre hpre).elim
  | vw xs => simp only [hk] at hpre; exact (bad_pre hpre).elim
  | mat te teo xss hole =>
   cases hole with
   | none => simp only [hk] at hpre; exact (bad_pre hpre).elim
   | some hl =>
   cases q with
   | own k' n' =>
    cases hk' : aget st k' with
    | none => simp only [hk, hk'] at hpre; exact (bad_pre hpre).elim
    | some en =>
    cases en with
    | arr fr' e' m =>
     cases m with
     | ints ys =>
      unfold storeRun at hrw
      simp only [hk, hk'] at hpre hrw ⊢
      obtain ⟨hb, he, hp⟩ := chk_pre hpre
      rw [he] at hrw ⊢
      simp only [Bool.and_eq_true, beq_true, Bool.not_eq_true'] at hb
      obtain ⟨⟨⟨⟨rfl, hne⟩, rfl⟩, rfl⟩, rfl⟩ := hb
      have hne : k' ≠ k := beq_false.1 hne
      have hii : hl = i := hp _ (by simp)
      have hi : i < xss.length := hp _ (by simp)
      have hnn : n' = ys.length := hp _ (by simp)
      subst hii hnn
      exact fill_good h hd ho hn hk hk' hne hi (hvx.trans (by cases hx; simp)) hvy hy hrw
     | _ => simp only [hk, hk'] at hpre; exact (bad_pre hpre).elim
    | _ => simp only [hk, hk'] at hpre; exact (bad_pre hpre).elim
   | _ => simp only [hk] at hpre; exact (bad_pre hpre).elim
 | _ => exact (bad_pre hpre).elim
end Go.Proofs.Ytomnmacmlhkceaa
