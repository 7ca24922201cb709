/- The pure layer, part L: structs and arrays built, elements written, calls. No function of the program is named here. -/
import Derived.Test.YtomnmacmlhkceaaPk
set_option linter.unusedVariables false
set_option linter.unusedSimpArgs false
namespace Go.Proofs.Ytomnmacmlhkceaa
open Go

variable {S : Setting} {ρ : Nat → Nat × Nat} {a : Act} {w : World} {σ : Env} {st : Store} {o : Oper}

theorem fill_rel {O : Nat → Prop} {base : Nat → Prop} (place : Nat → Option (Nat × Nat)) : ∀ (pp : List (Nat × PV)) (pv : List (Nat × Value)) (cs cs' : List PV) (cells : Array Value),
    cells.size = cs.length → (∀ (j : Nat) (u : Value) (q : PV), cells[j]? = some u → cs[j]? = some q → RP w O base ρ u q) →
    pp.length = pv.length → (∀ (j : Nat) (x : Nat × PV) (y : Nat × Value), pp[j]? = some x → pv[j]? = some y → x.1 = y.1 ∧ RP w O base ρ y.2 x.2) →
    fillPV place cs pp = some cs' → ∃ out, Instr.fill place cells pv = some out ∧ out.size = cs'.length ∧ ∀ (j : Nat) (u : Value) (q : PV), out[j]? = some u → cs'[j]? = some q → RP w O base ρ u q
  | [], [], cs, cs', cells, h1, h2, _, _, hf => by
    simp only [fillPV, Option.some.injEq] at hf
    subst hf
    exact ⟨cells, rfl, h1, h2⟩
  | (i, p) :: r, (i', v) :: r', cs, cs', cells, h1, h2, hl, hp, hf => by
    obtain ⟨e1, e2⟩ := hp 0 _ _ rfl rfl
    simp only at e1 e2
    subst e1
    simp only [fillPV] at hf
    cases hpl : place i with
    | none => simp [hpl] at hf
    | some os =>
    obtain ⟨off, size⟩ := os
    cases hc : p.cells with
    | none => simp [hpl, hc] at hf
    | some qs =>
    simp only [hpl, hc] at hf
    cases hb : (Nat.beq qs.length size && Nat.ble (off + qs.length) cs.length) with
    | false => simp [hb] at hf
    | true =>
    simp only [hb, cond_true] at hf
    simp only [Bool.and_eq_true, beq_true, Nat.ble_eq] at hb
    obtain ⟨hb1, hb2⟩ := hb
    obtain ⟨c1, c2⟩ := cells_ok e2 hc
    have hvs : v.cells.size = qs.length := by simpa using c1
    obtain ⟨f1, f2⟩ := fold_set_arr off v.cells cells (by omega)
    have s1 := splice_len cs qs off hb2
    have s2 := splice_get cs qs off hb2
    obtain ⟨out, o1, o2, o3⟩ := fill_rel place r r' _ cs' (v.cells.zipIdx.foldl (fun cs (c, j) => cs.setIfInBounds (off + j) c) cells) (by rw [f1, s1, h1])
      (fun j u q hu hq => by
        rw [f2] at hu
        rw [s2] at hq
        by_cases g1 : j < off
        · rw [if_neg (by omega)] at hu; rw [if_pos g1] at hq; exact h2 j u q hu hq
        · rw [if_neg g1] at hq
          by_cases g2 : j < off + qs.length
          · rw [if_pos (by omega)] at hu; rw [if_pos g2] at hq; exact c2 (j - off) u q (by simpa using hu) hq
          · rw [if_neg (by omega)] at hu; rw [if_neg g2] at hq; exact h2 j u q hu hq)
      (by simpa using hl) (fun j x y hx hy => hp (j + 1) x y (by simpa using hx) (by simpa using hy)) hf
    refine ⟨out, ?_, o2, o3⟩
    have hne : (v.cells.size ≠ size || off + v.cells.size > cells.size) = false := by simp [hvs, hb1]; omega
    unfold Instr.fill
    simp only [hpl, hne, Bool.false_eq_true, if_false]
    exact o1

theorem places_run {P : Program} (w : World) : ∀ (fs : List Field) , (∀ f ∈ fs, ∃ n, tySize P f.type = some n) →
    ∃ ps : List (Nat × Nat), (fs.mapM (fun f => (do pure (f.offset, ← sizeOf f.type) : Sem (Nat × Nat)))).run P w = .ok ps w ∧ ps.length = fs.length ∧ ∀ (j : Nat) (f : Field), fs[j]? = some f → ∃ n, tySize P f.type = some n ∧ ps[j]? = some (f.offset, n)
  | [], _ => ⟨[], rfl, rfl, fun j f h => by simp at h⟩
  | f :: r, h => by
    obtain ⟨n, hn⟩ := h f (by simp)
    obtain ⟨ps, h1, h2, h3⟩ := places_run w r fun f hf => h f (by simp [hf])
    refine ⟨(f.offset, n) :: ps, ?_, by simp [h2], fun j g hg => ?_⟩
    · simp only [List.mapM_cons, Sem.run_bind, run_sizeOf hn, Result.andThen_ok, Sem.run_pure, h1]
    · cases j with
      | zero => simp at hg; subst hg; exact ⟨n, hn, rfl⟩
      | succ j => simp at hg; simpa using h3 j g hg

theorem build_good (h : StR S ρ a w σ st) (hd : ∀ d, o.dst = some d → d < S.n) {t : TypeId} {parts : Array (Nat × Operand)} (ho : o.op = .build t parts) {ps : List PV}
    (hl : ps.length = parts.size) (hx : ∀ (j i : Nat) (x : Operand) (p : PV), parts[j]? = some (i, x) → ps[j]? = some p → RPs S ρ w st (a.eval x) p)
    (hpre : ∀ r ∈ (buildRun S.P t parts.toList ps).pre, r) : Good S a w σ st o (buildRun S.P t parts.toList ps) := by
  unfold buildRun at hpre ⊢
  cases hpl : placesOf S.P t with
  | none => simp only [hpl] at hpre; exact (bad_pre hpre).elim
  | some pl =>
  cases hz : zeroCellsP S.P t with
  | none => simp only [hpl, hz] at hpre; exact (bad_pre hpre).elim
  | some zs =>
  simp only [hpl, hz] at hpre ⊢
  cases hf : fillPV pl zs ((parts.toList.map (·.1)).zip ps) with
  | none => simp only [hf] at hpre; exact (bad_pre hpre).elim
  | some cs =>
  simp only [hf] at hpre ⊢
  obtain ⟨hb, he, _⟩ := chk_pre hpre
  rw [he]
  simp only [Bool.and_eq_true] at hb
  obtain ⟨hb, hsf⟩ := hb
  obtain ⟨i, z, h1, h2, rfl⟩ := zeroCells_inv hz
  obtain ⟨out, o1, o2, o3⟩ := fill_rel (w := w) (ρ := ρ) (O := liveO S.O ρ st) (base := S.F) pl ((parts.toList.map (·.1)).zip ps) ((parts.map fun (i, x) => (i, a.eval x)).toList) _ cs z.cells (by simp)
    (fun j u q hu hq => by
      simp only [List.getElem?_map, Option.map_eq_some_iff] at hq
      obtain ⟨u', hu', rfl⟩ := hq
      have : u' = u := by simpa [hu] using hu'.symm
      subst this
      exact ofV_ok _)
    (by simp [hl])
    (fun j x y hx1 hy1 => by
      simp only [Array.toList_map, List.getElem?_map, Option.map_eq_some_iff] at hy1
      obtain ⟨⟨i', xo⟩, hp1, hp2⟩ := hy1
      have hjl : j < ps.length := by rw [hl]; have := (List.getElem?_eq_some_iff.1 hp1).1; simpa using this
      have hpj : ps[j]? = some ps[j] := List.getElem?_eq_getElem hjl
      rw [List.getElem?_zip_eq_some] at hx1
      obtain ⟨g1, g2⟩ := hx1
      simp only [List.getElem?_map, hp1, Option.map_some, Option.some.injEq] at g1
      subst hp2
      exact ⟨g1.symm, hx j i' xo x.2 (by simpa using hp1) g2⟩) hf
  have hr : (execOp a.eval o).run S.P w = .ok (.value (.agg out)) w := by
    have hb : (Instr.build t (parts.map fun (i, x) => (i, a.eval x))).run S.P w = .ok (.agg out) w := by
      unfold placesOf at hpl
      cases hu : S.P.underlying t with
      | none => simp [hu] at hpl
      | some dd =>
        cases dd with
        | struct fs =>
          simp only [hu, Option.some.injEq] at hpl
          have hsz : ∀ f ∈ fs.toList, ∃ n, tySize S.P f.type = some n := by
            intro f hf
            unfold sizedFields at hsf
            simp only [hu] at hsf
            have := Array.all_eq_true_iff_forall_mem.1 hsf f (by simpa using hf)
            exact Option.isSome_iff_exists.1 this
          obtain ⟨pls, q1, q2, q3⟩ := places_run (P := S.P) w fs.toList hsz
          have hpleq : (fun i => pls.toArray[i]?) = pl := by
            funext i
            rw [← hpl]
            simp only [List.getElem?_toArray]
            cases hfi : fs[i]? with
            | none =>
              have : pls[i]? = none := by
                rw [List.getElem?_eq_none_iff, q2]
                have := Array.getElem?_eq_none_iff.1 hfi
                simpa using this
              simp [this]
            | some f =>
              obtain ⟨n, hn, hp⟩ := q3 i f (by simpa using hfi)
              simp [hn, hp]
          have hmapM : (fs.mapM (fun f => (do pure (f.offset, ← sizeOf f.type) : Sem (Nat × Nat)))).run S.P w = .ok pls.toArray w := by
            have e1 : fs.mapM (fun f => (do pure (f.offset, ← sizeOf f.type) : Sem (Nat × Nat))) = List.toArray <$> fs.toList.mapM (fun f => (do pure (f.offset, ← sizeOf f.type) : Sem (Nat × Nat))) := by
              cases fs with
              | mk l => exact List.mapM_toArray ..
            rw [e1, Sem.run_map, q1]
            rfl
          simp only [Instr.build, Sem.run_bind, zeroValue_run h1 h2, Result.andThen_ok, run_underlying hu, hmapM, hpleq, o1]
          rfl
        | array len e =>
          simp only [hu] at hpl
          cases hse : tySize S.P e with
          | none => simp [hse] at hpl
          | some n =>
            simp only [hse, Option.some.injEq] at hpl
            have hpl' : (fun i => some (i * n, n)) = pl := by rw [← hpl]; funext i; rw [mulw_eq]
            simp only [Instr.build, Sem.run_bind, zeroValue_run h1 h2, Result.andThen_ok, run_underlying hu, run_sizeOf hse, hpl', o1]
            rfl
        | _ => simp [hu] at hpl
    simp only [execOp, ho, Sem.run_bind, hb, Result.andThen_ok, Sem.run_pure]
  have harr : out = out.toList.toArray := by simp
  rw [harr] at hr
  exact Good.val h hd hr (.agg _ _ (by simpa using o2) fun j u q hu hq => o3 j u q (by simpa using hu) hq) (fun j hj => by
    simp only [PV.rgm] at hj
    rw [PV.nrL_rgmL j cs hb.2] at hj; cases hj)

theorem getD_set {α : Type} (xs : List α) (i j : Nat) (x d : α) (hi : i < xs.length) : (xs.set i x).getD j d = if j = i then x else xs.getD j d := by
  by_cases h : j = i
  · subst h; simp [List.getD, hi]
  · rw [if_neg h]; simp [List.getD, List.getElem?_set_ne (Ne.symm h)]

/-- An element written: what it then holds. -/
theorem Mem.set_spec {m m' : Mem} {i c : Nat} {y : D} (h : m.set i c y = some m') (hi : i < m.len) (hc : c < m.width) :
    m'.len = m.len ∧ m'.width = m.width ∧ m'.flat = m.flat ∧
    ((y.cell = true ∧ aggW y = 1 ∧ ∀ i' c', c' < m.width → m'.get i' c' = if i' = i ∧ c' = c then y else m.get i' c') ∨
     (∃ u v, y = .agg [u, v] ∧ m.width = 2 ∧ c = 0 ∧ u.cell = true ∧ v.cell = true ∧ ∀ i' c', c' < m.width → m'.get i' c' = if i' = i then (if c' = 0 then u else v) else m.get i' c')) := by
  cases m with
  | ints xs =>
    cases y with
    | int k n =>
      cases k <;> simp only [Mem.set, Option.some.injEq, reduceCtorEq] at h
      subst h
      simp only [Mem.len, Mem.width] at hi hc
      refine ⟨by simp [Mem.len], rfl, rfl, .inl ⟨rfl, rfl, fun i' c' hc' => ?_⟩⟩
      have e : c = 0 := by omega
      have e' : c' = 0 := by simp [Mem.width] at hc'; exact hc'
      subst e e'
      show D.int .i64 ((xs.set i n).getD i' 0) = _
      rw [getD_set _ _ _ _ _ hi]
      by_cases g : i' = i
      · rw [if_pos g, if_pos ⟨g, rfl⟩]
      · rw [if_neg g, if_neg (by simp [g])]; rfl
    | _ => simp [Mem.set] at h
  | bytes xs => cases y <;> simp [Mem.set] at h
  | rows xss =>
    cases y with
    | sl mm =>
      cases mm <;> simp only [Mem.set, Option.some.injEq, reduceCtorEq] at h
      rename_i ys
      subst h
      simp only [Mem.len, Mem.width] at hi hc
      refine ⟨by simp [Mem.len], rfl, rfl, .inl ⟨rfl, rfl, fun i' c' hc' => ?_⟩⟩
      have e : c = 0 := by omega
      have e' : c' = 0 := by simp [Mem.width] at hc'; exact hc'
      subst e e'
      show D.sl (.ints ((xss.set i ys).getD i' [])) = _
      rw [getD_set _ _ _ _ _ hi]
      by_cases g : i' = i
      · rw [if_pos g, if_pos ⟨g, rfl⟩]
      · rw [if_neg g, if_neg (by simp [g])]; rfl
    | _ => simp [Mem.set] at h
  | pairs ps =>
    simp only [Mem.len, Mem.width] at hi hc
    have comp : ∀ (i' c' : Nat), c' < 2 → c' = 0 ∨ c' = 1 := fun _ _ h => by omega
    cases y with
    | int k n =>
      match c, h with
      | 0, h =>
        cases k <;> simp only [Mem.set, Option.some.injEq, reduceCtorEq] at h
        subst h
        refine ⟨by simp [Mem.len], rfl, rfl, .inl ⟨rfl, rfl, fun i' c' hc' => ?_⟩⟩
        have hc2 : c' = 0 ∨ c' = 1 := comp i' c' hc'
        rcases hc2 with rfl | rfl
        · show D.int .i64 ((ps.set i _).getD i' (0, 0)).1 = _
          rw [getD_set _ _ _ _ _ hi]
          by_cases g : i' = i
          · rw [if_pos g, if_pos ⟨g, rfl⟩]
          · rw [if_neg g, if_neg (by simp [g])]; rfl
        · show D.int .i64 ((ps.set i _).getD i' (0, 0)).2 = _
          rw [getD_set _ _ _ _ _ hi]
          have e10 : ¬ (i' = i ∧ 1 = 0) := by simp
          by_cases g : i' = i
          · rw [if_pos g, if_neg e10, g]; rfl
          · rw [if_neg g, if_neg e10]; rfl
      | 1, h =>
        cases k <;> simp only [Mem.set, Option.some.injEq, reduceCtorEq] at h
        subst h
        refine ⟨by simp [Mem.len], rfl, rfl, .inl ⟨rfl, rfl, fun i' c' hc' => ?_⟩⟩
        have hc2 : c' = 0 ∨ c' = 1 := comp i' c' hc'
        rcases hc2 with rfl | rfl
        · show D.int .i64 ((ps.set i _).getD i' (0, 0)).1 = _
          rw [getD_set _ _ _ _ _ hi]
          have e10 : ¬ (i' = i ∧ 0 = 1) := by simp
          by_cases g : i' = i
          · rw [if_pos g, if_neg e10, g]; rfl
          · rw [if_neg g, if_neg e10]; rfl
        · show D.int .i64 ((ps.set i _).getD i' (0, 0)).2 = _
          rw [getD_set _ _ _ _ _ hi]
          by_cases g : i' = i
          · rw [if_pos g, if_pos ⟨g, rfl⟩]
          · rw [if_neg g, if_neg (by simp [g])]; rfl
      | c + 2, h => omega
    | agg cs =>
      have hc0 : c = 0 ∧ ∃ x z, cs = [.int .i64 x, .int .i64 z] ∧ m' = .pairs (ps.set i (x, z)) := by
        match c, cs, h with
        | 0, [.int .i64 x, .int .i64 z], h => simp only [Mem.set, Option.some.injEq] at h; exact ⟨rfl, x, z, rfl, h.symm⟩
        | c + 1, cs, h => cases c <;> simp [Mem.set] at h
        | 0, [], h => simp [Mem.set] at h
        | 0, [_], h => simp [Mem.set] at h
        | 0, _ :: _ :: _ :: _, h => simp [Mem.set] at h
        | 0, [u, v], h =>
          cases u with
          | int k x =>
            cases k <;> first | (simp [Mem.set] at h; done) | skip
            cases v with
            | int k' z => cases k' <;> first | (simp [Mem.set] at h; done) | (simp only [Mem.set, Option.some.injEq] at h; exact ⟨rfl, x, z, rfl, h.symm⟩)
            | _ => simp [Mem.set] at h
          | _ => simp [Mem.set] at h
      obtain ⟨rfl, x, z, rfl, rfl⟩ := hc0
      refine ⟨by simp [Mem.len], rfl, rfl, .inr ⟨_, _, rfl, rfl, rfl, rfl, rfl, fun i' c' hc' => ?_⟩⟩
      have hc2 : c' = 0 ∨ c' = 1 := comp i' c' hc'
      rcases hc2 with rfl | rfl
      · show D.int .i64 ((ps.set i _).getD i' (0, 0)).1 = _
        rw [getD_set _ _ _ _ _ hi]
        by_cases g : i' = i
        · rw [if_pos g, if_pos g]; rfl
        · rw [if_neg g, if_neg g]; rfl
      · show D.int .i64 ((ps.set i _).getD i' (0, 0)).2 = _
        rw [getD_set _ _ _ _ _ hi]
        by_cases g : i' = i
        · rw [if_pos g, if_pos g]; rfl
        · rw [if_neg g, if_neg g]; rfl
    | _ => match c, h with
      | 0, h => simp [Mem.set] at h
      | 1, h => simp [Mem.set] at h
      | c + 2, h => simp [Mem.set] at h

theorem store_good (h : StR S ρ a w σ st) (hd : ∀ d, o.dst = some d → d < S.n) {t : TypeId} {x y : Operand} (ho : o.op = .store t x y) {n : Nat} (hn : tySize S.P t = some n) {p q : PV} {vx vy : Value}
    (hvx : a.eval x = vx) (hvy : a.eval y = vy) (hx : RPs S ρ w st vx p) (hy : RPs S ρ w st vy q) (hg : ∀ j, q.rgm j = true → aget st j = some .reg) (hpre : ∀ r ∈ (storeRun n (aget st) p q).pre, r) :
    Good S a w σ st o (storeRun n (aget st) p q) := by
  unfold storeRun at hpre ⊢
  cases p with
  | ptr k c =>
    dsimp only at hpre ⊢
    cases hk : aget st k with
    | none => simp only [hk] at hpre; exact (bad_pre hpre).elim
    | some e =>
    cases e with
    | box ty ps =>
      cases hc : q.cells with
      | none => simp only [hk, hc] at hpre; exact (bad_pre hpre).elim
      | some qs =>
      simp only [hk, hc] at hpre ⊢
      obtain ⟨hb, he, _⟩ := chk_pre hpre
      rw [he]
      simp only [Bool.and_eq_true, beq_true, Nat.ble_eq] at hb
      exact store_box h hd ho hn hk (hvx.trans (by cases hx; rfl)) hvy hy hc hb.1.1 hb.1.2 hb.2 (fun j hj => hg j (cells_rgm hc hj))
    | arr _ _ _ => simp only [hk] at hpre; exact (bad_pre hpre).elim
    | reg => simp only [hk] at hpre; exact (bad_pre hpre).elim
    | vw xs => simp only [hk] at hpre; exact (bad_pre hpre).elim
  | eadr k wd i c =>
    dsimp only at hpre ⊢
    cases hk : aget st k with
    | none => simp only [hk] at hpre; exact (bad_pre hpre).elim
    | some e =>
    cases e with
    | arr fr ty m =>
      cases q with
      | d frx yd =>
        cases hs : m.set i c yd with
        | none => simp only [hk, hs] at hpre; exact (bad_pre hpre).elim
        | some m' =>
        simp only [hk, hs] at hpre ⊢
        obtain ⟨hb, he, hp⟩ := chk_pre hpre
        rw [he]
        have hi : i < m.len := hp _ (by simp)
        simp only [Bool.and_eq_true, beq_true, Nat.blt_eq] at hb
        obtain ⟨⟨⟨hwd, hcw⟩, hfr⟩, hsz⟩ := hb
        subst hwd
        obtain ⟨s1, s2, s3, s4⟩ := Mem.set_spec hs hi hcw
        obtain ⟨cur, e1, e2, e3, e4, e5⟩ := h.ents k _ hk
        have hy' := RPs.d_inv hy
        -- the cells of the value
        have hcells : vy.cells.size = n ∧ (∀ u ∈ vy.cells.toList, u.oneCell' = true) ∧ c + n ≤ m.width ∧
            ∀ i' c', i' < m.len → c' < m.width → m'.get i' c' = (if i' = i ∧ c ≤ c' ∧ c' < c + n then (m'.get i c') else m.get i' c') ∧
              (c ≤ c' → c' < c + n → ∃ u, vy.cells[c' - c]? = some u ∧ RD w (liveO S.O ρ st) S.F frx u (m'.get i c')) := by
          rcases s4 with ⟨y1, y2, y3⟩ | ⟨u, v, y1, y2, y3, y4, y5, y6⟩
          · have hone := hy'.plain.oneCell y1
            have hvc : vy.cells = #[vy] := by cases vy <;> first | rfl | simp [Value.oneCell'] at hone
            have hn1 : n = 1 := by rw [hsz, y2]
            subst hn1
            refine ⟨by rw [hvc]; rfl, fun u hu => by rw [hvc] at hu; simp at hu; rw [hu]; exact hone, by omega, fun i' c' hi' hc' => ⟨?_, fun g1 g2 => ?_⟩⟩
            · rw [y3 i' c' hc']
              by_cases g : i' = i ∧ c' = c
              · rw [if_pos g, if_pos ⟨g.1, by omega, by omega⟩, y3 i c' hc', if_pos ⟨rfl, g.2⟩]
              · rw [if_neg g, if_neg (by omega)]
            · have : c' = c := by omega
              subst this
              refine ⟨vy, by rw [hvc]; simp, ?_⟩
              rw [y3 i c' hc', if_pos ⟨rfl, rfl⟩]
              exact hy'
          · subst y1
            obtain ⟨vs, v1, v2, v3⟩ := hy'.agg_inv
            subst v1
            have hn2 : n = 2 := hsz
            subst hn2 y3
            refine ⟨by simp [Value.cells, v2], fun z hz => ?_, by omega, fun i' c' hi' hc' => ⟨?_, fun g1 g2 => ?_⟩⟩
            · simp only [Value.cells] at hz
              obtain ⟨j, hj⟩ := List.mem_iff_getElem?.1 hz
              have hjl : j < 2 := by have := (List.getElem?_eq_some_iff.1 hj).1; simpa [v2] using this
              have : j = 0 ∨ j = 1 := by omega
              rcases this with rfl | rfl
              · exact (v3 0 z u hj rfl).plain.oneCell y4
              · exact (v3 1 z v hj rfl).plain.oneCell y5
            · rw [y6 i' c' hc', y6 i c' hc']
              by_cases g : i' = i
              · rw [if_pos g, if_pos (show i' = i ∧ 0 ≤ c' ∧ c' < 0 + 2 from ⟨g, by omega, by omega⟩), if_pos (rfl : i = i)]
              · rw [if_neg g, if_neg (by omega)]
            · have hjl : c' < vs.length := by rw [v2]; simp; omega
              have hv : vs[c']? = some vs[c'] := List.getElem?_eq_getElem hjl
              refine ⟨vs[c'], by simp [Value.cells], ?_⟩
              rw [y6 i c' hc', if_pos rfl]
              have : c' = 0 ∨ c' = 1 := by omega
              rcases this with rfl | rfl
              · exact v3 0 _ u hv rfl
              · exact v3 1 _ v hv rfl
        obtain ⟨hcs, hone, hcn, hget⟩ := hcells
        intro K Q hK
        have hcl : vy.cells.toList.length = n := by simpa using hcs
        have hroom : i * m.width + c + n ≤ cur.size := by
          have : (i + 1) * m.width ≤ (ρ k).2 * m.width := Nat.mul_le_mul_right _ (by omega)
          rw [Nat.add_mul, Nat.one_mul] at this
          omega
        have hpos : 0 < (ρ k).2 := by omega
        have e1 := e1 hpos
        have hrun := run_storeCells_at S.P (ρ k).1 (i * m.width + c) ty vy.cells.toList 0 cur w e1 (by omega) hone
        simp only [Nat.add_zero, hcl] at hrun
        have hvx' : vx = .pointer (some ⟨(ρ k).1, i * m.width + c, none⟩) := by cases hx; rfl
        have hr : (execOp a.eval o).run S.P w = .ok .skip (w.setRow (ρ k).1 (cur.toList.take (i * m.width + c) ++ vy.cells.toList ++ cur.toList.drop (i * m.width + c + n)).toArray) := by
          simp [execOp, ho, hvx, hvx', hvy, Instr.storeAt, Instr.sureAddr, storeVar, run_sizeOf hn, hcs, hrun]
        have hb : ∀ b, b < w.heap.size → ¬ blk (.arr fr ty m) (ρ k) b →
            (w.setRow (ρ k).1 (cur.toList.take (i * m.width + c) ++ vy.cells.toList ++ cur.toList.drop (i * m.width + c + n)).toArray).heap[b]? = w.heap[b]? := fun b _ hne => setRow_other w _ b _ fun e => hne ⟨e, hpos⟩
        have hkk := write_hk h k (.arr fr ty m) (.arr fr ty m') hk hb (fun _ => Iff.rfl)
        have sp := splice_get cur.toList vy.cells.toList (i * m.width + c) (by simp; omega)
        have spl := splice_len cur.toList vy.cells.toList (i * m.width + c) (by simp; omega)
        rw [hcl] at sp spl
        have hok : EntOk (w.setRow (ρ k).1 (cur.toList.take (i * m.width + c) ++ vy.cells.toList ++ cur.toList.drop (i * m.width + c + n)).toArray)
            (liveO S.O ρ ((k, .arr fr ty m') :: adel st k)) S.F ρ k (.arr fr ty m') := by
          refine ⟨_, fun _ => setRow_heap w _ cur _ _ _ e1, e2, ?_, by omega, fun i' c' hi' hc' => ?_⟩
          · simp only [List.size_toArray, spl, s2]; simpa using e3
          · rw [s1] at hi'
            rw [s2] at hc' ⊢
            obtain ⟨g1, g2⟩ := hget i' c' hi' hc'
            simp only [List.getElem?_toArray, sp]
            by_cases hin : i' = i ∧ c ≤ c' ∧ c' < c + n
            · obtain ⟨rfl, q1, q2⟩ := hin
              obtain ⟨u, u1, u2⟩ := g2 q1 q2
              rw [if_neg (by omega), if_pos (by omega)]
              refine ⟨u, by have : i' * m.width + c' - (i' * m.width + c) = c' - c := by omega
                            rw [this]; simpa using u1, ?_⟩
              refine RD.step ?_ hkk
              cases hf : m'.flat with
              | true => exact RD.of_flats u2 (Mem.flat_get hf _ _)
              | false =>
                refine u2.weaken fun h1 => ?_
                rw [s3] at hf
                simp [hf, h1] at hfr
                exact hfr
            · have hout : ¬ (i * m.width + c ≤ i' * m.width + c' ∧ i' * m.width + c' < i * m.width + c + n) := by
                intro hx2
                apply hin
                have d1 := divmod_cell hc' (i := i')
                have hlt : c + (i' * m.width + c' - (i * m.width + c)) < m.width := by omega
                have d2 := divmod_cell hlt (i := i)
                have e : i * m.width + (c + (i' * m.width + c' - (i * m.width + c))) = i' * m.width + c' := by omega
                rw [e] at d2
                have e1 : i' = i := by rw [← d1.1, d2.1]
                have e2 : c' = c + (i' * m.width + c' - (i * m.width + c)) := d1.2.symm.trans d2.2
                exact ⟨e1, by omega, by subst e1; omega⟩
              obtain ⟨u, u1, u2⟩ := e5 i' c' hi' hc'
              rw [g1, if_neg hin]
              refine ⟨u, ?_, u2.step hkk⟩
              by_cases hlt : i' * m.width + c' < i * m.width + c
              · rw [if_pos hlt]; simpa using u1
              · rw [if_neg hlt, if_neg (by omega)]; simpa using u1
        have h2 := h.write k (.arr fr ty m) (.arr fr ty m') hk (w' := w.setRow (ρ k).1 (cur.toList.take (i * m.width + c) ++ vy.cells.toList ++ cur.toList.drop (i * m.width + c + n)).toArray) rfl rfl rfl (by simp) hb
          (fun _ => Iff.rfl) (by simp) (fun t cs he => by cases he) hok
        exact wp_skipped hr (hK ρ _ _ (h2.put_undef o.dst _ hd))
      | _ => simp only [hk] at hpre; exact (bad_pre hpre).elim
    | box _ _ => simp only [hk] at hpre; exact (bad_pre hpre).elim
    | reg => simp only [hk] at hpre; exact (bad_pre hpre).elim
    | vw xs => simp only [hk] at hpre; exact (bad_pre hpre).elim
  | _ => exact (bad_pre hpre).elim
end Go.Proofs.Ytomnmacmlhkceaa
