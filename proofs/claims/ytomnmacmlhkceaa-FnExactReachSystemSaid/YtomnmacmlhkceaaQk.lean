/- The pure layer, part K: literals, rows made, elements written, calls. No function of the program is named here. -/
import Derived.Test.YtomnmacmlhkceaaQj
set_option linter.unusedVariables false
set_option linter.unusedSimpArgs false
namespace Go.Proofs.Ytomnmacmlhkceaa
open Go
variable {S : Setting} {ρ : Nat → Nm} {a : Act} {w : World} {σ : Env} {st : Store} {o : Oper}
theorem makeSlice_good (h : StR S ρ a w σ st) (hd : ∀ d, o.dst = some d → d < S.n) {t : TypeId} {l c : Operand} (ho : o.op = .makeSlice t l c) {k : Nat} {p q : PV} {vl vc : Value}
  (hvl : a.eval l = vl) (hvc : a.eval c = vc) (hl : RPs S ρ w st vl p) (hc : RPs S ρ w st vc q) (hpre : ∀ r ∈ (makeSliceRun S.P t k p q).pre, r)
  (hnew : newOk σ st (makeSliceRun S.P t k p q).new = true) : Good S a w σ st o (makeSliceRun S.P t k p q) := by
 unfold makeSliceRun at hpre hnew ⊢
 cases ht : tyElem S.P t with
 | none => simp only [ht] at hpre; exact (bad_pre hpre).elim
 | some e =>
 simp only [ht] at hpre hnew ⊢
 have hu := tyElem_inv ht
 cases p with
 | d f1 x1 =>
  cases x1 with
  | int k1 n =>
   cases k1 <;> first | exact (bad_pre hpre).elim | skip
   cases q with
   | d f2 x2 =>
    cases x2 with
    | int k2 n' =>
     cases k2 <;> first | exact (bad_pre hpre).elim | skip
     dsimp only at hpre hnew ⊢
     have e1 := RPs.int_inv hl
     have e2 := RPs.int_inv hc
     subst e1 e2
     cases hi : S.P.info? e with
     | none => simp only [hi] at hpre; exact (bad_pre hpre).elim
     | some i =>
     simp only [hi] at hpre hnew ⊢
     -- the run
     have main : ∀ (z : Value) (m : Mem), i.zero = some z → z.cells = #[z] → 1 ≤ i.bytes → i.size = 1 → n = n' → 0 ≤ n → n * i.bytes ≤ 140737488355328 → m.len = n.toNat → m.width = 1 →
       (∀ j cc, j < n.toNat → cc < 1 → R w.cell? (fun _ => False) z (m.get j cc) ∧ ∀ (g : Addr → Option Value) (O : Nat → Prop), R g O z (m.get j cc)) →
       newOk σ st [(k, Ent.arr true e m)] = true → ∀ pre, Good S a w σ st o ⟨pre, .own k n.toNat, [(k, .arr true e m)], none, none⟩ := by
      intro z m hz hzc hby hsz hnn hn0 hbytes hml hmw hget hnewk pre
      obtain ⟨n1, nk⟩ := newOk_one hnewk
      subst hnn
      have hle : n.toNat ≤ 140737488355328 := by
       have h1 : n * 1 ≤ n * (i.bytes : Int) := Int.mul_le_mul_of_nonneg_left (by omega) hn0
       omega
      have hr := run_make (P := S.P) w t e i z hu hi hz .i64 .i64 n n hn0 (Int.le_refl _) (by rw [Int.mul_comm]; omega) (by omega)
      refine Good.newArr (w1 := w) (ρ1 := ρ) h hd k n.toNat n.toNat h (cells := madeCells z.cells (n.toNat * i.size)) ?_ (by simp) (by rw [size_madeCells, hsz, hmw]) (by omega) (by unfold maxLen; omega) (fun j cc hj hcc => ?_) n1 nk
      ·simp only [execOp, ho, hvl, hvc, Sem.run_bind, hr, Result.andThen_ok, Sem.run_pure]
      ·rw [hml] at hj
       rw [hmw] at hcc ⊢
       refine ⟨z, ?_, (by have := (hget j cc hj hcc).2; exact this _ _)⟩
       have e0 : cc = 0 := by omega
       subst e0
       have hj' : j < n.toNat * 1 := by omega
       simp only [madeCells, hsz, hzc, Nat.mul_one, Nat.add_zero, Array.getElem?_map, Array.getElem?_range, hj, if_true, Option.map_some]
       simp [Nat.mod_one]
     cases hmk : memKind S.P e with
     | none => simp only [hmk] at hpre; exact (bad_pre hpre).elim
     | some mk =>
     cases mk with
     | ints =>
      simp only [hmk] at hpre hnew ⊢
      obtain ⟨hb, he, hp⟩ := chk_pre hpre
      rw [he] at hnew ⊢
      simp only [Bool.and_eq_true, beq_true] at hb
      obtain ⟨z, hz, hzc, hby⟩ := zsize_inv hb.1.2
      have hiz := hb.2
      unfold isZ at hiz
      rw [hz] at hiz
      have hzz : z = .int .i64 0 := by
       cases z <;> first | (simp at hiz; done) | skip
       rename_i kk nn
       cases kk <;> first | (simp at hiz; done) | skip
       by_cases h0 : nn = 0
       ·rw [h0]
       ·exfalso; split at hiz
        ·rename_i heq; cases heq; exact h0 rfl
        ·rename_i heq _; cases heq
        ·rename_i heq _; cases heq
        ·cases hiz
      subst hzz
      exact main _ _ hz rfl hby hb.1.1 (hp _ (by simp)) (hp _ (by simp)) (hp _ (by simp)) (by simp [Mem.len]) rfl
       (fun j cc hj _ => by
        have e0 : (Mem.ints (List.replicate n.toNat 0)).get j cc = .int .i64 0 := by simp [Mem.get, List.getD, hj]
        rw [e0]; exact ⟨.int _ _, fun _ _ => .int _ _⟩) hnew _
     | rows =>
      simp only [hmk] at hpre hnew ⊢
      obtain ⟨hb, he, hp⟩ := chk_pre hpre
      rw [he] at hnew ⊢
      simp only [Bool.and_eq_true, beq_true] at hb
      obtain ⟨z, hz, hzc, hby⟩ := zsize_inv hb.1.2
      have hiz := hb.2
      unfold isZ at hiz
      rw [hz] at hiz
      have hzz : z = .slice none 0 0 := by
       split at hiz
       ·rename_i heq _; cases heq
       ·rename_i heq; cases heq; rfl
       ·rename_i heq _; cases heq
       ·cases hiz
      subst hzz
      exact main _ _ hz rfl hby hb.1.1 (hp _ (by simp)) (hp _ (by simp)) (hp _ (by simp)) (by simp [Mem.len]) rfl
       (fun j cc hj _ => by
        have e0 : (Mem.rows (List.replicate n.toNat [])).get j cc = .sl (.ints []) := by simp [Mem.get, List.getD, hj]
        rw [e0]; exact ⟨.slnil _ rfl, fun _ _ => .slnil _ rfl⟩) hnew _
     | bytes => simp only [hmk] at hpre; exact (bad_pre hpre).elim
     | pairs =>
      simp only [hmk] at hpre hnew ⊢
      obtain ⟨hb, he, hp⟩ := chk_pre hpre
      rw [he] at hnew ⊢
      simp only [Bool.and_eq_true, beq_true] at hb
      obtain ⟨z, hz, hzc, hby⟩ := zsize_inv hb.1.2
      have hiz := hb.2
      have hsz := hb.1.1
      unfold isZ at hiz
      rw [hz] at hiz
      have hzz : z = .agg ⟨[.int .i64 0, .int .i64 0]⟩ := by
       split at hiz
       all_goals first | rfl | (cases hiz; done) | (rename_i heq; cases heq; done) | (rename_i heq _; cases heq; done) | (rename_i heq; cases heq; rfl)
      subst hzz
      have hnn := hp (n = n') (by simp)
      have hn0 := hp (0 ≤ n) (by simp)
      have hbytes := hp (n * i.bytes ≤ 140737488355328) (by simp)
      obtain ⟨n1, nk⟩ := newOk_one hnew
      subst hnn
      have hle : n.toNat ≤ 140737488355328 := by
       have h1 : n * 1 ≤ n * (i.bytes : Int) := Int.mul_le_mul_of_nonneg_left (by omega) hn0
       omega
      have hr := run_make (P := S.P) w t e i _ hu hi hz .i64 .i64 n n hn0 (Int.le_refl _) (by rw [Int.mul_comm]; omega) (by omega)
      refine Good.newArr (w1 := w) (ρ1 := ρ) h hd k n.toNat n.toNat h (cells := madeCells (Value.agg ⟨[.int .i64 0, .int .i64 0]⟩).cells (n.toNat * i.size)) ?_ (by simp) (by rw [size_madeCells, hsz]; rfl) (by simp [Mem.len]) (by unfold maxLen; omega) (fun j cc hj hcc => ?_) n1 nk
      ·simp only [execOp, ho, hvl, hvc, Sem.run_bind, hr, Result.andThen_ok, Sem.run_pure]
      ·simp only [Mem.len, List.length_replicate] at hj
       have hcc : cc < 2 := hcc
       refine ⟨.int .i64 0, ?_, ?_⟩
       ·have hj' : j * 2 + cc < n.toNat * 2 := by omega
        simp only [madeCells, hsz, Mem.width, Array.getElem?_map, Array.getElem?_range, hj', if_true, Option.map_some]
        have h2 : (j * 2 + cc) % 2 = cc := by omega
        show some ((Value.agg ⟨[.int .i64 0, .int .i64 0]⟩).cells[(j * 2 + cc) % 2]!) = _
        rw [h2]
        have : cc = 0 ∨ cc = 1 := by omega
        rcases this with rfl | rfl <;> rfl
       ·have e0 : (Mem.pairs (List.replicate n.toNat ((0 : Int), (0 : Int)))).get j cc = .int .i64 0 := by
         have : cc = 0 ∨ cc = 1 := by omega
         rcases this with rfl | rfl <;> simp [Mem.get, List.getD, hj]
        rw [e0]
        exact .int _ _
    | _ => exact (bad_pre hpre).elim
   | _ => exact (bad_pre hpre).elim
  | _ => exact (bad_pre hpre).elim
 | _ => exact (bad_pre hpre).elim
theorem MK.of_spec : ∀ (k : MK) (ds : List D) (m : Mem), (∀ r ∈ k.pre ds, r) → k.of ds = some m → m.len = ds.length ∧ m.kind = k ∧
  ∀ (i : Nat) (d : D), ds[i]? = some d → (m.width = 1 ∧ m.get i 0 = d) ∨ (m.width = 2 ∧ d = .agg [m.get i 0, m.get i 1])
 | k, [], m, _, h => by
  simp only [MK.of, Option.some.injEq] at h
  subst h
  cases k <;> exact ⟨rfl, rfl, fun i d hd => by simp at hd⟩
 | k, x :: r, m, hpr, h => by
  have ih := fun m => MK.of_spec k r m (by cases k <;> simp_all [MK.pre])
  cases k with
  | ints =>
   cases x with
   | int kk n =>
    cases kk <;> first | (simp [MK.of] at h; done) | skip
    simp only [MK.of] at h
    cases hr : MK.of .ints r with
    | none => simp [hr] at h
    | some m' =>
     cases m' <;> simp [hr] at h
     subst h
     obtain ⟨h1, _, h3⟩ := ih _ hr
     refine ⟨by simpa [Mem.len] using h1, rfl, fun i d hd => .inl ⟨rfl, ?_⟩⟩
     cases i with
     | zero => simp at hd; subst hd; rfl
     | succ i =>
      simp at hd
      rcases h3 i d hd with ⟨_, h4⟩ | ⟨h4, _⟩
      ·simpa [Mem.get] using h4
      ·simp [Mem.width] at h4
   | _ => simp [MK.of] at h
  | rows =>
   cases x with
   | sl mm =>
    cases mm <;> first | (simp [MK.of] at h; done) | skip
    simp only [MK.of] at h
    cases hr : MK.of .rows r with
    | none => simp [hr] at h
    | some m' =>
     cases m' <;> simp [hr] at h
     subst h
     obtain ⟨h1, _, h3⟩ := ih _ hr
     refine ⟨by simpa [Mem.len] using h1, rfl, fun i d hd => .inl ⟨rfl, ?_⟩⟩
     cases i with
     | zero => simp at hd; subst hd; rfl
     | succ i =>
      simp at hd
      rcases h3 i d hd with ⟨_, h4⟩ | ⟨h4, _⟩
      ·simpa [Mem.get] using h4
      ·simp [Mem.width] at h4
   | _ => simp [MK.of] at h
  | bytes =>
   cases x with
   | int kk n =>
    cases kk <;> first | (simp [MK.of] at h; done) | skip
    simp only [MK.of] at h
    have h0 : 0 ≤ n := hpr _ (List.mem_cons_self (a := D.nat (.int .u8 n)) (l := r.map D.nat))
    cases hr : MK.of .bytes r with
    | none => simp [hr] at h
    | some m' =>
     cases m' <;> simp [hr] at h
     subst h
     obtain ⟨h1, _, h3⟩ := ih _ hr
     refine ⟨by simpa [Mem.len] using h1, rfl, fun i d hd => .inl ⟨rfl, ?_⟩⟩
     cases i with
     | zero => simp at hd; subst hd; simp [Mem.get, Int.toNat_of_nonneg h0]
     | succ i =>
      simp at hd
      rcases h3 i d hd with ⟨_, h4⟩ | ⟨h4, _⟩
      ·simpa [Mem.get] using h4
      ·simp [Mem.width] at h4
   | _ => simp [MK.of] at h
  | pairs =>
   cases x with
   | agg cs =>
    match cs, h with
    | [.int .i64 u, .int .i64 v], h =>
     simp only [MK.of] at h
     cases hr : MK.of .pairs r with
     | none => simp [hr] at h
     | some m' =>
      cases m' <;> simp [hr] at h
      subst h
      obtain ⟨h1, _, h3⟩ := ih _ hr
      refine ⟨by simpa [Mem.len] using h1, rfl, fun i d hd => .inr ⟨rfl, ?_⟩⟩
      cases i with
      | zero => simp at hd; subst hd; rfl
      | succ i =>
       simp at hd
       rcases h3 i d hd with ⟨h4, _⟩ | ⟨_, h4⟩
       ·simp [Mem.width] at h4
       ·simpa [Mem.get] using h4
    | [], h => simp [MK.of] at h
    | [_], h => simp [MK.of] at h
    | _ :: _ :: _ :: _, h => simp [MK.of] at h
    | [.undef, _], h => simp [MK.of] at h
    | [.nil, _], h => simp [MK.of] at h
    | [.bool _, _], h => simp [MK.of] at h
    | [.sl _, _], h => simp [MK.of] at h
    | [.adr _ _ _, _], h => simp [MK.of] at h
    | [.bx _ _, _], h => simp [MK.of] at h
    | [.agg _, _], h => simp [MK.of] at h
    | [.tup _, _], h => simp [MK.of] at h
    | [.fn _ _ _, _], h => simp [MK.of] at h
    | [.int .i8 _, _], h => simp [MK.of] at h
    | [.int .i16 _, _], h => simp [MK.of] at h
    | [.int .i32 _, _], h => simp [MK.of] at h
    | [.int .u8 _, _], h => simp [MK.of] at h
    | [.int .u16 _, _], h => simp [MK.of] at h
    | [.int .u32 _, _], h => simp [MK.of] at h
    | [.int .u64 _, _], h => simp [MK.of] at h
    | [.int .i64 _, .undef], h => simp [MK.of] at h
    | [.int .i64 _, .nil], h => simp [MK.of] at h
    | [.int .i64 _, .bool _], h => simp [MK.of] at h
    | [.int .i64 _, .sl _], h => simp [MK.of] at h
    | [.int .i64 _, .adr _ _ _], h => simp [MK.of] at h
    | [.int .i64 _, .bx _ _], h => simp [MK.of] at h
    | [.int .i64 _, .agg _], h => simp [MK.of] at h
    | [.int .i64 _, .tup _], h => simp [MK.of] at h
    | [.int .i64 _, .fn _ _ _], h => simp [MK.of] at h
    | [.int .i64 _, .int .i8 _], h => simp [MK.of] at h
    | [.int .i64 _, .int .i16 _], h => simp [MK.of] at h
    | [.int .i64 _, .int .i32 _], h => simp [MK.of] at h
    | [.int .i64 _, .int .u8 _], h => simp [MK.of] at h
    | [.int .i64 _, .int .u16 _], h => simp [MK.of] at h
    | [.int .i64 _, .int .u32 _], h => simp [MK.of] at h
    | [.int .i64 _, .int .u64 _], h => simp [MK.of] at h
   | _ => simp [MK.of] at h
theorem aggD_ok : ∀ (ps : List PV) (fr : Bool) (cs : List D), aggD ps = some (fr, cs) →
  ps.length = cs.length ∧ ∀ (j : Nat) (p : PV), ps[j]? = some p → ∃ f y, p = .d f y ∧ cs[j]? = some y ∧ (fr = true → f = true)
 | [], fr, cs, h => by simp [aggD] at h; obtain ⟨_, rfl⟩ := h; exact ⟨rfl, fun j p hp => by simp at hp⟩
 | q :: r, fr, cs, h => by
  cases q with
  | d f y =>
   simp only [aggD] at h
   cases hr : aggD r with
   | none => simp [hr] at h
   | some bx =>
    obtain ⟨b, z⟩ := bx
    obtain ⟨h2, h3⟩ := aggD_ok r b z hr
    simp only [hr, Option.some.injEq, Prod.mk.injEq] at h
    obtain ⟨rfl, rfl⟩ := h
    refine ⟨by simp [h2], fun j p hp => ?_⟩
    cases j with
    | zero => simp at hp; subst hp; exact ⟨f, y, rfl, rfl, fun h => by simp at h; exact h.1⟩
    | succ j =>
     simp at hp
     obtain ⟨f', y', e1, e2, e3⟩ := h3 j p hp
     exact ⟨f', y', e1, by simpa using e2, fun h => e3 (by simp at h; exact h.2)⟩
  | _ => simp [aggD] at h
theorem toD_ok {O : Nat → Prop} {base : Nat → Prop} {v : Value} {p : PV} {fr : Bool} {x : D} (h : RP w O base ρ v p) (ht : p.toD = some (fr, x)) : RD w O base fr v x := by
 cases p with
 | d f y => simp [PV.toD] at ht; obtain ⟨rfl, rfl⟩ := ht; exact RPs.d_inv h
 | agg ps =>
  simp only [PV.toD] at ht
  cases ha : aggD ps with
  | none => simp [ha] at ht
  | some bx =>
  obtain ⟨b, cs⟩ := bx
  simp only [ha, Option.some.injEq, Prod.mk.injEq] at ht
  obtain ⟨rfl, rfl⟩ := ht
  obtain ⟨h2, h3⟩ := aggD_ok ps _ cs ha
  cases h with
  | agg vs _ hl hr =>
   refine RD.agg_mk (by omega) fun j v d hv hd => ?_
   have hjl : j < ps.length := by have := (List.getElem?_eq_some_iff.1 hv).1; omega
   have hp : ps[j]? = some ps[j] := List.getElem?_eq_getElem hjl
   obtain ⟨f, y, e1, e2, e3⟩ := h3 j _ hp
   have := hr j v _ hv hp
   rw [e1] at this
   rw [hd] at e2
   cases e2
   exact (RPs.d_inv this).weaken e3
 | _ => simp [PV.toD] at ht
theorem stV_ok {O : Nat → Prop} {base : Nat → Prop} {v : Value} {x p : PV} (h : RP w O base ρ v p) : RP w O base ρ v (stV x p) := by
 unfold stV
 split
 ·split
  ·rename_i ht; exact .d _ _ _ (toD_ok h ht)
  ·exact h
 ·exact h
theorem stV_rgm {x p : PV} {j : Nat} (h : (stV x p).rgm j = true) : p.rgm j = true := by
 unfold stV at h
 split at h
 ·split at h
  ·simp [PV.rgm] at h
  ·exact h
 ·exact h
theorem listD_ok {O : Nat → Prop} {base : Nat → Prop} : ∀ (ps : List PV) (fr : Bool) (ds : List D), listD ps = some (fr, ds) → ps.length = ds.length ∧
  ∀ (j : Nat) (p : PV), ps[j]? = some p → ∃ d, ds[j]? = some d ∧ ∀ v, RP w O base ρ v p → RD w O base fr v d
 | [], fr, ds, h => by simp [listD] at h; obtain ⟨_, rfl⟩ := h; exact ⟨rfl, fun j p hp => by simp at hp⟩
 | p :: r, fr, ds, h => by
  simp only [listD] at h
  cases hp : p.toD with
  | none => simp [hp] at h
  | some fx =>
   obtain ⟨f, x⟩ := fx
   cases hr : listD r with
   | none => simp [hp, hr] at h
   | some bx =>
    obtain ⟨b, xs⟩ := bx
    simp only [hp, hr, Option.some.injEq, Prod.mk.injEq] at h
    obtain ⟨rfl, rfl⟩ := h
    obtain ⟨h1, h2⟩ := listD_ok (O := O) (base := base) r b xs hr
    refine ⟨by simp [h1], fun j q hq => ?_⟩
    cases j with
    | zero => simp at hq; subst hq; exact ⟨x, rfl, fun v hv => (toD_ok hv hp).weaken (by simp; intro h _; exact h)⟩
    | succ j =>
     simp at hq
     obtain ⟨d, e1, e2⟩ := h2 j q hq
     exact ⟨d, by simpa using e1, fun v hv => (e2 v hv).weaken (by simp)⟩
theorem inOrder_get : ∀ (k : Nat) (ps : List (Nat × Operand)), inOrder k ps = true → ∀ (j i : Nat) (x : Operand), ps[j]? = some (i, x) → i = k + j
 | _, [], _, _, _, _, h => by simp at h
 | k, (i0, x0) :: r, h, 0, i, x, hp => by
  simp at hp
  simp only [inOrder, Bool.and_eq_true, beq_true] at h
  omega
 | k, (i0, x0) :: r, h, j + 1, i, x, hp => by
  simp at hp
  simp only [inOrder, Bool.and_eq_true, beq_true] at h
  have := inOrder_get (k + 1) r h.2 j i x hp
  omega
theorem fold_set (off : Nat) : ∀ (l : List Value) (k : Nat) (cs : Array Value), off + k + l.length ≤ cs.size →
  ((l.zipIdx k).foldl (fun cs (x : Value × Nat) => cs.setIfInBounds (off + x.2) x.1) cs).size = cs.size ∧
  ∀ idx, ((l.zipIdx k).foldl (fun cs (x : Value × Nat) => cs.setIfInBounds (off + x.2) x.1) cs)[idx]? = if off + k ≤ idx ∧ idx < off + k + l.length then l[idx - (off + k)]? else cs[idx]?
 | [], k, cs, _ => by
  refine ⟨rfl, fun idx => ?_⟩
  rw [if_neg (by simp)]
  rfl
 | v :: r, k, cs, h => by
  simp only [List.length_cons] at h
  obtain ⟨h1, h2⟩ := fold_set off r (k + 1) (cs.setIfInBounds (off + k) v) (by simp; omega)
  simp only [List.zipIdx_cons, List.foldl_cons]
  refine ⟨by rw [h1]; simp, fun idx => ?_⟩
  rw [h2]
  simp only [List.length_cons]
  by_cases e : idx = off + k
  ·subst e
   rw [if_neg (by omega), if_pos (by omega)]
   simp [show off + k < cs.size by omega]
  ·by_cases e2 : off + (k + 1) ≤ idx ∧ idx < off + (k + 1) + r.length
   ·rw [if_pos e2, if_pos (by omega)]
    have : idx - (off + k) = (idx - (off + (k + 1))) + 1 := by omega
    rw [this, List.getElem?_cons_succ]
   ·rw [if_neg e2, if_neg (by omega), Array.getElem?_setIfInBounds_ne (by omega)]
theorem fold_set_arr (off : Nat) (vs : Array Value) (cs : Array Value) (h : off + vs.size ≤ cs.size) :
  (vs.zipIdx.foldl (fun cs (c, j) => cs.setIfInBounds (off + j) c) cs).size = cs.size ∧
  ∀ idx, (vs.zipIdx.foldl (fun cs (c, j) => cs.setIfInBounds (off + j) c) cs)[idx]? = if off ≤ idx ∧ idx < off + vs.size then vs[idx - off]? else cs[idx]? := by
 have e : vs.zipIdx.foldl (fun cs (c, j) => cs.setIfInBounds (off + j) c) cs = (vs.toList.zipIdx 0).foldl (fun cs (x : Value × Nat) => cs.setIfInBounds (off + x.2) x.1) cs := by
  rw [← Array.foldl_toList, Array.toList_zipIdx]
 rw [e]
 obtain ⟨h1, h2⟩ := fold_set off vs.toList 0 cs (by simpa using h)
 refine ⟨h1, fun idx => ?_⟩
 rw [h2]
 simp
theorem fill_inorder (size : Nat) : ∀ (parts : List (Nat × Value)) (k : Nat) (cells : Array Value), (∀ (j i : Nat) (v : Value), parts[j]? = some (i, v) → i = k + j ∧ v.cells.size = size) →
  (k + parts.length) * size ≤ cells.size → ∃ out, Instr.fill (fun i => some (i * size, size)) cells parts = some out ∧ out.size = cells.size ∧
   (∀ idx, idx < k * size → out[idx]? = cells[idx]?) ∧ ∀ (j i c : Nat) (v : Value), parts[j]? = some (i, v) → c < size → out[(k + j) * size + c]? = v.cells[c]?
 | [], k, cells, _, _ => ⟨cells, rfl, rfl, fun _ _ => rfl, fun j i c v h => by simp at h⟩
 | (i0, v0) :: r, k, cells, hp, hl => by
  obtain ⟨e0, s0⟩ := hp 0 i0 v0 rfl
  simp only [Nat.add_zero] at e0
  subst e0
  simp only [List.length_cons] at hl
  have hk : i0 * size + size ≤ cells.size := by
   have : (i0 + 1) * size ≤ (i0 + (r.length + 1)) * size := Nat.mul_le_mul_right _ (by omega)
   rw [Nat.add_mul, Nat.one_mul] at this
   omega
  obtain ⟨f1, f2⟩ := fold_set_arr (i0 * size) v0.cells cells (by omega)
  obtain ⟨out, o1, o2, o3, o4⟩ := fill_inorder size r (i0 + 1) (v0.cells.zipIdx.foldl (fun cs (c, j) => cs.setIfInBounds (i0 * size + j) c) cells)
   (fun j i v h => by
    obtain ⟨g1, g2⟩ := hp (j + 1) i v (by simpa using h)
    exact ⟨by omega, g2⟩)
   (by
    rw [f1]
    have : i0 + 1 + r.length = i0 + (r.length + 1) := by omega
    rw [this]; exact hl)
  have hne : (v0.cells.size ≠ size || i0 * size + v0.cells.size > cells.size) = false := by simp [s0]; omega
  refine ⟨out, ?_, by rw [o2, f1], fun idx hidx => ?_, fun j i c v h hc => ?_⟩
  ·unfold Instr.fill
   simp only [hne, Bool.false_eq_true, if_false]
   exact o1
  ·rw [o3 idx (by rw [Nat.add_mul]; omega), f2, if_neg (by omega)]
  ·cases j with
   | zero =>
    simp at h
    obtain ⟨rfl, rfl⟩ := h
    have hlt : (i0 + 0) * size + c < (i0 + 1) * size := by rw [Nat.add_mul i0 1]; simp; omega
    rw [o3 _ hlt, f2, if_pos (by simp; omega)]
    congr 1
    simp
   | succ j =>
    simp at h
    have := o4 j i c v h hc
    rw [← this]
    congr 2
    congr 1
    omega
theorem buildArr_good (h : StR S ρ a w σ st) (hd : ∀ d, o.dst = some d → d < S.n) {oc : Orc} {t : TypeId} {n : Nat} {parts : Array (Nat × Operand)} (ho : o.op = .buildSlice t n parts) {k : Nat} {ps : List PV}
  (hl : ps.length = parts.size) (hx : ∀ (j i : Nat) (x : Operand) (p : PV), parts[j]? = some (i, x) → ps[j]? = some p → RPs S ρ w st (a.eval x) p)
  (hpre : ∀ r ∈ (buildArr S.P oc t n parts.toList k ps).pre, r) (hnew : newOk σ st (buildArr S.P oc t n parts.toList k ps).new = true) :
  Good S a w σ st o (buildArr S.P oc t n parts.toList k ps) := by
 unfold buildArr at hpre hnew ⊢
 cases ht : tyElem S.P t with
 | none => simp only [ht] at hpre; exact (bad_pre hpre).elim
 | some e =>
 simp only [ht] at hpre hnew ⊢
 have hu := tyElem_inv ht
 cases hi : S.P.info? e with
 | none => simp only [hi] at hpre; exact (bad_pre hpre).elim
 | some i =>
 simp only [hi] at hpre hnew ⊢
 cases hmk : memKind S.P e with
 | none => simp only [hmk] at hpre; exact (bad_pre hpre).elim
 | some mk =>
 simp only [hmk] at hpre hnew ⊢
 cases hds : listD ps with
 | none => simp only [hds] at hpre; exact (bad_pre hpre).elim
 | some fd =>
 obtain ⟨fr, ds⟩ := fd
 simp only [hds] at hpre hnew ⊢
 cases hm : mk.of ds with
 | none => simp only [hm] at hpre; exact (bad_pre hpre).elim
 | some m =>
 simp only [hm] at hpre hnew ⊢
 obtain ⟨hb, he, hp⟩ := chk_pre hpre
 rw [he] at hnew ⊢
 simp only [Bool.and_eq_true, beq_true, Nat.ble_eq] at hb
 obtain ⟨⟨⟨⟨hisz, hn⟩, hbig⟩, hord⟩, hzs⟩ := hb
 obtain ⟨z, hz, hzc, hby⟩ := zsize_inv hzs
 obtain ⟨m1, m2, m3⟩ := MK.of_spec mk ds m (by revert hp; cases oc <;> exact id) hm
 obtain ⟨l1, l2⟩ := listD_ok (ρ := ρ) (w := w) (O := liveO S.O ρ st) (base := S.F) ps fr ds hds
 have hw := m.width_pos
 -- the parts' values
 let pv : List (Nat × Value) := (parts.map fun (i, x) => (i, a.eval x)).toList
 have hpl : pv.length = n := by simp [pv]; omega
 have hpart : ∀ (j i' : Nat) (v : Value), pv[j]? = some (i', v) → ∃ x d, i' = j ∧ v = a.eval x ∧ ds[j]? = some d ∧ RD w (liveO S.O ρ st) S.F fr v d := by
  intro j i' v hv
  simp only [pv, Array.toList_map, List.getElem?_map, Option.map_eq_some_iff] at hv
  obtain ⟨⟨i2, x⟩, hx2, hx3⟩ := hv
  simp only [Prod.mk.injEq] at hx3
  obtain ⟨rfl, rfl⟩ := hx3
  have hidx := inOrder_get 0 _ hord j i2 x hx2
  have hjl : j < ps.length := by rw [hl]; have := (List.getElem?_eq_some_iff.1 hx2).1; simpa using this
  have hpj : ps[j]? = some ps[j] := List.getElem?_eq_getElem hjl
  obtain ⟨d, hd1, hd2⟩ := l2 j _ hpj
  exact ⟨x, d, by omega, rfl, hd1, hd2 _ (hx j i2 x _ (by simpa using hx2) hpj)⟩
 have hcells : ∀ (j i' : Nat) (v : Value), pv[j]? = some (i', v) → i' = 0 + j ∧ v.cells.size = i.size := by
  intro j i' v hv
  obtain ⟨x, d, e1, e2, e3, e4⟩ := hpart j i' v hv
  refine ⟨by omega, ?_⟩
  rw [hisz]
  rcases m3 j d e3 with ⟨w1, g1⟩ | ⟨w2, g2⟩
  ·rw [w1]
   have := e4.plain.oneCell (by rw [← g1]; exact Mem.get_cell _ _ _)
   cases v <;> first | rfl | simp [Value.oneCell'] at this
  ·rw [w2]
   rw [g2] at e4
   obtain ⟨vs, h1, h2, _⟩ := e4.agg_inv
   rw [h1]
   simp [Value.cells, h2]
 have hsz0 : ((Array.range (n * i.size)).map (fun q => z.cells[q % z.cells.size]!)).size = n * i.size := by simp
 obtain ⟨out, o1, o2, _, o4⟩ := fill_inorder i.size pv 0 ((Array.range (n * i.size)).map (fun q => (if n * i.size = 0 then #[] else z.cells)[q % (if n * i.size = 0 then #[] else z.cells).size]!)) hcells (by simp [hpl])
 have hrun : (Instr.buildSlice t n (parts.map fun (i, x) => (i, a.eval x))).run S.P w = .ok (.slice (some ⟨w.heap.size, 0, none⟩) n n) (w.alloc (.cells out e)) := by
  have hbig' : ¬ (n * i.size > 2 ^ 24) := by omega
  by_cases h0 : n * i.size = 0
  ·simp only [h0, if_true] at o1
   simp [Instr.buildSlice, run_underlying hu, sizeOf, typeInfo, hi, h0, newRow]
   simp only [pv] at o1
   simp at o1
   rw [o1]
   simp
  ·simp only [h0, if_false] at o1
   simp only [pv] at o1
   simp [Instr.buildSlice, run_underlying hu, sizeOf, typeInfo, hi, h0, hbig', zeroValue, hz, newRow]
   simp at o1
   rw [o1]
   simp
 have hr : (execOp a.eval o).run S.P w = .ok (.value (.slice (some ⟨w.heap.size, 0, none⟩) n n)) (w.alloc (.cells out e)) := by
  simp only [execOp, ho, Sem.run_bind, hrun, Result.andThen_ok, Sem.run_pure]
 have hosz : out.size = n * m.width := by rw [o2, ← hisz]; simp
 have hget : ∀ i' c, i' < m.len → c < m.width → ∃ v, out[i' * m.width + c]? = some v ∧ RD w (liveO S.O ρ st) S.F (m.flat || fr) v (m.get i' c) := by
  intro i' c hi' hc
  have hil : i' < pv.length := by omega
  obtain ⟨⟨ii, vv⟩, hpi⟩ : ∃ q, pv[i']? = some q := ⟨_, List.getElem?_eq_getElem hil⟩
  obtain ⟨x, d, e1, e2, e3, e4⟩ := hpart i' _ _ hpi
  have ho4 := o4 i' _ c _ hpi (by rw [hisz]; exact hc)
  rw [hisz, Nat.zero_add] at ho4
  have fin : ∀ v, RD w (liveO S.O ρ st) S.F fr v (m.get i' c) → RD w (liveO S.O ρ st) S.F (m.flat || fr) v (m.get i' c) := by
   intro v hv
   cases hf : m.flat with
   | true => exact RD.of_flats hv (Mem.flat_get hf _ _)
   | false => exact hv
  rcases m3 i' d e3 with ⟨w1, g1⟩ | ⟨w2, g2⟩
  ·have hc0 : c = 0 := by omega
   subst hc0
   have hone := e4.plain.oneCell (by rw [← g1]; exact Mem.get_cell _ _ _)
   have : vv.cells[0]? = some vv := by
    cases vv <;> first | rfl | simp [Value.oneCell'] at hone
   rw [this] at ho4
   exact ⟨_, ho4, fin _ (by rw [g1]; exact e4)⟩
  ·rw [g2] at e4
   obtain ⟨vs, h1, h2, h3⟩ := e4.agg_inv
   rw [h1] at ho4
   simp only [Value.cells] at ho4
   have hcl : c < vs.length := by rw [h2]; simp; omega
   have hvc : vs[c]? = some vs[c] := List.getElem?_eq_getElem hcl
   refine ⟨vs[c], by rw [ho4]; simp [hcl], fin _ (h3 c _ _ hvc ?_)⟩
   have : c = 0 ∨ c = 1 := by omega
   rcases this with rfl | rfl <;> rfl
 have hn' : n = m.len := hn
 have frozen : oc = .frz → Good S a w σ st o (.ok [] (.d (m.flat || fr) (.sl m))) := by
  intro _ K Q hK
  have h2 := h.alloc (.cells out e)
  refine wp_value hr (hK ρ _ _ (h2.val o.dst _ _ hd (.d _ _ _ ?_) (rgm_d _ _)))
  have hnew : ∀ j c, j < m.len → c < m.width → (w.alloc (.cells out e)).cell? ((⟨w.heap.size, 0, none⟩ : Addr).add (j * m.width + c)) = out[j * m.width + c]? ∧ (w.alloc (.cells out e)).frozen? ((⟨w.heap.size, 0, none⟩ : Addr).add (j * m.width + c)) = false := by
   intro j c _ _
   rw [add_lit0]
   exact ⟨cell_of_row _ _ _ _ _ _ (alloc_new w _), frozen_of_row _ _ _ _ _ (alloc_new w _)⟩
  have hnoO : ¬ liveO S.O ρ st w.heap.size := fun hx => Nat.lt_irrefl _ (h.liveO_lt hx)
  have hstep : ∀ b, b < w.heap.size → ¬ liveO S.O ρ st b → (w.alloc (.cells out e)).heap[b]? = w.heap[b]? ∧ ¬ liveO S.O ρ st b := fun b hb hn => ⟨alloc_old w _ hb, hn⟩
  cases hff : (m.flat || fr) with
  | true =>
   refine R.sl m ⟨w.heap.size, 0, none⟩ n n hn' ⟨Nat.le_refl _, by have hle : n ≤ 16777216 := Nat.le_trans (Nat.le_mul_of_pos_right _ (by omega)) hbig; unfold maxLen; omega⟩ (fun j c => out.getD (j * m.width + c) undef) (fun j c hj hc => ?_) (fun j c hj hc => ?_)
   ·obtain ⟨v, hv, _⟩ := hget j c hj hc
    obtain ⟨q1, q2⟩ := hnew j c hj hc
    refine ⟨ucell_mk (by rw [q1, hv]; simp [hv]) q2, fun hx => ?_⟩
    rcases hx with hx | hx
    ·exact hnoO hx
    ·have h7 := S.fb _ hx; have h8 := h.frm.size; simp only at h7; omega
   ·obtain ⟨v, hv, hr⟩ := hget j c hj hc
    rw [hff] at hr
    have e1 : out.getD (j * m.width + c) undef = v := by simp [hv]
    rw [e1]
    exact hr.step hstep
  | false =>
   refine R.sl m ⟨w.heap.size, 0, none⟩ n n hn' ⟨Nat.le_refl _, by have hle : n ≤ 16777216 := Nat.le_trans (Nat.le_mul_of_pos_right _ (by omega)) hbig; unfold maxLen; omega⟩ (fun j c => out.getD (j * m.width + c) undef) (fun j c hj hc => ?_) (fun j c hj hc => ?_)
   ·obtain ⟨v, hv, _⟩ := hget j c hj hc
    obtain ⟨q1, q2⟩ := hnew j c hj hc
    exact ⟨by rw [q1, hv]; simp [hv], hnoO⟩
   ·obtain ⟨v, hv, hr⟩ := hget j c hj hc
    rw [hff] at hr
    have e1 : out.getD (j * m.width + c) undef = v := by simp [hv]
    rw [e1]
    exact hr.step hstep
 have owned : newOk σ st [(k, Ent.arr (m.flat || fr) e m)] = true → Good S a w σ st o ⟨[], .own k n, [(k, .arr (m.flat || fr) e m)], none, none⟩ := by
  intro hnk
  obtain ⟨n1, nk⟩ := newOk_one hnk
  have hle : n ≤ 16777216 := Nat.le_trans (Nat.le_mul_of_pos_right _ (by omega)) hbig
  exact Good.newArr (w1 := w) (ρ1 := ρ) h hd k n n h hr (by simp) hosz (by omega) (by unfold maxLen; omega) hget n1 nk
 cases oc with
 | frz => exact frozen rfl
 | no => exact owned hnew
 | wrap => exact owned hnew
 | call c r => exact owned hnew
 | callS j x => exact owned hnew
 | callG c r => exact owned hnew
 | g => exact owned hnew
 | take => exact owned hnew
 | cell ds r => exact owned hnew
end Go.Proofs.Ytomnmacmlhkceaa
