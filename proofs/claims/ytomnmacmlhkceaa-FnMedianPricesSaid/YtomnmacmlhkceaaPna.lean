/- The pure layer, part N, first half: rows of rows of numbers, all of them owned; calls that turn a record. No function of the program is named here. -/
import Derived.Test.YtomnmacmlhkceaaPm
set_option linter.unusedVariables false
set_option linter.unusedSimpArgs false
namespace Go.Proofs.Ytomnmacmlhkceaa
open Go
variable {S : Setting} {ρ : Nat → Nm} {a : Act} {w : World} {σ : Env} {st : Store} {o : Oper}
theorem MatOk.give {w : World} {p : Nm} {e eo : TypeId} {xss : List (List Int)} (h : MatOk w p e eo xss none) (i : Nat) : MatOk w p e eo xss (some i) := by
 have hn : ∀ j : Nat, (none : Option Nat) ≠ some j := fun j => by simp
 refine ⟨h.cap, h.len, ?_, fun j hj _ => h.inn j hj (hn j), fun i j a b _ _ => h.apart i j a b (hn i) (hn j), fun i a _ => h.outer i a (hn i)⟩
 obtain ⟨c, x, y, z⟩ := h.out
 exact ⟨c, x, y, fun j hj _ => z j hj (hn j)⟩
theorem arr_of_row {O : Nat → Prop} {base : Nat → Prop} {k : Nat} {e : TypeId} {ys : List Int} (h : (ρ k).2 ≤ maxLen ∧ ys.length ≤ (ρ k).2 ∧ ∃ cur : Array Value, (0 < (ρ k).2 → w.heap[(ρ k).1]? = some (.cells cur e (0, 0))) ∧ cur.size = (ρ k).2 ∧ ∀ j, j < ys.length → cur[j]? = some (.int .i64 (ys.getD j 0))) :
  EntOk w O base ρ k (.arr true e (.ints ys)) := by
 obtain ⟨h1, h2, cur, h3, h4, h5⟩ := h
 refine ⟨cur, h3, h1, by rw [h4]; exact (Nat.mul_one _).symm, h2, fun i c hi hc => ?_⟩
 have hc : c < 1 := hc
 have e1 : i * (Mem.ints ys).width + c = i := by show i * 1 + c = i; omega
 rw [e1]
 exact ⟨_, h5 i hi, RD.mk (R.int (g := w.cell?) (O := fun _ => False) _ _) rfl⟩
theorem take_good (h : StR S ρ a w σ st) (hd : ∀ d, o.dst = some d → d < S.n) {t : TypeId} {x : Operand} (ho : o.op = .load t x) {g : Bool} (hg : tyAgg S.P t = some g) {p : PV} {vx : Value} {dst : Nat}
  (hvx : a.eval x = vx) (hx : RPs S ρ w st vx p) (hpre : ∀ r ∈ (takeRun g dst (aget st) p).pre, r) (hnew : newOk σ st (takeRun g dst (aget st) p).new = true) : Good S a w σ st o (takeRun g dst (aget st) p) := by
 unfold takeRun at hpre hnew ⊢
 cases p with
 | eadr k wd i c =>
  dsimp only at hpre hnew ⊢
  cases hk : aget st k with
  | none => simp only [hk] at hpre; exact (bad_pre hpre).elim
  | some e =>
  cases e with
  | mat te teo xss hole =>
   cases hole with
   | some _ => simp only [hk] at hpre; exact (bad_pre hpre).elim
   | none =>
   simp only [hk] at hpre hnew ⊢
   cases g with
   | true => simp only [cond_true] at hpre; exact (bad_pre hpre).elim
   | false =>
   simp only [cond_false] at hpre hnew ⊢
   obtain ⟨hb, he, hp⟩ := chk_pre hpre
   rw [he] at hnew ⊢
   have hi : i < xss.length := hp _ (by simp)
   simp only [Bool.and_eq_true, beq_true] at hb
   obtain ⟨rfl, rfl⟩ := hb
   obtain ⟨n1, nk⟩ := newOk_one hnew
   have hm : MatOk w (ρ k) te teo xss none := h.ents k _ hk
   have hn : ∀ j : Nat, (none : Option Nat) ≠ some j := fun j => by simp
   have hs : ∀ j, (some i : Option Nat) ≠ some j → j ≠ i := fun j h1 e1 => h1 (by rw [e1])
   obtain ⟨cur, c1, c2, c3⟩ := hm.out
   have h1 : vx = .pointer (some ⟨(ρ k).1, i, none⟩) := by cases hx; simp
   obtain ⟨v, hv, hdv⟩ := c3 i hi (hn i)
   have hl := hm.len
   have hinn := hm.inn i hi (hn i)
   have hne : k ≠ dst := fun e => by rw [e, nk] at hk; cases hk
   have hr : (execOp a.eval o).run S.P w = .ok (.value v) w := by
    simp [execOp, ho, hvx, h1, Instr.loadAt, Instr.sureAddr, run_loadVar1 hg (cell_in h hk (c1 (by omega)) hv)]
   obtain ⟨aw1, aw2⟩ := unment_away (S := S) (ρ := ρ) n1 (nm ((ρ k).rows i).1 ((ρ k).rows i).2)
   have hup : upd ρ dst (nm ((ρ k).rows i).1 ((ρ k).rows i).2) k = ρ k := upd_ne ρ _ hne
   have h2 := h.regroup (w' := w) rfl rfl rfl (Nat.le_refl _) (Nat.le_refl _) (fun _ _ => rfl) (ρ' := upd ρ dst (nm ((ρ k).rows i).1 ((ρ k).rows i).2))
    (st' := (dst, .arr true te (.ints (xss.getD i []))) :: ((k, .mat te teo xss (some i)) :: adel st k)) (fun j => j = k ∨ j = dst)
    (fun j hj => by
     have h1 : j ≠ k := fun e => hj (.inl e)
     have h2 : j ≠ dst := fun e => hj (.inr e)
     exact ⟨by rw [aget_cons_ne (Ne.symm h2), aget_cons_ne (Ne.symm h1), aget_adel_ne _ h1], fun _ _ => upd_ne ρ _ h2⟩)
    (fun j en hj hen => by
     rcases hj with rfl | rfl
     ·rw [hk] at hen; cases hen; simp
     ·rw [nk] at hen; cases hen)
    (fun j en hj hen => by
     rcases hj with rfl | rfl
     ·rw [aget_cons_ne (Ne.symm hne), aget_cons_same] at hen
      cases hen
      refine ⟨by simp, fun b hb => .inl ⟨j, _, .inl rfl, hk, ?_⟩, by rw [EntOk, hup]; exact hm.give i⟩
      rw [hup] at hb
      rcases hb with hb | ⟨j2, hj2, _, hb⟩
      ·exact .inl hb
      ·exact .inr ⟨j2, hj2, hn j2, hb⟩
     ·rw [aget_cons_same] at hen
      cases hen
      refine ⟨by simp, fun b hb => .inl ⟨k, _, .inl rfl, hk, .inr ⟨i, hi, hn i, ?_⟩⟩, arr_of_row ?_⟩
      ·rw [upd_same] at hb; exact hb
      ·rw [upd_same]; exact hinn)
    (fun j j' e1 e2 hj hj' g1 g2 b hb1 hb2 => by
     have key : ∀ b, blk (.mat te teo xss (some i)) (ρ k) b → blk (.arr true te (.ints (xss.getD i []))) (nm ((ρ k).rows i).1 ((ρ k).rows i).2) b → False := by
      intro b b1 b2
      obtain ⟨b2, b3⟩ : b = ((ρ k).rows i).1 ∧ 0 < ((ρ k).rows i).2 := b2
      rcases b1 with ⟨b1, b4⟩ | ⟨j2, hj2, hh, b1, b4⟩
      ·exact hm.outer i hi (hn i) b3 b4 (by rw [← b1, ← b2])
      ·exact hs j2 hh (hm.apart j2 i hj2 hi (hn j2) (hn i) b4 b3 (by rw [← b1, ← b2]))
     rcases hj with rfl | rfl <;> rcases hj' with rfl | rfl
     ·rfl
     ·exfalso
      rw [aget_cons_ne (Ne.symm hne), aget_cons_same] at g1
      rw [aget_cons_same] at g2
      cases g1; cases g2
      rw [hup] at hb1
      rw [upd_same] at hb2
      exact key b hb1 hb2
     ·exfalso
      rw [aget_cons_ne (Ne.symm hne), aget_cons_same] at g2
      rw [aget_cons_same] at g1
      cases g1; cases g2
      rw [hup] at hb2
      rw [upd_same] at hb1
      exact key b hb2 hb1
     ·rfl)
    aw1 aw2
   intro K Q hK
   refine wp_value hr (hK _ _ _ (h2.val o.dst _ (.own dst (xss.getD i []).length) hd (RP.ofOwn ?_) (fun j hj => by simp [PV.rgm] at hj)))
   rw [upd_same]
   exact hdv
  | _ => simp only [hk] at hpre; exact (bad_pre hpre).elim
 | _ => exact (bad_pre hpre).elim
theorem buildSlice_good (h : StR S ρ a w σ st) (hd : ∀ d, o.dst = some d → d < S.n) {oc : Orc} {t : TypeId} {n : Nat} {parts : Array (Nat × Operand)} (ho : o.op = .buildSlice t n parts) {k : Nat} {ps : List PV}
  (hl : ps.length = parts.size) (hx : ∀ (j i : Nat) (x : Operand) (p : PV), parts[j]? = some (i, x) → ps[j]? = some p → RPs S ρ w st (a.eval x) p)
  (hpre : ∀ r ∈ (buildSliceRun S.P oc t n parts.toList k (aget st) ps).pre, r) (hnew : newOk σ st (buildSliceRun S.P oc t n parts.toList k (aget st) ps).new = true) :
  Good S a w σ st o (buildSliceRun S.P oc t n parts.toList k (aget st) ps) := by
 unfold buildSliceRun at hpre hnew ⊢
 cases hra : rowArg (aget st) ps with
 | none => simp only [hra] at hpre hnew ⊢; exact buildArr_good h hd ho hl hx hpre hnew
 | some q =>
 obtain ⟨k1, n1, e1, ys⟩ := q
 simp only [hra] at hpre hnew ⊢
 cases ht : tyElem S.P t with
 | none => simp only [ht] at hpre; exact (bad_pre hpre).elim
 | some e =>
 simp only [ht] at hpre hnew ⊢
 have hu := tyElem_inv ht
 cases hi : S.P.info? e with
 | none => simp only [hi] at hpre; exact (bad_pre hpre).elim
 | some i =>
 simp only [hi] at hpre hnew ⊢
 obtain ⟨hb, he, hp⟩ := chk_pre hpre
 rw [he] at hnew ⊢
 simp only [Bool.and_eq_true, beq_true] at hb
 obtain ⟨⟨⟨rfl, hisz⟩, hord⟩, hzs⟩ := hb
 obtain ⟨z, hz, hzc, hby⟩ := zsize_inv hzs
 have hn1 : n1 = ys.length := hp _ (by simp)
 subst hn1
 obtain ⟨m1, mk⟩ := newOk_one hnew
 obtain ⟨fr, rfl, hk⟩ : ∃ fr, ps = [.own k1 ys.length] ∧ aget st k1 = some (.arr fr e1 (.ints ys)) := by
  unfold rowArg at hra
  split at hra
  ·split at hra
   ·rename_i hk
    simp only [Option.some.injEq, Prod.mk.injEq] at hra
    obtain ⟨rfl, h2, rfl, rfl⟩ := hra
    exact ⟨_, by rw [h2], hk⟩
   ·cases hra
  ·cases hra
 have hpl : parts.size = 1 := by simpa using hl.symm
 obtain ⟨⟨i0, x⟩, hpx⟩ : ∃ q, parts[0]? = some q := ⟨_, Array.getElem?_eq_getElem (by omega)⟩
 have hi0 : i0 = 0 := by
  have := inOrder_get 0 _ hord 0 i0 x (by simpa using hpx)
  omega
 subst hi0
 have hrp := hx 0 0 x _ hpx rfl
 have hrow := hrp.own_inv
 have hvc : (a.eval x).cells = #[a.eval x] := by rcases hrow with h1 | ⟨h1, _⟩ <;> rw [h1] <;> rfl
 let pv : List (Nat × Value) := (parts.map fun (i, x) => (i, a.eval x)).toList
 have hpv : pv = [(0, a.eval x)] := by
  have hps : parts = #[(0, x)] := by
   apply Array.ext'
   have : parts.toList.length = 1 := by simpa using hpl
   match hq : parts.toList, this with
   | [q], _ =>
    have : parts.toList[0]? = some (0, x) := by simpa using hpx
    rw [hq] at this
    simpa using this
  simp [pv, hps]
 obtain ⟨out, o1, o2, _, o4⟩ := fill_inorder i.size pv 0 ((Array.range (1 * i.size)).map (fun q => z.cells[q % z.cells.size]!)) (fun j i' v hj => by
  rw [hpv] at hj
  cases j with
  | zero => simp at hj; obtain ⟨rfl, rfl⟩ := hj; exact ⟨rfl, by rw [hvc, hisz]; rfl⟩
  | succ j => simp at hj) (by simp [hpv])
 have hrun : (Instr.buildSlice t 1 (parts.map fun (i, x) => (i, a.eval x))).run S.P w = .ok (.slice (some ⟨w.heap.size, 0, none⟩) 1 1) (w.alloc (.cells out e)) := by
  have h0 : ¬ (1 * i.size = 0) := by omega
  have hbig' : ¬ (1 * i.size > 2 ^ 24) := by omega
  simp only [pv] at o1
  rw [Nat.one_mul] at h0 hbig'
  simp [Instr.buildSlice, run_underlying hu, sizeOf, typeInfo, hi, h0, hbig', zeroValue, hz, newRow]
  simp at o1
  rw [o1]
  simp
 have hr : (execOp a.eval o).run S.P w = .ok (.value (.slice (some ⟨w.heap.size, 0, none⟩) 1 1)) (w.alloc (.cells out e)) := by
  simp only [execOp, ho, Sem.run_bind, hrun, Result.andThen_ok, Sem.run_pure]
 have hosz : out.size = 1 := by rw [o2]; simp [hisz]
 have hout : out[0]? = some (a.eval x) := by
  have := o4 0 0 0 (a.eval x) (by rw [hpv]; rfl) (by omega)
  rw [hvc] at this
  simpa using this
 have hne : k1 ≠ k := fun e => by rw [e, mk] at hk; cases hk
 obtain ⟨aw1, aw2⟩ := unment_away (S := S) (ρ := ρ) m1 ⟨w.heap.size, 1, fun _ => ((ρ k1).1, (ρ k1).2)⟩
 have hent := h.rowEnt hk
 have hmat : MatOk (w.alloc (.cells out e)) ⟨w.heap.size, 1, fun _ => ((ρ k1).1, (ρ k1).2)⟩ e1 e [ys] none := by
  refine ⟨by show 1 ≤ maxLen; decide, Nat.le_refl _, ⟨out, fun _ => alloc_new w _, hosz, fun j hj _ => ?_⟩, fun j hj _ => ?_, fun j j' hj hj' _ _ _ _ _ => ?_, fun j hj _ hp1 _ => ?_⟩
  ·have : j = 0 := by simpa using hj
   subst this
   exact ⟨_, hout, hrow⟩
  ·have : j = 0 := by simpa using hj
   subst this
   obtain ⟨x1, x2, cur, x3, x4, x5⟩ := hent
   exact ⟨x1, x2, cur, fun hp => by rw [alloc_old w _ (Array.getElem?_eq_some_iff.1 (x3 hp)).1]; exact x3 hp, x4, x5⟩
  ·have h1 : j = 0 := by simpa using hj
   have h2 : j' = 0 := by simpa using hj'
   rw [h1, h2]
  ·obtain ⟨_, _, cur, x3, _⟩ := hent
   have := (Array.getElem?_eq_some_iff.1 (x3 hp1)).1
   show (ρ k1).1 ≠ w.heap.size
   omega
 have h2 := h.regroup (w' := w.alloc (.cells out e)) rfl rfl rfl (by simp) (Nat.le_refl _) (fun b hb => alloc_old w _ hb) (ρ' := upd ρ k ⟨w.heap.size, 1, fun _ => ((ρ k1).1, (ρ k1).2)⟩)
  (st' := (k, .mat e1 e [ys] none) :: adel st k1) (fun j => j = k ∨ j = k1)
  (fun j hj => by
   have h1 : j ≠ k := fun e => hj (.inl e)
   have h2 : j ≠ k1 := fun e => hj (.inr e)
   exact ⟨by rw [aget_cons_ne (Ne.symm h1), aget_adel_ne _ h2], fun _ _ => upd_ne ρ _ h1⟩)
  (fun j en hj hen => by
   rcases hj with rfl | rfl
   ·rw [mk] at hen; cases hen
   ·rw [hk] at hen; cases hen; simp)
  (fun j en hj hen => by
   rcases hj with rfl | rfl
   ·rw [aget_cons_same] at hen
    cases hen
    refine ⟨by simp, fun b hb => ?_, by rw [EntOk, upd_same]; exact hmat⟩
    rw [upd_same] at hb
    rcases hb with ⟨hb, _⟩ | ⟨j2, hj2, _, hb1, hb2⟩
    ·exact .inr (by simp only at hb; simp [hb])
    ·exact .inl ⟨k1, _, .inr rfl, hk, hb1, hb2⟩
   ·rw [aget_cons_ne (Ne.symm hne)] at hen
    exact absurd rfl (aget_adel hen).1)
  (fun j j' en1 en2 hj hj' g1 g2 b _ _ => by
   have key : ∀ j en, (j = k ∨ j = k1) → aget ((k, Ent.mat e1 e [ys] none) :: adel st k1) j = some en → j = k := by
    intro j en hj g
    rcases hj with rfl | rfl
    ·rfl
    ·rw [aget_cons_ne (Ne.symm hne)] at g
     exact absurd rfl (aget_adel g).1
   rw [key j _ hj g1, key j' _ hj' g2])
  aw1 aw2
 intro K Q hK
 refine wp_value hr (hK _ _ _ (h2.val o.dst _ (.own k 1) hd (RP.ofOwn (.inl ?_)) (fun j hj => by simp [PV.rgm] at hj)))
 rw [upd_same]
theorem unment_stput {k k' : Nat} {e : Ent} (hu : unment k' σ st = true) (he : e.ment k' = false) : unment k' σ ((k, e) :: adel st k) = true := by
 simp only [unment, Bool.and_eq_true, List.all_eq_true] at hu ⊢
 refine ⟨hu.1, fun x hx => ?_⟩
 rcases List.mem_cons.1 hx with rfl | hx
 ·simp [he]
 ·exact hu.2 x (mem_adel hx)
theorem adel_put {k : Nat} {e : Ent} (st : Store) : adel ((k, e) :: adel st k) k = adel st k := by
 simp only [adel, beq_self, cond_true]
 exact adel_adel st k
theorem StR.glue (h : StR S ρ a w σ st) {dst k k2 : Nat} {e eo1 eo2 eo : TypeId} {xss yss : List (List Int)} (n1 : unment dst σ st = true) (nd : aget st dst = none)
  (hk : aget st k = some (.mat e eo1 xss none)) (hk2 : aget st k2 = some (.mat e eo2 yss none)) (hne : k ≠ k2) {w' : World} (hos : w'.os = w.os) (ht : w'.tape = w.tape) (ho : w'.output = w.output)
  (hs : w.heap.size ≤ w'.heap.size) (hdr : w.drawn ≤ w'.drawn) (hb : ∀ b, b < w.heap.size → w'.heap[b]? = w.heap[b]?) {p : Nm}
  (hp : (p.1 = (ρ k).1 ∧ p.2 = (ρ k).2) ∨ (w.heap.size ≤ p.1 ∧ p.1 < w'.heap.size)) (hA : ∀ i, i < xss.length → p.rows i = (ρ k).rows i) (hB : ∀ i, ¬ i < xss.length → p.rows i = (ρ k2).rows (i - xss.length))
  (hcap : p.2 ≤ maxLen) (hlen : xss.length + yss.length ≤ p.2) {cur : Array Value} (hcur : 0 < p.2 → w'.heap[p.1]? = some (.cells cur eo (0, 0))) (hsz : cur.size = p.2)
  (hc : ∀ i, i < (xss ++ yss).length → ∃ v, cur[i]? = some v ∧ (v = .slice (some ⟨(p.rows i).1, 0, none⟩) ((xss ++ yss).getD i []).length (p.rows i).2 ∨ (v = .slice none 0 0 ∧ ((xss ++ yss).getD i []).length = 0 ∧ (p.rows i).2 = 0))) :
  StR S (upd ρ dst p) a w' σ ((dst, .mat e eo (xss ++ yss) none) :: ((k2, .vw []) :: adel (adel st k) k2)) := by
 have hn : ∀ j : Nat, (none : Option Nat) ≠ some j := fun j => by simp
 have hm1 : MatOk w (ρ k) e eo1 xss none := h.ents k _ hk
 have hm2 : MatOk w (ρ k2) e eo2 yss none := h.ents k2 _ hk2
 have hkd : k ≠ dst := fun e => by rw [e, nd] at hk; cases hk
 have hk2d : k2 ≠ dst := fun e => by rw [e, nd] at hk2; cases hk2
 have hl : (xss ++ yss).length = xss.length + yss.length := List.length_append
 have bA : ∀ i, i < xss.length → 0 < ((ρ k).rows i).2 → blk (.mat e eo1 xss none) (ρ k) ((ρ k).rows i).1 := fun i hi hpos => .inr ⟨i, hi, hn i, rfl, hpos⟩
 have bB : ∀ i, i < yss.length → 0 < ((ρ k2).rows i).2 → blk (.mat e eo2 yss none) (ρ k2) ((ρ k2).rows i).1 := fun i hi hpos => .inr ⟨i, hi, hn i, rfl, hpos⟩
 have cross : ∀ b, blk (.mat e eo1 xss none) (ρ k) b → blk (.mat e eo2 yss none) (ρ k2) b → False := fun b h1 h2 => hne (h.inj k k2 _ _ hk hk2 b h1 h2)
 have hrow : ∀ i, i < (xss ++ yss).length → 0 < (p.rows i).2 → blk (.mat e eo1 xss none) (ρ k) (p.rows i).1 ∨ blk (.mat e eo2 yss none) (ρ k2) (p.rows i).1 := by
  intro i hi hpos
  by_cases hlt : i < xss.length
  ·rw [hA i hlt] at hpos ⊢; exact .inl (bA i hlt hpos)
  ·rw [hB i hlt] at hpos ⊢; exact .inr (bB _ (by omega) hpos)
 have hmat : MatOk w' p e eo (xss ++ yss) none := by
  refine ⟨hcap, by rw [hl]; exact hlen, ⟨cur, hcur, hsz, fun i hi _ => hc i hi⟩, fun i hi _ => ?_, fun i j hi hj _ _ p1 p2 hij => ?_, fun i hi _ p1 p2 he => ?_⟩
  ·rw [getD_app]
   by_cases hlt : i < xss.length
   ·rw [hA i hlt, if_pos hlt]
    obtain ⟨g1, g2, c, g3, g4⟩ := hm1.inn i hlt (hn i)
    exact ⟨g1, g2, c, fun hpos => by rw [hb _ (Array.getElem?_eq_some_iff.1 (g3 hpos)).1]; exact g3 hpos, g4⟩
   ·rw [hB i hlt, if_neg hlt]
    obtain ⟨g1, g2, c, g3, g4⟩ := hm2.inn (i - xss.length) (by omega) (hn _)
    exact ⟨g1, g2, c, fun hpos => by rw [hb _ (Array.getElem?_eq_some_iff.1 (g3 hpos)).1]; exact g3 hpos, g4⟩
  ·by_cases hi1 : i < xss.length <;> by_cases hj1 : j < xss.length
   ·rw [hA i hi1] at p1 hij; rw [hA j hj1] at p2 hij
    exact hm1.apart i j hi1 hj1 (hn i) (hn j) p1 p2 hij
   ·rw [hA i hi1] at p1 hij; rw [hB j hj1] at p2 hij
    exact (cross _ (bA i hi1 p1) (by rw [hij]; exact bB _ (by omega) p2)).elim
   ·rw [hB i hi1] at p1 hij; rw [hA j hj1] at p2 hij
    exact (cross _ (bA j hj1 p2) (by rw [← hij]; exact bB _ (by omega) p1)).elim
   ·rw [hB i hi1] at p1 hij; rw [hB j hj1] at p2 hij
    have := hm2.apart _ _ (by omega) (by omega) (hn _) (hn _) p1 p2 hij
    omega
  ·have hbl := hrow i hi p1
   rcases hp with ⟨q1, q2⟩ | ⟨q1, _⟩
   ·by_cases hi1 : i < xss.length
    ·rw [hA i hi1] at p1 he
     exact hm1.outer i hi1 (hn i) p1 (by rw [← q2]; exact p2) (by rw [← q1]; exact he)
    ·rw [hB i hi1] at p1 he
     exact cross (ρ k).1 (.inl ⟨rfl, by rw [← q2]; exact p2⟩) (by rw [← q1, ← he]; exact bB _ (by omega) p1)
   ·rw [he] at hbl
    rcases hbl with hbl | hbl
    ·have := (h.own k _ hk _ hbl).1; omega
    ·have := (h.own k2 _ hk2 _ hbl).1; omega
 have hdst : upd ρ dst p dst = p := upd_same _ _ _
 obtain ⟨aw1, aw2⟩ := unment_away (S := S) (ρ := ρ) n1 p
 have gk : aget ((dst, Ent.mat e eo (xss ++ yss) none) :: ((k2, .vw []) :: adel (adel st k) k2)) k = none := by
  rw [aget_cons_ne (Ne.symm hkd), aget_cons_ne (Ne.symm hne), aget_adel_ne _ hne, aget_adel_same]
 have gk2 : aget ((dst, Ent.mat e eo (xss ++ yss) none) :: ((k2, .vw []) :: adel (adel st k) k2)) k2 = some (.vw []) := by
  rw [aget_cons_ne (Ne.symm hk2d), aget_cons_same]
 refine h.regroup hos ht ho hs hdr hb (fun j => j = dst ∨ j = k ∨ j = k2) (fun j hj => ?_) (fun j en hj hen => ?_) (fun j en hj hen => ?_) (fun j j' e1 e2 hj hj' g1 g2 b hb1 hb2 => ?_) aw1 aw2
 ·have h1 : j ≠ dst := fun e => hj (.inl e)
  have h2 : j ≠ k := fun e => hj (.inr (.inl e))
  have h3 : j ≠ k2 := fun e => hj (.inr (.inr e))
  exact ⟨by rw [aget_cons_ne (Ne.symm h1), aget_cons_ne (Ne.symm h3), aget_adel_ne _ h3, aget_adel_ne _ h2], fun _ _ => upd_ne ρ _ h1⟩
 ·rcases hj with rfl | rfl | rfl
  ·rw [nd] at hen; cases hen
  ·rw [hk] at hen; cases hen; simp
  ·rw [hk2] at hen; cases hen; simp
 ·rcases hj with rfl | rfl | rfl
  ·rw [aget_cons_same] at hen
   cases hen
   refine ⟨by simp, fun b hbk => ?_, by rw [EntOk, hdst]; exact hmat⟩
   rw [hdst] at hbk
   rcases hbk with ⟨b1, b2⟩ | ⟨i, hi, _, b1, b2⟩
   ·rcases hp with ⟨q1, q2⟩ | ⟨q1, q2⟩
    ·exact .inl ⟨k, _, .inr (.inl rfl), hk, .inl ⟨by rw [b1, q1], by rw [← q2]; exact b2⟩⟩
    ·exact .inr (by rw [b1]; exact ⟨q1, q2⟩)
   ·rcases hrow i hi b2 with h4 | h4
    ·exact .inl ⟨k, _, .inr (.inl rfl), hk, by rw [b1]; exact h4⟩
    ·exact .inl ⟨k2, _, .inr (.inr rfl), hk2, by rw [b1]; exact h4⟩
  ·rw [gk] at hen; cases hen
  ·rw [gk2] at hen
   cases hen
   exact ⟨by simp, fun b hbk => absurd hbk.2 (by simp), fun i hi => absurd hi (by simp)⟩
 ·have key : ∀ j en, (j = dst ∨ j = k ∨ j = k2) → aget ((dst, Ent.mat e eo (xss ++ yss) none) :: ((k2, .vw []) :: adel (adel st k) k2)) j = some en → blk en (upd ρ dst p j) b → j = dst := by
   intro j en hj hen hbk
   rcases hj with rfl | rfl | rfl
   ·rfl
   ·rw [gk] at hen; cases hen
   ·rw [gk2] at hen; cases hen
    exact absurd hbk.2 (by simp)
  rw [key j _ hj g1 hb1, key j' _ hj' g2 hb2]
theorem appendMat_good (h : StR S ρ a w σ st) (hd : ∀ d, o.dst = some d → d < S.n) {t : TypeId} {x y : Operand}
  (ho : o.op = .call { callee := .builtin .append, args := #[x, y], argTypes := #[t, t] }) {dst : Nat} {p : PV} {k2 n2 : Nat} {e2 eo2 : TypeId} {yss : List (List Int)} {vx vy : Value} (hvx : a.eval x = vx) (hvy : a.eval y = vy)
  (hx : RPs S ρ w st vx p) (hy : RPs S ρ w st vy (.own k2 n2)) (hk2 : aget st k2 = some (.mat e2 eo2 yss none)) (hpre : ∀ r ∈ (appendMat S.P t dst (aget st) p k2 n2 e2 eo2 yss).pre, r)
  (hnew : newOk σ st (appendMat S.P t dst (aget st) p k2 n2 e2 eo2 yss).new = true) : Good S a w σ st o (appendMat S.P t dst (aget st) p k2 n2 e2 eo2 yss) := by
 unfold appendMat at hpre hnew ⊢
 cases ht : tyElem S.P t with
 | none => simp only [ht] at hpre; exact (bad_pre hpre).elim
 | some e =>
 simp only [ht] at hpre hnew ⊢
 have hu := tyElem_inv ht
 cases hi : S.P.info? e with
 | none => simp only [hi] at hpre; exact (bad_pre hpre).elim
 | some i =>
 simp only [hi] at hpre hnew ⊢
 have hexec : (execOp a.eval o) = (do pure (.value (← Builtin.append_ #[t, t] o.type #[vx, vy]))) := by
  simp only [execOp, ho, resolve, invoke, builtin, List.map_toArray, List.map_cons, List.map_nil, hvx, hvy]
  rfl
 have hrun : ∀ {v : Value} {w' : World}, (Builtin.append_ #[t, t] o.type #[vx, vy]).run S.P w = .ok v w' → (execOp a.eval o).run S.P w = .ok (.value v) w' := by
  intro v w' h1
  rw [hexec]
  simp only [Sem.run_bind, h1, Result.andThen_ok, Sem.run_pure]
 cases p with
 | own k n =>
  dsimp only at hpre hnew ⊢
  cases hk : aget st k with
  | none => simp only [hk] at hpre; exact (bad_pre hpre).elim
  | some en =>
  cases en with
  | mat e1 eo1 xss hole =>
   cases hole with
   | some _ => simp only [hk] at hpre; exact (bad_pre hpre).elim
   | none =>
   simp only [hk] at hpre hnew ⊢
   obtain ⟨hb, he, hp⟩ := chk_pre hpre
   rw [he] at hnew ⊢
   simp only [Bool.and_eq_true, beq_true, Bool.not_eq_true', beq_false] at hb
   obtain ⟨⟨⟨⟨rfl, rfl⟩, hisz⟩, hzs⟩, hne⟩ := hb
   obtain ⟨z, hz, hzc, hby⟩ := zsize_inv hzs
   have hn1 : n = xss.length := hp _ (by simp)
   have hn2 : n2 = yss.length := hp _ (by simp)
   have hpos2 : 0 < yss.length := hp _ (by simp)
   have hbytes : (xss.length + yss.length) * i.bytes ≤ 140737488355328 := hp _ (by simp)
   subst hn1 hn2
   obtain ⟨m1, mk⟩ := newOk_one hnew
   have hnn : ∀ j : Nat, (none : Option Nat) ≠ some j := fun j => by simp
   have hm1 : MatOk w (ρ k) e2 eo1 xss none := h.ents k _ hk
   have hm2 : MatOk w (ρ k2) e2 eo2 yss none := h.ents k2 _ hk2
   obtain ⟨cx, x1, x2, x3⟩ := hm1.out
   obtain ⟨cy, y1, y2, y3⟩ := hm2.out
   have hxl := hm1.len
   have hyl := hm2.len
   have hkd : k ≠ dst := fun e => by rw [e, mk] at hk; cases hk
   have hle63 : xss.length + yss.length ≤ 140737488355328 := Nat.le_trans (Nat.le_mul_of_pos_right _ (by omega)) hbytes
   have f1 : vy = .slice (some ⟨(ρ k2).1, 0, none⟩) yss.length (ρ k2).2 := by
    rcases hy.own_inv with h1 | ⟨_, h1, _⟩
    ·exact h1
    ·omega
   have hform := hx.own_inv
   let news : List Value := cy.toList.take yss.length
   let olds : List Value := cx.toList.take xss.length
   have hnl : news.length = yss.length * i.size := by simp [news, hisz]; omega
   have hol : olds.length = xss.length * i.size := by simp [olds, hisz]; omega
   have hnl1 : news.length = yss.length := by simp [news]; omega
   have hol1 : olds.length = xss.length := by simp [olds]; omega
   have newsAt : ∀ j, j < yss.length → news[j]? = cy[j]? := fun j hj => by simp [news, List.getElem?_take, hj]
   have oldsAt : ∀ j, j < xss.length → olds[j]? = cx[j]? := fun j hj => by simp [olds, List.getElem?_take, hj]
   have f4 : ∀ (j : Nat) (u : Value), news[j]? = some u → w.cell? ((⟨(ρ k2).1, 0, none⟩ : Addr).add j) = some u := by
    intro j u hu
    have hj : j < yss.length := by have := (List.getElem?_eq_some_iff.1 hu).1; omega
    rw [newsAt j hj] at hu
    rw [add_lit0]; exact cell_in h hk2 (y1 (by omega)) hu
   have g4 : ∀ (j : Nat) (u : Value), olds[j]? = some u → w.cell? ((⟨(ρ k).1, 0, none⟩ : Addr).add j) = some u := by
    intro j u hu
    have hj : j < xss.length := by have := (List.getElem?_eq_some_iff.1 hu).1; omega
    rw [oldsAt j hj] at hu
    rw [add_lit0]; exact cell_in h hk (x1 (by omega)) hu
   have hone : ∀ u ∈ news, u.oneCell' = true := by
    intro u hu
    obtain ⟨j, hj⟩ := List.mem_iff_getElem?.1 hu
    have hjl : j < yss.length := by have := (List.getElem?_eq_some_iff.1 hj).1; omega
    rw [newsAt j hjl] at hj
    obtain ⟨v, hv, hdv⟩ := y3 j hjl (hnn j)
    rw [hv] at hj
    cases hj
    rcases hdv with rfl | ⟨rfl, _⟩ <;> rfl
   let q : Nat → Nat × Nat := fun j => if j < xss.length then (ρ k).rows j else (ρ k2).rows (j - xss.length)
   have qA : ∀ j, j < xss.length → q j = (ρ k).rows j := fun j hj => if_pos hj
   have qB : ∀ j, ¬ j < xss.length → q j = (ρ k2).rows (j - xss.length) := fun j hj => if_neg hj
   have hcell : ∀ (extra : List Value) (j : Nat), j < (xss ++ yss).length → ∃ v, (olds ++ news ++ extra)[j]? = some v ∧
     (v = .slice (some ⟨(q j).1, 0, none⟩) ((xss ++ yss).getD j []).length (q j).2 ∨ (v = .slice none 0 0 ∧ ((xss ++ yss).getD j []).length = 0 ∧ (q j).2 = 0)) := by
    intro extra j hj
    rw [List.length_append] at hj
    rw [getD_app]
    by_cases hlt : j < xss.length
    ·rw [qA j hlt, if_pos hlt]
     obtain ⟨v, hv, hdv⟩ := x3 j hlt (hnn j)
     exact ⟨v, by rw [List.append_assoc, List.getElem?_append_left (by omega), oldsAt j hlt]; exact hv, hdv⟩
    ·rw [qB j hlt, if_neg hlt]
     obtain ⟨v, hv, hdv⟩ := y3 (j - xss.length) (by omega) (hnn _)
     exact ⟨v, by rw [List.append_assoc, List.getElem?_append_right (by omega), hol1, List.getElem?_append_left (by omega), newsAt _ (by omega)]; exact hv, hdv⟩
   by_cases hroom : xss.length + yss.length ≤ (ρ k).2
   ·
    have hpos : 0 < (ρ k).2 := by omega
    have hx' : vx = .slice (some ⟨(ρ k).1, 0, none⟩) xss.length (ρ k).2 := by
     rcases hform with h1 | ⟨_, _, h1⟩
     ·exact h1
     ·omega
    have hr1 := run_append_room (P := S.P) w t o.type eo1 i hu hi (ρ k).1 xss.length (ρ k).2 cx (x1 hpos) ⟨(ρ k2).1, 0, none⟩ yss.length (ρ k2).2 news hnl f4 hone hroom (by rw [hisz, hnl1, x2]; omega)
    rw [← hx', ← f1, hisz, Nat.mul_one] at hr1
    have hother : ∀ b, b < w.heap.size → ¬ blk (.mat e2 eo1 xss none) (ρ k) b → (w.setRow (ρ k).1 (cx.toList.take xss.length ++ news ++ cx.toList.drop (xss.length + news.length)).toArray).heap[b]? = w.heap[b]? :=
     fun b _ hnb => setRow_other w _ b _ fun e => hnb (.inl ⟨e, hpos⟩)
    have hsz' : (cx.toList.take xss.length ++ news ++ cx.toList.drop (xss.length + news.length)).toArray.size = (ρ k).2 := by
     simp only [List.size_toArray, List.length_append, List.length_take, List.length_drop, Array.length_toList]
     omega
    have hself : (w.setRow (ρ k).1 (cx.toList.take xss.length ++ news ++ cx.toList.drop (xss.length + news.length)).toArray).heap[(ρ k).1]? = some (.cells (cx.toList.take xss.length ++ news ++ cx.toList.drop (xss.length + news.length)).toArray eo1 (0, 0)) :=
     setRow_heap w _ cx _ _ _ (x1 hpos)
    have hc' := hcell (cx.toList.drop (xss.length + news.length))
    have hmat : MatOk (w.setRow (ρ k).1 (cx.toList.take xss.length ++ news ++ cx.toList.drop (xss.length + news.length)).toArray) (ρ k) e2 eo1 xss none := by
     refine ⟨hm1.cap, hm1.len, ⟨_, fun _ => hself, hsz', fun j hj hh => ?_⟩, fun j hj hh => ?_, hm1.apart, hm1.outer⟩
     ·obtain ⟨v, hv, hdv⟩ := hc' j (by rw [List.length_append]; omega)
      rw [qA j hj, getD_app, if_pos hj] at hdv
      exact ⟨v, by simpa using hv, hdv⟩
     ·obtain ⟨g1, g2, c, g3, g5⟩ := hm1.inn j hj hh
      exact ⟨g1, g2, c, fun hp2 => by rw [setRow_other w _ _ _ (hm1.outer j hj hh hp2 hpos)]; exact g3 hp2, g5⟩
    have h2 := h.write k (.mat e2 eo1 xss none) (.mat e2 eo1 xss none) hk (w' := w.setRow (ρ k).1 (cx.toList.take xss.length ++ news ++ cx.toList.drop (xss.length + news.length)).toArray) rfl rfl rfl (by simp) hother
     (fun _ => Iff.rfl) (by simp) (fun t cs he => by cases he) hmat
    have hk' : aget ((k, Ent.mat e2 eo1 xss none) :: adel st k) k = some (.mat e2 eo1 xss none) := aget_cons_same _ _ _
    have hk2' : aget ((k, Ent.mat e2 eo1 xss none) :: adel st k) k2 = some (.mat e2 eo2 yss none) := by rw [aget_cons_ne hne, aget_adel_ne _ (Ne.symm hne)]; exact hk2
    have hd' : aget ((k, Ent.mat e2 eo1 xss none) :: adel st k) dst = none := by rw [aget_cons_ne hkd, aget_adel_ne _ (Ne.symm hkd)]; exact mk
    have h3 := h2.glue (eo := eo1) (unment_stput m1 rfl) hd' hk' hk2' hne (w' := w.setRow (ρ k).1 (cx.toList.take xss.length ++ news ++ cx.toList.drop (xss.length + news.length)).toArray) rfl rfl rfl (Nat.le_refl _) (Nat.le_refl _) (fun _ _ => rfl)
     (p := ⟨(ρ k).1, (ρ k).2, q⟩) (.inl ⟨rfl, rfl⟩) qA qB hm1.cap hroom (fun _ => hself) hsz' (fun j hj => by
      obtain ⟨v, hv, hdv⟩ := hc' j hj
      exact ⟨v, by simpa using hv, hdv⟩)
    rw [adel_put] at h3
    intro K Q hK
    refine wp_value (hrun hr1) (hK _ _ _ (h3.val o.dst _ (.own dst (xss.length + yss.length)) hd (RP.ofOwn (.inl ?_)) (fun j hj => by simp [PV.rgm] at hj)))
    rw [upd_same]
   ·
    have hlt : (ρ k).2 < xss.length + yss.length := by omega
    have hr1 : (Builtin.append_ #[t, t] o.type #[vx, vy]).run S.P w = .ok (.slice (some ⟨w.heap.size, 0, none⟩) (xss.length + yss.length) (grownCap w (xss.length + yss.length) (ρ k).2 eo1))
      (w.drew.alloc (.cells (olds.toArray ++ news.toArray ++ Builtin.zeroCells z.cells (grownCap w (xss.length + yss.length) (ρ k).2 eo1 - (xss.length + yss.length))) eo1)) := by
     rw [f1]
     rcases hform with h1 | ⟨h1, hm0, hc0⟩
     ·rw [h1]; exact run_append_grow (P := S.P) w t o.type eo1 i z hu hi hz ⟨(ρ k).1, 0, none⟩ xss.length (ρ k).2 olds hol g4 _ yss.length (ρ k2).2 news hnl f4 hlt (by omega) (growslice_fits hlt hbytes)
     ·rw [h1]
      have hr := run_append_nil (P := S.P) w t o.type eo1 i z hu hi hz _ yss.length (ρ k2).2 news hnl f4 hpos2 (by omega) (by rw [hm0, Nat.zero_add] at hbytes; omega)
      have ho0 : olds = [] := List.eq_nil_of_length_eq_zero (by omega)
      rw [hr, hm0, hc0, ho0]
      simp
    have hge := grownCap_ge w (xss.length + yss.length) (ρ k).2 eo1
    have hmax : grownCap w (xss.length + yss.length) (ρ k).2 eo1 ≤ maxLen := grownCap_le_maxLen w _ _ _ (by unfold maxLen; omega)
    have h3 := h.glue (eo := eo1) m1 mk hk hk2 hne (w' := w.drew.alloc (.cells (olds.toArray ++ news.toArray ++ Builtin.zeroCells z.cells (grownCap w (xss.length + yss.length) (ρ k).2 eo1 - (xss.length + yss.length))) eo1)) rfl rfl rfl
     (by simp) (by simp) (fun b hb => alloc_old w.drew _ hb)
     (p := ⟨w.heap.size, grownCap w (xss.length + yss.length) (ρ k).2 eo1, q⟩) (.inr ⟨Nat.le_refl _, by simp⟩) qA qB hmax hge (fun _ => alloc_new w.drew _) (by
      simp only [Array.size_append, List.size_toArray, size_zeroCells, hzc, hol1, hnl1, hisz]
      omega) (fun j hj => by
      obtain ⟨v, hv, hdv⟩ := hcell (Builtin.zeroCells z.cells (grownCap w (xss.length + yss.length) (ρ k).2 eo1 - (xss.length + yss.length))).toList j hj
      refine ⟨v, ?_, hdv⟩
      rw [← hv, ← Array.getElem?_toList]
      simp)
    intro K Q hK
    refine wp_value (hrun hr1) (hK _ _ _ (h3.val o.dst _ (.own dst (xss.length + yss.length)) hd (RP.ofOwn (.inl ?_)) (fun j hj => by simp [PV.rgm] at hj)))
    rw [upd_same]
  | _ => simp only [hk] at hpre; exact (bad_pre hpre).elim
 | _ => exact (bad_pre hpre).elim
theorem matOf_inv {es : Nat → Option Ent} {x : PV} {k2 n2 : Nat} {e2 eo2 : TypeId} {yss : List (List Int)} (h : matOf es x = some (k2, n2, (e2, eo2, yss))) : x = .own k2 n2 ∧ es k2 = some (.mat e2 eo2 yss none) := by
 unfold matOf at h
 split at h
 ·split at h
  ·rename_i hk
   simp only [Option.some.injEq, Prod.mk.injEq] at h
   obtain ⟨rfl, rfl, rfl, rfl, rfl⟩ := h
   exact ⟨rfl, hk⟩
  ·cases h
 ·cases h
theorem append_good (h : StR S ρ a w σ st) (hd : ∀ d, o.dst = some d → d < S.n) {t : TypeId} {x y : Operand}
  (ho : o.op = .call { callee := .builtin .append, args := #[x, y], argTypes := #[t, t] }) {k : Nat} {p q : PV} {vx vy : Value} (hvx : a.eval x = vx) (hvy : a.eval y = vy)
  (hx : RPs S ρ w st vx p) (hy : RPs S ρ w st vy q) (hpre : ∀ r ∈ (appendRun S.P t k (aget st) p q).pre, r)
  (hnew : newOk σ st (appendRun S.P t k (aget st) p q).new = true) : Good S a w σ st o (appendRun S.P t k (aget st) p q) := by
 unfold appendRun at hpre hnew ⊢
 cases hm : matOf (aget st) q with
 | none => simp only [hm] at hpre hnew ⊢; exact appendArr_good h hd ho hvx hvy hx hy hpre hnew
 | some r =>
  obtain ⟨k2, n2, e2, eo2, yss⟩ := r
  simp only [hm] at hpre hnew ⊢
  obtain ⟨rfl, hk2⟩ := matOf_inv hm
  exact appendMat_good h hd ho hvx hvy hx hy hk2 hpre hnew
end Go.Proofs.Ytomnmacmlhkceaa
