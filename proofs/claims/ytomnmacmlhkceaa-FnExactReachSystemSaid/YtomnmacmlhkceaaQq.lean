/- The pure layer, part Q: what a body asks, as a proposition on plain data. No function of the program is named here. -/
import Derived.Test.YtomnmacmlhkceaaQm4
import Derived.LoopN
set_option linter.unusedVariables false
set_option linter.unusedSimpArgs false
namespace Go.Proofs.Ytomnmacmlhkceaa
open Go
structure Cut : Type 1 where
 γ : Type
 all : (γ → Prop) → Prop
 allOk : ∀ p, all p → ∀ g, p g
 ex : (γ → Prop) → Prop
 exOk : ∀ p, ex p → ∃ g, p g
 J : γ → Prop
 σ : γ → Env
 st : γ → Store
def cut1 {α : Type} (J : α → Prop) (σ : α → Env) (st : α → Store) : Cut :=
 { γ := α, all := fun p => ∀ x, p x, allOk := fun _ h => h, ex := fun p => ∃ x, p x, exOk := fun _ h => h, J := J, σ := σ, st := st }
def cut2 {α β : Type} (J : α → β → Prop) (σ : α → β → Env) (st : α → β → Store) : Cut :=
 { γ := α × β, all := fun p => ∀ x y, p (x, y), allOk := fun _ h g => h g.1 g.2, ex := fun p => ∃ x y, p (x, y), exOk := fun _ ⟨x, y, h⟩ => ⟨(x, y), h⟩,
   J := fun g => J g.1 g.2, σ := fun g => σ g.1 g.2, st := fun g => st g.1 g.2 }
def cut4 {α β δ ε : Type} (J : α → β → δ → ε → Prop) (σ : α → β → δ → ε → Env) (st : α → β → δ → ε → Store) : Cut :=
 { γ := α × β × δ × ε, all := fun p => ∀ x y z u, p (x, y, z, u), allOk := fun _ h g => h g.1 g.2.1 g.2.2.1 g.2.2.2, ex := fun p => ∃ x y z u, p (x, y, z, u), exOk := fun _ ⟨x, y, z, u, h⟩ => ⟨(x, y, z, u), h⟩,
   J := fun g => J g.1 g.2.1 g.2.2.1 g.2.2.2, σ := fun g => σ g.1 g.2.1 g.2.2.1 g.2.2.2, st := fun g => st g.1 g.2.1 g.2.2.1 g.2.2.2 }
inductive XAnn : Type 1 where
 | ms (fl : List (Nat × Orc)) (l : List (Nat × MO))
 | ex (fl : List (Nat × Orc)) (i : Nat) (X : Ex) (next : X.γ → XAnn)
inductive Ann : Type 1 where
 | none
 | reg (fl : List (Nat × Orc))
 | two (a b : Ann)
 | cut (a : Ann) (C : Cut) (b : C.γ → Ann)
 | loop (C : Cut) (μ : C.γ → Nat) (b : C.γ → Ann)
 | mark (fl : List (Nat × Orc)) (ms : List (Nat × MO))
 | unr (a b : Ann)
 | goT (a : Ann)
 | goF (a : Ann)
 | exr (E : XAnn)
def Ann.chain : Ann → List Ann
 | .unr a b => a :: b.chain
 | _ => []
def Ann.asMark : Ann → Option (List (Nat × Orc) × List (Nat × MO))
 | .mark fl ms => Option.some (fl, ms)
 | _ => Option.none
def Ann.asEx : Ann → Option XAnn
 | .exr E => Option.some E
 | _ => Option.none
def Ann.fl : Ann → List (Nat × Orc)
 | .reg fl => fl
 | _ => []
def Ann.l : Ann → Ann
 | .two a _ => a
 | _ => .none
def Ann.r : Ann → Ann
 | .two _ b => b
 | _ => .none
def andP : List Prop → Prop → Prop
 | [], q => q
 | p :: r, q => p ∧ andP r q
theorem andP_ok : ∀ {l : List Prop} {q : Prop}, andP l q → (∀ p ∈ l, p) ∧ q
 | [], _, h => ⟨by simp, h⟩
 | p :: r, q, h => by
  obtain ⟨h1, h2⟩ := h
  obtain ⟨h3, h4⟩ := andP_ok h2
  refine ⟨fun x hx => ?_, h4⟩
  rcases List.mem_cons.1 hx with rfl | hx
  ·exact h1
  ·exact h3 x hx
abbrev Post := Exit → Env → Store → Prop
def Post.seq (K : Post) (next : Env → Store → Prop) : Post := fun e σ st =>
 match e with
 | .normal => next σ st
 | e => K e σ st
def Post.block (K : Post) (id : Nat) : Post := fun e σ st =>
 match e with
 | .exit id' => match Nat.beq id' id with
  | true => K .normal σ st
  | false => K (.exit id') σ st
 | e => K e σ st
def Cut.start (T : Cut) (σ : Env) (st : Store) : Prop := T.ex fun g => allP (T.J g :: weakPs σ st (T.σ g) (T.st g))
def Cut.again (T : Cut) (μ : T.γ → Nat) (g : T.γ) (σ : Env) (st : Store) : Prop := T.ex fun g' => T.J g' ∧ allP ((μ g' < μ g) :: weakPs σ st (T.σ g') (T.st g'))
def asBoolP (σ : Env) (c : Operand) : Option Bool :=
 match evP σ c with
 | .d _ (.bool b) => some b
 | _ => none
def vcX (P : Program) (C : FuncId → List D → Orc) (all : Array Oper) : XAnn → Nat → Env → Store → Post → Prop
 | .ms fl l, fr, σ, st, K => andP (runMs P all (orcOf C fl) fr l σ st).1 (K .normal (runMs P all (orcOf C fl) fr l σ st).2.1 (runMs P all (orcOf C fl) fr l σ st).2.2)
 | .ex fl i X next, fr, σ, st, K =>
  match all.toList[i]?, Nat.ble fr i with
  | some o, true => andP (runOps P all (orcOf C fl) fr ((all.toList.take i).drop fr) σ st).1
    (exStep P X o (runOps P all (orcOf C fl) fr ((all.toList.take i).drop fr) σ st).2.1 (runOps P all (orcOf C fl) fr ((all.toList.take i).drop fr) σ st).2.2 fun g σ' st' => vcX P C all (next g) (i + 1) σ' st' K)
  | _, _ => False
def vc (P : Program) (C : FuncId → List D → Orc) : Code → Ann → Env → Store → Post → Prop
 | .skip, _, σ, st, K => K .normal σ st
 | .region _ ops draw, A, σ, st, K =>
  match draw with
  | true => andP ((drawB P (orcOf C A.fl) ops.toList σ st = true) :: (runOps P ops (orcOf C A.fl) 0 ops.toList σ st).1) (K .normal (runOps P ops (orcOf C A.fl) 0 ops.toList σ st).2.1 (runOps P ops (orcOf C A.fl) 0 ops.toList σ st).2.2)
  | false =>
   match A.asMark with
   | some (fl, ms) => andP (runMs P ops (orcOf C fl) 0 ms σ st).1 (K .normal (runMs P ops (orcOf C fl) 0 ms σ st).2.1 (runMs P ops (orcOf C fl) 0 ms σ st).2.2)
   | none =>
    match A.asEx with
    | some E => vcX P C ops E 0 σ st K
    | none => andP (runOps P ops (orcOf C A.fl) 0 ops.toList σ st).1 (K .normal (runOps P ops (orcOf C A.fl) 0 ops.toList σ st).2.1 (runOps P ops (orcOf C A.fl) 0 ops.toList σ st).2.2)
 | .seq a b, A, σ, st, K =>
  match A with
  | .cut A1 T A2 => vc P C a A1 σ st (K.seq T.start) ∧ T.all fun g => T.J g → vc P C b (A2 g) (T.σ g) (T.st g) K
  | A => vc P C a A.l σ st (K.seq fun σ st => vc P C b A.r σ st K)
 | .cond c a b, A, σ, st, K =>
  match asBoolP σ c with
  | some x =>
   match A with
   | .goT A1 => x = true ∧ vc P C a A1 σ st K
   | .goF A1 => x = false ∧ vc P C b A1 σ st K
   | A => (x = true → vc P C a A.l σ st K) ∧ (x = false → vc P C b A.r σ st K)
  | none => False
 | .block id c, A, σ, st, K => vc P C c A σ st (K.block id)
 | .loop c, A, σ, st, K =>
  match A with
  | .loop T μ B => T.start σ st ∧ T.all fun g => T.J g → vc P C c (B g) (T.σ g) (T.st g) (K.seq (T.again μ g))
  | .unr A1 A2 => (Ann.unr A1 A2).chain.foldr (fun A next σ st => vc P C c A σ st (K.seq next)) (fun _ _ => False) σ st
  | _ => False
 | .exit id, _, σ, st, K => K (.exit id) σ st
 | .ret, _, σ, st, K => K .ret σ st
 | _, _, _, _, _ => False
def codeB (n : Nat) : Code → Bool
 | .region _ ops _ => dstB n ops.toList
 | .seq a b => codeB n a && codeB n b
 | .cond _ a b => codeB n a && codeB n b
 | .block _ c => codeB n c
 | .loop c => codeB n c
 | _ => true
def Leads (S : Setting) (K : Post) (Q : Exit → Act → World → Prop) : Prop :=
 ∀ e ρ a w σ st, StR S ρ a w σ st → K e σ st → Q e a w
theorem Leads.seq {S : Setting} {K : Post} {Q : Exit → Act → World → Prop} {next : Env → Store → Prop} {nx : Act → World → Prop} (h : Leads S K Q)
  (hn : ∀ ρ a w σ st, StR S ρ a w σ st → next σ st → nx a w) : Leads S (K.seq next) (Exit.then nx Q) := by
 intro e ρ a w σ st hst hk
 cases e with
 | normal => exact hn ρ a w σ st hst hk
 | _ => exact h _ ρ a w σ st hst hk
theorem Leads.block {S : Setting} {K : Post} {Q : Exit → Act → World → Prop} (h : Leads S K Q) (id : Nat) : Leads S (K.block id) (Exit.inBlock id Q) := by
 intro e ρ a w σ st hst hk
 cases e with
 | exit id' =>
  simp only [Post.block] at hk
  simp only [Exit.inBlock]
  split at hk
  ·rename_i hb
   rw [if_pos (beq_true.1 hb)]
   exact h _ ρ a w σ st hst hk
  ·rename_i hb
   rw [if_neg (beq_false.1 hb)]
   exact h _ ρ a w σ st hst hk
 | _ => exact h _ ρ a w σ st hst hk
theorem Cut.start_ok {S : Setting} (hmay : ∀ b, S.may b → ¬ S.F b) {T : Cut} {ρ : Nat → Nm} {a : Act} {w : World} {σ : Env} {st : Store} (h : StR S ρ a w σ st) (hs : T.start σ st) :
  ∃ g ρ', T.J g ∧ StR S ρ' a w (T.σ g) (T.st g) := by
 obtain ⟨g, hg⟩ := T.exOk _ hs
 obtain ⟨ρ', h2⟩ := weak_ok h hmay fun q hq => allP_mem hg q (List.mem_cons_of_mem _ hq)
 exact ⟨g, ρ', allP_mem hg _ List.mem_cons_self, h2⟩
theorem vcX_ok {S : Setting} (hmay : ∀ b, S.may b → ¬ S.F b) {C : FuncId → List D → Orc} {all : Array Oper} (hdst : ∀ (i : Nat) (o : Oper), all[i]? = some o → ∀ d, o.dst = some d → d < S.n) {K : Post} {Q : Exit → Act → World → Prop} (hl : Leads S K Q) :
  ∀ (E : XAnn) (fr : Nat) (ρ : Nat → Nm) (a : Act) (w : World) (σ : Env) (st : Store), StR S ρ a w σ st → vcX S.P C all E fr σ st K → wpOps S.P all Q ((List.range (all.toList.drop fr).length).map (fr + ·)) a w
 | .ms fl l, fr, ρ, a, w, σ, st, h, hv => by
  obtain ⟨h1, h2⟩ := andP_ok hv
  exact runMs_ok hdst l fr ρ a w σ st h h1 fun ρ' a' w' hst => hl _ ρ' a' w' _ _ hst h2
 | .ex fl i X next, fr, ρ, a, w, σ, st, h, hv => by
  simp only [vcX] at hv
  cases ho : all.toList[i]? with
  | none => rw [ho] at hv; exact hv.elim
  | some o =>
   cases hb : Nat.ble fr i with
   | false => rw [ho, hb] at hv; exact hv.elim
   | true =>
    rw [ho, hb] at hv
    obtain ⟨hp, hx⟩ := andP_ok hv
    have hle := Nat.le_of_ble_eq_true hb
    have hi : i < all.toList.length := (List.getElem?_eq_some_iff.1 ho).1
    have hoi : all[i]? = some o := by simpa using ho
    have ht : ((all.toList.take i).drop fr).length = i - fr := by rw [List.length_drop, List.length_take]; omega
    have el : (List.range (all.toList.drop fr).length).map (fr + ·) = (List.range ((all.toList.take i).drop fr).length).map (fr + ·) ++ (i :: (List.range (all.toList.drop (i + 1)).length).map (i + 1 + ·)) := by
     have hsz : (all.toList.drop fr).length = (i - fr) + (1 + (all.toList.drop (i + 1)).length) := by simp at hi ⊢; omega
     rw [ht, hsz, List.range_add, List.map_append]
     congr 1
     rw [Nat.add_comm 1, List.range_succ_eq_map]
     simp only [List.map_cons, Nat.add_zero, List.map_map, List.cons.injEq]
     refine ⟨by omega, ?_⟩
     apply List.map_congr_left
     intro j _
     simp only [Function.comp]
     omega
    rw [el]
    refine wpOps_pre hdst _ ((all.toList.take i).drop fr) fr ρ a w σ st (fun j hj => ?_) h hp fun ρ1 a1 w1 h1 => ?_
    ·have hj : fr + j < i := by rw [ht] at hj; omega
     simp [List.getElem?_take, hj]
    ·have next' := exStep_good (a := a1) (K := wpOps S.P all Q ((List.range (all.toList.drop (i + 1)).length).map (i + 1 + ·))) (Q := Q) h1 (hdst i o hoi) hx (fun g ρ' a' w' σ' st' hst hn => vcX_ok hmay hdst hl (next g) (i + 1) ρ' a' w' σ' st' hst hn) hmay
     simp only [wpOps, hoi]
     rw [exStep_wanted (all := all) hx a1]
     simp only [if_true]
     exact .inl next'
theorem vc_ok {S : Setting} (hm : S.P.follows .mixedOrders = true) (hmay : ∀ b, S.may b → ¬ S.F b) {C : FuncId → List D → Orc} : ∀ (c : Code) (A : Ann) (σ : Env) (st : Store) (K : Post) (ρ : Nat → Nm) (a : Act) (w : World) (Q : Exit → Act → World → Prop),
  codeB S.n c = true → StR S ρ a w σ st → vc S.P C c A σ st K → Leads S K Q → c.wp S.P Q a w := by
 intro c
 induction c with
 | skip => intro A σ st K ρ a w Q _ h hv hl; exact wp_skip (hl _ ρ a w σ st h hv)
 | region id ops draw =>
  intro A σ st K ρ a w Q hb h hv hl
  cases draw with
  | true =>
   obtain ⟨h1, h2⟩ := andP_ok hv
   have e : ops.toList.toArray = ops := by simp
   have := region_draw (id := id) (ops := ops.toList) (oc := orcOf C A.fl) (Q := Q) hm h hb (fun i o σ st σ' st' ha => orcOf_alike ha) (h1 _ List.mem_cons_self) (by rw [e]; exact fun q hq => h1 q (List.mem_cons_of_mem _ hq))
    fun ρ' a' w' hst => hl _ ρ' a' w' _ _ (by rw [e] at hst; exact hst) h2
   rw [e] at this
   exact this
  | false =>
   simp only [vc] at hv
   cases hA : A.asMark with
   | some fm =>
    obtain ⟨fl, ms⟩ := fm
    rw [hA] at hv
    obtain ⟨h1, h2⟩ := andP_ok hv
    exact region_marks h hb h1 fun ρ' a' w' hst => hl _ ρ' a' w' _ _ hst h2
   | none =>
   rw [hA] at hv
   cases hE : A.asEx with
   | some E =>
    rw [hE] at hv
    refine wp_region ?_
    have hdst : ∀ (i : Nat) (o : Oper), ops[i]? = some o → ∀ d, o.dst = some d → d < S.n := fun i o ho d hd => dstB_ok hb i o (by simpa using ho) d hd
    have := vcX_ok hmay hdst hl E 0 ρ a w σ st h hv
    have e : (List.range (ops.toList.drop 0).length).map (0 + ·) = List.range ops.size := by simp
    rw [e] at this
    exact this
   | none =>
   rw [hE] at hv
   obtain ⟨h1, h2⟩ := andP_ok hv
   have e : ops.toList.toArray = ops := by simp
   have := region_text (id := id) (ops := ops.toList) (oc := orcOf C A.fl) (Q := Q) h hb (by rw [e]; exact h1) fun ρ' a' w' hst => hl _ ρ' a' w' _ _ (by rw [e] at hst; exact hst) h2
   rw [e] at this
   exact this
 | seq x y ihx ihy =>
  intro A σ st K ρ a w Q hb h hv hl
  simp only [codeB, Bool.and_eq_true] at hb
  refine wp_seq ?_
  have plain : vc S.P C x A.l σ st (K.seq fun σ st => vc S.P C y A.r σ st K) → x.wp S.P (Exit.then (y.wp S.P Q) Q) a w := fun hv =>
   ihx A.l σ st _ ρ a w _ hb.1 h hv (hl.seq fun ρ' a' w' σ' st' hst hn => ihy A.r σ' st' K ρ' a' w' Q hb.2 hst hn hl)
  cases A with
  | cut A1 T A2 =>
   obtain ⟨h1, h2⟩ := hv
   refine ihx A1 σ st _ ρ a w _ hb.1 h h1 (hl.seq fun ρ' a' w' σ' st' hst hn => ?_)
   obtain ⟨g, ρ2, hJ, hst2⟩ := T.start_ok hmay hst hn
   exact ihy (A2 g) _ _ K ρ2 a' w' Q hb.2 hst2 (T.allOk _ h2 g hJ) hl
  | none => exact plain hv
  | reg fl => exact plain hv
  | two a b => exact plain hv
  | loop T μ B => exact plain hv
  | mark fl ms => exact plain hv
  | unr a b => exact plain hv
  | goT a => exact plain hv
  | goF a => exact plain hv
  | exr E => exact plain hv
 | cond c x y ihx ihy =>
  intro A σ st K ρ a w Q hb h hv hl
  simp only [codeB, Bool.and_eq_true] at hb
  simp only [vc] at hv
  cases hc : asBoolP σ c with
  | none => rw [hc] at hv; exact hv.elim
  | some b =>
   rw [hc] at hv
   have hev : a.eval c = .bool b := by
    have h1 := evP_ok h c
    unfold asBoolP at hc
    split at hc
    ·rename_i he
     cases hc
     rw [he] at h1
     exact RPs.bool_inv h1
    ·cases hc
   refine wp_cond hev ?_
   have plain : ((b = true → vc S.P C x A.l σ st K) ∧ (b = false → vc S.P C y A.r σ st K)) → (bif b then x.wp S.P Q a w else y.wp S.P Q a w) := fun hv => by
    cases b with
    | true => exact ihx A.l σ st K ρ a w Q hb.1 h (hv.1 rfl) hl
    | false => exact ihy A.r σ st K ρ a w Q hb.2 h (hv.2 rfl) hl
   have fin : (bif b then x.wp S.P Q a w else y.wp S.P Q a w) := by
    cases A with
    | goT A1 => obtain ⟨h1, h2⟩ := hv; subst h1; exact ihx A1 σ st K ρ a w Q hb.1 h h2 hl
    | goF A1 => obtain ⟨h1, h2⟩ := hv; subst h1; exact ihy A1 σ st K ρ a w Q hb.2 h h2 hl
    | none => exact plain hv
    | reg fl => exact plain hv
    | two a b => exact plain hv
    | cut A1 T A2 => exact plain hv
    | loop T μ B => exact plain hv
    | mark fl ms => exact plain hv
    | unr a b => exact plain hv
    | exr E => exact plain hv
   cases b with
   | true => exact fin
   | false => exact fin
 | block id c ih =>
  intro A σ st K ρ a w Q hb h hv hl
  exact wp_block (ih A σ st _ ρ a w _ hb h hv (hl.block id))
 | loop c ih =>
  intro A σ st K ρ a w Q hb h hv hl
  cases A with
  | loop T μ B =>
   obtain ⟨h1, h2⟩ := hv
   obtain ⟨g0, ρ0, hJ0, hst0⟩ := T.start_ok hmay h h1
   have key : ∀ n g ρ a w, μ g < n → T.J g → StR S ρ a w (T.σ g) (T.st g) → Code.rounds S.P c Q n a w := by
    intro n
    induction n with
    | zero => intro g ρ a w hlt; omega
    | succ n ihn =>
     intro g ρ a w hlt hJ hst
     rw [rounds_succ]
     refine ih (B g) _ _ _ ρ a w _ hb hst (T.allOk _ h2 g hJ) (hl.seq fun ρ' a' w' σ' st' hst' hn => ?_)
     obtain ⟨g', hJ', hg'⟩ := T.exOk _ hn
     obtain ⟨ρ2, hst2⟩ := weak_ok hst' hmay fun q hq => allP_mem hg' q (List.mem_cons_of_mem _ hq)
     have hμ : μ g' < μ g := allP_mem hg' _ List.mem_cons_self
     exact ihn g' ρ2 a' w' (by omega) hJ' hst2
   exact wp_loop_rounds _ (key (μ g0 + 1) g0 ρ0 a w (Nat.lt_succ_self _) hJ0 hst0)
  | unr A1 A2 =>
   have key : ∀ (As : List Ann) (σ : Env) (st : Store) ρ a w, StR S ρ a w σ st → As.foldr (fun A next σ st => vc S.P C c A σ st (K.seq next)) (fun _ _ => False) σ st → Code.rounds S.P c Q As.length a w := by
    intro As
    induction As with
    | nil => intro σ st ρ a w _ hf; exact hf.elim
    | cons A r ihr =>
     intro σ st ρ a w hst hf
     rw [List.length_cons, rounds_succ]
     exact ih A σ st _ ρ a w _ hb hst hf (hl.seq fun ρ' a' w' σ' st' hst' hn => ihr σ' st' ρ' a' w' hst' hn)
   exact wp_loop_rounds _ (key _ σ st ρ a w h hv)
  | goT a => exact hv.elim
  | goF a => exact hv.elim
  | none => exact hv.elim
  | reg fl => exact hv.elim
  | two a b => exact hv.elim
  | cut A1 T A2 => exact hv.elim
  | mark fl ms => exact hv.elim
  | exr E => exact hv.elim
 | exit id => intro A σ st K ρ a w Q _ h hv hl; exact wp_exit (hl _ ρ a w σ st h hv)
 | ret => intro A σ st K ρ a w Q _ h hv hl; exact wp_ret (hl _ ρ a w σ st h hv)
 | rangeFunc _ _ _ _ _ => intro A σ st K ρ a w Q _ _ hv; exact hv.elim
 | scope _ _ => intro A σ st K ρ a w Q _ _ hv; exact hv.elim
 | label _ => intro A σ st K ρ a w Q _ _ hv; exact hv.elim
 | goto _ => intro A σ st K ρ a w Q _ _ hv; exact hv.elim
 | refuse _ => intro A σ st K ρ a w Q _ _ hv; exact hv.elim
end Go.Proofs.Ytomnmacmlhkceaa
