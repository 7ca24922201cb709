/- The pure layer, part E: what each operation makes of plain data, as functions that compute. No function of the program is named here. -/
import Derived.Test.YtomnmacmlhkceaaQd
set_option linter.unusedVariables false
set_option linter.unusedSimpArgs false
namespace Go.Proofs.Ytomnmacmlhkceaa
open Go
structure Out where
 pre : List Prop
 val : PV
 new : Store
 dead : Option Nat
 up : Option (Nat × Ent)
def Out.bad : Out := ⟨[False], .d false .undef, [], none, none⟩
def Out.ok (pre : List Prop) (v : PV) : Out := ⟨pre, v, [], none, none⟩
def Out.dd (pre : List Prop) (x : D) : Out := ⟨pre, .d true x, [], none, none⟩
def chk (b : Bool) (o : Out) : Out :=
 match b with
 | true => o
 | false => .bad
mutual
def PV.nr : PV → Bool
 | .fn _ _ cs => PV.nrL cs
 | .agg cs => PV.nrL cs
 | .tup cs => PV.nrL cs
 | .opt _ p => PV.nr p
 | .reg _ _ => false
 | _ => true
def PV.nrL : List PV → Bool
 | [] => true
 | p :: r => PV.nr p && PV.nrL r
end
mutual
theorem PV.nr_rgm (j : Nat) : ∀ p : PV, p.nr = true → p.rgm j = false
 | .d _ _, _ => rfl
 | .own _ _, _ => rfl
 | .ptr _ _, _ => rfl
 | .eadr _ _ _ _, _ => rfl
 | .fn _ _ cs, h => PV.nrL_rgmL j cs h
 | .agg cs, h => PV.nrL_rgmL j cs h
 | .tup cs, h => PV.nrL_rgmL j cs h
 | .opt _ p, h => PV.nr_rgm j p h
 | .reg _ _, h => by simp [PV.nr] at h
 | .vw _ _, _ => rfl
 | .rw _ _ _, _ => rfl
 | .radr _ _ _, _ => rfl
theorem PV.nrL_rgmL (j : Nat) : ∀ cs : List PV, PV.nrL cs = true → PV.rgmL j cs = false
 | [], _ => rfl
 | p :: r, h => by
  simp only [PV.nrL, Bool.and_eq_true] at h
  simp [PV.rgmL, PV.nr_rgm j p h.1, PV.nrL_rgmL j r h.2]
end
def Out.app (o : Out) (st : Store) : Store :=
 let st1 := match o.dead with
  | some k => adel st k
  | none => st
 let st2 := match o.up with
  | some (k, e) => (k, e) :: adel st1 k
  | none => st1
 o.new ++ st2
inductive Orc where
 | no
 | wrap
 | frz
 | call (cast : Option (List D)) (r : Res)
 | callS (j : Nat) (x : D)
 | callG (cast : Option (List D)) (r : Res)
 | g
 | take
 | cell (ds' : List D) (r : Res)
def inK : IntKind → Int → Prop
 | .i64, n => -9223372036854775808 ≤ n ∧ n ≤ 9223372036854775807
 | .u64, n => 0 ≤ n ∧ n ≤ 18446744073709551615
 | .u32, n => 0 ≤ n ∧ n ≤ 4294967295
 | .u8, n => 0 ≤ n ∧ n ≤ 255
 | _, _ => False
def inU : IntKind → Int → Prop
 | .i64, n => 0 ≤ n ∧ n ≤ 9223372036854775807
 | .u64, n => 0 ≤ n ∧ n ≤ 18446744073709551615
 | .u32, n => 0 ≤ n ∧ n ≤ 4294967295
 | .u8, n => 0 ≤ n ∧ n ≤ 255
 | _, _ => False
def sumLike (oc : Orc) (k : IntKind) (n : Int) : Out :=
 match oc with
 | .wrap => .dd [] (.int k (k.wrap n))
 | _ => .dd [inK k n] (.int k n)
def binI (oc : Orc) (op : BinOp) (k : IntKind) (x y : Int) : Out :=
 match op with
 | .add => sumLike oc k (x + y)
 | .sub => sumLike oc k (x - y)
 | .mul => sumLike oc k (x * y)
 | .quo => .dd [inU k x, 1 ≤ y] (.int k (x / y))
 | .rem => .dd [0 ≤ x, 1 ≤ y] (.int k (x % y))
 | .and => .dd [inU k x, inU k y] (.int k ((x.toNat &&& y.toNat : Nat) : Int))
 | .or => .dd [inU k x, inU k y] (.int k ((x.toNat ||| y.toNat : Nat) : Int))
 | .xor => .dd [inU k x, inU k y] (.int k ((x.toNat ^^^ y.toNat : Nat) : Int))
 | .andNot => .dd [inU k x, inU k y] (.int k ((x.toNat ^^^ (x.toNat &&& y.toNat) : Nat) : Int))
 | .eql => .dd [] (.bool (x == y))
 | .neq => .dd [] (.bool (x != y))
 | .lss => .dd [] (.bool (decide (x < y)))
 | .leq => .dd [] (.bool (decide (x ≤ y)))
 | .gtr => .dd [] (.bool (decide (x > y)))
 | .geq => .dd [] (.bool (decide (x ≥ y)))
 | _ => .bad
def shiftI (op : BinOp) (k : IntKind) (x y : Int) : Out :=
 match op with
 | .shl => .dd [0 ≤ x, 0 ≤ y, inU k (x * 2 ^ y.toNat)] (.int k (x * 2 ^ y.toNat))
 | .shr => .dd [inU k x, 0 ≤ y] (.int k (x / 2 ^ y.toNat))
 | _ => .bad
def tyAgg (P : Program) (t : TypeId) : Option Bool :=
 match P.underlying t with
 | some (.struct _) => some true
 | some (.array _ _) => some true
 | some _ => some false
 | none => none
def tySize (P : Program) (t : TypeId) : Option Nat :=
 match P.info? t with
 | some i => some i.size
 | none => none
def tyElem (P : Program) (t : TypeId) : Option TypeId :=
 match P.underlying t with
 | some (.slice e) => some e
 | _ => none
inductive MK where
 | ints | bytes | rows | pairs
def memKind (P : Program) (e : TypeId) : Option MK :=
 match P.underlying e with
 | some (.int .i64) => some .ints
 | some (.int .u8) => some .bytes
 | some (.slice f) =>
  match P.underlying f with
  | some (.int .i64) => some .rows
  | _ => none
 | some (.array 2 f) =>
  match P.underlying f with
  | some (.int .i64) => some .pairs
  | _ => none
 | _ => none
def Mem.kind : Mem → MK
 | .ints _ => .ints
 | .bytes _ => .bytes
 | .rows _ => .rows
 | .pairs _ => .pairs
def MK.empty : MK → Mem
 | .ints => .ints []
 | .bytes => .bytes []
 | .rows => .rows []
 | .pairs => .pairs []
def Mem.flat : Mem → Bool
 | .rows _ => false
 | _ => true
def Mem.app : Mem → Mem → Option Mem
 | .ints a, .ints b => some (.ints (a ++ b))
 | .bytes a, .bytes b => some (.bytes (a ++ b))
 | .rows a, .rows b => some (.rows (a ++ b))
 | .pairs a, .pairs b => some (.pairs (a ++ b))
 | _, _ => none
def MK.of : MK → List D → Option Mem
 | k, [] => some k.empty
 | .ints, .int .i64 n :: r => match MK.of .ints r with
  | some (.ints xs) => some (.ints (n :: xs))
  | _ => none
 | .bytes, .int .u8 n :: r => match MK.of .bytes r with
  | some (.bytes xs) => some (.bytes (n.toNat :: xs))
  | _ => none
 | .rows, .sl (.ints ys) :: r => match MK.of .rows r with
  | some (.rows xs) => some (.rows (ys :: xs))
  | _ => none
 | .pairs, .agg [.int .i64 x, .int .i64 y] :: r => match MK.of .pairs r with
  | some (.pairs xs) => some (.pairs ((x, y) :: xs))
  | _ => none
 | _, _ => none
def D.nat : D → Prop
 | .int _ n => 0 ≤ n
 | _ => True
def MK.pre : MK → List D → List Prop
 | .bytes, ds => ds.map D.nat
 | _, _ => []
def Mem.set : Mem → Nat → Nat → D → Option Mem
 | .ints xs, i, _, .int .i64 n => some (.ints (xs.set i n))
 | .rows xss, i, _, .sl (.ints ys) => some (.rows (xss.set i ys))
 | .pairs ps, i, 0, .int .i64 n => some (.pairs (ps.set i (n, (ps.getD i (0, 0)).2)))
 | .pairs ps, i, 1, .int .i64 n => some (.pairs (ps.set i ((ps.getD i (0, 0)).1, n)))
 | .pairs ps, i, 0, .agg [.int .i64 x, .int .i64 y] => some (.pairs (ps.set i (x, y)))
 | _, _, _, _ => none
def D.ofV : Value → D
 | .bool b => .bool b
 | .int k n => .int k n
 | .slice none 0 0 => .nil
 | _ => .undef
def PV.ofV (v : Value) : PV := .d true (D.ofV v)
def evP (σ : Env) : Operand → PV
 | .tmp t => match aget σ t with
  | some p => p
  | none => .d true .undef
 | .const v => .ofV v
 | .func f => .fn f 0 []
 | .global _ => .d true .undef
def PV.cell : PV → Bool
 | .d _ x => x.cell
 | .own _ _ | .ptr _ _ | .eadr _ _ _ _ | .fn _ _ _ => true
 | .reg _ x => x.cell
 | _ => false
def PV.cells : PV → Option (List PV)
 | .d fr (.agg cs) => some (cs.map (.d fr))
 | .agg ps => some ps
 | .reg k (.agg cs) => some (cs.map (.reg k))
 | p => bif p.cell then some [p] else none
def getN (m : Mem) (i : Nat) : Nat → Nat → List D
 | _, 0 => []
 | c, n + 1 => m.get i c :: getN m i (c + 1) n
def PV.unl : PV → PV
 | .d fr x => .d fr x.unl
 | p => p
def loadRun (agg : Bool) (size : Nat) (es : Nat → Option Ent) : PV → Out
 | .d fr (.adr m i c) => bif agg then chk (Nat.ble (c + size) m.width) (.ok [i < m.len] (.d fr (.agg (getN m i c size)))) else chk (Nat.blt c m.width) (.ok [i < m.len] (.d fr (m.get i c)))
 | .d fr (.bx cs c) => bif agg then chk (Nat.ble (c + size) cs.length) (.ok [] (.d fr (.agg ((cs.drop c).take size)))) else
   match cs[c]? with
   | some x => .ok [] (.d fr x)
   | none => .bad
 | .ptr k c =>
  match es k with
  | some (.box _ ps) => bif agg then chk (Nat.ble (c + size) ps.length) (.ok [] (.agg ((ps.drop c).take size))) else
   match ps[c]? with
   | some p => .ok [] p.unl
   | none => .bad
  | _ => .bad
 | .eadr k wd i c =>
  match es k with
  | some (.arr fr _ m) => bif agg then chk (Nat.beq wd m.width && Nat.ble (c + size) m.width) (.ok [i < m.len] (.d fr (.agg (getN m i c size)))) else chk (Nat.beq wd m.width && Nat.blt c m.width) (.ok [i < m.len] (.d fr (m.get i c)))
  | some (.mat _ _ xss none) => bif agg then .bad else chk (Nat.beq wd 1 && Nat.beq c 0) (.ok [i < xss.length] (.rw k i (xss.getD i []).length))
  | _ => .bad
 | .radr k i c =>
  match es k with
  | some (.mat _ _ xss none) => bif agg then .bad else .ok [i < xss.length, c < (xss.getD i []).length] (.d true (.int .i64 ((xss.getD i []).getD c 0)))
  | _ => .bad
 | _ => .bad
def aggW : D → Nat
 | .agg _ => 2
 | _ => 1
def takeRun (agg : Bool) (dst : Nat) (es : Nat → Option Ent) : PV → Out
 | .eadr k wd i c =>
  match es k with
  | some (.mat e eo xss none) => bif agg then .bad else chk (Nat.beq wd 1 && Nat.beq c 0) ⟨[i < xss.length], .own dst (xss.getD i []).length, [(dst, .arr true e (.ints (xss.getD i [])))], none, some (k, .mat e eo xss (some i))⟩
  | _ => .bad
 | _ => .bad
def storeRun (size : Nat) (es : Nat → Option Ent) (a : PV) (x : PV) : Out :=
 match a with
 | .ptr k c =>
  match es k, x.cells with
  | some (.box t ps), some qs => chk (Nat.beq qs.length size && Nat.ble (c + size) ps.length && qs.all PV.cell) ⟨[], .d false .undef, [], none, some (k, .box t (ps.take c ++ qs ++ ps.drop (c + size)))⟩
  | _, _ => .bad
 | .eadr k wd i c =>
  match es k, x with
  | some (.arr fr e m), .d frx y =>
   match m.set i c y with
   | some m' => chk (Nat.beq wd m.width && Nat.blt c m.width && (m.flat || !fr || frx) && Nat.beq size (aggW y)) ⟨[i < m.len], .d false .undef, [], none, some (k, .arr fr e m')⟩
   | none => .bad
  | some (.mat e eo xss (some h)), .own k' n =>
   match es k' with
   | some (.arr _ e' (.ints ys)) => chk (Nat.beq e' e && !Nat.beq k' k && Nat.beq wd 1 && Nat.beq c 0 && Nat.beq size 1) ⟨[h = i, i < xss.length, n = ys.length], .d false .undef, [], some k', some (k, .mat e eo (xss.set i ys) none)⟩
   | _ => .bad
  | _, _ => .bad
 | .radr k i c =>
  match es k, x with
  | some (.mat e eo xss none), .d _ (.int .i64 n) => chk (Nat.beq size 1) ⟨[i < xss.length, c < (xss.getD i []).length], .d false .undef, [], none, some (k, .mat e eo (xss.set i ((xss.getD i []).set c n)) none)⟩
  | _, _ => .bad
 | _ => .bad
def mulw (i s : Nat) : Nat := bif Nat.beq s 1 then i else i * s
def rowOf (es : Nat → Option Ent) : PV → Option (Bool × Mem × Prop)
 | .d fr (.sl m) => some (fr, m, True)
 | .own k n =>
  match es k with
  | some (.arr fr _ m) => some (fr, m, n = m.len)
  | _ => none
 | _ => none
def zsize (i : TypeInfo) : Bool :=
 match i.zero with
 | some z => Nat.beq z.cells.size i.size && Nat.ble 1 i.bytes
 | none => false
def matOf (es : Nat → Option Ent) : PV → Option (Nat × Nat × (TypeId × TypeId × List (List Int)))
 | .own k n =>
  match es k with
  | some (.mat e eo xss none) => some (k, n, (e, eo, xss))
  | _ => none
 | _ => none
def appendMat (P : Program) (t : TypeId) (dst : Nat) (es : Nat → Option Ent) (s : PV) (k2 n2 : Nat) (e2 eo2 : TypeId) (yss : List (List Int)) : Out :=
 match tyElem P t with
 | none => .bad
 | some e =>
  match P.info? e with
  | some i =>
   match s with
   | .own k n =>
    match es k with
    | some (.mat e1 eo1 xss none) => chk (Nat.beq eo1 e && Nat.beq e2 e1 && Nat.beq i.size 1 && zsize i && !Nat.beq k k2)
      ⟨[n = xss.length, n2 = yss.length, 0 < yss.length, (xss.length + yss.length) * i.bytes ≤ 140737488355328], .own dst (n + yss.length), [(dst, .mat e1 e (xss ++ yss) none)], some k, some (k2, .vw [])⟩
    | _ => .bad
   | _ => .bad
  | none => .bad
def appendArr (P : Program) (t : TypeId) (dst : Nat) (es : Nat → Option Ent) (s x : PV) : Out :=
 match tyElem P t with
 | none => .bad
 | some e =>
  match P.info? e, memKind P e, rowOf es x with
  | some i, some mk, some (frx, m2, p2) =>
   match s with
   | .own k n =>
    match es k with
    | some (.arr fr e' m) =>
     match m.app m2 with
     | some m3 => chk (Nat.beq e' e && Nat.beq i.size m.width && zsize i) ⟨[n = m.len, p2, (m.len + m2.len) * i.bytes ≤ 140737488355328], .own dst (n + m2.len), [(dst, .arr (m.flat || (fr && frx)) e m3)], some k, none⟩
     | none => .bad
    | _ => .bad
   | .d _ .nil =>
    match mk.empty.app m2 with
    | some m3 => chk (Nat.beq i.size m2.width && zsize i) ⟨[p2, 0 < m2.len, m2.len * i.bytes ≤ 140737488355328], .own dst m2.len, [(dst, .arr (m2.flat || frx) e m3)], none, none⟩
    | none => .bad
   | _ => .bad
  | _, _, _ => .bad
def appendRun (P : Program) (t : TypeId) (dst : Nat) (es : Nat → Option Ent) (s x : PV) : Out :=
 match matOf es x with
 | some (k2, n2, (e2, eo2, yss)) => appendMat P t dst es s k2 n2 e2 eo2 yss
 | none => appendArr P t dst es s x
def aggD : List PV → Option (Bool × List D)
 | [] => some (true, [])
 | .d fr x :: r => match aggD r with
  | some (b, xs) => some (fr && b, x :: xs)
  | none => none
 | _ :: _ => none
def PV.toD : PV → Option (Bool × D)
 | .d fr x => some (fr, x)
 | .agg ps => match aggD ps with
  | some (b, xs) => some (b, .agg xs)
  | none => none
 | _ => none
def stV (x v : PV) : PV :=
 match x with
 | .eadr _ _ _ _ => match v.toD with
  | some (fr, y) => .d fr y
  | none => v
 | _ => v
def listD : List PV → Option (Bool × List D)
 | [] => some (true, [])
 | p :: r =>
  match p.toD, listD r with
  | some (fr, x), some (b, xs) => some (fr && b, x :: xs)
  | _, _ => none
def inOrder : Nat → List (Nat × Operand) → Bool
 | _, [] => true
 | k, (i, _) :: r => Nat.beq i k && inOrder (k + 1) r
def buildArr (P : Program) (oc : Orc) (t : TypeId) (n : Nat) (parts : List (Nat × Operand)) (dst : Nat) (xs : List PV) : Out :=
 match tyElem P t with
 | none => .bad
 | some e =>
  match P.info? e, memKind P e, listD xs with
  | some i, some mk, some (fr, ds) =>
   match mk.of ds with
   | some m =>
    chk (Nat.beq i.size m.width && Nat.beq n m.len && Nat.ble (n * i.size) 16777216 && inOrder 0 parts && zsize i) <|
    match oc with
    | .frz => .ok (mk.pre ds) (.d (m.flat || fr) (.sl m))
    | _ => ⟨mk.pre ds, .own dst n, [(dst, .arr (m.flat || fr) e m)], none, none⟩
   | none => .bad
  | _, _, _ => .bad
def rowArg (es : Nat → Option Ent) : List PV → Option (Nat × Nat × (TypeId × List Int))
 | [.own k n] =>
  match es k with
  | some (.arr _ e (.ints ys)) => some (k, n, (e, ys))
  | _ => none
 | _ => none
def buildSliceRun (P : Program) (oc : Orc) (t : TypeId) (n : Nat) (parts : List (Nat × Operand)) (dst : Nat) (es : Nat → Option Ent) (xs : List PV) : Out :=
 match rowArg es xs with
 | some (k, n1, (e1, ys)) =>
  match tyElem P t with
  | some e =>
   match P.info? e with
   | some i => chk (Nat.beq n 1 && Nat.beq i.size 1 && inOrder 0 parts && zsize i) ⟨[n1 = ys.length], .own dst 1, [(dst, .mat e1 e [ys] none)], some k, none⟩
   | none => .bad
  | none => .bad
 | none => buildArr P oc t n parts dst xs
def isZ (k : MK) (i : TypeInfo) : Bool :=
 match k, i.zero with
 | .ints, some (.int .i64 0) => true
 | .rows, some (.slice none 0 0) => true
 | .pairs, some (.agg ⟨[.int .i64 0, .int .i64 0]⟩) => true
 | _, _ => false
def makeSliceRun (P : Program) (t : TypeId) (dst : Nat) (l c : PV) : Out :=
 match tyElem P t, l, c with
 | some e, .d _ (.int .i64 n), .d _ (.int .i64 n') =>
  match P.info? e, memKind P e with
  | some i, some .ints => chk (Nat.beq i.size 1 && zsize i && isZ .ints i) ⟨[n = n', 0 ≤ n, n * i.bytes ≤ 140737488355328], .own dst n.toNat, [(dst, .arr true e (.ints (List.replicate n.toNat 0)))], none, none⟩
  | some i, some .rows => chk (Nat.beq i.size 1 && zsize i && isZ .rows i) ⟨[n = n', 0 ≤ n, n * i.bytes ≤ 140737488355328], .own dst n.toNat, [(dst, .arr true e (.rows (List.replicate n.toNat [])))], none, none⟩
  | some i, some .pairs => chk (Nat.beq i.size 2 && zsize i && isZ .pairs i) ⟨[n = n', 0 ≤ n, n * i.bytes ≤ 140737488355328], .own dst n.toNat, [(dst, .arr true e (.pairs (List.replicate n.toNat (0, 0))))], none, none⟩
  | _, _ => .bad
 | _, _, _ => .bad
def makeMatRun (P : Program) (t : TypeId) (dst : Nat) (l c : PV) : Out :=
 match tyElem P t, l, c with
 | some e, .d _ (.int .i64 n), .d _ (.int .i64 n') =>
  match P.info? e, memKind P e, tyElem P e with
  | some i, some .rows, some e1 => chk (Nat.beq i.size 1 && zsize i && isZ .rows i) ⟨[n = n', 0 ≤ n, n * i.bytes ≤ 140737488355328], .own dst n.toNat, [(dst, .mat e1 e (List.replicate n.toNat []) none)], none, none⟩
  | _, _, _ => .bad
 | _, _, _ => .bad
def structField (P : Program) (s : TypeId) (f : Nat) : Option Field :=
 match P.underlying s with
 | some (.struct fs) => fs[f]?
 | _ => none
def fieldAddrRun (P : Program) (s : TypeId) (f : Nat) (x : PV) : Out :=
 match structField P s f with
 | none => .bad
 | some fd =>
  match tySize P fd.type, x with
  | some n, .ptr k c => chk (Nat.blt 0 n) (.ok [] (.ptr k (c + fd.offset)))
  | some n, .d fr (.bx cs c) => chk (Nat.blt 0 n) (.ok [] (.d fr (.bx cs (c + fd.offset))))
  | some n, .d fr (.adr m i c) => chk (Nat.blt 0 n) (.ok [] (.d fr (.adr m i (c + fd.offset))))
  | _, _ => .bad
def fieldRun (P : Program) (s : TypeId) (f : Nat) (x : PV) : Out :=
 match structField P s f with
 | none => .bad
 | some fd =>
  match x with
  | .agg ps =>
   match tyAgg P fd.type with
   | some false => match ps[fd.offset]? with
    | some p => .ok [] p
    | none => .bad
   | some true => match tySize P fd.type with
    | some n => chk (Nat.ble (fd.offset + n) ps.length) (.ok [] (.agg ((ps.drop fd.offset).take n)))
    | none => .bad
   | none => .bad
  | .d fr (.agg cs) =>
   match tyAgg P fd.type with
   | some false => match cs[fd.offset]? with
    | some p => .ok [] (.d fr p)
    | none => .bad
   | some true => match tySize P fd.type with
    | some n => chk (Nat.ble (fd.offset + n) cs.length) (.ok [] (.d fr (.agg ((cs.drop fd.offset).take n))))
    | none => .bad
   | none => .bad
  | _ => .bad
def indexAddrRun (P : Program) (t : TypeId) (x i : PV) : Out :=
 match P.underlying t, i with
 | some (.slice e), .d _ (.int _ n) =>
  match tySize P e, x with
  | some s, .d fr (.sl m) => chk (Nat.beq s m.width) (.ok [0 ≤ n, n < m.len] (.d fr (.adr m n.toNat 0)))
  | some s, .own k len => .ok [0 ≤ n, n < len] (.eadr k s n.toNat 0)
  | some s, .rw k i len => chk (Nat.beq s 1) (.ok [0 ≤ n, n < len] (.radr k i n.toNat))
  | _, _ => .bad
 | some (.array len e), .d _ (.int _ n) =>
  match tySize P e, x with
  | some s, .ptr k c => .ok [0 ≤ n, n < len] (.ptr k (c + mulw n.toNat s))
  | some s, .d fr (.bx cs c) => .ok [0 ≤ n, n < len] (.d fr (.bx cs (c + mulw n.toNat s)))
  | some s, .d fr (.adr m j c) => .ok [0 ≤ n, n < len] (.d fr (.adr m j (c + mulw n.toNat s)))
  | some s, .eadr k wd j c => .ok [0 ≤ n, n < len] (.eadr k wd j (c + mulw n.toNat s))
  | _, _ => .bad
 | _, _ => .bad
def extractRun (i : Nat) : PV → Out
 | .d fr (.tup cs) => match cs[i]? with
  | some x => .ok [] (.d fr x)
  | none => .bad
 | .tup ps => match ps[i]? with
  | some x => .ok [] x
  | none => .bad
 | _ => .bad
def convertRun (P : Program) (oc : Orc) (d : TypeId) : PV → Out
 | .d _ (.int _ n) =>
  match P.underlying d with
  | some (.int k) => sumLike oc k n
  | _ => .bad
 | _ => .bad
def Mem.cut : Mem → Nat → Nat → Mem
 | .ints xs, l, h => .ints ((xs.take h).drop l)
 | .bytes xs, l, h => .bytes ((xs.take h).drop l)
 | .rows xs, l, h => .rows ((xs.take h).drop l)
 | .pairs xs, l, h => .pairs ((xs.take h).drop l)
def sizeIs (P : Program) (e : TypeId) (n : Nat) : Bool :=
 match tySize P e with
 | some k => Nat.beq k n
 | none => false
def sliceRun (P : Program) (t : TypeId) (x : PV) (lo hi : Option PV) : Out :=
 match P.underlying t, x, lo, hi with
 | some (.slice e), .d fr (.sl m), some (.d _ (.int _ l)), some (.d _ (.int _ h)) => chk (sizeIs P e m.width) (.ok [0 ≤ l, l ≤ h, h ≤ m.len] (.d fr (.sl (m.cut l.toNat h.toNat))))
 | some (.slice e), .d fr (.sl m), none, some (.d _ (.int _ h)) => chk (sizeIs P e m.width) (.ok [0 ≤ h, h ≤ m.len] (.d fr (.sl (m.cut 0 h.toNat))))
 | some (.slice e), .d fr (.sl m), some (.d _ (.int _ l)), none => chk (sizeIs P e m.width) (.ok [0 ≤ l, l ≤ m.len] (.d fr (.sl (m.cut l.toNat m.len))))
 | _, _, _, _ => .bad
def lenRun (P : Program) (t : TypeId) (es : Nat → Option Ent) (x : PV) : Out :=
 match tyElem P t, x with
 | some _, .d _ (.sl m) => .dd [] (.int .i64 (m.len : Int))
 | some _, .d _ .nil => .dd [] (.int .i64 0)
 | some _, .own k n => match es k with
  | some (.arr _ _ _) => .dd [] (.int .i64 (n : Int))
  | some (.mat _ _ _ _) => .dd [] (.int .i64 (n : Int))
  | _ => .bad
 | some _, .rw _ _ n => .dd [] (.int .i64 (n : Int))
 | _, _ => .bad
def allI : List PV → Option (List Int)
 | [] => some []
 | .d _ (.int .i64 n) :: r => match allI r with
  | some l => some (n :: l)
  | none => none
 | _ :: _ => none
def minmaxRun (mx : Bool) (xs : List PV) : Out :=
 match allI xs with
 | some (x :: r) => .dd [] (.int .i64 (r.foldl (fun a b => bif mx then max a b else min a b) x))
 | _ => .bad
def fillPV (place : Nat → Option (Nat × Nat)) : List PV → List (Nat × PV) → Option (List PV)
 | cells, [] => some cells
 | cells, (i, p) :: r =>
  match place i, p.cells with
  | some (off, size), some qs => bif Nat.beq qs.length size && Nat.ble (off + qs.length) cells.length then fillPV place (cells.take off ++ qs ++ cells.drop (off + qs.length)) r else none
  | _, _ => none
def placesOf (P : Program) (t : TypeId) : Option (Nat → Option (Nat × Nat)) :=
 match P.underlying t with
 | some (.struct fs) => some fun i => match fs[i]? with
  | some f => match tySize P f.type with
   | some n => some (f.offset, n)
   | none => none
  | none => none
 | some (.array _ e) => match tySize P e with
  | some n => some fun i => some (mulw i n, n)
  | none => none
 | _ => none
def zeroCellsP (P : Program) (t : TypeId) : Option (List PV) :=
 match P.info? t with
 | some i => match i.zero with
  | some z => some (z.cells.toList.map PV.ofV)
  | none => none
 | none => none
def sizedFields (P : Program) (t : TypeId) : Bool :=
 match P.underlying t with
 | some (.struct fs) => fs.all fun f => (tySize P f.type).isSome
 | _ => true
def buildRun (P : Program) (t : TypeId) (parts : List (Nat × Operand)) (xs : List PV) : Out :=
 match placesOf P t, zeroCellsP P t with
 | some pl, some zs => match fillPV pl zs ((parts.map (·.1)).zip xs) with
  | some cs => chk (cs.all PV.cell && PV.nrL cs && sizedFields P t) (.ok [] (.agg cs))
  | none => .bad
 | _, _ => .bad
def allocRun (P : Program) (t : TypeId) (dst : Nat) : Out :=
 match zeroCellsP P t with
 | some zs => chk (zs.all PV.cell && PV.nrL zs) ⟨[], .ptr dst 0, [(dst, .box t zs)], none, none⟩
 | none => .bad
def boxRun (t : TypeId) (dst : Nat) (x : PV) : Out :=
 match x.cells with
 | some qs => chk (qs.all PV.cell) ⟨[], .ptr dst 0, [(dst, .box t qs)], none, none⟩
 | none => .bad
def unRun (oc : Orc) (op : UnOp) : PV → Out
 | .d _ (.bool b) => match op with
  | .not => .dd [] (.bool (!b))
  | _ => .bad
 | .d _ (.int k n) => match op with
  | .neg => sumLike oc k (-n)
  | _ => .bad
 | _ => .bad
def binRun (P : Program) (oc : Orc) (op : BinOp) (t : TypeId) (x y : PV) : Out :=
 match x, y with
 | .d _ (.int k a), .d _ (.int k' b) =>
  match op with
  | .shl | .shr => shiftI op k a b
  | _ => match decide (k = k') with
   | true => binI oc op k a b
   | false => .bad
 | .d _ (.bool a), .d _ (.bool b) =>
  match P.underlying t, op with
  | some .bool, .eql => .dd [] (.bool (a == b))
  | some .bool, .neq => .dd [] (.bool (a != b))
  | _, _ => .bad
 | .d _ (.sl m), .d _ .nil =>
  match P.underlying t, op with
  | some (.slice _), .eql => .dd [0 < m.len] (.bool false)
  | some (.slice _), .neq => .dd [0 < m.len] (.bool true)
  | _, _ => .bad
 | _, _ => .bad
def nilCheckRun : PV → Out
 | .ptr k c => .ok [] (.ptr k c)
 | .d fr (.bx cs c) => .ok [] (.d fr (.bx cs c))
 | .d fr (.adr m i c) => .ok [] (.d fr (.adr m i c))
 | .fn f k ps => .ok [] (.fn f k ps)
 | .d fr (.fn f k ps) => .ok [] (.d fr (.fn f k ps))
 | _ => .bad
def oid (dst i : Nat) : Nat := dst + 1000 * i
def resPVs (dst : Nat) : Nat → List Re → List PV
 | _, [] => []
 | i, .d x :: r => .d true x :: resPVs dst (i + 1) r
 | i, .own _ m :: r => .own (oid dst i) m.len :: resPVs dst (i + 1) r
 | i, .mat _ _ xss :: r => .own (oid dst i) xss.length :: resPVs dst (i + 1) r
def resNew (dst : Nat) : Nat → List Re → Store
 | _, [] => []
 | i, .d _ :: r => resNew dst (i + 1) r
 | i, .own e m :: r => (oid dst i, .arr true e m) :: resNew dst (i + 1) r
 | i, .mat e eo xss :: r => (oid dst i, .mat e eo xss none) :: resNew dst (i + 1) r
def resPV (dst : Nat) : Res → PV
 | .one r => match resPVs dst 0 [r] with
  | [p] => p
  | _ => .d true .undef
 | .tup rs => .tup (resPVs dst 0 rs)
 | .agg rs => .agg (resPVs dst 0 rs)
 | .agt n rs => .tup (.agg ((resPVs dst 0 rs).take n) :: (resPVs dst 0 rs).drop n)
def rePVG (dst : Nat) : Re → PV
 | .d x => bif x.flats then .d true x else .reg dst x
 | .own _ m => .reg dst (.sl m)
 | .mat _ _ xss => .reg dst (.sl (.rows xss))
def resPVG (dst : Nat) : Res → PV
 | .one r => rePVG dst r
 | .tup rs => .tup (rs.map (rePVG dst))
 | .agg rs => .agg (rs.map (rePVG dst))
 | .agt n rs => .tup (.agg ((rs.map (rePVG dst)).take n) :: (rs.map (rePVG dst)).drop n)
def castD : D → D → Prop
 | .nil, .sl m => m.len = 0
 | x, y => x = y
def castL : List D → List D → Prop
 | [], [] => True
 | x :: r, y :: s => castD x y ∧ castL r s
 | _, _ => False
def calleeOf : PV → Option (FuncId × (List PV × List PV))
 | .fn f k ps => some (f, (ps.take k, ps.drop k))
 | .d fr (.fn f k cs) => some (f, ((cs.take k).map (.d fr), (cs.drop k).map (.d fr)))
 | _ => none
def snapPs : Nat → Store → PV → List Prop
 | 0, _, _ => []
 | n + 1, st, p =>
  match p with
  | .own k len => match aget st k with
   | some (.arr _ _ m) => [len = m.len]
   | some (.mat _ _ xss none) => [len = xss.length]
   | _ => []
  | .ptr k _ => match aget st k with
   | some (.box _ ps) => ps.foldr (fun q r => snapPs n st q ++ r) []
   | _ => []
  | .fn _ _ ps => ps.foldr (fun q r => snapPs n st q ++ r) []
  | .agg ps => ps.foldr (fun q r => snapPs n st q ++ r) []
  | .tup ps => ps.foldr (fun q r => snapPs n st q ++ r) []
  | .vw k len => match aget st k with
   | some (.vw xs) => [len = xs.length]
   | _ => []
  | .rw k i len => match aget st k with
   | some (.mat _ _ xss none) => [i < xss.length, len = (xss.getD i []).length]
   | _ => []
  | _ => []
def snapL (st : Store) (as : List PV) : List Prop := as.foldr (fun q r => snapPs 4 st q ++ r) []
def callRun (P : Program) (oc : Orc) (dst : Nat) (st : Store) (callee : PV) (xs : List PV) : Out :=
 match calleeOf callee with
 | none => .bad
 | some (f, (fronts, caps)) =>
  let as := fronts ++ (xs ++ caps)
  match oc with
  | .call cast r =>
   let ds := as.map (snapV 4 st)
   match cast with
   | none => ⟨(snapL st as ++ [PC P f ds r]), resPV dst r, resNew dst 0 r.list, none, none⟩
   | some ds' => ⟨(snapL st as ++ [castL ds ds', PC P f ds' r]), resPV dst r, resNew dst 0 r.list, none, none⟩
  | .callG cast r =>
   let ds := as.map (snapV 4 st)
   match cast with
   | none => ⟨(snapL st as ++ [PC P f ds r]), resPVG dst r, [(dst, .reg)], none, none⟩
   | some ds' => ⟨(snapL st as ++ [castL ds ds', PC P f ds' r]), resPVG dst r, [(dst, .reg)], none, none⟩
  | .callS j x =>
   let ds := as.map (snapV 4 st)
   match as[j]? with
   | some (.d true _) => .ok (snapL st as ++ [PCs P f ds j x]) (.d true x)
   | _ => .bad
  | .cell ds' r =>
   match as with
   | .ptr k 0 :: rest =>
    match aget st k with
    | some (.box t (.d fr y :: cs)) =>
     match cellDs cs, flatDs ds' with
     | some ds, true => ⟨(snapL (adel st k) rest ++ [PK P f t y.unl ds ds' (rest.map (snapV 4 (adel st k))) r]), resPV dst r, resNew dst 0 r.list, none, some (k, .box t (.d fr y :: ds'.map (.d true)))⟩
     | _, _ => .bad
    | _ => .bad
   | _ => .bad
  | _ => .bad
def isMove : Op → Bool
 | .move _ => true
 | .assign _ => true
 | _ => false
def opRun (P : Program) (oc : Orc) (dst : Nat) (st : Store) (op : Op) (as : List PV) : Out :=
 let es := aget st
 match op, as with
 | .move _, [x] => .ok [] x
 | .assign _, [x] => .ok [] x
 | .alloc t, _ => allocRun P t dst
 | .box t _, [x] => boxRun t dst x
 | .build t ps, xs => buildRun P t ps.toList xs
 | .buildSlice t n ps, xs => buildSliceRun P oc t n ps.toList dst es xs
 | .load t _, [x] => match tyAgg P t, tySize P t with
  | some g, some n => match oc with
   | .take => takeRun g dst es x
   | _ => loadRun g n es x
  | _, _ => .bad
 | .store t _ _, [x, v] => match tySize P t with
  | some n => storeRun n es x (stV x v)
  | _ => .bad
 | .nilCheck _, [x] => nilCheckRun x
 | .binOp o t _ _ _, [x, y] => binRun P oc o t x y
 | .unOp o _ _, [x] => unRun oc o x
 | .convert s d _, [x] => match P.underlying s with
  | some _ => convertRun P oc d x
  | none => .bad
 | .makeFunc (.func f) bs _, xs => .ok [] (.fn f bs.size xs)
 | .makeSlice t _ _, [l, c] => match oc with
  | .take => makeMatRun P t dst l c
  | _ => makeSliceRun P t dst l c
 | .slice t _ (some _) (some _) none, [x, l, h] => sliceRun P t x.unl (some l) (some h)
 | .slice t _ none (some _) none, [x, h] => sliceRun P t x.unl none (some h)
 | .slice t _ (some _) none none, [x, l] => sliceRun P t x.unl (some l) none
 | .fieldAddr s _ f, [x] => fieldAddrRun P s f x
 | .field s _ f, [x] => fieldRun P s f x
 | .indexAddr t _ _, [x, i] => indexAddrRun P t x.unl i
 | .extract _ i, [x] => extractRun i x
 | .call c, xs =>
  match c.callee, xs with
  | .builtin .len, [x] => match c.argTypes.toList with
   | [t] => lenRun P t es x.unl
   | _ => .bad
  | .builtin .append, [s, x] => match c.argTypes.toList with
   | [t, u] => match Nat.beq t u with
    | true => appendRun P t dst es s x
    | false => .bad
   | _ => .bad
  | .builtin .min, xs => minmaxRun false xs
  | .builtin .max, xs => minmaxRun true xs
  | .value _, callee :: xs => callRun P oc dst st callee xs
  | _, _ => .bad
 | _, _ => .bad
def PV.og : PV → Bool
 | .opt g _ => g
 | _ => true
def PV.ov : PV → PV
 | .opt _ p => p
 | p => p
def pickRun (g : Option Bool) (c x y : PV) : Out :=
 match c.ov, x.ov, y.ov with
 | .d _ (.bool cb), .d _ (.bool xb), .d _ (.bool yb) =>
  match g with
  | none => .dd [c.og = true, (cb = true → x.og = true), (cb = false → y.og = true)] (.bool (cond cb xb yb))
  | some gb => .ok [(gb = true → c.og = true), (gb = true → cb = true → x.og = true), (gb = true → cb = false → y.og = true)] (.opt gb (.d true (.bool (cond cb xb yb))))
 | _, _, _ => .bad
def ogAll (g : Option Bool) : List PV → List Prop
 | [] => []
 | .opt gb _ :: r => (match g with
  | none => gb = true
  | some g => g = true → gb = true) :: ogAll g r
 | _ :: r => ogAll g r
def guardB (all : Array Oper) (σ : Env) (o : Oper) : Option (Option Bool) :=
 match o.guard with
 | none => some none
 | some (j, want) =>
  match (all[j]?).bind (·.dst) with
  | none => none
  | some t =>
   match aget σ t with
   | some (.d _ (.bool b)) => some (some (bif want then b else !b))
   | some (.opt g (.d _ (.bool b))) => some (some (g && (bif want then b else !b)))
   | _ => none
def newIx (dst : Nat) : Nat → List Re → Nat → Option Nat
 | _, [], _ => none
 | i, .d _ :: r, j => newIx dst (i + 1) r j
 | i, .own _ _ :: r, j => if j = oid dst i then some i else newIx dst (i + 1) r j
 | i, .mat _ _ _ :: r, j => if j = oid dst i then some i else newIx dst (i + 1) r j
def newOk (σ : Env) (st : Store) : Store → Bool
 | [] => true
 | (k, _) :: r => unment k σ st && (match aget st k with
  | none => true
  | some _ => false) && newOk σ st r
def Out.moves (out : Out) : Option Nat :=
 match out.dead, out.up with
 | some _, some (k, .mat _ _ _ _) => some k
 | _, _ => none
def rwOk (σ : Env) (st : Store) (out : Out) : Bool :=
 match out.moves with
 | some k => rwfree k σ st
 | none => true
def opStep (P : Program) (all : Array Oper) (oc : Orc) (o : Oper) (σ : Env) (st : Store) : Out :=
 let as := o.op.operands.toList.map (evP σ)
 match guardB all σ o with
 | none => .bad
 | some g =>
  match o.op, as with
  | .pick _ _ _, [c, x, y] => pickRun g c x y
  | op, as =>
   let out := opRun P oc (o.dst.getD 0) st op (as.map PV.ov)
   match g with
   | none => chk (newOk σ st out.new && rwOk σ st out) { out with pre := ogAll none as ++ out.pre }
   | some gb =>
    match out.new, out.dead, out.up with
    | [], none, none => chk (PV.nr out.val || isMove o.op) (.ok (ogAll (some gb) as ++ out.pre.map fun p => (gb = true → p)) (.opt gb out.val))
    | _, _, _ => .bad
def runOps (P : Program) (all : Array Oper) (oc : Nat → Oper → Env → Store → Orc) : Nat → List Oper → Env → Store → List Prop × Env × Store
 | _, [], σ, st => ([], σ, st)
 | i, o :: r, σ, st =>
  let out := opStep P all (oc i o σ st) o σ st
  let (ps, σ', st') := runOps P all oc (i + 1) r (eput σ o.dst out.val) (out.app st)
  (out.pre ++ ps, σ', st')
def allP : List Prop → Prop
 | [] => True
 | [p] => p
 | p :: r => p ∧ allP r
theorem allP_mem : ∀ {l : List Prop}, allP l → ∀ p ∈ l, p
 | [q], h, p, hm => by rw [List.mem_singleton.1 hm]; exact h
 | q :: q' :: r, h, p, hm => by
  rcases List.mem_cons.1 hm with rfl | hm
  ·exact h.1
  ·exact allP_mem (l := q' :: r) h.2 p hm
end Go.Proofs.Ytomnmacmlhkceaa
