/- Part 3 of the proof: lemmas. -/
import Derived.Test.YtelnoeamkdpjhaaM2
import Derived.Test.YtelnoeamkdpjhaaM1

/- The logic of abstract walks, part M2: operations and code as conditions for evaluation. -/
namespace Go.Proofs.Ytelnoeamkdpjhaa.Aw
open Go Go.RowKit
set_option linter.unusedVariables false
set_option linter.unusedSimpArgs false
universe u
/-- Facts on a type. -/
inductive Un where
  | bool
  | str
  | int (k : IntKind)
  | other
  | flat (n : Nat)
structure TI : Type 1 where
  sz : Nat
  ag : Bool
  el : Option (Nat × Nat)
  ar : Option (Nat × Nat × Nat)
  z : Option (List KV)
  pl : Option Pl
  bytes : Nat
  un : Un
  fl : List (Nat × Nat × Nat)
  eqn : Option Nat
  mp : Option (Nat × Nat)
  zv : Option KV
inductive Tree : Type 1 where
  | leaf
  | node (l : Tree) (k : Nat) (v : TI) (r : Tree)
def Tree.look : Tree → Nat → Option TI
  | .leaf, _ => none
  | .node l k v r, n => match Nat.beq k n with
    | true => some v
    | false => match Nat.blt n k with
      | true => l.look n
      | false => r.look n
/-- A key's kind. -/
def kun (i : TI) : Un := match i.eqn with
  | some n => .flat n
  | none => match i.un with
    | .flat _ => .other
    | u => u
structure TIOk (P : Program) (t : Nat) (i : TI) : Prop where
  sz : szT P t = some i.sz
  ag : isAggT P t = some i.ag
  el : ∀ r, i.el = some r → eltT P t = some r
  ar : ∀ r, i.ar = some r → arrT P t = some r
  z : ∀ z, i.z = some z → zeroC P t = some (KV.avL z)
  pl : ∀ r, i.pl = some r → plT P t = some r
  bytes : (P.info? t).map (fun x : TypeInfo => x.bytes) = some i.bytes
  bool : i.un = .bool → P.underlying t = some .bool
  str : i.un = .str → P.underlying t = some .string
  int : ∀ k, i.un = .int k → P.underlying t = some (.int k)
  fl : ∀ f r, nth i.fl f = some r → fldT P t f = some r
  eqn : ∀ n, i.eqn = some n → flatN P 8 t = some n ∧ isAggT P t = some true ∧ P.eqGuardType P.depth t = false
  mp : ∀ r, i.mp = some r → mapT' P t = some r
  zv : ∀ z, i.zv = some z → zeroV P t = some z.toD
def TabOk (P : Program) : Tree → Prop
  | .leaf => True
  | .node l k v r => TIOk P k v ∧ TabOk P l ∧ TabOk P r
theorem TabOk.look {P : Program} : ∀ {tb : Tree}, TabOk P tb → ∀ {t : Nat} {i : TI}, tb.look t = some i → TIOk P t i
  | .leaf, _, t, i, h => by simp [Tree.look] at h
  | .node l k v r, hok, t, i, h => by
    unfold Tree.look at h
    split at h
    · rename_i e
      cases h
      exact Nat.eq_of_beq_eq_true e ▸ hok.1
    · split at h
      · exact TabOk.look hok.2.1 h
      · exact TabOk.look hok.2.2 h
/-- All that evaluation leaves as it is. -/
structure Prim (σ : Type) : Type 2 where
  iop : BinOp → IntKind → Int → Int → Int
  icmp : BinOp → Int → Int → Bool
  oknz : BinOp → Int → Prop
  neg : IntKind → Int → Int
  conv : IntKind → Int → Int
  not : Bool → Bool
  beq : Bool → Bool → Bool
  max : Int → Int → Int
  min : Int → Int → Int
  tst : Bool → Prop → Prop → Prop
  conj : Prop → Prop → Prop
  inb : Int → Int → Prop
  plen : List KP → Int
  get : (α : Type) → α → List α → Int → α
  sub : (α : Type) → List α → Int → Int → List α
  le : Int → Int → Prop
  strlen : ByteArray → Int
  strat : ByteArray → Int → Int
  fits : List KP → Nat → Prop
  mkok : Int → Nat → Prop
  reps : Int → List KV → List KP
  C : Nat → List KV → (KV → List KRow → Prop) → Prop
  CD : Nat → List KV → List D → (KV → List KRow → Prop) → Prop
  noagg : List D → Prop
  W : Code → KSt → σ → (Exit → KSt → σ → Prop) → Prop
  Y : σ → List KV → (Bool → σ → Prop) → Prop
  post : KV → List KRow → Prop
  eqs : List (IntKind × Int) → List (IntKind × Int) → Bool
  setl : List KP → Nat → Int → Nat → List KV → (List KP → Prop) → Prop
  norm : List KP → Nat → (List KP → Prop) → Prop
  mget : Un → List KP → KV → KV → (KV → Bool → Prop) → Prop
  mset : Un → List KP → KV → KV → (List KP → Prop) → Prop
  mdel : Un → List KP → KV → (List KP → Prop) → Prop
  nums : List KRow → Prop
  mnext : (α : Type) → List α → (α → List α → Prop) → Prop → Prop
  rnone : Prop
  CW : Nat → List KV → List KBlk → List KRow → (KV → List KBlk → List KRow → Prop) → Prop
def constK : Value → Option KV
  | .int k n => some (.lit k n)
  | .bool b => some (match b with | true => .tt | false => .ff)
  | .string s => some (.str s)
  | .nilFunc => some .nilfn
  | .slice none 0 0 => some .nilsl
  | .map none => some .nilmap
  | .pointer none => some .nilptr
  | _ => none
def kop (T : List (Nat × KV)) : Operand → Option KV
  | .tmp t => lk T t
  | .const v => constK v
  | .func f => some (.fn f [])
  | .global _ => none
/-- A number: is it known as such? -/
def numK : KV → Option (Bool × IntKind × Int)
  | .int k n => some (false, k, n)
  | .lit k n => some (true, k, n)
  | _ => none
def boolK : KV → Option Bool
  | .bool b => some b
  | .tt => some true
  | .ff => some false
  | _ => none
def sameK (k k' : IntKind) : Bool := match k, k' with
  | .i8, .i8 | .i16, .i16 | .i32, .i32 | .i64, .i64 | .u8, .u8 | .u16, .u16 | .u32, .u32 | .u64, .u64 => true
  | _, _ => false
/-- The numbers in cells. -/
def intsK : List KV → Option (List (IntKind × Int))
  | [] => some []
  | c :: r => match numK c with
    | some (_, k, n) => match intsK r with
      | some l => some ((k, n) :: l)
      | none => none
    | none => none
def kindsK : List (IntKind × Int) → List (IntKind × Int) → Bool
  | [], [] => true
  | (k, _) :: r, (k', _) :: s => match sameK k k' with
    | true => kindsK r s
    | false => false
  | _, _ => false
/-- Data, in a slot. -/
def okDat : KV → Bool
  | .agg cs => allD cs
  | c => c.isD
/-- The entries of what is a map. -/
def mapPs (S : KSt) : KV → Option (List KP)
  | .osl id => match lk S.O id with
    | some R => match Nat.beq R.sz 0 && R.nn with
      | true => some R.ps
      | false => none
    | none => none
  | .mp α d l f => some [.mp α d l f]
  | .d (.map rows) => some [.raw rows]
  | .nilmap => some []
  | _ => none
section
variable {σ : Type} (I : Prim σ) (tb : Nat → Option TI)
/-- What an element of a row of one's own holds. -/
def getK (i : TI) (sz : Nat) (ix : Int) (j : Nat) (α : Type) (d : α) (l : List α) (f : α → Nat → KV) (K : KV → Prop) : Prop :=
  I.conj (I.inb ix (I.plen [.ls α d l f])) (match i.ag with
      | false => kif (Nat.blt j sz) (kif (f (I.get α d l ix) j).isD (K (f (I.get α d l ix) j)))
      | true => kif (Nat.ble (j + i.sz) sz) (kif (allD (rowK sz 0 (f (I.get α d l ix)))) (K (.agg (takeK i.sz (dropK j (rowK sz 0 (f (I.get α d l ix)))))))))
def loadK (t : Nat) (S : KSt) (c : KV) (K : KV → Prop) : Prop :=
  kk (tb t) fun i => match c with
  | .ptr cs => match i.ag with
    | false => match cs with
      | x :: _ => kif x.isD (K x)
      | [] => False
    | true => kif (Nat.ble i.sz (lenK cs)) (kif (allD cs) (K (.agg (takeK i.sz cs))))
  | .loc b off => kk (lk S.H b) fun B => match i.ag with
    | false => kk (nth B.cells off) K
    | true => kif (Nat.ble (off + i.sz) (lenK B.cells)) (K (.agg (takeK i.sz (dropK off B.cells))))
  | .oloc id sz ix j => kk (lk S.O id) fun R => kif (Nat.beq R.sz sz) (match R.ps with
    | [.ls α d l f] => getK I i sz ix j α d l f K
    | ps => I.norm ps sz fun ps' => match ps' with
      | [.ls α d l f] => getK I i sz ix j α d l f K
      | _ => False)
  | _ => False
def fldK (s f : Nat) (c : KV) (K : KV → Prop) : Prop :=
  kk (tb s) fun i => kk (nth i.fl f) fun r => kif (Nat.blt 0 r.2.1) (match c with
    | .ptr cs => K (.ptr (dropK r.1 cs))
    | .loc b o => K (.loc b (o + r.1))
    | .oloc id sz ix j => K (.oloc id sz ix (j + r.1))
    | _ => False)
def litN : KV → Option Nat
  | .lit _ (.ofNat n) => some n
  | _ => none
/-- Which of some numbers an index is. -/
def casesN (ix : Int) : Nat → Nat → (Nat → Prop) → Prop
  | 0, _, _ => False
  | n + 1, k, K => match n with
    | 0 => K k
    | _ => I.tst (I.icmp .eql ix (Int.ofNat k)) (K k) (casesN ix n (k + 1) K)
def idxK (t : Nat) (S : KSt) (c ix : KV) (K : KV → Prop) : Prop :=
  kk (tb t) fun i => match c with
  | .sl _ sz α d l f => kk i.el fun r => kif (Nat.beq r.2 sz) (kk (numK ix) fun n => I.conj (I.inb n.2.2 (I.plen [.ls α d l f])) (K (.ptr (rowK sz 0 (f (I.get α d l n.2.2))))))
  | .slr _ sz rows => kk i.el fun r => kif (Nat.beq r.2 sz) (kk (litN ix) fun n => kk (nth rows n) fun row => K (.ptr row))
  | .osl id => kk i.el fun r => kk (lk S.O id) fun R => kif (Nat.beq r.2 R.sz) (kif (Nat.blt 0 R.sz) <| kk (numK ix) fun n => I.conj (I.inb n.2.2 (I.plen R.ps)) (K (.oloc id R.sz n.2.2 0)))
  | .loc b off => kk i.ar fun r => match litN ix with
    | some n => kif (Nat.blt n r.1) (K (.loc b (off + n * r.2.2)))
    | none => kk (numK ix) fun n => I.conj (I.inb n.2.2 (Int.ofNat r.1)) (casesN I n.2.2 r.1 0 fun m => K (.loc b (off + m * r.2.2)))
  | .ptr cs => kk i.ar fun r => match litN ix with
    | some n => kif (Nat.blt n r.1) (K (.ptr (dropK (n * r.2.2) cs)))
    | none => kk (numK ix) fun n => I.conj (I.inb n.2.2 (Int.ofNat r.1)) (casesN I n.2.2 r.1 0 fun m => K (.ptr (dropK (m * r.2.2) cs)))
  | _ => False
def iopR (op : BinOp) (k : IntKind) (a b : Int) : Int := match op with
  | .add => k.wrap (a + b)
  | .sub => k.wrap (a - b)
  | .mul => k.wrap (a * b)
  | .quo => k.wrap (a.tdiv b)
  | .rem => a.tmod b
  | .and => k.wrap (BitVec.ofInt k.bits a &&& BitVec.ofInt k.bits b).toNat
  | .or => k.wrap (BitVec.ofInt k.bits a ||| BitVec.ofInt k.bits b).toNat
  | .shl => k.wrap (a * 2 ^ (Nat.min b.toNat k.bits))
  | .shr => a.fdiv (2 ^ (Nat.min b.toNat k.bits))
  | _ => 0
def icmpR (op : BinOp) (a b : Int) : Bool := match op with
  | .eql => a == b
  | .neq => a != b
  | .lss => decide (a < b)
  | .leq => decide (a ≤ b)
  | .gtr => decide (a > b)
  | _ => decide (a ≥ b)
def oknzR (op : BinOp) (b : Int) : Prop := match op with
  | .quo | .rem => b ≠ 0
  | _ => 0 ≤ b
/-- What kind of operation it is: 0: neither; 1: a number; 2: a number, where the second one is not 0; 3: a shift; 4: a comparison. -/
def opKind : BinOp → Nat
  | .add | .sub | .mul | .and | .or => 1
  | .quo | .rem => 2
  | .shl | .shr => 3
  | .eql | .neq | .lss | .leq | .gtr | .geq => 4
  | _ => 0
def litZ : KV → Bool
  | .lit _ (.ofNat 0) => false
  | .lit _ (.negSucc _) => false
  | .lit _ _ => true
  | _ => false
def litB (b : Bool) : KV := match b with
  | true => .tt
  | false => .ff
def foldK (op : BinOp) (k : IntKind) (a b : Int) : KV := match op with
  | .add => .lit k (iopR .add k a b)
  | .sub => .lit k (iopR .sub k a b)
  | .mul => .lit k (iopR .mul k a b)
  | _ => .int k (I.iop op k a b)
def notB : Bool → Bool
  | true => false
  | false => true
def eqOp : BinOp → Option Bool
  | .eql => some false
  | .neq => some true
  | _ => none
def binK (t : Nat) (op : BinOp) (c d : KV) (K : KV → Prop) : Prop :=
  match numK c with
  | some (la, k, a) => kk (numK d) fun n => match opKind op with
    | 1 => kif (sameK k n.2.1) (match la && n.1 with
      | true => K (foldK I op k a n.2.2)
      | false => K (.int k (I.iop op k a n.2.2)))
    | 2 => kif (sameK k n.2.1) (match litZ d with
      | true => K (.int k (I.iop op k a n.2.2))
      | false => I.conj (I.oknz op n.2.2) (K (.int k (I.iop op k a n.2.2))))
    | 3 => I.conj (I.oknz op n.2.2) (K (.int k (I.iop op k a n.2.2)))
    | 4 => kif (sameK k n.2.1) (match la && n.1 with
      | true => K (litB (icmpR op a n.2.2))
      | false => K (.bool (I.icmp op a n.2.2)))
    | _ => False
  | none => kk (tb t) fun i => match i.un with
    | .bool => kk (boolK c) fun a => kk (boolK d) fun b => match op with
      | .eql => K (.bool (I.beq a b))
      | .neq => K (.bool (I.not (I.beq a b)))
      | _ => False
    | _ => match d with
      | .nilsl => kk i.el fun _ => kk (eqOp op) fun neq => match c with
        | .nilsl => K (litB (notB neq))
        | .slr _ _ (_ :: _) => K (litB neq)
        | .sl _ _ α x l f => I.conj (I.le 1 (I.plen [.ls α x l f])) (K (litB neq))
        | _ => False
      | .agg ds => match c with
        | .agg cs => kk i.eqn fun n => kk (eqOp op) fun neq => kk (intsK cs) fun l => kk (intsK ds) fun m => kif (Nat.beq (lenK l) n) (kif (kindsK l m) (K (.bool (match neq with | true => I.not (I.eqs l m) | false => I.eqs l m))))
        | _ => False
      | _ => False
def notK (c : KV) (K : KV → Prop) : Prop := match c with
  | .bool b => K (.bool (I.not b))
  | .tt => K .ff
  | .ff => K .tt
  | _ => False
def lenP' (t : Nat) (S : KSt) (c : KV) (K : KV → Prop) : Prop :=
  kk (tb t) fun i => match c with
  | .sl _ _ α d l f => kk i.el fun _ => K (.int .i64 (I.plen [.ls α d l f]))
  | .slr _ _ rows => kk i.el fun _ => K (.lit .i64 (Int.ofNat (lenK rows)))
  | .nilsl => kk i.el fun _ => K (.lit .i64 0)
  | .osl id => kk (lk S.O id) fun R => kk i.el fun _ => kif (Nat.blt 0 R.sz) (K (.int .i64 (I.plen R.ps)))
  | .str s => match i.un with
    | .str => K (.int .i64 (I.strlen s))
    | _ => False
  | _ => False
def fnK : KV → Option (Nat × List KV)
  | .fn f cs => some (f, cs)
  | .dfn f cs => match allD cs with
    | true => some (f, cs)
    | false => none
  | _ => none
def kopL (T : List (Nat × KV)) : List Operand → Option (List KV)
  | [] => some []
  | x :: r => match kop T x with
    | some c => match kopL T r with
      | some l => some (c :: l)
      | none => none
    | none => none
/-- A row by content. -/
def rowKV (R : KRow) : KV := match R.ps with
  | [.ls α d l f] => .sl false R.sz α d l f
  | [.rw rows] => .slr false R.sz rows
  | ps => .d (.sl false R.sz (rowsD R.sz ps))
/-- A map's entries. -/
def mapRows : List KP → List (List D)
  | [.raw r] => r
  | ps => rowsD 0 ps
/-- A map by content. -/
def mapKV : List KP → KV
  | [.mp α d l f] => .mp α d l f
  | ps => .d (.map (mapRows ps))
/-- A row by content: a slice, or a map. -/
def rowSn (R : KRow) : Option KV := match Nat.blt 0 R.sz with
  | true => some (rowKV R)
  | false => match R.nn with
    | true => some (mapKV R.ps)
    | false => none
def liveOk (lv live : Bool) : Bool := match live with
  | true => lv
  | false => true
def mapK (f : KV → Option KV) : List KV → Option (List KV)
  | [] => some []
  | c :: r => match f c with
    | some v => match mapK f r with
      | some l => some (v :: l)
      | none => none
    | none => none
def omap {α β : Type u} (x : Option α) (f : α → β) : Option β := match x with
  | some a => some (f a)
  | none => none
def snapK (lv : Bool) (S : KSt) : Nat → KV → Option KV
  | 0, _ => none
  | n + 1, c => match c with
    | .agg cs => omap (mapK (snapK lv S n) cs) KV.agg
    | .fn f cs => omap (mapK (snapK lv S n) cs) (KV.dfn f)
    | .loc b off => match lk S.H b with
      | some B => match liveOk lv B.live with
        | true => omap (mapK (snapK lv S n) B.cells) fun l => KV.ptr (dropK off l)
        | false => none
      | none => none
    | .osl id => match lk S.O id with
      | some R => match liveOk lv R.live with
        | true => rowSn R
        | false => none
      | none => none
    | .lit k n => some (.int k n)
    | .tt => some (.bool true)
    | .ff => some (.bool false)
    | c => match c.isD with
      | true => some c
      | false => none
def idxK' (n : Nat) : List Nat → Nat → Option Nat
  | [], _ => none
  | k :: r, i => match Nat.beq k n with
    | true => some i
    | false => idxK' n r (i + 1)
def lessK (ids : List Nat) : List (Nat × KRow) → List (Nat × KRow)
  | [] => []
  | (k, R) :: r => match memN k ids with
    | true => lessK ids r
    | false => (k, R) :: lessK ids r
def rowsOfK (S : KSt) : List Nat → Option (List KRow)
  | [] => some []
  | id :: r => match lk S.O id with
    | some R => match R.live with
      | true => match rowsOfK S r with
        | some l => some (R :: l)
        | none => none
      | false => none
    | none => none
def lessHK (ids : List Nat) : List (Nat × KBlk) → List (Nat × KBlk)
  | [] => []
  | (k, R) :: r => match memN k ids with
    | true => lessHK ids r
    | false => (k, R) :: lessHK ids r
def KSt.lessW (S : KSt) (hb hr : List Nat) : KSt := ⟨S.n, S.T, lessHK hb S.H, lessK hr S.O, S.low⟩
def blksOfK (S : KSt) : List Nat → Option (List KBlk)
  | [] => some []
  | id :: r => match lk S.H id with
    | some R => match R.live with
      | true => match blksOfK S r with
        | some l => some (R :: l)
        | none => none
      | false => none
    | none => none
mutual
/-- The live rows (boxes) that an argument names. -/
def handR (S : KSt) : KV → List Nat
  | .osl id => match lk S.O id with
    | some R => match R.live with
      | true => [id]
      | false => []
    | none => []
  | .agg cs => handRL S cs
  | _ => []
def handRL (S : KSt) : List KV → List Nat
  | [] => []
  | c :: r => handR S c ++ handRL S r
end
mutual
def handB (S : KSt) : KV → List Nat
  | .loc b _ => match lk S.H b with
    | some R => match R.live with
      | true => [b]
      | false => []
    | none => []
  | .agg cs => handBL S cs
  | _ => []
def handBL (S : KSt) : List KV → List Nat
  | [] => []
  | c :: r => handB S c ++ handBL S r
end
def snapWK (S : KSt) (hb hr : List Nat) : Nat → KV → Option KV
  | 0, _ => none
  | n + 1, c => match c with
    | .agg cs => omap (mapK (snapWK S hb hr n) cs) .agg
    | .osl id => match idxK' id hr 0 with
      | some i => some (.osl (100 + i))
      | none => snapK true (S.lessW hb hr) 8 (.osl id)
    | .loc b off => match idxK' b hb 0 with
      | some i => some (.loc i off)
      | none => snapK true (S.lessW hb hr) 8 (.loc b off)
    | .tup _ => none
    | c => snapK true (S.lessW hb hr) 8 c
def nodupK : List Nat → Bool
  | [] => true
  | k :: r => match memN k r with
    | true => false
    | false => nodupK r
def enumK (q : Nat) : List KRow → List (Nat × KRow)
  | [] => []
  | R :: r => (q, R) :: enumK (q + 1) r
mutual
def KV.sh (q : Nat) : KV → KV
  | .agg cs => .agg (KV.shL q cs)
  | .tup cs => .tup (KV.shL q cs)
  | .osl id => .osl (q + id)
  | c => c
def KV.shL (q : Nat) : List KV → List KV
  | [] => []
  | c :: r => c.sh q :: KV.shL q r
end
mutual
def KV.rowsBelow (n : Nat) : KV → Bool
  | .agg cs => KV.rowsBelowL n cs
  | .tup cs => KV.rowsBelowL n cs
  | .osl id => Nat.blt id n
  | .fn _ _ => false
  | .loc _ _ => false
  | .oloc _ _ _ _ => false
  | .yld => false
  | _ => true
def KV.rowsBelowL (n : Nat) : List KV → Bool
  | [] => true
  | c :: r => match c.rowsBelow n with
    | true => KV.rowsBelowL n r
    | false => false
end
mutual
def KV.scalar : KV → Bool
  | .int _ _ | .lit _ _ | .bool _ | .tt | .ff | .str _ => true
  | .agg cs => KV.scalarL cs
  | .tup cs => KV.scalarL cs
  | _ => false
def KV.scalarL : List KV → Bool
  | [] => true
  | c :: r => match c.scalar with
    | true => KV.scalarL r
    | false => false
end
mutual
/-- Numbers, and rows of one's own. -/
def KV.ownly : KV → Bool
  | .int _ _ | .lit _ _ | .bool _ | .tt | .ff | .str _ => true
  | .osl _ => true
  | .agg cs => KV.ownlyL cs
  | .tup cs => KV.ownlyL cs
  | _ => false
def KV.ownlyL : List KV → Bool
  | [] => true
  | c :: r => match c.ownly with
    | true => KV.ownlyL r
    | false => false
end
def dataHs : List KBlk → Bool
  | [] => true
  | B :: r => match allD B.cells with
    | true => dataHs r
    | false => false
def scalHs : List KBlk → Bool
  | [] => true
  | B :: r => match B.live with
    | true => match KV.scalarL B.cells with
      | true => scalHs r
      | false => false
    | false => false
def stAs {α : Type u} : List (Nat × α) → List Nat → List α → List (Nat × α)
  | T, b :: bs, B :: Bs => stAs (stA T b B) bs Bs
  | T, _, _ => T
/-- Rows as a contract speaks of them: whether a slice is nil is left open. -/
def nnK (R : KRow) : KRow := match Nat.blt 0 R.sz with
  | true => ⟨R.e, R.sz, R.ps, false, R.live⟩
  | false => R
def nnKL : List KRow → List KRow
  | [] => []
  | R :: r => nnK R :: nnKL r
def backK : List KRow → List KRow → List KRow
  | R0 :: r, R :: q => ⟨R.e, R.sz, R.ps, R0.nn, R.live⟩ :: backK r q
  | _, _ => []
def okBack : List KRow → List KRow → Bool
  | R0 :: r, R :: q => match Nat.blt 0 R.sz with
    | true => okBack r q
    | false => match R.nn, R0.nn with
      | true, true => okBack r q
      | false, false => okBack r q
      | _, _ => false
  | [], [] => true
  | _, _ => false
/-- A call of a function that writes what it is handed: its mark in pz. -/
def wrFn (pz : List Nat) : Operand → Option Nat
  | .func g => match memN (g + 5000000) pz with
    | true => some g
    | false => none
  | _ => none
def isNil {α : Type u} : List α → Bool
  | [] => true
  | _ => false
/-- What comes behind a call, once its result is told. -/
def thenC (nb : Nat) (lv : Bool) (K : KV → List (Nat × KBlk) → List (Nat × KRow) → Prop) (res : KV) (rows : List KRow) : Prop :=
  match lv with
  | false => kif (res.rowsBelow (lenK rows)) (K (res.sh nb) [] (enumK nb rows))
  | true => match isNil rows with
    | true => kif res.scalar (kif (res.rowsBelow 0) (K (res.sh nb) [] []))
    | false => I.conj (I.nums rows) (kif res.ownly (kif (res.rowsBelow (lenK rows)) (K (res.sh nb) [] (enumK nb rows))))
def callK (f : Operand) (args : List Operand) (S : KSt) (nb : Nat) (K : KV → List (Nat × KBlk) → List (Nat × KRow) → Prop) : Prop :=
  kk (kop S.T f) fun fv => kk (kopL S.T args) fun cs => match fv with
    | .d (.fn g ds) => I.conj (I.noagg ds) (match mapK (snapK false S 8) cs with
      | some xs => I.CD g xs ds (thenC I nb false K)
      | none => kk (mapK (snapK true S 8) cs) fun xs => I.CD g xs ds (thenC I nb true K))
    | fv => kk (fnK fv) fun r => match mapK (snapK false S 8) (cs ++ r.2) with
      | some xs => I.C r.1 xs (thenC I nb false K)
      | none => kk (mapK (snapK true S 8) (cs ++ r.2)) fun xs => I.C r.1 xs (thenC I nb true K)
def builtK (b : Builtin) (args : List Operand) (ts : List Nat) (S : KSt) (K : KV → Prop) : Prop :=
  match b with
  | .len => match args, ts with
    | [x], [t] => kk (kop S.T x) fun c => kk (tb t) fun i => match i.mp with
      | some _ => kk (mapPs S c) fun ps => K (.int .i64 (I.plen ps))
      | none => lenP' I tb t S c K
    | _, _ => False
  | .max => match args with
    | [x, y] => kk (kop S.T x) fun c => kk (kop S.T y) fun d => kk (numK c) fun a => kk (numK d) fun b => kif (sameK a.2.1 b.2.1) (K (.int a.2.1 (I.max a.2.2 b.2.2)))
    | [x, y, z] => kk (kop S.T x) fun c => kk (kop S.T y) fun d => kk (kop S.T z) fun e => kk (numK c) fun a => kk (numK d) fun b => kk (numK e) fun g => kif (sameK a.2.1 b.2.1) (kif (sameK a.2.1 g.2.1) (K (.int a.2.1 (I.max (I.max a.2.2 b.2.2) g.2.2))))
    | _ => False
  | .min => match args with
    | [x, y] => kk (kop S.T x) fun c => kk (kop S.T y) fun d => kk (numK c) fun a => kk (numK d) fun b => kif (sameK a.2.1 b.2.1) (K (.int a.2.1 (I.min a.2.2 b.2.2)))
    | _ => False
  | _ => False
def cellsK : KV → Option (List KV)
  | .any => none
  | .agg cs => some cs
  | .tup _ => none
  | .d (.fn f l) => some [.d (.fn f l)]
  | .d (.bnd f a l) => some [.d (.bnd f a l)]
  | .d (.sl c s l) => some [.d (.sl c s l)]
  | .d (.map l) => some [.d (.map l)]
  | .d _ => none
  | v => some [v]
def partsK (T : List (Nat × KV)) : List (Nat × Operand) → Option (List (Nat × KV))
  | [] => some []
  | (i, x) :: r => match kop T x with
    | some c => match partsK T r with
      | some l => some ((i, c) :: l)
      | none => none
    | none => none
def putK (cells : List KV) (off : Nat) (cs : List KV) : List KV := takeK off cells ++ cs ++ dropK (off + lenK cs) cells
def Pl.atK : Pl → Nat → Option (Nat × Nat)
  | .st l, i => nth l i
  | .ar n, i => some (i * n, n)
def fillK (pl : Pl) : List KV → List (Nat × KV) → Option (List KV)
  | cells, [] => some cells
  | cells, (i, c) :: r => match pl.atK i with
    | some (off, n) => match cellsK c with
      | some cs => match Nat.beq (lenK cs) n && Nat.ble (off + n) (lenK cells) with
        | true => fillK pl (putK cells off cs) r
        | false => none
      | none => none
    | none => none
def chunks (sz : Nat) : Nat → List KV → List (List KV)
  | 0, _ => []
  | n + 1, l => takeK sz l :: chunks sz n (dropK sz l)
def anys : Nat → List KV
  | 0 => []
  | n + 1 => .any :: anys n
mutual
def KV.boxes (nb : Nat) : KV → Bool
  | .agg cs => KV.boxesL nb cs
  | .tup cs => KV.boxesL nb cs
  | .fn _ cs => KV.boxesL nb cs
  | .loc b _ => Nat.beq b nb
  | _ => false
def KV.boxesL (nb : Nat) : List KV → Bool
  | [] => false
  | c :: r => match c.boxes nb with
    | true => true
    | false => KV.boxesL nb r
end
/-- What an append takes its elements from. -/
def srcK (S : KSt) (id sz : Nat) : KV → Option (List KP)
  | .sl _ sz' α d l f => match Nat.beq sz' sz with | true => some [.ls α d l f] | false => none
  | .slr _ sz' rows => match Nat.beq sz' sz with | true => some [.rw rows] | false => none
  | .nilsl => some []
  | .osl id' => match lk S.O id' with
    | some R => match Nat.beq R.sz sz && !(Nat.beq id id') with | true => some R.ps | false => none
    | none => none
  | _ => none
/-- Appending to an empty slice that nobody owns. -/
def appK (args : List Operand) (ts : List Nat) (S : KSt) (nb : Nat) (K : KV → Prop) : Prop :=
  match args, ts with
  | [x, y], [t, t'] => kif (Nat.beq t t') (kk (kop S.T x) fun c => kk (kop S.T y) fun d => kk (tb t) fun i => kk i.el fun r => kk (tb r.1) fun j => kk j.z fun zc => kif (Nat.beq (lenK zc) r.2) (kif (Nat.blt 0 r.2) (match c with
    | .slr true sz [] => kif (Nat.beq sz r.2) (kk (srcK S nb sz d) fun news => I.conj (I.fits news j.bytes) (K (rowKV ⟨r.1, sz, news, true, true⟩)))
    | _ => False)))
  | _, _ => False
/-- As appK, for a result of one's own; for nothing appended. -/
def appOK (args : List Operand) (ts : List Nat) (S : KSt) (nb : Nat) (K : KV → List (Nat × KBlk) → List (Nat × KRow) → Prop) : Prop :=
  match args, ts with
  | [x, y], [t, t'] => kif (Nat.beq t t') (kk (kop S.T x) fun c => kk (kop S.T y) fun d => kk (tb t) fun i => kk i.el fun r => kk (tb r.1) fun j => kk j.z fun zc => kif (Nat.beq (lenK zc) r.2) (kif (Nat.blt 0 r.2) (match c with
    | .slr true sz [] => kif (Nat.beq sz r.2) (kk (srcK S nb sz d) fun news => I.conj (I.le 1 (I.plen news)) (I.conj (I.fits news j.bytes) (K (.osl nb) [] [(nb, ⟨r.1, sz, news, true, true⟩)])))
    | _ => False)))
  | _, _ => False
def appNK (args : List Operand) (ts : List Nat) (S : KSt) (nb : Nat) (K : KV → Prop) : Prop :=
  match args, ts with
  | [x, y], [t, t'] => kif (Nat.beq t t') (kk (kop S.T x) fun c => kk (kop S.T y) fun d => kk (tb t) fun i => kk i.el fun r => kk (tb r.1) fun j => kk j.z fun zc => kif (Nat.beq (lenK zc) r.2) (kif (Nat.blt 0 r.2) (match c with
    | .slr true sz [] => kif (Nat.beq sz r.2) (kk (srcK S nb sz d) fun news => I.conj (I.plen news = 0) (K (.slr true sz [])))
    | _ => False)))
  | _, _ => False
/-- A slot's mark in pz. -/
def modeK (pz : List Nat) (d : Option Nat) (k : Nat) : Bool := match d with
  | some t => memN (t + k) pz
  | none => false
/-- An element of an array value. -/
def aggK (cs : List KV) (ag : Bool) (sz n : Nat) (K : KV → Prop) : Prop := match ag with
  | false => kk (nth cs (n * sz)) K
  | true => kif (Nat.ble (n * sz + sz) (lenK cs)) (K (.agg (takeK sz (dropK (n * sz) cs))))
def freeK (pz : List Nat) (o : Oper) (S : KSt) (nb : Nat) (K : KV → List (Nat × KBlk) → List (Nat × KRow) → Prop) : Prop :=
  match o.op with
  | .move x => kk (kop S.T x) fun c => K c [] []
  | .assign x => kk (kop S.T x) fun c => K c [] []
  | .pick x y z => kk (kop S.T x) fun c => match c with
    | .tt => kk (kop S.T y) fun c => K c [] []
    | .ff => kk (kop S.T z) fun c => K c [] []
    | .bool b => I.tst b (kk (kop S.T y) fun c => K c [] []) (kk (kop S.T z) fun c => K c [] [])
    | _ => False
  | .extract x i => kk (kop S.T x) fun c => match c with
    | .tup cs => kk (nth cs i) fun c => K c [] []
    | _ => False
  | .fieldAddr s x f => kk (kop S.T x) fun c => fldK tb s f c fun r => K r [] []
  | .load t x => kk (kop S.T x) fun c => loadK I tb t S c fun r => K r [] []
  | .indexAddr t x ix => kk (kop S.T x) fun c => kk (kop S.T ix) fun d => idxK I tb t S c d fun r => K r [] []
  | .index t x ix => kk (kop S.T x) fun c => kk (kop S.T ix) fun d => kk (tb t) fun i => match i.un with
    | .str => match c with
      | .str s => kk (numK d) fun n => I.conj (I.inb n.2.2 (I.strlen s)) (K (.int .u8 (I.strat s n.2.2)) [] [])
      | _ => False
    | _ => match c with
      | .agg cs => kk i.ar fun r => kk (tb r.2.1) fun j => match litN d with
        | some n => kif (Nat.blt n r.1) (aggK cs j.ag r.2.2 n fun c => K c [] [])
        | none => kk (numK d) fun n => I.conj (I.inb n.2.2 (Int.ofNat r.1)) (casesN I n.2.2 r.1 0 fun m => aggK cs j.ag r.2.2 m fun c => K c [] [])
      | _ => False
  | .binOp op t x y yt => kk (kop S.T x) fun c => kk (kop S.T y) fun d => binK I tb t op c d fun r => K r [] []
  | .unOp .not t x => kk (kop S.T x) fun c => notK I c fun r => K r [] []
  | .unOp .neg t x => kk (kop S.T x) fun c => kk (numK c) fun n => K (.int n.2.1 (I.neg n.2.1 n.2.2)) [] []
  | .makeFunc (.func f) first cap => match first.toList with
    | [] => kk (kopL S.T cap.toList) fun cs => K (.fn f cs) [] []
    | l => match cap.toList with
      | [] => kk (kopL S.T l) fun cs => kk (mapK (snapK false S 8) cs) fun xs => K (.bfn f xs) [] []
      | _ => False
  | .field s x f => kk (kop S.T x) fun c => match c with
    | .agg cs => kk (tb s) fun i => kk (nth i.fl f) fun r => kk (tb r.2.2) fun j => match j.ag with
      | false => kk (nth cs r.1) fun c => K c [] []
      | true => kif (Nat.ble (r.1 + r.2.1) (lenK cs)) (K (.agg (takeK r.2.1 (dropK r.1 cs))) [] [])
    | _ => False
  | .box e x => kk (kop S.T x) fun c => kk (cellsK c) fun cs => match KV.boxesL nb cs with
    | true => False
    | false => K (.loc nb 0) [(nb, ⟨e, cs, true⟩)] []
  | .alloc e => kk (tb e) fun i => kk i.z fun cs => K (.loc nb 0) [(nb, ⟨e, cs, true⟩)] []
  | .build t parts => kk (tb t) fun i => kk i.z fun z => kk i.pl fun pl => kk (partsK S.T parts.toList) fun ps => kk (fillK pl z ps) fun cs => K (.agg cs) [] []
  | .buildSlice t len parts => kk (tb t) fun i => kk i.el fun r => kk (tb r.1) fun j => kk j.z fun _ => kif (Nat.ble (len * r.2) 16777216) (kif (Nat.ble len 16777216) (match len with
      | 0 => match parts.toList with
        | [] => match (match o.dst with | some t => memN t pz | none => false) with
          | true => K (.slr true r.2 []) [] []
          | false => kif (Nat.blt 0 r.2) (K (.osl nb) [] [(nb, ⟨r.1, r.2, [], true, true⟩)])
        | _ => False
      | n + 1 => kk (partsK S.T parts.toList) fun ps => kk (fillK (.ar r.2) (anys ((n + 1) * r.2)) ps) fun cells => kif (allD cells) (kif (Nat.beq (lenK cells) ((n + 1) * r.2)) (match modeK pz o.dst 6000000 with
          | true => kif (Nat.blt 0 r.2) (K (.osl nb) [] [(nb, ⟨r.1, r.2, [.rw (chunks r.2 (n + 1) cells)], true, true⟩)])
          | false => K (.slr true r.2 (chunks r.2 (n + 1) cells)) [] []))))
  | .makeSlice t x y => kk (kop S.T x) fun c => kk (kop S.T y) fun d => kk (numK c) fun a => kk (numK d) fun b => kk (tb t) fun i => kk i.el fun r => kk (tb r.1) fun j => kk j.z fun z => kif (allD z) (kif (Nat.beq (lenK z) r.2) (kif (Nat.blt 0 r.2) (I.conj (a.2.2 = b.2.2) (I.conj (I.mkok a.2.2 j.bytes) (K (.osl nb) [] [(nb, ⟨r.1, r.2, I.reps a.2.2 z, true, true⟩)])))))
  | .slice t x low high none => kk (kop S.T x) fun c => kk (tb t) fun i => match c with
    | .sl _ sz α d l f => kk i.el fun r => kif (Nat.beq r.2 sz) (kk (match low with
        | none => some 0
        | some y => match kop S.T y with
          | some v => match numK v with
            | some n => some n.2.2
            | none => none
          | none => none) fun lo => kk (match high with
        | none => some (I.plen [.ls α d l f])
        | some y => match kop S.T y with
          | some v => match numK v with
            | some n => some n.2.2
            | none => none
          | none => none) fun hi => I.conj (I.le 0 lo) (I.conj (I.le lo hi) (I.conj (I.le hi (I.plen [.ls α d l f])) (K (.sl false sz α d (I.sub α l lo hi) f) [] []))))
    | _ => False
  | .makeMap t none => K (.osl nb) [] [(nb, ⟨0, 0, [], true, true⟩)]
  | .lookup t x k comma => kk (kop S.T x) fun c => kk (kop S.T k) fun kc => kk (tb t) fun i => kk i.mp fun r => kk (tb r.1) fun ki => kk (tb r.2) fun ei => kk ei.zv fun z => kk (mapPs S c) fun ps => kif (okDat kc) (I.mget (kun ki) ps kc z fun v b => match comma with
      | true => K (.tup [v, .bool b]) [] []
      | false => K v [] [])
  | .range t x => kk (kop S.T x) fun c => kk (tb t) fun i => kk i.mp fun _ => match c with
    | .mp α d l f => K (.osl nb) [] [(nb, ⟨0, 0, [.rw [[.mp α d l f, .ff]], .mp α d l f], false, true⟩)]
    | _ => False
  | .convert s d x => kk (kop S.T x) fun c => kk (tb s) fun si => kk (tb d) fun di => match c with
    | .int _ n => match di.un with
      | .int k => K (.int k (I.conv k n)) [] []
      | _ => False
    | .lit ks n => match di.un with
      | .int k => kif (sameK ks k) (K (.lit k (IntKind.wrap k n)) [] [])
      | _ => False
    | _ => False
  | .call c => match c.callee with
    | .value f => callK I f c.args.toList S nb K
    | .builtin .append => match modeK pz o.dst 100000 with
      | true => appOK I tb c.args.toList c.argTypes.toList S nb K
      | false => match modeK pz o.dst 200000 with
        | true => appNK I tb c.args.toList c.argTypes.toList S nb fun r => K r [] []
        | false => appK I tb c.args.toList c.argTypes.toList S nb fun r => K r [] []
    | .builtin b => builtK I tb b c.args.toList c.argTypes.toList S fun r => K r [] []
    | .invoke _ _ => False
  | _ => False
/-- The slot that a test is read of is known, on each way. -/
def KSt.lit (S : KSt) (x : Operand) (v : KV) : KSt := match x with
  | .tmp t => ⟨S.n, (t, v) :: S.T, S.H, S.O, S.low⟩
  | _ => S
def wantK (ops : List Oper) (S : KSt) (o : Oper) (A B : KSt → Prop) : Prop := match o.guard with
  | none => A S
  | some (j, want) => kk (nth ops j) fun o' => kk o'.dst fun t => kk (lk S.T t) fun c => match c with
    | .tt => match want with | true => A S | false => B S
    | .ff => match want with | true => B S | false => A S
    | .bool b => match want with
      | true => I.tst b (A (S.lit (.tmp t) .tt)) (B (S.lit (.tmp t) .ff))
      | false => I.tst b (B (S.lit (.tmp t) .tt)) (A (S.lit (.tmp t) .ff))
    | .tup [] => B S
    | _ => False
def maxKs {α : Type u} : List (Nat × α) → Nat → Nat
  | [], m => m
  | (k, _) :: r, m => match Nat.ble 100 k with
    | true => maxKs r m
    | false => match Nat.blt k m with
      | true => maxKs r m
      | false => maxKs r (k + 1)
def freshNK (S : KSt) : Nat := maxKs S.O (maxKs S.H S.low)
mutual
def KV.hasRow (id : Nat) : KV → Bool
  | .agg cs => KV.hasRowL id cs
  | .tup cs => KV.hasRowL id cs
  | .fn _ cs => KV.hasRowL id cs
  | .osl i => Nat.beq i id
  | .oloc i _ _ _ => Nat.beq i id
  | _ => false
def KV.hasRowL (id : Nat) : List KV → Bool
  | [] => false
  | c :: r => match c.hasRow id with
    | true => true
    | false => KV.hasRowL id r
end
def freeT (nb : Nat) : List (Nat × KV) → Bool
  | [] => true
  | (_, c) :: r => match c.boxes nb with
    | true => false
    | false => freeT nb r
def freeH (nb : Nat) : List (Nat × KBlk) → Bool
  | [] => true
  | (k, B) :: r => match Nat.beq k nb with
    | true => false
    | false => match KV.boxesL nb B.cells with
      | true => false
      | false => freeH nb r
def freeRT (nb : Nat) : List (Nat × KV) → Bool
  | [] => true
  | (_, c) :: r => match c.hasRow nb with
    | true => false
    | false => freeRT nb r
def freeRH (nb : Nat) : List (Nat × KBlk) → Bool
  | [] => true
  | (k, B) :: r => match KV.hasRowL nb B.cells with
    | true => false
    | false => freeRH nb r
def freeRO (nb : Nat) : List (Nat × KRow) → Bool
  | [] => true
  | (k, _) :: r => match Nat.beq k nb with
    | true => false
    | false => freeRO nb r
/-- The new names are free. -/
def freshKH (S : KSt) : List (Nat × KBlk) → Bool
  | [] => true
  | (b, _) :: r => Nat.ble S.low b && freeT b S.T && freeH b S.H && freshKH S r
def freshKO (S : KSt) : List (Nat × KRow) → Bool
  | [] => true
  | (b, _) :: r => Nat.ble S.low b && Nat.blt b 100 && freeRT b S.T && freeRH b S.H && freeRO b S.O && freshKO S r
def dstK (S : KSt) : Option Nat → Bool
  | some t => Nat.blt t S.n
  | none => true
def forgT (id : Nat) : List (Nat × KV) → List (Nat × KV)
  | [] => []
  | (t, c) :: r => match c.hasRow id with
    | true => (t, .any) :: forgT id r
    | false => (t, c) :: forgT id r
def forgL (id : Nat) : List KV → List KV
  | [] => []
  | c :: r => match c.hasRow id with
    | true => .any :: forgL id r
    | false => c :: forgL id r
def forgH (id : Nat) : List (Nat × KBlk) → List (Nat × KBlk)
  | [] => []
  | (b, B) :: r => (b, ⟨B.e, forgL id B.cells, B.live⟩) :: forgH id r
/-- Pieces, put together. -/
def joinP : List KP → List KP → List KP
  | [.rw a], [.rw b] => [.rw (a ++ b)]
  | a, b => a ++ b
/-- Is it an operation that writes what was there? -/
def isBarK (pz : List Nat) (o : Oper) (S : KSt) : Bool := match o.op with
  | .store _ _ _ => true
  | .mapUpdate _ _ _ _ => true
  | .entry _ => true
  | .next _ _ => true
  | .call c => match c.callee with
    | .builtin .append => match c.args.toList with
      | x :: _ => match kop S.T x with
        | some (.slr true _ []) => false
        | _ => true
      | [] => true
    | .builtin .copy => true
    | .builtin .delete => true
    | .value f => match wrFn pz f with
      | some _ => true
      | none => match kop S.T f with
        | some .yld => true
        | _ => false
    | _ => false
  | _ => false
/-- A call that hands over boxes and rows. -/
def wrCallK (g : Nat) (args : List Operand) (S : KSt) (dst : Option Nat) (K : KSt → Prop) : Prop :=
  kk (kopL S.T args) fun cs => match handBL S cs, handRL S cs with
  | hb, hr => kif (nodupK hb && nodupK hr) (kk (blksOfK S hb) fun Hs => kk (rowsOfK S hr) fun Os => kif (dataHs Hs) (kk (mapK (snapWK S hb hr 8) cs) fun xs =>
      I.CW g xs Hs (nnKL Os) fun res Bs Rs => kif (Nat.beq (lenK Bs) (lenK Hs) && okBack Os Rs && res.scalar && scalHs Bs) (I.conj (I.nums Rs)
        (K ⟨S.n, (match dst with | some t => (t, res) :: S.T | none => S.T), stAs S.H hb Bs, stAs S.O hr (backK Os Rs), S.low⟩))))
def barK (pz : List Nat) (o : Oper) (S : KSt) (s : σ) (nb : Nat) (K : KSt → σ → Prop) : Prop := match o.op with
  | .store t p x => kk (kop S.T p) fun c => kk (kop S.T x) fun d => kk (cellsK d) fun cs => kk (tb t) fun i => kif (Nat.beq i.sz (lenK cs)) (match o.dst with
    | some _ => False
    | none => match c with
      | .loc b off => kk (lk S.H b) fun B => kif B.live (kif (Nat.ble (off + lenK cs) (lenK B.cells)) (K ⟨S.n, S.T, stA S.H b ⟨B.e, putK B.cells off cs, true⟩, S.O, S.low⟩ s))
      | .oloc id sz ix j => kk (lk S.O id) fun R => kif (R.live && Nat.beq R.sz sz) (kif (Nat.ble (j + lenK cs) sz) (kif (allD cs) (I.conj (I.inb ix (I.plen R.ps)) (I.setl R.ps sz ix j cs fun ps => K ⟨S.n, S.T, S.H, stA S.O id ⟨R.e, R.sz, ps, R.nn, true⟩, S.low⟩ s))))
      | _ => False)
  | .call c => match c.callee with
    | .builtin .append => match c.args.toList, c.argTypes.toList with
      | [x, y], [t, t'] => kif (Nat.beq t t') (kif (dstK S o.dst) (kk (kop S.T x) fun c => kk (kop S.T y) fun d => kk (tb t) fun i => kk i.el fun r => kk (tb r.1) fun j => kk j.z fun zc => kif (Nat.beq (lenK zc) r.2) (kif (Nat.blt 0 r.2) (match c with
          | .osl id => kk (lk S.O id) fun R => kif (R.live && Nat.beq R.e r.1 && Nat.beq R.sz r.2 && Nat.blt id 100) (kk (srcK S id R.sz d) fun news => I.conj (I.fits (joinP R.ps news) j.bytes)
              (K ⟨S.n, (match o.dst with | some t => (t, .osl id) :: forgT id S.T | none => forgT id S.T), forgH id S.H, stA S.O id ⟨R.e, R.sz, joinP R.ps news, R.nn, true⟩, S.low⟩ s))
          | .nilsl => kk (srcK S nb r.2 d) fun news => I.conj (I.fits news j.bytes) (kif (freshKO S [(nb, ⟨r.1, r.2, [], false, true⟩)])
              (K ⟨S.n, (match o.dst with | some t => (t, .osl nb) :: forgT nb S.T | none => forgT nb S.T), forgH nb S.H, (nb, ⟨r.1, r.2, news, false, true⟩) :: S.O, S.low⟩ s))
          | .slr true sz (row :: rows) => kif (Nat.beq sz r.2) (kk (srcK S nb sz d) fun news => I.conj (I.le 1 (I.plen news)) (I.conj (I.fits (joinP [.rw (row :: rows)] news) j.bytes) (K (S.add o.dst (rowKV ⟨r.1, sz, joinP [.rw (row :: rows)] news, true, true⟩) [] []) s)))
          | _ => False))))
      | _, _ => False
    | .builtin .copy => match c.args.toList, c.argTypes.toList with
      | [x, y], [t, t'] => kif (Nat.beq t t') (kif (dstK S o.dst) (kk (kop S.T x) fun c => kk (kop S.T y) fun d => kk (tb t) fun i => kk i.el fun r => match c with
          | .osl id => kk (lk S.O id) fun R => kif (R.live && Nat.beq R.e r.1 && Nat.beq R.sz r.2) (kif (Nat.blt 0 R.sz) <| kk (srcK S id R.sz d) fun news => I.conj (I.le 1 (I.plen news)) (I.conj (I.plen news = I.plen R.ps) (K (KSt.add ⟨S.n, S.T, S.H, stA S.O id ⟨R.e, R.sz, news, R.nn, true⟩, S.low⟩ o.dst (.int .i64 (I.plen news)) [] []) s)))
          | _ => False))
      | _, _ => False
    | .builtin .delete => match c.args.toList, c.argTypes.toList with
      | [x, y], [t, t'] => kif (dstK S o.dst) (kk (kop S.T x) fun c => kk (kop S.T y) fun kc => kk (tb t) fun i => kk i.mp fun r => kk (tb r.1) fun ki => kif kc.isD (match c with
          | .osl id => kk (lk S.O id) fun R => kif (R.live && Nat.beq R.sz 0 && R.nn) (I.mdel (kun ki) R.ps kc fun ps => K (KSt.add ⟨S.n, S.T, S.H, stA S.O id ⟨R.e, R.sz, ps, R.nn, true⟩, S.low⟩ o.dst (.tup []) [] []) s)
          | _ => False))
      | _, _ => False
    | .value f => match wrFn pz f with
      | some g => kif (dstK S o.dst) (wrCallK I g c.args.toList S o.dst fun S' => K S' s)
      | none => kif (dstK S o.dst) (kk (kopL S.T c.args.toList) fun cs => kk (mapK (snapK false S 8) cs) fun xs => I.Y s xs fun b s' => K (S.add o.dst (.bool b) [] []) s')
    | _ => False
  | .mapUpdate t m k x => match o.dst with
    | some _ => False
    | none => kk (kop S.T m) fun c => kk (kop S.T k) fun kc => kk (kop S.T x) fun v => kk (tb t) fun i => kk i.mp fun r => kk (tb r.1) fun ki => kif (okDat kc && okDat v) (match c with
      | .osl id => kk (lk S.O id) fun R => kif (R.live && Nat.beq R.sz 0 && R.nn) (I.mset (kun ki) R.ps kc v fun ps => K ⟨S.n, S.T, S.H, stA S.O id ⟨R.e, R.sz, ps, R.nn, true⟩, S.low⟩ s)
      | _ => False)
  | .entry x => kif (dstK S o.dst) (kk (kop S.T x) fun c => match c with
    | .osl id => kk (lk S.O id) fun R => kif (R.live && Nat.beq R.sz 0 && !R.nn) (match R.ps with
      | .rw [[m, .tt], [k, v]] :: ps => match m with
        | .mp α d l f => kif (okDat k && okDat v) (K (KSt.add ⟨S.n, S.T, S.H, stA S.O id ⟨R.e, R.sz, .rw [[.mp α d l f, .ff]] :: ps, R.nn, true⟩, S.low⟩ o.dst (.tup [k, v]) [] []) s)
        | _ => False
      | _ => False)
    | _ => False)
  | .next x str => match str with
    | true => False
    | false => kif (dstK S o.dst) (kk (kop S.T x) fun c => match c with
      | .osl id => kk (lk S.O id) fun R => kif (R.live && Nat.beq R.sz 0 && !R.nn) (match R.ps with
        | [.rw [[m, .ff]], .mp α d l f] => match m with
          | .mp α' d' l' f' => I.mnext α l (fun x rem => kif (okDat (f x 0) && okDat (f x 1)) (K (KSt.add ⟨S.n, S.T, S.H, stA S.O id ⟨R.e, R.sz, [.rw [[.mp α' d' l' f', .tt], [f x 0, f x 1]], .mp α d rem f], R.nn, true⟩, S.low⟩ o.dst (.tup [.tt, f x 0, f x 1]) [] []) s))
              (K (S.add o.dst (.tup [.ff]) [] []) s)
          | _ => False
        | _ => False)
      | _ => False)
  | _ => False
/-- Where a slot has a row that is frozen, it has data. -/
def seeK (id : Nat) (v : KV) : List (Nat × KV) → List (Nat × KV)
  | [] => []
  | (t, c) :: r => match c with
    | .osl i => match Nat.beq i id with
      | true => (t, v) :: seeK id v r
      | false => (t, .osl i) :: seeK id v r
    | c => (t, c) :: seeK id v r
def frzK (id : Nat) (S : KSt) : KSt := match lk S.O id with
  | some R => match rowSn R with
    | none => S
    | some v => ⟨S.n, seeK id v S.T, S.H, stA S.O id ⟨R.e, R.sz, R.ps, R.nn, false⟩, S.low⟩
  | none => S
mutual
/-- The rows that a value names. -/
def kvRows : KV → List Nat
  | .osl id => [id]
  | .agg cs => kvRowsL cs
  | .tup cs => kvRowsL cs
  | _ => []
def kvRowsL : List KV → List Nat
  | [] => []
  | c :: r => match kvRows c with
    | [] => kvRowsL r
    | [i] => i :: kvRowsL r
    | l => l ++ kvRowsL r
end
def frzI : List Nat → KSt → KSt
  | [], S => S
  | id :: r, S => frzI r (frzK id S)
def frzL : List Nat → KSt → KSt
  | [], S => S
  | t :: r, S => match lk S.T t with
    | some c => frzL r (frzI (kvRows c) S)
    | none => frzL r S
def opTmps : List Operand → List Nat
  | [] => []
  | .tmp t :: r => t :: opTmps r
  | _ :: r => opTmps r
/-- Rows that an operation speaks of are frozen before, where pz says so. -/
def preK (pz : List Nat) (o : Oper) (S : KSt) : KSt := match o.dst with
  | some t => match memN t pz with
    | true => frzL (opTmps o.op.operands.toList) S
    | false => S
  | none => S
def opsK (pz : List Nat) (ops : List Oper) : List Oper → KSt → σ → (KSt → σ → Prop) → Prop
  | [], S, s, K => K S s
  | o :: rest, S, s, K => wantK I ops S o
      (fun S1 => match preK pz o S1 with
        | S => match isBarK pz o S with
          | true => barK I tb pz o S s (freshNK S) (fun S' s' => opsK pz ops rest S' s' K)
          | false => freeK I tb pz o S (freshNK S) fun res nh no => kif (freshKH S nh && freshKO S no && dstK S o.dst) (opsK pz ops rest (S.add o.dst res nh no) s K))
      (fun S => kif (dstK S o.dst) (opsK pz ops rest (S.add o.dst (.tup []) [] []) s K))
def thenK (K : KSt → σ → Prop) (Q : Exit → KSt → σ → Prop) (e : Exit) (S : KSt) (s : σ) : Prop := match e with
  | .normal => K S s
  | e => Q e S s
def blkK (id : Nat) (Q : Exit → KSt → σ → Prop) (e : Exit) (S : KSt) (s : σ) : Prop := match e with
  | .exit j => match Nat.beq j id with
    | true => Q .normal S s
    | false => Q (.exit j) S s
  | e => Q e S s
def scopeK (Q : Exit → KSt → σ → Prop) (e : Exit) (S : KSt) (s : σ) : Prop := match e with
  | .goto _ => False
  | e => Q e S s
/-! Regions that draw their order. -/
structure SgK : Type 1 where
  res : KV
  nh : List (Nat × KBlk)
  no : List (Nat × KRow)
def emptyB (o : Oper) (t : Nat) : Bool := match o.dst with
  | some u => match Nat.beq u t with
    | true => match o.op with
      | .buildSlice _ 0 _ => true
      | _ => false
    | false => false
  | none => false
def emptyL : List Oper → Nat → Bool
  | [], _ => false
  | o :: r, t => match emptyB o t with
    | true => true
    | false => emptyL r t
def appArg (o : Oper) : Option Nat := match o.op with
  | .call c => match c.callee with
    | .builtin .append => match c.args.toList with
      | .tmp t :: _ => some t
      | _ => none
    | _ => none
  | _ => none
/-- Empty slices that are appended to within the region. -/
def pzOf (pz : List Nat) : List Oper → List Nat
  | [] => pz
  | o :: r => match appArg o with
    | some t => t :: pzOf pz r
    | none => pzOf pz r
def isApp (o : Oper) : Bool := match o.op with
  | .call c => match c.callee with
    | .builtin .append => true
    | _ => false
  | _ => false
/-- Not a call of a function value, but of one that writes what it is handed. -/
def notVW (pz : List Nat) (o : Oper) : Bool := match o.op with
  | .next _ _ => false
  | .call c => match c.callee with
    | .value f => match wrFn pz f with
      | some _ => true
      | none => false
    | _ => true
  | _ => true
def anyText : List Edge → Bool
  | [] => false
  | e :: r => match e.ground with
    | .textOnly _ => true
    | _ => anyText r
def isCopy (o : Oper) : Bool := match o.op with
  | .call c => match c.callee with
    | .builtin .copy => true
    | .builtin .delete => true
    | _ => false
  | _ => false
/-- Does all else wait for it? -/
def isBarS (ops : List Oper) (o : Oper) : Bool := match o.op with
  | .store _ _ _ => true
  | .mapUpdate _ _ _ _ => true
  | .entry _ => true
  | _ => match isApp o with
    | true => match appArg o with
      | some t => match emptyL ops t with
        | true => false
        | false => true
      | none => true
    | false => isCopy o
def tmpsK : List Operand → List Nat
  | [] => []
  | .tmp t :: r => t :: tmpsK r
  | _ :: r => tmpsK r
def namesK (ops : List Oper) (o : Oper) : List Nat := match o.guard with
  | some (j, _) => match nth ops j with
    | some o' => match o'.dst with
      | some t => t :: tmpsK o.op.operands.toList
      | none => tmpsK o.op.operands.toList
    | none => tmpsK o.op.operands.toList
  | none => tmpsK o.op.operands.toList
def restrK (T : List (Nat × KV)) : List Nat → List (Nat × KV)
  | [] => []
  | t :: r => match lk T t with
    | some c => (t, c) :: restrK T r
    | none => restrK T r
def depsK : List Oper → List Nat → List Nat
  | [], B => B
  | o :: r, B => depsK r (B ++ [bitsU B o.after.toList 0])
def mentB (b : Nat) : List (Nat × KBlk) → Bool
  | [] => false
  | (k, B) :: r => match Nat.beq k b with
    | true => true
    | false => match KV.boxesL b B.cells with
      | true => true
      | false => mentB b r
def mentRB (b : Nat) : List (Nat × KBlk) → Bool
  | [] => false
  | (k, B) :: r => match KV.hasRowL b B.cells with
    | true => true
    | false => mentRB b r
def mentRO (b : Nat) : List (Nat × KRow) → Bool
  | [] => false
  | (k, B) :: r => match Nat.beq k b with
    | true => true
    | false => mentRO b r
/-- The names that g makes are not spoken of in g'. -/
def apartH (g' : SgK) : List (Nat × KBlk) → Bool
  | [] => true
  | (b, _) :: r => match g'.res.boxes b with
    | true => false
    | false => match mentB b g'.nh with
      | true => false
      | false => apartH g' r
def apartO (g' : SgK) : List (Nat × KRow) → Bool
  | [] => true
  | (b, _) :: r => match g'.res.hasRow b with
    | true => false
    | false => match mentRB b g'.nh with
      | true => false
      | false => match mentRO b g'.no with
        | true => false
        | false => apartO g' r
def apartG (g g' : SgK) : Bool := match apartH g' g.nh with
  | true => apartO g' g.no
  | false => false
def okNew (ops : List Oper) (i : Nat) (g : SgK) : List (Nat × SgK) → Bool
  | [] => true
  | (j, g') :: r => match apartG g g' with
    | true => match apartG g' g with
      | true => okNew ops i g r
      | false => match Nat.testBit ((depsK ops []).getD i 0) j with
        | true => okNew ops i g r
        | false => false
    | false => false
def drawK (pz : List Nat) (ops : List Oper) : List Oper → Nat → KSt → List (Nat × SgK) → KSt → σ → (KSt → σ → Prop) → Prop
  | [], i, S0, Rs, S, s, K => K S s
  | o :: rest, i, S0, Rs, S, s, K => match isBarS ops o with
    | true => wantK I ops S o
      (fun S => kif (isBarK pz o S) (barK I tb pz o S s (freshNK S) (fun S' s' => drawK pz ops rest (i + 1) S' [] S' s' K)))
      (fun S => kif (dstK S o.dst) (drawK pz ops rest (i + 1) (S.add o.dst (.tup []) [] []) [] (S.add o.dst (.tup []) [] []) s K))
    | false => wantK I ops S o
      (fun S => freeK I tb pz o ⟨S.n, restrK S.T (namesK ops o), S0.H, S0.O, S.low⟩ (freshNK S) fun res nh no =>
        kif (freshKH S nh && freshKO S no && freshKH S0 nh && freshKO S0 no && dstK S o.dst && okNew ops i ⟨res, nh, no⟩ Rs) (drawK pz ops rest (i + 1) S0 ((i, ⟨res, nh, no⟩) :: Rs) (S.add o.dst res nh no) s K))
      (fun S => kif (dstK S o.dst && okNew ops i ⟨.tup [], [], []⟩ Rs) (drawK pz ops rest (i + 1) S0 ((i, ⟨.tup [], [], []⟩) :: Rs) (S.add o.dst (.tup []) [] []) s K))
/-! Regions whose orders are gone through, all of them. -/
def bindsK : Ground → Bool
  | .textOnly _ => false
  | .gcOnly _ => false
  | _ => true
def undone : List (Nat × Oper) → Nat → Bool
  | [], _ => false
  | (i, _) :: r, j => match Nat.beq i j with
    | true => true
    | false => undone r j
/-- Is no operation undone that this one waits for? -/
def freeE (U : List (Nat × Oper)) : List Edge → Bool
  | [] => true
  | e :: r => match bindsK e.ground with
    | true => match undone U e.on with
      | true => false
      | false => freeE U r
    | false => freeE U r
def anyR (U : List (Nat × Oper)) : List (Nat × Oper) → Bool
  | [] => false
  | (_, o) :: r => match freeE U o.after.toList with
    | true => true
    | false => anyR U r
def allR (f : Nat → Oper → Prop) (U : List (Nat × Oper)) : List (Nat × Oper) → Prop
  | [] => False
  | (i, o) :: r => match freeE U o.after.toList with
    | true => match anyR U r with
      | true => I.conj (f i o) (allR f U r)
      | false => f i o
    | false => allR f U r
def lessU (i : Nat) : List (Nat × Oper) → List (Nat × Oper)
  | [] => []
  | (j, o) :: r => match Nat.beq j i with
    | true => r
    | false => (j, o) :: lessU i r
def enumU : Nat → List Oper → List (Nat × Oper)
  | _, [] => []
  | i, o :: r => (i, o) :: enumU (i + 1) r
/-! Operations that look at numbers in slots alone are done first. -/
def numOf (T : List (Nat × KV)) (x : Operand) : Option IntKind := match kop T x with
  | some c => match numK c with
    | some (_, k, _) => some k
    | none => none
  | none => none
/-- Is an operation wanted, as far as it is known? -/
def guardK (ops : List Oper) (S : KSt) (o : Oper) : Option Bool := match o.guard with
  | none => some true
  | some (j, want) => match nth ops j with
    | some o' => match o'.dst with
      | some t => match lk S.T t with
        | some .tt => some want
        | some .ff => some (!want)
        | _ => none
      | none => none
    | none => none
def isHo (ops : List Oper) (o : Oper) (S : KSt) : Bool := match guardK ops S o with
  | none => false
  | some false => match o.op with
    | .call _ => false
    | _ => true
  | some true => match o.op with
    | .move x => match kop S.T x with
      | some _ => true
      | none => false
    | .assign x => match kop S.T x with
      | some _ => true
      | none => false
    | .binOp op _ x y _ => match opKind op with
      | 1 => match numOf S.T x with
        | some k => match numOf S.T y with
          | some k' => sameK k k'
          | none => false
        | none => false
      | _ => false
    | _ => false
/-- What such an operation yields. -/
def hoVal0 (S : KSt) (o : Oper) : Option KV := match o.op with
  | .move x => kop S.T x
  | .assign x => kop S.T x
  | .binOp op _ x y _ => match kop S.T x with
    | some c => match kop S.T y with
      | some d => match numK c with
        | some (la, k, a) => match numK d with
          | some (lb, _, b) => match la && lb with
            | true => some (foldK I op k a b)
            | false => some (.int k (I.iop op k a b))
          | none => none
        | none => none
      | none => none
    | none => none
  | _ => none
def hoVal (ops : List Oper) (S : KSt) (o : Oper) : Option KV := match guardK ops S o with
  | some false => some (.tup [])
  | _ => hoVal0 I S o
def restsOn (i : Nat) : List Edge → Bool
  | [] => false
  | e :: r => match bindsK e.ground with
    | true => match Nat.beq e.on i with
      | true => true
      | false => restsOn i r
    | false => restsOn i r
def apartP (ops : List Oper) (o o' : Oper) : Bool :=
  (match o.dst with
  | some d => !(memN d (namesK ops o')) && (match o'.dst with
    | some d' => !(Nat.beq d d')
    | none => true)
  | none => true) && (match o'.dst with
  | some d' => !(memN d' (namesK ops o))
  | none => true)
def apartAll (ops : List Oper) (i : Nat) (o : Oper) : List (Nat × Oper) → Bool
  | [] => true
  | (j, o') :: r => (Nat.beq j i || restsOn i o'.after.toList || apartP ops o o') && apartAll ops i o r
def hoistK (ops : List Oper) (S : KSt) (U0 : List (Nat × Oper)) : List (Nat × Oper) → Option (Nat × Oper)
  | [] => none
  | (i, o) :: r => match freeE U0 o.after.toList && isHo ops o S && apartAll ops i o U0 with
    | true => some (i, o)
    | false => hoistK ops S U0 r
def noSelK : List Oper → Bool
  | [] => true
  | o :: r => match o.op with
    | .select _ _ => false
    | _ => noSelK r
def hoistP (pz : List Nat) (ops : List Oper) (S : KSt) (U : List (Nat × Oper)) : Option (Nat × Oper) := match memN 7000000 pz && noSelK ops with
  | true => hoistK ops S U U
  | false => none
def exK (pz : List Nat) (ops : List Oper) : Nat → List (Nat × Oper) → KSt → σ → (KSt → σ → Prop) → Prop
  | 0, _, _, _, _ => False
  | n + 1, U, S, s, K => match U with
    | [] => K S s
    | U => match hoistP pz ops S U with
      | some (i, o) => I.conj I.rnone (kk (hoVal I ops S o) fun res => kif (dstK S o.dst) (exK pz ops n (lessU i U) (S.add o.dst res [] []) s K))
      | none => allR I (fun i o => wantK I ops S o
        (fun S => match isBarK pz o S with
          | true => kif (notVW pz o) (barK I tb pz o S s (freshNK S) (fun S' s' => exK pz ops n (lessU i U) S' s' K))
          | false => freeK I tb pz o S (freshNK S) fun res nh no => kif (freshKH S nh && freshKO S no && dstK S o.dst) (exK pz ops n (lessU i U) (S.add o.dst res nh no) s K))
        (fun S => kif (dstK S o.dst) (exK pz ops n (lessU i U) (S.add o.dst (.tup []) [] []) s K))) U U
def onLt (n : Nat) : List Edge → Bool
  | [] => true
  | e :: r => Nat.blt e.on n && onLt n r
def onOk (n : Nat) : List Oper → Bool
  | [] => true
  | o :: r => onLt n o.after.toList && onOk n r
def isExO (o : Oper) : Bool := match o.op with
  | .store _ _ _ => anyText o.after.toList
  | _ => false
def isEx : List Oper → Bool
  | [] => false
  | o :: r => match isExO o with
    | true => true
    | false => isEx r
/-! Regions that end by stores into boxes of their own. -/
def isWr (o : Oper) : Bool := match (match o.op with | .store _ _ _ => true | .mapUpdate _ _ _ _ => true | _ => false) with
  | true => match o.guard with
    | none => match o.dst with
      | none => true
      | some _ => false
    | some _ => false
  | false => false
/-- Does an operation look at its slots alone? -/
def isPure (o : Oper) : Bool := match o.op with
  | .move _ => true
  | .assign _ => true
  | .convert _ _ _ => true
  | _ => false
def pureH (o : Oper) (H : List (Nat × KBlk)) : List (Nat × KBlk) := match isPure o with
  | true => []
  | false => H
def pureO (o : Oper) (O : List (Nat × KRow)) : List (Nat × KRow) := match isPure o with
  | true => []
  | false => O
def freeN : List Oper → Nat
  | [] => 0
  | o :: r => match isWr o with
    | true => 0
    | false => freeN r + 1
def allWr : List Oper → Bool
  | [] => true
  | o :: r => match isWr o with
    | true => allWr r
    | false => false
def drawFK (pz : List Nat) (ops : List Oper) : Nat → List Oper → Nat → KSt → List (Nat × SgK) → KSt → σ → (KSt → List (Nat × SgK) → Prop) → Prop
  | 0, rest, i, S0, Rs, S, s, K => K S Rs
  | n + 1, [], i, S0, Rs, S, s, K => False
  | n + 1, o :: rest, i, S0, Rs, S, s, K => wantK I ops S o
      (fun S => freeK I tb pz o ⟨S.n, restrK S.T (namesK ops o), pureH o S0.H, pureO o S0.O, S.low⟩ (freshNK S) fun res nh no =>
        kif (freshKH S nh && freshKO S no && freshKH S0 nh && freshKO S0 no && dstK S o.dst && okNew ops i ⟨res, nh, no⟩ Rs) (drawFK pz ops n rest (i + 1) S0 ((i, ⟨res, nh, no⟩) :: Rs) (S.add o.dst res nh no) s K))
      (fun S => kif (dstK S o.dst && okNew ops i ⟨.tup [], [], []⟩ Rs) (drawFK pz ops n rest (i + 1) S0 ((i, ⟨.tup [], [], []⟩) :: Rs) (S.add o.dst (.tup []) [] []) s K))
/-- Which operation made a box: those before have it; what waits for it, the store waits for. -/
def madeBy (b : Nat) (D : List Nat) (i : Nat) : List (Nat × SgK) → Bool
  | [] => false
  | (j, g) :: r => match memN b (ks g.nh) with
    | true => (D.getD i 0).testBit j
    | false => madeBy b D i r
def onlyBy (b : Nat) (D : List Nat) (i : Nat) : List (Nat × SgK) → Bool
  | [] => true
  | (j, g) :: r => match memN b (ks g.nh) with
    | true => (D.getD i 0).testBit j && onlyBy b D i r
    | false => onlyBy b D i r
def notIn (b : Nat) (D : List Nat) (p : Nat) : List (Nat × SgK) → Bool
  | [] => true
  | (j, g) :: r => match memN b (ks g.nh) with
    | true => !(D.getD p 0).testBit j && notIn b D p r
    | false => notIn b D p r
def unreadW (b : Nat) (D : List Nat) (i : Nat) (Rs : List (Nat × SgK)) : Nat → Bool
  | 0 => true
  | p + 1 => ((D.getD i 0).testBit p || notIn b D p Rs) && unreadW b D i Rs p
def ownW (b : Nat) (D : List Nat) (i n : Nat) (Rs : List (Nat × SgK)) : Bool := madeBy b D i Rs && onlyBy b D i Rs && unreadW b D i Rs n
/-- What waits for nothing that was written: it comes before the store, or looks at its slots alone. -/
def purW (D : List Nat) (i : Nat) (ops : List Oper) : Nat → Bool
  | 0 => true
  | p + 1 => ((D.getD i 0).testBit p || (match nth ops p with | some o => isPure o | none => false)) && purW D i ops p
def wrK (ops : List Oper) (D : List Nat) (n : Nat) (H0 : List Nat) (O0 : List Nat) (Rs : List (Nat × SgK)) : List Oper → Nat → List Nat → List Nat → KSt → σ → (KSt → Prop) → Prop
  | [], i, bs, rs, S, s, K => K S
  | o :: r, i, bs, rs, S, s, K => match o.op with
    | .store t p x => kk (kop S.T p) fun c => kk (kop S.T x) fun d => kk (cellsK d) fun cs => kk (tb t) fun ti => kif (Nat.beq ti.sz (lenK cs)) (match c with
      | .loc b off => kk (lk S.H b) fun B => kif (B.live && allD B.cells && allD cs && Nat.ble (off + lenK cs) (lenK B.cells) && !memN b bs && !memN b H0 && ownW b D i n Rs) (wrK ops D n H0 O0 Rs r (i + 1) (b :: bs) rs ⟨S.n, S.T, stA S.H b ⟨B.e, putK B.cells off cs, true⟩, S.O, S.low⟩ s K)
      | .oloc id sz ix j => kk (lk S.O id) fun R => kif (R.live && Nat.beq R.sz sz && Nat.ble (j + lenK cs) sz && allD cs && !memN id rs && memN id O0 && purW D i ops n) (I.conj (I.inb ix (I.plen R.ps)) (I.setl R.ps sz ix j cs fun ps => wrK ops D n H0 O0 Rs r (i + 1) bs (id :: rs) ⟨S.n, S.T, S.H, stA S.O id ⟨R.e, R.sz, ps, R.nn, true⟩, S.low⟩ s K))
      | _ => False)
    | .mapUpdate t m k x => kk (kop S.T m) fun c => kk (kop S.T k) fun kc => kk (kop S.T x) fun v => kk (tb t) fun ti => kk ti.mp fun tr => kk (tb tr.1) fun ki => kif (okDat kc && okDat v) (match c with
      | .osl id => kk (lk S.O id) fun R => kif (R.live && Nat.beq R.sz 0 && R.nn && !memN id rs && memN id O0 && purW D i ops n) (I.mset (kun ki) R.ps kc v fun ps => wrK ops D n H0 O0 Rs r (i + 1) bs (id :: rs) ⟨S.n, S.T, S.H, stA S.O id ⟨R.e, R.sz, ps, R.nn, true⟩, S.low⟩ s K)
      | _ => False)
    | _ => False
def wOk (ops : Array Oper) : Bool := depOk ops (depsK ops.toList []) && apartB ops (depsK ops.toList []) 0 ops.size && allWr (ops.toList.drop (freeN ops.toList))
def drawW (pz : List Nat) (ops : Array Oper) (S : KSt) (s : σ) (K : KSt → σ → Prop) : Prop :=
  kif (wOk ops) (drawFK I tb pz ops.toList (freeN ops.toList) ops.toList 0 S [] S s fun S' Rs => wrK I tb ops.toList (depsK ops.toList []) (freeN ops.toList) (ks S.H) (ks S.O) Rs (ops.toList.drop (freeN ops.toList)) (freeN ops.toList) [] [] S' s fun S'' => K S'' s)
/-- The order that a region draws does not matter. -/
def segsOk (ops : Array Oper) (B : List Nat) : List Oper → Nat → Nat → Bool
  | [], m, c => apartB ops B m c && laterB ops B m c && Nat.ble (m + c) ops.size
  | o :: r, m, c => match isBarS ops.toList o with
    | true => apartB ops B m c && laterB ops B m c && apartB ops B (m + c) 1 && laterB ops B (m + c) 1 && Nat.ble (m + c + 1) ops.size && segsOk ops B r (m + c + 1) 0
    | false => segsOk ops B r m (c + 1)
def drawOk (ops : Array Oper) : Bool := depOk ops (depsK ops.toList []) && segsOk ops (depsK ops.toList []) ops.toList 0 0
/-- Is the walk to stop at a test? -/
def markC (pz : List Nat) : Operand → Bool
  | .tmp t => memN (t + 2000000) pz
  | _ => false
def wpK (pz : List Nat) : Code → KSt → σ → (Exit → KSt → σ → Prop) → Prop
  | .seq x y, S, s, Q => wpK pz x S s (thenK (fun S' s' => wpK pz y S' s' Q) Q)
  | .skip, S, s, Q => Q .normal S s
  | .label _, S, s, Q => Q .normal S s
  | .exit id, S, s, Q => Q (.exit id) S s
  | .goto l, S, s, Q => Q (.goto l) S s
  | .ret, S, s, Q => Q .ret S s
  | .block id c, S, s, Q => wpK pz c S s (blkK id Q)
  | .cond c x y, S, s, Q => kk (kop S.T c) fun v => match v with
    | .tt => wpK pz x S s Q
    | .ff => wpK pz y S s Q
    | .bool b => match markC pz c with
      | true => I.W (.cond c x y) S s Q
      | false => I.tst b (wpK pz x (S.lit c .tt) s Q) (wpK pz y (S.lit c .ff) s Q)
    | _ => False
  | .region id ops false, S, s, Q => match memN (id + 1000000) pz with
   | true => I.W (.region id ops false) S s Q
   | false => opsK I tb pz ops.toList ops.toList S s (Q .normal)
  | .region id ops true, S, s, Q => match memN (id + 1000000) pz with
   | true => I.W (.region id ops true) S s Q
   | false => match isEx ops.toList with
    | true => match memN (id + 3000000) pz with
      | true => drawW I tb (pzOf pz ops.toList) ops S s (Q .normal)
      | false => match memN (id + 4000000) pz with
        | true => kif (drawOk ops) (drawK I tb (pzOf pz ops.toList) ops.toList ops.toList 0 S [] S s (Q .normal))
        | false => exK I tb (pzOf pz ops.toList) ops.toList (lenK ops.toList + 1) (enumU 0 ops.toList) S s (Q .normal)
    | false => match memN (id + 8000000) pz with
      | true => kif (onOk (lenK ops.toList) ops.toList) (exK I tb (pzOf pz ops.toList) ops.toList (lenK ops.toList + 1) (enumU 0 ops.toList) S s (Q .normal))
      | false => drawK I tb (pzOf pz ops.toList) ops.toList ops.toList 0 S [] S s (Q .normal)
  | .scope c, S, s, Q => wpK pz c S s (scopeK Q)
  | c, S, s, Q => I.W c S s Q
end
def drawsOk (pz : List Nat) : Code → Bool
  | .seq x y => drawsOk pz x && drawsOk pz y
  | .cond _ x y => drawsOk pz x && drawsOk pz y
  | .block _ c => drawsOk pz c
  | .scope c => drawsOk pz c
  | .region id ops true => match isEx ops.toList with
    | true => ops.toList.all fun o => o.after.toList.all fun e => Nat.blt e.on ops.size
    | false => memN (id + 8000000) pz || drawOk ops
  | _ => true
end Go.Proofs.Ytelnoeamkdpjhaa.Aw

/- The logic of abstract walks, part M3: small facts on evaluation. -/
namespace Go.Proofs.Ytelnoeamkdpjhaa.Aw
open Go Go.RowKit
set_option linter.unusedVariables false
set_option linter.unusedSimpArgs false
universe u
theorem constK_spec {v : Value} {c : KV} (h : constK v = some c) : constAV v = some c.av := by
  cases v with
  | int k n => simp [constK] at h; subst h; rfl
  | bool b => cases b <;> (simp [constK] at h; subst h; rfl)
  | string s => simp [constK] at h; subst h; rfl
  | nilFunc => simp [constK] at h; subst h; rfl
  | map m => cases m with
    | none => simp [constK] at h; subst h; rfl
    | some m => simp [constK] at h
  | pointer m => cases m with
    | none => simp [constK] at h; subst h; rfl
    | some m => simp [constK] at h
  | slice ad n k =>
    cases ad with
    | some ad => simp [constK] at h
    | none =>
      cases n with
      | succ n => simp [constK] at h
      | zero =>
        cases k with
        | succ k => simp [constK] at h
        | zero => simp [constK] at h; subst h; rfl
  | _ => simp [constK] at h
theorem kop_spec {T : List (Nat × KV)} {x : Operand} {c : KV} (h : kop T x = some c) : opnd (mapT T) x = some c.av := by
  cases x with
  | tmp t => simp only [kop] at h; simp only [opnd, look_mapT, h, Option.map_some]
  | const v => exact constK_spec h
  | func f => simp only [kop, Option.some.injEq] at h; subst h; rfl
  | global g => simp [kop] at h
theorem kopL_spec {T : List (Nat × KV)} : ∀ {l : List Operand} {cs : List KV}, kopL T l = some cs → opndL (mapT T) l = some (KV.avL cs)
  | [], cs, h => by simp [kopL] at h; subst h; rfl
  | x :: r, cs, h => by
    simp only [kopL] at h
    cases h1 : kop T x with
    | none => rw [h1] at h; cases h
    | some c =>
      cases h2 : kopL T r with
      | none => rw [h1, h2] at h; cases h
      | some l =>
        rw [h1, h2] at h
        simp only [Option.some.injEq] at h; subst h
        simp only [opndL, kop_spec h1, kopL_spec h2, KV.avL]
theorem partsK_spec {T : List (Nat × KV)} : ∀ {l : List (Nat × Operand)} {ps : List (Nat × KV)}, partsK T l = some ps → partsA (mapT T) l = some (mapT ps)
  | [], cs, h => by simp [partsK] at h; subst h; rfl
  | (i, x) :: r, cs, h => by
    simp only [partsK] at h
    cases h1 : kop T x with
    | none => rw [h1] at h; cases h
    | some c =>
      cases h2 : partsK T r with
      | none => rw [h1, h2] at h; cases h
      | some l =>
        rw [h1, h2] at h
        simp only [Option.some.injEq] at h; subst h
        simp only [partsA, kop_spec h1, partsK_spec h2, mapT]
theorem cellsK_spec {c : KV} {cs : List KV} (h : cellsK c = some cs) : avCells c.av = some (KV.avL cs) := by
  cases c with
  | d x => cases x <;> simp [cellsK] at h <;> subst h <;> rfl
  | _ => simp [cellsK] at h <;> subst h <;> rfl
theorem numK_spec {c : KV} {f : Bool} {k : IntKind} {n : Int} (h : numK c = some (f, k, n)) : c.av = .d (.int k n) := by
  cases c <;> simp [numK] at h <;> (obtain ⟨_, rfl, rfl⟩ := h; rfl)
theorem boolK_spec {c : KV} {b : Bool} (h : boolK c = some b) : c.av = .d (.bool b) := by
  cases c <;> simp [boolK] at h <;> (subst h; rfl)
theorem fnK_spec {c : KV} {f : Nat} {cs : List KV} (h : fnK c = some (f, cs)) : fnOf c.av = some (f, KV.avL cs) := by
  cases c with
  | fn g l => simp [fnK] at h; obtain ⟨rfl, rfl⟩ := h; rfl
  | dfn g l =>
    simp only [fnK] at h
    split at h
    · rename_i hd
      simp only [Option.some.injEq, Prod.mk.injEq] at h; obtain ⟨rfl, rfl⟩ := h
      simp only [KV.av, fnOf, allD_av hd]
    · cases h
  | _ => simp [fnK] at h
theorem litN_spec {c : KV} {n : Nat} (h : litN c = some n) : ∃ k, c.av = .d (.int k (n : Int)) := by
  cases c with
  | lit k m => cases m with
    | ofNat m => simp [litN] at h; subst h; exact ⟨k, rfl⟩
    | negSucc m => simp [litN] at h
  | _ => simp [litN] at h
theorem putK_spec (cells : List KV) (off : Nat) (cs : List KV) : KV.avL (putK cells off cs) = putL (KV.avL cells) off (KV.avL cs) := by
  simp only [putK, putL, avL_app, avL_take, avL_drop, avL_len]
theorem atK_eq (pl : Pl) (i : Nat) : pl.atK i = pl.at i := by cases pl <;> simp [Pl.atK, Pl.at, nth_eq]
theorem fillK_spec {pl : Pl} : ∀ {ps : List (Nat × KV)} {cells cs : List KV}, fillK pl cells ps = some cs → fillA pl.at (KV.avL cells) (mapT ps) = some (KV.avL cs)
  | [], cells, cs, h => by simp [fillK] at h; subst h; rfl
  | (i, c) :: r, cells, cs, h => by
    simp only [fillK] at h
    split at h
    · rename_i off n h1
      split at h
      · rename_i us h2
        split at h
        · rename_i h3
          rw [atK_eq] at h1
          simp only [mapT, fillA, h1, cellsK_spec h2, avL_len]
          rw [if_pos h3, ← putK_spec]
          exact fillK_spec h
        · cases h
      · cases h
    · cases h
theorem mapK_spec {f : KV → Option KV} {g : AV → Option D} (hf : ∀ c v, f c = some v → g c.av = some v.toD) : ∀ {cs vs : List KV}, mapK f cs = some vs → (KV.avL cs).mapM g = some (KV.toDL vs)
  | [], vs, h => by simp [mapK] at h; subst h; rfl
  | c :: r, vs, h => by
    simp only [mapK] at h
    cases h1 : f c with
    | none => rw [h1] at h; cases h
    | some v =>
      cases h2 : mapK f r with
      | none => rw [h1, h2] at h; cases h
      | some l =>
        rw [h1, h2] at h
        simp only [Option.some.injEq] at h; subst h
        simp [KV.avL, KV.toDL, List.mapM_cons, hf c v h1, mapK_spec hf h2]
theorem omap_spec {α β : Type u} {x : Option α} {f : α → β} {b : β} (h : omap x f = some b) : ∃ a, x = some a ∧ b = f a := by
  cases x with
  | none => cases h
  | some a => cases h; exact ⟨a, rfl, rfl⟩
theorem rowKV_toD (R : KRow) : (rowKV R).toD = .sl false R.sz (rowsD R.sz R.ps) := by
  unfold rowKV
  split
  · rename_i α d l f h; simp [h, KV.toD, rowsD, KP.rows]
  · rename_i rows h; simp [h, KV.toD, rowsD, KP.rows]
  · rfl
theorem mapRows_eq (ps : List KP) : mapRows ps = rowsD 0 ps := by
  unfold mapRows
  split
  · simp [rowsD, KP.rows]
  · rfl
theorem mapKV_toD (ps : List KP) : (mapKV ps).toD = .map (rowsD 0 ps) := by
  unfold mapKV
  split
  · simp [KV.toD, rowsD, KP.rows]
  · simp only [KV.toD, mapRows_eq]
theorem rowSn_spec {R : KRow} {v : KV} (h : rowSn R = some v) : rowDt R.row = some v.toD := by
  unfold rowSn at h
  split at h
  · rename_i h0
    cases h
    rw [Nat.blt_eq] at h0
    rw [rowKV_toD]
    exact if_pos h0
  · rename_i h0
    split at h
    · rename_i hn
      cases h
      have h0' : ¬ 0 < R.sz := fun x => by
        have y : Nat.blt 0 R.sz = true := by rw [Nat.blt_eq]; exact x
        rw [y] at h0; cases h0
      have hz : R.sz = 0 := by omega
      have e : rowDt R.row = some (.map R.row.rows) := by
        unfold rowDt
        rw [if_neg (show ¬ 0 < R.row.sz from h0'), if_pos (show R.row.nn = true from hn)]
      rw [e, mapKV_toD]
      show some (D.map (rowsD R.sz R.ps)) = _
      rw [hz]
    · cases h
theorem liveOk_spec {lv live : Bool} (h : liveOk lv live = true) : (live && !lv) = false := by cases lv <;> cases live <;> simp_all [liveOk]
theorem snapK_spec {lv : Bool} {S : KSt} : ∀ (n : Nat) (c v : KV), snapK lv S n c = some v → snap lv S.st n c.av = some v.toD
  | 0, c, v, h => by simp [snapK] at h
  | n + 1, c, v, h => by
    have ih := snapK_spec (lv := lv) (S := S) n
    have other : c.isD = true → some c = some v → snap lv S.st (n + 1) c.av = some v.toD := by
      intro hd e
      cases e
      rw [KV.isD_av hd]
      have := KV.isD_agg hd
      cases hx : c.toD with
      | agg l => exact absurd hx (this l)
      | _ => rfl
    unfold snapK at h
    split at h
    · obtain ⟨vs, h1, rfl⟩ := omap_spec h
      simp only [KV.av, snap, mapK_spec ih h1, Option.map_some, KV.toD]
    · obtain ⟨vs, h1, rfl⟩ := omap_spec h
      simp only [KV.av, snap, mapK_spec ih h1, Option.map_some, KV.toD]
    · rename_i b off
      split at h
      · rename_i B hB
        split at h
        · rename_i hl
          obtain ⟨vs, h1, rfl⟩ := omap_spec h
          have h2 : look S.st.H b = some B.blk := by simp only [KSt.st, look_mapH, hB, Option.map_some]
          simp only [KV.av, snap, h2]
          rw [show (B.blk.live && !lv) = false from liveOk_spec hl]
          simp only [Bool.false_eq_true, if_false]
          rw [show B.blk.cells = KV.avL B.cells from rfl, mapK_spec ih h1]
          simp only [Option.map_some, KV.toD, toDL_drop]
        · cases h
      · cases h
    · rename_i id
      split at h
      · rename_i R hR
        split at h
        · rename_i hl
          have h2 : look S.st.O id = some R.row := by simp only [KSt.st, look_mapO, hR, Option.map_some]
          simp only [KV.av, snap, h2]
          rw [show (R.row.live && !lv) = false from liveOk_spec hl]
          simp only [Bool.false_eq_true, if_false]
          exact rowSn_spec h
        · cases h
      · cases h
    · cases h; rfl
    · cases h; rfl
    · cases h; rfl
    · split at h
      · rename_i hd; exact other hd h
      · cases h
theorem snapL_spec' {lv : Bool} {S : KSt} : ∀ {cs vs : List KV}, mapK (snapK lv S 8) cs = some vs → snapL lv S.st (KV.avL cs) = some (KV.toDL vs)
  | [], vs, h => by simp [mapK] at h; subst h; rfl
  | c :: r, vs, h => by
    simp only [mapK] at h
    cases h1 : snapK lv S 8 c with
    | none => rw [h1] at h; cases h
    | some v =>
      cases h2 : mapK (snapK lv S 8) r with
      | none => rw [h1, h2] at h; cases h
      | some l =>
        rw [h1, h2] at h
        simp only [Option.some.injEq] at h; subst h
        simp only [KV.avL, snapL, snapK_spec 8 c v h1, snapL_spec' h2, KV.toDL]
theorem snapL_app {lv : Bool} {S : St} : ∀ {cs : List AV} {xs : List D} {ds : List D}, snapL lv S cs = some xs → noAggD ds = true → snapL lv S (cs ++ ds.map .d) = some (xs ++ ds)
  | [], xs, ds, h, hd => by
    simp [snapL] at h; subst h
    simp only [List.nil_append]
    induction ds with
    | nil => rfl
    | cons x r ih =>
      have hx : snap lv S 8 (.d x) = some x := by
        cases x with
        | agg l => cases hd
        | _ => rfl
      have hr : noAggD r = true := by
        cases x with
        | agg l => cases hd
        | _ => exact hd
      simp only [List.map_cons, snapL, hx, ih hr]
  | c :: r, xs, ds, h, hd => by
    simp only [snapL] at h
    cases h1 : snap lv S 8 c with
    | none => rw [h1] at h; cases h
    | some x =>
      cases h2 : snapL lv S r with
      | none => rw [h1, h2] at h; cases h
      | some l =>
        rw [h1, h2] at h
        simp only [Option.some.injEq] at h; subst h
        simp only [List.cons_append, snapL, h1, snapL_app h2 hd]
mutual
theorem sh_av (q : Nat) : ∀ (c : KV), (c.sh q).av = c.av.sh q
  | .agg cs => by simp only [KV.sh, KV.av, AV.sh, shL_av q cs]
  | .tup cs => by simp only [KV.sh, KV.av, AV.sh, shL_av q cs]
  | .osl id => rfl
  | .any | .int _ _ | .lit _ _ | .bool _ | .tt | .ff | .str _ | .fn _ _ | .dfn _ _ | .bfn _ _ | .nilfn | .nilsl | .nilmap | .nilptr | .ptr _ | .sl _ _ _ _ _ _ | .slr _ _ _ | .mp _ _ _ _ | .d _ | .loc _ _ | .oloc _ _ _ _ | .yld => by simp only [KV.sh, KV.av, AV.sh]
theorem shL_av (q : Nat) : ∀ (cs : List KV), KV.avL (KV.shL q cs) = AV.shL q (KV.avL cs)
  | [] => rfl
  | c :: r => by simp only [KV.shL, KV.avL, AV.shL, sh_av q c, shL_av q r]
end
mutual
theorem below_av (n : Nat) : ∀ (c : KV), c.rowsBelow n = true → c.av.rowsBelow n = true
  | .agg cs, h => by simp only [KV.rowsBelow] at h; simp only [KV.av, AV.rowsBelow]; exact belowL_av n cs h
  | .tup cs, h => by simp only [KV.rowsBelow] at h; simp only [KV.av, AV.rowsBelow]; exact belowL_av n cs h
  | .osl id, h => h
  | .fn _ _, h => by simp [KV.rowsBelow] at h
  | .loc _ _, h => by simp [KV.rowsBelow] at h
  | .oloc _ _ _ _, h => by simp [KV.rowsBelow] at h
  | .yld, h => by simp [KV.rowsBelow] at h
  | .any, _ | .int _ _, _ | .lit _ _, _ | .bool _, _ | .tt, _ | .ff, _ | .str _, _ | .dfn _ _, _ | .bfn _ _, _ | .nilfn, _ | .nilsl, _ | .nilmap, _ | .nilptr, _ | .ptr _, _ | .sl _ _ _ _ _ _, _ | .slr _ _ _, _ | .mp _ _ _ _, _ | .d _, _ => by simp only [KV.av, AV.rowsBelow]
theorem belowL_av (n : Nat) : ∀ (cs : List KV), KV.rowsBelowL n cs = true → AV.rowsBelowL n (KV.avL cs) = true
  | [], _ => rfl
  | c :: r, h => by
    simp only [KV.rowsBelowL] at h
    cases h1 : c.rowsBelow n with
    | false => rw [h1] at h; cases h
    | true =>
      rw [h1] at h
      simp only [KV.avL, AV.rowsBelowL, below_av n c h1, belowL_av n r h, Bool.and_self]
end
mutual
theorem scalar_av : ∀ (c : KV), c.scalar = true → c.av.scalar = true
  | .agg cs, h => by simp only [KV.scalar] at h; simp only [KV.av, AV.scalar]; exact scalarL_av cs h
  | .tup cs, h => by simp only [KV.scalar] at h; simp only [KV.av, AV.scalar]; exact scalarL_av cs h
  | .int _ _, _ | .lit _ _, _ | .bool _, _ | .tt, _ | .ff, _ | .str _, _ => by simp only [KV.av, AV.scalar]
  | .osl _, h | .fn _ _, h | .loc _ _, h | .oloc _ _ _ _, h | .yld, h | .any, h | .dfn _ _, h | .bfn _ _, h | .nilfn, h | .nilsl, h | .nilmap, h | .nilptr, h | .ptr _, h | .sl _ _ _ _ _ _, h | .slr _ _ _, h | .mp _ _ _ _, h | .d _, h => by simp [KV.scalar] at h
theorem scalarL_av : ∀ (cs : List KV), KV.scalarL cs = true → AV.scalarL (KV.avL cs) = true
  | [], _ => rfl
  | c :: r, h => by
    simp only [KV.scalarL] at h
    cases h1 : c.scalar with
    | false => rw [h1] at h; cases h
    | true =>
      rw [h1] at h
      simp only [KV.avL, AV.scalarL, scalar_av c h1, scalarL_av r h, Bool.and_self]
end
mutual
theorem ownly_av : ∀ (c : KV), c.ownly = true → c.av.ownly = true
  | .agg cs, h => by simp only [KV.ownly] at h; simp only [KV.av, AV.ownly]; exact ownlyL_av cs h
  | .tup cs, h => by simp only [KV.ownly] at h; simp only [KV.av, AV.ownly]; exact ownlyL_av cs h
  | .int _ _, _ | .lit _ _, _ | .bool _, _ | .tt, _ | .ff, _ | .str _, _ | .osl _, _ => by simp only [KV.av, AV.ownly]
  | .fn _ _, h | .loc _ _, h | .oloc _ _ _ _, h | .yld, h | .any, h | .dfn _ _, h | .bfn _ _, h | .nilfn, h | .nilsl, h | .nilmap, h | .nilptr, h | .ptr _, h | .sl _ _ _ _ _ _, h | .slr _ _ _, h | .mp _ _ _ _, h | .d _, h => by simp [KV.ownly] at h
theorem ownlyL_av : ∀ (cs : List KV), KV.ownlyL cs = true → AV.ownlyL (KV.avL cs) = true
  | [], _ => rfl
  | c :: r, h => by
    simp only [KV.ownlyL] at h
    cases h1 : c.ownly with
    | false => rw [h1] at h; cases h
    | true =>
      rw [h1] at h
      simp only [KV.avL, AV.ownlyL, ownly_av c h1, ownlyL_av r h, Bool.and_self]
end
theorem enumK_spec : ∀ (q : Nat) (rows : List KRow), mapO (enumK q rows) = enumR q (rows.map KRow.row)
  | _, [] => rfl
  | q, R :: r => by simp only [enumK, mapO, List.map_cons, enumR, enumK_spec (q + 1) r]
theorem nbeq (k b : Nat) : (k == b) = Nat.beq k b := by
  by_cases e : k = b
  · subst e; simp
  · cases h : Nat.beq k b with
    | true => exact absurd (Nat.eq_of_beq_eq_true h) e
    | false => simp [e]
mutual
theorem boxes_av (b : Nat) : ∀ (c : KV), c.av.box b = c.boxes b
  | .agg cs => by simp only [KV.av, AV.box, KV.boxes, boxesL_av b cs]
  | .tup cs => by simp only [KV.av, AV.box, KV.boxes, boxesL_av b cs]
  | .fn _ cs => by simp only [KV.av, AV.box, KV.boxes, boxesL_av b cs]
  | .loc k _ => by simp only [KV.av, AV.box, KV.boxes]; exact nbeq k b
  | .any | .int _ _ | .lit _ _ | .bool _ | .tt | .ff | .str _ | .dfn _ _ | .bfn _ _ | .nilfn | .nilsl | .nilmap | .nilptr | .ptr _ | .sl _ _ _ _ _ _ | .slr _ _ _ | .mp _ _ _ _ | .d _ | .osl _ | .oloc _ _ _ _ | .yld => by simp only [KV.av, AV.box, KV.boxes]
theorem boxesL_av (b : Nat) : ∀ (cs : List KV), AV.boxL b (KV.avL cs) = KV.boxesL b cs
  | [] => rfl
  | c :: r => by
    simp only [KV.avL, AV.boxL, KV.boxesL, boxes_av b c, boxesL_av b r]
    cases c.boxes b <;> simp
end
mutual
theorem hasRow_av (b : Nat) : ∀ (c : KV), c.av.hasRow b = c.hasRow b
  | .agg cs => by simp only [KV.av, AV.hasRow, KV.hasRow, hasRowL_av b cs]
  | .tup cs => by simp only [KV.av, AV.hasRow, KV.hasRow, hasRowL_av b cs]
  | .fn _ cs => by simp only [KV.av, AV.hasRow, KV.hasRow, hasRowL_av b cs]
  | .osl k => by simp only [KV.av, AV.hasRow, KV.hasRow]; exact nbeq k b
  | .oloc k _ _ _ => by simp only [KV.av, AV.hasRow, KV.hasRow]; exact nbeq k b
  | .any | .int _ _ | .lit _ _ | .bool _ | .tt | .ff | .str _ | .dfn _ _ | .bfn _ _ | .nilfn | .nilsl | .nilmap | .nilptr | .ptr _ | .sl _ _ _ _ _ _ | .slr _ _ _ | .mp _ _ _ _ | .d _ | .loc _ _ | .yld => by simp only [KV.av, AV.hasRow, KV.hasRow]
theorem hasRowL_av (b : Nat) : ∀ (cs : List KV), AV.hasRowL b (KV.avL cs) = KV.hasRowL b cs
  | [] => rfl
  | c :: r => by
    simp only [KV.avL, AV.hasRowL, KV.hasRowL, hasRow_av b c, hasRowL_av b r]
    cases c.hasRow b <;> simp
end
end Go.Proofs.Ytelnoeamkdpjhaa.Aw

/- The logic of abstract walks, part WA: contracts of functions that write what they are handed. -/
namespace Go.Proofs.Ytelnoeamkdpjhaa.Aw
open Go Go.RowKit
set_option linter.unusedVariables false
set_option linter.unusedSimpArgs false
variable {P : Program}
/-- No yields are made, whatever the loop. -/
def noEnvL (P : Program) (l : Nat) : Env P := { noEnv P with l := l, round := fun _ _ _ _ _ _ _ _ h => h.elim }
def ArgsA (w : World) (ok : Nat → Prop) (μ : Nat → Option Nat) (ν : Nat → Option Value) (yl : Nat) (args : List AV) (vs : Array Value) : Prop :=
  vs.size = args.length ∧ ∀ (i : Nat) (c : AV) (v : Value), args[i]? = some c → vs[i]? = some v → RdA w ok μ ν yl c v
/-- Handed boxes H and rows O, f leaves in them what H', O' say, and returns what res says; nothing else that was there has turned. -/
def ConW (P : Program) (f : Nat) (args : List AV) (H : List (Nat × Blk)) (O : List (Nat × Row)) (res : AV) (H' : List (Nat × Blk)) (O' : List (Nat × Row)) : Prop :=
  Ent P f ∧ ∀ (w : World) (M : Mp) (yl : Nat) (vs : Array Value), HeapOk 0 H O M yl w → (∀ k, M.ok k → k < w.heap.size) → ArgsA w M.ok M.μ M.ν yl args vs →
    Calls P f vs w fun e w' => ∃ v ok', e = .returned v ∧ w'.os = w.os ∧ w'.tape = w.tape ∧ w'.output = w.output ∧ w.heap.size ≤ w'.heap.size ∧
      (∀ k, k < w.heap.size → (¬ ∃ x, At H O M x k) → w'.heap[k]? = w.heap[k]?) ∧ RdA w' ok' M.μ M.ν yl res v ∧ HeapOk 0 H' O' { M with ok := ok' } yl w'
def argA : Nat → List AV → List (Nat × AV)
  | _, [] => []
  | i, x :: r => (i, x) :: argA (i + 1) r
theorem look_argA : ∀ {xs : List AV} {i t : Nat} {c : AV}, look (argA i xs) t = some c → i ≤ t ∧ xs[t - i]? = some c
  | [], i, t, c, h => by simp [argA, look] at h
  | x :: r, i, t, c, h => by
    simp only [argA, look] at h
    by_cases e : i = t
    · rw [if_pos e] at h; cases h; subst e; exact ⟨Nat.le_refl _, by simp⟩
    · rw [if_neg e] at h
      obtain ⟨h1, h2⟩ := look_argA h
      exact ⟨by omega, by rw [show t - i = (t - (i + 1)) + 1 from by omega, List.getElem?_cons_succ]; exact h2⟩
def SW (n : Nat) (args : List AV) (H : List (Nat × Blk)) (O : List (Nat × Row)) (low : Nat) : St := ⟨n, argA 0 args, H, O, low⟩
/-- What the end of a function that writes must give. -/
def RetW (P : Program) (fn : Func) (S : St) (res : AV) (H' : List (Nat × Blk)) (O' : List (Nat × Row)) : Prop :=
  ∃ cs, resVL P S fn.results.toList = some cs ∧ oneOf cs = res ∧ (∀ b B, look H' b = some B → look S.H b = some B) ∧ ∀ id R, look O' id = some R → look S.O id = some R
def KeepW (X : Nat → Prop) (n0 : Nat) (w0 w : World) : Prop := w.os = w0.os ∧ w.tape = w0.tape ∧ w.output = w0.output ∧ n0 ≤ w.heap.size ∧ ∀ k, k < n0 → ¬ X k → w.heap[k]? = w0.heap[k]?
theorem leaves_marksW {base yl : Nat} {S : St} {fn : Func} {R : Ending → World → Prop} {w0 : World} (X : Nat → Prop) (n0 : Nat) : ∀ (ds : List Nat) (M : Mp) (a : Act) (w : World), M.ds = ds → Rel base S M yl a w → (∀ D ∈ ds, D < n0 → X D) → KeepW X n0 w0 w →
    (∀ M' a' w', Rel base S M' yl a' w' → KeepW X n0 w0 w' → M'.μ = M.μ → M'.ν = M.ν → M'.ok = M.ok → a'.tmps = a.tmps → ∃ v, (results fn a.tmps).run P w' = .ok v w' ∧ R (.returned v) w') →
    LeavesInM (FW none) 0 P fn a.tmps R (marks ds) .returning w
  | [], M, a, w, hd, hr, hX, hb, h => h M a w hr hb rfl rfl rfl rfl
  | D :: ds, M, a, w, hd, hr, hX, hb, h => by
    refine ⟨by simp, .inl ⟨D, w.putObj D (.deferred none), rfl, run_takeDeferred (hr.dsOk D (by rw [hd]; simp)).2.1, ?_⟩⟩
    obtain ⟨b1, b2, b3, b4, b5⟩ := hb
    have := leaves_marksW X n0 ds { M with ds := ds } { a with defers := marks ds } (w.putObj D (.deferred none)) rfl (hr.take hd) (fun D' h' => hX D' (List.mem_cons_of_mem _ h'))
      ⟨b1, b2, b3, by simpa using b4, fun k hk hx => by rw [World.putObj_heap_other (fun e => hx (by subst e; exact hX _ (by simp) hk))]; exact b5 k hk hx⟩ (fun M' a' w' h1 h2 h3 h4 h5 h6 => h M' a' w' h1 h2 h3 h4 h5 h6)
    exact this
theorem conW_intro {f : Nat} {fn : Func} {c : Code} (hf : P.funcs[f]? = some fn) (hb : fn.body = some c) (hent : Ent P f) {args : List AV} {H H' : List (Nat × Blk)} {O O' : List (Nat × Row)} {res : AV} (low : Nat) (hn : Nat.ble args.length fn.ntmps = true)
    (hs : res.scalar = true) (hH' : ∀ b B, look H' b = some B → b < low ∧ ∀ c ∈ B.cells, ∃ x, c = .d x) (hO' : ∀ id R, look O' id = some R → 100 ≤ id)
    (h : ∀ yl, AW (noEnvL P yl) 0 none c (SW fn.ntmps args H O low) () (fun e S _ => (e = .normal ∨ e = .ret) ∧ RetW P fn S res H' O')) : ConW P f args H O res H' O' := by
  refine ⟨hent, fun w M yl vs hheap hok hvs => (callsIn_wide (n := 0)).1 ?_⟩
  refine callsIn_of_wp_marks (F := FW none) (n := 0) hf hb trivial ?_
  let M0 : Mp := ⟨M.μ, M.ν, M.ok, fun _ => False, fun _ => False, []⟩
  have hn' := Nat.le_of_ble_eq_true hn
  have hat0 : ∀ x k, At H O M0 x k → At H O M x k := fun x k hx => by cases x <;> exact hx
  have hheap0 : HeapOk 0 H O M0 yl w := ⟨hheap.blk, hheap.row, fun x y k hx hy => hheap.inj x y k (hat0 x k hx) (hat0 y k hy)⟩
  have hr0 : Rel 0 (SW fn.ntmps args H O low) M0 (noEnvL P yl).l { tmps := vs ++ Array.replicate (fn.ntmps - vs.size) undef, defers := [] } w := by
    refine ⟨Nat.zero_le _, ?_, fun t c ht => ?_, hheap0, hok, rfl, fun D hD => (by cases hD), List.nodup_nil⟩
    · show (vs ++ Array.replicate (fn.ntmps - vs.size) undef).size = fn.ntmps
      rw [Array.size_append, Array.size_replicate, hvs.1]; omega
    · obtain ⟨_, h1⟩ := look_argA ht
      rw [Nat.sub_zero] at h1
      have hlt := (List.getElem?_eq_some_iff.1 h1).1
      obtain ⟨v, hv⟩ : ∃ v, vs[t]? = some v := ⟨vs[t]'(by rw [hvs.1]; exact hlt), by simp⟩
      exact ⟨v, by show (vs ++ _)[t]? = some v; rw [Array.getElem?_append_left (by rw [hvs.1]; exact hlt)]; exact hv, hvs.2 t c v h1 hv⟩
  have hown0 : ∀ k, Own (SW fn.ntmps args H O low) M0 k → ∃ x, At H O M x k := by
    rintro k (⟨x, hx, _⟩ | hd)
    · exact ⟨x, hat0 x k hx⟩
    · cases hd
  have hc0 : Cfg (noEnvL P yl) 0 (SW fn.ntmps args H O low) () M0 { tmps := vs ++ Array.replicate (fn.ntmps - vs.size) undef, defers := [] } w :=
    ⟨hr0, ⟨fun _ h => h, fun _ h => h⟩, fun _ _ h => h, fun k hk => ⟨fun h => h, fun h => h⟩, fun _ _ => trivial, fun _ _ => trivial⟩
  refine wpIn_mono (h yl M0 _ w hc0) ?_
  rintro e a' w' ⟨S', s', M', ⟨he, hret⟩, hc', hx⟩
  have hgoal : LeavesInM (FW none) 0 P fn a'.tmps (fun e w' => ∃ v ok', e = .returned v ∧ w'.os = w.os ∧ w'.tape = w.tape ∧ w'.output = w.output ∧ w.heap.size ≤ w'.heap.size ∧
      (∀ k, k < w.heap.size → (¬ ∃ x, At H O M x k) → w'.heap[k]? = w.heap[k]?) ∧ RdA w' ok' M.μ M.ν yl res v ∧ HeapOk 0 H' O' { M with ok := ok' } yl w') a'.defers .returning w' := by
    rw [hc'.rel.dfr]
    refine leaves_marksW (S := S') (base := 0) (w0 := w) (fun k => ∃ x, At H O M x k) w.heap.size M'.ds M' a' w' rfl hc'.rel (fun D hD hlt => hown0 D (hx.own D hlt (.inr hD)))
      ⟨hx.os, hx.tape, hx.output, hx.size, fun k hk hX => hx.keep k hk (fun ho => hX (hown0 k ho)) (fun h => h)⟩ (fun M2 a2 w2 hr2 hb2 e1 e2 e3 e4 => ?_)
    obtain ⟨cs, h1, h2, h3, h4⟩ := hret
    obtain ⟨v, h5, h6⟩ := run_results (P := P) (fn := fn) hr2 h1
    rw [← e4]
    obtain ⟨b1, b2, b3, b4, b5⟩ := hb2
    rw [h2] at h6
    have hμ : ∀ b B, look H' b = some B → M2.μ b = M.μ b := fun b B hB => by rw [e1]; exact hx.μlow b (hH' b B hB).1
    have hν : ∀ id R, look O' id = some R → M2.ν id = M.ν id := fun id R hR => by rw [e2]; exact hx.pin id (hO' id R hR)
    have hat : ∀ x k, At H' O' { M with ok := M2.ok } x k → At S'.H S'.O M2 x k := by
      intro x k hx'
      cases x with
      | inl b => obtain ⟨⟨B, hB⟩, hk⟩ := hx'; exact ⟨⟨B, h3 b B hB⟩, (hμ b B hB).trans hk⟩
      | inr b => obtain ⟨⟨R, hR⟩, u, hu, hk⟩ := hx'; exact ⟨⟨R, h4 b R hR⟩, u, (hν b R hR).trans hu, hk⟩
    refine ⟨v, h5, v, M2.ok, rfl, b1, b2, b3, b4, b5, h6.anyOk hs, fun b B hB => ?_, fun id R hR => ?_, fun x y k hx' hy' => hr2.heap.inj x y k (hat x k hx') (hat y k hy')⟩
    · obtain ⟨k, us, g1, g2, g3, g4, g5, g6, g7, g8⟩ := hr2.heap.blk b B (h3 b B hB)
      refine ⟨k, us, (hμ b B hB).symm.trans g1, g2, g3, g4, fun i c u hc hu => ?_, g6, g7, g8⟩
      obtain ⟨x, rfl⟩ := (hH' b B hB).2 c (List.mem_of_getElem? hc)
      have := g5 i _ u hc hu
      cases this with | d h => exact .d h
    · obtain ⟨u, flat, g1, g2, g3, g4, g5⟩ := hr2.heap.row id R (h4 id R hR)
      exact ⟨u, flat, (hν id R hR).symm.trans g1, g2, g3, g4, g5⟩
  rcases he with rfl | rfl
  · exact hgoal
  · exact hgoal
/-! ### At the call -/
def enumB (q : Nat) : List Blk → List (Nat × Blk)
  | [] => []
  | R :: r => (q, R) :: enumB (q + 1) r
theorem look_enumB : ∀ {rows : List Blk} {q : Nat} {id : Nat} {R : Blk}, look (enumB q rows) id = some R ↔ q ≤ id ∧ rows[id - q]? = some R
  | [], q, id, R => by simp [enumB, look]
  | R0 :: r, q, id, R => by
    simp only [enumB, look]
    by_cases e : q = id
    · subst e; simp
    · rw [if_neg e, look_enumB]
      constructor
      · rintro ⟨h1, h2⟩
        refine ⟨by omega, ?_⟩
        rw [show id - q = (id - (q + 1)) + 1 from by omega, List.getElem?_cons_succ]; exact h2
      · rintro ⟨h1, h2⟩
        refine ⟨by omega, ?_⟩
        rw [show id - q = (id - (q + 1)) + 1 from by omega, List.getElem?_cons_succ] at h2; exact h2
def setAs {α : Type} : List (Nat × α) → List Nat → List α → List (Nat × α)
  | T, b :: bs, B :: Bs => setAs (setA T b B) bs Bs
  | T, _, _ => T
theorem setA_some {α : Type} {l : List (Nat × α)} {b b' : Nat} {v : α} : (look (setA l b v) b').isSome = (look l b').isSome := by
  cases hb : look l b with
  | some u => rw [look_setA hb]; by_cases e : b = b' <;> simp [e] ; subst e; simp [hb]
  | none =>
    congr 1
    induction l with
    | nil => rfl
    | cons p r ih =>
      obtain ⟨k, u⟩ := p
      simp only [look] at hb
      by_cases e : k = b
      · rw [if_pos e] at hb; cases hb
      · rw [if_neg e] at hb
        simp only [setA, if_neg e, look, ih hb]
theorem setAs_some {α : Type} : ∀ {bs : List Nat} {Bs : List α} {l : List (Nat × α)} {b' : Nat}, (look (setAs l bs Bs) b').isSome = (look l b').isSome
  | [], Bs, l, b' => by simp [setAs]
  | b :: bs, [], l, b' => by simp [setAs]
  | b :: bs, B :: Bs, l, b' => by simp only [setAs]; rw [setAs_some, setA_some]
theorem setA_other {α : Type} {l : List (Nat × α)} {b b' : Nat} {v : α} (h : b ≠ b') : look (setA l b v) b' = look l b' := by
  induction l with
  | nil => rfl
  | cons p r ih =>
    obtain ⟨k, u⟩ := p
    by_cases e : k = b
    · subst e; simp only [setA, if_true, look, if_neg h]
    · simp only [setA, if_neg e, look, ih]
theorem setAs_other {α : Type} : ∀ {bs : List Nat} {Bs : List α} {l : List (Nat × α)} {b' : Nat}, b' ∉ bs → look (setAs l bs Bs) b' = look l b'
  | [], Bs, l, b', _ => by simp [setAs]
  | b :: bs, [], l, b', _ => by simp [setAs]
  | b :: bs, B :: Bs, l, b', h => by
    simp only [List.mem_cons, not_or] at h
    simp only [setAs]; rw [setAs_other h.2, setA_other (fun e => h.1 e.symm)]
theorem setAs_get {α : Type} : ∀ {bs : List Nat} {Bs : List α} {l : List (Nat × α)} {i b : Nat} {B : α}, bs.Nodup → bs[i]? = some b → Bs[i]? = some B → (look l b).isSome = true → look (setAs l bs Bs) b = some B
  | [], Bs, l, i, b, B, _, h, _, _ => by simp at h
  | b0 :: bs, [], l, i, b, B, _, _, h, _ => by simp at h
  | b0 :: bs, B0 :: Bs, l, 0, b, B, hn, h, h', hl => by
    simp at h h'; subst h h'
    simp only [setAs]
    rw [setAs_other (List.nodup_cons.1 hn).1]
    obtain ⟨u, hu⟩ := Option.isSome_iff_exists.1 hl
    rw [look_setA hu, if_pos rfl]
  | b0 :: bs, B0 :: Bs, l, i + 1, b, B, hn, h, h', hl => by
    simp at h h'
    simp only [setAs]
    exact setAs_get (List.nodup_cons.1 hn).2 h h' (by rw [setA_some]; exact hl)
def blksOf (S : St) : List Nat → Option (List Blk)
  | [] => some []
  | id :: r => match look S.H id, blksOf S r with
    | some R, some l => if R.live then some (R :: l) else none
    | _, _ => none
theorem blksOf_get {S : St} : ∀ {ids : List Nat} {rows : List Blk}, blksOf S ids = some rows → ids.length = rows.length ∧ ∀ (i : Nat) (R : Blk), rows[i]? = some R → ∃ id, ids[i]? = some id ∧ look S.H id = some R ∧ R.live = true
  | [], rows, h => by simp [blksOf] at h; subst h; simp
  | id :: r, rows, h => by
    simp only [blksOf] at h
    cases h1 : look S.H id with
    | none => rw [h1] at h; cases h
    | some R =>
      cases h2 : blksOf S r with
      | none => rw [h1, h2] at h; cases h
      | some l =>
        rw [h1, h2] at h
        simp only at h
        cases hl : R.live with
        | false => rw [hl] at h; cases h
        | true =>
          rw [hl] at h
          simp only [if_true, Option.some.injEq] at h; subst h
          obtain ⟨e1, e2⟩ := blksOf_get h2
          refine ⟨by simp [e1], fun i R' hR => ?_⟩
          cases i with
          | zero => simp at hR; subst hR; exact ⟨id, rfl, h1, hl⟩
          | succ i => simp at hR ⊢; exact e2 i R' hR
/-- The state without what is handed over. -/
def lessW (S : St) (hb hr : List Nat) : St := { S with H := S.H.filter (fun p => !memN p.1 hb), O := S.O.filter (fun p => !memN p.1 hr) }
theorem lessW_H {S : St} {hb hr : List Nat} {b : Nat} : look (lessW S hb hr).H b = if memN b hb then none else look S.H b := by
  have := look_filter (f := fun k => !memN k hb) (l := S.H) (t := b)
  simp only [lessW]; rw [this]; cases memN b hb <;> rfl
theorem lessW_O {S : St} {hb hr : List Nat} {b : Nat} : look (lessW S hb hr).O b = if memN b hr then none else look S.O b := by
  have := look_filter (f := fun k => !memN k hr) (l := S.O) (t := b)
  simp only [lessW]; rw [this]; cases memN b hr <;> rfl
theorem lessW_sub (S : St) (hb hr : List Nat) : Sub S (lessW S hb hr) := by
  refine ⟨rfl, fun _ _ h => h, fun b B h => ?_, fun b R h => ?_⟩
  · rw [lessW_H] at h; split at h
    · cases h
    · exact h
  · rw [lessW_O] at h; split at h
    · cases h
    · exact h
/-- An argument of a call that hands over boxes and rows. -/
def snapW (S : St) (hb hr : List Nat) : Nat → AV → Option AV
  | 0, _ => none
  | n + 1, c => match c with
    | .agg cs => (cs.mapM (snapW S hb hr n)).map AV.agg
    | .osl id => match idxN id hr 0 with
      | some i => some (.osl (100 + i))
      | none => (snap true (lessW S hb hr) 8 (.osl id)).map .d
    | .loc b off => match idxN b hb 0 with
      | some i => some (.loc i off)
      | none => (snap true (lessW S hb hr) 8 (.loc b off)).map .d
    | c => (snap true (lessW S hb hr) 8 c).map .d
def mpW (S : St) (M : Mp) (hb hr : List Nat) : Mp := ⟨fun i => (hb[i]?).bind M.μ, fun i => if 100 ≤ i then (hr[i - 100]?).bind M.ν else none, okS true (lessW S hb hr) M, fun _ => False, fun _ => False, []⟩
theorem snapW_spec {S : St} {M : Mp} {base yl : Nat} {a : Act} {w : World} {hb hr : List Nat} (hrel : Rel base S M yl a w) : ∀ (n : Nat) (c x : AV) (v : Value), snapW S hb hr n c = some x → RdA w M.ok M.μ M.ν yl c v → RdA w (mpW S M hb hr).ok (mpW S M hb hr).μ (mpW S M hb hr).ν yl x v := by
  intro n
  have hsub := hrel.sub (lessW_sub S hb hr)
  have main : ∀ (c : AV) (x : AV) (v : Value), (snap true (lessW S hb hr) 8 c).map .d = some x → RdA w M.ok M.μ M.ν yl c v → RdA w (mpW S M hb hr).ok (mpW S M hb hr).μ (mpW S M hb hr).ν yl x v := by
    intro c x v h hv
    cases hs : snap true (lessW S hb hr) 8 c with
    | none => rw [hs] at h; cases h
    | some d =>
      rw [hs] at h; cases h
      exact .d (snap_spec hsub 8 c d v hs hv).1
  induction n with
  | zero => intro c x v h; cases h
  | succ n ih =>
    intro c x v h hv
    cases c with
    | agg cs =>
      simp only [snapW] at h
      cases hm : cs.mapM (snapW S hb hr n) with
      | none => rw [hm] at h; cases h
      | some l =>
        rw [hm] at h; simp only [Option.map_some, Option.some.injEq] at h; subst h
        obtain ⟨vs, rfl, h1, h2, h3⟩ := hv.agg'
        obtain ⟨e1, e2⟩ := mapM_get hm
        refine .agg l vs (by rw [h1, e1]) h2 (fun i c v hc hv => ?_)
        obtain ⟨y, hy, hys⟩ := e2 i c hc
        exact ih y c v hys (h3 i y v hy hv)
    | osl id =>
      simp only [snapW] at h
      cases hi : idxN id hr 0 with
      | some i =>
        rw [hi] at h; cases h
        obtain ⟨_, hi'⟩ := idxN_spec hi
        rw [Nat.sub_zero] at hi'
        cases hv with
        | osl h1 h2 => exact .osl (by simp [mpW, hi', h1]) h2
      | none => rw [hi] at h; exact main _ x v h hv
    | loc b off =>
      simp only [snapW] at h
      cases hi : idxN b hb 0 with
      | some i =>
        rw [hi] at h; cases h
        obtain ⟨_, hi'⟩ := idxN_spec hi
        rw [Nat.sub_zero] at hi'
        cases hv with
        | loc h1 => exact .loc (by simp [mpW, hi', h1])
      | none => rw [hi] at h; exact main _ x v h hv
    | any => exact main .any x v h hv
    | d y => exact main (.d y) x v h hv
    | tup l => exact main (.tup l) x v h hv
    | fn f l => exact main (.fn f l) x v h hv
    | asl p q r t => exact main (.asl p q r t) x v h hv
    | oloc p q r t => exact main (.oloc p q r t) x v h hv
    | yld => exact main .yld x v h hv
def snapWL (S : St) (hb hr : List Nat) : List AV → Option (List AV)
  | [] => some []
  | c :: r => match snapW S hb hr 8 c, snapWL S hb hr r with
    | some x, some l => some (x :: l)
    | _, _ => none
theorem snapWL_get {S : St} {hb hr : List Nat} : ∀ {cs : List AV} {xs : List AV}, snapWL S hb hr cs = some xs → cs.length = xs.length ∧ ∀ (i : Nat) (x : AV), xs[i]? = some x → ∃ c, cs[i]? = some c ∧ snapW S hb hr 8 c = some x
  | [], xs, h => by simp [snapWL] at h; subst h; simp
  | c :: r, xs, h => by
    simp only [snapWL] at h
    cases h1 : snapW S hb hr 8 c with
    | none => rw [h1] at h; cases h
    | some x =>
      cases h2 : snapWL S hb hr r with
      | none => rw [h1, h2] at h; cases h
      | some l =>
        rw [h1, h2] at h
        simp only [Option.some.injEq] at h; subst h
        obtain ⟨e1, e2⟩ := snapWL_get h2
        refine ⟨by simp [e1], fun i y hy => ?_⟩
        cases i with
        | zero => simp at hy; subst hy; exact ⟨c, rfl, h1⟩
        | succ i => simp at hy ⊢; exact e2 i y hy
def AV.isd : AV → Bool
  | .d _ => true
  | _ => false
def writS (S : St) (dst : Option Nat) (res : AV) (hb : List Nat) (Bs : List Blk) (hr : List Nat) (Rs : List Row) : St :=
  ⟨S.n, (match dst with | some t => (t, res) :: S.T | none => S.T), setAs S.H hb Bs, setAs S.O hr Rs, S.low⟩
/-- A row as a contract speaks of it: whether a slice is nil is left open. -/
def nnS (R : Row) : Row := if R.sz = 0 then R else { R with nn := false }
theorem nnS_get {O : List Row} {i : Nat} {R : Row} (h : (O.map nnS)[i]? = some R) : ∃ R0, O[i]? = some R0 ∧ R = nnS R0 := by
  rw [List.getElem?_map] at h
  cases hh : O[i]? with
  | none => rw [hh] at h; cases h
  | some R0 => rw [hh] at h; cases h; exact ⟨R0, rfl, rfl⟩
def backR : List Row → List Row → List Row
  | R0 :: r, R :: q => { R with nn := R0.nn } :: backR r q
  | _, _ => []
theorem backR_get : ∀ {O Rs : List Row} {i : Nat} {R : Row}, (backR O Rs)[i]? = some R → ∃ R0 R2, O[i]? = some R0 ∧ Rs[i]? = some R2 ∧ R = { R2 with nn := R0.nn }
  | [], Rs, i, R, h => by cases Rs <;> simp [backR] at h
  | R0 :: r, [], i, R, h => by simp [backR] at h
  | R0 :: r, R2 :: q, 0, R, h => by simp [backR] at h; exact ⟨R0, R2, rfl, rfl, h.symm⟩
  | R0 :: r, R2 :: q, i + 1, R, h => by simp [backR] at h; obtain ⟨a, b, h1, h2, h3⟩ := backR_get h; exact ⟨a, b, by simpa using h1, by simpa using h2, h3⟩
theorem backR_len : ∀ {O Rs : List Row}, Rs.length = O.length → (backR O Rs).length = O.length
  | [], [], _ => rfl
  | [], _ :: _, h => by cases h
  | _ :: _, [], h => by cases h
  | R0 :: r, R2 :: q, h => by simp only [List.length_cons] at h; simp only [backR, List.length_cons]; rw [backR_len (by omega)]
/-- What is written is of numbers, and lives. -/
def WrOk (Bs : List Blk) (Rs : List Row) : Prop := (∀ B ∈ Bs, B.live = true ∧ ∀ c ∈ B.cells, c.scalar = true) ∧ numRows Rs
theorem cfg_callW {E : Env P} {base : Nat} {S : St} {s : E.σ} {M : Mp} {a : Act} {w w' : World} {dst : Option Nat} {hb hr : List Nat} {H Bs : List Blk} {O Rs : List Row} {res : AV} {v : Value} {ok' : Nat → Prop} (hc : Cfg E base S s M a w)
    (hbN : hb.Nodup) (hrN : hr.Nodup) (hH : blksOf S hb = some H) (hO : rowsOf S hr = some O) (hBl : Bs.length = H.length) (hRl : Rs.length = O.length) (hnn : ∀ (i : Nat) (R0 R2 : Row), O[i]? = some R0 → Rs[i]? = some R2 → R2.sz = 0 → R2.nn = R0.nn) (hwr : WrOk Bs Rs) (hs : res.scalar = true) (hd : dstOk S dst = true)
    (hos : w'.os = w.os) (htape : w'.tape = w.tape) (hout : w'.output = w.output) (hsz : w.heap.size ≤ w'.heap.size)
    (hkeep : ∀ k, k < w.heap.size → (¬ ∃ x, At (enumB 0 H) (enumR 100 (O.map nnS)) (mpW S M hb hr) x k) → w'.heap[k]? = w.heap[k]?) (hres : RdA w' ok' (mpW S M hb hr).μ (mpW S M hb hr).ν E.l res v)
    (hheap : HeapOk 0 (enumB 0 Bs) (enumR 100 Rs) { mpW S M hb hr with ok := ok' } E.l w') :
    Cfg E base (writS S dst res hb Bs hr (backR O Rs)) s M (a.put dst v) w' ∧ Ext S M w (writS S dst res hb Bs hr (backR O Rs)) M w' := by
  have hr0 := hc.rel
  obtain ⟨bl, bg⟩ := blksOf_get hH
  obtain ⟨rl, rg⟩ := rowsOf_get hO
  -- the handed blocks
  have hX : ∀ k, (∃ x, At (enumB 0 H) (enumR 100 (O.map nnS)) (mpW S M hb hr) x k) → ∃ x, (match x with | .inl b => b ∈ hb | .inr r => r ∈ hr) ∧ At S.H S.O M x k ∧ Liv S.H S.O x := by
    rintro k ⟨x, hx⟩
    cases x with
    | inl i =>
      obtain ⟨⟨B, hB⟩, hk⟩ := hx
      rw [look_enumB] at hB
      obtain ⟨b, h1, h2, h3⟩ := bg i B (by simpa using hB.2)
      have hk' : (hb[i]?).bind M.μ = some k := hk
      rw [h1] at hk'
      exact ⟨.inl b, List.mem_of_getElem? h1, ⟨⟨B, h2⟩, hk'⟩, B, h2, h3⟩
    | inr i =>
      obtain ⟨⟨R, hR⟩, u, hu, hk⟩ := hx
      rw [look_enumR] at hR
      obtain ⟨R0, hR0, rfl⟩ := nnS_get hR.2
      obtain ⟨b, h1, h2, h3⟩ := rg _ R0 hR0
      have hu' : (if 100 ≤ i then (hr[i - 100]?).bind M.ν else none) = some u := hu
      rw [if_pos hR.1, h1] at hu'
      exact ⟨.inr b, List.mem_of_getElem? h1, ⟨⟨R0, h2⟩, u, hu', hk⟩, R0, h2, h3⟩
  have hXown : ∀ k, (∃ x, At (enumB 0 H) (enumR 100 (O.map nnS)) (mpW S M hb hr) x k) → Own S M k := fun k hk => let ⟨x, _, h1, h2⟩ := hX k hk; .inl ⟨x, h1, h2⟩
  have hliveOk : ∀ x k, At S.H S.O M x k → Liv S.H S.O x → ¬ M.ok k := by
    intro x k hx hl
    cases x with
    | inl b =>
      obtain ⟨B, hB, hl⟩ := hl
      obtain ⟨k', us, g1, g2, g3, g4, g5, g6, g7, g8⟩ := hr0.heap.blk b B hB
      obtain ⟨_, hk⟩ := hx
      rw [hk] at g1; cases g1
      exact g7 hl
    | inr b =>
      obtain ⟨R, hR, hl⟩ := hl
      obtain ⟨u, flat, g1, g2, g3, g4, g5⟩ := hr0.heap.row b R hR
      obtain ⟨_, u', hu, hk⟩ := hx
      rw [hu] at g1; cases g1
      exact (g5 k hk).1 hl
  have hokX : ∀ k, M.ok k → w'.heap[k]? = w.heap[k]? := fun k hk => hkeep k (hr0.okLt k hk) (fun hx => by
    obtain ⟨x, _, h1, h2⟩ := hX k hx
    exact hliveOk x k h1 h2 hk)
  have hother : ∀ x k, At S.H S.O M x k → (match x with | .inl b => b ∉ hb | .inr r => r ∉ hr) → w'.heap[k]? = w.heap[k]? := fun x k hx hn => hkeep k (hr0.heap.at_lt hx).2.1 (fun hx' => by
    obtain ⟨y, hy, h1, h2⟩ := hX k hx'
    have := hr0.heap.inj x y k hx h1
    subst this
    cases x <;> exact hn hy)
  have hat : ∀ x k, At (writS S dst res hb Bs hr (backR O Rs)).H (writS S dst res hb Bs hr (backR O Rs)).O M x k → At S.H S.O M x k := by
    intro x k hx
    cases x with
    | inl b =>
      obtain ⟨⟨B, hB⟩, hk⟩ := hx
      have : (look (setAs S.H hb Bs) b).isSome = true := by rw [show look (setAs S.H hb Bs) b = some B from hB]; rfl
      rw [setAs_some] at this
      exact ⟨Option.isSome_iff_exists.1 this, hk⟩
    | inr b =>
      obtain ⟨⟨B, hB⟩, hk⟩ := hx
      have : (look (setAs S.O hr (backR O Rs)) b).isSome = true := by rw [show look (setAs S.O hr (backR O Rs)) b = some B from hB]; rfl
      rw [setAs_some] at this
      exact ⟨Option.isSome_iff_exists.1 this, hk⟩
  have hlivB : ∀ (b : Nat) (B : Blk), look (setAs S.H hb Bs) b = some B → (b ∈ hb ∧ ∃ i : Nat, hb[i]? = some b ∧ Bs[i]? = some B ∧ ∃ B0, H[i]? = some B0 ∧ look S.H b = some B0 ∧ B0.live = true) ∨ (b ∉ hb ∧ look S.H b = some B) := by
    intro b B hB
    by_cases hm : b ∈ hb
    · obtain ⟨i, hi⟩ := List.mem_iff_getElem?.1 hm
      have hlt := (List.getElem?_eq_some_iff.1 hi).1
      obtain ⟨B0, hB0⟩ : ∃ B0, H[i]? = some B0 := ⟨_, List.getElem?_eq_getElem (by omega)⟩
      obtain ⟨b', h1, h2, h3⟩ := bg i B0 hB0
      rw [hi] at h1; cases h1
      obtain ⟨B1, hB1⟩ : ∃ B1, Bs[i]? = some B1 := ⟨_, List.getElem?_eq_getElem (by omega)⟩
      have := setAs_get (l := S.H) hbN hi hB1 (by rw [h2]; rfl)
      rw [this] at hB; cases hB
      exact .inl ⟨hm, i, hi, hB1, B0, hB0, h2, h3⟩
    · rw [setAs_other hm] at hB; exact .inr ⟨hm, hB⟩
  have hlivR : ∀ (b : Nat) (B : Row), look (setAs S.O hr (backR O Rs)) b = some B → (b ∈ hr ∧ ∃ i : Nat, hr[i]? = some b ∧ (backR O Rs)[i]? = some B ∧ ∃ B0, O[i]? = some B0 ∧ look S.O b = some B0 ∧ B0.live = true) ∨ (b ∉ hr ∧ look S.O b = some B) := by
    intro b B hB
    by_cases hm : b ∈ hr
    · obtain ⟨i, hi⟩ := List.mem_iff_getElem?.1 hm
      have hlt := (List.getElem?_eq_some_iff.1 hi).1
      obtain ⟨B0, hB0⟩ : ∃ B0, O[i]? = some B0 := ⟨_, List.getElem?_eq_getElem (by omega)⟩
      obtain ⟨b', h1, h2, h3⟩ := rg i B0 hB0
      rw [hi] at h1; cases h1
      obtain ⟨B1, hB1⟩ : ∃ B1, (backR O Rs)[i]? = some B1 := ⟨_, List.getElem?_eq_getElem (by rw [backR_len hRl]; omega)⟩
      have := setAs_get (l := S.O) hrN hi hB1 (by rw [h2]; rfl)
      rw [this] at hB; cases hB
      exact .inl ⟨hm, i, hi, hB1, B0, hB0, h2, h3⟩
    · rw [setAs_other hm] at hB; exact .inr ⟨hm, hB⟩
  have hliv : ∀ x, Liv (writS S dst res hb Bs hr (backR O Rs)).H (writS S dst res hb Bs hr (backR O Rs)).O x → Liv S.H S.O x := by
    intro x hx
    cases x with
    | inl b =>
      obtain ⟨B, hB, hl⟩ := hx
      rcases hlivB b B hB with ⟨_, i, _, _, B0, _, h2, h3⟩ | ⟨_, h⟩
      · exact ⟨B0, h2, h3⟩
      · exact ⟨B, h, hl⟩
    | inr b =>
      obtain ⟨B, hB, hl⟩ := hx
      rcases hlivR b B hB with ⟨_, i, _, _, B0, _, h2, h3⟩ | ⟨_, h⟩
      · exact ⟨B0, h2, h3⟩
      · exact ⟨B, h, hl⟩
  have hown : ∀ k, Own (writS S dst res hb Bs hr (backR O Rs)) M k → Own S M k := by
    rintro k (⟨x, hx, hl⟩ | hd')
    · exact .inl ⟨x, hat x k hx, hliv x hl⟩
    · exact .inr hd'
  have hmono : ∀ {c u}, RdA w M.ok M.μ M.ν E.l c u → RdA w' M.ok M.μ M.ν E.l c u := fun h => h.mono (fun _ x => x) hokX (fun _ _ => rfl) (fun _ _ => rfl)
  have hput : (a.put dst v).defers = a.defers := by cases dst <;> rfl
  have hlt := E.lt _ _ _ _ hc.j
  refine ⟨⟨⟨Nat.le_trans hr0.lo hsz, ?_, ?_, ⟨?_, ?_, fun x y k hx hy => hr0.heap.inj x y k (hat x k hx) (hat y k hy)⟩, fun k hk => Nat.lt_of_lt_of_le (hr0.okLt k hk) hsz, by rw [hput]; exact hr0.dfr, ?_, hr0.dsN⟩, ?_, hc.okLv, fun k hk => hc.own k (hown k hk), hc.okDom, hc.bDom⟩,
    ⟨hos, htape, hout, hsz, fun k hk ho _ => hkeep k hk (fun hx => ho (hXown k hx)), fun k _ hk => hown k hk, fun _ x => x, fun _ _ x => .inl x, fun _ _ x => x, Nat.le_refl _, fun _ _ => rfl, fun _ _ x => .inl x, fun _ _ => rfl⟩⟩
  · cases dst with
    | none => exact hr0.size
    | some t => simp only [Act.put, Array.size_setIfInBounds]; exact hr0.size
  · intro t c ht
    cases dst with
    | none =>
      obtain ⟨u, h1, h2⟩ := hr0.tmp t c ht
      exact ⟨u, h1, hmono h2⟩
    | some t' =>
      simp only [writS, look] at ht
      by_cases he : t' = t
      · rw [if_pos he] at ht; cases ht; subst he
        have hlt : t' < a.tmps.size := by rw [hr0.size]; exact Nat.le_of_ble_eq_true hd
        exact ⟨v, by simp [Act.put, hlt], hres.anyOk hs⟩
      · rw [if_neg he] at ht
        obtain ⟨u, h1, h2⟩ := hr0.tmp t c ht
        exact ⟨u, by simp only [Act.put]; rw [Array.getElem?_setIfInBounds_ne he]; exact h1, hmono h2⟩
  · intro b B hB
    rcases hlivB b B hB with ⟨_, i, hi, hBi, B0, _, h2, h3⟩ | ⟨hm, h⟩
    · obtain ⟨k, us, g1, g2, g3, g4, g5, g6, g7, g8⟩ := hheap.blk i B (look_enumB.2 ⟨Nat.zero_le _, by simpa using hBi⟩)
      obtain ⟨k', us', f1, f2, f3, f4, f5, f6, f7, f8⟩ := hr0.heap.blk b B0 h2
      have hk : (hb[i]?).bind M.μ = some k := g1
      rw [hi] at hk
      have hk' : M.μ b = some k := hk
      rw [f1] at hk'; cases hk'
      obtain ⟨hl, hsc⟩ := hwr.1 B (List.mem_of_getElem? hBi)
      exact ⟨k, us, f1, f2, g3, g4, fun j c u hc hu => (g5 j c u hc hu).anyOk (hsc c (List.mem_of_getElem? hc)), g6, fun _ => f7 h3, fun hf => by rw [hl] at hf; cases hf⟩
    · obtain ⟨k, us, f1, f2, f3, f4, f5, f6, f7, f8⟩ := hr0.heap.blk b B h
      exact ⟨k, us, f1, f2, (hother (.inl b) k ⟨⟨B, h⟩, f1⟩ hm).trans f3, f4, fun j c u hc hu => hmono (f5 j c u hc hu), f6, f7, f8⟩
  · intro b R hR
    rcases hlivR b R hR with ⟨_, i, hi, hRi, R0, hR0, h2, h3⟩ | ⟨hm, h⟩
    · obtain ⟨R0', R2, e1, hR2i, rfl⟩ := backR_get hRi
      rw [hR0] at e1; cases e1
      obtain ⟨u, flat, g1, g2, g3, g4, g5⟩ := hheap.row (100 + i) R2 (look_enumR.2 ⟨by omega, by rw [Nat.add_sub_cancel_left]; exact hR2i⟩)
      obtain ⟨u', flat', f1, f2, f3, f4, f5⟩ := hr0.heap.row b R0 h2
      have hu : (if 100 ≤ 100 + i then (hr[100 + i - 100]?).bind M.ν else none) = some u := g1
      rw [if_pos (by omega), Nat.add_sub_cancel_left, hi] at hu
      have hu' : M.ν b = some u := hu
      rw [f1] at hu'; cases hu'
      obtain ⟨hl, hn⟩ := hwr.2 R2 (List.mem_of_getElem? hR2i)
      have hnn0 := hnn i R0 R2 hR0 hR2i
      refine ⟨u, flat, f1, ?_, g3.nums hn, f4, fun k hk => ⟨fun _ => (f5 k hk).1 h3, fun hf => by rw [hl] at hf; cases hf⟩⟩
      have hge : ∀ k, ownB u = some k → base ≤ k := fun k hk => (f2.at hk).1
      rcases g2 with ⟨a1, a2⟩ | ⟨a1, a2, k, es, clock, a3, a4, a5⟩ | ⟨a1, a2, a3⟩
      · refine .inl ⟨a1, a2.1, ?_⟩
        rcases a2.2 with a | ⟨g, cap, cur, c1, c2, c3⟩
        · exact .inl a
        · exact .inr ⟨g, cap, cur, c1, hge g (by rw [c1]; rfl), c3⟩
      · exact .inr (.inl ⟨a1, (hnn0 a1).symm.trans a2, k, es, clock, a3, hge k (by rw [a3]; rfl), a5⟩)
      · refine .inr (.inr ⟨a1, (hnn0 a1).symm.trans a2, ?_⟩)
        rcases a3 with ⟨k, st, p, c1, c2, c3⟩ | ⟨k, km, es, clock, seen, last, c1, c2, c3⟩
        · exact .inl ⟨k, st, p, c1, hge k (by rw [c1]; rfl), c3⟩
        · exact .inr ⟨k, km, es, clock, seen, last, c1, hge k (by rw [c1]; rfl), c3⟩
    · obtain ⟨u, flat, f1, f2, f3, f4, f5⟩ := hr0.heap.row b R h
      exact ⟨u, flat, f1, ownsR_same f2 f3 hokX (fun k hk => hother (.inr b) k ⟨⟨R, h⟩, u, f1, hk⟩ hm), f3.mono (fun _ x => x) hokX, f4, f5⟩
  · intro D hD
    obtain ⟨h1, h2, h3⟩ := hr0.dsOk D hD
    have hDlt := (Array.getElem?_eq_some_iff.1 h2).1
    refine ⟨h1, (hkeep D hDlt (fun hx => ?_)).trans h2, h3⟩
    obtain ⟨x, _, g1, _⟩ := hX D hx
    obtain ⟨_, _, ob, he, ho⟩ := hr0.heap.at_lt g1
    rw [h2] at he; cases he; cases ho
  · exact E.frame _ _ _ _ _ hc.j (fun k hk => hkeep k (hlt k hk) (fun hx => by
      have := hc.own k (hXown k hx)
      exact hk.elim this.1 this.2)) hsz
/-- A call by a contract that writes. -/
theorem bar_callW {E : Env P} {o : Oper} {S : St} {s : E.σ} {f : Operand} {args : Array Operand} {ts : Array TypeId} {fv : AV} {g : Nat} {caps cs xs : List AV} {hb hr : List Nat} {H Bs : List Blk} {O Rs : List Row} {res : AV}
    (ho : o.op = .call { callee := .value f, args := args, argTypes := ts }) (hf : opnd S.T f = some fv) (hg : fnOf fv = some (g, caps)) (ha : opndL S.T args.toList = some cs) (hbN : hb.Nodup) (hrN : hr.Nodup) (hH : blksOf S hb = some H) (hO : rowsOf S hr = some O)
    (hHd : ∀ B ∈ H, ∀ c ∈ B.cells, c.isd = true) (hx : snapWL S hb hr (cs ++ caps) = some xs) (hBl : Bs.length = H.length) (hRl : Rs.length = O.length) (hnn : ∀ (i : Nat) (R0 R2 : Row), O[i]? = some R0 → Rs[i]? = some R2 → R2.sz = 0 → R2.nn = R0.nn) (hwr : WrOk Bs Rs) (hs : res.scalar = true) (hd : dstOk S o.dst = true)
    (hc : ConW P g xs (enumB 0 H) (enumR 100 (O.map nnS)) res (enumB 0 Bs) (enumR 100 Rs)) : Bar E o S s (writS S o.dst res hb Bs hr (backR O Rs)) s := by
  intro r base M a w hcfg K Q hK
  have hr0 := hcfg.rel
  obtain ⟨bl, bg⟩ := blksOf_get hH
  obtain ⟨rl, rg⟩ := rowsOf_get hO
  obtain ⟨vcs, hfv, hcl, hcr⟩ := fnOf_spec (hr0.opnd hf) hg
  obtain ⟨al, ar⟩ := opndL_get ha
  obtain ⟨sl, sr⟩ := snapWL_get hx
  have hargs : ArgsA w (mpW S M hb hr).ok (mpW S M hb hr).μ (mpW S M hb hr).ν E.l xs (args.map a.eval ++ vcs) := by
    refine ⟨by rw [← sl, List.length_append, ← al, ← hcl]; simp, fun i x v hxi hv => ?_⟩
    obtain ⟨c, hc, hcx⟩ := sr i x hxi
    refine snapW_spec hr0 8 c x v hcx ?_
    by_cases hi : i < cs.length
    · rw [List.getElem?_append_left hi] at hc
      obtain ⟨y, hy, hyc⟩ := ar i c hc
      rw [Array.getElem?_append_left (by simp; rw [← Array.length_toList, al]; exact hi), Array.getElem?_map, ← Array.getElem?_toList, hy] at hv
      simp only [Option.map_some, Option.some.injEq] at hv
      subst hv
      exact hr0.opnd hyc
    · rw [List.getElem?_append_right (by omega)] at hc
      have hsz : (args.map a.eval).size = cs.length := by simp; rw [← Array.length_toList, al]
      rw [Array.getElem?_append_right (by rw [hsz]; omega), hsz] at hv
      exact hcr _ c v hc hv
  have hsubAt : ∀ x k, At (lessW S hb hr).H (lessW S hb hr).O M x k → At S.H S.O M x k := fun x k hx => (lessW_sub S hb hr).at hx
  have hokLt : ∀ k, (mpW S M hb hr).ok k → k < w.heap.size := by
    rintro k (hk | ⟨_, x, hx, _⟩)
    · exact hr0.okLt k hk
    · exact (hr0.heap.at_lt (hsubAt x k hx)).2.1
  -- what is handed over does not lean on itself
  have hnotB : ∀ b k, b ∈ hb → At S.H S.O M (.inl b) k → ¬ M.ok k → ¬ (mpW S M hb hr).ok k := by
    rintro b k hm hx hno (hk | ⟨_, x, hx', _⟩)
    · exact hno hk
    · have := hr0.heap.inj _ _ k (hsubAt x k hx') hx
      subst this
      obtain ⟨⟨B, hB⟩, _⟩ := hx'
      rw [lessW_H, if_pos (memN_iff.2 hm)] at hB; cases hB
  have hnotR : ∀ b k, b ∈ hr → At S.H S.O M (.inr b) k → ¬ M.ok k → ¬ (mpW S M hb hr).ok k := by
    rintro b k hm hx hno (hk | ⟨_, x, hx', _⟩)
    · exact hno hk
    · have := hr0.heap.inj _ _ k (hsubAt x k hx') hx
      subst this
      obtain ⟨⟨B, hB⟩, _⟩ := hx'
      rw [lessW_O, if_pos (memN_iff.2 hm)] at hB; cases hB
  have hheap : HeapOk 0 (enumB 0 H) (enumR 100 (O.map nnS)) (mpW S M hb hr) E.l w := by
    refine ⟨fun i B hB => ?_, fun i R hR => ?_, fun x y k hx hy => ?_⟩
    · rw [look_enumB] at hB
      obtain ⟨b, h1, h2, h3⟩ := bg i B (by simpa using hB.2)
      obtain ⟨k, us, f1, f2, f3, f4, f5, f6, f7, f8⟩ := hr0.heap.blk b B h2
      refine ⟨k, us, by show (hb[i]?).bind M.μ = some k; rw [h1]; exact f1, Nat.zero_le _, f3, f4, fun j c u hc hu => ?_, f6, fun hl => hnotB b k (List.mem_of_getElem? h1) ⟨⟨B, h2⟩, f1⟩ (f7 hl), fun hl => by rw [h3] at hl; cases hl⟩
      have hcd := hHd B (List.mem_of_getElem? hB.2) c (List.mem_of_getElem? hc)
      have := f5 j c u hc hu
      cases c with
      | d x => cases this with | d h => exact .d (h.mono (fun k x => .inl x) (fun _ _ => rfl))
      | _ => cases hcd
    · rw [look_enumR] at hR
      obtain ⟨R0, hR0, rfl⟩ := nnS_get hR.2
      obtain ⟨b, h1, h2, h3⟩ := rg _ R0 hR0
      obtain ⟨u, flat, f1, f2, f3, f4, f5⟩ := hr0.heap.row b R0 h2
      have hlv : (nnS R0).live = R0.live := by unfold nnS; split <;> rfl
      have hsz : (nnS R0).sz = R0.sz := by unfold nnS; split <;> rfl
      have hrw : (nnS R0).rows = R0.rows := by unfold nnS; split <;> rfl
      have he : (nnS R0).e = R0.e := by unfold nnS; split <;> rfl
      refine ⟨u, flat, by show (if 100 ≤ i then (hr[i - 100]?).bind M.ν else none) = some u; rw [if_pos hR.1, h1]; exact f1, ?_, by rw [hsz, hrw]; exact f3.mono (fun k x => .inl x) (fun _ _ => rfl), fun hn => f4 ?_, fun k hk => ⟨fun hl => hnotR b k (List.mem_of_getElem? h1) ⟨⟨R0, h2⟩, u, f1, hk⟩ ((f5 k hk).1 (hlv ▸ hl)), fun hl => by rw [hlv, h3] at hl; cases hl⟩⟩
      · have := ownsR_lo f2 (Nat.zero_le _)
        rw [he, hsz, hrw]
        by_cases h0 : R0.sz = 0
        · have : nnS R0 = R0 := by unfold nnS; rw [if_pos h0]
          rw [this]; exact ownsR_lo f2 (Nat.zero_le _)
        · exact .inl ⟨by omega, this.sl (by omega)⟩
      · by_cases h0 : R0.sz = 0
        · have : nnS R0 = R0 := by unfold nnS; rw [if_pos h0]
          rwa [this] at hn
        · have : (nnS R0).nn = false := by unfold nnS; rw [if_neg h0]
          rw [this] at hn; cases hn
    · have aux : ∀ x, At (enumB 0 H) (enumR 100 (O.map nnS)) (mpW S M hb hr) x k → (∃ i b, x = .inl i ∧ hb[i]? = some b ∧ At S.H S.O M (.inl b) k) ∨ (∃ i b, x = .inr (100 + i) ∧ hr[i]? = some b ∧ At S.H S.O M (.inr b) k) := by
        intro x hx
        cases x with
        | inl i =>
          obtain ⟨⟨B, hB⟩, hk⟩ := hx
          rw [look_enumB] at hB
          obtain ⟨b, h1, h2, h3⟩ := bg i B (by simpa using hB.2)
          have hk' : (hb[i]?).bind M.μ = some k := hk
          rw [h1] at hk'
          exact .inl ⟨i, b, rfl, h1, ⟨B, h2⟩, hk'⟩
        | inr i =>
          obtain ⟨⟨R, hR⟩, u, hu, hk⟩ := hx
          rw [look_enumR] at hR
          obtain ⟨R0, hR0, rfl⟩ := nnS_get hR.2
          obtain ⟨b, h1, h2, h3⟩ := rg _ R0 hR0
          have hu' : (if 100 ≤ i then (hr[i - 100]?).bind M.ν else none) = some u := hu
          rw [if_pos hR.1, h1] at hu'
          have hi : i = 100 + (i - 100) := by omega
          exact .inr ⟨i - 100, b, congrArg Sum.inr hi, h1, ⟨R0, h2⟩, u, hu', hk⟩
      rcases aux x hx with ⟨i, b, rfl, h1, h2⟩ | ⟨i, b, rfl, h1, h2⟩ <;> rcases aux y hy with ⟨j, d, rfl, g1, g2⟩ | ⟨j, d, rfl, g1, g2⟩
      · have := hr0.heap.inj _ _ k h2 g2
        simp only [Sum.inl.injEq] at this; subst this
        congr 1
        exact (List.getElem?_inj (List.getElem?_eq_some_iff.1 h1).1 hbN).1 (h1.trans g1.symm)
      · have := hr0.heap.inj _ _ k h2 g2; cases this
      · have := hr0.heap.inj _ _ k h2 g2; cases this
      · have := hr0.heap.inj _ _ k h2 g2
        simp only [Sum.inr.injEq] at this; subst this
        refine congrArg (fun z => Sum.inr (100 + z)) ?_
        exact (List.getElem?_inj (List.getElem?_eq_some_iff.1 h1).1 hrN).1 (h1.trans g1.symm)
  have hcall := hc.2 w (mpW S M hb hr) E.l _ hheap hokLt hargs
  have hrun : (execOp a.eval o).run P w = .ok (.enter g (args.map a.eval ++ vcs)) w := by
    simp only [execOp, ho, resolve, Deferred.ofValue, hfv, Sem.run_bind, Sem.run_pure, Result.andThen, invoke]
    have : (#[] : Array Value) ++ args.map a.eval = args.map a.eval := by simp
    rw [this]; exact hc.1 _ w
  unfold Oper.wpIn
  rw [Oper.semAt_eq _ _ _ (by simp [ho]), hrun]
  refine ⟨fun _ _ => trivial, fun h => (by cases h), ?_⟩
  have hcallsIn : CallsIn (FW r) 0 P g (args.map a.eval ++ vcs) w _ := (callsIn_wide (n := 0)).2 hcall
  refine hcallsIn.mono ?_
  rintro e w' ⟨v, ok', rfl, k1, k2, k3, k4, k5, k6, k7⟩
  obtain ⟨c1, c2⟩ := cfg_callW (dst := o.dst) hcfg hbN hrN hH hO hBl hRl hnn hwr hs hd k1 k2 k3 k4 k5 k6 k7
  exact hK v w' M c1 c2
end Go.Proofs.Ytelnoeamkdpjhaa.Aw

/- The logic of abstract walks, part M4: the conditions for evaluation are enough. -/
namespace Go.Proofs.Ytelnoeamkdpjhaa.Aw
open Go Go.RowKit
set_option linter.unusedVariables false
set_option linter.unusedSimpArgs false
universe u
variable {P : Program} {E : Env P} {base : Nat} {r : Option Nat}
def plenN : List KP → Nat
  | [] => 0
  | .ls _ _ l _ :: r => l.length + plenN r
  | .rw rows :: r => rows.length + plenN r
  | .raw rows :: r => rows.length + plenN r
  | .mp _ _ l _ :: r => l.length + plenN r
theorem plenN_spec (sz : Nat) : ∀ (ps : List KP), (rowsD sz ps).length = plenN ps
  | [] => rfl
  | .ls _ _ l _ :: r => by simp [rowsD, plenN, KP.rows, plenN_spec sz r]
  | .rw rows :: r => by simp [rowsD, plenN, KP.rows, plenN_spec sz r, toDLL_map]
  | .raw rows :: r => by simp [rowsD, plenN, KP.rows, plenN_spec sz r]
  | .mp _ _ l _ :: r => by simp [rowsD, plenN, KP.rows, plenN_spec sz r]
def strAt (s : ByteArray) (i : Int) : Int := match s[i.toNat]? with
  | some b => b.toNat
  | none => 0
/-- What holds behind code, up to what may be forgotten. -/
def KQ (Q : Exit → KSt → E.σ → Prop) : Exit → St → E.σ → Prop := fun e S s => ∃ S', Weak S S'.st ∧ Q e S' s
def unT : Un → Option TypeDesc
  | .bool => some .bool
  | .str => some .string
  | .int k => some (.int k)
  | .other => none
  | .flat _ => none
theorem unT_spec {P : Program} {t : Nat} {i : TI} {d : TypeDesc} (hi : TIOk P t i) (h : unT i.un = some d) : P.underlying t = some d := by
  cases hu : i.un <;> rw [hu] at h <;> simp only [unT] at h <;> cases h
  · exact hi.bool hu
  · exact hi.str hu
  · exact hi.int _ hu
def unK : Un → KeyT → Prop
  | .flat n, .ag ks => ks.length = n
  | .flat _, _ => False
  | u, .sc d => unT u = some d
  | _, _ => False
theorem unK_spec {P : Program} {t : Nat} {i : TI} {d : KeyT} (hi : TIOk P t i) (h : unK (kun i) d) : KeyOk P t d := by
  unfold kun at h
  cases he : i.eqn with
  | some n =>
    rw [he] at h
    cases d with
    | sc d => exact (show False from h).elim
    | ag ks => have h : ks.length = n := h; subst h; exact ⟨(hi.eqn _ he).1, (hi.eqn _ he).2.1⟩
  | none =>
    rw [he] at h
    cases hu : i.un with
    | flat n => rw [hu] at h; cases d with
      | sc d => exact absurd (show unT .other = some d from h) (by simp [unT])
      | ag ks => exact (show False from h).elim
    | _ =>
      rw [hu] at h
      cases d with
      | sc d => exact unT_spec hi (by rw [hu]; exact h)
      | ag ks => exact (show False from h).elim
theorem okDat_av {c : KV} (h : okDat c = true) : c.av = toAV c.toD := by
  unfold okDat at h
  split at h
  · simp only [KV.toD, toAV, KV.av, allD_av h]
  · rw [KV.isD_av h]
    have := KV.isD_agg h
    cases hx : c.toD with
    | agg l => exact absurd hx (this l)
    | _ => rfl
theorem okDat_rd {c : KV} (h : okDat c = true) {w : World} {ok : Nat → Prop} {μ : Nat → Option Nat} {ν : Nat → Option Value} {yl : Nat} {v : Value} (hv : RdA w ok μ ν yl c.av v) : Rd w ok c.toD v := by
  unfold okDat at h
  split at h
  · rename_i cs
    rw [KV.av, allD_av h] at hv
    rw [KV.toD]
    cases hv with
    | agg _ vs hl h1 hh =>
      refine .agg _ vs (by simpa using hl) h1 (fun i c v hc hv => ?_)
      have := hh i (.d c) v (by rw [List.getElem?_map, hc]; rfl) hv
      cases this with | d h => exact h
  · rw [KV.isD_av h] at hv
    cases hv with | d h => exact h
theorem idxK'_spec {n : Nat} : ∀ {l : List Nat} {i : Nat}, idxK' n l i = idxN n l i
  | [], _ => rfl
  | k :: r, i => by
    simp only [idxK', idxN]
    by_cases e : k = n
    · subst e; simp
    · have : Nat.beq k n = false := by cases h : Nat.beq k n with
        | false => rfl
        | true => exact absurd (Nat.eq_of_beq_eq_true h) e
      simp [this, e, idxK'_spec (l := r)]
theorem lessK_spec (ids : List Nat) : ∀ (O : List (Nat × KRow)), mapO (lessK ids O) = (mapO O).filter fun p => !memN p.1 ids
  | [] => rfl
  | (k, R) :: r => by
    simp only [lessK, mapO, List.filter_cons]
    cases memN k ids <;> simp [mapO, lessK_spec ids r]
def primK (P : Program) (E : Env P) (base : Nat) (r : Option Nat) (post : KV → List KRow → Prop) : Prim E.σ where
  iop := iopR
  icmp := icmpR
  oknz := oknzR
  neg k n := k.wrap (0 - n)
  conv k n := k.wrap n
  not b := !b
  beq a b := a == b
  max a b := max a b
  min a b := min a b
  tst b A B := (b = true → A) ∧ (b = false → B)
  conj A B := A ∧ B
  inb i n := 0 ≤ i ∧ i < n
  plen ps := plenN ps
  get _ d l i := l.getD i.toNat d
  sub _ l lo hi := (l.take hi.toNat).drop lo.toNat
  le a b := a ≤ b
  strlen s := s.size
  strat s i := strAt s i
  fits ps bytes := plenN ps * bytes ≤ 140737488355328 ∧ plenN ps ≤ 140737488355328
  mkok n bytes := 0 ≤ n ∧ (bytes : Int) * n ≤ 281474976710656 ∧ n ≤ 9223372036854775807
  reps n z := [.ls Unit () (List.replicate n.toNat ()) fun _ j => (nth z j).getD .any]
  C g args K := ∃ res rows, Con P g (KV.toDL args) res.av (rows.map KRow.row) ∧ K res rows
  CD g args ds K := ∃ res rows, Con P g (KV.toDL args ++ ds) res.av (rows.map KRow.row) ∧ K res rows
  noagg ds := noAggD ds = true
  W c S s Q := AW E base r c S.st s (KQ Q)
  Y s xs K := E.step s (KV.toDL xs) ∧ ∀ s' b, E.out s (KV.toDL xs) s' b → K b s'
  post := post
  eqs := eqI
  norm ps sz K := ∃ ps', rowsD sz ps' = rowsD sz ps ∧ K ps'
  mget u ps k z K := ∃ d, unK u d ∧ isKeyD d k.toD ∧ keysD d (rowsD 0 ps) ∧ ∃ v b, v.av = toAV (lkD (rowsD 0 ps) k.toD z.toD) ∧ b = lkOk (rowsD 0 ps) k.toD ∧ K v b
  mset u ps k v K := ∃ d, unK u d ∧ isKeyD d k.toD ∧ keysD d (rowsD 0 ps) ∧ ∃ ps', rowsD 0 ps' = msetD (rowsD 0 ps) k.toD v.toD ∧ K ps'
  mdel u ps k K := ∃ d, unK u d ∧ isKeyD d k.toD ∧ keysD d (rowsD 0 ps) ∧ ∃ ps', rowsD 0 ps' = mdelD (rowsD 0 ps) k.toD ∧ K ps'
  nums rows := numRows (rows.map KRow.row)
  mnext _ l Ks Ke := (l = [] → Ke) ∧ ∀ i x, l[i]? = some x → Ks x (l.eraseIdx i)
  rnone := r = none
  CW g xs Hs Os K := ∃ res Bs Rs, ConW P g (KV.avL xs) (enumB 0 (Hs.map KBlk.blk)) (enumR 100 (Os.map KRow.row)) res.av (enumB 0 (Bs.map KBlk.blk)) (enumR 100 (Rs.map KRow.row)) ∧ K res Bs Rs
  setl ps sz ix j cs K := ∃ ps', rowsD sz ps' = (rowsD sz ps).set ix.toNat (putG ((rowsD sz ps).getD ix.toNat []) j (KV.toDL cs)) ∧ K ps'
theorem AW_weakQ {c : Code} {S : St} {s : E.σ} {Q : Exit → St → E.σ → Prop} (h : AW E base r c S s fun e S' s' => ∃ S'', Weak S' S'' ∧ Q e S'' s') : AW E base r c S s Q := by
  intro M a w hc
  refine wpIn_mono (h M a w hc) ?_
  rintro e a' w' ⟨S', s', M', ⟨S'', hw, hq⟩, hc', hx⟩
  obtain ⟨M2, h1, h2⟩ := hw _ _ _ _ _ _ _ hc'
  exact ⟨S'', s', M2, hq, h1, hx.trans h2⟩
variable {post : KV → List KRow → Prop} {tb : Nat → Option TI}
theorem st_look {S : KSt} {t : Nat} : look S.st.T t = (lk S.T t).map KV.av := look_mapT
theorem st_lookH {S : KSt} {t : Nat} : look S.st.H t = (lk S.H t).map KBlk.blk := look_mapH
theorem st_lookO {S : KSt} {t : Nat} : look S.st.O t = (lk S.O t).map KRow.row := look_mapO
theorem kop_st {S : KSt} {x : Operand} {c : KV} (h : kop S.T x = some c) : opnd S.st.T x = some c.av := kop_spec h
theorem sameK_spec {k k' : IntKind} (h : sameK k k' = true) : k = k' := by cases k <;> cases k' <;> first | rfl | cases h
/-- A value that an operation may bring. -/
abbrev FreeR (P : Program) (o : Oper) (S : KSt) (K : KV → List (Nat × KBlk) → List (Nat × KRow) → Prop) : Prop := ∃ res nh no, Free P o S.st res.av (mapH nh) (mapO no) ∧ K res nh no
theorem freeR_plain {o : Oper} {S : KSt} {K : KV → List (Nat × KBlk) → List (Nat × KRow) → Prop} {res : KV} (h : Free P o S.st res.av [] []) (k : K res [] []) : FreeR P o S K := ⟨res, [], [], h, k⟩
theorem getD_in {α : Type} {d : α} {l : List α} {i : Int} (h0 : 0 ≤ i) (h1 : i < l.length) : l[i.toNat]? = some (l.getD i.toNat d) := by
  have : i.toNat < l.length := by omega
  simp [List.getD_eq_getElem?_getD, this]
theorem rowD_getD {f : Nat → KV} : ∀ (n j i : Nat), i < n → (rowD n j fun j => (f j).toD)[i]? = some (f (j + i)).toD
  | 0, _, i, h => by omega
  | n + 1, j, 0, h => by simp [rowD]
  | n + 1, j, i + 1, h => by
    simp only [rowD, List.getElem?_cons_succ]
    rw [rowD_getD n (j + 1) i (by omega), show j + 1 + i = j + (i + 1) from by omega]
theorem getK_spec {o : Oper} {S : KSt} {t : TypeId} {x : Operand} {i : TI} {id sz j : Nat} {ix : Int} {R : KRow} {α : Type} {d : α} {l : List α} {f : α → Nat → KV} {K : KV → Prop} (ho : o.op = .load t x) (hi : TIOk P t i)
    (hx : opnd S.st.T x = some (.oloc id sz ix.toNat j)) (hR' : look S.st.O id = some R.row) (h1 : R.sz = sz) (hps : R.row.rows = l.map fun a => rowD sz 0 fun j => (f a j).toD)
    (h : getK (primK P E base r post) i sz ix j α d l f K) : ∃ res, Free P o S.st res.av [] [] ∧ K res := by
  replace h : (0 ≤ ix ∧ ix < (plenN [KP.ls α d l f] : Int)) ∧ _ := h; obtain ⟨hin, h⟩ := h
  have hlen : plenN [KP.ls α d l f] = l.length := by simp [plenN]
  rw [hlen] at hin
  have hrow : R.row.rows[ix.toNat]? = some (rowD sz 0 fun j => (f (l.getD ix.toNat d) j).toD) := by
    rw [hps, List.getElem?_map, getD_in (d := d) hin.1 hin.2]; rfl
  have hx' : opnd S.st.T x = some (.oloc id R.row.sz ix.toNat j) := by rw [show R.row.sz = sz from h1]; exact hx
  cases hag : i.ag with
  | false =>
    rw [hag] at h
    replace h := kif_spec h; obtain ⟨h2, h⟩ := h
    replace h := kif_spec h; obtain ⟨h3, h⟩ := h
    rw [Nat.blt_eq] at h2
    refine ⟨_, ?_, h⟩
    rw [KV.isD_av h3]
    exact free_load_oloc ho hR' hx' (hag ▸ hi.ag) hrow (by rw [rowD_getD _ _ _ h2, Nat.zero_add]; rfl)
  | true =>
    rw [hag] at h
    replace h := kif_spec h; obtain ⟨h2, h⟩ := h
    replace h := kif_spec h; obtain ⟨h3, h⟩ := h
    have h2 := Nat.le_of_ble_eq_true h2
    refine ⟨_, ?_, h⟩
    have e1 : rowD sz 0 (fun j => (f (l.getD ix.toNat d) j).toD) = KV.toDL (rowK sz 0 (f (l.getD ix.toNat d))) := (rowK_toD _ _).symm
    rw [e1] at hrow
    have := free_load_oloc_agg ho hR' hx' (hag ▸ hi.ag) hi.sz hrow (by rw [toDL_len, lenK_eq, rowK_len]; exact h2)
    rw [toDL_drop, toDL_take] at this
    have h4 : allD (takeK i.sz (dropK j (rowK sz 0 (f (l.getD ix.toNat d))))) = true := by
      have : ∀ c ∈ takeK i.sz (dropK j (rowK sz 0 (f (l.getD ix.toNat d)))), c.isD = true := fun c hc => allD_get h3 c (by rw [takeK_eq, dropK_eq] at hc; exact List.mem_of_mem_drop (List.mem_of_mem_take hc))
      revert this
      generalize takeK i.sz (dropK j (rowK sz 0 (f (l.getD ix.toNat d)))) = L
      intro this
      induction L with
      | nil => rfl
      | cons y q ih => simp only [allD, Bool.and_eq_true]; exact ⟨this y (by simp), ih (fun c hc => this c (by simp [hc]))⟩
    rw [← allD_av h4] at this
    exact this
theorem loadK_spec {o : Oper} {S : KSt} {t : TypeId} {x : Operand} {c : KV} {K : KV → Prop} (hT : ∀ t i, tb t = some i → TIOk P t i) (ho : o.op = .load t x) (hx : opnd S.st.T x = some c.av)
    (h : loadK (primK P E base r post) tb t S c K) : ∃ res, Free P o S.st res.av [] [] ∧ K res := by
  replace h := kk_spec h; obtain ⟨i, hi, h⟩ := h
  have hi := hT _ _ hi
  split at h
  · rename_i cs
    have hx : opnd S.st.T x = some (.d (.ptr (KV.toDL cs))) := hx
    cases hag : i.ag with
    | false =>
      rw [hag] at h
      cases cs with
      | nil => exact h.elim
      | cons y l =>
        replace h := kif_spec h; obtain ⟨h1, h⟩ := h
        exact ⟨y, by rw [KV.isD_av h1]; exact free_load_ptr ho hx (hag ▸ hi.ag) rfl, h⟩
    | true =>
      rw [hag] at h
      replace h := kif_spec h; obtain ⟨h1, h⟩ := h
      replace h := kif_spec h; obtain ⟨h2, h⟩ := h
      refine ⟨.agg (takeK i.sz cs), ?_, h⟩
      have := free_load_ptr_agg ho hx (hag ▸ hi.ag) hi.sz (by rw [toDL_len]; exact Nat.le_of_ble_eq_true h1) (noAggD_spec (allD_noAgg h2))
      rwa [show (KV.agg (takeK i.sz cs)).av = .agg (((KV.toDL cs).take i.sz).map .d) from by simp only [KV.av]; rw [← avL_take, allD_av h2, List.map_take]]
  · rename_i b off
    replace h := kk_spec h; obtain ⟨B, hB, h⟩ := h
    have hB' : look S.st.H b = some B.blk := by rw [st_lookH, hB]; rfl
    cases hag : i.ag with
    | false =>
      rw [hag] at h
      replace h := kk_spec h; obtain ⟨c, hc, h⟩ := h
      exact ⟨c, free_load_loc ho hx (hag ▸ hi.ag) hB' (by rw [show B.blk.cells = KV.avL B.cells from rfl, nth_avL, hc]; rfl), h⟩
    | true =>
      rw [hag] at h
      replace h := kif_spec h; obtain ⟨h1, h⟩ := h
      refine ⟨_, ?_, h⟩
      have := free_load_loc_agg ho hx (hag ▸ hi.ag) hi.sz hB' (by rw [show B.blk.cells = KV.avL B.cells from rfl, avL_len]; exact Nat.le_of_ble_eq_true h1)
      rwa [show B.blk.cells = KV.avL B.cells from rfl, avL_drop, avL_take] at this
  · rename_i id sz ix j
    replace h := kk_spec h; obtain ⟨R, hR, h⟩ := h
    replace h := kif_spec h; obtain ⟨h1, h⟩ := h
    have h1 := Nat.eq_of_beq_eq_true h1
    have hR' : look S.st.O id = some R.row := by rw [st_lookO, hR]; rfl
    split at h
    · rename_i α d l f hps
      exact getK_spec ho hi hx hR' h1 (by simp only [KRow.row, hps, rowsD, KP.rows, List.append_nil, h1]) h
    · replace h : ∃ ps', rowsD sz ps' = rowsD sz R.ps ∧ _ := h; obtain ⟨ps', hp, h⟩ := h
      split at h
      · rename_i α d l f
        exact getK_spec ho hi hx hR' h1 (by simp only [KRow.row]; rw [h1, ← hp]; simp only [rowsD, KP.rows, List.append_nil]) h
      · exact h.elim
  · exact h.elim
theorem fldK_spec {o : Oper} {S : KSt} {s f : Nat} {x : Operand} {c : KV} {K : KV → Prop} (hT : ∀ t i, tb t = some i → TIOk P t i) (ho : o.op = .fieldAddr s x f) (hx : opnd S.st.T x = some c.av)
    (h : fldK tb s f c K) : ∃ res, Free P o S.st res.av [] [] ∧ K res := by
  replace h := kk_spec h; obtain ⟨i, hi, h⟩ := h
  replace h := kk_spec h; obtain ⟨q, hq, h⟩ := h
  replace h := kif_spec h; obtain ⟨h0, h⟩ := h
  obtain ⟨n, hf⟩ := fldT_pos ((hT _ _ hi).fl _ _ hq) h0
  split at h
  · rename_i cs
    refine ⟨_, ?_, h⟩
    have := free_fieldAddr_ptr ho (cs := KV.toDL cs) hx hf
    rwa [toDL_drop] at this
  · refine ⟨_, ?_, h⟩; exact free_fieldAddr_loc ho hx hf
  · refine ⟨_, ?_, h⟩; exact free_fieldAddr_oloc ho hx hf
  · exact h.elim
theorem casesN_spec {m : Int} {K : Nat → Prop} : ∀ {n k : Nat}, casesN (primK P E base r post) m n k K → (k : Int) ≤ m → m < k + n → K m.toNat
  | 0, k, h, _, _ => h.elim
  | 1, k, h, h1, h2 => by
    have : m.toNat = k := by omega
    rw [this]; exact h
  | n + 2, k, h, h1, h2 => by
    obtain ⟨g1, g2⟩ := (h : ((primK P E base r post).icmp .eql m (Int.ofNat k) = true → K k) ∧ ((primK P E base r post).icmp .eql m (Int.ofNat k) = false → casesN (primK P E base r post) m (n + 1) (k + 1) K))
    by_cases e : m = Int.ofNat k
    · have : m.toNat = k := by subst e; rfl
      rw [this]; exact g1 (show (m == Int.ofNat k) = true from by simp [e])
    · have e' : ¬ m = (k : Int) := e
      exact casesN_spec (g2 (show (m == Int.ofNat k) = false from by simpa using e)) (by omega) (by omega)
theorem idxK_spec {o : Oper} {S : KSt} {t : TypeId} {x ix : Operand} {c d : KV} {K : KV → Prop} (hT : ∀ t i, tb t = some i → TIOk P t i) (ho : o.op = .indexAddr t x ix) (hx : opnd S.st.T x = some c.av) (hd : opnd S.st.T ix = some d.av)
    (h : idxK (primK P E base r post) tb t S c d K) : ∃ res, Free P o S.st res.av [] [] ∧ K res := by
  replace h := kk_spec h; obtain ⟨i, hi, h⟩ := h
  have hi := hT _ _ hi
  split at h
  · rename_i clip sz α dd l f
    replace h := kk_spec h; obtain ⟨⟨e, n⟩, hr, h⟩ := h
    replace h := kif_spec h; obtain ⟨h1, h⟩ := h
    have h1 := Nat.eq_of_beq_eq_true h1
    simp only at h1; subst h1
    replace h := kk_spec h; obtain ⟨⟨fl, k, m⟩, hn, h⟩ := h
    replace h : (0 ≤ m ∧ m < (plenN [KP.ls α dd l f] : Int)) ∧ _ := h; obtain ⟨⟨h2, h3⟩, h⟩ := h
    refine ⟨_, ?_, h⟩
    have := free_indexAddr ho hx (hd.trans (congrArg some (numK_spec hn))) (hi.el _ hr) h2 (row := rowD n 0 fun j => (f (l.getD m.toNat dd) j).toD) (by rw [List.getElem?_map, getD_in (d := dd) h2 (by simpa [plenN] using h3)]; rfl)
    rwa [← rowK_toD] at this
  · rename_i clip sz rows
    replace h := kk_spec h; obtain ⟨⟨e, n⟩, hr, h⟩ := h
    replace h := kif_spec h; obtain ⟨h1, h⟩ := h
    have h1 := Nat.eq_of_beq_eq_true h1
    simp only at h1; subst h1
    replace h := kk_spec h; obtain ⟨m, hn, h⟩ := h
    replace h := kk_spec h; obtain ⟨row, hrow, h⟩ := h
    obtain ⟨k, hk⟩ := litN_spec hn
    refine ⟨_, ?_, h⟩; exact free_indexAddr ho hx (hd.trans (congrArg some hk)) (hi.el _ hr) (by omega) (row := KV.toDL row) (by rw [toDLL_map, List.getElem?_map, ← nth_eq, Int.toNat_natCast, hrow]; rfl)
  · rename_i id
    replace h := kk_spec h; obtain ⟨⟨e, n⟩, hr, h⟩ := h
    replace h := kk_spec h; obtain ⟨R, hR, h⟩ := h
    replace h := kif_spec h; obtain ⟨h1, h⟩ := h
    have h1 := Nat.eq_of_beq_eq_true h1
    simp only at h1; subst h1
    replace h := kif_spec h; obtain ⟨h0, h⟩ := h
    rw [Nat.blt_eq] at h0
    replace h := kk_spec h; obtain ⟨⟨fl, k, m⟩, hn, h⟩ := h
    replace h : (0 ≤ m ∧ m < (plenN R.ps : Int)) ∧ _ := h; obtain ⟨⟨h2, h3⟩, h⟩ := h
    have hR' : look S.st.O id = some R.row := by rw [st_lookO, hR]; rfl
    refine ⟨_, ?_, h⟩; exact free_indexAddr_osl ho hx hR' h0 (hd.trans (congrArg some (numK_spec hn))) (hi.el _ hr) h2 (by rw [show R.row.rows.length = plenN R.ps from plenN_spec _ _]; exact h3)
  · rename_i b off
    replace h := kk_spec h; obtain ⟨⟨l, e, n⟩, hr, h⟩ := h
    simp only at h
    split at h
    · rename_i m hn
      replace h := kif_spec h; obtain ⟨h1, h⟩ := h
      rw [Nat.blt_eq] at h1
      obtain ⟨k, hk⟩ := litN_spec hn
      have := free_indexAddr_arr ho hx (hd.trans (congrArg some hk)) (hi.ar _ hr) (by omega) (by omega)
      refine ⟨_, ?_, h⟩; exact by rwa [Int.toNat_natCast] at this
    · replace h := kk_spec h; obtain ⟨⟨fl, k, m⟩, hn, h⟩ := h
      replace h : (0 ≤ m ∧ m < (Int.ofNat l)) ∧ _ := h; obtain ⟨⟨h2, h3⟩, h⟩ := h
      have h3 : m < (l : Int) := h3
      have := free_indexAddr_arr ho hx (hd.trans (congrArg some (numK_spec hn))) (hi.ar _ hr) h2 h3
      have h : casesN (primK P E base r post) m l 0 (fun q => K (.loc b (off + q * n))) := h
      exact ⟨.loc b (off + m.toNat * n), this, casesN_spec h (by omega) (by omega)⟩
  · rename_i cs
    replace h := kk_spec h; obtain ⟨⟨l, e, n⟩, hr, h⟩ := h
    simp only at h
    split at h
    · rename_i m hn
      replace h := kif_spec h; obtain ⟨h1, h⟩ := h
      rw [Nat.blt_eq] at h1
      obtain ⟨k, hk⟩ := litN_spec hn
      have := free_indexAddr_parr ho (cs := KV.toDL cs) hx (hd.trans (congrArg some hk)) (hi.ar _ hr) (by omega) (by omega)
      refine ⟨_, ?_, h⟩; exact by rwa [Int.toNat_natCast, toDL_drop] at this
    · replace h := kk_spec h; obtain ⟨⟨fl, k, m⟩, hn, h⟩ := h
      replace h : (0 ≤ m ∧ m < (Int.ofNat l)) ∧ _ := h; obtain ⟨⟨h2, h3⟩, h⟩ := h
      have h3 : m < (l : Int) := h3
      have := free_indexAddr_parr ho (cs := KV.toDL cs) hx (hd.trans (congrArg some (numK_spec hn))) (hi.ar _ hr) h2 h3
      have h : casesN (primK P E base r post) m l 0 (fun q => K (.ptr (dropK (q * n) cs))) := h
      exact ⟨.ptr (dropK (m.toNat * n) cs), by rwa [toDL_drop] at this, casesN_spec h (by omega) (by omega)⟩
  · exact h.elim
theorem intsK_spec : ∀ {cs : List KV} {l : List (IntKind × Int)}, intsK cs = some l → KV.avL cs = intsC l
  | [], l, h => by simp only [intsK, Option.some.injEq] at h; subst h; rfl
  | c :: q, l, h => by
    unfold intsK at h
    split at h
    · rename_i la k n hc
      split at h
      · rename_i l' hl
        simp only [Option.some.injEq] at h; subst h
        simp only [KV.avL, intsC, intsK_spec hl, numK_spec hc]
      · cases h
    · cases h
theorem kindsK_spec : ∀ {l m : List (IntKind × Int)}, kindsK l m = true → kindsEq l m = true
  | [], [], _ => rfl
  | (k, a) :: q, (k', b) :: q', h => by
    unfold kindsK at h
    split at h
    · rename_i hk
      have := sameK_spec hk
      subst this
      simp only [kindsEq, beq_self_eq_true, Bool.true_and]; exact kindsK_spec h
    · cases h
  | [], _ :: _, h => by cases h
  | _ :: _, [], h => by cases h
theorem eqOp_spec {op : BinOp} {neq : Bool} (h : eqOp op = some neq) : op = if neq then .neq else .eql := by
  cases op <;> simp [eqOp] at h <;> subst h <;> rfl
theorem notB_spec (b : Bool) : notB b = !b := by cases b <;> rfl
theorem litB_av (b : Bool) : (litB b).av = .d (.bool b) := by cases b <;> rfl
theorem binK_spec {o : Oper} {S : KSt} {t yt : TypeId} {op : BinOp} {x y : Operand} {c d : KV} {K : KV → Prop} (hT : ∀ t i, tb t = some i → TIOk P t i) (ho : o.op = .binOp op t x y yt) (hx : opnd S.st.T x = some c.av) (hy : opnd S.st.T y = some d.av)
    (h : binK (primK P E base r post) tb t op c d K) : ∃ res, Free P o S.st res.av [] [] ∧ K res := by
  unfold binK at h
  split at h
  · rename_i la k a hc
    replace h := kk_spec h; obtain ⟨⟨lb, k', b⟩, hn, h⟩ := h
    have hx := hx.trans (congrArg some (numK_spec hc))
    have hy := hy.trans (congrArg some (numK_spec hn))
    split at h
    · rename_i hk
      replace h := kif_spec h; obtain ⟨h1, h⟩ := h
      have h1 := sameK_spec h1
      simp only at h1; subst h1
      have hr : intOp op k a b = some (.int k (iopR op k a b)) := by cases op <;> first | rfl | (simp [opKind] at hk; done)
      have hfree := free_bin (P := P) ho hx hy hr
      split at h
      · refine ⟨_, ?_, h⟩
        have : (foldK (primK P E base r post) op k a b).av = .d (.int k (iopR op k a b)) := by
          cases op <;> rfl
        rw [this]; exact hfree
      · refine ⟨_, ?_, h⟩; exact hfree
    · rename_i hk
      replace h := kif_spec h; obtain ⟨h1, h⟩ := h
      have h1 := sameK_spec h1
      simp only at h1; subst h1
      have key : b ≠ 0 → Free P o S.st (.d (.int k (iopR op k a b))) [] [] := fun hb => by
        refine free_bin ho hx hy ?_
        cases op <;> first | (simp [opKind] at hk; done) | (simp [intOp, iopR, hb]; done)
      split at h
      · rename_i hl
        suffices hb : b ≠ 0 by refine ⟨_, ?_, h⟩; exact key hb
        cases d <;> simp only [litZ] at hl <;> try cases hl
        rename_i k2 m
        simp only [numK, Option.some.injEq, Prod.mk.injEq] at hn
        obtain ⟨_, _, rfl⟩ := hn
        intro e
        subst e
        cases hl
      · replace h : oknzR op b ∧ _ := h; obtain ⟨h2, h⟩ := h
        suffices hb : b ≠ 0 by refine ⟨_, ?_, h⟩; exact key hb
        cases op <;> first | (simp [opKind] at hk; done) | exact h2
    · rename_i hk
      replace h : oknzR op b ∧ _ := h; obtain ⟨h2, h⟩ := h
      refine ⟨_, ?_, h⟩
      cases op <;> try (simp [opKind] at hk; done)
      · exact free_shift ho hx hy h2 (.inl ⟨rfl, rfl⟩)
      · exact free_shift ho hx hy h2 (.inr ⟨rfl, rfl⟩)
    · rename_i hk
      replace h := kif_spec h; obtain ⟨h1, h⟩ := h
      have h1 := sameK_spec h1
      simp only at h1; subst h1
      have hr : intOp op k a b = some (.bool (icmpR op a b)) := by cases op <;> first | rfl | (simp [opKind] at hk; done)
      have hfree := free_bin (P := P) ho hx hy hr
      split at h
      · refine ⟨_, ?_, h⟩
        have : (litB (icmpR op a b)).av = .d (.bool (icmpR op a b)) := by cases icmpR op a b <;> rfl
        rw [this]; exact hfree
      · refine ⟨_, ?_, h⟩; exact hfree
    · exact h.elim
  · replace h := kk_spec h; obtain ⟨i, hi, h⟩ := h
    split at h
    · rename_i hu
      replace h := kk_spec h; obtain ⟨a, ha, h⟩ := h
      replace h := kk_spec h; obtain ⟨b, hb, h⟩ := h
      have hx := hx.trans (congrArg some (boolK_spec ha))
      have hy := hy.trans (congrArg some (boolK_spec hb))
      split at h
      · refine ⟨_, ?_, h⟩; exact free_eqBool false ho hx hy ((hT _ _ hi).bool hu)
      · refine ⟨_, ?_, h⟩; exact free_eqBool true ho hx hy ((hT _ _ hi).bool hu)
      · exact h.elim
    · have hi := hT _ _ hi
      split at h
      · replace h := kk_spec h; obtain ⟨⟨e, n⟩, hr, h⟩ := h
        replace h := kk_spec h; obtain ⟨neq, hn, h⟩ := h
        have := eqOp_spec hn
        subst this
        split at h
        · refine ⟨_, ?_, h⟩
          rw [litB_av, notB_spec]
          have := free_nilsl neq true ho hx hy (hi.el _ hr) (fun base M yl a w hr => ⟨none, 0, 0, (hr.opnd hx).nilsl, rfl⟩)
          cases neq <;> exact this
        · rename_i row rows
          refine ⟨_, ?_, h⟩
          rw [litB_av]
          have := free_nilsl neq false ho hx hy (hi.el _ hr) (fun base M yl a w hr => by
            have := hr.opnd hx
            cases this with | d h => generalize a.eval x = v at h; cases h; exact ⟨_, _, _, rfl, rfl⟩)
          cases neq <;> exact this
        · rename_i α x' l f _
          replace h : (1 : Int) ≤ (plenN [KP.ls α x' l f] : Int) ∧ _ := h; obtain ⟨h1, h⟩ := h
          refine ⟨_, ?_, h⟩
          rw [litB_av]
          have := free_nilsl neq false ho hx hy (hi.el _ hr) (fun base M yl a w hr => by
            have := hr.opnd hx
            cases this with | d h =>
            generalize a.eval x = v at h
            simp only [plenN, Nat.add_zero] at h1
            generalize hg : List.map (fun a => rowD _ 0 fun j => (f a j).toD) l = rows at h
            cases h with
            | sl0 => have := congrArg List.length hg; simp at this; subst this; simp at h1
            | slE => have := congrArg List.length hg; simp at this; subst this; simp at h1
            | sl => exact ⟨_, _, _, rfl, rfl⟩)
          cases neq <;> exact this
        · exact h.elim
      · split at h
        · replace h := kk_spec h; obtain ⟨n, hn, h⟩ := h
          replace h := kk_spec h; obtain ⟨neq, hop, h⟩ := h
          replace h := kk_spec h; obtain ⟨l, hl, h⟩ := h
          replace h := kk_spec h; obtain ⟨m, hm, h⟩ := h
          replace h := kif_spec h; obtain ⟨h1, h⟩ := h
          replace h := kif_spec h; obtain ⟨h2, h⟩ := h
          have := eqOp_spec hop
          subst this
          have h1 := Nat.eq_of_beq_eq_true h1
          rw [lenK_eq] at h1
          obtain ⟨e1, e2, e3⟩ := hi.eqn _ hn
          refine ⟨_, ?_, h⟩
          have := free_eqAgg neq ho (hx.trans (congrArg some (by rw [KV.av, intsK_spec hl]))) (hy.trans (congrArg some (by rw [KV.av, intsK_spec hm]))) (by rw [h1]; exact e1) e2 (by decide) e3 (kindsK_spec h2)
          cases neq <;> exact this
        · exact h.elim
      · exact h.elim
theorem plen_ls {α : Type} {d : α} {l : List α} {f : α → Nat → KV} : (primK P E base r post).plen [.ls α d l f] = l.length := by simp [primK, plenN]
theorem lenP'_spec {o : Oper} {S : KSt} {t : TypeId} {x : Operand} {c : KV} {K : KV → Prop} (hT : ∀ t i, tb t = some i → TIOk P t i) (ho : o.op = .call { callee := .builtin .len, args := #[x], argTypes := #[t] }) (hx : opnd S.st.T x = some c.av)
    (h : lenP' (primK P E base r post) tb t S c K) : ∃ res, Free P o S.st res.av [] [] ∧ K res := by
  replace h := kk_spec h; obtain ⟨i, hi, h⟩ := h
  have hi := hT _ _ hi
  split at h
  · replace h := kk_spec h; obtain ⟨⟨e, n⟩, hr, h⟩ := h
    refine ⟨_, ?_, h⟩; exact free_len ho hx (hi.el _ hr) (by simp [plen_ls])
  · replace h := kk_spec h; obtain ⟨⟨e, n⟩, hr, h⟩ := h
    refine ⟨_, ?_, h⟩; exact free_len ho hx (hi.el _ hr) (by simp [toDLL_map, lenK_eq])
  · replace h := kk_spec h; obtain ⟨⟨e, n⟩, hr, h⟩ := h
    refine ⟨_, ?_, h⟩; exact free_len_nil ho hx (hi.el _ hr)
  · replace h := kk_spec h; obtain ⟨R, hR, h⟩ := h
    replace h := kk_spec h; obtain ⟨⟨e, n⟩, hr, h⟩ := h
    replace h := kif_spec h; obtain ⟨h0, h⟩ := h
    rw [Nat.blt_eq] at h0
    have hR' := (st_lookO (S := S)).trans (congrArg (Option.map KRow.row) hR)
    refine ⟨_, ?_, h⟩; exact free_len_osl ho hx hR' h0 (hi.el _ hr) (show (((rowsD R.sz R.ps).length : Nat) : Int) = ((plenN R.ps : Nat) : Int) from congrArg _ (plenN_spec _ _))
  · split at h
    · rename_i hu
      refine ⟨_, ?_, h⟩; exact free_lenStr ho hx (hi.str hu)
    · exact h.elim
  · exact h.elim
theorem callK_spec {o : Oper} {S : KSt} {nb : Nat} {f : Operand} {args : Array Operand} {ts : Array TypeId} {K : KV → List (Nat × KBlk) → List (Nat × KRow) → Prop} (ho : o.op = .call { callee := .value f, args := args, argTypes := ts })
    (h : callK (primK P E base r post) f args.toList S nb K) : FreeR P o S K := by
  replace h := kk_spec h; obtain ⟨fv, hf, h⟩ := h
  replace h := kk_spec h; obtain ⟨cs, hcs, h⟩ := h
  replace hf := kop_st hf
  replace hcs := kopL_spec hcs
  have fin : ∀ {g : Nat} {caps : List AV} {xs : List D} {lv : Bool} {res : KV} {rows : List KRow}, fnOf fv.av = some (g, caps) → snapL lv S.st (KV.avL cs ++ caps) = some xs → Con P g xs res.av (rows.map KRow.row) → thenC (primK P E base r post) nb lv K res rows → FreeR P o S K := by
    intro g caps xs lv res rows hg hx hc h
    cases lv with
    | false =>
      replace h := kif_spec h; obtain ⟨h1, h⟩ := h
      have := free_call nb false ho hf hg hcs hx (fun h => by cases h) (by rw [List.length_map, ← lenK_eq]; exact below_av _ _ h1) hc
      rw [← sh_av, ← enumK_spec] at this
      exact ⟨_, [], _, this, h⟩
    | true =>
      unfold thenC at h
      simp only at h
      cases rows with
      | nil =>
        simp only [isNil] at h
        replace h := kif_spec h; obtain ⟨h2, h⟩ := h
        replace h := kif_spec h; obtain ⟨h3, h⟩ := h
        have := free_call (rows := []) nb true ho hf hg hcs hx (fun _ => ⟨AV.scalar_ownly _ (scalar_av _ h2), fun R hR => (by cases hR)⟩) (below_av _ _ h3) hc
        rw [← sh_av] at this
        exact ⟨_, [], [], this, h⟩
      | cons R0 q =>
        simp only [isNil] at h
        obtain ⟨h1, h⟩ := h
        replace h := kif_spec h; obtain ⟨h2, h⟩ := h
        replace h := kif_spec h; obtain ⟨h3, h⟩ := h
        have := free_call nb true ho hf hg hcs hx (fun _ => ⟨ownly_av _ h2, h1⟩) (by rw [List.length_map, ← lenK_eq]; exact below_av _ _ h3) hc
        rw [← sh_av, ← enumK_spec] at this
        exact ⟨_, [], _, this, h⟩
  split at h
  · rename_i g ds
    replace h : noAggD ds = true ∧ _ := h; obtain ⟨hna, h⟩ := h
    split at h
    · rename_i xs hx
      obtain ⟨res, rows, hc, h⟩ := h
      exact fin rfl (snapL_app (snapL_spec' hx) hna) hc h
    · replace h := kk_spec h; obtain ⟨xs, hx, h⟩ := h
      obtain ⟨res, rows, hc, h⟩ := h
      exact fin rfl (snapL_app (snapL_spec' hx) hna) hc h
  · replace h := kk_spec h; obtain ⟨⟨g, caps⟩, hg, h⟩ := h
    replace hg := fnK_spec hg
    split at h
    · rename_i xs hx
      obtain ⟨res, rows, hc, h⟩ := h
      have hx := snapL_spec' hx
      rw [avL_app] at hx
      exact fin hg hx hc h
    · replace h := kk_spec h; obtain ⟨xs, hx, h⟩ := h
      obtain ⟨res, rows, hc, h⟩ := h
      have hx := snapL_spec' hx
      rw [avL_app] at hx
      exact fin hg hx hc h
theorem mapPs_spec {S : KSt} {c : KV} {ps : List KP} (h : mapPs S c = some ps) : mapRowsA S.st c.av = some (rowsD 0 ps) := by
  unfold mapPs at h
  split at h
  · rename_i id
    split at h
    · rename_i R hR
      split at h
      · rename_i hb
        cases h
        have hR' : look S.st.O id = some R.row := by rw [st_lookO, hR]; rfl
        simp only [KV.av, mapRowsA, hR']
        rw [if_pos (show (Nat.beq R.row.sz 0 && R.row.nn) = true from hb)]
        simp only [Bool.and_eq_true] at hb
        have := Nat.eq_of_beq_eq_true hb.1
        show some (rowsD R.sz R.ps) = _
        rw [this]
      · cases h
    · cases h
  · cases h; simp [KV.av, mapRowsA, rowsD, KP.rows]
  · cases h; simp [KV.av, mapRowsA, rowsD, KP.rows]
  · cases h; rfl
  · cases h
theorem builtK_spec {o : Oper} {S : KSt} {b : Builtin} {args : Array Operand} {ts : Array TypeId} {K : KV → Prop} (hT : ∀ t i, tb t = some i → TIOk P t i) (ho : o.op = .call { callee := .builtin b, args := args, argTypes := ts })
    (h : builtK (primK P E base r post) tb b args.toList ts.toList S K) : ∃ res, Free P o S.st res.av [] [] ∧ K res := by
  unfold builtK at h
  split at h
  · split at h
    · rename_i x t h1 h2
      have e1 : args = #[x] := by apply Array.toList_inj.1; simp [h1]
      have e2 : ts = #[t] := by apply Array.toList_inj.1; simp [h2]
      subst e1 e2
      replace h := kk_spec h; obtain ⟨c, hc, h⟩ := h
      replace h := kk_spec h; obtain ⟨i, hi, h⟩ := h
      split at h
      · rename_i r hr
        obtain ⟨kt, et⟩ := r
        replace h := kk_spec h; obtain ⟨ps, hps, h⟩ := h
        refine ⟨_, ?_, h⟩
        exact free_lenMap ho ((hT _ _ hi).mp _ hr) (kop_st hc) (mapPs_spec hps) (congrArg _ (plenN_spec 0 ps))
      · exact lenP'_spec hT ho (kop_st hc) h
    · exact h.elim
  · split at h
    · rename_i x y h1
      have e1 : args = #[x, y] := by apply Array.toList_inj.1; simp [h1]
      subst e1
      replace h := kk_spec h; obtain ⟨c, hc, h⟩ := h
      replace h := kk_spec h; obtain ⟨d, hd, h⟩ := h
      replace h := kk_spec h; obtain ⟨⟨fa, ka, a⟩, ha, h⟩ := h
      replace h := kk_spec h; obtain ⟨⟨fb, kb, b⟩, hb, h⟩ := h
      replace h := kif_spec h; obtain ⟨h1, h⟩ := h
      have h1 := sameK_spec h1
      simp only at h1; subst h1
      refine ⟨_, ?_, h⟩; exact free_max2 ho ((kop_st hc).trans (congrArg some (numK_spec ha))) ((kop_st hd).trans (congrArg some (numK_spec hb)))
    · rename_i x y z h1
      have e1 : args = #[x, y, z] := by apply Array.toList_inj.1; simp [h1]
      subst e1
      replace h := kk_spec h; obtain ⟨c, hc, h⟩ := h
      replace h := kk_spec h; obtain ⟨d, hd, h⟩ := h
      replace h := kk_spec h; obtain ⟨e, he, h⟩ := h
      replace h := kk_spec h; obtain ⟨⟨fa, ka, a⟩, ha, h⟩ := h
      replace h := kk_spec h; obtain ⟨⟨fb, kb, b⟩, hb, h⟩ := h
      replace h := kk_spec h; obtain ⟨⟨fg, kg, g⟩, hg, h⟩ := h
      replace h := kif_spec h; obtain ⟨h1, h⟩ := h
      replace h := kif_spec h; obtain ⟨h2, h⟩ := h
      have h1 := sameK_spec h1
      have h2 := sameK_spec h2
      simp only at h1 h2; subst h1 h2
      refine ⟨_, ?_, h⟩; exact free_max3 ho ((kop_st hc).trans (congrArg some (numK_spec ha))) ((kop_st hd).trans (congrArg some (numK_spec hb))) ((kop_st he).trans (congrArg some (numK_spec hg)))
    · exact h.elim
  · split at h
    · rename_i x y h1
      have e1 : args = #[x, y] := by apply Array.toList_inj.1; simp [h1]
      subst e1
      replace h := kk_spec h; obtain ⟨c, hc, h⟩ := h
      replace h := kk_spec h; obtain ⟨d, hd, h⟩ := h
      replace h := kk_spec h; obtain ⟨⟨fa, ka, a⟩, ha, h⟩ := h
      replace h := kk_spec h; obtain ⟨⟨fb, kb, b⟩, hb, h⟩ := h
      replace h := kif_spec h; obtain ⟨h1, h⟩ := h
      have h1 := sameK_spec h1
      simp only at h1; subst h1
      refine ⟨_, ?_, h⟩; exact free_min2 ho ((kop_st hc).trans (congrArg some (numK_spec ha))) ((kop_st hd).trans (congrArg some (numK_spec hb)))
    · exact h.elim
  · exact h.elim
theorem chunks_spec {sz : Nat} : ∀ (n : Nat) (l : List KV), KV.toDLL (chunks sz n l) = toRows sz n (KV.toDL l)
  | 0, l => rfl
  | n + 1, l => by simp only [chunks, KV.toDLL, toRows, ← toDL_take, ← toDL_drop, chunks_spec n]
theorem anys_spec : ∀ n, KV.avL (anys n) = List.replicate n .any
  | 0 => rfl
  | n + 1 => by simp only [anys, KV.avL, KV.av, anys_spec n, List.replicate_succ]
theorem reps_rows (n : Nat) (z : List KV) (sz : Nat) (h : z.length = sz) : rowsD sz [.ls Unit () (List.replicate n ()) fun _ j => (nth z j).getD .any] = List.replicate n (KV.toDL z) := by
  simp only [rowsD, KP.rows, List.append_nil, List.map_replicate]
  congr 1
  have : ∀ (m j : Nat) (z : List KV), z.length = m → ∀ y : List KV, y.length = j → rowD m j (fun k => ((nth (y ++ z) k).getD .any).toD) = KV.toDL z := by
    intro m
    induction m with
    | zero => intro j z hz y hy; rw [List.eq_nil_of_length_eq_zero hz]; rfl
    | succ m ih =>
      intro j z hz y hy
      cases z with
      | nil => simp at hz
      | cons c q =>
        simp only [rowD, KV.toDL]
        congr 1
        · rw [nth_eq, List.getElem?_append_right (by omega), hy, Nat.sub_self]; rfl
        · have := ih (j + 1) q (by simpa using hz) (y ++ [c]) (by simp [hy])
          simpa using this
  simpa using this sz 0 z h [] rfl
theorem srcK_spec {S : KSt} {id sz : Nat} {c : KV} {ps : List KP} (h : srcK S id sz c = some ps) : srcRows S.st id sz c.av = some (rowsD sz ps) := by
  unfold srcK at h
  split at h
  · split at h
    · rename_i he
      cases h
      have e := Nat.eq_of_beq_eq_true he
      subst e
      simp [srcRows, KV.av, rowsD, KP.rows]
    · cases h
  · split at h
    · rename_i he
      cases h
      have e := Nat.eq_of_beq_eq_true he
      subst e
      simp [srcRows, KV.av, rowsD, KP.rows]
    · cases h
  · cases h; rfl
  · split at h
    · rename_i R hR
      split at h
      · rename_i he
        cases h
        simp only [Bool.and_eq_true] at he
        have e := Nat.eq_of_beq_eq_true he.1
        simp only [srcRows, KV.av, st_lookO, hR, Option.map_some]
        rw [show R.row.sz = R.sz from rfl, if_pos (by simp only [Bool.and_eq_true]; exact he)]
        rw [← e]; rfl
      · cases h
    · cases h
  · cases h
theorem rowKV_av (R : KRow) : (rowKV R).av = .d (.sl false R.sz (rowsD R.sz R.ps)) := by
  unfold rowKV
  split
  · rename_i α d l f h; simp [h, KV.av, rowsD, KP.rows]
  · rename_i rows h; simp [h, KV.av, rowsD, KP.rows]
  · rfl
theorem appK_spec {o : Oper} {S : KSt} {nb : Nat} {args : Array Operand} {ts : Array TypeId} {K : KV → Prop} (hT : ∀ t i, tb t = some i → TIOk P t i) (ho : o.op = .call { callee := .builtin .append, args := args, argTypes := ts })
    (h : appK (primK P E base r post) tb args.toList ts.toList S nb K) : ∃ res, Free P o S.st res.av [] [] ∧ K res := by
  unfold appK at h
  split at h
  · rename_i x y t t' h1 h2
    have e1 : args = #[x, y] := by apply Array.toList_inj.1; simp [h1]
    have e2 : ts = #[t, t'] := by apply Array.toList_inj.1; simp [h2]
    subst e1 e2
    replace h := kif_spec h; obtain ⟨ht, h⟩ := h
    have ht := Nat.eq_of_beq_eq_true ht
    subst ht
    replace h := kk_spec h; obtain ⟨c, hc, h⟩ := h
    replace h := kk_spec h; obtain ⟨d, hy, h⟩ := h
    replace h := kk_spec h; obtain ⟨ti, hi, h⟩ := h
    replace h := kk_spec h; obtain ⟨⟨e, sz⟩, hr, h⟩ := h
    replace h := kk_spec h; obtain ⟨j, hj, h⟩ := h
    replace h := kk_spec h; obtain ⟨zc, hz, h⟩ := h
    replace h := kif_spec h; obtain ⟨hzs, h⟩ := h
    replace h := kif_spec h; obtain ⟨hpos, h⟩ := h
    have hzs := Nat.eq_of_beq_eq_true hzs
    rw [Nat.blt_eq] at hpos
    replace hi := hT _ _ hi
    replace hj := hT _ _ hj
    replace hr := hi.el _ hr
    replace hz := hj.z _ hz
    replace hy := kop_st hy
    replace hc := kop_st hc
    simp only at hzs hpos hz hj h
    split at h
    · rename_i sz'
      replace h := kif_spec h; obtain ⟨he, h⟩ := h
      have he := Nat.eq_of_beq_eq_true he
      subst he
      replace h := kk_spec h; obtain ⟨news, hs, h⟩ := h
      replace h : (plenN news * j.bytes ≤ 140737488355328 ∧ plenN news ≤ 140737488355328) ∧ _ := h; obtain ⟨⟨h6, h7⟩, h⟩ := h
      refine ⟨_, ?_, h⟩
      rw [rowKV_av]
      have hlen : (rowsD sz' news).length = plenN news := plenN_spec _ _
      exact free_append_clip ho hc hr hz (by rw [avL_len]; exact hzs) hpos hj.bytes hy (srcK_spec hs) (by rw [hlen]; exact h6) (by rw [hlen]; exact h7)
    · exact h.elim
  · exact h.elim
theorem appOK_spec {o : Oper} {S : KSt} {nb : Nat} {args : Array Operand} {ts : Array TypeId} {K : KV → List (Nat × KBlk) → List (Nat × KRow) → Prop} (hT : ∀ t i, tb t = some i → TIOk P t i) (ho : o.op = .call { callee := .builtin .append, args := args, argTypes := ts })
    (h : appOK (primK P E base r post) tb args.toList ts.toList S nb K) : FreeR P o S K := by
  unfold appOK at h
  split at h
  · rename_i x y t t' h1 h2
    have e1 : args = #[x, y] := by apply Array.toList_inj.1; simp [h1]
    have e2 : ts = #[t, t'] := by apply Array.toList_inj.1; simp [h2]
    subst e1 e2
    replace h := kif_spec h; obtain ⟨ht, h⟩ := h
    have ht := Nat.eq_of_beq_eq_true ht
    subst ht
    replace h := kk_spec h; obtain ⟨c, hc, h⟩ := h
    replace h := kk_spec h; obtain ⟨d, hy, h⟩ := h
    replace h := kk_spec h; obtain ⟨ti, hi, h⟩ := h
    replace h := kk_spec h; obtain ⟨⟨e, sz⟩, hr, h⟩ := h
    replace h := kk_spec h; obtain ⟨j, hj, h⟩ := h
    replace h := kk_spec h; obtain ⟨zc, hz, h⟩ := h
    replace h := kif_spec h; obtain ⟨hzs, h⟩ := h
    replace h := kif_spec h; obtain ⟨hpos, h⟩ := h
    have hzs := Nat.eq_of_beq_eq_true hzs
    rw [Nat.blt_eq] at hpos
    replace hi := hT _ _ hi
    replace hj := hT _ _ hj
    replace hr := hi.el _ hr
    replace hz := hj.z _ hz
    replace hy := kop_st hy
    replace hc := kop_st hc
    simp only at hzs hpos hz hj h
    split at h
    · rename_i sz'
      replace h := kif_spec h; obtain ⟨he, h⟩ := h
      have he := Nat.eq_of_beq_eq_true he
      subst he
      replace h := kk_spec h; obtain ⟨news, hs, h⟩ := h
      replace h : (1 : Int) ≤ (plenN news : Int) ∧ (plenN news * j.bytes ≤ 140737488355328 ∧ plenN news ≤ 140737488355328) ∧ _ := h; obtain ⟨h5, ⟨h6, h7⟩, h⟩ := h
      have hlen : (rowsD sz' news).length = plenN news := plenN_spec _ _
      refine ⟨_, _, _, ?_, h⟩
      exact free_append_own (id := nb) ho hc hr hz (by rw [avL_len]; exact hzs) hpos hj.bytes hy (srcK_spec hs) (by rw [hlen]; exact h6) (by rw [hlen]; exact h7) (by rw [hlen]; omega)
    · exact h.elim
  · exact h.elim
theorem appNK_spec {o : Oper} {S : KSt} {nb : Nat} {args : Array Operand} {ts : Array TypeId} {K : KV → Prop} (hT : ∀ t i, tb t = some i → TIOk P t i) (ho : o.op = .call { callee := .builtin .append, args := args, argTypes := ts })
    (h : appNK (primK P E base r post) tb args.toList ts.toList S nb K) : ∃ res, Free P o S.st res.av [] [] ∧ K res := by
  unfold appNK at h
  split at h
  · rename_i x y t t' h1 h2
    have e1 : args = #[x, y] := by apply Array.toList_inj.1; simp [h1]
    have e2 : ts = #[t, t'] := by apply Array.toList_inj.1; simp [h2]
    subst e1 e2
    replace h := kif_spec h; obtain ⟨ht, h⟩ := h
    have ht := Nat.eq_of_beq_eq_true ht
    subst ht
    replace h := kk_spec h; obtain ⟨c, hc, h⟩ := h
    replace h := kk_spec h; obtain ⟨d, hy, h⟩ := h
    replace h := kk_spec h; obtain ⟨ti, hi, h⟩ := h
    replace h := kk_spec h; obtain ⟨⟨e, sz⟩, hr, h⟩ := h
    replace h := kk_spec h; obtain ⟨j, hj, h⟩ := h
    replace h := kk_spec h; obtain ⟨zc, hz, h⟩ := h
    replace h := kif_spec h; obtain ⟨hzs, h⟩ := h
    replace h := kif_spec h; obtain ⟨hpos, h⟩ := h
    have hzs := Nat.eq_of_beq_eq_true hzs
    rw [Nat.blt_eq] at hpos
    replace hi := hT _ _ hi
    replace hj := hT _ _ hj
    replace hr := hi.el _ hr
    replace hz := hj.z _ hz
    replace hy := kop_st hy
    replace hc := kop_st hc
    simp only at hzs hpos hz hj h
    split at h
    · rename_i sz'
      replace h := kif_spec h; obtain ⟨he, h⟩ := h
      have he := Nat.eq_of_beq_eq_true he
      subst he
      replace h := kk_spec h; obtain ⟨news, hs, h⟩ := h
      replace h : (plenN news : Int) = 0 ∧ _ := h; obtain ⟨h5, h⟩ := h
      have hlen : (rowsD sz' news).length = plenN news := plenN_spec _ _
      have h0 : rowsD sz' news = [] := List.eq_nil_of_length_eq_zero (by rw [hlen]; omega)
      refine ⟨_, ?_, h⟩
      exact free_append_none (id := nb) ho hc hr hz (by rw [avL_len]; exact hzs) hpos hj.bytes hy (srcK_spec hs) (by rw [h0]; simp) (by rw [h0]; simp) h0
    · exact h.elim
  · exact h.elim
theorem free_makeFuncB {o : Oper} {S : St} {f : Nat} {first : Array Operand} {cs : List AV} {ds : List D} (ho : o.op = .makeFunc (.func f) first #[]) (hc : opndL S.T first.toList = some cs) (hs : snapL false S cs = some ds) : Free P o S (.d (.bnd f ds [])) [] [] :=
  free_val (by simp [ho]) fun base M yl ac w hrel => by
    obtain ⟨al, ar⟩ := opndL_get hc
    obtain ⟨sl, sr⟩ := snapL_spec hrel hs
    refine ⟨.func (.func f) (first.map ac.eval) #[], by simp [execOp, ho, Instr.makeFunc], .d (.bnd f ds [] _ _ (by rw [Array.size_map, ← sl, ← al]; simp) (fun i c v hi hv => ?_) rfl (fun i c v hi => by simp at hi))⟩
    refine (sr i c v hi (fun c' hc' => ?_)).mono (fun k hk => hk.elim id (fun h => by cases h.1)) (fun _ _ => rfl)
    obtain ⟨y, hy, hyc⟩ := ar i c' hc'
    rw [Array.getElem?_map, ← Array.getElem?_toList, hy] at hv
    simp only [Option.map_some, Option.some.injEq] at hv
    subst hv
    exact hrel.opnd hyc
theorem freeK_spec {pz : List Nat} {o : Oper} {S : KSt} {nb : Nat} {K : KV → List (Nat × KBlk) → List (Nat × KRow) → Prop} (hT : ∀ t i, tb t = some i → TIOk P t i) (h : freeK (primK P E base r post) tb pz o S nb K) : FreeR P o S K := by
  unfold freeK at h
  split at h
  · rename_i ho; replace h := kk_spec h; obtain ⟨c, hc, h⟩ := h; refine freeR_plain ?_ h; exact free_move ho (kop_st hc)
  · rename_i ho; replace h := kk_spec h; obtain ⟨c, hc, h⟩ := h; refine freeR_plain ?_ h; exact free_assign ho (kop_st hc)
  · rename_i x y z ho
    replace h := kk_spec h; obtain ⟨c, hc, h⟩ := h
    have hc := kop_st hc
    have go : ∀ b : Bool, c.av = .d (.bool b) → (kk (kop S.T (if b then y else z)) fun c => K c [] []) → FreeR P o S K := fun b hb h => by
      replace h := kk_spec h; obtain ⟨c', hc', h⟩ := h
      refine freeR_plain ?_ h; exact free_pick ho (hc.trans (congrArg some hb)) (kop_st hc')
    split at h
    · exact go true rfl (by simpa using h)
    · exact go false rfl (by simpa using h)
    · rename_i b _
      cases b with
      | true => exact go true rfl (by simpa using h.1 rfl)
      | false => exact go false rfl (by simpa using h.2 rfl)
    · exact h.elim
  · rename_i ho
    replace h := kk_spec h; obtain ⟨c, hc, h⟩ := h
    split at h
    · replace h := kk_spec h; obtain ⟨c', hc', h⟩ := h
      refine freeR_plain ?_ h; exact free_extract ho (kop_st hc) (by rw [nth_avL, hc']; rfl)
    · exact h.elim
  · rename_i ho
    replace h := kk_spec h; obtain ⟨c, hc, h⟩ := h
    obtain ⟨res, h1, h2⟩ := fldK_spec hT ho (kop_st hc) h
    exact freeR_plain h1 h2
  · rename_i ho
    replace h := kk_spec h; obtain ⟨c, hc, h⟩ := h
    obtain ⟨res, h1, h2⟩ := loadK_spec hT ho (kop_st hc) h
    exact freeR_plain h1 h2
  · rename_i ho
    replace h := kk_spec h; obtain ⟨c, hc, h⟩ := h
    replace h := kk_spec h; obtain ⟨d, hd, h⟩ := h
    obtain ⟨res, h1, h2⟩ := idxK_spec hT ho (kop_st hc) (kop_st hd) h
    exact freeR_plain h1 h2
  · rename_i ho
    replace h := kk_spec h; obtain ⟨c, hc, h⟩ := h
    replace h := kk_spec h; obtain ⟨d, hd, h⟩ := h
    replace h := kk_spec h; obtain ⟨i, hi, h⟩ := h
    split at h
    · rename_i hu
      split at h
      · rename_i s
        replace h := kk_spec h; obtain ⟨⟨f, k, m⟩, hn, h⟩ := h
        replace h : (0 ≤ m ∧ m < (s.size : Int)) ∧ _ := h; obtain ⟨⟨h1, h2⟩, h⟩ := h
        have hlt : m.toNat < s.size := by omega
        have hg : s[m.toNat]? = some (s[m.toNat]) := by simp [hlt]
        refine freeR_plain (res := .int .u8 (strAt s m)) ?_ h
        have := free_index_str ho (kop_st hc) ((kop_st hd).trans (congrArg some (numK_spec hn))) ((hT _ _ hi).str hu) h1 hg
        simp only [KV.av, strAt, hg]
        exact this
      · exact h.elim
    · split at h
      · rename_i cs
        replace h := kk_spec h; obtain ⟨⟨l, e, n⟩, hr, h⟩ := h
        replace h := kk_spec h; obtain ⟨j, hj, h⟩ := h
        have key : ∀ (m : Nat) (k : IntKind), d.av = .d (.int k m) → m < l → aggK cs j.ag n m (fun c => K c [] []) → FreeR P o S K := fun m k hk hml h => by
          have hk := (kop_st hd).trans (congrArg some hk)
          cases hag : j.ag with
          | false =>
            rw [hag] at h
            replace h := kk_spec h; obtain ⟨c', hc', h⟩ := h
            refine freeR_plain ?_ h
            exact free_index_agg ho (kop_st hc) hk ((hT _ _ hi).ar _ hr) hml (by rw [(hT _ _ hj).ag, hag]) (by rw [nth_avL, hc']; rfl)
          | true =>
            rw [hag] at h
            replace h := kif_spec h; obtain ⟨h1, h⟩ := h
            have h1 := Nat.le_of_ble_eq_true h1
            refine freeR_plain ?_ h
            have := free_index_agg2 ho (kop_st hc) hk ((hT _ _ hi).ar _ hr) hml (by rw [(hT _ _ hj).ag, hag]) (by rw [avL_len]; exact h1)
            simp only [KV.av, ← avL_drop, ← avL_take]
            exact this
        simp only at h
        split at h
        · rename_i m hn
          replace h := kif_spec h; obtain ⟨h1, h⟩ := h
          rw [Nat.blt_eq] at h1
          obtain ⟨k, hk⟩ := litN_spec hn
          exact key m k hk h1 h
        · replace h := kk_spec h; obtain ⟨⟨fl, k, m⟩, hn, h⟩ := h
          replace h : (0 ≤ m ∧ m < (Int.ofNat l)) ∧ _ := h; obtain ⟨⟨h2, h3⟩, h⟩ := h
          have h3 : m < (l : Int) := h3
          have h : casesN (primK P E base r post) m l 0 (fun q => aggK cs j.ag n q fun c => K c [] []) := h
          refine key m.toNat k ?_ (by omega) (casesN_spec h (by omega) (by omega))
          rw [numK_spec hn, Int.toNat_of_nonneg h2]
      · exact h.elim
  · rename_i ho
    replace h := kk_spec h; obtain ⟨c, hc, h⟩ := h
    replace h := kk_spec h; obtain ⟨d, hd, h⟩ := h
    obtain ⟨res, h1, h2⟩ := binK_spec hT ho (kop_st hc) (kop_st hd) h
    exact freeR_plain h1 h2
  · rename_i ho
    replace h := kk_spec h; obtain ⟨c, hc, h⟩ := h
    have hc := kop_st hc
    unfold notK at h
    split at h
    · refine freeR_plain ?_ h; exact free_not ho hc
    · refine freeR_plain (res := .ff) ?_ h; exact free_not ho hc
    · refine freeR_plain (res := .tt) ?_ h; exact free_not ho hc
    · exact h.elim
  · rename_i ho
    replace h := kk_spec h; obtain ⟨c, hc, h⟩ := h
    replace h := kk_spec h; obtain ⟨⟨f, k, m⟩, hn, h⟩ := h
    refine freeR_plain (res := .int k (k.wrap (0 - m))) ?_ h; exact free_neg ho ((kop_st hc).trans (congrArg some (numK_spec hn)))
  · rename_i f first cap ho
    split at h
    · rename_i hf
      replace h := kk_spec h; obtain ⟨cs, hc, h⟩ := h
      have : first = #[] := by apply Array.toList_inj.1; simp [hf]
      subst this
      refine freeR_plain (res := .fn f cs) ?_ h; exact free_makeFunc ho (opndL_mapM (kopL_spec hc))
    · split at h
      · rename_i hcap
        replace h := kk_spec h; obtain ⟨cs, hc, h⟩ := h
        replace h := kk_spec h; obtain ⟨xs, hx, h⟩ := h
        have : cap = #[] := by apply Array.toList_inj.1; simp [hcap]
        subst this
        refine freeR_plain (res := .bfn f xs) ?_ h; exact free_makeFuncB ho (kopL_spec hc) (snapL_spec' hx)
      · exact h.elim
  · rename_i ho
    replace h := kk_spec h; obtain ⟨c, hc, h⟩ := h
    have hc := kop_st hc
    split at h
    · replace h := kk_spec h; obtain ⟨i, hi, h⟩ := h
      replace h := kk_spec h; obtain ⟨⟨off, n, ft⟩, hr, h⟩ := h
      replace h := kk_spec h; obtain ⟨j, hj, h⟩ := h
      have hr := (hT _ _ hi).fl _ _ hr
      have hj := hT _ _ hj
      cases hag : j.ag with
      | false =>
        rw [hag] at h
        replace h := kk_spec h; obtain ⟨c', hc', h⟩ := h
        refine freeR_plain ?_ h; exact free_field ho hc hr (hag ▸ hj.ag) (by rw [nth_avL, hc']; rfl)
      | true =>
        rw [hag] at h
        replace h := kif_spec h; obtain ⟨h1, h⟩ := h
        have := free_field_agg ho hc hr (hag ▸ hj.ag) (by rw [avL_len]; exact Nat.le_of_ble_eq_true h1)
        rw [avL_drop, avL_take] at this
        exact freeR_plain (res := .agg _) this h
    · exact h.elim
  · rename_i e x ho
    replace h := kk_spec h; obtain ⟨c, hc, h⟩ := h
    replace h := kk_spec h; obtain ⟨cs, hcs, h⟩ := h
    split at h
    · exact h.elim
    · rename_i hb
      refine ⟨.loc nb 0, [(nb, ⟨e, cs, true⟩)], [], ?_, h⟩
      refine free_box ho (kop_st hc) (cellsK_spec hcs) ?_
      have : ∀ l : List KV, KV.boxesL nb l = false → (KV.avL l).any (fun c => c.box nb) = false := by
        intro l
        induction l with
        | nil => intro _; rfl
        | cons y q ih =>
          intro hh
          simp only [KV.boxesL] at hh
          cases hy : y.boxes nb with
          | true => rw [hy] at hh; cases hh
          | false =>
            rw [hy] at hh
            simp only [KV.avL, List.any_cons, boxes_av, hy, Bool.false_or]
            exact ih hh
      exact this cs hb
  · rename_i e ho
    replace h := kk_spec h; obtain ⟨i, hi, h⟩ := h
    replace h := kk_spec h; obtain ⟨cs, hz, h⟩ := h
    exact ⟨.loc nb 0, [(nb, ⟨e, cs, true⟩)], [], free_alloc ho ((hT _ _ hi).z _ hz), h⟩
  · rename_i t parts ho
    replace h := kk_spec h; obtain ⟨i, hi, h⟩ := h
    replace h := kk_spec h; obtain ⟨z, hz, h⟩ := h
    replace h := kk_spec h; obtain ⟨pl, hpl, h⟩ := h
    replace h := kk_spec h; obtain ⟨ps, hps, h⟩ := h
    replace h := kk_spec h; obtain ⟨cs, hcs, h⟩ := h
    have hi := hT _ _ hi
    refine freeR_plain (res := .agg cs) ?_ h; exact free_build ho (hi.z _ hz) (hi.pl _ hpl) (partsK_spec hps) (fillK_spec hcs)
  · rename_i t len parts ho
    replace h := kk_spec h; obtain ⟨i, hi, h⟩ := h
    replace h := kk_spec h; obtain ⟨⟨e, sz⟩, hr, h⟩ := h
    replace h := kk_spec h; obtain ⟨j, hj, h⟩ := h
    replace h := kk_spec h; obtain ⟨zc, hz, h⟩ := h
    replace h := kif_spec h; obtain ⟨h1, h⟩ := h
    replace h := kif_spec h; obtain ⟨h2, h⟩ := h
    have hi := hT _ _ hi
    have hj := hT _ _ hj
    have hr := hi.el _ hr
    have hz := hj.z _ hz
    simp only at h1 h2 hz h
    split at h
    · split at h
      · rename_i hp
        have hps : partsA S.st.T parts.toList = some [] := by rw [hp]; rfl
        split at h
        · refine freeR_plain (res := .slr true sz []) ?_ h
          exact free_buildSlice_d (rows := []) ho hr hz h1 hps rfl rfl (by simp [fillA]) h2
        · replace h := kif_spec h; obtain ⟨h0, h⟩ := h
          rw [Nat.blt_eq] at h0
          exact ⟨.osl nb, [], [(nb, ⟨e, sz, [], true, true⟩)], free_buildSlice (rows := []) ho h0 hr hz h1 hps rfl rfl (by simp [fillA]) h2, h⟩
      · exact h.elim
    · rename_i n
      replace h := kk_spec h; obtain ⟨ps, hps, h⟩ := h
      replace h := kk_spec h; obtain ⟨cells, hcells, h⟩ := h
      replace h := kif_spec h; obtain ⟨h3, h⟩ := h
      replace h := kif_spec h; obtain ⟨h4, h⟩ := h
      have h4 := Nat.eq_of_beq_eq_true h4
      have hf := fillK_spec hcells
      rw [anys_spec] at hf
      obtain ⟨t1, t2, t3⟩ := toRows_spec (sz := sz) (n := n + 1) (l := KV.toDL cells) (by rw [toDL_len]; exact h4)
      split at h
      · replace h := kif_spec h; obtain ⟨h0, h⟩ := h
        rw [Nat.blt_eq] at h0
        have := free_buildSlice (id := nb) (rows := toRows sz (n + 1) (KV.toDL cells)) ho h0 hr hz h1 (show partsA S.st.T _ = _ from partsK_spec hps) t2 t3 (by rw [hf, t1, allD_av h3]) h2
        rw [← chunks_spec] at this
        exact ⟨.osl nb, [], [(nb, ⟨e, sz, [.rw (chunks sz (n + 1) cells)], true, true⟩)], by simpa [mapO, mapH, KRow.row, rowsD, KP.rows, KV.av] using this, h⟩
      refine freeR_plain (res := .slr true sz (chunks sz (n + 1) cells)) ?_ h
      have := free_buildSlice_d (rows := toRows sz (n + 1) (KV.toDL cells)) ho hr hz h1 (show partsA S.st.T _ = _ from partsK_spec hps) t2 t3 (by rw [hf, t1, allD_av h3]) h2
      rw [← chunks_spec] at this
      exact this
  · rename_i t x y ho
    replace h := kk_spec h; obtain ⟨c, hc, h⟩ := h
    replace h := kk_spec h; obtain ⟨d, hd, h⟩ := h
    replace h := kk_spec h; obtain ⟨⟨fa, ka, a⟩, ha, h⟩ := h
    replace h := kk_spec h; obtain ⟨⟨fb, kb, b⟩, hb, h⟩ := h
    replace h := kk_spec h; obtain ⟨i, hi, h⟩ := h
    replace h := kk_spec h; obtain ⟨⟨e, sz⟩, hr, h⟩ := h
    replace h := kk_spec h; obtain ⟨j, hj, h⟩ := h
    replace h := kk_spec h; obtain ⟨z, hz, h⟩ := h
    replace h := kif_spec h; obtain ⟨h1, h⟩ := h
    replace h := kif_spec h; obtain ⟨h2, h⟩ := h
    replace h := kif_spec h; obtain ⟨h3, h⟩ := h
    replace h : a = b ∧ _ := h; obtain ⟨h4, h⟩ := h
    replace h : (0 ≤ a ∧ (j.bytes : Int) * a ≤ 281474976710656 ∧ a ≤ 9223372036854775807) ∧ _ := h; obtain ⟨⟨h5, h6, h7⟩, h⟩ := h
    have h2 := Nat.eq_of_beq_eq_true h2
    rw [Nat.blt_eq] at h3
    subst h4
    have hi := hT _ _ hi
    have hj := hT _ _ hj
    have hz := hj.z _ hz
    rw [allD_av h1] at hz
    have := free_makeSlice (id := nb) ho (hi.el _ hr) hz (by rw [toDL_len]; exact h2) h3 hj.bytes ((kop_st hc).trans (congrArg some (numK_spec ha))) ((kop_st hd).trans (congrArg some (numK_spec hb))) h5 h6 h7
    rw [← reps_rows a.toNat z sz (by rw [← lenK_eq]; exact h2)] at this
    exact ⟨.osl nb, [], [(nb, ⟨e, sz, _, true, true⟩)], this, h⟩
  · rename_i t x low high ho
    replace h := kk_spec h; obtain ⟨c, hc, h⟩ := h
    replace h := kk_spec h; obtain ⟨i, hi, h⟩ := h
    split at h
    · rename_i clip sz α dd l f
      replace h := kk_spec h; obtain ⟨⟨e, n⟩, hr, h⟩ := h
      replace h := kif_spec h; obtain ⟨h1, h⟩ := h
      have h1 := Nat.eq_of_beq_eq_true h1
      simp only at h1; subst h1
      replace h := kk_spec h; obtain ⟨lo, hlo, h⟩ := h
      replace h := kk_spec h; obtain ⟨hi', hhi, h⟩ := h
      replace h : (0 ≤ lo) ∧ (lo ≤ hi') ∧ (hi' ≤ (plenN [KP.ls α dd l f] : Int)) ∧ _ := h; obtain ⟨h2, h3, h4, h⟩ := h
      have hpl : plenN [KP.ls α dd l f] = l.length := by simp [plenN]
      rw [hpl] at h4
      refine freeR_plain (res := .sl false n α dd ((l.take hi'.toNat).drop lo.toNat) f) ?_ h
      have b1 : BoundIs S.st.T low 0 lo.toNat := by
        split at hlo
        · cases hlo; exact .inl ⟨rfl, rfl⟩
        · split at hlo
          · rename_i y v hv
            split at hlo
            · rename_i q hq
              obtain ⟨fl, k, m⟩ := q
              simp only [Option.some.injEq] at hlo
              subst hlo
              exact .inr ⟨_, k, rfl, by rw [Int.toNat_of_nonneg h2]; exact (kop_st hv).trans (congrArg some (numK_spec hq))⟩
            · cases hlo
          · cases hlo
      have b2 : BoundIs S.st.T high (l.map fun a => rowD n 0 fun j => (f a j).toD).length hi'.toNat := by
        split at hhi
        · simp only [Option.some.injEq] at hhi
          have : hi' = (l.length : Int) := by rw [← hhi]; exact congrArg _ hpl
          exact .inl ⟨rfl, by rw [this, List.length_map]; rfl⟩
        · split at hhi
          · rename_i y v hv
            split at hhi
            · rename_i q hq
              obtain ⟨fl, k, m⟩ := q
              simp only [Option.some.injEq] at hhi
              subst hhi
              exact .inr ⟨_, k, rfl, by rw [Int.toNat_of_nonneg (Int.le_trans h2 h3)]; exact (kop_st hv).trans (congrArg some (numK_spec hq))⟩
            · cases hhi
          · cases hhi
      have := free_slice ho (kop_st hc) ((hT _ _ hi).el _ hr) b1 b2 (by omega) (by rw [List.length_map]; omega)
      rw [← List.map_take, ← List.map_drop] at this
      exact this
    · exact h.elim
  · rename_i t ho
    exact ⟨.osl nb, [], [(nb, ⟨0, 0, [], true, true⟩)], free_makeMap ho, h⟩
  · rename_i t x k comma ho
    replace h := kk_spec h; obtain ⟨c, hc, h⟩ := h
    replace h := kk_spec h; obtain ⟨kc, hk, h⟩ := h
    replace h := kk_spec h; obtain ⟨ti, hi, h⟩ := h
    replace h := kk_spec h; obtain ⟨⟨kt, et⟩, hr, h⟩ := h
    replace h := kk_spec h; obtain ⟨ki, hki, h⟩ := h
    replace h := kk_spec h; obtain ⟨ei, hei, h⟩ := h
    replace h := kk_spec h; obtain ⟨z, hz, h⟩ := h
    replace h := kk_spec h; obtain ⟨ps, hps, h⟩ := h
    replace h := kif_spec h; obtain ⟨hd, h⟩ := h
    obtain ⟨d, g1, g2, g3, v, b, g4, rfl, h⟩ := h
    have key := fun comma => free_lookup (P := P) (o := { o with op := .lookup t x k comma }) (S := S.st) rfl ((hT _ _ hi).mp _ hr) (unK_spec (hT _ _ hki) g1) ((hT _ _ hei).zv _ hz) (kop_st hc) (mapPs_spec hps) (by rw [kop_st hk, okDat_av hd]) (fun w ok μ ν yl u hu => okDat_rd hd (by rw [okDat_av hd]; exact hu)) g2 g3
    have ho' : o = { o with op := .lookup t x k comma } := by rw [← ho]
    rw [ho']
    split at h
    · refine freeR_plain (res := .tup [v, .bool _]) ?_ h
      simp only [KV.av, KV.avL, g4]; exact key true
    · refine freeR_plain (res := v) ?_ h
      rw [g4]; exact key false
  · rename_i t x ho
    replace h := kk_spec h; obtain ⟨c, hc, h⟩ := h
    replace h := kk_spec h; obtain ⟨ti, hi, h⟩ := h
    replace h := kk_spec h; obtain ⟨⟨kt, et⟩, hr, h⟩ := h
    split at h
    · rename_i α dd l f
      refine ⟨.osl nb, [], [(nb, _)], ?_, h⟩
      have := free_range (P := P) (id := nb) ho ((hT _ _ hi).mp _ hr) (kop_st hc)
      simpa [mapH, mapO, KRow.row, rowsD, KP.rows, KV.toDLL, KV.toDL, KV.toD, KV.av] using this
    · exact h.elim
  · rename_i s d x ho
    replace h := kk_spec h; obtain ⟨c, hc, h⟩ := h
    replace h := kk_spec h; obtain ⟨si, hsi, h⟩ := h
    replace h := kk_spec h; obtain ⟨di, hdi, h⟩ := h
    have hs := (hT _ _ hsi).sz
    have hd := hT _ _ hdi
    have hsd : ∃ sd, P.underlying s = some sd := by
      have := (hT _ _ hsi).ag
      unfold isAggT at this
      cases hu : P.underlying s with
      | none => rw [hu] at this; cases this
      | some sd => exact ⟨sd, rfl⟩
    obtain ⟨sd, hsd⟩ := hsd
    split at h
    · split at h
      · rename_i hu
        refine freeR_plain (res := .int _ _) ?_ h; exact free_conv ho (kop_st hc) hsd (hd.int _ hu)
      · exact h.elim
    · split at h
      · rename_i hu
        replace h := kif_spec h; obtain ⟨h1, h⟩ := h
        refine freeR_plain (res := .lit _ _) ?_ h; exact free_conv ho (kop_st hc) hsd (hd.int _ hu)
      · exact h.elim
    · exact h.elim
  · rename_i c ho
    obtain ⟨callee, args, ts⟩ := c
    simp only at h
    split at h
    · exact callK_spec ho h
    · split at h
      · exact appOK_spec hT ho h
      · split at h
        · obtain ⟨res, h1, h2⟩ := appNK_spec hT ho h
          exact freeR_plain h1 h2
        · obtain ⟨res, h1, h2⟩ := appK_spec hT ho h
          exact freeR_plain h1 h2
    · obtain ⟨res, h1, h2⟩ := builtK_spec hT ho h
      exact freeR_plain h1 h2
    · exact h.elim
  · exact h.elim
end Go.Proofs.Ytelnoeamkdpjhaa.Aw

/- The logic of abstract walks, part M5: regions and code by evaluation. -/
namespace Go.Proofs.Ytelnoeamkdpjhaa.Aw
open Go Go.RowKit
set_option linter.unusedVariables false
set_option linter.unusedSimpArgs false
universe u
variable {P : Program} {E : Env P} {base : Nat} {r : Option Nat} {post : KV → List KRow → Prop} {tb : Nat → Option TI}
theorem freeT_spec {b : Nat} : ∀ {T : List (Nat × KV)}, freeT b T = true → (mapT T).any (fun p => p.2.box b) = false
  | [], _ => rfl
  | (t, c) :: q, h => by
    simp only [freeT] at h
    cases hc : c.boxes b with
    | true => rw [hc] at h; cases h
    | false => rw [hc] at h; simp only [mapT, List.any_cons, boxes_av, hc, Bool.false_or]; exact freeT_spec h
theorem boxesL_any {b : Nat} : ∀ {l : List KV}, KV.boxesL b l = false → (KV.avL l).any (fun c => c.box b) = false
  | [], _ => rfl
  | c :: q, h => by
    simp only [KV.boxesL] at h
    cases hc : c.boxes b with
    | true => rw [hc] at h; cases h
    | false => rw [hc] at h; simp only [KV.avL, List.any_cons, boxes_av, hc, Bool.false_or]; exact boxesL_any h
theorem freeH_spec {b : Nat} : ∀ {T : List (Nat × KBlk)}, freeH b T = true → memN b (keys (mapH T)) = false ∧ (mapH T).any (fun p => p.2.cells.any fun c => c.box b) = false
  | [], _ => ⟨rfl, rfl⟩
  | (k, B) :: q, h => by
    simp only [freeH] at h
    cases hk : Nat.beq k b with
    | true => rw [hk] at h; cases h
    | false =>
      rw [hk] at h
      cases hc : KV.boxesL b B.cells with
      | true => rw [hc] at h; cases h
      | false =>
        rw [hc] at h
        obtain ⟨h1, h2⟩ := freeH_spec h
        refine ⟨?_, ?_⟩
        · simp only [mapH, keys, memN, nbeq, hk, h1, Bool.or_self]
        · simp only [mapH, List.any_cons, h2, Bool.or_false]; exact boxesL_any hc
theorem freeRT_spec {b : Nat} : ∀ {T : List (Nat × KV)}, freeRT b T = true → (mapT T).any (fun p => p.2.hasRow b) = false
  | [], _ => rfl
  | (t, c) :: q, h => by
    simp only [freeRT] at h
    cases hc : c.hasRow b with
    | true => rw [hc] at h; cases h
    | false => rw [hc] at h; simp only [mapT, List.any_cons, hasRow_av, hc, Bool.false_or]; exact freeRT_spec h
theorem hasRowL_any {b : Nat} : ∀ {l : List KV}, KV.hasRowL b l = false → (KV.avL l).any (fun c => c.hasRow b) = false
  | [], _ => rfl
  | c :: q, h => by
    simp only [KV.hasRowL] at h
    cases hc : c.hasRow b with
    | true => rw [hc] at h; cases h
    | false => rw [hc] at h; simp only [KV.avL, List.any_cons, hasRow_av, hc, Bool.false_or]; exact hasRowL_any h
theorem freeRH_spec {b : Nat} : ∀ {T : List (Nat × KBlk)}, freeRH b T = true → (mapH T).any (fun p => p.2.cells.any fun c => c.hasRow b) = false
  | [], _ => rfl
  | (k, B) :: q, h => by
    simp only [freeRH] at h
    cases hc : KV.hasRowL b B.cells with
    | true => rw [hc] at h; cases h
    | false => rw [hc] at h; simp only [mapH, List.any_cons, freeRH_spec h, Bool.or_false]; exact hasRowL_any hc
theorem freeRO_spec {b : Nat} : ∀ {T : List (Nat × KRow)}, freeRO b T = true → memN b (keys (mapO T)) = false
  | [], _ => rfl
  | (k, B) :: q, h => by
    simp only [freeRO] at h
    cases hk : Nat.beq k b with
    | true => rw [hk] at h; cases h
    | false => rw [hk] at h; simp only [mapO, keys, memN, nbeq, hk, freeRO_spec h, Bool.or_self]
theorem freshKH_spec {S : KSt} : ∀ {nh : List (Nat × KBlk)}, freshKH S nh = true → ∀ b ∈ keys (mapH nh), usesBox S.st b = false ∧ S.low ≤ b
  | [], _, b, hb => by cases hb
  | (k, B) :: q, h, b, hb => by
    simp only [freshKH, Bool.and_eq_true] at h
    obtain ⟨⟨⟨h1, h2⟩, h3⟩, h4⟩ := h
    rcases List.mem_cons.1 hb with e | hb
    · subst e
      obtain ⟨e1, e2⟩ := freeH_spec h3
      exact ⟨by simp only [usesBox, KSt.st, e1, freeT_spec h2, e2, Bool.or_self], Nat.le_of_ble_eq_true h1⟩
    · exact freshKH_spec h4 b hb
theorem freshKO_spec {S : KSt} : ∀ {no : List (Nat × KRow)}, freshKO S no = true → ∀ b ∈ keys (mapO no), usesRow S.st b = false ∧ S.low ≤ b ∧ b < 100
  | [], _, b, hb => by cases hb
  | (k, B) :: q, h, b, hb => by
    simp only [freshKO, Bool.and_eq_true, Nat.blt_eq] at h
    obtain ⟨⟨⟨⟨⟨h1, hp⟩, h2⟩, h3⟩, h5⟩, h4⟩ := h
    rcases List.mem_cons.1 hb with e | hb
    · subst e
      exact ⟨by simp only [usesRow, KSt.st, freeRO_spec h5, freeRT_spec h2, freeRH_spec h3, Bool.or_self], Nat.le_of_ble_eq_true h1, hp⟩
    · exact freshKO_spec h4 b hb
theorem freshK_spec {S : KSt} {nh : List (Nat × KBlk)} {no : List (Nat × KRow)} (h1 : freshKH S nh = true) (h2 : freshKO S no = true) : Fresh S.st (mapH nh) (mapO no) :=
  ⟨fun b hb => (freshKH_spec h1 b hb).1, fun b hb => (freshKO_spec h2 b hb).1, fun b hb => (freshKH_spec h1 b hb).2, fun b hb => (freshKO_spec h2 b hb).2.1, fun b hb => (freshKO_spec h2 b hb).2.2⟩
theorem freshKB_spec {S : KSt} {nh : List (Nat × KBlk)} {no : List (Nat × KRow)} (h1 : freshKH S nh = true) (h2 : freshKO S no = true) : freshB S.st (mapH nh) (mapO no) = true := by
  have := freshK_spec h1 h2
  simp only [freshB, Bool.and_eq_true, List.all_eq_true, Bool.not_eq_true', Nat.ble_eq, Nat.blt_eq]
  exact ⟨fun b hb => ⟨this.box b hb, this.bl b hb⟩, fun b hb => ⟨⟨this.row b hb, this.rl b hb⟩, this.rp b hb⟩⟩
theorem dstK_spec {S : KSt} {d : Option Nat} (h : dstK S d = true) : dstOk S.st d = true := by
  cases d with
  | none => rfl
  | some t => exact h
theorem forgT_spec (id : Nat) : ∀ (T : List (Nat × KV)), mapT (forgT id T) = forgetT id (mapT T)
  | [] => rfl
  | (t, c) :: q => by
    simp only [forgT, mapT, forgetT, AV.forget, hasRow_av]
    cases c.hasRow id <;> simp only [mapT, forgT_spec id q, KV.av]
theorem forgL_spec (id : Nat) : ∀ (l : List KV), KV.avL (forgL id l) = forgetL id (KV.avL l)
  | [] => rfl
  | c :: q => by
    simp only [forgL, KV.avL, forgetL, AV.forget, hasRow_av]
    cases c.hasRow id <;> simp only [KV.avL, forgL_spec id q, KV.av]
theorem forgH_spec (id : Nat) : ∀ (H : List (Nat × KBlk)), mapH (forgH id H) = forgetH id (mapH H)
  | [] => rfl
  | (b, B) :: q => by simp only [forgH, mapH, forgetH, KBlk.blk, forgL_spec, forgH_spec id q]
theorem rowsD_app (sz : Nat) : ∀ (a b : List KP), rowsD sz (a ++ b) = rowsD sz a ++ rowsD sz b
  | [], b => rfl
  | p :: q, b => by simp [rowsD, rowsD_app sz q b]
theorem joinP_rows (sz : Nat) (a b : List KP) : rowsD sz (joinP a b) = rowsD sz a ++ rowsD sz b := by
  unfold joinP
  split
  · simp [rowsD, KP.rows, toDLL_map]
  · exact rowsD_app sz a b
theorem lit_leq {S : KSt} {t : Nat} {b : Bool} {c v : KV} (h : lk S.T t = some c) (hc : c.av = .d (.bool b)) (hv : v.av = .d (.bool b)) : Leq S.st (S.lit (.tmp t) v).st := by
  refine ⟨rfl, rfl, fun u => ?_, fun _ => rfl, fun _ => rfl⟩
  simp only [KSt.lit, KSt.st, mapT, look]
  by_cases e : t = u
  · subst e; rw [if_pos rfl, look_mapT, h, hv]; simp [hc]
  · rw [if_neg e]
theorem wantK_spec {ops : Array Oper} {S : KSt} {o : Oper} {A B : KSt → Prop} (h : wantK (primK P E base r post) ops.toList S o A B) :
    ∃ S', Leq S.st S'.st ∧ ((guardB ops S'.st.T o = some true ∧ A S') ∨ (guardB ops S'.st.T o = some false ∧ B S')) := by
  unfold wantK at h
  split at h
  · rename_i hg; exact ⟨S, Leq.refl _, .inl ⟨by simp [guardB, hg], h⟩⟩
  · rename_i j want hg
    replace h := kk_spec h; obtain ⟨o', h1, h⟩ := h
    replace h := kk_spec h; obtain ⟨t, h2, h⟩ := h
    replace h := kk_spec h; obtain ⟨c, h3, h⟩ := h
    rw [nth_eq, Array.getElem?_toList] at h1
    have gd : ∀ (S' : KSt) (b : Bool), look S'.st.T t = some (.d (.bool b)) → guardB ops S'.st.T o = some (b == want) := fun S' b hb => by
      simp only [guardB, hg, h1, Option.bind_some, h2, hb]
    have hl : look S.st.T t = some c.av := by rw [st_look, h3]; rfl
    split at h
    · have := gd S true hl
      cases want with
      | true => exact ⟨S, Leq.refl _, .inl ⟨this, h⟩⟩
      | false => exact ⟨S, Leq.refl _, .inr ⟨this, h⟩⟩
    · have := gd S false hl
      cases want with
      | true => exact ⟨S, Leq.refl _, .inr ⟨this, h⟩⟩
      | false => exact ⟨S, Leq.refl _, .inl ⟨this, h⟩⟩
    · rename_i b
      have key : ∀ v : KV, v.av = .d (.bool b) → Leq S.st (S.lit (.tmp t) v).st ∧ guardB ops (S.lit (.tmp t) v).st.T o = some (b == want) := fun v hv =>
        ⟨lit_leq h3 rfl hv, gd _ b (by simp only [KSt.lit, KSt.st, mapT, look, if_true, hv])⟩
      cases b with
      | true =>
        obtain ⟨e1, e2⟩ := key .tt rfl
        cases want with
        | true => exact ⟨_, e1, .inl ⟨e2, h.1 rfl⟩⟩
        | false => exact ⟨_, e1, .inr ⟨e2, h.1 rfl⟩⟩
      | false =>
        obtain ⟨e1, e2⟩ := key .ff rfl
        cases want with
        | true => exact ⟨_, e1, .inr ⟨e2, h.2 rfl⟩⟩
        | false => exact ⟨_, e1, .inl ⟨e2, h.2 rfl⟩⟩
    · refine ⟨S, Leq.refl _, .inr ⟨?_, h⟩⟩
      have hl : look S.st.T t = some (.tup []) := hl
      simp only [guardB, hg, h1, Option.bind_some, h2, hl]
    · exact h.elim
theorem Bar_leq {o : Oper} {S S' S'' : St} {s s' : E.σ} (h : Bar E o S s S' s') (hl : Leq S' S'') : Bar E o S s S'' s' := fun r base M a w hc K Q hK =>
  h r base M a w hc K Q fun v w' M' hc' hx => hK v w' M' (hc'.leq hl) (hx.trans (hl.ext M' w'))
/-- Is it a call of a function value? -/
def isVal (o : Oper) : Prop := (∃ f args ts, o.op = .call ⟨.value f, args, ts⟩) ∨ ∃ x b, o.op = .next x b
theorem putS_k {S : KSt} {id : Nat} {R : KRow} {ps : List KP} {rows : List (List D)} (h : rowsD R.sz ps = rows) : putS S.st id R.row rows = KSt.st ⟨S.n, S.T, S.H, stA S.O id ⟨R.e, R.sz, ps, R.nn, true⟩, S.low⟩ := by
  subst h
  simp only [putS, KSt.st]
  rw [← setA_mapO]; rfl
def snapped (c : KV) : Bool := c.isD
theorem snapped_av {v : KV} (h : snapped v = true) : v.av = .d v.toD := by
  exact KV.isD_av h
theorem rowKV_snapped (R : KRow) : snapped (rowKV R) = true := by
  unfold rowKV
  split <;> rfl
theorem rowSn_snapped {R : KRow} {v : KV} (h : rowSn R = some v) : snapped v = true := by
  unfold rowSn at h
  split at h
  · cases h; exact rowKV_snapped R
  · split at h
    · cases h
      unfold mapKV
      split <;> rfl
    · cases h
theorem snapK_noagg {lv : Bool} {S : KSt} {n : Nat} {c v : KV} (h : snapK lv S n c = some v) (hc : ∀ l, c ≠ .agg l) : snapped v = true := by
  cases n with
  | zero => simp [snapK] at h
  | succ n =>
    unfold snapK at h
    split at h
    · exact absurd rfl (hc _)
    · obtain ⟨vs, _, rfl⟩ := omap_spec h; rfl
    · split at h
      · split at h
        · obtain ⟨vs, _, rfl⟩ := omap_spec h; rfl
        · cases h
      · cases h
    · split at h
      · split at h
        · exact rowSn_snapped h
        · cases h
      · cases h
    · cases h; rfl
    · cases h; rfl
    · cases h; rfl
    · split at h
      · rename_i hd
        cases h
        exact hd
      · cases h
theorem rowsOfK_spec {S : KSt} : ∀ {ids : List Nat} {rows : List KRow}, rowsOfK S ids = some rows → rowsOf S.st ids = some (rows.map KRow.row)
  | [], rows, h => by simp [rowsOfK] at h; subst h; rfl
  | id :: r, rows, h => by
    simp only [rowsOfK] at h
    split at h
    · rename_i R hR
      split at h
      · rename_i hl
        split at h
        · rename_i l h2
          cases h
          have : R.row.live = true := hl
          simp only [rowsOf, st_lookO, hR, Option.map_some, rowsOfK_spec h2, this, if_true, List.map_cons]
        · cases h
      · cases h
    · cases h
theorem lessHK_spec (ids : List Nat) : ∀ (O : List (Nat × KBlk)), mapH (lessHK ids O) = (mapH O).filter fun p => !memN p.1 ids
  | [] => rfl
  | (k, R) :: r => by
    simp only [lessHK, mapH, List.filter_cons]
    cases memN k ids <;> simp [mapH, lessHK_spec ids r]
theorem KSt.lessW_st (S : KSt) (hb hr : List Nat) : (S.lessW hb hr).st = Aw.lessW S.st hb hr := by simp only [KSt.lessW, KSt.st, Aw.lessW, lessK_spec, lessHK_spec]
theorem blksOfK_spec {S : KSt} : ∀ {ids : List Nat} {rows : List KBlk}, blksOfK S ids = some rows → blksOf S.st ids = some (rows.map KBlk.blk)
  | [], rows, h => by simp [blksOfK] at h; subst h; rfl
  | id :: r, rows, h => by
    simp only [blksOfK] at h
    split at h
    · rename_i R hR
      split at h
      · rename_i hl
        split at h
        · rename_i l h2
          cases h
          have : R.blk.live = true := hl
          simp only [blksOf, st_lookH, hR, Option.map_some, blksOfK_spec h2, this, if_true, List.map_cons]
        · cases h
      · cases h
    · cases h
theorem nodupK_spec : ∀ {l : List Nat}, nodupK l = true → l.Nodup
  | [], _ => List.nodup_nil
  | k :: r, h => by
    simp only [nodupK] at h
    split at h
    · cases h
    · rename_i hm
      refine List.nodup_cons.2 ⟨fun hh => ?_, nodupK_spec h⟩
      rw [memN_iff.2 hh] at hm; cases hm
theorem mapM_avL {f : AV → Option AV} {g : KV → Option KV} : ∀ {cs : List KV} {l : List KV}, (∀ c ∈ cs, ∀ v, g c = some v → f c.av = some v.av) → mapK g cs = some l → (KV.avL cs).mapM f = some (KV.avL l)
  | [], l, _, h => by simp [mapK] at h; subst h; rfl
  | c :: r, l, hh, h => by
    simp only [mapK] at h
    cases h1 : g c with
    | none => rw [h1] at h; cases h
    | some v =>
      cases h2 : mapK g r with
      | none => rw [h1, h2] at h; cases h
      | some l' =>
        rw [h1, h2] at h
        simp only [Option.some.injEq] at h; subst h
        simp only [KV.avL, List.mapM_cons, hh c (by simp) v h1, mapM_avL (fun c hc => hh c (List.mem_cons_of_mem _ hc)) h2]; rfl
theorem snapWK_spec {S : KSt} {hb hr : List Nat} : ∀ (n : Nat) (c v : KV), snapWK S hb hr n c = some v → snapW S.st hb hr n c.av = some v.av := by
  intro n
  have main : ∀ (c v : KV), (∀ l, c ≠ .agg l) → snapK true (S.lessW hb hr) 8 c = some v → (snap true (Aw.lessW S.st hb hr) 8 c.av).map .d = some v.av := by
    intro c v hc h
    have := snapK_spec 8 c v h
    rw [KSt.lessW_st] at this
    rw [this, snapped_av (snapK_noagg h hc)]; rfl
  induction n with
  | zero => intro c v h; cases h
  | succ n ih =>
    intro c v h
    unfold snapWK at h
    split at h
    · obtain ⟨l, h1, rfl⟩ := omap_spec h
      simp only [KV.av, snapW, mapM_avL (fun c _ v => ih c v) h1, Option.map_some]
    · simp only [KV.av, snapW]
      split at h
      · rename_i i hi
        rw [idxK'_spec] at hi
        rw [hi]; cases h; rfl
      · rename_i hi
        rw [idxK'_spec] at hi
        rw [hi]
        exact main (.osl _) v (fun l e => by cases e) h
    · simp only [KV.av, snapW]
      split at h
      · rename_i i hi
        rw [idxK'_spec] at hi
        rw [hi]; cases h; rfl
      · rename_i hi
        rw [idxK'_spec] at hi
        rw [hi]
        exact main (.loc _ _) v (fun l e => by cases e) h
    · cases h
    · rename_i h1 h2 h3 h4
      have := main c v h1 h
      cases c <;> first | exact absurd rfl (h1 _) | exact absurd rfl (h2 _) | exact absurd rfl (h3 _ _) | exact absurd rfl (h4 _) | exact this | skip
theorem snapWKL_spec {S : KSt} {hb hr : List Nat} : ∀ {cs xs : List KV}, mapK (snapWK S hb hr 8) cs = some xs → snapWL S.st hb hr (KV.avL cs) = some (KV.avL xs)
  | [], l, h => by simp [mapK] at h; subst h; rfl
  | c :: r, l, h => by
    simp only [mapK] at h
    cases h1 : snapWK S hb hr 8 c with
    | none => rw [h1] at h; cases h
    | some v =>
      cases h2 : mapK (snapWK S hb hr 8) r with
      | none => rw [h1, h2] at h; cases h
      | some l' =>
        rw [h1, h2] at h
        simp only [Option.some.injEq] at h; subst h
        simp only [KV.avL, snapWL, snapWK_spec 8 c v h1, snapWKL_spec h2]
theorem dataHs_spec : ∀ {Hs : List KBlk}, dataHs Hs = true → ∀ B ∈ Hs.map KBlk.blk, ∀ c ∈ B.cells, c.isd = true
  | [], _, B, hB => by cases hB
  | B0 :: r, h, B, hB => by
    simp only [dataHs] at h
    split at h
    · rename_i h0
      rcases List.mem_cons.1 hB with e | hB
      · subst e
        intro c hc
        have hc' : c ∈ KV.avL B0.cells := hc
        rw [allD_av h0] at hc'
        obtain ⟨x, _, rfl⟩ := List.mem_map.1 hc'
        rfl
      · exact dataHs_spec h B hB
    · cases h
theorem scalHs_spec : ∀ {Hs : List KBlk}, scalHs Hs = true → ∀ B ∈ Hs.map KBlk.blk, B.live = true ∧ ∀ c ∈ B.cells, c.scalar = true
  | [], _, B, hB => by cases hB
  | B0 :: r, h, B, hB => by
    simp only [scalHs] at h
    split at h
    · rename_i h0
      split at h
      · rename_i h1
        rcases List.mem_cons.1 hB with e | hB
        · subst e
          refine ⟨h0, fun c hc => ?_⟩
          obtain ⟨i, hi⟩ := List.mem_iff_getElem?.1 (show c ∈ KV.avL B0.cells from hc)
          exact AV.scalarL_get (scalarL_av _ h1) hi
        · exact scalHs_spec h B hB
      · cases h
    · cases h
theorem stAs_H : ∀ {bs : List Nat} {Bs : List KBlk} {T : List (Nat × KBlk)}, mapH (stAs T bs Bs) = setAs (mapH T) bs (Bs.map KBlk.blk)
  | [], Bs, T => by simp [stAs, setAs]
  | b :: bs, [], T => by simp [stAs, setAs]
  | b :: bs, B :: Bs, T => by simp only [stAs, setAs, List.map_cons]; rw [stAs_H, ← setA_mapH]
theorem stAs_O : ∀ {bs : List Nat} {Bs : List KRow} {T : List (Nat × KRow)}, mapO (stAs T bs Bs) = setAs (mapO T) bs (Bs.map KRow.row)
  | [], Bs, T => by simp [stAs, setAs]
  | b :: bs, [], T => by simp [stAs, setAs]
  | b :: bs, B :: Bs, T => by simp only [stAs, setAs, List.map_cons]; rw [stAs_O, ← setA_mapO]
theorem nnK_row (R : KRow) : (nnK R).row = nnS R.row := by
  unfold nnK nnS
  by_cases h : R.sz = 0
  · have : Nat.blt 0 R.sz = false := by rw [h]; rfl
    rw [this, if_pos (show R.row.sz = 0 from h)]
  · have : Nat.blt 0 R.sz = true := by rw [Nat.blt_eq]; omega
    rw [this, if_neg (show ¬ R.row.sz = 0 from h)]; rfl
theorem nnKL_rows : ∀ (Os : List KRow), (nnKL Os).map KRow.row = (Os.map KRow.row).map nnS
  | [] => rfl
  | R :: r => by simp only [nnKL, List.map_cons, nnK_row, nnKL_rows r]
theorem backK_rows : ∀ (Os Rs : List KRow), (backK Os Rs).map KRow.row = backR (Os.map KRow.row) (Rs.map KRow.row)
  | [], [] => rfl
  | [], _ :: _ => rfl
  | _ :: _, [] => rfl
  | R0 :: r, R :: q => by simp only [backK, List.map_cons, backR, backK_rows r q]; rfl
theorem okBack_spec : ∀ {Os Rs : List KRow}, okBack Os Rs = true → Rs.length = Os.length ∧ ∀ (i : Nat) (R0 R2 : Row), (Os.map KRow.row)[i]? = some R0 → (Rs.map KRow.row)[i]? = some R2 → R2.sz = 0 → R2.nn = R0.nn
  | [], [], _ => ⟨rfl, fun i R0 R2 h => by simp at h⟩
  | [], _ :: _, h => by cases h
  | _ :: _, [], h => by cases h
  | R0 :: r, R :: q, h => by
    simp only [okBack] at h
    have go : okBack r q = true → (0 < R.sz ∨ R.nn = R0.nn) → (R :: q).length = (R0 :: r).length ∧ ∀ (i : Nat) (A B : Row), ((R0 :: r).map KRow.row)[i]? = some A → ((R :: q).map KRow.row)[i]? = some B → B.sz = 0 → B.nn = A.nn := by
      intro h' hn
      obtain ⟨e1, e2⟩ := okBack_spec h'
      refine ⟨by simp [e1], fun i A B hA hB hs => ?_⟩
      cases i with
      | zero =>
        simp at hA hB; subst hA hB
        have hs : R.sz = 0 := hs
        exact hn.resolve_left (by omega)
      | succ i => exact e2 i A B (by simpa using hA) (by simpa using hB) hs
    split at h
    · rename_i h0; rw [Nat.blt_eq] at h0; exact go h (.inl h0)
    · split at h
      · rename_i h1 h2; exact go h (.inr (by rw [h1, h2]))
      · rename_i h1 h2; exact go h (.inr (by rw [h1, h2]))
      · cases h
/-- A call that hands over boxes and rows. -/
theorem wrCallK_bar {E : Env P} {base : Nat} {r : Option Nat} {post : KV → List KRow → Prop} {pz : List Nat} {o : Oper} {S : KSt} {s : E.σ} {c : Call} {f : Operand} {g : Nat} (ho : o.op = .call c) (hcal : c.callee = .value f) (hw : wrFn pz f = some g) (hd : dstK S o.dst = true) {K : KSt → Prop}
    (h : wrCallK (primK P E base r post) g c.args.toList S o.dst K) : ∃ S', Bar E o S.st s S'.st s ∧ K S' := by
  obtain ⟨callee, args, ts⟩ := c
  simp only at hcal; subst hcal
  have hfg : f = .func g := by
    unfold wrFn at hw
    split at hw
    · split at hw
      · cases hw; rfl
      · cases hw
    · cases hw
  subst hfg
  unfold wrCallK at h
  replace h := kk_spec h; obtain ⟨cs, hcs, h⟩ := h
  simp only at h
  replace h := kif_spec h; obtain ⟨h1, h⟩ := h
  simp only [Bool.and_eq_true] at h1
  replace h := kk_spec h; obtain ⟨Hs, hHs, h⟩ := h
  replace h := kk_spec h; obtain ⟨Os, hOs, h⟩ := h
  replace h := kif_spec h; obtain ⟨h2, h⟩ := h
  replace h := kk_spec h; obtain ⟨xs, hxs, h⟩ := h
  obtain ⟨res, Bs, Rs, hcon, h⟩ := h
  replace h := kif_spec h; obtain ⟨h3, h⟩ := h
  simp only [Bool.and_eq_true] at h3
  obtain ⟨⟨⟨e1, e2⟩, e3⟩, e4⟩ := h3
  obtain ⟨hnum, h⟩ := (h : numRows (Rs.map KRow.row) ∧ _)
  obtain ⟨e21, e22⟩ := okBack_spec e2
  have e1 := Nat.eq_of_beq_eq_true e1
  rw [lenK_eq, lenK_eq] at e1
  have hcon' : ConW P g (KV.avL xs) (enumB 0 (Hs.map KBlk.blk)) (enumR 100 ((Os.map KRow.row).map nnS)) res.av (enumB 0 (Bs.map KBlk.blk)) (enumR 100 (Rs.map KRow.row)) := by
    rw [← nnKL_rows]; exact hcon
  refine ⟨_, ?_, h⟩
  have := bar_callW (E := E) (P := P) (o := o) (S := S.st) (s := s) (caps := []) (cs := KV.avL cs) (xs := KV.avL xs) ho (f := .func g) (fv := .fn g []) (g := g) rfl rfl (kopL_spec hcs) (nodupK_spec h1.1) (nodupK_spec h1.2) (blksOfK_spec hHs) (rowsOfK_spec hOs)
    (dataHs_spec h2) (by rw [List.append_nil]; exact snapWKL_spec hxs) (by simpa using e1) (by simpa using e21) e22 ⟨scalHs_spec e4, hnum⟩ (scalar_av _ e3) (dstK_spec hd) hcon'
  refine Bar_leq this ?_
  refine ⟨rfl, rfl, fun t => ?_, fun b => ?_, fun b => ?_⟩
  · simp only [writS, KSt.st]
    cases o.dst <;> rfl
  · simp only [writS, KSt.st, stAs_H]
  · simp only [writS, KSt.st, stAs_O, backK_rows]
theorem barK_next {pz : List Nat} {o : Oper} {S : KSt} {s : E.σ} {nb : Nat} {x : Operand} {b : Bool} (hop : o.op = .next x b) {K : KSt → E.σ → Prop} (h : barK (primK P E base r post) tb pz o S s nb K) : BarN E o S.st s (fun X s' => ∃ S' : KSt, X = S'.st ∧ K S' s') := by
  unfold barK at h
  rw [hop] at h
  simp only at h
  split at h
  · exact h.elim
  replace h := kif_spec h; obtain ⟨hd, h⟩ := h
  replace h := kk_spec h; obtain ⟨c, hc, h⟩ := h
  split at h
  · rename_i id
    replace h := kk_spec h; obtain ⟨R, hR, h⟩ := h
    replace h := kif_spec h; obtain ⟨hb, h⟩ := h
    simp only [Bool.and_eq_true, Bool.not_eq_true'] at hb
    obtain ⟨⟨hl, hs⟩, hn⟩ := hb
    have hs := Nat.eq_of_beq_eq_true hs
    have hR' : look S.st.O id = some R.row := by rw [st_lookO, hR]; rfl
    split at h
    · rename_i m α dd l f hps
      split at h
      · rename_i α' d' l' f'
        obtain ⟨he, hk⟩ := h
        have hrows : R.row.rows = [.map (l'.map fun a => rowD 2 0 fun j => (f' a j).toD), .bool false] :: ([] ++ l.map fun a => rowD 2 0 fun j => (f a j).toD) := by
          show rowsD R.sz R.ps = _
          rw [hps]; simp [rowsD, KP.rows, KV.toDLL, KV.toDL, KV.toD]
        refine barN_next (t := 0) hop (kop_st hc) hR' hs hn hl hrows rfl (dstK_spec hd) (fun h0 => ?_) (fun i k v hi => ?_)
        · have := he (List.map_eq_nil_iff.1 h0)
          exact ⟨_, by rw [KSt.add_st]; rfl, this⟩
        · rw [List.getElem?_map] at hi
          cases hx : l[i]? with
          | none => rw [hx] at hi; cases hi
          | some y =>
            rw [hx] at hi
            simp only [Option.map_some, rowD, Option.some.injEq, List.cons.injEq, and_true] at hi
            obtain ⟨rfl, rfl⟩ := hi
            have h1 := kif_spec (hk i y hx); obtain ⟨h2, h1⟩ := h1
            simp only [Bool.and_eq_true] at h2
            refine ⟨_, ?_, h1⟩
            rw [KSt.add_st, ← putS_k (rows := [.map (l'.map fun a => rowD 2 0 fun j => (f' a j).toD), .bool true] :: [(f y 0).toD, (f y 1).toD] :: (l.map fun a => rowD 2 0 fun j => (f a j).toD).eraseIdx i) (by simp [rowsD, KP.rows, KV.toDLL, KV.toDL, KV.toD, ChangeMaps.map_eraseIdx])]
            simp only [KV.av, KV.avL, okDat_av h2.1, okDat_av h2.2, mapH, mapO]
      · exact h.elim
    · exact h.elim
  · exact h.elim
theorem barK_bar {pz : List Nat} {o : Oper} {S : KSt} {s : E.σ} {nb : Nat} (hT : ∀ t i, tb t = some i → TIOk P t i) {K : KSt → E.σ → Prop}
    (hbar : ¬ isVal o) (h : barK (primK P E base r post) tb pz o S s nb K) : ∃ S' s', Bar E o S.st s S'.st s' ∧ K S' s' := by
  unfold barK at h
  split at h
  · rename_i t p x hop
    replace h := kk_spec h; obtain ⟨c, hc, h⟩ := h
    replace h := kk_spec h; obtain ⟨d, hd, h⟩ := h
    replace h := kk_spec h; obtain ⟨cs, hcs, h⟩ := h
    replace h := kk_spec h; obtain ⟨ti, hi, h⟩ := h
    replace h := kif_spec h; obtain ⟨h1, h⟩ := h
    have h1 := Nat.eq_of_beq_eq_true h1
    split at h
    · exact h.elim
    · rename_i hdst
      split at h
      · rename_i b off
        replace h := kk_spec h; obtain ⟨B, hB, h⟩ := h
        replace h := kif_spec h; obtain ⟨h2, h⟩ := h
        replace h := kif_spec h; obtain ⟨h3, h⟩ := h
        have hB' : look S.st.H b = some B.blk := by rw [st_lookH, hB]; rfl
        have := bar_store (s := s) hop hdst (kop_st hc) hB' h2 (kop_st hd) (cellsK_spec hcs) (by rw [(hT _ _ hi).sz, h1, avL_len]) (by rw [avL_len, show B.blk.cells = KV.avL B.cells from rfl, avL_len]; exact h3)
        refine ⟨_, _, ?_, h⟩
        have e2 : setBox S.st b ⟨B.blk.e, putL B.blk.cells off (KV.avL cs), true⟩ = KSt.st ⟨S.n, S.T, stA S.H b ⟨B.e, putK B.cells off cs, true⟩, S.O, S.low⟩ := by
          simp only [setBox, KSt.st]
          rw [← setA_mapH]; simp only [KBlk.blk, putK_spec]
        rw [← e2]; exact this
      · rename_i id sz ix j
        replace h := kk_spec h; obtain ⟨R, hR, h⟩ := h
        replace h := kif_spec h; obtain ⟨h2, h⟩ := h
        simp only [Bool.and_eq_true] at h2
        obtain ⟨h2, h3⟩ := h2
        have h3 := Nat.eq_of_beq_eq_true h3
        subst h3
        replace h := kif_spec h; obtain ⟨h4, h⟩ := h
        have h4 := Nat.le_of_ble_eq_true h4
        replace h := kif_spec h; obtain ⟨h5, h⟩ := h
        replace h : (0 ≤ ix ∧ ix < (plenN R.ps : Int)) ∧ ∃ ps', rowsD R.sz ps' = (rowsD R.sz R.ps).set ix.toNat (putG ((rowsD R.sz R.ps).getD ix.toNat []) j (KV.toDL cs)) ∧ K ⟨S.n, S.T, S.H, stA S.O id ⟨R.e, R.sz, ps', R.nn, true⟩, S.low⟩ s := h
        obtain ⟨⟨h6, h7⟩, ps', h8, h⟩ := h
        have hR' : look S.st.O id = some R.row := by rw [st_lookO, hR]; rfl
        have hlen : ix.toNat < (rowsD R.sz R.ps).length := by rw [plenN_spec]; omega
        have := bar_storeRow (s := s) (ds := KV.toDL cs) (row := (rowsD R.sz R.ps)[ix.toNat]) (i := ix.toNat) (R := R.row) hop hdst (kop_st hc) hR' h2 (kop_st hd) (by rw [cellsK_spec hcs, allD_av h5]) (by rw [(hT _ _ hi).sz, h1, toDL_len]) (by show (rowsD R.sz R.ps)[ix.toNat]? = _; simp [hlen]) (by rw [toDL_len]; exact h4)
        refine ⟨_, _, ?_, h⟩
        have e2 : putS S.st id R.row (R.row.rows.set ix.toNat (putG (rowsD R.sz R.ps)[ix.toNat] j (KV.toDL cs))) = KSt.st ⟨S.n, S.T, S.H, stA S.O id ⟨R.e, R.sz, ps', R.nn, true⟩, S.low⟩ := by
          simp only [putS, KSt.st]
          rw [← setA_mapO]
          simp only [KRow.row, h8]
          rw [List.getD_eq_getElem?_getD, List.getElem?_eq_getElem hlen]; rfl
        rw [← e2]; exact this
      · exact h.elim
  · rename_i c hop
    obtain ⟨callee, args, ts⟩ := c
    simp only at h
    split at h
    · split at h
      · rename_i x y t t' h1 h2
        have e1 : args = #[x, y] := by apply Array.toList_inj.1; simp [h1]
        have e2 : ts = #[t, t'] := by apply Array.toList_inj.1; simp [h2]
        subst e1 e2
        replace h := kif_spec h; obtain ⟨ht, h⟩ := h
        have ht := Nat.eq_of_beq_eq_true ht
        subst ht
        replace h := kif_spec h; obtain ⟨hd, h⟩ := h
        have hd := dstK_spec hd
        replace h := kk_spec h; obtain ⟨c, hc, h⟩ := h
        replace h := kk_spec h; obtain ⟨d, hy, h⟩ := h
        replace h := kk_spec h; obtain ⟨ti, hi, h⟩ := h
        replace h := kk_spec h; obtain ⟨⟨e, sz⟩, hr, h⟩ := h
        replace h := kk_spec h; obtain ⟨j, hj, h⟩ := h
        replace h := kk_spec h; obtain ⟨zc, hz, h⟩ := h
        replace h := kif_spec h; obtain ⟨hzs, h⟩ := h
        replace h := kif_spec h; obtain ⟨hpos, h⟩ := h
        have hzs := Nat.eq_of_beq_eq_true hzs
        have hi := hT _ _ hi
        have hj := hT _ _ hj
        have hr := hi.el _ hr
        have hz := hj.z _ hz
        replace hy := kop_st hy
        replace hc := kop_st hc
        simp only at hzs hpos hz hj h
        split at h
        · rename_i id
          replace h := kk_spec h; obtain ⟨R, hR, h⟩ := h
          replace h := kif_spec h; obtain ⟨h3, h⟩ := h
          simp only [Bool.and_eq_true] at h3
          obtain ⟨⟨⟨h3, h4⟩, h5⟩, hpp⟩ := h3
          rw [Nat.blt_eq] at hpp
          have h4 := Nat.eq_of_beq_eq_true h4
          have h5 := Nat.eq_of_beq_eq_true h5
          replace h := kk_spec h; obtain ⟨news, hs, h⟩ := h
          replace h : (plenN (joinP R.ps news) * j.bytes ≤ 140737488355328 ∧ plenN (joinP R.ps news) ≤ 140737488355328) ∧ _ := h; obtain ⟨⟨h6, h7⟩, h⟩ := h
          have hR' : look S.st.O id = some R.row := by rw [st_lookO, hR]; rfl
          have hlen : R.row.rows.length + (rowsD R.sz news).length = plenN (joinP R.ps news) := by
            rw [← plenN_spec R.sz, joinP_rows, List.length_append]; rfl
          have := bar_append (s := s) hop hc hR' h3 (by rw [show R.row.e = R.e from rfl, show R.row.sz = R.sz from rfl, h4, h5]; exact hr) (by rw [show R.row.e = R.e from rfl, h4]; exact hz) (by rw [avL_len, show R.row.sz = R.sz from rfl, h5]; exact hzs) (by rw [show R.row.sz = R.sz from rfl, h5]; exact hpos)
            (by rw [show R.row.e = R.e from rfl, h4]; exact hj.bytes) hy (srcK_spec hs) (by rw [← hlen] at h6; exact h6) (by rw [← hlen] at h7; exact h7) hd hpp
          refine ⟨_, _, Bar_leq (Bar_leq this (appS_leq _ _ _ _)) ?_, h⟩
          refine ⟨rfl, rfl, fun u => ?_, fun u => ?_, fun u => ?_⟩
          · simp only [KSt.st]
            cases o.dst with
            | none => rw [forgT_spec]; rfl
            | some v => simp only [setD, look_setT, mapT, look, forgT_spec]; rfl
          · simp only [KSt.st, forgH_spec]
          · simp only [KSt.st, ← setA_mapO]
            rw [show (KRow.row ⟨R.e, R.sz, joinP R.ps news, R.nn, true⟩) = ⟨R.row.e, R.row.sz, R.row.rows ++ rowsD R.sz news, R.row.nn, true⟩ from by simp only [KRow.row, joinP_rows]]
            rfl
        · replace h := kk_spec h; obtain ⟨news, hs, h⟩ := h
          replace h : (plenN news * j.bytes ≤ 140737488355328 ∧ plenN news ≤ 140737488355328) ∧ _ := h; obtain ⟨⟨h6, h7⟩, h⟩ := h
          replace h := kif_spec h; obtain ⟨hf, h⟩ := h
          have hs' : srcRows { S.st with O := (nb, ⟨e, sz, [], false, true⟩) :: S.st.O } nb sz d.av = some (rowsD sz news) := by
            have h0 := srcK_spec hs
            unfold srcK at hs
            split at hs
            all_goals first | exact h0 | (cases hs; done) | skip
            · rename_i id'
              split at hs
              · rename_i R hR
                split at hs
                · rename_i he
                  simp only [Bool.and_eq_true] at he
                  have hne : ¬ nb = id' := fun e => by
                    subst e
                    have := he.2
                    simp at this
                  simp only [srcRows, KV.av, look, if_neg hne] at h0 ⊢
                  exact h0
                · cases hs
              · cases hs
          have hlen : (rowsD sz news).length = plenN news := plenN_spec _ _
          have := bar_append_nil (s := s) nb hop hc hr hz (by rw [avL_len]; exact hzs) hpos hj.bytes hy hs' (by rw [hlen]; exact h6) (by rw [hlen]; exact h7) hd (freshKB_spec (nh := []) (by rfl) hf)
          refine ⟨_, _, Bar_leq (Bar_leq this (appS_leq _ _ _ _)) ?_, h⟩
          refine ⟨rfl, rfl, fun u => ?_, fun u => ?_, fun u => ?_⟩
          · simp only [KSt.st]
            cases o.dst with
            | none => rw [forgT_spec]; rfl
            | some v => simp only [setD, look_setT, mapT, look, forgT_spec]; rfl
          · simp only [KSt.st, forgH_spec]
          · simp only [KSt.st, mapO, setA, if_true]; rfl
        · rename_i sz' row rows
          replace h := kif_spec h; obtain ⟨he, h⟩ := h
          have he := Nat.eq_of_beq_eq_true he
          subst he
          replace h := kk_spec h; obtain ⟨news, hs, h⟩ := h
          replace h : (1 : Int) ≤ (plenN news : Int) ∧ (plenN (joinP [.rw (row :: rows)] news) * j.bytes ≤ 140737488355328 ∧ plenN (joinP [.rw (row :: rows)] news) ≤ 140737488355328) ∧ _ := h
          obtain ⟨h5, ⟨h6, h7⟩, h⟩ := h
          have hlen : (rowsD sz' news).length = plenN news := plenN_spec _ _
          have hrw : (KV.toDLL (row :: rows)) = rowsD sz' [.rw (row :: rows)] := by simp [rowsD, KP.rows]
          have hsum : (KV.toDLL (row :: rows)).length + (rowsD sz' news).length = plenN (joinP [.rw (row :: rows)] news) := by
            rw [← plenN_spec sz', joinP_rows, List.length_append, hrw]
          rw [Nat.blt_eq] at hpos
          have hf := free_append_full (id := nb) hop (rows := KV.toDLL (row :: rows)) hc hr hz (by rw [avL_len]; exact hzs) hpos (hT _ _ hj).bytes (by simp [KV.toDLL]) (by rw [hlen]; omega) hy (srcK_spec hs) (by rw [hsum]; exact h6) (by rw [hsum]; exact h7)
          refine ⟨_, _, ?_, h⟩
          rw [KSt.add_st]
          refine bar_of_free (res := (rowKV ⟨e, sz', joinP [.rw (row :: rows)] news, true, true⟩).av) ?_ hd
          rw [rowKV_av, joinP_rows, ← hrw]
          exact hf
        · exact h.elim
      · exact h.elim
    · split at h
      · rename_i x y t t' h1 h2
        have e1 : args = #[x, y] := by apply Array.toList_inj.1; simp [h1]
        have e2 : ts = #[t, t'] := by apply Array.toList_inj.1; simp [h2]
        subst e1 e2
        replace h := kif_spec h; obtain ⟨ht, h⟩ := h
        have ht := Nat.eq_of_beq_eq_true ht
        subst ht
        replace h := kif_spec h; obtain ⟨hd, h⟩ := h
        have hd := dstK_spec hd
        replace h := kk_spec h; obtain ⟨c, hc, h⟩ := h
        replace h := kk_spec h; obtain ⟨d, hy, h⟩ := h
        replace h := kk_spec h; obtain ⟨ti, hi, h⟩ := h
        replace h := kk_spec h; obtain ⟨⟨e, sz⟩, hr, h⟩ := h
        split at h
        · rename_i id
          replace h := kk_spec h; obtain ⟨R, hR, h⟩ := h
          replace h := kif_spec h; obtain ⟨h3, h⟩ := h
          simp only [Bool.and_eq_true] at h3
          obtain ⟨⟨h3, h4⟩, h5⟩ := h3
          have h4 := Nat.eq_of_beq_eq_true h4
          have h5 := Nat.eq_of_beq_eq_true h5
          subst h4 h5
          replace h := kif_spec h; obtain ⟨h0, h⟩ := h
          rw [Nat.blt_eq] at h0
          replace h := kk_spec h; obtain ⟨news, hs, h⟩ := h
          replace h : (1 : Int) ≤ (plenN news : Int) ∧ (plenN news : Int) = (plenN R.ps : Int) ∧ K (KSt.add ⟨S.n, S.T, S.H, stA S.O id ⟨R.e, R.sz, news, R.nn, true⟩, S.low⟩ o.dst (.int .i64 (plenN news)) [] []) s := h
          obtain ⟨h6, h7, h⟩ := h
          have hR' : look S.st.O id = some R.row := by rw [st_lookO, hR]; rfl
          have hlen : (rowsD R.sz news).length = plenN news := plenN_spec _ _
          have := bar_copy (s := s) (R := R.row) hop (kop_st hc) hR' h3 h0 ((hT _ _ hi).el _ hr) (kop_st hy) (srcK_spec hs) ((show (rowsD R.sz news).length = R.row.rows.length from by rw [hlen, show R.row.rows.length = plenN R.ps from plenN_spec _ _]; omega)) (show 0 < (rowsD R.sz news).length from by rw [hlen]; omega) hd
          refine ⟨_, _, ?_, h⟩
          rw [KSt.add_st]
          have e2 : putS S.st id R.row (rowsD R.sz news) = KSt.st ⟨S.n, S.T, S.H, stA S.O id ⟨R.e, R.sz, news, R.nn, true⟩, S.low⟩ := by
            simp only [putS, KSt.st]
            rw [← setA_mapO]; rfl
          rw [← e2, show KV.av (.int .i64 (plenN news)) = .d (.int .i64 ((rowsD R.sz news).length : Nat)) from by rw [hlen]; rfl]
          exact this
        · exact h.elim
      · exact h.elim
    · split at h
      · rename_i x y t t' h1 h2
        have e1 : args = #[x, y] := by apply Array.toList_inj.1; simp [h1]
        have e2 : ts = #[t, t'] := by apply Array.toList_inj.1; simp [h2]
        subst e1 e2
        replace h := kif_spec h; obtain ⟨hd, h⟩ := h
        replace h := kk_spec h; obtain ⟨c, hc, h⟩ := h
        replace h := kk_spec h; obtain ⟨kc, hk, h⟩ := h
        replace h := kk_spec h; obtain ⟨ti, hi, h⟩ := h
        replace h := kk_spec h; obtain ⟨⟨kt, et⟩, hr, h⟩ := h
        replace h := kk_spec h; obtain ⟨ki, hki, h⟩ := h
        replace h := kif_spec h; obtain ⟨hkd, h⟩ := h
        split at h
        · rename_i id
          replace h := kk_spec h; obtain ⟨R, hR, h⟩ := h
          replace h := kif_spec h; obtain ⟨hb, h⟩ := h
          simp only [Bool.and_eq_true] at hb
          obtain ⟨⟨hl, hs⟩, hn⟩ := hb
          have hs := Nat.eq_of_beq_eq_true hs
          have hR' : look S.st.O id = some R.row := by rw [st_lookO, hR]; rfl
          obtain ⟨d, g1, g2, g3, ps', g4, h⟩ := h
          have e0 : R.row.rows = rowsD 0 R.ps := by show rowsD R.sz R.ps = _; rw [hs]
          have := bar_delete (s := s) (R := R.row) hop ((hT _ _ hi).mp _ hr) (unK_spec (hT _ _ hki) g1) (kop_st hc) hR' hs hn hl ((kop_st hk).trans (congrArg some (KV.isD_av hkd))) g2 (by rw [e0]; exact g3) (dstK_spec hd)
          refine ⟨_, _, ?_, h⟩
          rw [KSt.add_st, ← putS_k (rows := mdelD R.row.rows kc.toD) (by rw [e0, ← g4, hs])]
          exact this
        · exact h.elim
      · exact h.elim
    · rename_i f; exact absurd (.inl ⟨f, args, ts, hop⟩) hbar
    · exact h.elim
  · rename_i t m k x hop
    split at h
    · exact h.elim
    · rename_i hdst
      replace h := kk_spec h; obtain ⟨c, hc, h⟩ := h
      replace h := kk_spec h; obtain ⟨kc, hk, h⟩ := h
      replace h := kk_spec h; obtain ⟨v, hv, h⟩ := h
      replace h := kk_spec h; obtain ⟨ti, hi, h⟩ := h
      replace h := kk_spec h; obtain ⟨⟨kt, et⟩, hr, h⟩ := h
      replace h := kk_spec h; obtain ⟨ki, hki, h⟩ := h
      replace h := kif_spec h; obtain ⟨hkd, h⟩ := h
      simp only [Bool.and_eq_true] at hkd
      split at h
      · rename_i id
        replace h := kk_spec h; obtain ⟨R, hR, h⟩ := h
        replace h := kif_spec h; obtain ⟨hb, h⟩ := h
        simp only [Bool.and_eq_true] at hb
        obtain ⟨⟨hl, hs⟩, hn⟩ := hb
        have hs := Nat.eq_of_beq_eq_true hs
        have hR' : look S.st.O id = some R.row := by rw [st_lookO, hR]; rfl
        obtain ⟨d, g1, g2, g3, ps', g4, h⟩ := h
        have e0 : R.row.rows = rowsD 0 R.ps := by show rowsD R.sz R.ps = _; rw [hs]
        have hka : okDat kc = true := hkd.1
        have := bar_mapUpdate (s := s) (R := R.row) (vD := v.toD) hop hdst ((hT _ _ hi).mp _ hr) (unK_spec (hT _ _ hki) g1) (kop_st hc) hR' hs hn hl (kD := kc.toD) (fun w ok μ ν yl u hu => okDat_rd hka (by rw [okDat_av hka]; exact hu)) (by rw [kop_st hk, okDat_av hka]) g2 (by rw [e0]; exact g3) (kop_st hv) (fun w ok μ ν yl u hu => okDat_rd hkd.2 hu)
        refine ⟨_, _, ?_, h⟩
        rw [← putS_k (rows := msetD R.row.rows kc.toD v.toD) (by rw [e0, ← g4, hs])]
        exact this
      · exact h.elim
  · rename_i x hop
    replace h := kif_spec h; obtain ⟨hd, h⟩ := h
    replace h := kk_spec h; obtain ⟨c, hc, h⟩ := h
    split at h
    · rename_i id
      replace h := kk_spec h; obtain ⟨R, hR, h⟩ := h
      replace h := kif_spec h; obtain ⟨hb, h⟩ := h
      simp only [Bool.and_eq_true, Bool.not_eq_true'] at hb
      obtain ⟨⟨hl, hs⟩, hn⟩ := hb
      have hs := Nat.eq_of_beq_eq_true hs
      have hR' : look S.st.O id = some R.row := by rw [st_lookO, hR]; rfl
      split at h
      · rename_i m k v ps hps
        split at h
        · rename_i α dd l f
          replace h := kif_spec h; obtain ⟨h2, h⟩ := h
          simp only [Bool.and_eq_true] at h2
          have hrows : R.row.rows = [.map (l.map fun a => rowD 2 0 fun j => (f a j).toD), .bool true] :: [k.toD, v.toD] :: rowsD R.sz ps := by
            show rowsD R.sz R.ps = _
            rw [hps]; simp [rowsD, KP.rows, KV.toDLL, KV.toDL, KV.toD]
          have := bar_entry (s := s) (R := R.row) hop (kop_st hc) hR' hs hn hl hrows (dstK_spec hd)
          refine ⟨_, _, ?_, h⟩
          rw [KSt.add_st, ← putS_k (rows := [.map (l.map fun a => rowD 2 0 fun j => (f a j).toD), .bool false] :: rowsD R.sz ps) (by simp [rowsD, KP.rows, KV.toDLL, KV.toDL, KV.toD])]
          simp only [KV.av, KV.avL, okDat_av h2.1, okDat_av h2.2, mapH, mapO]
          exact this
        · exact h.elim
      · exact h.elim
    · exact h.elim
  · rename_i x b hop
    exact absurd (.inr ⟨x, b, hop⟩) hbar
  · exact h.elim
theorem barK_spec {pz : List Nat} {ops : Array Oper} {i : Nat} {rest : List Nat} {o : Oper} {S : KSt} {s : E.σ} {Q : Exit → St → E.σ → Prop} {nb : Nat} (hT : ∀ t i, tb t = some i → TIOk P t i) (ho : ops[i]? = some o) (hg : guardB ops S.st.T o = some true) {K : KSt → E.σ → Prop}
    (hK : ∀ S' s', K S' s' → AWO E base r ops rest S'.st s' Q) (hbar : isBarK pz o S = true) (h : barK (primK P E base r post) tb pz o S s nb K) : AWO E base r ops (i :: rest) S.st s Q := by
  by_cases hv : isVal o
  · rcases hv with ⟨f, args, ts, hop⟩ | ⟨x, b, hop⟩
    case inr => exact AWO_barN ho hg (barK_next hop h) (fun X s' ⟨S', e, hk⟩ => by subst e; exact hK S' s' hk)
    unfold barK at h
    rw [hop] at h
    simp only at h
    cases hw : wrFn pz f with
    | some g =>
      rw [hw] at h
      replace h := kif_spec h; obtain ⟨hd, h⟩ := h
      obtain ⟨S', hb, hk⟩ := wrCallK_bar (s := s) hop rfl hw hd h
      exact AWO_bar ho hg hb (hK _ _ hk)
    | none =>
    rw [hw] at h
    have hy : kop S.T f = some .yld := by
      simp only [isBarK, hop, hw] at hbar
      split at hbar
      · rename_i hk; exact hk
      · cases hbar
    replace h := kif_spec h; obtain ⟨hd, h⟩ := h
    replace h := kk_spec h; obtain ⟨cs, hcs, h⟩ := h
    replace h := kk_spec h; obtain ⟨xs, hxs, h⟩ := h
    obtain ⟨hst, h⟩ := h
    exact AWO_yield ho hg hop (kop_st hy) (kopL_spec hcs) (snapL_spec' hxs) (dstK_spec hd) hst (fun s' b hb => by
      have := hK _ _ (h s' b hb)
      rwa [KSt.add_st] at this)
  · obtain ⟨S', s', hb, hk⟩ := barK_bar hT hv h
    exact AWO_bar ho hg hb (hK _ _ hk)
theorem seeT_other {id : Nat} {d : D} {t : Nat} {c : AV} {T : List (Nat × AV)} (h : c ≠ .osl id) : seeT id d ((t, c) :: T) = (t, c) :: seeT id d T := by
  cases c with
  | osl i => simp only [seeT]; rw [if_neg (fun e => h (by rw [e]))]
  | _ => rfl
theorem seeK_spec {id : Nat} {v : KV} {d : D} (hv : v.av = .d d) : ∀ {T : List (Nat × KV)}, mapT (seeK id v T) = seeT id d (mapT T)
  | [] => rfl
  | (t, c) :: q => by
    have ih := seeK_spec (id := id) hv (T := q)
    cases c with
    | osl i =>
      simp only [seeK]
      split
      · rename_i h
        have := Nat.eq_of_beq_eq_true h
        subst this
        simp [mapT, KV.av, ih, seeT, hv]
      · rename_i h
        have : i ≠ id := fun e => by subst e; rw [Nat.beq_refl] at h; cases h
        simp [mapT, KV.av, ih, seeT, this]
    | _ => simp only [seeK, mapT, ih, KV.av]; rw [seeT_other (fun e => by cases e)]
theorem look_keepT {id : Nat} {d : D} {t : Nat} {x : AV} (hx : x ≠ .osl id) : ∀ {T : List (Nat × AV)}, look T t = some x → look (seeT id d T) t = some x
  | [], h => by cases h
  | (u, c) :: q, h => by
    have ih := look_keepT (id := id) (d := d) (t := t) (x := x) hx (T := q)
    simp only [look] at h
    by_cases hc : c = .osl id
    · subst hc
      simp only [seeT, if_true, look]
      by_cases e : u = t
      · rw [if_pos e] at h; cases h; exact absurd rfl hx
      · rw [if_neg e] at h ⊢; exact ih h
    · rw [seeT_other hc]
      simp only [look]
      by_cases e : u = t
      · rw [if_pos e] at h ⊢; exact h
      · rw [if_neg e] at h ⊢; exact ih h
/-- What is kept where rows are frozen. -/
def Keeps (S S' : KSt) : Prop := Weak S.st S'.st ∧ ∀ t x, (∀ i, x ≠ .osl i) → look S.st.T t = some x → look S'.st.T t = some x
theorem Keeps.refl (S : KSt) : Keeps S S := ⟨Weak.refl _, fun _ _ _ h => h⟩
theorem Keeps.trans {S S' S'' : KSt} (h : Keeps S S') (k : Keeps S' S'') : Keeps S S'' := ⟨h.1.trans k.1, fun t x hx e => k.2 t x hx (h.2 t x hx e)⟩
theorem rowSn_av {R : KRow} {v : KV} (h : rowSn R = some v) : v.av = .d v.toD := by
  unfold rowSn at h
  split at h
  · cases h; rw [rowKV_toD]; exact rowKV_av R
  · split at h
    · cases h
      unfold mapKV
      split <;> rfl
    · cases h
theorem frzK_keeps (id : Nat) (S : KSt) : Keeps S (frzK id S) := by
  unfold frzK
  split
  · rename_i R hR
    split
    · exact Keeps.refl S
    · rename_i v hv
      have hR' : look S.st.O id = some R.row := by rw [st_lookO, hR]; rfl
      have e : frzS S.st id R.row v.toD = KSt.st ⟨S.n, seeK id v S.T, S.H, stA S.O id ⟨R.e, R.sz, R.ps, R.nn, false⟩, S.low⟩ := by
        simp only [frzS, KSt.st]
        rw [← setA_mapO, seeK_spec (rowSn_av hv)]; rfl
      refine ⟨?_, fun t x hx h => ?_⟩
      · rw [← e]; exact weak_frz hR' (rowSn_spec hv)
      · rw [← e]; exact look_keepT (hx _) h
  · exact Keeps.refl S
theorem frzI_keeps : ∀ (l : List Nat) (S : KSt), Keeps S (frzI l S)
  | [], S => Keeps.refl S
  | id :: q, S => (frzK_keeps id S).trans (frzI_keeps q _)
theorem frzL_keeps : ∀ (l : List Nat) (S : KSt), Keeps S (frzL l S)
  | [], S => Keeps.refl S
  | t :: q, S => by
    unfold frzL
    split
    · exact (frzI_keeps _ S).trans (frzL_keeps q _)
    · exact frzL_keeps q S
theorem preK_keeps (pz : List Nat) (o : Oper) (S : KSt) : Keeps S (preK pz o S) := by
  unfold preK
  split
  · split
    · exact frzL_keeps _ S
    · exact Keeps.refl S
  · exact Keeps.refl S
theorem guardB_keeps {ops : Array Oper} {S S' : KSt} {o : Oper} {b : Bool} (h : Keeps S S') (hg : guardB ops S.st.T o = some b) : guardB ops S'.st.T o = some b := by
  unfold guardB at hg ⊢
  split at hg
  · exact hg
  · rename_i j want hgd
    cases hq : (ops[j]?).bind (·.dst) with
    | none => simp only [hq] at hg; cases hg
    | some t =>
      simp only [hq] at hg ⊢
      cases hl : look S.st.T t with
      | none => rw [hl] at hg; cases hg
      | some v =>
        rw [hl] at hg
        cases v with
        | d x => rw [h.2 t _ (fun i e => by cases e) hl]; exact hg
        | tup l => rw [h.2 t _ (fun i e => by cases e) hl]; exact hg
        | _ => cases hg
theorem opsK_spec {ops : Array Oper} {pz : List Nat} {Q : Exit → St → E.σ → Prop} {K : KSt → E.σ → Prop} (hT : ∀ t i, tb t = some i → TIOk P t i) (hQ : ∀ S s, K S s → Q .normal S.st s) : ∀ (l : List Oper) (i : Nat) (S : KSt) (s : E.σ), (∀ (j : Nat) (o : Oper), l[j]? = some o → ops[i + j]? = some o) →
    opsK (primK P E base r post) tb pz ops.toList l S s K → AWO E base r ops (List.range' i l.length) S.st s Q
  | [], i, S, s, _, h => AWO_nil (hQ _ _ h)
  | o :: rest, i, S, s, hl, h => by
    have ho : ops[i]? = some o := by simpa using hl 0 o rfl
    have hrest : ∀ (j : Nat) (o : Oper), rest[j]? = some o → ops[i + 1 + j]? = some o := fun j o h => by
      have := hl (j + 1) o (by simpa using h)
      rwa [show i + (j + 1) = i + 1 + j from by omega] at this
    rw [List.length_cons, List.range'_succ]
    unfold opsK at h
    obtain ⟨S', hleq, h⟩ := wantK_spec h
    refine AWO_leq hleq ?_
    rcases h with ⟨hg, h⟩ | ⟨hg, h⟩
    · have hk := preK_keeps pz o S'
      refine AWO_weak hk.1 ?_
      replace hg := guardB_keeps hk hg
      generalize preK pz o S' = S' at h hg
      simp only at h
      split at h
      · rename_i hb
        exact barK_spec hT ho hg (fun S' s' hk => opsK_spec hT hQ rest (i + 1) S' s' hrest hk) hb h
      · obtain ⟨res, nh, no, hf, h⟩ := freeK_spec hT h
        replace h := kif_spec h; obtain ⟨h1, h⟩ := h
        simp only [Bool.and_eq_true] at h1
        have := opsK_spec hT hQ rest (i + 1) _ s hrest h
        rw [KSt.add_st] at this
        exact AWO_free _ _ _ ho hg hf (freshK_spec h1.1.1 h1.1.2) (dstK_spec h1.2) this
    · replace h := kif_spec h; obtain ⟨h1, h⟩ := h
      have := opsK_spec hT hQ rest (i + 1) _ s hrest h
      rw [KSt.add_st] at this
      exact AWO_notT ho hg (dstK_spec h1) this
theorem regK_spec {id : Nat} {ops : Array Oper} {pz : List Nat} {S : KSt} {s : E.σ} {Q : Exit → St → E.σ → Prop} {K : KSt → E.σ → Prop} (hT : ∀ t i, tb t = some i → TIOk P t i) (hQ : ∀ S s, K S s → Q .normal S.st s)
    (h : opsK (primK P E base r post) tb pz ops.toList ops.toList S s K) : AW E base r (.region id ops false) S.st s Q := by
  refine AW_region ?_
  have := opsK_spec (ops := ops) hT hQ ops.toList 0 S s (fun j o h => by simpa using h) h
  rwa [List.range_eq_range', ← Array.length_toList]
end Go.Proofs.Ytelnoeamkdpjhaa.Aw

/- The logic of abstract walks, part M5b: regions that draw, by evaluation. -/
namespace Go.Proofs.Ytelnoeamkdpjhaa.Aw
open Go Go.RowKit
set_option linter.unusedVariables false
set_option linter.unusedSimpArgs false
universe u
variable {P : Program} {E : Env P} {base : Nat} {r : Option Nat} {post : KV → List KRow → Prop} {tb : Nat → Option TI}
theorem key_look {α : Type} {l : List (Nat × α)} {b : Nat} (h : b ∈ keys l) : ∃ v, look l b = some v := by
  induction l with
  | nil => cases h
  | cons p q ih =>
    obtain ⟨k, v⟩ := p
    simp only [look]
    by_cases e : k = b
    · exact ⟨v, if_pos e⟩
    · rw [if_neg e]
      rcases List.mem_cons.1 h with h | h
      · exact absurd h.symm e
      · exact ih h
theorem freshH_not {S : KSt} : ∀ {nh : List (Nat × KBlk)}, freshKH S nh = true → ∀ b ∈ keys (mapH nh), b ∉ keys S.st.H := fun h b hb hh => by
  have := (freshKH_spec h b hb).1
  simp only [usesBox, memN_iff.2 hh, Bool.true_or] at this
  cases this
theorem freshO_not {S : KSt} : ∀ {no : List (Nat × KRow)}, freshKO S no = true → ∀ b ∈ keys (mapO no), b ∉ keys S.st.O := fun h b hb hh => by
  have := (freshKO_spec h b hb).1
  simp only [usesRow, memN_iff.2 hh, Bool.true_or] at this
  cases this
theorem segS_snoc {ops : Array Oper} {X : Nat → Bool} (l : List Sg) (g : Sg) (i : Nat) (S : St) : segS ops X i (l ++ [g]) S = if X (i + l.length) then (segS ops X i l S).add (dstAt ops (i + l.length)) g.res g.nh g.no else segS ops X i l S := by
  rw [segS_split]; rfl
theorem segS_keysH {ops : Array Oper} : ∀ (l : List Sg) (i : Nat) (S : St) (b : Nat), b ∈ keys (segS ops (fun _ => true) i l S).H ↔ b ∈ keys S.H ∨ ∃ g ∈ l, b ∈ keys g.nh
  | [], i, S, b => by simp [segS]
  | g :: q, i, S, b => by
    simp only [segS, if_true]
    rw [segS_keysH q (i + 1)]
    simp only [St.add, keys_append, List.mem_append, List.mem_cons, exists_eq_or_imp]
    exact ⟨fun h => h.elim (fun h => h.elim (fun h => .inr (.inl h)) .inl) (fun h => .inr (.inr h)), fun h => h.elim (fun h => .inl (.inr h)) (fun h => h.elim (fun h => .inl (.inl h)) .inr)⟩
theorem segS_keysO {ops : Array Oper} : ∀ (l : List Sg) (i : Nat) (S : St) (b : Nat), b ∈ keys (segS ops (fun _ => true) i l S).O ↔ b ∈ keys S.O ∨ ∃ g ∈ l, b ∈ keys g.no
  | [], i, S, b => by simp [segS]
  | g :: q, i, S, b => by
    simp only [segS, if_true]
    rw [segS_keysO q (i + 1)]
    simp only [St.add, keys_append, List.mem_append, List.mem_cons, exists_eq_or_imp]
    exact ⟨fun h => h.elim (fun h => h.elim (fun h => .inr (.inl h)) .inl) (fun h => .inr (.inr h)), fun h => h.elim (fun h => .inl (.inr h)) (fun h => h.elim (fun h => .inl (.inl h)) .inr)⟩
theorem dis_snoc {g : Sg} : ∀ {l : List Sg} {K K' : List Nat}, dis K K' l = true → (∀ b ∈ keys g.nh, b ∉ K ∧ ∀ g' ∈ l, b ∉ keys g'.nh) → (∀ b ∈ keys g.no, b ∉ K' ∧ ∀ g' ∈ l, b ∉ keys g'.no) → dis K K' (l ++ [g]) = true
  | [], K, K', h, h1, h2 => by
    simp only [List.nil_append, dis, Bool.and_true, Bool.and_eq_true, List.all_eq_true, Bool.not_eq_true']
    refine ⟨fun b hb => ?_, fun b hb => ?_⟩
    · cases hm : memN b K with
      | false => rfl
      | true => exact absurd (memN_iff.1 hm) (h1 b hb).1
    · cases hm : memN b K' with
      | false => rfl
      | true => exact absurd (memN_iff.1 hm) (h2 b hb).1
  | g' :: q, K, K', h, h1, h2 => by
    simp only [dis, Bool.and_eq_true] at h
    simp only [List.cons_append, dis, Bool.and_eq_true]
    refine ⟨h.1, dis_snoc h.2 (fun b hb => ⟨fun hm => ?_, fun g2 hg2 => (h1 b hb).2 g2 (List.mem_cons_of_mem _ hg2)⟩) (fun b hb => ⟨fun hm => ?_, fun g2 hg2 => (h2 b hb).2 g2 (List.mem_cons_of_mem _ hg2)⟩)⟩
    · rcases List.mem_append.1 hm with hm | hm
      · exact (h1 b hb).2 g' (by simp) hm
      · exact (h1 b hb).1 hm
    · rcases List.mem_append.1 hm with hm | hm
      · exact (h2 b hb).2 g' (by simp) hm
      · exact (h2 b hb).1 hm
/-- g' does not speak of what g makes. -/
def Apt (g g' : Sg) : Prop := (∀ b ∈ keys g.nh, sgBox b g' = false) ∧ ∀ b ∈ keys g.no, sgRow b g' = false
def sgOf (g : SgK) (run : Bool) : Sg := ⟨g.res.av, mapH g.nh, mapO g.no, run⟩
theorem mentB_spec {b : Nat} : ∀ {nh : List (Nat × KBlk)}, mentB b nh = false → memN b (keys (mapH nh)) = false ∧ (mapH nh).any (fun p => p.2.cells.any fun c => c.box b) = false
  | [], _ => ⟨rfl, rfl⟩
  | (k, B) :: q, h => by
    simp only [mentB] at h
    split at h
    · cases h
    · rename_i hk
      split at h
      · cases h
      · rename_i hc
        obtain ⟨h1, h2⟩ := mentB_spec h
        refine ⟨by simp only [mapH, keys, memN, nbeq, hk, h1, Bool.or_self], ?_⟩
        simp only [mapH, List.any_cons, h2, Bool.or_false]; exact boxesL_any hc
theorem mentRB_spec {b : Nat} : ∀ {nh : List (Nat × KBlk)}, mentRB b nh = false → (mapH nh).any (fun p => p.2.cells.any fun c => c.hasRow b) = false
  | [], _ => rfl
  | (k, B) :: q, h => by
    simp only [mentRB] at h
    split at h
    · cases h
    · rename_i hc
      simp only [mapH, List.any_cons, mentRB_spec h, Bool.or_false]; exact hasRowL_any hc
theorem mentRO_spec {b : Nat} : ∀ {no : List (Nat × KRow)}, mentRO b no = false → memN b (keys (mapO no)) = false
  | [], _ => rfl
  | (k, B) :: q, h => by
    simp only [mentRO] at h
    split at h
    · cases h
    · rename_i hk
      simp only [mapO, keys, memN, nbeq, hk, mentRO_spec h, Bool.or_self]
theorem apartH_spec {g' : SgK} {run : Bool} : ∀ {nh : List (Nat × KBlk)}, apartH g' nh = true → ∀ b ∈ keys (mapH nh), sgBox b (sgOf g' run) = false
  | [], _, b, hb => by cases hb
  | (k, B) :: q, h, b, hb => by
    simp only [apartH] at h
    split at h
    · cases h
    · rename_i h1
      split at h
      · cases h
      · rename_i h2
        rcases List.mem_cons.1 hb with e | hb
        · subst e
          obtain ⟨e1, e2⟩ := mentB_spec h2
          simp only [sgBox, sgOf, boxes_av, h1, e1, e2, Bool.or_self]
        · exact apartH_spec h b hb
theorem apartO_spec {g' : SgK} {run : Bool} : ∀ {no : List (Nat × KRow)}, apartO g' no = true → ∀ b ∈ keys (mapO no), sgRow b (sgOf g' run) = false
  | [], _, b, hb => by cases hb
  | (k, B) :: q, h, b, hb => by
    simp only [apartO] at h
    split at h
    · cases h
    · rename_i h1
      split at h
      · cases h
      · rename_i h2
        split at h
        · cases h
        · rename_i h3
          rcases List.mem_cons.1 hb with e | hb
          · subst e
            simp only [sgRow, sgOf, hasRow_av, h1, mentRO_spec h3, mentRB_spec h2, Bool.or_self]
          · exact apartO_spec h b hb
theorem apartG_spec {g g' : SgK} {x y : Bool} (h : apartG g g' = true) : Apt (sgOf g x) (sgOf g' y) := by
  unfold apartG at h
  split at h
  · rename_i h1; exact ⟨apartH_spec h1, apartO_spec h⟩
  · cases h
theorem okNew_spec {ops : List Oper} {i : Nat} {g : SgK} : ∀ {Rs : List (Nat × SgK)}, okNew ops i g Rs = true → ∀ p ∈ Rs, apartG g p.2 = true ∧ (apartG p.2 g = true ∨ ((depsK ops []).getD i 0).testBit p.1 = true)
  | [], _, p, hp => by cases hp
  | (j, g') :: q, h, p, hp => by
    simp only [okNew] at h
    split at h
    · rename_i h1
      split at h
      · rename_i h2
        rcases List.mem_cons.1 hp with e | hp
        · subst e; exact ⟨h1, .inl h2⟩
        · exact okNew_spec h p hp
      · split at h
        · rename_i h3
          rcases List.mem_cons.1 hp with e | hp
          · subst e; exact ⟨h1, .inr h3⟩
          · exact okNew_spec h p hp
        · cases h
    · cases h
theorem tmpsK_mem {t : Nat} : ∀ {l : List Operand}, t ∈ tmpsK l → t ∈ l.filterMap tmpOf
  | [], h => by cases h
  | .tmp u :: q, h => by
    simp only [tmpsK, List.mem_cons] at h
    simp only [List.filterMap_cons, tmpOf, List.mem_cons]
    exact h.imp id tmpsK_mem
  | .const v :: q, h => by simp only [List.filterMap_cons, tmpOf]; exact tmpsK_mem h
  | .func v :: q, h => by simp only [List.filterMap_cons, tmpOf]; exact tmpsK_mem h
  | .global v :: q, h => by simp only [List.filterMap_cons, tmpOf]; exact tmpsK_mem h
theorem namesK_mem {ops : Array Oper} {o : Oper} {t : Nat} (h : t ∈ namesK ops.toList o) : t ∈ names ops o := by
  unfold namesK at h
  unfold names gdst
  split at h
  · rename_i j w hg
    rw [hg]
    split at h
    · rename_i o' ho
      rw [nth_eq, Array.getElem?_toList] at ho
      split at h
      · rename_i u hu
        rcases List.mem_cons.1 h with e | h
        · subst e
          simp [dstAt, ho, hu]
        · exact List.mem_append_left _ (tmpsK_mem h)
      · exact List.mem_append_left _ (tmpsK_mem h)
    · exact List.mem_append_left _ (tmpsK_mem h)
  · exact List.mem_append_left _ (tmpsK_mem h)
theorem restrK_look {T : List (Nat × KV)} {t : Nat} {c : KV} : ∀ {l : List Nat}, lk (restrK T l) t = some c → t ∈ l ∧ lk T t = some c
  | [], h => by cases h
  | u :: q, h => by
    simp only [restrK] at h
    split at h
    · rename_i v hv
      rw [lk_cons] at h
      by_cases e : u = t
      · subst e; rw [if_pos rfl] at h; cases h; exact ⟨by simp, hv⟩
      · rw [if_neg e] at h
        obtain ⟨h1, h2⟩ := restrK_look h
        exact ⟨List.mem_cons_of_mem _ h1, h2⟩
    · obtain ⟨h1, h2⟩ := restrK_look h
      exact ⟨List.mem_cons_of_mem _ h1, h2⟩
theorem Free_sub {o : Oper} {S S' : St} {res : AV} {nh : List (Nat × Blk)} {no : List (Nat × Row)} (h : Free P o S' res nh no) (hs : Sub S S') : Free P o S res nh no :=
  fun r base M yl a w hr K Q hK => h r base M yl a w (hr.sub hs) K Q hK
/-- A segment as far as it has been evaluated. -/
structure SegInv (P : Program) (ops : Array Oper) (B : List Nat) (m : Nat) (L : List Sg) (S0 S : KSt) (Rs : List (Nat × SgK)) : Prop where
  leq : Leq (segS ops (fun _ => true) m L S0.st) S.st
  obl : ∀ (p : Nat) (g : Sg), L[p]? = some g → Obl P ops B m L S0.st (m + p) g
  dis : Aw.dis (keys S0.st.H) (keys S0.st.O) L = true
  fresh : ∀ (p : Nat) (g : Sg), L[p]? = some g → freshB S0.st g.nh g.no = true
  apt : ∀ (p : Nat) (g : Sg) (q : Nat) (g' : Sg), L[p]? = some g → L[q]? = some g' → p = q ∨ (B.getD (m + q) 0).testBit (m + p) = true ∨ Apt g g'
  rs : ∀ (p : Nat) (g : Sg), L[p]? = some g → ∃ gk run, (m + p, gk) ∈ Rs ∧ g = sgOf gk run
theorem segInv_nil (ops : Array Oper) (B : List Nat) (m : Nat) (S : KSt) : SegInv P ops B m [] S S [] :=
  ⟨Leq.refl _, fun p g h => by simp at h, rfl, fun p g h => by simp at h, fun p g q g' h => by simp at h, fun p g h => by simp at h⟩
theorem SegInv.leq' {ops : Array Oper} {B : List Nat} {m : Nat} {L : List Sg} {S0 S S' : KSt} {Rs : List (Nat × SgK)} (h : SegInv P ops B m L S0 S Rs) (k : Leq S.st S'.st) : SegInv P ops B m L S0 S' Rs := { h with leq := h.leq.trans k }
theorem getElem?_snoc {α : Type u} {l : List α} {a x : α} {p : Nat} (h : (l ++ [a])[p]? = some x) : l[p]? = some x ∨ (p = l.length ∧ x = a) := by
  by_cases hp : p < l.length
  · rw [List.getElem?_append_left hp] at h; exact .inl h
  · rw [List.getElem?_append_right (by omega)] at h
    have : p - l.length = 0 := by
      cases hh : p - l.length with
      | zero => rfl
      | succ n => rw [hh] at h; simp at h
    rw [this] at h
    simp only [List.getElem?_cons_zero, Option.some.injEq] at h
    exact .inr ⟨by omega, h.symm⟩
theorem preS_snoc {ops : Array Oper} {B : List Nat} (hB : depOk ops B = true) {m i : Nat} {L : List Sg} {g : Sg} {S : St} {o : Oper} (hi : i < ops.size) (h : i ≤ m + L.length) : preS ops B m (L ++ [g]) S i o = preS ops B m L S i o := by
  unfold preS
  rw [segS_snoc]
  have : (B.getD i 0).testBit (m + L.length) = false := by
    cases hh : (B.getD i 0).testBit (m + L.length) with
    | false => rfl
    | true => have := (depOk_sound hB i hi _ hh).lt hB; omega
  rw [this]; rfl
/-- One operation more. -/
theorem SegInv.snoc {ops : Array Oper} (hB : depOk ops (depsK ops.toList []) = true) {m : Nat} {L : List Sg} {S0 S : KSt} {Rs : List (Nat × SgK)} (h : SegInv P ops (depsK ops.toList []) m L S0 S Rs) {o : Oper} (ho : ops[m + L.length]? = some o) {gk : SgK} {run : Bool}
    (hg : guardB ops S.st.T o = some run) (hd : dstK S o.dst = true) (hf1 : freshKH S gk.nh = true) (hf2 : freshKO S gk.no = true) (hf3 : freshKH S0 gk.nh = true) (hf4 : freshKO S0 gk.no = true) (hok : okNew ops.toList (m + L.length) gk Rs = true)
    (hrun : run = true → Free P o (KSt.st ⟨S.n, restrK S.T (namesK ops.toList o), S0.H, S0.O, S.low⟩) gk.res.av (mapH gk.nh) (mapO gk.no)) (hskip : run = false → gk = ⟨.tup [], [], []⟩)
    {cnt : Nat} (hcnt : L.length < cnt) (hap : apartB ops (depsK ops.toList []) m cnt = true) :
    SegInv P ops (depsK ops.toList []) m (L ++ [sgOf gk run]) S0 (S.add o.dst gk.res gk.nh gk.no) ((m + L.length, gk) :: Rs) := by
  have hi : m + L.length < ops.size := (Array.getElem?_eq_some_iff.1 ho).1
  have hdst : dstAt ops (m + L.length) = o.dst := by simp [dstAt, ho]
  have hn : S.n = S0.n := by have := h.leq.n; rw [segS_n] at this; exact this
  have oblOld : ∀ (p : Nat) (g : Sg), L[p]? = some g → Obl P ops (depsK ops.toList []) m (L ++ [sgOf gk run]) S0.st (m + p) g := fun p g hp => by
    obtain ⟨o', h1, h2, h3, h4, h5⟩ := h.obl p g hp
    have hpl := (List.getElem?_eq_some_iff.1 hp).1
    have hpi := (Array.getElem?_eq_some_iff.1 h1).1
    refine ⟨o', h1, ?_, h3, ?_, h5⟩
    · rw [preS_snoc hB hpi (by omega)]; exact h2
    · rw [preS_snoc hB hpi (by omega)]; exact h4
  have hnotH : ∀ b ∈ keys (mapH gk.nh), b ∉ keys S0.st.H ∧ ∀ g' ∈ L, b ∉ keys g'.nh := fun b hb => by
    have h1 := freshH_not hf1 b hb
    have h2 : b ∉ keys (segS ops (fun _ => true) m L S0.st).H := fun hh => by
      obtain ⟨v, hv⟩ := key_look hh
      rw [← h.leq.H b] at hv
      exact h1 (look_key hv)
    rw [segS_keysH] at h2
    exact ⟨fun hh => h2 (.inl hh), fun g' hg' hh => h2 (.inr ⟨g', hg', hh⟩)⟩
  have hnotO : ∀ b ∈ keys (mapO gk.no), b ∉ keys S0.st.O ∧ ∀ g' ∈ L, b ∉ keys g'.no := fun b hb => by
    have h1 := freshO_not hf2 b hb
    have h2 : b ∉ keys (segS ops (fun _ => true) m L S0.st).O := fun hh => by
      obtain ⟨v, hv⟩ := key_look hh
      rw [← h.leq.O b] at hv
      exact h1 (look_key hv)
    rw [segS_keysO] at h2
    exact ⟨fun hh => h2 (.inl hh), fun g' hg' hh => h2 (.inr ⟨g', hg', hh⟩)⟩
  -- what the operation looks at is what it waits for
  have hlook : ∀ t, t ∈ names ops o → look (segS ops (fun j => ((depsK ops.toList []).getD (m + L.length) 0).testBit j) m L S0.st).T t = look S.st.T t := fun t ht => by
    rw [h.leq.T t]
    refine segS_look L m _ _ rfl (fun j g hj hdj => ?_)
    have hjl := (List.getElem?_eq_some_iff.1 hj).1
    simp only [apartB, List.all_eq_true, List.mem_range] at hap
    have := hap L.length hcnt j (by omega)
    simp only [Bool.or_eq_true, beq_iff_eq] at this
    rcases this with ((h1 | h1) | h1) | h1
    · omega
    · rw [ho, hdj] at h1
      simp only [Bool.not_eq_true', Bool.or_eq_false_iff] at h1
      rw [memN_iff.2 ht] at h1; cases h1.1
    · exact h1
    · have := (depOk_sound hB (m + j) (by omega) _ h1).lt hB; omega
  have hpre : ∀ t, look (preS ops (depsK ops.toList []) m L S0.st (m + L.length) o).T t = if memN t (names ops o) then look S.st.T t else none := fun t => by
    unfold preS restr
    simp only
    rw [look_filter (f := fun k => memN k (names ops o))]
    cases hm : memN t (names ops o) with
    | false => rfl
    | true => simp only [if_true]; exact hlook t (memN_iff.1 hm)
  have oblNew : Obl P ops (depsK ops.toList []) m (L ++ [sgOf gk run]) S0.st (m + L.length) (sgOf gk run) := by
    refine ⟨o, ho, ?_, ?_, fun hr => ?_, fun hr => ?_⟩
    · rw [preS_snoc hB hi (Nat.le_refl _), show (sgOf gk run).run = run from rfl, ← hg]
      unfold guardB
      cases hgd : o.guard with
      | none => rfl
      | some q =>
        obtain ⟨j, want⟩ := q
        simp only
        cases hb : (ops[j]?).bind (·.dst) with
        | none => rfl
        | some t =>
          simp only
          have ht : memN t (names ops o) = true := by
            rw [memN_iff]
            refine List.mem_append_right _ ?_
            simp only [gdst, hgd, dstAt]
            rw [hb]; simp
          rw [hpre t, if_pos ht]
    · cases hdd : o.dst with
      | none => rfl
      | some t =>
        rw [hdd] at hd
        have : Nat.blt t S.n = true := hd
        rw [hn] at this
        exact this
    · rw [preS_snoc hB hi (Nat.le_refl _)]
      refine Free_sub (hrun hr) ⟨?_, fun t c ht => ?_, fun b B' hb => ?_, fun b B' hb => ?_⟩
      · show S.n = _
        rw [hn]
        unfold preS restr
        simp only [segS_n]; rfl
      · rw [st_look] at ht
        cases hh : lk (restrK S.T (namesK ops.toList o)) t with
        | none => simp only [hh] at ht; cases ht
        | some v =>
          simp only [hh, Option.map_some, Option.some.injEq] at ht
          obtain ⟨h1, h2⟩ := restrK_look hh
          rw [hpre t, if_pos (memN_iff.2 (namesK_mem h1)), st_look, h2, ← ht]; rfl
      · have := (segS_lookH (ops := ops) (X := fun _ => false) (Y := fun j => ((depsK ops.toList []).getD (m + L.length) 0).testBit j) L m S0.st S0.st _ _ (fun _ _ x => x) (fun _ _ x => x) (fun _ x => x) (fun _ x => x) h.dis (fun _ x => by cases x)).1 b B'
        have e0 : segS ops (fun _ => false) m L S0.st = S0.st := by
          have : ∀ (l : List Sg) (i : Nat) (S : St), segS ops (fun _ => false) i l S = S := by
            intro l
            induction l with
            | nil => intro i S; rfl
            | cons g q ih => intro i S; simp only [segS, Bool.false_eq_true, if_false]; exact ih _ _
          exact this _ _ _
        rw [e0] at this
        exact this hb
      · have := (segS_lookH (ops := ops) (X := fun _ => false) (Y := fun j => ((depsK ops.toList []).getD (m + L.length) 0).testBit j) L m S0.st S0.st _ _ (fun _ _ x => x) (fun _ _ x => x) (fun _ x => x) (fun _ x => x) h.dis (fun _ x => by cases x)).2 b B'
        have e0 : segS ops (fun _ => false) m L S0.st = S0.st := by
          have : ∀ (l : List Sg) (i : Nat) (S : St), segS ops (fun _ => false) i l S = S := by
            intro l
            induction l with
            | nil => intro i S; rfl
            | cons g q ih => intro i S; simp only [segS, Bool.false_eq_true, if_false]; exact ih _ _
          exact this _ _ _
        rw [e0] at this
        exact this hb
    · rw [hskip hr]; exact ⟨rfl, rfl, rfl⟩
  have apt2 : ∀ (p : Nat) (g : Sg), L[p]? = some g → Apt (sgOf gk run) g ∧ (((depsK ops.toList []).getD (m + L.length) 0).testBit (m + p) = true ∨ Apt g (sgOf gk run)) := fun p g hp => by
    obtain ⟨g2, run2, h1, rfl⟩ := h.rs p g hp
    obtain ⟨h2, h3⟩ := okNew_spec hok _ h1
    exact ⟨apartG_spec h2, h3.elim (fun x => .inr (apartG_spec x)) .inl⟩
  refine ⟨?_, fun p g hp => ?_, ?_, fun p g hp => ?_, fun p g q g' hp hq => ?_, fun p g hp => ?_⟩
  · rw [segS_snoc, if_pos rfl, hdst, KSt.add_st]
    exact h.leq.add _ _ _ _
  · rcases getElem?_snoc hp with hp | ⟨rfl, rfl⟩
    · exact oblOld p g hp
    · exact oblNew
  · exact dis_snoc h.dis hnotH hnotO
  · rcases getElem?_snoc hp with hp | ⟨rfl, rfl⟩
    · exact h.fresh p g hp
    · exact freshKB_spec hf3 hf4
  · rcases getElem?_snoc hp with hp | ⟨rfl, rfl⟩ <;> rcases getElem?_snoc hq with hq | ⟨rfl, rfl⟩
    · exact h.apt p g q g' hp hq
    · exact (apt2 p g hp).2.elim (fun x => .inr (.inl x)) (fun x => .inr (.inr x))
    · exact .inr (.inr (apt2 q g' hq).1)
    · exact .inl rfl
  · rcases getElem?_snoc hp with hp | ⟨rfl, rfl⟩
    · obtain ⟨g2, run2, h1, h2⟩ := h.rs p g hp
      exact ⟨g2, run2, List.mem_cons_of_mem _ h1, h2⟩
    · exact ⟨gk, run, by simp, rfl⟩
theorem AWN_leq {ops : Array Oper} {m : Nat} {S S' : St} {s : E.σ} {Q : Exit → St → E.σ → Prop} (hl : Leq S S') (h : AWN E base r ops m S' s Q) : AWN E base r ops m S s Q := fun M a w hc fuel listed hf hp =>
  wpAnyIn_mono' (fun e a' w' k => k.later (hl.ext M w)) _ _ _ _ (h M a w (hc.leq hl) fuel listed hf hp)
theorem SegInv.done {ops : Array Oper} {B : List Nat} (hB : depOk ops B = true) {m : Nat} {L : List Sg} {S0 S : KSt} {Rs : List (Nat × SgK)} (h : SegInv P ops B m L S0 S Rs) (hap : apartB ops B m L.length = true) (hla : laterB ops B m L.length = true) (hsz : Nat.ble (m + L.length) ops.size = true)
    {s : E.σ} {Q : Exit → St → E.σ → Prop} (k : AWN E base r ops (m + L.length) S.st s Q) : AWN E base r ops m S0.st s Q := by
  refine AWN_seg B L hB hsz hap hla h.dis ?_ ?_ ?_
  · simp only [freshL, List.all_eq_true, List.mem_range]
    intro i hi
    obtain ⟨g, hg⟩ : ∃ g, L[i]? = some g := ⟨L[i], by simp [hi]⟩
    rw [hg]
    simp only [Bool.and_eq_true, List.all_eq_true, List.mem_range, Bool.or_eq_true, beq_iff_eq]
    refine ⟨h.fresh i g hg, fun j hj => ?_⟩
    obtain ⟨g', hg'⟩ : ∃ g, L[j]? = some g := ⟨L[j], by simp [hj]⟩
    rw [hg']
    rcases h.apt i g j g' hg hg' with e | e | e
    · exact .inl (.inl e)
    · exact .inl (.inr e)
    · refine .inr ?_
      simp only [Bool.and_eq_true, List.all_eq_true, Bool.not_eq_true']
      exact e
  · have : ∀ (l : List Sg) (p : Nat), (∀ (q : Nat) (g : Sg), l[q]? = some g → Obl P ops B m L S0.st (m + p + q) g) → Obls P ops B m L S0.st (m + p) l := by
      intro l
      induction l with
      | nil => intro p _; trivial
      | cons g q ih =>
        intro p hh
        refine ⟨by simpa using hh 0 g rfl, ?_⟩
        have := ih (p + 1) (fun q' g' hq => by have := hh (q' + 1) g' (by simpa using hq); rwa [show m + p + (q' + 1) = m + (p + 1) + q' from by omega] at this)
        rwa [show m + (p + 1) = m + p + 1 from by omega] at this
    simpa using this L 0 (fun q g hq => by simpa using h.obl q g hq)
  · exact AWN_leq h.leq k
theorem segsOk_end {ops : Array Oper} {B : List Nat} : ∀ {rest : List Oper} {m c : Nat}, segsOk ops B rest m c = true → ∃ cnt, c ≤ cnt ∧ apartB ops B m cnt = true
  | [], m, c, h => by simp only [segsOk, Bool.and_eq_true] at h; exact ⟨c, Nat.le_refl _, h.1.1⟩
  | o :: q, m, c, h => by
    simp only [segsOk] at h
    split at h
    · simp only [Bool.and_eq_true] at h; exact ⟨c, Nat.le_refl _, h.1.1.1.1.1⟩
    · obtain ⟨cnt, h1, h2⟩ := segsOk_end h; exact ⟨cnt, by omega, h2⟩
theorem isBarS_val {ops : List Oper} {o : Oper} (h : isBarS ops o = true) : ¬ isVal o := by
  rintro (⟨f, args, ts, hop⟩ | ⟨x, b, hop⟩)
  · simp only [isBarS, hop, isApp, isCopy] at h
    cases h
  · simp only [isBarS, hop, isApp, isCopy] at h
    cases h
theorem drawK_spec {ops : Array Oper} {pz : List Nat} {Q : Exit → St → E.σ → Prop} {K : KSt → E.σ → Prop} (hT : ∀ t i, tb t = some i → TIOk P t i) (hB : depOk ops (depsK ops.toList []) = true) (hQ : ∀ S s, K S s → Q .normal S.st s) :
    ∀ (rest : List Oper) (i m : Nat) (L : List Sg) (S0 S : KSt) (Rs : List (Nat × SgK)) (s : E.σ), (∀ (j : Nat) (o : Oper), rest[j]? = some o → ops[i + j]? = some o) → i + rest.length = ops.size → i = m + L.length → segsOk ops (depsK ops.toList []) rest m L.length = true →
    SegInv P ops (depsK ops.toList []) m L S0 S Rs → drawK (primK P E base r post) tb pz ops.toList rest i S0 Rs S s K → AWN E base r ops m S0.st s Q
  | [], i, m, L, S0, S, Rs, s, _, hsz, him, hok, hinv, h => by
    simp only [segsOk, Bool.and_eq_true] at hok
    refine hinv.done hB hok.1.1 hok.1.2 hok.2 (AWN_done ?_ (hQ _ _ h))
    simp only [List.length_nil] at hsz; omega
  | o :: rest, i, m, L, S0, S, Rs, s, hl, hsz, him, hok, hinv, h => by
    have ho : ops[i]? = some o := by simpa using hl 0 o rfl
    have hrest : ∀ (j : Nat) (o : Oper), rest[j]? = some o → ops[i + 1 + j]? = some o := fun j o h => by
      have := hl (j + 1) o (by simpa using h)
      rwa [show i + (j + 1) = i + 1 + j from by omega] at this
    have hsz' : i + 1 + rest.length = ops.size := by rw [List.length_cons] at hsz; omega
    unfold drawK at h
    simp only [segsOk] at hok
    split at h
    · rename_i hb
      rw [hb] at hok
      simp only [Bool.and_eq_true] at hok
      obtain ⟨⟨⟨⟨⟨o1, o2⟩, o3⟩, o4⟩, o5⟩, o6⟩ := hok
      obtain ⟨S', hleq, h⟩ := wantK_spec h
      have hinv := hinv.leq' hleq
      have o5' := Nat.le_of_ble_eq_true o5
      refine hinv.done hB o1 o2 (by rw [Nat.ble_eq]; omega) ?_
      rw [← him] at o3 o4 o6 ⊢
      rcases h with ⟨hg, h⟩ | ⟨hg, h⟩
      · replace h := kif_spec h; obtain ⟨_, h⟩ := h
        obtain ⟨S2, s2, hbar, h⟩ := barK_bar hT (isBarS_val hb) h
        refine AWN_bar _ hB o4 ho hg hbar ?_
        exact drawK_spec hT hB hQ rest (i + 1) (i + 1) [] S2 S2 [] s2 hrest hsz' rfl o6 (segInv_nil _ _ _ _) h
      · replace h := kif_spec h; obtain ⟨hd, h⟩ := h
        have one := SegInv.snoc (P := P) hB (segInv_nil ops (depsK ops.toList []) i S') (o := o) (by simpa using ho) (gk := ⟨.tup [], [], []⟩) (run := false) hg hd rfl rfl rfl rfl rfl (fun h => by cases h) (fun _ => rfl) (cnt := 1) (by simp) o3
        refine one.done hB o3 o4 (by rw [Nat.ble_eq]; simp only [List.nil_append, List.length_cons, List.length_nil]; omega) ?_
        exact drawK_spec hT hB hQ rest (i + 1) (i + 1) [] _ _ [] s hrest hsz' rfl o6 (segInv_nil _ _ _ _) h
    · rename_i hb
      rw [hb] at hok
      simp only at hok
      obtain ⟨S', hleq, h⟩ := wantK_spec h
      have hinv := hinv.leq' hleq
      obtain ⟨cnt, hc1, hc2⟩ := segsOk_end hok
      have step : ∀ (gk : SgK) (run : Bool), guardB ops S'.st.T o = some run → dstK S' o.dst = true → freshKH S' gk.nh = true → freshKO S' gk.no = true → freshKH S0 gk.nh = true → freshKO S0 gk.no = true → okNew ops.toList i gk Rs = true →
          (run = true → Free P o (KSt.st ⟨S'.n, restrK S'.T (namesK ops.toList o), S0.H, S0.O, S'.low⟩) gk.res.av (mapH gk.nh) (mapO gk.no)) → (run = false → gk = ⟨.tup [], [], []⟩) →
          drawK (primK P E base r post) tb pz ops.toList rest (i + 1) S0 ((i, gk) :: Rs) (S'.add o.dst gk.res gk.nh gk.no) s K → AWN E base r ops m S0.st s Q := fun gk run hg hd f1 f2 f3 f4 f5 hr hs h => by
        subst him
        have one := SegInv.snoc hB hinv ho hg hd f1 f2 f3 f4 f5 hr hs (cnt := cnt) (by omega) hc2
        exact drawK_spec hT hB hQ rest (m + L.length + 1) m (L ++ [sgOf gk run]) S0 _ _ s hrest hsz' (by simp; omega) (by simpa using hok) one h
      rcases h with ⟨hg, h⟩ | ⟨hg, h⟩
      · obtain ⟨res, nh, no, hf, h⟩ := freeK_spec hT h
        replace h := kif_spec h; obtain ⟨h1, h⟩ := h
        simp only [Bool.and_eq_true] at h1
        obtain ⟨⟨⟨⟨⟨f1, f2⟩, f3⟩, f4⟩, f5⟩, f6⟩ := h1
        exact step ⟨res, nh, no⟩ true hg f5 f1 f2 f3 f4 f6 (fun _ => hf) (fun h => by cases h) h
      · replace h := kif_spec h; obtain ⟨h1, h⟩ := h
        simp only [Bool.and_eq_true] at h1
        exact step ⟨.tup [], [], []⟩ false hg h1.1 rfl rfl rfl rfl h1.2 (fun h => by cases h) (fun _ => rfl) h
end Go.Proofs.Ytelnoeamkdpjhaa.Aw
