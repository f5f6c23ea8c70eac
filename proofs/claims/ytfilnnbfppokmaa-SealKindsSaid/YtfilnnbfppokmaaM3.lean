/- Part 3 of the proof: lemmas. -/
import Derived.Test.YtfilnnbfppokmaaM2
set_option linter.unusedVariables false
set_option linter.unusedSimpArgs false
set_option linter.unusedSectionVars false

namespace Go.Proofs.Ytfilnnbfppokmaa.Aw
open Go Go.RowKit
universe u
inductive Un where
 | bool
 | str
 | int (k : IntKind)
 | other
 | flat (n : Nat)
structure TI : Type 1 where
 sz : Nat
 ag : Bool
 el : Option (Nat × Nat)
 ar : Option (Nat × Nat × Nat)
 z : Option (List KV)
 pl : Option Pl
 bytes : Nat
 un : Un
 fl : List (Nat × Nat × Nat)
 eqn : Option Nat
 mp : Option (Nat × Nat)
 zv : Option KV
inductive Tree : Type 1 where
 | leaf
 | node (l : Tree) (k : Nat) (v : TI) (r : Tree)
def Tree.look : Tree -> Nat -> Option TI
 | .leaf, _ => none
 | .node l k v r, n => match Nat.beq k n with
  | true => some v
  | false => match Nat.blt n k with
   | true => l.look n
   | false => r.look n
def kun (i : TI) : Un := match i.eqn with
 | some n => .flat n
 | none => match i.un with
  | .flat _ => .other
  | u => u
structure TIOk (P : Program) (t : Nat) (i : TI) : Prop where
 sz : szT P t = some i.sz
 ag : isAggT P t = some i.ag
 el : ∀ r, i.el = some r -> eltT P t = some r
 ar : ∀ r, i.ar = some r -> arrT P t = some r
 z : ∀ z, i.z = some z -> zeroC P t = some (KV.avL z)
 pl : ∀ r, i.pl = some r -> plT P t = some r
 bytes : (P.info? t).map (fun x : TypeInfo => x.bytes) = some i.bytes
 bool : i.un = .bool -> P.underlying t = some .bool
 str : i.un = .str -> P.underlying t = some .string
 int : ∀ k, i.un = .int k -> P.underlying t = some (.int k)
 fl : ∀ f r, nth i.fl f = some r -> fldT P t f = some r
 eqn : ∀ n, i.eqn = some n -> flatN P 8 t = some n /\ isAggT P t = some true /\ P.eqGuardType P.depth t = false
 mp : ∀ r, i.mp = some r -> mapT' P t = some r
 zv : ∀ z, i.zv = some z -> zeroV P t = some z.toD
def TabOk (P : Program) : Tree -> Prop
 | .leaf => True
 | .node l k v r => TIOk P k v /\ TabOk P l /\ TabOk P r
theorem TabOk.look {P : Program} : ∀ {tb : Tree}, TabOk P tb -> ∀ {t : Nat} {i : TI}, tb.look t = some i -> TIOk P t i
 | .leaf, _, t, i, h => by simp [Tree.look] at h
 | .node l k v r, hok, t, i, h => by
  unfold Tree.look at h
  split at h
  ·rename_i e
   cases h
   exact Nat.eq_of_beq_eq_true e ▸ hok.1
  ·split at h
   ·exact TabOk.look hok.2.1 h
   ·exact TabOk.look hok.2.2 h
structure Prim (σ : Type) : Type 2 where
 iop : BinOp -> IntKind -> Int -> Int -> Int
 icmp : BinOp -> Int -> Int -> Bool
 oknz : BinOp -> Int -> Prop
 neg : IntKind -> Int -> Int
 conv : IntKind -> Int -> Int
 not : Bool -> Bool
 beq : Bool -> Bool -> Bool
 max : Int -> Int -> Int
 min : Int -> Int -> Int
 tst : Bool -> Prop -> Prop -> Prop
 conj : Prop -> Prop -> Prop
 inb : Int -> Int -> Prop
 plen : List KP -> Int
 get : (α : Type) -> α -> List α -> Int -> α
 sub : (α : Type) -> List α -> Int -> Int -> List α
 le : Int -> Int -> Prop
 strlen : ByteArray -> Int
 strat : ByteArray -> Int -> Int
 strc : ByteArray -> Int -> Int
 strn : ByteArray -> Int -> Int
 streq : ByteArray -> ByteArray -> Bool
 strcat : ByteArray -> ByteArray -> ByteArray
 strb : ByteArray -> List Int
 strl : List Int -> ByteArray
 fits : List KP -> Nat -> Prop
 mkok : Int -> Nat -> Prop
 reps : Int -> List KV -> List KP
 C : Nat -> List KV -> (KV -> List KRow -> Prop) -> Prop
 CD : Nat -> List KV -> List D -> (KV -> List KRow -> Prop) -> Prop
 noagg : List D -> Prop
 W : Code -> KSt -> σ -> (Exit -> KSt -> σ -> Prop) -> Prop
 Y : σ -> List KV -> (Bool -> σ -> Prop) -> Prop
 post : KV -> List KRow -> Prop
 eqs : List (IntKind × Int) -> List (IntKind × Int) -> Bool
 setl : List KP -> Nat -> Int -> Nat -> List KV -> (List KP -> Prop) -> Prop
 norm : List KP -> Nat -> (List KP -> Prop) -> Prop
 mget : Un -> List KP -> KV -> KV -> (KV -> Bool -> Prop) -> Prop
 mset : Un -> List KP -> KV -> KV -> (List KP -> Prop) -> Prop
 mdel : Un -> List KP -> KV -> (List KP -> Prop) -> Prop
 nums : List KRow -> Prop
 mnext : (α : Type) -> List α -> (α -> List α -> Prop) -> Prop -> Prop
 rnone : Prop
 CW : Nat -> List KV -> List KBlk -> List KRow -> (KV -> List KBlk -> List KRow -> Prop) -> Prop
 CN : Nat -> List KV -> (KRow -> Prop) -> Prop
def constK : Value -> Option KV
 | .int k n => some (.lit k n)
 | .bool b => some (match b with | true => .tt | false => .ff)
 | .string s => some (.str s)
 | .nilFunc => some .nilfn
 | .slice none 0 0 => some .nilsl
 | .map none => some .nilmap
 | .pointer none => some .nilptr
 | _ => none
def kop (T : List (Nat × KV)) : Operand -> Option KV
 | .tmp t => lk T t
 | .const v => constK v
 | .func f => some (.fn f [])
 | .global _ => none
def numK : KV -> Option (Bool × IntKind × Int)
 | .int k n => some (false, k, n)
 | .lit k n => some (true, k, n)
 | _ => none
def boolK : KV -> Option Bool
 | .bool b => some b
 | .tt => some true
 | .ff => some false
 | _ => none
def sameK (k k' : IntKind) : Bool := match k, k' with
 | .i8, .i8 | .i16, .i16 | .i32, .i32 | .i64, .i64 | .u8, .u8 | .u16, .u16 | .u32, .u32 | .u64, .u64 => true
 | _, _ => false
def intsK : List KV -> Option (List (IntKind × Int))
 | [] => some []
 | c :: r => match numK c with
  | some (_, k, n) => match intsK r with
   | some l => some ((k, n) :: l)
   | none => none
  | none => none
def kindsK : List (IntKind × Int) -> List (IntKind × Int) -> Bool
 | [], [] => true
 | (k, _) :: r, (k', _) :: s => match sameK k k' with
  | true => kindsK r s
  | false => false
 | _, _ => false
def okDat : KV -> Bool
 | .agg cs => allD cs
 | c => c.isD
def mapPs (S : KSt) : KV -> Option (List KP)
 | .osl id => match lk S.O id with
  | some R => match Nat.beq R.sz 0 && R.nn with
   | true => some R.ps
   | false => none
  | none => none
 | .mp α d l f => some [.mp α d l f]
 | .d (.map rows) => some [.raw rows]
 | .nilmap => some []
 | _ => none
section
variable {σ : Type} (I : Prim σ) (tb : Nat -> Option TI)
def getK (i : TI) (sz : Nat) (ix : Int) (j : Nat) (α : Type) (d : α) (l : List α) (f : α -> Nat -> KV) (K : KV -> Prop) : Prop :=
 I.conj (I.inb ix (I.plen [.ls α d l f])) (match i.ag with
   | false => kif (Nat.blt j sz) (kif (f (I.get α d l ix) j).isD (K (f (I.get α d l ix) j)))
   | true => kif (Nat.ble (j + i.sz) sz) (kif (allD (rowK sz 0 (f (I.get α d l ix)))) (K (.agg (takeK i.sz (dropK j (rowK sz 0 (f (I.get α d l ix)))))))))
def loadK (t : Nat) (S : KSt) (c : KV) (K : KV -> Prop) : Prop :=
 kk (tb t) fun i => match c with
 | .ptr cs => match i.ag with
  | false => match cs with
   | x :: _ => kif x.isD (K x)
   | [] => False
  | true => kif (Nat.ble i.sz (lenK cs)) (kif (allD cs) (K (.agg (takeK i.sz cs))))
 | .loc b off => kk (lk S.H b) fun B => match i.ag with
  | false => kk (nth B.cells off) K
  | true => kif (Nat.ble (off + i.sz) (lenK B.cells)) (K (.agg (takeK i.sz (dropK off B.cells))))
 | .oloc id sz ix j => kk (lk S.O id) fun R => kif (Nat.beq R.sz sz) (match R.ps with
  | [.ls α d l f] => getK I i sz ix j α d l f K
  | ps => I.norm ps sz fun ps' => match ps' with
   | [.ls α d l f] => getK I i sz ix j α d l f K
   | _ => False)
 | _ => False
def fldK (s f : Nat) (c : KV) (K : KV -> Prop) : Prop :=
 kk (tb s) fun i => kk (nth i.fl f) fun r => kif (Nat.blt 0 r.2.1) (match c with
  | .ptr cs => K (.ptr (dropK r.1 cs))
  | .loc b o => K (.loc b (o + r.1))
  | .oloc id sz ix j => K (.oloc id sz ix (j + r.1))
  | _ => False)
def litN : KV -> Option Nat
 | .lit _ (.ofNat n) => some n
 | _ => none
def casesN (ix : Int) : Nat -> Nat -> (Nat -> Prop) -> Prop
 | 0, _, _ => False
 | n + 1, k, K => match n with
  | 0 => K k
  | _ => I.tst (I.icmp .eql ix (Int.ofNat k)) (K k) (casesN ix n (k + 1) K)
def idxK (t : Nat) (S : KSt) (c ix : KV) (K : KV -> Prop) : Prop :=
 kk (tb t) fun i => match c with
 | .sl _ sz α d l f => kk i.el fun r => kif (Nat.beq r.2 sz) (kk (numK ix) fun n => I.conj (I.inb n.2.2 (I.plen [.ls α d l f])) (K (.ptr (rowK sz 0 (f (I.get α d l n.2.2))))))
 | .slr _ sz rows => kk i.el fun r => kif (Nat.beq r.2 sz) (kk (litN ix) fun n => kk (nth rows n) fun row => K (.ptr row))
 | .osl id => kk i.el fun r => kk (lk S.O id) fun R => kif (Nat.beq r.2 R.sz) (kif (Nat.blt 0 R.sz) <| kk (numK ix) fun n => I.conj (I.inb n.2.2 (I.plen R.ps)) (K (.oloc id R.sz n.2.2 0)))
 | .loc b off => kk i.ar fun r => match litN ix with
  | some n => kif (Nat.blt n r.1) (K (.loc b (off + n * r.2.2)))
  | none => kk (numK ix) fun n => I.conj (I.inb n.2.2 (Int.ofNat r.1)) (casesN I n.2.2 r.1 0 fun m => K (.loc b (off + m * r.2.2)))
 | .ptr cs => kk i.ar fun r => match litN ix with
  | some n => kif (Nat.blt n r.1) (K (.ptr (dropK (n * r.2.2) cs)))
  | none => kk (numK ix) fun n => I.conj (I.inb n.2.2 (Int.ofNat r.1)) (casesN I n.2.2 r.1 0 fun m => K (.ptr (dropK (m * r.2.2) cs)))
 | _ => False
def iopR (op : BinOp) (k : IntKind) (a b : Int) : Int := match op with
 | .add => k.wrap (a + b)
 | .sub => k.wrap (a - b)
 | .mul => k.wrap (a * b)
 | .quo => k.wrap (a.tdiv b)
 | .rem => a.tmod b
 | .and => k.wrap (BitVec.ofInt k.bits a &&& BitVec.ofInt k.bits b).toNat
 | .or => k.wrap (BitVec.ofInt k.bits a ||| BitVec.ofInt k.bits b).toNat
 | .shl => k.wrap (a * 2 ^ (Nat.min b.toNat k.bits))
 | .shr => a.fdiv (2 ^ (Nat.min b.toNat k.bits))
 | _ => 0
def icmpR (op : BinOp) (a b : Int) : Bool := match op with
 | .eql => a == b
 | .neq => a != b
 | .lss => decide (a < b)
 | .leq => decide (a <= b)
 | .gtr => decide (a > b)
 | _ => decide (a >= b)
def oknzR (op : BinOp) (b : Int) : Prop := match op with
 | .quo | .rem => b ≠ 0
 | _ => 0 <= b
def opKind : BinOp -> Nat
 | .add | .sub | .mul | .and | .or => 1
 | .quo | .rem => 2
 | .shl | .shr => 3
 | .eql | .neq | .lss | .leq | .gtr | .geq => 4
 | _ => 0
def litZ : KV -> Bool
 | .lit _ (.ofNat 0) => false
 | .lit _ (.negSucc _) => false
 | .lit _ _ => true
 | _ => false
def litB (b : Bool) : KV := match b with
 | true => .tt
 | false => .ff
def foldK (op : BinOp) (k : IntKind) (a b : Int) : KV := match op with
 | .add => .lit k (iopR .add k a b)
 | .sub => .lit k (iopR .sub k a b)
 | .mul => .lit k (iopR .mul k a b)
 | _ => .int k (I.iop op k a b)
def notB : Bool -> Bool
 | true => false
 | false => true
def eqOp : BinOp -> Option Bool
 | .eql => some false
 | .neq => some true
 | _ => none
def bytesK : List (List KV) -> Option (List Int)
 | [] => some []
 | row :: r => match row with
  | [c] => match numK c with
   | some (_, .u8, n) => match bytesK r with
    | some l => some (n :: l)
    | none => none
   | _ => none
  | _ => none
def strK (op : BinOp) (a b : ByteArray) (K : KV -> Prop) : Prop := match op with
 | .eql => K (.bool (I.streq a b))
 | .neq => K (.bool (I.not (I.streq a b)))
 | .add => I.conj (I.le (I.strlen (I.strcat a b)) 9223372036854775807) (K (.str (I.strcat a b)))
 | _ => False
def binK (t : Nat) (op : BinOp) (c d : KV) (K : KV -> Prop) : Prop :=
 match numK c with
 | some (la, k, a) => kk (numK d) fun n => match opKind op with
  | 1 => kif (sameK k n.2.1) (match la && n.1 with
   | true => K (foldK I op k a n.2.2)
   | false => K (.int k (I.iop op k a n.2.2)))
  | 2 => kif (sameK k n.2.1) (match litZ d with
   | true => K (.int k (I.iop op k a n.2.2))
   | false => I.conj (I.oknz op n.2.2) (K (.int k (I.iop op k a n.2.2))))
  | 3 => I.conj (I.oknz op n.2.2) (K (.int k (I.iop op k a n.2.2)))
  | 4 => kif (sameK k n.2.1) (match la && n.1 with
   | true => K (litB (icmpR op a n.2.2))
   | false => K (.bool (I.icmp op a n.2.2)))
  | _ => False
 | none => kk (tb t) fun i => match i.un with
  | .bool => kk (boolK c) fun a => kk (boolK d) fun b => match op with
   | .eql => K (.bool (I.beq a b))
   | .neq => K (.bool (I.not (I.beq a b)))
   | _ => False
  | .str => match c with
   | .str a => match d with
    | .str b => strK I op a b K
    | _ => False
   | _ => False
  | _ => match d with
   | .nilsl => kk i.el fun _ => kk (eqOp op) fun neq => match c with
    | .nilsl => K (litB (notB neq))
    | .slr _ _ (_ :: _) => K (litB neq)
    | .sl _ _ α x l f => I.conj (I.le 1 (I.plen [.ls α x l f])) (K (litB neq))
    | _ => False
   | .agg ds => match c with
    | .agg cs => kk i.eqn fun n => kk (eqOp op) fun neq => kk (intsK cs) fun l => kk (intsK ds) fun m => kif (Nat.beq (lenK l) n) (kif (kindsK l m) (K (.bool (match neq with | true => I.not (I.eqs l m) | false => I.eqs l m))))
    | _ => False
   | _ => False
def notK (c : KV) (K : KV -> Prop) : Prop := match c with
 | .bool b => K (.bool (I.not b))
 | .tt => K .ff
 | .ff => K .tt
 | _ => False
def lenP' (t : Nat) (S : KSt) (c : KV) (K : KV -> Prop) : Prop :=
 kk (tb t) fun i => match c with
 | .sl _ _ α d l f => kk i.el fun _ => K (.int .i64 (I.plen [.ls α d l f]))
 | .slr _ _ rows => kk i.el fun _ => K (.lit .i64 (Int.ofNat (lenK rows)))
 | .nilsl => kk i.el fun _ => K (.lit .i64 0)
 | .osl id => kk (lk S.O id) fun R => kk i.el fun _ => kif (Nat.blt 0 R.sz) (K (.int .i64 (I.plen R.ps)))
 | .str s => match i.un with
  | .str => K (.int .i64 (I.strlen s))
  | _ => False
 | _ => False
def fnK : KV -> Option (Nat × List KV)
 | .fn f cs => some (f, cs)
 | .dfn f cs => match allD cs with
  | true => some (f, cs)
  | false => none
 | _ => none
def kopL (T : List (Nat × KV)) : List Operand -> Option (List KV)
 | [] => some []
 | x :: r => match kop T x with
  | some c => match kopL T r with
   | some l => some (c :: l)
   | none => none
  | none => none
def rowKV (R : KRow) : KV := match R.ps with
 | [.ls α d l f] => .sl false R.sz α d l f
 | [.rw rows] => .slr false R.sz rows
 | ps => .d (.sl false R.sz (rowsD R.sz ps))
def mapRows : List KP -> List (List D)
 | [.raw r] => r
 | ps => rowsD 0 ps
def mapKV : List KP -> KV
 | [.mp α d l f] => .mp α d l f
 | ps => .d (.map (mapRows ps))
def rowSn (R : KRow) : Option KV := match Nat.blt 0 R.sz with
 | true => some (rowKV R)
 | false => match R.nn with
  | true => some (mapKV R.ps)
  | false => none
def liveOk (lv live : Bool) : Bool := match live with
 | true => lv
 | false => true
def mapK (f : KV -> Option KV) : List KV -> Option (List KV)
 | [] => some []
 | c :: r => match f c with
  | some v => match mapK f r with
   | some l => some (v :: l)
   | none => none
  | none => none
def omap {α β : Type u} (x : Option α) (f : α -> β) : Option β := match x with
 | some a => some (f a)
 | none => none
def snapK (lv : Bool) (S : KSt) : Nat -> KV -> Option KV
 | 0, _ => none
 | n + 1, c => match c with
  | .agg cs => omap (mapK (snapK lv S n) cs) KV.agg
  | .fn f cs => omap (mapK (snapK lv S n) cs) (KV.dfn f)
  | .loc b off => match lk S.H b with
   | some B => match liveOk lv B.live with
    | true => omap (mapK (snapK lv S n) B.cells) fun l => KV.ptr (dropK off l)
    | false => none
   | none => none
  | .osl id => match lk S.O id with
   | some R => match liveOk lv R.live with
    | true => rowSn R
    | false => none
   | none => none
  | .lit k n => some (.int k n)
  | .tt => some (.bool true)
  | .ff => some (.bool false)
  | c => match c.isD with
   | true => some c
   | false => none
def idxK' (n : Nat) : List Nat -> Nat -> Option Nat
 | [], _ => none
 | k :: r, i => match Nat.beq k n with
  | true => some i
  | false => idxK' n r (i + 1)
def lessK (ids : List Nat) : List (Nat × KRow) -> List (Nat × KRow)
 | [] => []
 | (k, R) :: r => match memN k ids with
  | true => lessK ids r
  | false => (k, R) :: lessK ids r
def rowsOfK (S : KSt) : List Nat -> Option (List KRow)
 | [] => some []
 | id :: r => match lk S.O id with
  | some R => match R.live with
   | true => match rowsOfK S r with
    | some l => some (R :: l)
    | none => none
   | false => none
  | none => none
def lessHK (ids : List Nat) : List (Nat × KBlk) -> List (Nat × KBlk)
 | [] => []
 | (k, R) :: r => match memN k ids with
  | true => lessHK ids r
  | false => (k, R) :: lessHK ids r
def KSt.lessW (S : KSt) (hb hr : List Nat) : KSt := ⟨S.n, S.T, lessHK hb S.H, lessK hr S.O, S.low⟩
def blksOfK (S : KSt) : List Nat -> Option (List KBlk)
 | [] => some []
 | id :: r => match lk S.H id with
  | some R => match R.live with
   | true => match blksOfK S r with
    | some l => some (R :: l)
    | none => none
   | false => none
  | none => none
mutual
def handR (S : KSt) : KV -> List Nat
 | .osl id => match lk S.O id with
  | some R => match R.live with
   | true => [id]
   | false => []
  | none => []
 | .agg cs => handRL S cs
 | _ => []
def handRL (S : KSt) : List KV -> List Nat
 | [] => []
 | c :: r => handR S c ++ handRL S r
end
mutual
def handB (S : KSt) : KV -> List Nat
 | .loc b _ => match lk S.H b with
  | some R => match R.live with
   | true => [b]
   | false => []
  | none => []
 | .agg cs => handBL S cs
 | _ => []
def handBL (S : KSt) : List KV -> List Nat
 | [] => []
 | c :: r => handB S c ++ handBL S r
end
def snapWK (S : KSt) (hb hr : List Nat) : Nat -> KV -> Option KV
 | 0, _ => none
 | n + 1, c => match c with
  | .agg cs => omap (mapK (snapWK S hb hr n) cs) .agg
  | .osl id => match idxK' id hr 0 with
   | some i => some (.osl (100 + i))
   | none => snapK true (S.lessW hb hr) 8 (.osl id)
  | .loc b off => match idxK' b hb 0 with
   | some i => some (.loc i off)
   | none => snapK true (S.lessW hb hr) 8 (.loc b off)
  | .tup _ => none
  | c => snapK true (S.lessW hb hr) 8 c
def nodupK : List Nat -> Bool
 | [] => true
 | k :: r => match memN k r with
  | true => false
  | false => nodupK r
def enumK (q : Nat) : List KRow -> List (Nat × KRow)
 | [] => []
 | R :: r => (q, R) :: enumK (q + 1) r
mutual
def KV.sh (q : Nat) : KV -> KV
 | .agg cs => .agg (KV.shL q cs)
 | .tup cs => .tup (KV.shL q cs)
 | .osl id => .osl (q + id)
 | c => c
def KV.shL (q : Nat) : List KV -> List KV
 | [] => []
 | c :: r => c.sh q :: KV.shL q r
end
mutual
def KV.rowsBelow (n : Nat) : KV -> Bool
 | .agg cs => KV.rowsBelowL n cs
 | .tup cs => KV.rowsBelowL n cs
 | .osl id => Nat.blt id n
 | .fn _ _ => false
 | .loc _ _ => false
 | .oloc _ _ _ _ => false
 | .yld => false
 | _ => true
def KV.rowsBelowL (n : Nat) : List KV -> Bool
 | [] => true
 | c :: r => match c.rowsBelow n with
  | true => KV.rowsBelowL n r
  | false => false
end
mutual
def KV.scalar : KV -> Bool
 | .int _ _ | .lit _ _ | .bool _ | .tt | .ff | .str _ => true
 | .agg cs => KV.scalarL cs
 | .tup cs => KV.scalarL cs
 | _ => false
def KV.scalarL : List KV -> Bool
 | [] => true
 | c :: r => match c.scalar with
  | true => KV.scalarL r
  | false => false
end
mutual
def KV.ownly : KV -> Bool
 | .int _ _ | .lit _ _ | .bool _ | .tt | .ff | .str _ => true
 | .osl _ => true
 | .agg cs => KV.ownlyL cs
 | .tup cs => KV.ownlyL cs
 | _ => false
def KV.ownlyL : List KV -> Bool
 | [] => true
 | c :: r => match c.ownly with
  | true => KV.ownlyL r
  | false => false
end
def dataHs : List KBlk -> Bool
 | [] => true
 | B :: r => match allD B.cells with
  | true => dataHs r
  | false => false
def scalHs : List KBlk -> Bool
 | [] => true
 | B :: r => match B.live with
  | true => match KV.scalarL B.cells with
   | true => scalHs r
   | false => false
  | false => false
def stAs {α : Type u} : List (Nat × α) -> List Nat -> List α -> List (Nat × α)
 | T, b :: bs, B :: Bs => stAs (stA T b B) bs Bs
 | T, _, _ => T
def nnK (R : KRow) : KRow := match Nat.blt 0 R.sz with
 | true => ⟨R.e, R.sz, R.ps, false, R.live⟩
 | false => R
def nnKL : List KRow -> List KRow
 | [] => []
 | R :: r => nnK R :: nnKL r
def backK : List KRow -> List KRow -> List KRow
 | R0 :: r, R :: q => ⟨R.e, R.sz, R.ps, R0.nn, R.live⟩ :: backK r q
 | _, _ => []
def okBack : List KRow -> List KRow -> Bool
 | R0 :: r, R :: q => match Nat.blt 0 R.sz with
  | true => okBack r q
  | false => match R.nn, R0.nn with
   | true, true => okBack r q
   | false, false => okBack r q
   | _, _ => false
 | [], [] => true
 | _, _ => false
def wrFn (pz : List Nat) : Operand -> Option Nat
 | .func g => match memN (g + 5000000) pz with
  | true => some g
  | false => none
 | _ => none
def isNil {α : Type u} : List α -> Bool
 | [] => true
 | _ => false
def thenC (nb : Nat) (lv : Bool) (K : KV -> List (Nat × KBlk) -> List (Nat × KRow) -> Prop) (res : KV) (rows : List KRow) : Prop :=
 match lv with
 | false => kif (res.rowsBelow (lenK rows)) (K (res.sh nb) [] (enumK nb rows))
 | true => match isNil rows with
  | true => kif res.scalar (kif (res.rowsBelow 0) (K (res.sh nb) [] []))
  | false => I.conj (I.nums rows) (kif res.ownly (kif (res.rowsBelow (lenK rows)) (K (res.sh nb) [] (enumK nb rows))))
def callK (f : Operand) (args : List Operand) (S : KSt) (nb : Nat) (K : KV -> List (Nat × KBlk) -> List (Nat × KRow) -> Prop) : Prop :=
 kk (kop S.T f) fun fv => kk (kopL S.T args) fun cs => match fv with
  | .d (.fn g ds) => I.conj (I.noagg ds) (match mapK (snapK false S 8) cs with
   | some xs => I.CD g xs ds (thenC I nb false K)
   | none => kk (mapK (snapK true S 8) cs) fun xs => I.CD g xs ds (thenC I nb true K))
  | fv => kk (fnK fv) fun r => match mapK (snapK false S 8) (cs ++ r.2) with
   | some xs => I.C r.1 xs (thenC I nb false K)
   | none => kk (mapK (snapK true S 8) (cs ++ r.2)) fun xs => I.C r.1 xs (thenC I nb true K)
def builtK (b : Builtin) (args : List Operand) (ts : List Nat) (S : KSt) (K : KV -> Prop) : Prop :=
 match b with
 | .len => match args, ts with
  | [x], [t] => kk (kop S.T x) fun c => kk (tb t) fun i => match i.mp with
   | some _ => kk (mapPs S c) fun ps => K (.int .i64 (I.plen ps))
   | none => lenP' I tb t S c K
  | _, _ => False
 | .max => match args with
  | [x, y] => kk (kop S.T x) fun c => kk (kop S.T y) fun d => kk (numK c) fun a => kk (numK d) fun b => kif (sameK a.2.1 b.2.1) (K (.int a.2.1 (I.max a.2.2 b.2.2)))
  | [x, y, z] => kk (kop S.T x) fun c => kk (kop S.T y) fun d => kk (kop S.T z) fun e => kk (numK c) fun a => kk (numK d) fun b => kk (numK e) fun g => kif (sameK a.2.1 b.2.1) (kif (sameK a.2.1 g.2.1) (K (.int a.2.1 (I.max (I.max a.2.2 b.2.2) g.2.2))))
  | _ => False
 | .min => match args with
  | [x, y] => kk (kop S.T x) fun c => kk (kop S.T y) fun d => kk (numK c) fun a => kk (numK d) fun b => kif (sameK a.2.1 b.2.1) (K (.int a.2.1 (I.min a.2.2 b.2.2)))
  | _ => False
 | _ => False
def cellsK : KV -> Option (List KV)
 | .any => none
 | .agg cs => some cs
 | .tup _ => none
 | .d (.fn f l) => some [.d (.fn f l)]
 | .d (.bnd f a l) => some [.d (.bnd f a l)]
 | .d (.sl c s l) => some [.d (.sl c s l)]
 | .d (.map l) => some [.d (.map l)]
 | .d _ => none
 | v => some [v]
def partsK (T : List (Nat × KV)) : List (Nat × Operand) -> Option (List (Nat × KV))
 | [] => some []
 | (i, x) :: r => match kop T x with
  | some c => match partsK T r with
   | some l => some ((i, c) :: l)
   | none => none
  | none => none
def putK (cells : List KV) (off : Nat) (cs : List KV) : List KV := takeK off cells ++ cs ++ dropK (off + lenK cs) cells
def Pl.atK : Pl -> Nat -> Option (Nat × Nat)
 | .st l, i => nth l i
 | .ar n, i => some (i * n, n)
def fillK (pl : Pl) : List KV -> List (Nat × KV) -> Option (List KV)
 | cells, [] => some cells
 | cells, (i, c) :: r => match pl.atK i with
  | some (off, n) => match cellsK c with
   | some cs => match Nat.beq (lenK cs) n && Nat.ble (off + n) (lenK cells) with
    | true => fillK pl (putK cells off cs) r
    | false => none
   | none => none
  | none => none
def chunks (sz : Nat) : Nat -> List KV -> List (List KV)
 | 0, _ => []
 | n + 1, l => takeK sz l :: chunks sz n (dropK sz l)
def anys : Nat -> List KV
 | 0 => []
 | n + 1 => .any :: anys n
mutual
def KV.boxes (nb : Nat) : KV -> Bool
 | .agg cs => KV.boxesL nb cs
 | .tup cs => KV.boxesL nb cs
 | .fn _ cs => KV.boxesL nb cs
 | .loc b _ => Nat.beq b nb
 | _ => false
def KV.boxesL (nb : Nat) : List KV -> Bool
 | [] => false
 | c :: r => match c.boxes nb with
  | true => true
  | false => KV.boxesL nb r
end
def srcK (S : KSt) (id sz : Nat) : KV -> Option (List KP)
 | .sl _ sz' α d l f => match Nat.beq sz' sz with | true => some [.ls α d l f] | false => none
 | .slr _ sz' rows => match Nat.beq sz' sz with | true => some [.rw rows] | false => none
 | .nilsl => some []
 | .osl id' => match lk S.O id' with
  | some R => match Nat.beq R.sz sz && !(Nat.beq id id') with | true => some R.ps | false => none
  | none => none
 | _ => none
def appK (args : List Operand) (ts : List Nat) (S : KSt) (nb : Nat) (K : KV -> Prop) : Prop :=
 match args, ts with
 | [x, y], [t, t'] => kif (Nat.beq t t') (kk (kop S.T x) fun c => kk (kop S.T y) fun d => kk (tb t) fun i => kk i.el fun r => kk (tb r.1) fun j => kk j.z fun zc => kif (Nat.beq (lenK zc) r.2) (kif (Nat.blt 0 r.2) (match c with
  | .slr true sz [] => kif (Nat.beq sz r.2) (kk (srcK S nb sz d) fun news => I.conj (I.fits news j.bytes) (K (rowKV ⟨r.1, sz, news, true, true⟩)))
  | _ => False)))
 | _, _ => False
def appOK (args : List Operand) (ts : List Nat) (S : KSt) (nb : Nat) (K : KV -> List (Nat × KBlk) -> List (Nat × KRow) -> Prop) : Prop :=
 match args, ts with
 | [x, y], [t, t'] => kif (Nat.beq t t') (kk (kop S.T x) fun c => kk (kop S.T y) fun d => kk (tb t) fun i => kk i.el fun r => kk (tb r.1) fun j => kk j.z fun zc => kif (Nat.beq (lenK zc) r.2) (kif (Nat.blt 0 r.2) (match c with
  | .slr true sz [] => kif (Nat.beq sz r.2) (kk (srcK S nb sz d) fun news => I.conj (I.le 1 (I.plen news)) (I.conj (I.fits news j.bytes) (K (.osl nb) [] [(nb, ⟨r.1, sz, news, true, true⟩)])))
  | _ => False)))
 | _, _ => False
def appNK (args : List Operand) (ts : List Nat) (S : KSt) (nb : Nat) (K : KV -> Prop) : Prop :=
 match args, ts with
 | [x, y], [t, t'] => kif (Nat.beq t t') (kk (kop S.T x) fun c => kk (kop S.T y) fun d => kk (tb t) fun i => kk i.el fun r => kk (tb r.1) fun j => kk j.z fun zc => kif (Nat.beq (lenK zc) r.2) (kif (Nat.blt 0 r.2) (match c with
  | .slr true sz [] => kif (Nat.beq sz r.2) (kk (srcK S nb sz d) fun news => I.conj (I.plen news = 0) (K (.slr true sz [])))
  | _ => False)))
 | _, _ => False
def modeK (pz : List Nat) (d : Option Nat) (k : Nat) : Bool := match d with
 | some t => memN (t + k) pz
 | none => false
def aggK (cs : List KV) (ag : Bool) (sz n : Nat) (K : KV -> Prop) : Prop := match ag with
 | false => kk (nth cs (n * sz)) K
 | true => kif (Nat.ble (n * sz + sz) (lenK cs)) (K (.agg (takeK sz (dropK (n * sz) cs))))
def freeK (pz : List Nat) (o : Oper) (S : KSt) (nb : Nat) (K : KV -> List (Nat × KBlk) -> List (Nat × KRow) -> Prop) : Prop :=
 match o.op with
 | .move x => kk (kop S.T x) fun c => K c [] []
 | .assign x => kk (kop S.T x) fun c => K c [] []
 | .pick x y z => kk (kop S.T x) fun c => match c with
  | .tt => kk (kop S.T y) fun c => K c [] []
  | .ff => kk (kop S.T z) fun c => K c [] []
  | .bool b => I.tst b (kk (kop S.T y) fun c => K c [] []) (kk (kop S.T z) fun c => K c [] [])
  | _ => False
 | .extract x i => kk (kop S.T x) fun c => match c with
  | .tup cs => kk (nth cs i) fun c => K c [] []
  | _ => False
 | .fieldAddr s x f => kk (kop S.T x) fun c => fldK tb s f c fun r => K r [] []
 | .load t x => kk (kop S.T x) fun c => loadK I tb t S c fun r => K r [] []
 | .indexAddr t x ix => kk (kop S.T x) fun c => kk (kop S.T ix) fun d => idxK I tb t S c d fun r => K r [] []
 | .index t x ix => kk (kop S.T x) fun c => kk (kop S.T ix) fun d => kk (tb t) fun i => match i.un with
  | .str => match c with
   | .str s => kk (numK d) fun n => I.conj (I.inb n.2.2 (I.strlen s)) (K (.int .u8 (I.strat s n.2.2)) [] [])
   | _ => False
  | _ => match c with
   | .agg cs => kk i.ar fun r => kk (tb r.2.1) fun j => match litN d with
    | some n => kif (Nat.blt n r.1) (aggK cs j.ag r.2.2 n fun c => K c [] [])
    | none => kk (numK d) fun n => I.conj (I.inb n.2.2 (Int.ofNat r.1)) (casesN I n.2.2 r.1 0 fun m => aggK cs j.ag r.2.2 m fun c => K c [] [])
   | _ => False
 | .binOp op t x y yt => kk (kop S.T x) fun c => kk (kop S.T y) fun d => binK I tb t op c d fun r => K r [] []
 | .unOp .not t x => kk (kop S.T x) fun c => notK I c fun r => K r [] []
 | .unOp .neg t x => kk (kop S.T x) fun c => kk (numK c) fun n => K (.int n.2.1 (I.neg n.2.1 n.2.2)) [] []
 | .makeFunc (.func f) first cap => match first.toList with
  | [] => kk (kopL S.T cap.toList) fun cs => K (.fn f cs) [] []
  | l => match cap.toList with
   | [] => kk (kopL S.T l) fun cs => kk (mapK (snapK false S 8) cs) fun xs => K (.bfn f xs) [] []
   | _ => False
 | .field s x f => kk (kop S.T x) fun c => match c with
  | .agg cs => kk (tb s) fun i => kk (nth i.fl f) fun r => kk (tb r.2.2) fun j => match j.ag with
   | false => kk (nth cs r.1) fun c => K c [] []
   | true => kif (Nat.ble (r.1 + r.2.1) (lenK cs)) (K (.agg (takeK r.2.1 (dropK r.1 cs))) [] [])
  | _ => False
 | .box e x => kk (kop S.T x) fun c => kk (cellsK c) fun cs => match KV.boxesL nb cs with
  | true => False
  | false => K (.loc nb 0) [(nb, ⟨e, cs, true⟩)] []
 | .alloc e => kk (tb e) fun i => kk i.z fun cs => K (.loc nb 0) [(nb, ⟨e, cs, true⟩)] []
 | .build t parts => kk (tb t) fun i => kk i.z fun z => kk i.pl fun pl => kk (partsK S.T parts.toList) fun ps => kk (fillK pl z ps) fun cs => K (.agg cs) [] []
 | .buildSlice t len parts => kk (tb t) fun i => kk i.el fun r => kk (tb r.1) fun j => kk j.z fun _ => kif (Nat.ble (len * r.2) 16777216) (kif (Nat.ble len 16777216) (match len with
   | 0 => match parts.toList with
    | [] => match (match o.dst with | some t => memN t pz | none => false) with
     | true => K (.slr true r.2 []) [] []
     | false => kif (Nat.blt 0 r.2) (K (.osl nb) [] [(nb, ⟨r.1, r.2, [], true, true⟩)])
    | _ => False
   | n + 1 => kk (partsK S.T parts.toList) fun ps => kk (fillK (.ar r.2) (anys ((n + 1) * r.2)) ps) fun cells => kif (allD cells) (kif (Nat.beq (lenK cells) ((n + 1) * r.2)) (match modeK pz o.dst 6000000 with
     | true => kif (Nat.blt 0 r.2) (K (.osl nb) [] [(nb, ⟨r.1, r.2, [.rw (chunks r.2 (n + 1) cells)], true, true⟩)])
     | false => K (.slr true r.2 (chunks r.2 (n + 1) cells)) [] []))))
 | .makeSlice t x y => kk (kop S.T x) fun c => kk (kop S.T y) fun d => kk (numK c) fun a => kk (numK d) fun b => kk (tb t) fun i => kk i.el fun r => kk (tb r.1) fun j => kk j.z fun z => kif (allD z) (kif (Nat.beq (lenK z) r.2) (kif (Nat.blt 0 r.2) (I.conj (a.2.2 = b.2.2) (I.conj (I.mkok a.2.2 j.bytes) (K (.osl nb) [] [(nb, ⟨r.1, r.2, I.reps a.2.2 z, true, true⟩)])))))
 | .slice t x low high none => kk (kop S.T x) fun c => kk (tb t) fun i => match c with
  | .sl _ sz α d l f => kk i.el fun r => kif (Nat.beq r.2 sz) (kk (match low with
    | none => some 0
    | some y => match kop S.T y with
     | some v => match numK v with
      | some n => some n.2.2
      | none => none
     | none => none) fun lo => kk (match high with
    | none => some (I.plen [.ls α d l f])
    | some y => match kop S.T y with
     | some v => match numK v with
      | some n => some n.2.2
      | none => none
     | none => none) fun hi => I.conj (I.le 0 lo) (I.conj (I.le lo hi) (I.conj (I.le hi (I.plen [.ls α d l f])) (K (.sl false sz α d (I.sub α l lo hi) f) [] []))))
  | _ => False
 | .makeMap t none => K (.osl nb) [] [(nb, ⟨0, 0, [], true, true⟩)]
 | .lookup t x k comma => kk (kop S.T x) fun c => kk (kop S.T k) fun kc => kk (tb t) fun i => kk i.mp fun r => kk (tb r.1) fun ki => kk (tb r.2) fun ei => kk ei.zv fun z => kk (mapPs S c) fun ps => kif (okDat kc) (I.mget (kun ki) ps kc z fun v b => match comma with
   | true => K (.tup [v, .bool b]) [] []
   | false => K v [] [])
 | .range t x => kk (kop S.T x) fun c => kk (tb t) fun i => match c with
  | .mp α d l f => kk i.mp fun _ => K (.osl nb) [] [(nb, ⟨0, 0, [.rw [[.mp α d l f, .ff]], .mp α d l f], false, true⟩)]
  | .str s => match i.un with
   | .str => K (.osl nb) [] [(nb, ⟨0, 0, [.rw [[.str s, .int .i64 0]]], false, true⟩)]
   | _ => False
  | _ => False
 | .convert s d x => kk (kop S.T x) fun c => kk (tb s) fun si => kk (tb d) fun di => match c with
  | .int _ n => match di.un with
   | .int k => K (.int k (I.conv k n)) [] []
   | _ => False
  | .lit ks n => match di.un with
   | .int k => kif (sameK ks k) (K (.lit k (IntKind.wrap k n)) [] [])
   | _ => False
  | .str sv => kk di.el fun r => kk (tb r.1) fun ei => match ei.un with
   | .int .u8 => I.conj (I.le (I.strlen sv) 9223372036854775807) (K (.sl false 1 Int 0 (I.strb sv) (fun n _ => .int .u8 n)) [] [])
   | _ => False
  | .slr _ sz rows => match di.un with
   | .str => kk si.el fun r => kk (tb r.1) fun ei => match ei.un with
    | .int .u8 => kif (Nat.beq sz 1) (kk (bytesK rows) fun l => K (.str (I.strl l)) [] [])
    | _ => False
   | _ => False
  | _ => False
 | .call c => match c.callee with
  | .value f => callK I f c.args.toList S nb K
  | .builtin .append => match modeK pz o.dst 100000 with
   | true => appOK I tb c.args.toList c.argTypes.toList S nb K
   | false => match modeK pz o.dst 200000 with
    | true => appNK I tb c.args.toList c.argTypes.toList S nb fun r => K r [] []
    | false => appK I tb c.args.toList c.argTypes.toList S nb fun r => K r [] []
  | .builtin b => builtK I tb b c.args.toList c.argTypes.toList S fun r => K r [] []
  | .invoke _ _ => False
 | _ => False
def KSt.lit (S : KSt) (x : Operand) (v : KV) : KSt := match x with
 | .tmp t => ⟨S.n, (t, v) :: S.T, S.H, S.O, S.low⟩
 | _ => S
def wantK (ops : List Oper) (S : KSt) (o : Oper) (A B : KSt -> Prop) : Prop := match o.guard with
 | none => A S
 | some (j, want) => kk (nth ops j) fun o' => kk o'.dst fun t => kk (lk S.T t) fun c => match c with
  | .tt => match want with | true => A S | false => B S
  | .ff => match want with | true => B S | false => A S
  | .bool b => match want with
   | true => I.tst b (A (S.lit (.tmp t) .tt)) (B (S.lit (.tmp t) .ff))
   | false => I.tst b (B (S.lit (.tmp t) .tt)) (A (S.lit (.tmp t) .ff))
  | .tup [] => B S
  | _ => False
def maxKs {α : Type u} : List (Nat × α) -> Nat -> Nat
 | [], m => m
 | (k, _) :: r, m => match Nat.ble 100 k with
  | true => maxKs r m
  | false => match Nat.blt k m with
   | true => maxKs r m
   | false => maxKs r (k + 1)
def freshNK (S : KSt) : Nat := maxKs S.O (maxKs S.H S.low)
mutual
def KV.hasRow (id : Nat) : KV -> Bool
 | .agg cs => KV.hasRowL id cs
 | .tup cs => KV.hasRowL id cs
 | .fn _ cs => KV.hasRowL id cs
 | .osl i => Nat.beq i id
 | .oloc i _ _ _ => Nat.beq i id
 | _ => false
def KV.hasRowL (id : Nat) : List KV -> Bool
 | [] => false
 | c :: r => match c.hasRow id with
  | true => true
  | false => KV.hasRowL id r
end
def freeT (nb : Nat) : List (Nat × KV) -> Bool
 | [] => true
 | (_, c) :: r => match c.boxes nb with
  | true => false
  | false => freeT nb r
def freeH (nb : Nat) : List (Nat × KBlk) -> Bool
 | [] => true
 | (k, B) :: r => match Nat.beq k nb with
  | true => false
  | false => match KV.boxesL nb B.cells with
   | true => false
   | false => freeH nb r
def freeRT (nb : Nat) : List (Nat × KV) -> Bool
 | [] => true
 | (_, c) :: r => match c.hasRow nb with
  | true => false
  | false => freeRT nb r
def freeRH (nb : Nat) : List (Nat × KBlk) -> Bool
 | [] => true
 | (k, B) :: r => match KV.hasRowL nb B.cells with
  | true => false
  | false => freeRH nb r
def freeRO (nb : Nat) : List (Nat × KRow) -> Bool
 | [] => true
 | (k, _) :: r => match Nat.beq k nb with
  | true => false
  | false => freeRO nb r
def freshKH (S : KSt) : List (Nat × KBlk) -> Bool
 | [] => true
 | (b, _) :: r => Nat.ble S.low b && freeT b S.T && freeH b S.H && freshKH S r
def freshKO (S : KSt) : List (Nat × KRow) -> Bool
 | [] => true
 | (b, _) :: r => Nat.ble S.low b && Nat.blt b 100 && freeRT b S.T && freeRH b S.H && freeRO b S.O && freshKO S r
def dstK (S : KSt) : Option Nat -> Bool
 | some t => Nat.blt t S.n
 | none => true
def forgT (id : Nat) : List (Nat × KV) -> List (Nat × KV)
 | [] => []
 | (t, c) :: r => match c.hasRow id with
  | true => (t, .any) :: forgT id r
  | false => (t, c) :: forgT id r
def forgL (id : Nat) : List KV -> List KV
 | [] => []
 | c :: r => match c.hasRow id with
  | true => .any :: forgL id r
  | false => c :: forgL id r
def forgH (id : Nat) : List (Nat × KBlk) -> List (Nat × KBlk)
 | [] => []
 | (b, B) :: r => (b, ⟨B.e, forgL id B.cells, B.live⟩) :: forgH id r
def joinP : List KP -> List KP -> List KP
 | [.rw a], [.rw b] => [.rw (a ++ b)]
 | a, b => a ++ b
def isBarK (pz : List Nat) (o : Oper) (S : KSt) : Bool := match o.op with
 | .store _ _ _ => true
 | .mapUpdate _ _ _ _ => true
 | .entry _ => true
 | .next _ _ => true
 | .call c => match c.callee with
  | .builtin .append => match c.args.toList with
   | x :: _ => match kop S.T x with
    | some (.slr true _ []) => false
    | _ => true
   | [] => true
  | .builtin .copy => true
  | .builtin .delete => true
  | .value f => match wrFn pz f with
   | some _ => true
   | none => match modeK pz o.dst 9000000 with
    | true => true
    | false => match kop S.T f with
     | some .yld => true
     | _ => false
  | _ => false
 | _ => false
def wrCallK (g : Nat) (args : List Operand) (S : KSt) (dst : Option Nat) (K : KSt -> Prop) : Prop :=
 kk (kopL S.T args) fun cs => match handBL S cs, handRL S cs with
 | hb, hr => kif (nodupK hb && nodupK hr) (kk (blksOfK S hb) fun Hs => kk (rowsOfK S hr) fun Os => kif (dataHs Hs) (kk (mapK (snapWK S hb hr 8) cs) fun xs =>
   I.CW g xs Hs (nnKL Os) fun res Bs Rs => kif (Nat.beq (lenK Bs) (lenK Hs) && okBack Os Rs && res.scalar && scalHs Bs) (I.conj (I.nums Rs)
    (K ⟨S.n, (match dst with | some t => (t, res) :: S.T | none => S.T), stAs S.H hb Bs, stAs S.O hr (backK Os Rs), S.low⟩))))
def barK (pz : List Nat) (o : Oper) (S : KSt) (s : σ) (nb : Nat) (K : KSt -> σ -> Prop) : Prop := match o.op with
 | .store t p x => kk (kop S.T p) fun c => kk (kop S.T x) fun d => kk (cellsK d) fun cs => kk (tb t) fun i => kif (Nat.beq i.sz (lenK cs)) (match o.dst with
  | some _ => False
  | none => match c with
   | .loc b off => kk (lk S.H b) fun B => kif B.live (kif (Nat.ble (off + lenK cs) (lenK B.cells)) (K ⟨S.n, S.T, stA S.H b ⟨B.e, putK B.cells off cs, true⟩, S.O, S.low⟩ s))
   | .oloc id sz ix j => kk (lk S.O id) fun R => kif (R.live && Nat.beq R.sz sz) (kif (Nat.ble (j + lenK cs) sz) (kif (allD cs) (I.conj (I.inb ix (I.plen R.ps)) (I.setl R.ps sz ix j cs fun ps => K ⟨S.n, S.T, S.H, stA S.O id ⟨R.e, R.sz, ps, R.nn, true⟩, S.low⟩ s))))
   | _ => False)
 | .call c => match c.callee with
  | .builtin .append => match c.args.toList, c.argTypes.toList with
   | [x, y], [t, t'] => kif (Nat.beq t t') (kif (dstK S o.dst) (kk (kop S.T x) fun c => kk (kop S.T y) fun d => kk (tb t) fun i => kk i.el fun r => kk (tb r.1) fun j => kk j.z fun zc => kif (Nat.beq (lenK zc) r.2) (kif (Nat.blt 0 r.2) (match c with
     | .osl id => kk (lk S.O id) fun R => kif (R.live && Nat.beq R.e r.1 && Nat.beq R.sz r.2 && Nat.blt id 100) (kk (srcK S id R.sz d) fun news => I.conj (I.fits (joinP R.ps news) j.bytes)
       (K ⟨S.n, (match o.dst with | some t => (t, .osl id) :: forgT id S.T | none => forgT id S.T), forgH id S.H, stA S.O id ⟨R.e, R.sz, joinP R.ps news, R.nn, true⟩, S.low⟩ s))
     | .nilsl => kk (srcK S nb r.2 d) fun news => I.conj (I.fits news j.bytes) (kif (freshKO S [(nb, ⟨r.1, r.2, [], false, true⟩)])
       (K ⟨S.n, (match o.dst with | some t => (t, .osl nb) :: forgT nb S.T | none => forgT nb S.T), forgH nb S.H, (nb, ⟨r.1, r.2, news, false, true⟩) :: S.O, S.low⟩ s))
     | .slr true sz (row :: rows) => kif (Nat.beq sz r.2) (kk (srcK S nb sz d) fun news => I.conj (I.le 1 (I.plen news)) (I.conj (I.fits (joinP [.rw (row :: rows)] news) j.bytes) (K (S.add o.dst (rowKV ⟨r.1, sz, joinP [.rw (row :: rows)] news, true, true⟩) [] []) s)))
     | _ => False))))
   | _, _ => False
  | .builtin .copy => match c.args.toList, c.argTypes.toList with
   | [x, y], [t, t'] => kif (Nat.beq t t') (kif (dstK S o.dst) (kk (kop S.T x) fun c => kk (kop S.T y) fun d => kk (tb t) fun i => kk i.el fun r => match c with
     | .osl id => kk (lk S.O id) fun R => kif (R.live && Nat.beq R.e r.1 && Nat.beq R.sz r.2) (kif (Nat.blt 0 R.sz) <| kk (srcK S id R.sz d) fun news => I.conj (I.le 1 (I.plen news)) (I.conj (I.plen news = I.plen R.ps) (K (KSt.add ⟨S.n, S.T, S.H, stA S.O id ⟨R.e, R.sz, news, R.nn, true⟩, S.low⟩ o.dst (.int .i64 (I.plen news)) [] []) s)))
     | _ => False))
   | _, _ => False
  | .builtin .delete => match c.args.toList, c.argTypes.toList with
   | [x, y], [t, t'] => kif (dstK S o.dst) (kk (kop S.T x) fun c => kk (kop S.T y) fun kc => kk (tb t) fun i => kk i.mp fun r => kk (tb r.1) fun ki => kif kc.isD (match c with
     | .osl id => kk (lk S.O id) fun R => kif (R.live && Nat.beq R.sz 0 && R.nn) (I.mdel (kun ki) R.ps kc fun ps => K (KSt.add ⟨S.n, S.T, S.H, stA S.O id ⟨R.e, R.sz, ps, R.nn, true⟩, S.low⟩ o.dst (.tup []) [] []) s)
     | _ => False))
   | _, _ => False
  | .value f => match wrFn pz f with
   | some g => kif (dstK S o.dst) (wrCallK I g c.args.toList S o.dst fun S' => K S' s)
   | none => match modeK pz o.dst 9000000 with
    | true => kif (dstK S o.dst) (kk (kop S.T f) fun fv => kk (kopL S.T c.args.toList) fun cs => kk (fnK fv) fun g => kk (mapK (snapK true S 8) (cs ++ g.2)) fun xs => I.CN g.1 xs fun R => kif (freshKO S [(nb, R)]) (K (S.add o.dst (.osl nb) [] [(nb, R)]) s))
    | false => kif (dstK S o.dst) (kk (kopL S.T c.args.toList) fun cs => kk (mapK (snapK false S 8) cs) fun xs => I.Y s xs fun b s' => K (S.add o.dst (.bool b) [] []) s')
  | _ => False
 | .mapUpdate t m k x => match o.dst with
  | some _ => False
  | none => kk (kop S.T m) fun c => kk (kop S.T k) fun kc => kk (kop S.T x) fun v => kk (tb t) fun i => kk i.mp fun r => kk (tb r.1) fun ki => kif (okDat kc && okDat v) (match c with
   | .osl id => kk (lk S.O id) fun R => kif (R.live && Nat.beq R.sz 0 && R.nn) (I.mset (kun ki) R.ps kc v fun ps => K ⟨S.n, S.T, S.H, stA S.O id ⟨R.e, R.sz, ps, R.nn, true⟩, S.low⟩ s)
   | _ => False)
 | .entry x => kif (dstK S o.dst) (kk (kop S.T x) fun c => match c with
  | .osl id => kk (lk S.O id) fun R => kif (R.live && Nat.beq R.sz 0 && !R.nn) (match R.ps with
   | .rw [[m, .tt], [k, v]] :: ps => match m with
    | .mp α d l f => kif (okDat k && okDat v) (K (KSt.add ⟨S.n, S.T, S.H, stA S.O id ⟨R.e, R.sz, .rw [[.mp α d l f, .ff]] :: ps, R.nn, true⟩, S.low⟩ o.dst (.tup [k, v]) [] []) s)
    | _ => False
   | _ => False)
  | _ => False)
 | .next x str => match str with
  | true => kif (dstK S o.dst) (kk (kop S.T x) fun c => match c with
   | .osl id => kk (lk S.O id) fun R => kif (R.live && Nat.beq R.sz 0 && !R.nn) (match R.ps with
    | [.rw [[.str sv, pc]]] => kk (numK pc) fun n => match n.2.1 with
     | .i64 => I.tst (I.icmp .lss n.2.2 (I.strlen sv))
       (K (KSt.add ⟨S.n, S.T, S.H, stA S.O id ⟨R.e, R.sz, [.rw [[.str sv, .int .i64 (I.strn sv n.2.2)]]], R.nn, true⟩, S.low⟩ o.dst (.tup [.tt, .int .i64 n.2.2, .int .i32 (I.strc sv n.2.2)]) [] []) s)
       (K (S.add o.dst (.tup [.ff]) [] []) s)
     | _ => False
    | _ => False)
   | _ => False)
  | false => kif (dstK S o.dst) (kk (kop S.T x) fun c => match c with
   | .osl id => kk (lk S.O id) fun R => kif (R.live && Nat.beq R.sz 0 && !R.nn) (match R.ps with
    | [.rw [[m, .ff]], .mp α d l f] => match m with
     | .mp α' d' l' f' => I.mnext α l (fun x rem => kif (okDat (f x 0) && okDat (f x 1)) (K (KSt.add ⟨S.n, S.T, S.H, stA S.O id ⟨R.e, R.sz, [.rw [[.mp α' d' l' f', .tt], [f x 0, f x 1]], .mp α d rem f], R.nn, true⟩, S.low⟩ o.dst (.tup [.tt, f x 0, f x 1]) [] []) s))
       (K (S.add o.dst (.tup [.ff]) [] []) s)
     | _ => False
    | _ => False)
   | _ => False)
 | _ => False
def seeK (id : Nat) (v : KV) : List (Nat × KV) -> List (Nat × KV)
 | [] => []
 | (t, c) :: r => match c with
  | .osl i => match Nat.beq i id with
   | true => (t, v) :: seeK id v r
   | false => (t, .osl i) :: seeK id v r
  | c => (t, c) :: seeK id v r
def frzK (id : Nat) (S : KSt) : KSt := match lk S.O id with
 | some R => match rowSn R with
  | none => S
  | some v => ⟨S.n, seeK id v S.T, S.H, stA S.O id ⟨R.e, R.sz, R.ps, R.nn, false⟩, S.low⟩
 | none => S
mutual
def kvRows : KV -> List Nat
 | .osl id => [id]
 | .agg cs => kvRowsL cs
 | .tup cs => kvRowsL cs
 | _ => []
def kvRowsL : List KV -> List Nat
 | [] => []
 | c :: r => match kvRows c with
  | [] => kvRowsL r
  | [i] => i :: kvRowsL r
  | l => l ++ kvRowsL r
end
def frzI : List Nat -> KSt -> KSt
 | [], S => S
 | id :: r, S => frzI r (frzK id S)
def frzL : List Nat -> KSt -> KSt
 | [], S => S
 | t :: r, S => match lk S.T t with
  | some c => frzL r (frzI (kvRows c) S)
  | none => frzL r S
def opTmps : List Operand -> List Nat
 | [] => []
 | .tmp t :: r => t :: opTmps r
 | _ :: r => opTmps r
def preK (pz : List Nat) (o : Oper) (S : KSt) : KSt := match o.dst with
 | some t => match memN t pz with
  | true => frzL (opTmps o.op.operands.toList) S
  | false => S
 | none => S
def opsK (pz : List Nat) (ops : List Oper) : List Oper -> KSt -> σ -> (KSt -> σ -> Prop) -> Prop
 | [], S, s, K => K S s
 | o :: rest, S, s, K => wantK I ops S o
   (fun S1 => match preK pz o S1 with
    | S => match isBarK pz o S with
     | true => barK I tb pz o S s (freshNK S) (fun S' s' => opsK pz ops rest S' s' K)
     | false => freeK I tb pz o S (freshNK S) fun res nh no => kif (freshKH S nh && freshKO S no && dstK S o.dst) (opsK pz ops rest (S.add o.dst res nh no) s K))
   (fun S => kif (dstK S o.dst) (opsK pz ops rest (S.add o.dst (.tup []) [] []) s K))
def thenK (K : KSt -> σ -> Prop) (Q : Exit -> KSt -> σ -> Prop) (e : Exit) (S : KSt) (s : σ) : Prop := match e with
 | .normal => K S s
 | e => Q e S s
def blkK (id : Nat) (Q : Exit -> KSt -> σ -> Prop) (e : Exit) (S : KSt) (s : σ) : Prop := match e with
 | .exit j => match Nat.beq j id with
  | true => Q .normal S s
  | false => Q (.exit j) S s
 | e => Q e S s
def scopeK (Q : Exit -> KSt -> σ -> Prop) (e : Exit) (S : KSt) (s : σ) : Prop := match e with
 | .goto _ => False
 | e => Q e S s
structure SgK : Type 1 where
 res : KV
 nh : List (Nat × KBlk)
 no : List (Nat × KRow)
def emptyB (o : Oper) (t : Nat) : Bool := match o.dst with
 | some u => match Nat.beq u t with
  | true => match o.op with
   | .buildSlice _ 0 _ => true
   | _ => false
  | false => false
 | none => false
def emptyL : List Oper -> Nat -> Bool
 | [], _ => false
 | o :: r, t => match emptyB o t with
  | true => true
  | false => emptyL r t
def appArg (o : Oper) : Option Nat := match o.op with
 | .call c => match c.callee with
  | .builtin .append => match c.args.toList with
   | .tmp t :: _ => some t
   | _ => none
  | _ => none
 | _ => none
def pzOf (pz : List Nat) : List Oper -> List Nat
 | [] => pz
 | o :: r => match appArg o with
  | some t => t :: pzOf pz r
  | none => pzOf pz r
def isApp (o : Oper) : Bool := match o.op with
 | .call c => match c.callee with
  | .builtin .append => true
  | _ => false
 | _ => false
def notVW (pz : List Nat) (o : Oper) : Bool := match o.op with
 | .next _ _ => false
 | .call c => match c.callee with
  | .value f => match wrFn pz f with
   | some _ => true
   | none => false
  | _ => true
 | _ => true
def anyText : List Edge -> Bool
 | [] => false
 | e :: r => match e.ground with
  | .textOnly _ => true
  | _ => anyText r
def isCopy (o : Oper) : Bool := match o.op with
 | .call c => match c.callee with
  | .builtin .copy => true
  | .builtin .delete => true
  | _ => false
 | _ => false
def isBarS (ops : List Oper) (o : Oper) : Bool := match o.op with
 | .store _ _ _ => true
 | .mapUpdate _ _ _ _ => true
 | .entry _ => true
 | _ => match isApp o with
  | true => match appArg o with
   | some t => match emptyL ops t with
    | true => false
    | false => true
   | none => true
  | false => isCopy o
def tmpsK : List Operand -> List Nat
 | [] => []
 | .tmp t :: r => t :: tmpsK r
 | _ :: r => tmpsK r
def namesK (ops : List Oper) (o : Oper) : List Nat := match o.guard with
 | some (j, _) => match nth ops j with
  | some o' => match o'.dst with
   | some t => t :: tmpsK o.op.operands.toList
   | none => tmpsK o.op.operands.toList
  | none => tmpsK o.op.operands.toList
 | none => tmpsK o.op.operands.toList
def restrK (T : List (Nat × KV)) : List Nat -> List (Nat × KV)
 | [] => []
 | t :: r => match lk T t with
  | some c => (t, c) :: restrK T r
  | none => restrK T r
def depsK : List Oper -> List Nat -> List Nat
 | [], B => B
 | o :: r, B => depsK r (B ++ [bitsU B o.after.toList 0])
def mentB (b : Nat) : List (Nat × KBlk) -> Bool
 | [] => false
 | (k, B) :: r => match Nat.beq k b with
  | true => true
  | false => match KV.boxesL b B.cells with
   | true => true
   | false => mentB b r
def mentRB (b : Nat) : List (Nat × KBlk) -> Bool
 | [] => false
 | (k, B) :: r => match KV.hasRowL b B.cells with
  | true => true
  | false => mentRB b r
def mentRO (b : Nat) : List (Nat × KRow) -> Bool
 | [] => false
 | (k, B) :: r => match Nat.beq k b with
  | true => true
  | false => mentRO b r
def apartH (g' : SgK) : List (Nat × KBlk) -> Bool
 | [] => true
 | (b, _) :: r => match g'.res.boxes b with
  | true => false
  | false => match mentB b g'.nh with
   | true => false
   | false => apartH g' r
def apartO (g' : SgK) : List (Nat × KRow) -> Bool
 | [] => true
 | (b, _) :: r => match g'.res.hasRow b with
  | true => false
  | false => match mentRB b g'.nh with
   | true => false
   | false => match mentRO b g'.no with
    | true => false
    | false => apartO g' r
def apartG (g g' : SgK) : Bool := match apartH g' g.nh with
 | true => apartO g' g.no
 | false => false
def okNew (ops : List Oper) (i : Nat) (g : SgK) : List (Nat × SgK) -> Bool
 | [] => true
 | (j, g') :: r => match apartG g g' with
  | true => match apartG g' g with
   | true => okNew ops i g r
   | false => match Nat.testBit ((depsK ops []).getD i 0) j with
    | true => okNew ops i g r
    | false => false
  | false => false
def drawK (pz : List Nat) (ops : List Oper) : List Oper -> Nat -> KSt -> List (Nat × SgK) -> KSt -> σ -> (KSt -> σ -> Prop) -> Prop
 | [], i, S0, Rs, S, s, K => K S s
 | o :: rest, i, S0, Rs, S, s, K => match isBarS ops o with
  | true => wantK I ops S o
   (fun S => kif (isBarK pz o S) (barK I tb pz o S s (freshNK S) (fun S' s' => drawK pz ops rest (i + 1) S' [] S' s' K)))
   (fun S => kif (dstK S o.dst) (drawK pz ops rest (i + 1) (S.add o.dst (.tup []) [] []) [] (S.add o.dst (.tup []) [] []) s K))
  | false => wantK I ops S o
   (fun S => freeK I tb pz o ⟨S.n, restrK S.T (namesK ops o), S0.H, S0.O, S.low⟩ (freshNK S) fun res nh no =>
    kif (freshKH S nh && freshKO S no && freshKH S0 nh && freshKO S0 no && dstK S o.dst && okNew ops i ⟨res, nh, no⟩ Rs) (drawK pz ops rest (i + 1) S0 ((i, ⟨res, nh, no⟩) :: Rs) (S.add o.dst res nh no) s K))
   (fun S => kif (dstK S o.dst && okNew ops i ⟨.tup [], [], []⟩ Rs) (drawK pz ops rest (i + 1) S0 ((i, ⟨.tup [], [], []⟩) :: Rs) (S.add o.dst (.tup []) [] []) s K))
def bindsK : Ground -> Bool
 | .textOnly _ => false
 | .gcOnly _ => false
 | _ => true
def undone : List (Nat × Oper) -> Nat -> Bool
 | [], _ => false
 | (i, _) :: r, j => match Nat.beq i j with
  | true => true
  | false => undone r j
def freeE (U : List (Nat × Oper)) : List Edge -> Bool
 | [] => true
 | e :: r => match bindsK e.ground with
  | true => match undone U e.on with
   | true => false
   | false => freeE U r
  | false => freeE U r
def anyR (U : List (Nat × Oper)) : List (Nat × Oper) -> Bool
 | [] => false
 | (_, o) :: r => match freeE U o.after.toList with
  | true => true
  | false => anyR U r
def allR (f : Nat -> Oper -> Prop) (U : List (Nat × Oper)) : List (Nat × Oper) -> Prop
 | [] => False
 | (i, o) :: r => match freeE U o.after.toList with
  | true => match anyR U r with
   | true => I.conj (f i o) (allR f U r)
   | false => f i o
  | false => allR f U r
def lessU (i : Nat) : List (Nat × Oper) -> List (Nat × Oper)
 | [] => []
 | (j, o) :: r => match Nat.beq j i with
  | true => r
  | false => (j, o) :: lessU i r
def enumU : Nat -> List Oper -> List (Nat × Oper)
 | _, [] => []
 | i, o :: r => (i, o) :: enumU (i + 1) r
def numOf (T : List (Nat × KV)) (x : Operand) : Option IntKind := match kop T x with
 | some c => match numK c with
  | some (_, k, _) => some k
  | none => none
 | none => none
def guardK (ops : List Oper) (S : KSt) (o : Oper) : Option Bool := match o.guard with
 | none => some true
 | some (j, want) => match nth ops j with
  | some o' => match o'.dst with
   | some t => match lk S.T t with
    | some .tt => some want
    | some .ff => some (!want)
    | _ => none
   | none => none
  | none => none
def isHo (tb : Nat -> Option TI) (ops : List Oper) (o : Oper) (S : KSt) : Bool := match guardK ops S o with
 | none => false
 | some false => match o.op with
  | .call _ => false
  | _ => true
 | some true => match o.op with
  | .move x => match kop S.T x with
   | some _ => true
   | none => false
  | .assign x => match kop S.T x with
   | some _ => true
   | none => false
  | .binOp op _ x y _ => match opKind op with
   | 1 => match numOf S.T x with
    | some k => match numOf S.T y with
     | some k' => sameK k k'
     | none => false
    | none => false
   | _ => false
  | .convert s d x => match numOf S.T x with
   | some _ => match tb s with
    | some _ => match tb d with
     | some di => match di.un with
      | .int _ => true
      | _ => false
     | none => false
    | none => false
   | none => false
  | .indexAddr t x ix => match kop S.T x with
   | some (.loc _ _) => match kop S.T ix with
    | some d => match litN d with
     | some n => match tb t with
      | some i => match i.ar with
       | some r => Nat.blt n r.1
       | none => false
      | none => false
     | none => false
    | none => false
   | _ => false
  | _ => false
def hoVal0 (tb : Nat -> Option TI) (S : KSt) (o : Oper) : Option KV := match o.op with
 | .move x => kop S.T x
 | .assign x => kop S.T x
 | .convert _ d x => match kop S.T x with
  | some c => match numK c with
   | some (_, _, n) => match tb d with
    | some di => match di.un with
     | .int k => some (.int k (I.conv k n))
     | _ => none
    | none => none
   | none => none
  | none => none
 | .indexAddr t x ix => match kop S.T x with
  | some (.loc b off) => match kop S.T ix with
   | some d => match litN d with
    | some n => match tb t with
     | some i => match i.ar with
      | some r => some (.loc b (off + n * r.2.2))
      | none => none
     | none => none
    | none => none
   | none => none
  | _ => none
 | .binOp op _ x y _ => match kop S.T x with
  | some c => match kop S.T y with
   | some d => match numK c with
    | some (la, k, a) => match numK d with
     | some (lb, _, b) => match la && lb with
      | true => some (foldK I op k a b)
      | false => some (.int k (I.iop op k a b))
     | none => none
    | none => none
   | none => none
  | none => none
 | _ => none
def hoVal (tb : Nat -> Option TI) (ops : List Oper) (S : KSt) (o : Oper) : Option KV := match guardK ops S o with
 | some false => some (.tup [])
 | _ => hoVal0 I tb S o
def restsOn (i : Nat) : List Edge -> Bool
 | [] => false
 | e :: r => match bindsK e.ground with
  | true => match Nat.beq e.on i with
   | true => true
   | false => restsOn i r
  | false => restsOn i r
def apartP (ops : List Oper) (o o' : Oper) : Bool :=
 (match o.dst with
 | some d => !(memN d (namesK ops o')) && (match o'.dst with
  | some d' => !(Nat.beq d d')
  | none => true)
 | none => true) && (match o'.dst with
 | some d' => !(memN d' (namesK ops o))
 | none => true)
def apartAll (ops : List Oper) (i : Nat) (o : Oper) : List (Nat × Oper) -> Bool
 | [] => true
 | (j, o') :: r => (Nat.beq j i || restsOn i o'.after.toList || apartP ops o o') && apartAll ops i o r
def hoistK (tb : Nat -> Option TI) (ops : List Oper) (S : KSt) (U0 : List (Nat × Oper)) : List (Nat × Oper) -> Option (Nat × Oper)
 | [] => none
 | (i, o) :: r => match freeE U0 o.after.toList && isHo tb ops o S && apartAll ops i o U0 with
  | true => some (i, o)
  | false => hoistK tb ops S U0 r
def noSelK : List Oper -> Bool
 | [] => true
 | o :: r => match o.op with
  | .select _ _ => false
  | _ => noSelK r
def hoistP (tb : Nat -> Option TI) (pz : List Nat) (ops : List Oper) (S : KSt) (U : List (Nat × Oper)) : Option (Nat × Oper) := match memN 7000000 pz && noSelK ops with
 | true => hoistK tb ops S U U
 | false => none
def exK (pz : List Nat) (ops : List Oper) : Nat -> List (Nat × Oper) -> KSt -> σ -> (KSt -> σ -> Prop) -> Prop
 | 0, _, _, _, _ => False
 | n + 1, U, S, s, K => match U with
  | [] => K S s
  | U => match hoistP tb pz ops S U with
   | some (i, o) => I.conj I.rnone (kk (hoVal I tb ops S o) fun res => kif (dstK S o.dst) (exK pz ops n (lessU i U) (S.add o.dst res [] []) s K))
   | none => allR I (fun i o => wantK I ops S o
    (fun S => match isBarK pz o S with
     | true => kif (notVW pz o) (barK I tb pz o S s (freshNK S) (fun S' s' => exK pz ops n (lessU i U) S' s' K))
     | false => freeK I tb pz o S (freshNK S) fun res nh no => kif (freshKH S nh && freshKO S no && dstK S o.dst) (exK pz ops n (lessU i U) (S.add o.dst res nh no) s K))
    (fun S => kif (dstK S o.dst) (exK pz ops n (lessU i U) (S.add o.dst (.tup []) [] []) s K))) U U
def onLt (n : Nat) : List Edge -> Bool
 | [] => true
 | e :: r => Nat.blt e.on n && onLt n r
def onOk (n : Nat) : List Oper -> Bool
 | [] => true
 | o :: r => onLt n o.after.toList && onOk n r
def isExO (o : Oper) : Bool := match o.op with
 | .store _ _ _ => anyText o.after.toList
 | _ => false
def isEx : List Oper -> Bool
 | [] => false
 | o :: r => match isExO o with
  | true => true
  | false => isEx r
def isWr (o : Oper) : Bool := match (match o.op with | .store _ _ _ => true | .mapUpdate _ _ _ _ => true | _ => false) with
 | true => match o.guard with
  | none => match o.dst with
   | none => true
   | some _ => false
  | some _ => false
 | false => false
def isPure (o : Oper) : Bool := match o.op with
 | .move _ => true
 | .assign _ => true
 | .convert _ _ _ => true
 | _ => false
def pureH (o : Oper) (H : List (Nat × KBlk)) : List (Nat × KBlk) := match isPure o with
 | true => []
 | false => H
def pureO (o : Oper) (O : List (Nat × KRow)) : List (Nat × KRow) := match isPure o with
 | true => []
 | false => O
def freeN : List Oper -> Nat
 | [] => 0
 | o :: r => match isWr o with
  | true => 0
  | false => freeN r + 1
def allWr : List Oper -> Bool
 | [] => true
 | o :: r => match isWr o with
  | true => allWr r
  | false => false
def posN (i : Nat) : List Nat -> Nat
 | [] => 0
 | k :: r => match Nat.beq k i with
  | true => 0
  | false => posN i r + 1
def renO (f : Nat -> Nat) (o : Oper) : Oper := { o with after := o.after.map fun e => { e with on := f e.on }, guard := match o.guard with
 | some g => some (f g.1, g.2)
 | none => none }
def selW (b : Bool) (i : Nat) : List Oper -> List Nat
 | [] => []
 | o :: r => match (match isWr o, b with | true, true => true | false, false => true | _, _ => false) with
  | true => i :: selW b (i + 1) r
  | false => selW b (i + 1) r
def ordW (i : Nat) (ops : List Oper) : List Nat := selW false i ops ++ selW true i ops
def dropW (ops : List Oper) : List Edge -> List Edge
 | [] => []
 | e :: r => match nth ops e.on with
  | some o => match isWr o with
   | true => dropW ops r
   | false => e :: dropW ops r
  | none => e :: dropW ops r
def offA (ops : List Oper) (o : Oper) : Array Edge := match isWr o with
 | true => o.after
 | false => (dropW ops o.after.toList).toArray
def backL (i : Nat) : List Edge -> Bool
 | [] => true
 | e :: r => match Region.binds .any e with
  | true => Nat.blt e.on i && backL i r
  | false => backL i r
def backOk (i : Nat) : List Oper -> Bool
 | [] => true
 | o :: r => backL i o.after.toList && backOk (i + 1) r
def permL (ops : List Oper) (ord : List Nat) : List Nat -> List Oper
 | [] => []
 | k :: r => match nth ops k with
  | some o => renO (fun i => posN i ord) { o with after := offA ops o } :: permL ops ord r
  | none => permL ops ord r
def permA (ops : Array Oper) : Array Oper := (permL ops.toList (ordW 0 ops.toList) (ordW 0 ops.toList)).toArray
def drawFK (pz : List Nat) (ops : List Oper) : Nat -> List Oper -> Nat -> KSt -> List (Nat × SgK) -> KSt -> σ -> (KSt -> List (Nat × SgK) -> Prop) -> Prop
 | 0, rest, i, S0, Rs, S, s, K => K S Rs
 | n + 1, [], i, S0, Rs, S, s, K => False
 | n + 1, o :: rest, i, S0, Rs, S, s, K => wantK I ops S o
   (fun S => freeK I tb pz o ⟨S.n, restrK S.T (namesK ops o), pureH o S0.H, pureO o S0.O, S.low⟩ (freshNK S) fun res nh no =>
    kif (freshKH S nh && freshKO S no && freshKH S0 nh && freshKO S0 no && dstK S o.dst && okNew ops i ⟨res, nh, no⟩ Rs) (drawFK pz ops n rest (i + 1) S0 ((i, ⟨res, nh, no⟩) :: Rs) (S.add o.dst res nh no) s K))
   (fun S => kif (dstK S o.dst && okNew ops i ⟨.tup [], [], []⟩ Rs) (drawFK pz ops n rest (i + 1) S0 ((i, ⟨.tup [], [], []⟩) :: Rs) (S.add o.dst (.tup []) [] []) s K))
def madeBy (b : Nat) (D : List Nat) (i : Nat) : List (Nat × SgK) -> Bool
 | [] => false
 | (j, g) :: r => match memN b (ks g.nh) with
  | true => (D.getD i 0).testBit j
  | false => madeBy b D i r
def onlyBy (b : Nat) (D : List Nat) (i : Nat) : List (Nat × SgK) -> Bool
 | [] => true
 | (j, g) :: r => match memN b (ks g.nh) with
  | true => (D.getD i 0).testBit j && onlyBy b D i r
  | false => onlyBy b D i r
def notIn (b : Nat) (D : List Nat) (p : Nat) : List (Nat × SgK) -> Bool
 | [] => true
 | (j, g) :: r => match memN b (ks g.nh) with
  | true => !(D.getD p 0).testBit j && notIn b D p r
  | false => notIn b D p r
def pureAt (ops : List Oper) (p : Nat) : Bool := match nth ops p with
 | some o => isPure o
 | none => false
def unreadW (b : Nat) (D : List Nat) (i : Nat) (ops : List Oper) (Rs : List (Nat × SgK)) : Nat -> Bool
 | 0 => true
 | p + 1 => ((D.getD i 0).testBit p || notIn b D p Rs || pureAt ops p) && unreadW b D i ops Rs p
def ownW (b : Nat) (D : List Nat) (i : Nat) (ops : List Oper) (n : Nat) (Rs : List (Nat × SgK)) : Bool := madeBy b D i Rs && onlyBy b D i Rs && unreadW b D i ops Rs n
def purW (D : List Nat) (i : Nat) (ops : List Oper) : Nat -> Bool
 | 0 => true
 | p + 1 => ((D.getD i 0).testBit p || (match nth ops p with | some o => isPure o | none => false)) && purW D i ops p
def wrK (ops : List Oper) (D : List Nat) (n : Nat) (H0 : List Nat) (O0 : List Nat) (Rs : List (Nat × SgK)) : List Oper -> Nat -> List Nat -> List Nat -> KSt -> σ -> (KSt -> Prop) -> Prop
 | [], i, bs, rs, S, s, K => K S
 | o :: r, i, bs, rs, S, s, K => match o.op with
  | .store t p x => kk (kop S.T p) fun c => kk (kop S.T x) fun d => kk (cellsK d) fun cs => kk (tb t) fun ti => kif (Nat.beq ti.sz (lenK cs)) (match c with
   | .loc b off => kk (lk S.H b) fun B => kif (B.live && allD B.cells && allD cs && Nat.ble (off + lenK cs) (lenK B.cells) && !memN b bs && !memN b H0 && ownW b D i ops n Rs) (wrK ops D n H0 O0 Rs r (i + 1) (b :: bs) rs ⟨S.n, S.T, stA S.H b ⟨B.e, putK B.cells off cs, true⟩, S.O, S.low⟩ s K)
   | .oloc id sz ix j => kk (lk S.O id) fun R => kif (R.live && Nat.beq R.sz sz && Nat.ble (j + lenK cs) sz && allD cs && !memN id rs && memN id O0 && purW D i ops n) (I.conj (I.inb ix (I.plen R.ps)) (I.setl R.ps sz ix j cs fun ps => wrK ops D n H0 O0 Rs r (i + 1) bs (id :: rs) ⟨S.n, S.T, S.H, stA S.O id ⟨R.e, R.sz, ps, R.nn, true⟩, S.low⟩ s K))
   | _ => False)
  | .mapUpdate t m k x => kk (kop S.T m) fun c => kk (kop S.T k) fun kc => kk (kop S.T x) fun v => kk (tb t) fun ti => kk ti.mp fun tr => kk (tb tr.1) fun ki => kif (okDat kc && okDat v) (match c with
   | .osl id => kk (lk S.O id) fun R => kif (R.live && Nat.beq R.sz 0 && R.nn && !memN id rs && memN id O0 && purW D i ops n) (I.mset (kun ki) R.ps kc v fun ps => wrK ops D n H0 O0 Rs r (i + 1) bs (id :: rs) ⟨S.n, S.T, S.H, stA S.O id ⟨R.e, R.sz, ps, R.nn, true⟩, S.low⟩ s K)
   | _ => False)
  | _ => False
def wOk (ops : Array Oper) : Bool := depOk ops (depsK ops.toList []) && apartB ops (depsK ops.toList []) 0 ops.size && allWr (ops.toList.drop (freeN ops.toList))
def drawW (pz : List Nat) (ops : Array Oper) (S : KSt) (s : σ) (K : KSt -> σ -> Prop) : Prop :=
 kif (wOk ops) (drawFK I tb pz ops.toList (freeN ops.toList) ops.toList 0 S [] S s fun S' Rs => wrK I tb ops.toList (depsK ops.toList []) (freeN ops.toList) (ks S.H) (ks S.O) Rs (ops.toList.drop (freeN ops.toList)) (freeN ops.toList) [] [] S' s fun S'' => K S'' s)
def segsOk (ops : Array Oper) (B : List Nat) : List Oper -> Nat -> Nat -> Bool
 | [], m, c => apartB ops B m c && laterB ops B m c && Nat.ble (m + c) ops.size
 | o :: r, m, c => match isBarS ops.toList o with
  | true => apartB ops B m c && laterB ops B m c && apartB ops B (m + c) 1 && laterB ops B (m + c) 1 && Nat.ble (m + c + 1) ops.size && segsOk ops B r (m + c + 1) 0
  | false => segsOk ops B r m (c + 1)
def drawOk (ops : Array Oper) : Bool := depOk ops (depsK ops.toList []) && segsOk ops (depsK ops.toList []) ops.toList 0 0
def markC (pz : List Nat) : Operand -> Bool
 | .tmp t => memN (t + 2000000) pz
 | _ => false
def wpK (pz : List Nat) : Code -> KSt -> σ -> (Exit -> KSt -> σ -> Prop) -> Prop
 | .seq x y, S, s, Q => wpK pz x S s (thenK (fun S' s' => wpK pz y S' s' Q) Q)
 | .skip, S, s, Q => Q .normal S s
 | .label _, S, s, Q => Q .normal S s
 | .exit id, S, s, Q => Q (.exit id) S s
 | .goto l, S, s, Q => Q (.goto l) S s
 | .ret, S, s, Q => Q .ret S s
 | .block id c, S, s, Q => wpK pz c S s (blkK id Q)
 | .cond c x y, S, s, Q => kk (kop S.T c) fun v => match v with
  | .tt => wpK pz x S s Q
  | .ff => wpK pz y S s Q
  | .bool b => match markC pz c with
   | true => I.W (.cond c x y) S s Q
   | false => I.tst b (wpK pz x (S.lit c .tt) s Q) (wpK pz y (S.lit c .ff) s Q)
  | _ => False
 | .region id ops false, S, s, Q => match memN (id + 1000000) pz with
  | true => I.W (.region id ops false) S s Q
  | false => opsK I tb pz ops.toList ops.toList S s (Q .normal)
 | .region id ops true, S, s, Q => match memN (id + 1000000) pz with
  | true => I.W (.region id ops true) S s Q
  | false => match isEx ops.toList with
  | true => match memN (id + 3000000) pz with
   | true => kif (backOk 0 ops.toList) (drawW I tb (pzOf pz ops.toList) (permA ops) S s (Q .normal))
   | false => match memN (id + 4000000) pz with
    | true => kif (drawOk ops) (drawK I tb (pzOf pz ops.toList) ops.toList ops.toList 0 S [] S s (Q .normal))
    | false => exK I tb (pzOf pz ops.toList) ops.toList (lenK ops.toList + 1) (enumU 0 ops.toList) S s (Q .normal)
  | false => match memN (id + 8000000) pz with
   | true => kif (onOk (lenK ops.toList) ops.toList) (exK I tb (pzOf pz ops.toList) ops.toList (lenK ops.toList + 1) (enumU 0 ops.toList) S s (Q .normal))
   | false => drawK I tb (pzOf pz ops.toList) ops.toList ops.toList 0 S [] S s (Q .normal)
 | .scope c, S, s, Q => wpK pz c S s (scopeK Q)
 | c, S, s, Q => I.W c S s Q
end
def drawsOk (pz : List Nat) : Code -> Bool
 | .seq x y => drawsOk pz x && drawsOk pz y
 | .cond _ x y => drawsOk pz x && drawsOk pz y
 | .block _ c => drawsOk pz c
 | .scope c => drawsOk pz c
 | .region id ops true => match isEx ops.toList with
  | true => ops.toList.all fun o => o.after.toList.all fun e => Nat.blt e.on ops.size
  | false => memN (id + 8000000) pz || drawOk ops
 | _ => true
end Go.Proofs.Ytfilnnbfppokmaa.Aw
namespace Go.Proofs.Ytfilnnbfppokmaa.Aw
open Go Go.RowKit
universe u
theorem constK_spec {v : Value} {c : KV} (h : constK v = some c) : constAV v = some c.av := by
 cases v with
 | int k n => simp [constK] at h; subst h; rfl
 | bool b => cases b <;> (simp [constK] at h; subst h; rfl)
 | string s => simp [constK] at h; subst h; rfl
 | nilFunc => simp [constK] at h; subst h; rfl
 | map m => cases m with
  | none => simp [constK] at h; subst h; rfl
  | some m => simp [constK] at h
 | pointer m => cases m with
  | none => simp [constK] at h; subst h; rfl
  | some m => simp [constK] at h
 | slice ad n k =>
  cases ad with
  | some ad => simp [constK] at h
  | none =>
   cases n with
   | succ n => simp [constK] at h
   | zero =>
    cases k with
    | succ k => simp [constK] at h
    | zero => simp [constK] at h; subst h; rfl
 | _ => simp [constK] at h
theorem kop_spec {T : List (Nat × KV)} {x : Operand} {c : KV} (h : kop T x = some c) : opnd (mapT T) x = some c.av := by
 cases x with
 | tmp t => simp only [kop] at h; simp only [opnd, look_mapT, h, Option.map_some]
 | const v => exact constK_spec h
 | func f => simp only [kop, Option.some.injEq] at h; subst h; rfl
 | global g => simp [kop] at h
theorem kopL_spec {T : List (Nat × KV)} : ∀ {l : List Operand} {cs : List KV}, kopL T l = some cs -> opndL (mapT T) l = some (KV.avL cs)
 | [], cs, h => by simp [kopL] at h; subst h; rfl
 | x :: r, cs, h => by
  simp only [kopL] at h
  cases h1 : kop T x with
  | none => rw [h1] at h; cases h
  | some c =>
   cases h2 : kopL T r with
   | none => rw [h1, h2] at h; cases h
   | some l =>
    rw [h1, h2] at h
    simp only [Option.some.injEq] at h; subst h
    simp only [opndL, kop_spec h1, kopL_spec h2, KV.avL]
theorem partsK_spec {T : List (Nat × KV)} : ∀ {l : List (Nat × Operand)} {ps : List (Nat × KV)}, partsK T l = some ps -> partsA (mapT T) l = some (mapT ps)
 | [], cs, h => by simp [partsK] at h; subst h; rfl
 | (i, x) :: r, cs, h => by
  simp only [partsK] at h
  cases h1 : kop T x with
  | none => rw [h1] at h; cases h
  | some c =>
   cases h2 : partsK T r with
   | none => rw [h1, h2] at h; cases h
   | some l =>
    rw [h1, h2] at h
    simp only [Option.some.injEq] at h; subst h
    simp only [partsA, kop_spec h1, partsK_spec h2, mapT]
theorem cellsK_spec {c : KV} {cs : List KV} (h : cellsK c = some cs) : avCells c.av = some (KV.avL cs) := by
 cases c with
 | d x => cases x <;> simp [cellsK] at h <;> subst h <;> rfl
 | _ => simp [cellsK] at h <;> subst h <;> rfl
theorem numK_spec {c : KV} {f : Bool} {k : IntKind} {n : Int} (h : numK c = some (f, k, n)) : c.av = .d (.int k n) := by
 cases c <;> simp [numK] at h <;> (obtain ⟨_, rfl, rfl⟩ := h; rfl)
theorem boolK_spec {c : KV} {b : Bool} (h : boolK c = some b) : c.av = .d (.bool b) := by
 cases c <;> simp [boolK] at h <;> (subst h; rfl)
theorem fnK_spec {c : KV} {f : Nat} {cs : List KV} (h : fnK c = some (f, cs)) : fnOf c.av = some (f, KV.avL cs) := by
 cases c with
 | fn g l => simp [fnK] at h; obtain ⟨rfl, rfl⟩ := h; rfl
 | dfn g l =>
  simp only [fnK] at h
  split at h
  ·rename_i hd
   simp only [Option.some.injEq, Prod.mk.injEq] at h; obtain ⟨rfl, rfl⟩ := h
   simp only [KV.av, fnOf, allD_av hd]
  ·cases h
 | _ => simp [fnK] at h
theorem litN_spec {c : KV} {n : Nat} (h : litN c = some n) : ∃ k, c.av = .d (.int k (n : Int)) := by
 cases c with
 | lit k m => cases m with
  | ofNat m => simp [litN] at h; subst h; exact ⟨k, rfl⟩
  | negSucc m => simp [litN] at h
 | _ => simp [litN] at h
theorem putK_spec (cells : List KV) (off : Nat) (cs : List KV) : KV.avL (putK cells off cs) = putL (KV.avL cells) off (KV.avL cs) := by
 simp only [putK, putL, avL_app, avL_take, avL_drop, avL_len]
theorem atK_eq (pl : Pl) (i : Nat) : pl.atK i = pl.at i := by cases pl <;> simp [Pl.atK, Pl.at, nth_eq]
theorem fillK_spec {pl : Pl} : ∀ {ps : List (Nat × KV)} {cells cs : List KV}, fillK pl cells ps = some cs -> fillA pl.at (KV.avL cells) (mapT ps) = some (KV.avL cs)
 | [], cells, cs, h => by simp [fillK] at h; subst h; rfl
 | (i, c) :: r, cells, cs, h => by
  simp only [fillK] at h
  split at h
  ·rename_i off n h1
   split at h
   ·rename_i us h2
    split at h
    ·rename_i h3
     rw [atK_eq] at h1
     simp only [mapT, fillA, h1, cellsK_spec h2, avL_len]
     rw [if_pos h3, <- putK_spec]
     exact fillK_spec h
    ·cases h
   ·cases h
  ·cases h
theorem mapK_spec {f : KV -> Option KV} {g : AV -> Option D} (hf : ∀ c v, f c = some v -> g c.av = some v.toD) : ∀ {cs vs : List KV}, mapK f cs = some vs -> (KV.avL cs).mapM g = some (KV.toDL vs)
 | [], vs, h => by simp [mapK] at h; subst h; rfl
 | c :: r, vs, h => by
  simp only [mapK] at h
  cases h1 : f c with
  | none => rw [h1] at h; cases h
  | some v =>
   cases h2 : mapK f r with
   | none => rw [h1, h2] at h; cases h
   | some l =>
    rw [h1, h2] at h
    simp only [Option.some.injEq] at h; subst h
    simp [KV.avL, KV.toDL, List.mapM_cons, hf c v h1, mapK_spec hf h2]
theorem omap_spec {α β : Type u} {x : Option α} {f : α -> β} {b : β} (h : omap x f = some b) : ∃ a, x = some a /\ b = f a := by
 cases x with
 | none => cases h
 | some a => cases h; exact ⟨a, rfl, rfl⟩
theorem rowKV_toD (R : KRow) : (rowKV R).toD = .sl false R.sz (rowsD R.sz R.ps) := by
 unfold rowKV
 split
 ·rename_i α d l f h; simp [h, KV.toD, rowsD, KP.rows]
 ·rename_i rows h; simp [h, KV.toD, rowsD, KP.rows]
 ·rfl
theorem mapRows_eq (ps : List KP) : mapRows ps = rowsD 0 ps := by
 unfold mapRows
 split
 ·simp [rowsD, KP.rows]
 ·rfl
theorem mapKV_toD (ps : List KP) : (mapKV ps).toD = .map (rowsD 0 ps) := by
 unfold mapKV
 split
 ·simp [KV.toD, rowsD, KP.rows]
 ·simp only [KV.toD, mapRows_eq]
theorem rowSn_spec {R : KRow} {v : KV} (h : rowSn R = some v) : rowDt R.row = some v.toD := by
 unfold rowSn at h
 split at h
 ·rename_i h0
  cases h
  rw [Nat.blt_eq] at h0
  rw [rowKV_toD]
  exact if_pos h0
 ·rename_i h0
  split at h
  ·rename_i hn
   cases h
   have h0' : ¬ 0 < R.sz := fun x => by
    have y : Nat.blt 0 R.sz = true := by rw [Nat.blt_eq]; exact x
    rw [y] at h0; cases h0
   have hz : R.sz = 0 := by omega
   have e : rowDt R.row = some (.map R.row.rows) := by
    unfold rowDt
    rw [if_neg (show ¬ 0 < R.row.sz from h0'), if_pos (show R.row.nn = true from hn)]
   rw [e, mapKV_toD]
   show some (D.map (rowsD R.sz R.ps)) = _
   rw [hz]
  ·cases h
theorem liveOk_spec {lv live : Bool} (h : liveOk lv live = true) : (live && !lv) = false := by cases lv <;> cases live <;> simp_all [liveOk]
theorem snapK_spec {lv : Bool} {S : KSt} : ∀ (n : Nat) (c v : KV), snapK lv S n c = some v -> snap lv S.st n c.av = some v.toD
 | 0, c, v, h => by simp [snapK] at h
 | n + 1, c, v, h => by
  have ih := snapK_spec (lv := lv) (S := S) n
  have other : c.isD = true -> some c = some v -> snap lv S.st (n + 1) c.av = some v.toD := by
   intro hd e
   cases e
   rw [KV.isD_av hd]
   have := KV.isD_agg hd
   cases hx : c.toD with
   | agg l => exact absurd hx (this l)
   | _ => rfl
  unfold snapK at h
  split at h
  ·obtain ⟨vs, h1, rfl⟩ := omap_spec h
   simp only [KV.av, snap, mapK_spec ih h1, Option.map_some, KV.toD]
  ·obtain ⟨vs, h1, rfl⟩ := omap_spec h
   simp only [KV.av, snap, mapK_spec ih h1, Option.map_some, KV.toD]
  ·rename_i b off
   split at h
   ·rename_i B hB
    split at h
    ·rename_i hl
     obtain ⟨vs, h1, rfl⟩ := omap_spec h
     have h2 : look S.st.H b = some B.blk := by simp only [KSt.st, look_mapH, hB, Option.map_some]
     simp only [KV.av, snap, h2]
     rw [show (B.blk.live && !lv) = false from liveOk_spec hl]
     simp only [Bool.false_eq_true, if_false]
     rw [show B.blk.cells = KV.avL B.cells from rfl, mapK_spec ih h1]
     simp only [Option.map_some, KV.toD, toDL_drop]
    ·cases h
   ·cases h
  ·rename_i id
   split at h
   ·rename_i R hR
    split at h
    ·rename_i hl
     have h2 : look S.st.O id = some R.row := by simp only [KSt.st, look_mapO, hR, Option.map_some]
     simp only [KV.av, snap, h2]
     rw [show (R.row.live && !lv) = false from liveOk_spec hl]
     simp only [Bool.false_eq_true, if_false]
     exact rowSn_spec h
    ·cases h
   ·cases h
  ·cases h; rfl
  ·cases h; rfl
  ·cases h; rfl
  ·split at h
   ·rename_i hd; exact other hd h
   ·cases h
theorem snapL_spec' {lv : Bool} {S : KSt} : ∀ {cs vs : List KV}, mapK (snapK lv S 8) cs = some vs -> snapL lv S.st (KV.avL cs) = some (KV.toDL vs)
 | [], vs, h => by simp [mapK] at h; subst h; rfl
 | c :: r, vs, h => by
  simp only [mapK] at h
  cases h1 : snapK lv S 8 c with
  | none => rw [h1] at h; cases h
  | some v =>
   cases h2 : mapK (snapK lv S 8) r with
   | none => rw [h1, h2] at h; cases h
   | some l =>
    rw [h1, h2] at h
    simp only [Option.some.injEq] at h; subst h
    simp only [KV.avL, snapL, snapK_spec 8 c v h1, snapL_spec' h2, KV.toDL]
theorem snapL_app {lv : Bool} {S : St} : ∀ {cs : List AV} {xs : List D} {ds : List D}, snapL lv S cs = some xs -> noAggD ds = true -> snapL lv S (cs ++ ds.map .d) = some (xs ++ ds)
 | [], xs, ds, h, hd => by
  simp [snapL] at h; subst h
  simp only [List.nil_append]
  induction ds with
  | nil => rfl
  | cons x r ih =>
   have hx : snap lv S 8 (.d x) = some x := by
    cases x with
    | agg l => cases hd
    | _ => rfl
   have hr : noAggD r = true := by
    cases x with
    | agg l => cases hd
    | _ => exact hd
   simp only [List.map_cons, snapL, hx, ih hr]
 | c :: r, xs, ds, h, hd => by
  simp only [snapL] at h
  cases h1 : snap lv S 8 c with
  | none => rw [h1] at h; cases h
  | some x =>
   cases h2 : snapL lv S r with
   | none => rw [h1, h2] at h; cases h
   | some l =>
    rw [h1, h2] at h
    simp only [Option.some.injEq] at h; subst h
    simp only [List.cons_append, snapL, h1, snapL_app h2 hd]
mutual
theorem sh_av (q : Nat) : ∀ (c : KV), (c.sh q).av = c.av.sh q
 | .agg cs => by simp only [KV.sh, KV.av, AV.sh, shL_av q cs]
 | .tup cs => by simp only [KV.sh, KV.av, AV.sh, shL_av q cs]
 | .osl id => rfl
 | .any | .int _ _ | .lit _ _ | .bool _ | .tt | .ff | .str _ | .fn _ _ | .dfn _ _ | .bfn _ _ | .nilfn | .nilsl | .nilmap | .nilptr | .ptr _ | .sl _ _ _ _ _ _ | .slr _ _ _ | .mp _ _ _ _ | .d _ | .loc _ _ | .oloc _ _ _ _ | .yld => by simp only [KV.sh, KV.av, AV.sh]
theorem shL_av (q : Nat) : ∀ (cs : List KV), KV.avL (KV.shL q cs) = AV.shL q (KV.avL cs)
 | [] => rfl
 | c :: r => by simp only [KV.shL, KV.avL, AV.shL, sh_av q c, shL_av q r]
end
mutual
theorem below_av (n : Nat) : ∀ (c : KV), c.rowsBelow n = true -> c.av.rowsBelow n = true
 | .agg cs, h => by simp only [KV.rowsBelow] at h; simp only [KV.av, AV.rowsBelow]; exact belowL_av n cs h
 | .tup cs, h => by simp only [KV.rowsBelow] at h; simp only [KV.av, AV.rowsBelow]; exact belowL_av n cs h
 | .osl id, h => h
 | .fn _ _, h => by simp [KV.rowsBelow] at h
 | .loc _ _, h => by simp [KV.rowsBelow] at h
 | .oloc _ _ _ _, h => by simp [KV.rowsBelow] at h
 | .yld, h => by simp [KV.rowsBelow] at h
 | .any, _ | .int _ _, _ | .lit _ _, _ | .bool _, _ | .tt, _ | .ff, _ | .str _, _ | .dfn _ _, _ | .bfn _ _, _ | .nilfn, _ | .nilsl, _ | .nilmap, _ | .nilptr, _ | .ptr _, _ | .sl _ _ _ _ _ _, _ | .slr _ _ _, _ | .mp _ _ _ _, _ | .d _, _ => by simp only [KV.av, AV.rowsBelow]
theorem belowL_av (n : Nat) : ∀ (cs : List KV), KV.rowsBelowL n cs = true -> AV.rowsBelowL n (KV.avL cs) = true
 | [], _ => rfl
 | c :: r, h => by
  simp only [KV.rowsBelowL] at h
  cases h1 : c.rowsBelow n with
  | false => rw [h1] at h; cases h
  | true =>
   rw [h1] at h
   simp only [KV.avL, AV.rowsBelowL, below_av n c h1, belowL_av n r h, Bool.and_self]
end
mutual
theorem scalar_av : ∀ (c : KV), c.scalar = true -> c.av.scalar = true
 | .agg cs, h => by simp only [KV.scalar] at h; simp only [KV.av, AV.scalar]; exact scalarL_av cs h
 | .tup cs, h => by simp only [KV.scalar] at h; simp only [KV.av, AV.scalar]; exact scalarL_av cs h
 | .int _ _, _ | .lit _ _, _ | .bool _, _ | .tt, _ | .ff, _ | .str _, _ => by simp only [KV.av, AV.scalar]
 | .osl _, h | .fn _ _, h | .loc _ _, h | .oloc _ _ _ _, h | .yld, h | .any, h | .dfn _ _, h | .bfn _ _, h | .nilfn, h | .nilsl, h | .nilmap, h | .nilptr, h | .ptr _, h | .sl _ _ _ _ _ _, h | .slr _ _ _, h | .mp _ _ _ _, h | .d _, h => by simp [KV.scalar] at h
theorem scalarL_av : ∀ (cs : List KV), KV.scalarL cs = true -> AV.scalarL (KV.avL cs) = true
 | [], _ => rfl
 | c :: r, h => by
  simp only [KV.scalarL] at h
  cases h1 : c.scalar with
  | false => rw [h1] at h; cases h
  | true =>
   rw [h1] at h
   simp only [KV.avL, AV.scalarL, scalar_av c h1, scalarL_av r h, Bool.and_self]
end
mutual
theorem ownly_av : ∀ (c : KV), c.ownly = true -> c.av.ownly = true
 | .agg cs, h => by simp only [KV.ownly] at h; simp only [KV.av, AV.ownly]; exact ownlyL_av cs h
 | .tup cs, h => by simp only [KV.ownly] at h; simp only [KV.av, AV.ownly]; exact ownlyL_av cs h
 | .int _ _, _ | .lit _ _, _ | .bool _, _ | .tt, _ | .ff, _ | .str _, _ | .osl _, _ => by simp only [KV.av, AV.ownly]
 | .fn _ _, h | .loc _ _, h | .oloc _ _ _ _, h | .yld, h | .any, h | .dfn _ _, h | .bfn _ _, h | .nilfn, h | .nilsl, h | .nilmap, h | .nilptr, h | .ptr _, h | .sl _ _ _ _ _ _, h | .slr _ _ _, h | .mp _ _ _ _, h | .d _, h => by simp [KV.ownly] at h
theorem ownlyL_av : ∀ (cs : List KV), KV.ownlyL cs = true -> AV.ownlyL (KV.avL cs) = true
 | [], _ => rfl
 | c :: r, h => by
  simp only [KV.ownlyL] at h
  cases h1 : c.ownly with
  | false => rw [h1] at h; cases h
  | true =>
   rw [h1] at h
   simp only [KV.avL, AV.ownlyL, ownly_av c h1, ownlyL_av r h, Bool.and_self]
end
theorem enumK_spec : ∀ (q : Nat) (rows : List KRow), mapO (enumK q rows) = enumR q (rows.map KRow.row)
 | _, [] => rfl
 | q, R :: r => by simp only [enumK, mapO, List.map_cons, enumR, enumK_spec (q + 1) r]
theorem nbeq (k b : Nat) : (k == b) = Nat.beq k b := by
 by_cases e : k = b
 ·subst e; simp
 ·cases h : Nat.beq k b with
  | true => exact absurd (Nat.eq_of_beq_eq_true h) e
  | false => simp [e]
mutual
theorem boxes_av (b : Nat) : ∀ (c : KV), c.av.box b = c.boxes b
 | .agg cs => by simp only [KV.av, AV.box, KV.boxes, boxesL_av b cs]
 | .tup cs => by simp only [KV.av, AV.box, KV.boxes, boxesL_av b cs]
 | .fn _ cs => by simp only [KV.av, AV.box, KV.boxes, boxesL_av b cs]
 | .loc k _ => by simp only [KV.av, AV.box, KV.boxes]; exact nbeq k b
 | .any | .int _ _ | .lit _ _ | .bool _ | .tt | .ff | .str _ | .dfn _ _ | .bfn _ _ | .nilfn | .nilsl | .nilmap | .nilptr | .ptr _ | .sl _ _ _ _ _ _ | .slr _ _ _ | .mp _ _ _ _ | .d _ | .osl _ | .oloc _ _ _ _ | .yld => by simp only [KV.av, AV.box, KV.boxes]
theorem boxesL_av (b : Nat) : ∀ (cs : List KV), AV.boxL b (KV.avL cs) = KV.boxesL b cs
 | [] => rfl
 | c :: r => by
  simp only [KV.avL, AV.boxL, KV.boxesL, boxes_av b c, boxesL_av b r]
  cases c.boxes b <;> simp
end
mutual
theorem hasRow_av (b : Nat) : ∀ (c : KV), c.av.hasRow b = c.hasRow b
 | .agg cs => by simp only [KV.av, AV.hasRow, KV.hasRow, hasRowL_av b cs]
 | .tup cs => by simp only [KV.av, AV.hasRow, KV.hasRow, hasRowL_av b cs]
 | .fn _ cs => by simp only [KV.av, AV.hasRow, KV.hasRow, hasRowL_av b cs]
 | .osl k => by simp only [KV.av, AV.hasRow, KV.hasRow]; exact nbeq k b
 | .oloc k _ _ _ => by simp only [KV.av, AV.hasRow, KV.hasRow]; exact nbeq k b
 | .any | .int _ _ | .lit _ _ | .bool _ | .tt | .ff | .str _ | .dfn _ _ | .bfn _ _ | .nilfn | .nilsl | .nilmap | .nilptr | .ptr _ | .sl _ _ _ _ _ _ | .slr _ _ _ | .mp _ _ _ _ | .d _ | .loc _ _ | .yld => by simp only [KV.av, AV.hasRow, KV.hasRow]
theorem hasRowL_av (b : Nat) : ∀ (cs : List KV), AV.hasRowL b (KV.avL cs) = KV.hasRowL b cs
 | [] => rfl
 | c :: r => by
  simp only [KV.avL, AV.hasRowL, KV.hasRowL, hasRow_av b c, hasRowL_av b r]
  cases c.hasRow b <;> simp
end
end Go.Proofs.Ytfilnnbfppokmaa.Aw
namespace Go.Proofs.Ytfilnnbfppokmaa.Aw
open Go Go.RowKit
universe u
variable {P : Program} {E : Env P} {base : Nat} {r : Option Nat}
def plenN : List KP -> Nat
 | [] => 0
 | .ls _ _ l _ :: r => l.length + plenN r
 | .rw rows :: r => rows.length + plenN r
 | .raw rows :: r => rows.length + plenN r
 | .mp _ _ l _ :: r => l.length + plenN r
theorem plenN_spec (sz : Nat) : ∀ (ps : List KP), (rowsD sz ps).length = plenN ps
 | [] => rfl
 | .ls _ _ l _ :: r => by simp [rowsD, plenN, KP.rows, plenN_spec sz r]
 | .rw rows :: r => by simp [rowsD, plenN, KP.rows, plenN_spec sz r, toDLL_map]
 | .raw rows :: r => by simp [rowsD, plenN, KP.rows, plenN_spec sz r]
 | .mp _ _ l _ :: r => by simp [rowsD, plenN, KP.rows, plenN_spec sz r]
def strAt (s : ByteArray) (i : Int) : Int := match s[i.toNat]? with
 | some b => b.toNat
 | none => 0
def KQ (Q : Exit -> KSt -> E.σ -> Prop) : Exit -> St -> E.σ -> Prop := fun e S s => ∃ S', Weak S S'.st /\ Q e S' s
def unT : Un -> Option TypeDesc
 | .bool => some .bool
 | .str => some .string
 | .int k => some (.int k)
 | .other => none
 | .flat _ => none
theorem unT_spec {P : Program} {t : Nat} {i : TI} {d : TypeDesc} (hi : TIOk P t i) (h : unT i.un = some d) : P.underlying t = some d := by
 cases hu : i.un <;> rw [hu] at h <;> simp only [unT] at h <;> cases h
 ·exact hi.bool hu
 ·exact hi.str hu
 ·exact hi.int _ hu
def unK : Un -> KeyT -> Prop
 | .flat n, .ag ks => ks.length = n
 | .flat _, _ => False
 | u, .sc d => unT u = some d
 | _, _ => False
theorem unK_spec {P : Program} {t : Nat} {i : TI} {d : KeyT} (hi : TIOk P t i) (h : unK (kun i) d) : KeyOk P t d := by
 unfold kun at h
 cases he : i.eqn with
 | some n =>
  rw [he] at h
  cases d with
  | sc d => exact (show False from h).elim
  | ag ks => have h : ks.length = n := h; subst h; exact ⟨(hi.eqn _ he).1, (hi.eqn _ he).2.1⟩
 | none =>
  rw [he] at h
  cases hu : i.un with
  | flat n => rw [hu] at h; cases d with
   | sc d => exact absurd (show unT .other = some d from h) (by simp [unT])
   | ag ks => exact (show False from h).elim
  | _ =>
   rw [hu] at h
   cases d with
   | sc d => exact unT_spec hi (by rw [hu]; exact h)
   | ag ks => exact (show False from h).elim
theorem okDat_av {c : KV} (h : okDat c = true) : c.av = toAV c.toD := by
 unfold okDat at h
 split at h
 ·simp only [KV.toD, toAV, KV.av, allD_av h]
 ·rw [KV.isD_av h]
  have := KV.isD_agg h
  cases hx : c.toD with
  | agg l => exact absurd hx (this l)
  | _ => rfl
theorem okDat_rd {c : KV} (h : okDat c = true) {w : World} {ok : Nat -> Prop} {μ : Nat -> Option Nat} {ν : Nat -> Option Value} {yl : Nat} {v : Value} (hv : RdA w ok μ ν yl c.av v) : Rd w ok c.toD v := by
 unfold okDat at h
 split at h
 ·rename_i cs
  rw [KV.av, allD_av h] at hv
  rw [KV.toD]
  cases hv with
  | agg _ vs hl h1 hh =>
   refine .agg _ vs (by simpa using hl) h1 (fun i c v hc hv => ?_)
   have := hh i (.d c) v (by rw [List.getElem?_map, hc]; rfl) hv
   cases this with | d h => exact h
 ·rw [KV.isD_av h] at hv
  cases hv with | d h => exact h
theorem idxK'_spec {n : Nat} : ∀ {l : List Nat} {i : Nat}, idxK' n l i = idxN n l i
 | [], _ => rfl
 | k :: r, i => by
  simp only [idxK', idxN]
  by_cases e : k = n
  ·subst e; simp
  ·have : Nat.beq k n = false := by cases h : Nat.beq k n with
    | false => rfl
    | true => exact absurd (Nat.eq_of_beq_eq_true h) e
   simp [this, e, idxK'_spec (l := r)]
theorem lessK_spec (ids : List Nat) : ∀ (O : List (Nat × KRow)), mapO (lessK ids O) = (mapO O).filter fun p => !memN p.1 ids
 | [] => rfl
 | (k, R) :: r => by
  simp only [lessK, mapO, List.filter_cons]
  cases memN k ids <;> simp [mapO, lessK_spec ids r]
def primK (P : Program) (E : Env P) (base : Nat) (r : Option Nat) (post : KV -> List KRow -> Prop) : Prim E.σ where
 iop := iopR
 icmp := icmpR
 oknz := oknzR
 neg k n := k.wrap (0 - n)
 conv k n := k.wrap n
 not b := !b
 beq a b := a == b
 max a b := max a b
 min a b := min a b
 tst b A B := (b = true -> A) /\ (b = false -> B)
 conj A B := A /\ B
 inb i n := 0 <= i /\ i < n
 plen ps := plenN ps
 get _ d l i := l.getD i.toNat d
 sub _ l lo hi := (l.take hi.toNat).drop lo.toNat
 le a b := a <= b
 strlen s := s.size
 strat s i := strAt s i
 strc s p := strC s p
 strn s p := strN s p
 streq a b := a.toList == b.toList
 strcat a b := a ++ b
 strb s := bytesL s
 strl l := strL l
 fits ps bytes := plenN ps * bytes <= 140737488355328 /\ plenN ps <= 140737488355328
 mkok n bytes := 0 <= n /\ (bytes : Int) * n <= 281474976710656 /\ n <= 9223372036854775807
 reps n z := [.ls Unit () (List.replicate n.toNat ()) fun _ j => (nth z j).getD .any]
 C g args K := ∃ res rows, Con P g (KV.toDL args) res.av (rows.map KRow.row) /\ K res rows
 CD g args ds K := ∃ res rows, Con P g (KV.toDL args ++ ds) res.av (rows.map KRow.row) /\ K res rows
 noagg ds := noAggD ds = true
 W c S s Q := AW E base r c S.st s (KQ Q)
 Y s xs K := E.step s (KV.toDL xs) /\ ∀ s' b, E.out s (KV.toDL xs) s' b -> K b s'
 post := post
 eqs := eqI
 norm ps sz K := ∃ ps', rowsD sz ps' = rowsD sz ps /\ K ps'
 mget u ps k z K := ∃ d, unK u d /\ isKeyD d k.toD /\ keysD d (rowsD 0 ps) /\ ∃ v b, v.av = toAV (lkD (rowsD 0 ps) k.toD z.toD) /\ b = lkOk (rowsD 0 ps) k.toD /\ K v b
 mset u ps k v K := ∃ d, unK u d /\ isKeyD d k.toD /\ keysD d (rowsD 0 ps) /\ ∃ ps', rowsD 0 ps' = msetD (rowsD 0 ps) k.toD v.toD /\ K ps'
 mdel u ps k K := ∃ d, unK u d /\ isKeyD d k.toD /\ keysD d (rowsD 0 ps) /\ ∃ ps', rowsD 0 ps' = mdelD (rowsD 0 ps) k.toD /\ K ps'
 nums rows := numRows (rows.map KRow.row)
 mnext _ l Ks Ke := (l = [] -> Ke) /\ ∀ i x, l[i]? = some x -> Ks x (l.eraseIdx i)
 rnone := r = none
 CW g xs Hs Os K := ∃ res Bs Rs, ConW P g (KV.avL xs) (enumB 0 (Hs.map KBlk.blk)) (enumR 100 (Os.map KRow.row)) res.av (enumB 0 (Bs.map KBlk.blk)) (enumR 100 (Rs.map KRow.row)) /\ K res Bs Rs
 CN g xs K := ∃ RR : KRow -> Prop, ConN P g (KV.toDL xs) (.osl 0) 1 (fun rows => ∃ R, (∃ R', RR R' /\ R = R'.row) /\ rows = [R]) /\ ∀ R, RR R -> numRows [R.row] /\ K R
 setl ps sz ix j cs K := ∃ ps', rowsD sz ps' = (rowsD sz ps).set ix.toNat (putG ((rowsD sz ps).getD ix.toNat []) j (KV.toDL cs)) /\ K ps'
theorem AW_weakQ {c : Code} {S : St} {s : E.σ} {Q : Exit -> St -> E.σ -> Prop} (h : AW E base r c S s fun e S' s' => ∃ S'', Weak S' S'' /\ Q e S'' s') : AW E base r c S s Q := by
 intro M a w hc
 refine wpIn_mono (h M a w hc) ?_
 rintro e a' w' ⟨S', s', M', ⟨S'', hw, hq⟩, hc', hx⟩
 obtain ⟨M2, h1, h2⟩ := hw _ _ _ _ _ _ _ hc'
 exact ⟨S'', s', M2, hq, h1, hx.trans h2⟩
variable {post : KV -> List KRow -> Prop} {tb : Nat -> Option TI}
theorem st_look {S : KSt} {t : Nat} : look S.st.T t = (lk S.T t).map KV.av := look_mapT
theorem st_lookH {S : KSt} {t : Nat} : look S.st.H t = (lk S.H t).map KBlk.blk := look_mapH
theorem st_lookO {S : KSt} {t : Nat} : look S.st.O t = (lk S.O t).map KRow.row := look_mapO
theorem kop_st {S : KSt} {x : Operand} {c : KV} (h : kop S.T x = some c) : opnd S.st.T x = some c.av := kop_spec h
theorem sameK_spec {k k' : IntKind} (h : sameK k k' = true) : k = k' := by cases k <;> cases k' <;> first | rfl | cases h
abbrev FreeR (P : Program) (o : Oper) (S : KSt) (K : KV -> List (Nat × KBlk) -> List (Nat × KRow) -> Prop) : Prop := ∃ res nh no, Free P o S.st res.av (mapH nh) (mapO no) /\ K res nh no
theorem freeR_plain {o : Oper} {S : KSt} {K : KV -> List (Nat × KBlk) -> List (Nat × KRow) -> Prop} {res : KV} (h : Free P o S.st res.av [] []) (k : K res [] []) : FreeR P o S K := ⟨res, [], [], h, k⟩
theorem getD_in {α : Type} {d : α} {l : List α} {i : Int} (h0 : 0 <= i) (h1 : i < l.length) : l[i.toNat]? = some (l.getD i.toNat d) := by
 have : i.toNat < l.length := by omega
 simp [List.getD_eq_getElem?_getD, this]
theorem rowD_getD {f : Nat -> KV} : ∀ (n j i : Nat), i < n -> (rowD n j fun j => (f j).toD)[i]? = some (f (j + i)).toD
 | 0, _, i, h => by omega
 | n + 1, j, 0, h => by simp [rowD]
 | n + 1, j, i + 1, h => by
  simp only [rowD, List.getElem?_cons_succ]
  rw [rowD_getD n (j + 1) i (by omega), show j + 1 + i = j + (i + 1) from by omega]
theorem getK_spec {o : Oper} {S : KSt} {t : TypeId} {x : Operand} {i : TI} {id sz j : Nat} {ix : Int} {R : KRow} {α : Type} {d : α} {l : List α} {f : α -> Nat -> KV} {K : KV -> Prop} (ho : o.op = .load t x) (hi : TIOk P t i)
  (hx : opnd S.st.T x = some (.oloc id sz ix.toNat j)) (hR' : look S.st.O id = some R.row) (h1 : R.sz = sz) (hps : R.row.rows = l.map fun a => rowD sz 0 fun j => (f a j).toD)
  (h : getK (primK P E base r post) i sz ix j α d l f K) : ∃ res, Free P o S.st res.av [] [] /\ K res := by
 replace h : (0 <= ix /\ ix < (plenN [KP.ls α d l f] : Int)) /\ _ := h; obtain ⟨hin, h⟩ := h
 have hlen : plenN [KP.ls α d l f] = l.length := by simp [plenN]
 rw [hlen] at hin
 have hrow : R.row.rows[ix.toNat]? = some (rowD sz 0 fun j => (f (l.getD ix.toNat d) j).toD) := by
  rw [hps, List.getElem?_map, getD_in (d := d) hin.1 hin.2]; rfl
 have hx' : opnd S.st.T x = some (.oloc id R.row.sz ix.toNat j) := by rw [show R.row.sz = sz from h1]; exact hx
 cases hag : i.ag with
 | false =>
  rw [hag] at h
  replace h := kif_spec h; obtain ⟨h2, h⟩ := h
  replace h := kif_spec h; obtain ⟨h3, h⟩ := h
  rw [Nat.blt_eq] at h2
  refine ⟨_, ?_, h⟩
  rw [KV.isD_av h3]
  exact free_load_oloc ho hR' hx' (hag ▸ hi.ag) hrow (by rw [rowD_getD _ _ _ h2, Nat.zero_add]; rfl)
 | true =>
  rw [hag] at h
  replace h := kif_spec h; obtain ⟨h2, h⟩ := h
  replace h := kif_spec h; obtain ⟨h3, h⟩ := h
  have h2 := Nat.le_of_ble_eq_true h2
  refine ⟨_, ?_, h⟩
  have e1 : rowD sz 0 (fun j => (f (l.getD ix.toNat d) j).toD) = KV.toDL (rowK sz 0 (f (l.getD ix.toNat d))) := (rowK_toD _ _).symm
  rw [e1] at hrow
  have := free_load_oloc_agg ho hR' hx' (hag ▸ hi.ag) hi.sz hrow (by rw [toDL_len, lenK_eq, rowK_len]; exact h2)
  rw [toDL_drop, toDL_take] at this
  have h4 : allD (takeK i.sz (dropK j (rowK sz 0 (f (l.getD ix.toNat d))))) = true := by
   have : ∀ c ∈ takeK i.sz (dropK j (rowK sz 0 (f (l.getD ix.toNat d)))), c.isD = true := fun c hc => allD_get h3 c (by rw [takeK_eq, dropK_eq] at hc; exact List.mem_of_mem_drop (List.mem_of_mem_take hc))
   revert this
   generalize takeK i.sz (dropK j (rowK sz 0 (f (l.getD ix.toNat d)))) = L
   intro this
   induction L with
   | nil => rfl
   | cons y q ih => simp only [allD, Bool.and_eq_true]; exact ⟨this y (by simp), ih (fun c hc => this c (by simp [hc]))⟩
  rw [<- allD_av h4] at this
  exact this
theorem loadK_spec {o : Oper} {S : KSt} {t : TypeId} {x : Operand} {c : KV} {K : KV -> Prop} (hT : ∀ t i, tb t = some i -> TIOk P t i) (ho : o.op = .load t x) (hx : opnd S.st.T x = some c.av)
  (h : loadK (primK P E base r post) tb t S c K) : ∃ res, Free P o S.st res.av [] [] /\ K res := by
 replace h := kk_spec h; obtain ⟨i, hi, h⟩ := h
 have hi := hT _ _ hi
 split at h
 ·rename_i cs
  have hx : opnd S.st.T x = some (.d (.ptr (KV.toDL cs))) := hx
  cases hag : i.ag with
  | false =>
   rw [hag] at h
   cases cs with
   | nil => exact h.elim
   | cons y l =>
    replace h := kif_spec h; obtain ⟨h1, h⟩ := h
    exact ⟨y, by rw [KV.isD_av h1]; exact free_load_ptr ho hx (hag ▸ hi.ag) rfl, h⟩
  | true =>
   rw [hag] at h
   replace h := kif_spec h; obtain ⟨h1, h⟩ := h
   replace h := kif_spec h; obtain ⟨h2, h⟩ := h
   refine ⟨.agg (takeK i.sz cs), ?_, h⟩
   have := free_load_ptr_agg ho hx (hag ▸ hi.ag) hi.sz (by rw [toDL_len]; exact Nat.le_of_ble_eq_true h1) (noAggD_spec (allD_noAgg h2))
   rwa [show (KV.agg (takeK i.sz cs)).av = .agg (((KV.toDL cs).take i.sz).map .d) from by simp only [KV.av]; rw [<- avL_take, allD_av h2, List.map_take]]
 ·rename_i b off
  replace h := kk_spec h; obtain ⟨B, hB, h⟩ := h
  have hB' : look S.st.H b = some B.blk := by rw [st_lookH, hB]; rfl
  cases hag : i.ag with
  | false =>
   rw [hag] at h
   replace h := kk_spec h; obtain ⟨c, hc, h⟩ := h
   exact ⟨c, free_load_loc ho hx (hag ▸ hi.ag) hB' (by rw [show B.blk.cells = KV.avL B.cells from rfl, nth_avL, hc]; rfl), h⟩
  | true =>
   rw [hag] at h
   replace h := kif_spec h; obtain ⟨h1, h⟩ := h
   refine ⟨_, ?_, h⟩
   have := free_load_loc_agg ho hx (hag ▸ hi.ag) hi.sz hB' (by rw [show B.blk.cells = KV.avL B.cells from rfl, avL_len]; exact Nat.le_of_ble_eq_true h1)
   rwa [show B.blk.cells = KV.avL B.cells from rfl, avL_drop, avL_take] at this
 ·rename_i id sz ix j
  replace h := kk_spec h; obtain ⟨R, hR, h⟩ := h
  replace h := kif_spec h; obtain ⟨h1, h⟩ := h
  have h1 := Nat.eq_of_beq_eq_true h1
  have hR' : look S.st.O id = some R.row := by rw [st_lookO, hR]; rfl
  split at h
  ·rename_i α d l f hps
   exact getK_spec ho hi hx hR' h1 (by simp only [KRow.row, hps, rowsD, KP.rows, List.append_nil, h1]) h
  ·replace h : ∃ ps', rowsD sz ps' = rowsD sz R.ps /\ _ := h; obtain ⟨ps', hp, h⟩ := h
   split at h
   ·rename_i α d l f
    exact getK_spec ho hi hx hR' h1 (by simp only [KRow.row]; rw [h1, <- hp]; simp only [rowsD, KP.rows, List.append_nil]) h
   ·exact h.elim
 ·exact h.elim
theorem fldK_spec {o : Oper} {S : KSt} {s f : Nat} {x : Operand} {c : KV} {K : KV -> Prop} (hT : ∀ t i, tb t = some i -> TIOk P t i) (ho : o.op = .fieldAddr s x f) (hx : opnd S.st.T x = some c.av)
  (h : fldK tb s f c K) : ∃ res, Free P o S.st res.av [] [] /\ K res := by
 replace h := kk_spec h; obtain ⟨i, hi, h⟩ := h
 replace h := kk_spec h; obtain ⟨q, hq, h⟩ := h
 replace h := kif_spec h; obtain ⟨h0, h⟩ := h
 obtain ⟨n, hf⟩ := fldT_pos ((hT _ _ hi).fl _ _ hq) h0
 split at h
 ·rename_i cs
  refine ⟨_, ?_, h⟩
  have := free_fieldAddr_ptr ho (cs := KV.toDL cs) hx hf
  rwa [toDL_drop] at this
 ·refine ⟨_, ?_, h⟩; exact free_fieldAddr_loc ho hx hf
 ·refine ⟨_, ?_, h⟩; exact free_fieldAddr_oloc ho hx hf
 ·exact h.elim
theorem casesN_spec {m : Int} {K : Nat -> Prop} : ∀ {n k : Nat}, casesN (primK P E base r post) m n k K -> (k : Int) <= m -> m < k + n -> K m.toNat
 | 0, k, h, _, _ => h.elim
 | 1, k, h, h1, h2 => by
  have : m.toNat = k := by omega
  rw [this]; exact h
 | n + 2, k, h, h1, h2 => by
  obtain ⟨g1, g2⟩ := (h : ((primK P E base r post).icmp .eql m (Int.ofNat k) = true -> K k) /\ ((primK P E base r post).icmp .eql m (Int.ofNat k) = false -> casesN (primK P E base r post) m (n + 1) (k + 1) K))
  by_cases e : m = Int.ofNat k
  ·have : m.toNat = k := by subst e; rfl
   rw [this]; exact g1 (show (m == Int.ofNat k) = true from by simp [e])
  ·have e' : ¬ m = (k : Int) := e
   exact casesN_spec (g2 (show (m == Int.ofNat k) = false from by simpa using e)) (by omega) (by omega)
theorem idxK_spec {o : Oper} {S : KSt} {t : TypeId} {x ix : Operand} {c d : KV} {K : KV -> Prop} (hT : ∀ t i, tb t = some i -> TIOk P t i) (ho : o.op = .indexAddr t x ix) (hx : opnd S.st.T x = some c.av) (hd : opnd S.st.T ix = some d.av)
  (h : idxK (primK P E base r post) tb t S c d K) : ∃ res, Free P o S.st res.av [] [] /\ K res := by
 replace h := kk_spec h; obtain ⟨i, hi, h⟩ := h
 have hi := hT _ _ hi
 split at h
 ·rename_i clip sz α dd l f
  replace h := kk_spec h; obtain ⟨⟨e, n⟩, hr, h⟩ := h
  replace h := kif_spec h; obtain ⟨h1, h⟩ := h
  have h1 := Nat.eq_of_beq_eq_true h1
  simp only at h1; subst h1
  replace h := kk_spec h; obtain ⟨⟨fl, k, m⟩, hn, h⟩ := h
  replace h : (0 <= m /\ m < (plenN [KP.ls α dd l f] : Int)) /\ _ := h; obtain ⟨⟨h2, h3⟩, h⟩ := h
  refine ⟨_, ?_, h⟩
  have := free_indexAddr ho hx (hd.trans (congrArg some (numK_spec hn))) (hi.el _ hr) h2 (row := rowD n 0 fun j => (f (l.getD m.toNat dd) j).toD) (by rw [List.getElem?_map, getD_in (d := dd) h2 (by simpa [plenN] using h3)]; rfl)
  rwa [<- rowK_toD] at this
 ·rename_i clip sz rows
  replace h := kk_spec h; obtain ⟨⟨e, n⟩, hr, h⟩ := h
  replace h := kif_spec h; obtain ⟨h1, h⟩ := h
  have h1 := Nat.eq_of_beq_eq_true h1
  simp only at h1; subst h1
  replace h := kk_spec h; obtain ⟨m, hn, h⟩ := h
  replace h := kk_spec h; obtain ⟨row, hrow, h⟩ := h
  obtain ⟨k, hk⟩ := litN_spec hn
  refine ⟨_, ?_, h⟩; exact free_indexAddr ho hx (hd.trans (congrArg some hk)) (hi.el _ hr) (by omega) (row := KV.toDL row) (by rw [toDLL_map, List.getElem?_map, <- nth_eq, Int.toNat_natCast, hrow]; rfl)
 ·rename_i id
  replace h := kk_spec h; obtain ⟨⟨e, n⟩, hr, h⟩ := h
  replace h := kk_spec h; obtain ⟨R, hR, h⟩ := h
  replace h := kif_spec h; obtain ⟨h1, h⟩ := h
  have h1 := Nat.eq_of_beq_eq_true h1
  simp only at h1; subst h1
  replace h := kif_spec h; obtain ⟨h0, h⟩ := h
  rw [Nat.blt_eq] at h0
  replace h := kk_spec h; obtain ⟨⟨fl, k, m⟩, hn, h⟩ := h
  replace h : (0 <= m /\ m < (plenN R.ps : Int)) /\ _ := h; obtain ⟨⟨h2, h3⟩, h⟩ := h
  have hR' : look S.st.O id = some R.row := by rw [st_lookO, hR]; rfl
  refine ⟨_, ?_, h⟩; exact free_indexAddr_osl ho hx hR' h0 (hd.trans (congrArg some (numK_spec hn))) (hi.el _ hr) h2 (by rw [show R.row.rows.length = plenN R.ps from plenN_spec _ _]; exact h3)
 ·rename_i b off
  replace h := kk_spec h; obtain ⟨⟨l, e, n⟩, hr, h⟩ := h
  simp only at h
  split at h
  ·rename_i m hn
   replace h := kif_spec h; obtain ⟨h1, h⟩ := h
   rw [Nat.blt_eq] at h1
   obtain ⟨k, hk⟩ := litN_spec hn
   have := free_indexAddr_arr ho hx (hd.trans (congrArg some hk)) (hi.ar _ hr) (by omega) (by omega)
   refine ⟨_, ?_, h⟩; exact by rwa [Int.toNat_natCast] at this
  ·replace h := kk_spec h; obtain ⟨⟨fl, k, m⟩, hn, h⟩ := h
   replace h : (0 <= m /\ m < (Int.ofNat l)) /\ _ := h; obtain ⟨⟨h2, h3⟩, h⟩ := h
   have h3 : m < (l : Int) := h3
   have := free_indexAddr_arr ho hx (hd.trans (congrArg some (numK_spec hn))) (hi.ar _ hr) h2 h3
   have h : casesN (primK P E base r post) m l 0 (fun q => K (.loc b (off + q * n))) := h
   exact ⟨.loc b (off + m.toNat * n), this, casesN_spec h (by omega) (by omega)⟩
 ·rename_i cs
  replace h := kk_spec h; obtain ⟨⟨l, e, n⟩, hr, h⟩ := h
  simp only at h
  split at h
  ·rename_i m hn
   replace h := kif_spec h; obtain ⟨h1, h⟩ := h
   rw [Nat.blt_eq] at h1
   obtain ⟨k, hk⟩ := litN_spec hn
   have := free_indexAddr_parr ho (cs := KV.toDL cs) hx (hd.trans (congrArg some hk)) (hi.ar _ hr) (by omega) (by omega)
   refine ⟨_, ?_, h⟩; exact by rwa [Int.toNat_natCast, toDL_drop] at this
  ·replace h := kk_spec h; obtain ⟨⟨fl, k, m⟩, hn, h⟩ := h
   replace h : (0 <= m /\ m < (Int.ofNat l)) /\ _ := h; obtain ⟨⟨h2, h3⟩, h⟩ := h
   have h3 : m < (l : Int) := h3
   have := free_indexAddr_parr ho (cs := KV.toDL cs) hx (hd.trans (congrArg some (numK_spec hn))) (hi.ar _ hr) h2 h3
   have h : casesN (primK P E base r post) m l 0 (fun q => K (.ptr (dropK (q * n) cs))) := h
   exact ⟨.ptr (dropK (m.toNat * n) cs), by rwa [toDL_drop] at this, casesN_spec h (by omega) (by omega)⟩
 ·exact h.elim
theorem intsK_spec : ∀ {cs : List KV} {l : List (IntKind × Int)}, intsK cs = some l -> KV.avL cs = intsC l
 | [], l, h => by simp only [intsK, Option.some.injEq] at h; subst h; rfl
 | c :: q, l, h => by
  unfold intsK at h
  split at h
  ·rename_i la k n hc
   split at h
   ·rename_i l' hl
    simp only [Option.some.injEq] at h; subst h
    simp only [KV.avL, intsC, intsK_spec hl, numK_spec hc]
   ·cases h
  ·cases h
theorem kindsK_spec : ∀ {l m : List (IntKind × Int)}, kindsK l m = true -> kindsEq l m = true
 | [], [], _ => rfl
 | (k, a) :: q, (k', b) :: q', h => by
  unfold kindsK at h
  split at h
  ·rename_i hk
   have := sameK_spec hk
   subst this
   simp only [kindsEq, beq_self_eq_true, Bool.true_and]; exact kindsK_spec h
  ·cases h
 | [], _ :: _, h => by cases h
 | _ :: _, [], h => by cases h
theorem eqOp_spec {op : BinOp} {neq : Bool} (h : eqOp op = some neq) : op = if neq then .neq else .eql := by
 cases op <;> simp [eqOp] at h <;> subst h <;> rfl
theorem notB_spec (b : Bool) : notB b = !b := by cases b <;> rfl
theorem litB_av (b : Bool) : (litB b).av = .d (.bool b) := by cases b <;> rfl
theorem eltT_spec {t : TypeId} {e n : Nat} (h : eltT P t = some (e, n)) : P.underlying t = some (.slice e) := by
 unfold eltT at h
 split at h
 ·rename_i e' hu
  cases hs : szT P e' with
  | none => rw [hs] at h; cases h
  | some m =>
   rw [hs] at h
   simp only [Option.map_some, Option.some.injEq, Prod.mk.injEq] at h
   rw [hu, h.1]
 ·cases h
theorem bytesK_spec : ∀ {rows : List (List KV)} {l : List Int}, bytesK rows = some l -> KV.toDLL rows = l.map fun n => [.int .u8 n]
 | [], l, h => by cases h; rfl
 | row :: q, l, h => by
  unfold bytesK at h
  split at h
  ·rename_i c
   split at h
   ·rename_i fl n hn
    split at h
    ·rename_i l' hl
     cases h
     have h2 : c.toD = .int .u8 n := by
      cases c <;> simp [numK] at hn <;> simp [KV.toD, hn]
     simp only [KV.toDLL, KV.toDL, List.map_cons, bytesK_spec hl, h2]
    ·cases h
   ·cases h
  ·cases h
theorem free_str {o : Oper} {S : St} {t yt : TypeId} {op : BinOp} {x y : Operand} {a b : ByteArray} {d : D} (ho : o.op = .binOp op t x y yt) (hx : opnd S.T x = some (.d (.str a))) (hy : opnd S.T y = some (.d (.str b)))
  (h : (op = .eql /\ d = .bool (a.toList == b.toList)) \/ (op = .neq /\ d = .bool (!(a.toList == b.toList))) \/ (op = .add /\ ((a ++ b).size : Int) <= 9223372036854775807 /\ d = .str (a ++ b))) : Free P o S (.d d) [] [] :=
 free_val (by simp [ho]) fun base M yl ac w hr => by
  have h1 := (hr.opnd hx).str
  have h2 := (hr.opnd hy).str
  rcases h with ⟨rfl, rfl⟩ | ⟨rfl, rfl⟩ | ⟨rfl, hs, rfl⟩
  ·exact ⟨_, by simp [execOp, ho, h1, h2, eqGuard, binOp, Op.stringOp, Result.andThen], .d (.bool _)⟩
  ·exact ⟨_, by simp [execOp, ho, h1, h2, eqGuard, binOp, Op.stringOp, Result.andThen], .d (.bool _)⟩
  ·have hs' : ¬ ((a.size + b.size : Nat) : Int) > IntKind.i64.max := by
    rw [ByteArray.size_append] at hs
    have : IntKind.i64.max = 9223372036854775807 := rfl
    omega
   have hs2 : ¬ (9223372036854775807 : Int) < (a.size : Int) + (b.size : Int) := by
    rw [ByteArray.size_append] at hs
    omega
   exact ⟨_, by simp [execOp, ho, h1, h2, eqGuard, binOp, Op.stringOp, Result.andThen, hs', hs2], .d (.str _)⟩
theorem strK_spec {o : Oper} {S : KSt} {t yt : TypeId} {op : BinOp} {x y : Operand} {a b : ByteArray} {K : KV -> Prop} (ho : o.op = .binOp op t x y yt) (hx : opnd S.st.T x = some (KV.str a).av) (hy : opnd S.st.T y = some (KV.str b).av)
  (h : strK (primK P E base r post) op a b K) : ∃ res, Free P o S.st res.av [] [] /\ K res := by
 unfold strK at h
 split at h
 ·exact ⟨.bool _, free_str ho hx hy (.inl ⟨rfl, rfl⟩), h⟩
 ·exact ⟨.bool _, free_str ho hx hy (.inr (.inl ⟨rfl, rfl⟩)), h⟩
 ·obtain ⟨h1, h⟩ := (h : ((a ++ b).size : Int) <= 9223372036854775807 /\ _)
  exact ⟨.str _, free_str ho hx hy (.inr (.inr ⟨rfl, h1, rfl⟩)), h⟩
 ·exact h.elim
theorem binK_spec {o : Oper} {S : KSt} {t yt : TypeId} {op : BinOp} {x y : Operand} {c d : KV} {K : KV -> Prop} (hT : ∀ t i, tb t = some i -> TIOk P t i) (ho : o.op = .binOp op t x y yt) (hx : opnd S.st.T x = some c.av) (hy : opnd S.st.T y = some d.av)
  (h : binK (primK P E base r post) tb t op c d K) : ∃ res, Free P o S.st res.av [] [] /\ K res := by
 unfold binK at h
 split at h
 ·rename_i la k a hc
  replace h := kk_spec h; obtain ⟨⟨lb, k', b⟩, hn, h⟩ := h
  have hx := hx.trans (congrArg some (numK_spec hc))
  have hy := hy.trans (congrArg some (numK_spec hn))
  split at h
  ·rename_i hk
   replace h := kif_spec h; obtain ⟨h1, h⟩ := h
   have h1 := sameK_spec h1
   simp only at h1; subst h1
   have hr : intOp op k a b = some (.int k (iopR op k a b)) := by cases op <;> first | rfl | (simp [opKind] at hk; done)
   have hfree := free_bin (P := P) ho hx hy hr
   split at h
   ·refine ⟨_, ?_, h⟩
    have : (foldK (primK P E base r post) op k a b).av = .d (.int k (iopR op k a b)) := by
     cases op <;> rfl
    rw [this]; exact hfree
   ·refine ⟨_, ?_, h⟩; exact hfree
  ·rename_i hk
   replace h := kif_spec h; obtain ⟨h1, h⟩ := h
   have h1 := sameK_spec h1
   simp only at h1; subst h1
   have key : b ≠ 0 -> Free P o S.st (.d (.int k (iopR op k a b))) [] [] := fun hb => by
    refine free_bin ho hx hy ?_
    cases op <;> first | (simp [opKind] at hk; done) | (simp [intOp, iopR, hb]; done)
   split at h
   ·rename_i hl
    suffices hb : b ≠ 0 by refine ⟨_, ?_, h⟩; exact key hb
    cases d <;> simp only [litZ] at hl <;> try cases hl
    rename_i k2 m
    simp only [numK, Option.some.injEq, Prod.mk.injEq] at hn
    obtain ⟨_, _, rfl⟩ := hn
    intro e
    subst e
    cases hl
   ·replace h : oknzR op b /\ _ := h; obtain ⟨h2, h⟩ := h
    suffices hb : b ≠ 0 by refine ⟨_, ?_, h⟩; exact key hb
    cases op <;> first | (simp [opKind] at hk; done) | exact h2
  ·rename_i hk
   replace h : oknzR op b /\ _ := h; obtain ⟨h2, h⟩ := h
   refine ⟨_, ?_, h⟩
   cases op <;> try (simp [opKind] at hk; done)
   ·exact free_shift ho hx hy h2 (.inl ⟨rfl, rfl⟩)
   ·exact free_shift ho hx hy h2 (.inr ⟨rfl, rfl⟩)
  ·rename_i hk
   replace h := kif_spec h; obtain ⟨h1, h⟩ := h
   have h1 := sameK_spec h1
   simp only at h1; subst h1
   have hr : intOp op k a b = some (.bool (icmpR op a b)) := by cases op <;> first | rfl | (simp [opKind] at hk; done)
   have hfree := free_bin (P := P) ho hx hy hr
   split at h
   ·refine ⟨_, ?_, h⟩
    have : (litB (icmpR op a b)).av = .d (.bool (icmpR op a b)) := by cases icmpR op a b <;> rfl
    rw [this]; exact hfree
   ·refine ⟨_, ?_, h⟩; exact hfree
  ·exact h.elim
 ·replace h := kk_spec h; obtain ⟨i, hi, h⟩ := h
  split at h
  ·rename_i hu
   replace h := kk_spec h; obtain ⟨a, ha, h⟩ := h
   replace h := kk_spec h; obtain ⟨b, hb, h⟩ := h
   have hx := hx.trans (congrArg some (boolK_spec ha))
   have hy := hy.trans (congrArg some (boolK_spec hb))
   split at h
   ·refine ⟨_, ?_, h⟩; exact free_eqBool false ho hx hy ((hT _ _ hi).bool hu)
   ·refine ⟨_, ?_, h⟩; exact free_eqBool true ho hx hy ((hT _ _ hi).bool hu)
   ·exact h.elim
  ·split at h
   ·split at h
    ·exact strK_spec ho hx hy h
    ·exact h.elim
   ·exact h.elim
  ·have hi := hT _ _ hi
   split at h
   ·replace h := kk_spec h; obtain ⟨⟨e, n⟩, hr, h⟩ := h
    replace h := kk_spec h; obtain ⟨neq, hn, h⟩ := h
    have := eqOp_spec hn
    subst this
    split at h
    ·refine ⟨_, ?_, h⟩
     rw [litB_av, notB_spec]
     have := free_nilsl neq true ho hx hy (hi.el _ hr) (fun base M yl a w hr => ⟨none, 0, 0, (hr.opnd hx).nilsl, rfl⟩)
     cases neq <;> exact this
    ·rename_i row rows
     refine ⟨_, ?_, h⟩
     rw [litB_av]
     have := free_nilsl neq false ho hx hy (hi.el _ hr) (fun base M yl a w hr => by
      have := hr.opnd hx
      cases this with | d h => generalize a.eval x = v at h; cases h; exact ⟨_, _, _, rfl, rfl⟩)
     cases neq <;> exact this
    ·rename_i α x' l f _
     replace h : (1 : Int) <= (plenN [KP.ls α x' l f] : Int) /\ _ := h; obtain ⟨h1, h⟩ := h
     refine ⟨_, ?_, h⟩
     rw [litB_av]
     have := free_nilsl neq false ho hx hy (hi.el _ hr) (fun base M yl a w hr => by
      have := hr.opnd hx
      cases this with | d h =>
      generalize a.eval x = v at h
      simp only [plenN, Nat.add_zero] at h1
      generalize hg : List.map (fun a => rowD _ 0 fun j => (f a j).toD) l = rows at h
      cases h with
      | sl0 => have := congrArg List.length hg; simp at this; subst this; simp at h1
      | slE => have := congrArg List.length hg; simp at this; subst this; simp at h1
      | sl => exact ⟨_, _, _, rfl, rfl⟩)
     cases neq <;> exact this
    ·exact h.elim
   ·split at h
    ·replace h := kk_spec h; obtain ⟨n, hn, h⟩ := h
     replace h := kk_spec h; obtain ⟨neq, hop, h⟩ := h
     replace h := kk_spec h; obtain ⟨l, hl, h⟩ := h
     replace h := kk_spec h; obtain ⟨m, hm, h⟩ := h
     replace h := kif_spec h; obtain ⟨h1, h⟩ := h
     replace h := kif_spec h; obtain ⟨h2, h⟩ := h
     have := eqOp_spec hop
     subst this
     have h1 := Nat.eq_of_beq_eq_true h1
     rw [lenK_eq] at h1
     obtain ⟨e1, e2, e3⟩ := hi.eqn _ hn
     refine ⟨_, ?_, h⟩
     have := free_eqAgg neq ho (hx.trans (congrArg some (by rw [KV.av, intsK_spec hl]))) (hy.trans (congrArg some (by rw [KV.av, intsK_spec hm]))) (by rw [h1]; exact e1) e2 (by decide) e3 (kindsK_spec h2)
     cases neq <;> exact this
    ·exact h.elim
   ·exact h.elim
theorem plen_ls {α : Type} {d : α} {l : List α} {f : α -> Nat -> KV} : (primK P E base r post).plen [.ls α d l f] = l.length := by simp [primK, plenN]
theorem lenP'_spec {o : Oper} {S : KSt} {t : TypeId} {x : Operand} {c : KV} {K : KV -> Prop} (hT : ∀ t i, tb t = some i -> TIOk P t i) (ho : o.op = .call { callee := .builtin .len, args := #[x], argTypes := #[t] }) (hx : opnd S.st.T x = some c.av)
  (h : lenP' (primK P E base r post) tb t S c K) : ∃ res, Free P o S.st res.av [] [] /\ K res := by
 replace h := kk_spec h; obtain ⟨i, hi, h⟩ := h
 have hi := hT _ _ hi
 split at h
 ·replace h := kk_spec h; obtain ⟨⟨e, n⟩, hr, h⟩ := h
  refine ⟨_, ?_, h⟩; exact free_len ho hx (hi.el _ hr) (by simp [plen_ls])
 ·replace h := kk_spec h; obtain ⟨⟨e, n⟩, hr, h⟩ := h
  refine ⟨_, ?_, h⟩; exact free_len ho hx (hi.el _ hr) (by simp [toDLL_map, lenK_eq])
 ·replace h := kk_spec h; obtain ⟨⟨e, n⟩, hr, h⟩ := h
  refine ⟨_, ?_, h⟩; exact free_len_nil ho hx (hi.el _ hr)
 ·replace h := kk_spec h; obtain ⟨R, hR, h⟩ := h
  replace h := kk_spec h; obtain ⟨⟨e, n⟩, hr, h⟩ := h
  replace h := kif_spec h; obtain ⟨h0, h⟩ := h
  rw [Nat.blt_eq] at h0
  have hR' := (st_lookO (S := S)).trans (congrArg (Option.map KRow.row) hR)
  refine ⟨_, ?_, h⟩; exact free_len_osl ho hx hR' h0 (hi.el _ hr) (show (((rowsD R.sz R.ps).length : Nat) : Int) = ((plenN R.ps : Nat) : Int) from congrArg _ (plenN_spec _ _))
 ·split at h
  ·rename_i hu
   refine ⟨_, ?_, h⟩; exact free_lenStr ho hx (hi.str hu)
  ·exact h.elim
 ·exact h.elim
theorem callK_spec {o : Oper} {S : KSt} {nb : Nat} {f : Operand} {args : Array Operand} {ts : Array TypeId} {K : KV -> List (Nat × KBlk) -> List (Nat × KRow) -> Prop} (ho : o.op = .call { callee := .value f, args := args, argTypes := ts })
  (h : callK (primK P E base r post) f args.toList S nb K) : FreeR P o S K := by
 replace h := kk_spec h; obtain ⟨fv, hf, h⟩ := h
 replace h := kk_spec h; obtain ⟨cs, hcs, h⟩ := h
 replace hf := kop_st hf
 replace hcs := kopL_spec hcs
 have fin : ∀ {g : Nat} {caps : List AV} {xs : List D} {lv : Bool} {res : KV} {rows : List KRow}, fnOf fv.av = some (g, caps) -> snapL lv S.st (KV.avL cs ++ caps) = some xs -> Con P g xs res.av (rows.map KRow.row) -> thenC (primK P E base r post) nb lv K res rows -> FreeR P o S K := by
  intro g caps xs lv res rows hg hx hc h
  cases lv with
  | false =>
   replace h := kif_spec h; obtain ⟨h1, h⟩ := h
   have := free_call nb false ho hf hg hcs hx (fun h => by cases h) (by rw [List.length_map, <- lenK_eq]; exact below_av _ _ h1) hc
   rw [<- sh_av, <- enumK_spec] at this
   exact ⟨_, [], _, this, h⟩
  | true =>
   unfold thenC at h
   simp only at h
   cases rows with
   | nil =>
    simp only [isNil] at h
    replace h := kif_spec h; obtain ⟨h2, h⟩ := h
    replace h := kif_spec h; obtain ⟨h3, h⟩ := h
    have := free_call (rows := []) nb true ho hf hg hcs hx (fun _ => ⟨AV.scalar_ownly _ (scalar_av _ h2), fun R hR => (by cases hR)⟩) (below_av _ _ h3) hc
    rw [<- sh_av] at this
    exact ⟨_, [], [], this, h⟩
   | cons R0 q =>
    simp only [isNil] at h
    obtain ⟨h1, h⟩ := h
    replace h := kif_spec h; obtain ⟨h2, h⟩ := h
    replace h := kif_spec h; obtain ⟨h3, h⟩ := h
    have := free_call nb true ho hf hg hcs hx (fun _ => ⟨ownly_av _ h2, h1⟩) (by rw [List.length_map, <- lenK_eq]; exact below_av _ _ h3) hc
    rw [<- sh_av, <- enumK_spec] at this
    exact ⟨_, [], _, this, h⟩
 split at h
 ·rename_i g ds
  replace h : noAggD ds = true /\ _ := h; obtain ⟨hna, h⟩ := h
  split at h
  ·rename_i xs hx
   obtain ⟨res, rows, hc, h⟩ := h
   exact fin rfl (snapL_app (snapL_spec' hx) hna) hc h
  ·replace h := kk_spec h; obtain ⟨xs, hx, h⟩ := h
   obtain ⟨res, rows, hc, h⟩ := h
   exact fin rfl (snapL_app (snapL_spec' hx) hna) hc h
 ·replace h := kk_spec h; obtain ⟨⟨g, caps⟩, hg, h⟩ := h
  replace hg := fnK_spec hg
  split at h
  ·rename_i xs hx
   obtain ⟨res, rows, hc, h⟩ := h
   have hx := snapL_spec' hx
   rw [avL_app] at hx
   exact fin hg hx hc h
  ·replace h := kk_spec h; obtain ⟨xs, hx, h⟩ := h
   obtain ⟨res, rows, hc, h⟩ := h
   have hx := snapL_spec' hx
   rw [avL_app] at hx
   exact fin hg hx hc h
theorem mapPs_spec {S : KSt} {c : KV} {ps : List KP} (h : mapPs S c = some ps) : mapRowsA S.st c.av = some (rowsD 0 ps) := by
 unfold mapPs at h
 split at h
 ·rename_i id
  split at h
  ·rename_i R hR
   split at h
   ·rename_i hb
    cases h
    have hR' : look S.st.O id = some R.row := by rw [st_lookO, hR]; rfl
    simp only [KV.av, mapRowsA, hR']
    rw [if_pos (show (Nat.beq R.row.sz 0 && R.row.nn) = true from hb)]
    simp only [Bool.and_eq_true] at hb
    have := Nat.eq_of_beq_eq_true hb.1
    show some (rowsD R.sz R.ps) = _
    rw [this]
   ·cases h
  ·cases h
 ·cases h; simp [KV.av, mapRowsA, rowsD, KP.rows]
 ·cases h; simp [KV.av, mapRowsA, rowsD, KP.rows]
 ·cases h; rfl
 ·cases h
theorem builtK_spec {o : Oper} {S : KSt} {b : Builtin} {args : Array Operand} {ts : Array TypeId} {K : KV -> Prop} (hT : ∀ t i, tb t = some i -> TIOk P t i) (ho : o.op = .call { callee := .builtin b, args := args, argTypes := ts })
  (h : builtK (primK P E base r post) tb b args.toList ts.toList S K) : ∃ res, Free P o S.st res.av [] [] /\ K res := by
 unfold builtK at h
 split at h
 ·split at h
  ·rename_i x t h1 h2
   have e1 : args = #[x] := by apply Array.toList_inj.1; simp [h1]
   have e2 : ts = #[t] := by apply Array.toList_inj.1; simp [h2]
   subst e1 e2
   replace h := kk_spec h; obtain ⟨c, hc, h⟩ := h
   replace h := kk_spec h; obtain ⟨i, hi, h⟩ := h
   split at h
   ·rename_i r hr
    obtain ⟨kt, et⟩ := r
    replace h := kk_spec h; obtain ⟨ps, hps, h⟩ := h
    refine ⟨_, ?_, h⟩
    exact free_lenMap ho ((hT _ _ hi).mp _ hr) (kop_st hc) (mapPs_spec hps) (congrArg _ (plenN_spec 0 ps))
   ·exact lenP'_spec hT ho (kop_st hc) h
  ·exact h.elim
 ·split at h
  ·rename_i x y h1
   have e1 : args = #[x, y] := by apply Array.toList_inj.1; simp [h1]
   subst e1
   replace h := kk_spec h; obtain ⟨c, hc, h⟩ := h
   replace h := kk_spec h; obtain ⟨d, hd, h⟩ := h
   replace h := kk_spec h; obtain ⟨⟨fa, ka, a⟩, ha, h⟩ := h
   replace h := kk_spec h; obtain ⟨⟨fb, kb, b⟩, hb, h⟩ := h
   replace h := kif_spec h; obtain ⟨h1, h⟩ := h
   have h1 := sameK_spec h1
   simp only at h1; subst h1
   refine ⟨_, ?_, h⟩; exact free_max2 ho ((kop_st hc).trans (congrArg some (numK_spec ha))) ((kop_st hd).trans (congrArg some (numK_spec hb)))
  ·rename_i x y z h1
   have e1 : args = #[x, y, z] := by apply Array.toList_inj.1; simp [h1]
   subst e1
   replace h := kk_spec h; obtain ⟨c, hc, h⟩ := h
   replace h := kk_spec h; obtain ⟨d, hd, h⟩ := h
   replace h := kk_spec h; obtain ⟨e, he, h⟩ := h
   replace h := kk_spec h; obtain ⟨⟨fa, ka, a⟩, ha, h⟩ := h
   replace h := kk_spec h; obtain ⟨⟨fb, kb, b⟩, hb, h⟩ := h
   replace h := kk_spec h; obtain ⟨⟨fg, kg, g⟩, hg, h⟩ := h
   replace h := kif_spec h; obtain ⟨h1, h⟩ := h
   replace h := kif_spec h; obtain ⟨h2, h⟩ := h
   have h1 := sameK_spec h1
   have h2 := sameK_spec h2
   simp only at h1 h2; subst h1 h2
   refine ⟨_, ?_, h⟩; exact free_max3 ho ((kop_st hc).trans (congrArg some (numK_spec ha))) ((kop_st hd).trans (congrArg some (numK_spec hb))) ((kop_st he).trans (congrArg some (numK_spec hg)))
  ·exact h.elim
 ·split at h
  ·rename_i x y h1
   have e1 : args = #[x, y] := by apply Array.toList_inj.1; simp [h1]
   subst e1
   replace h := kk_spec h; obtain ⟨c, hc, h⟩ := h
   replace h := kk_spec h; obtain ⟨d, hd, h⟩ := h
   replace h := kk_spec h; obtain ⟨⟨fa, ka, a⟩, ha, h⟩ := h
   replace h := kk_spec h; obtain ⟨⟨fb, kb, b⟩, hb, h⟩ := h
   replace h := kif_spec h; obtain ⟨h1, h⟩ := h
   have h1 := sameK_spec h1
   simp only at h1; subst h1
   refine ⟨_, ?_, h⟩; exact free_min2 ho ((kop_st hc).trans (congrArg some (numK_spec ha))) ((kop_st hd).trans (congrArg some (numK_spec hb)))
  ·exact h.elim
 ·exact h.elim
theorem chunks_spec {sz : Nat} : ∀ (n : Nat) (l : List KV), KV.toDLL (chunks sz n l) = toRows sz n (KV.toDL l)
 | 0, l => rfl
 | n + 1, l => by simp only [chunks, KV.toDLL, toRows, <- toDL_take, <- toDL_drop, chunks_spec n]
theorem anys_spec : ∀ n, KV.avL (anys n) = List.replicate n .any
 | 0 => rfl
 | n + 1 => by simp only [anys, KV.avL, KV.av, anys_spec n, List.replicate_succ]
theorem reps_rows (n : Nat) (z : List KV) (sz : Nat) (h : z.length = sz) : rowsD sz [.ls Unit () (List.replicate n ()) fun _ j => (nth z j).getD .any] = List.replicate n (KV.toDL z) := by
 simp only [rowsD, KP.rows, List.append_nil, List.map_replicate]
 congr 1
 have : ∀ (m j : Nat) (z : List KV), z.length = m -> ∀ y : List KV, y.length = j -> rowD m j (fun k => ((nth (y ++ z) k).getD .any).toD) = KV.toDL z := by
  intro m
  induction m with
  | zero => intro j z hz y hy; rw [List.eq_nil_of_length_eq_zero hz]; rfl
  | succ m ih =>
   intro j z hz y hy
   cases z with
   | nil => simp at hz
   | cons c q =>
    simp only [rowD, KV.toDL]
    congr 1
    ·rw [nth_eq, List.getElem?_append_right (by omega), hy, Nat.sub_self]; rfl
    ·have := ih (j + 1) q (by simpa using hz) (y ++ [c]) (by simp [hy])
     simpa using this
 simpa using this sz 0 z h [] rfl
theorem srcK_spec {S : KSt} {id sz : Nat} {c : KV} {ps : List KP} (h : srcK S id sz c = some ps) : srcRows S.st id sz c.av = some (rowsD sz ps) := by
 unfold srcK at h
 split at h
 ·split at h
  ·rename_i he
   cases h
   have e := Nat.eq_of_beq_eq_true he
   subst e
   simp [srcRows, KV.av, rowsD, KP.rows]
  ·cases h
 ·split at h
  ·rename_i he
   cases h
   have e := Nat.eq_of_beq_eq_true he
   subst e
   simp [srcRows, KV.av, rowsD, KP.rows]
  ·cases h
 ·cases h; rfl
 ·split at h
  ·rename_i R hR
   split at h
   ·rename_i he
    cases h
    simp only [Bool.and_eq_true] at he
    have e := Nat.eq_of_beq_eq_true he.1
    simp only [srcRows, KV.av, st_lookO, hR, Option.map_some]
    rw [show R.row.sz = R.sz from rfl, if_pos (by simp only [Bool.and_eq_true]; exact he)]
    rw [<- e]; rfl
   ·cases h
  ·cases h
 ·cases h
theorem rowKV_av (R : KRow) : (rowKV R).av = .d (.sl false R.sz (rowsD R.sz R.ps)) := by
 unfold rowKV
 split
 ·rename_i α d l f h; simp [h, KV.av, rowsD, KP.rows]
 ·rename_i rows h; simp [h, KV.av, rowsD, KP.rows]
 ·rfl
theorem appK_spec {o : Oper} {S : KSt} {nb : Nat} {args : Array Operand} {ts : Array TypeId} {K : KV -> Prop} (hT : ∀ t i, tb t = some i -> TIOk P t i) (ho : o.op = .call { callee := .builtin .append, args := args, argTypes := ts })
  (h : appK (primK P E base r post) tb args.toList ts.toList S nb K) : ∃ res, Free P o S.st res.av [] [] /\ K res := by
 unfold appK at h
 split at h
 ·rename_i x y t t' h1 h2
  have e1 : args = #[x, y] := by apply Array.toList_inj.1; simp [h1]
  have e2 : ts = #[t, t'] := by apply Array.toList_inj.1; simp [h2]
  subst e1 e2
  replace h := kif_spec h; obtain ⟨ht, h⟩ := h
  have ht := Nat.eq_of_beq_eq_true ht
  subst ht
  replace h := kk_spec h; obtain ⟨c, hc, h⟩ := h
  replace h := kk_spec h; obtain ⟨d, hy, h⟩ := h
  replace h := kk_spec h; obtain ⟨ti, hi, h⟩ := h
  replace h := kk_spec h; obtain ⟨⟨e, sz⟩, hr, h⟩ := h
  replace h := kk_spec h; obtain ⟨j, hj, h⟩ := h
  replace h := kk_spec h; obtain ⟨zc, hz, h⟩ := h
  replace h := kif_spec h; obtain ⟨hzs, h⟩ := h
  replace h := kif_spec h; obtain ⟨hpos, h⟩ := h
  have hzs := Nat.eq_of_beq_eq_true hzs
  rw [Nat.blt_eq] at hpos
  replace hi := hT _ _ hi
  replace hj := hT _ _ hj
  replace hr := hi.el _ hr
  replace hz := hj.z _ hz
  replace hy := kop_st hy
  replace hc := kop_st hc
  simp only at hzs hpos hz hj h
  split at h
  ·rename_i sz'
   replace h := kif_spec h; obtain ⟨he, h⟩ := h
   have he := Nat.eq_of_beq_eq_true he
   subst he
   replace h := kk_spec h; obtain ⟨news, hs, h⟩ := h
   replace h : (plenN news * j.bytes <= 140737488355328 /\ plenN news <= 140737488355328) /\ _ := h; obtain ⟨⟨h6, h7⟩, h⟩ := h
   refine ⟨_, ?_, h⟩
   rw [rowKV_av]
   have hlen : (rowsD sz' news).length = plenN news := plenN_spec _ _
   exact free_append_clip ho hc hr hz (by rw [avL_len]; exact hzs) hpos hj.bytes hy (srcK_spec hs) (by rw [hlen]; exact h6) (by rw [hlen]; exact h7)
  ·exact h.elim
 ·exact h.elim
theorem appOK_spec {o : Oper} {S : KSt} {nb : Nat} {args : Array Operand} {ts : Array TypeId} {K : KV -> List (Nat × KBlk) -> List (Nat × KRow) -> Prop} (hT : ∀ t i, tb t = some i -> TIOk P t i) (ho : o.op = .call { callee := .builtin .append, args := args, argTypes := ts })
  (h : appOK (primK P E base r post) tb args.toList ts.toList S nb K) : FreeR P o S K := by
 unfold appOK at h
 split at h
 ·rename_i x y t t' h1 h2
  have e1 : args = #[x, y] := by apply Array.toList_inj.1; simp [h1]
  have e2 : ts = #[t, t'] := by apply Array.toList_inj.1; simp [h2]
  subst e1 e2
  replace h := kif_spec h; obtain ⟨ht, h⟩ := h
  have ht := Nat.eq_of_beq_eq_true ht
  subst ht
  replace h := kk_spec h; obtain ⟨c, hc, h⟩ := h
  replace h := kk_spec h; obtain ⟨d, hy, h⟩ := h
  replace h := kk_spec h; obtain ⟨ti, hi, h⟩ := h
  replace h := kk_spec h; obtain ⟨⟨e, sz⟩, hr, h⟩ := h
  replace h := kk_spec h; obtain ⟨j, hj, h⟩ := h
  replace h := kk_spec h; obtain ⟨zc, hz, h⟩ := h
  replace h := kif_spec h; obtain ⟨hzs, h⟩ := h
  replace h := kif_spec h; obtain ⟨hpos, h⟩ := h
  have hzs := Nat.eq_of_beq_eq_true hzs
  rw [Nat.blt_eq] at hpos
  replace hi := hT _ _ hi
  replace hj := hT _ _ hj
  replace hr := hi.el _ hr
  replace hz := hj.z _ hz
  replace hy := kop_st hy
  replace hc := kop_st hc
  simp only at hzs hpos hz hj h
  split at h
  ·rename_i sz'
   replace h := kif_spec h; obtain ⟨he, h⟩ := h
   have he := Nat.eq_of_beq_eq_true he
   subst he
   replace h := kk_spec h; obtain ⟨news, hs, h⟩ := h
   replace h : (1 : Int) <= (plenN news : Int) /\ (plenN news * j.bytes <= 140737488355328 /\ plenN news <= 140737488355328) /\ _ := h; obtain ⟨h5, ⟨h6, h7⟩, h⟩ := h
   have hlen : (rowsD sz' news).length = plenN news := plenN_spec _ _
   refine ⟨_, _, _, ?_, h⟩
   exact free_append_own (id := nb) ho hc hr hz (by rw [avL_len]; exact hzs) hpos hj.bytes hy (srcK_spec hs) (by rw [hlen]; exact h6) (by rw [hlen]; exact h7) (by rw [hlen]; omega)
  ·exact h.elim
 ·exact h.elim
theorem appNK_spec {o : Oper} {S : KSt} {nb : Nat} {args : Array Operand} {ts : Array TypeId} {K : KV -> Prop} (hT : ∀ t i, tb t = some i -> TIOk P t i) (ho : o.op = .call { callee := .builtin .append, args := args, argTypes := ts })
  (h : appNK (primK P E base r post) tb args.toList ts.toList S nb K) : ∃ res, Free P o S.st res.av [] [] /\ K res := by
 unfold appNK at h
 split at h
 ·rename_i x y t t' h1 h2
  have e1 : args = #[x, y] := by apply Array.toList_inj.1; simp [h1]
  have e2 : ts = #[t, t'] := by apply Array.toList_inj.1; simp [h2]
  subst e1 e2
  replace h := kif_spec h; obtain ⟨ht, h⟩ := h
  have ht := Nat.eq_of_beq_eq_true ht
  subst ht
  replace h := kk_spec h; obtain ⟨c, hc, h⟩ := h
  replace h := kk_spec h; obtain ⟨d, hy, h⟩ := h
  replace h := kk_spec h; obtain ⟨ti, hi, h⟩ := h
  replace h := kk_spec h; obtain ⟨⟨e, sz⟩, hr, h⟩ := h
  replace h := kk_spec h; obtain ⟨j, hj, h⟩ := h
  replace h := kk_spec h; obtain ⟨zc, hz, h⟩ := h
  replace h := kif_spec h; obtain ⟨hzs, h⟩ := h
  replace h := kif_spec h; obtain ⟨hpos, h⟩ := h
  have hzs := Nat.eq_of_beq_eq_true hzs
  rw [Nat.blt_eq] at hpos
  replace hi := hT _ _ hi
  replace hj := hT _ _ hj
  replace hr := hi.el _ hr
  replace hz := hj.z _ hz
  replace hy := kop_st hy
  replace hc := kop_st hc
  simp only at hzs hpos hz hj h
  split at h
  ·rename_i sz'
   replace h := kif_spec h; obtain ⟨he, h⟩ := h
   have he := Nat.eq_of_beq_eq_true he
   subst he
   replace h := kk_spec h; obtain ⟨news, hs, h⟩ := h
   replace h : (plenN news : Int) = 0 /\ _ := h; obtain ⟨h5, h⟩ := h
   have hlen : (rowsD sz' news).length = plenN news := plenN_spec _ _
   have h0 : rowsD sz' news = [] := List.eq_nil_of_length_eq_zero (by rw [hlen]; omega)
   refine ⟨_, ?_, h⟩
   exact free_append_none (id := nb) ho hc hr hz (by rw [avL_len]; exact hzs) hpos hj.bytes hy (srcK_spec hs) (by rw [h0]; simp) (by rw [h0]; simp) h0
  ·exact h.elim
 ·exact h.elim
theorem free_makeFuncB {o : Oper} {S : St} {f : Nat} {first : Array Operand} {cs : List AV} {ds : List D} (ho : o.op = .makeFunc (.func f) first #[]) (hc : opndL S.T first.toList = some cs) (hs : snapL false S cs = some ds) : Free P o S (.d (.bnd f ds [])) [] [] :=
 free_val (by simp [ho]) fun base M yl ac w hrel => by
  obtain ⟨al, ar⟩ := opndL_get hc
  obtain ⟨sl, sr⟩ := snapL_spec hrel hs
  refine ⟨.func (.func f) (first.map ac.eval) #[], by simp [execOp, ho, Instr.makeFunc], .d (.bnd f ds [] _ _ (by rw [Array.size_map, <- sl, <- al]; simp) (fun i c v hi hv => ?_) rfl (fun i c v hi => by simp at hi))⟩
  refine (sr i c v hi (fun c' hc' => ?_)).mono (fun k hk => hk.elim id (fun h => by cases h.1)) (fun _ _ => rfl)
  obtain ⟨y, hy, hyc⟩ := ar i c' hc'
  rw [Array.getElem?_map, <- Array.getElem?_toList, hy] at hv
  simp only [Option.map_some, Option.some.injEq] at hv
  subst hv
  exact hrel.opnd hyc
theorem freeK_spec {pz : List Nat} {o : Oper} {S : KSt} {nb : Nat} {K : KV -> List (Nat × KBlk) -> List (Nat × KRow) -> Prop} (hT : ∀ t i, tb t = some i -> TIOk P t i) (h : freeK (primK P E base r post) tb pz o S nb K) : FreeR P o S K := by
 unfold freeK at h
 split at h
 ·rename_i ho; replace h := kk_spec h; obtain ⟨c, hc, h⟩ := h; refine freeR_plain ?_ h; exact free_move ho (kop_st hc)
 ·rename_i ho; replace h := kk_spec h; obtain ⟨c, hc, h⟩ := h; refine freeR_plain ?_ h; exact free_assign ho (kop_st hc)
 ·rename_i x y z ho
  replace h := kk_spec h; obtain ⟨c, hc, h⟩ := h
  have hc := kop_st hc
  have go : ∀ b : Bool, c.av = .d (.bool b) -> (kk (kop S.T (if b then y else z)) fun c => K c [] []) -> FreeR P o S K := fun b hb h => by
   replace h := kk_spec h; obtain ⟨c', hc', h⟩ := h
   refine freeR_plain ?_ h; exact free_pick ho (hc.trans (congrArg some hb)) (kop_st hc')
  split at h
  ·exact go true rfl (by simpa using h)
  ·exact go false rfl (by simpa using h)
  ·rename_i b _
   cases b with
   | true => exact go true rfl (by simpa using h.1 rfl)
   | false => exact go false rfl (by simpa using h.2 rfl)
  ·exact h.elim
 ·rename_i ho
  replace h := kk_spec h; obtain ⟨c, hc, h⟩ := h
  split at h
  ·replace h := kk_spec h; obtain ⟨c', hc', h⟩ := h
   refine freeR_plain ?_ h; exact free_extract ho (kop_st hc) (by rw [nth_avL, hc']; rfl)
  ·exact h.elim
 ·rename_i ho
  replace h := kk_spec h; obtain ⟨c, hc, h⟩ := h
  obtain ⟨res, h1, h2⟩ := fldK_spec hT ho (kop_st hc) h
  exact freeR_plain h1 h2
 ·rename_i ho
  replace h := kk_spec h; obtain ⟨c, hc, h⟩ := h
  obtain ⟨res, h1, h2⟩ := loadK_spec hT ho (kop_st hc) h
  exact freeR_plain h1 h2
 ·rename_i ho
  replace h := kk_spec h; obtain ⟨c, hc, h⟩ := h
  replace h := kk_spec h; obtain ⟨d, hd, h⟩ := h
  obtain ⟨res, h1, h2⟩ := idxK_spec hT ho (kop_st hc) (kop_st hd) h
  exact freeR_plain h1 h2
 ·rename_i ho
  replace h := kk_spec h; obtain ⟨c, hc, h⟩ := h
  replace h := kk_spec h; obtain ⟨d, hd, h⟩ := h
  replace h := kk_spec h; obtain ⟨i, hi, h⟩ := h
  split at h
  ·rename_i hu
   split at h
   ·rename_i s
    replace h := kk_spec h; obtain ⟨⟨f, k, m⟩, hn, h⟩ := h
    replace h : (0 <= m /\ m < (s.size : Int)) /\ _ := h; obtain ⟨⟨h1, h2⟩, h⟩ := h
    have hlt : m.toNat < s.size := by omega
    have hg : s[m.toNat]? = some (s[m.toNat]) := by simp [hlt]
    refine freeR_plain (res := .int .u8 (strAt s m)) ?_ h
    have := free_index_str ho (kop_st hc) ((kop_st hd).trans (congrArg some (numK_spec hn))) ((hT _ _ hi).str hu) h1 hg
    simp only [KV.av, strAt, hg]
    exact this
   ·exact h.elim
  ·split at h
   ·rename_i cs
    replace h := kk_spec h; obtain ⟨⟨l, e, n⟩, hr, h⟩ := h
    replace h := kk_spec h; obtain ⟨j, hj, h⟩ := h
    have key : ∀ (m : Nat) (k : IntKind), d.av = .d (.int k m) -> m < l -> aggK cs j.ag n m (fun c => K c [] []) -> FreeR P o S K := fun m k hk hml h => by
     have hk := (kop_st hd).trans (congrArg some hk)
     cases hag : j.ag with
     | false =>
      rw [hag] at h
      replace h := kk_spec h; obtain ⟨c', hc', h⟩ := h
      refine freeR_plain ?_ h
      exact free_index_agg ho (kop_st hc) hk ((hT _ _ hi).ar _ hr) hml (by rw [(hT _ _ hj).ag, hag]) (by rw [nth_avL, hc']; rfl)
     | true =>
      rw [hag] at h
      replace h := kif_spec h; obtain ⟨h1, h⟩ := h
      have h1 := Nat.le_of_ble_eq_true h1
      refine freeR_plain ?_ h
      have := free_index_agg2 ho (kop_st hc) hk ((hT _ _ hi).ar _ hr) hml (by rw [(hT _ _ hj).ag, hag]) (by rw [avL_len]; exact h1)
      simp only [KV.av, <- avL_drop, <- avL_take]
      exact this
    simp only at h
    split at h
    ·rename_i m hn
     replace h := kif_spec h; obtain ⟨h1, h⟩ := h
     rw [Nat.blt_eq] at h1
     obtain ⟨k, hk⟩ := litN_spec hn
     exact key m k hk h1 h
    ·replace h := kk_spec h; obtain ⟨⟨fl, k, m⟩, hn, h⟩ := h
     replace h : (0 <= m /\ m < (Int.ofNat l)) /\ _ := h; obtain ⟨⟨h2, h3⟩, h⟩ := h
     have h3 : m < (l : Int) := h3
     have h : casesN (primK P E base r post) m l 0 (fun q => aggK cs j.ag n q fun c => K c [] []) := h
     refine key m.toNat k ?_ (by omega) (casesN_spec h (by omega) (by omega))
     rw [numK_spec hn, Int.toNat_of_nonneg h2]
   ·exact h.elim
 ·rename_i ho
  replace h := kk_spec h; obtain ⟨c, hc, h⟩ := h
  replace h := kk_spec h; obtain ⟨d, hd, h⟩ := h
  obtain ⟨res, h1, h2⟩ := binK_spec hT ho (kop_st hc) (kop_st hd) h
  exact freeR_plain h1 h2
 ·rename_i ho
  replace h := kk_spec h; obtain ⟨c, hc, h⟩ := h
  have hc := kop_st hc
  unfold notK at h
  split at h
  ·refine freeR_plain ?_ h; exact free_not ho hc
  ·refine freeR_plain (res := .ff) ?_ h; exact free_not ho hc
  ·refine freeR_plain (res := .tt) ?_ h; exact free_not ho hc
  ·exact h.elim
 ·rename_i ho
  replace h := kk_spec h; obtain ⟨c, hc, h⟩ := h
  replace h := kk_spec h; obtain ⟨⟨f, k, m⟩, hn, h⟩ := h
  refine freeR_plain (res := .int k (k.wrap (0 - m))) ?_ h; exact free_neg ho ((kop_st hc).trans (congrArg some (numK_spec hn)))
 ·rename_i f first cap ho
  split at h
  ·rename_i hf
   replace h := kk_spec h; obtain ⟨cs, hc, h⟩ := h
   have : first = #[] := by apply Array.toList_inj.1; simp [hf]
   subst this
   refine freeR_plain (res := .fn f cs) ?_ h; exact free_makeFunc ho (opndL_mapM (kopL_spec hc))
  ·split at h
   ·rename_i hcap
    replace h := kk_spec h; obtain ⟨cs, hc, h⟩ := h
    replace h := kk_spec h; obtain ⟨xs, hx, h⟩ := h
    have : cap = #[] := by apply Array.toList_inj.1; simp [hcap]
    subst this
    refine freeR_plain (res := .bfn f xs) ?_ h; exact free_makeFuncB ho (kopL_spec hc) (snapL_spec' hx)
   ·exact h.elim
 ·rename_i ho
  replace h := kk_spec h; obtain ⟨c, hc, h⟩ := h
  have hc := kop_st hc
  split at h
  ·replace h := kk_spec h; obtain ⟨i, hi, h⟩ := h
   replace h := kk_spec h; obtain ⟨⟨off, n, ft⟩, hr, h⟩ := h
   replace h := kk_spec h; obtain ⟨j, hj, h⟩ := h
   have hr := (hT _ _ hi).fl _ _ hr
   have hj := hT _ _ hj
   cases hag : j.ag with
   | false =>
    rw [hag] at h
    replace h := kk_spec h; obtain ⟨c', hc', h⟩ := h
    refine freeR_plain ?_ h; exact free_field ho hc hr (hag ▸ hj.ag) (by rw [nth_avL, hc']; rfl)
   | true =>
    rw [hag] at h
    replace h := kif_spec h; obtain ⟨h1, h⟩ := h
    have := free_field_agg ho hc hr (hag ▸ hj.ag) (by rw [avL_len]; exact Nat.le_of_ble_eq_true h1)
    rw [avL_drop, avL_take] at this
    exact freeR_plain (res := .agg _) this h
  ·exact h.elim
 ·rename_i e x ho
  replace h := kk_spec h; obtain ⟨c, hc, h⟩ := h
  replace h := kk_spec h; obtain ⟨cs, hcs, h⟩ := h
  split at h
  ·exact h.elim
  ·rename_i hb
   refine ⟨.loc nb 0, [(nb, ⟨e, cs, true⟩)], [], ?_, h⟩
   refine free_box ho (kop_st hc) (cellsK_spec hcs) ?_
   have : ∀ l : List KV, KV.boxesL nb l = false -> (KV.avL l).any (fun c => c.box nb) = false := by
    intro l
    induction l with
    | nil => intro _; rfl
    | cons y q ih =>
     intro hh
     simp only [KV.boxesL] at hh
     cases hy : y.boxes nb with
     | true => rw [hy] at hh; cases hh
     | false =>
      rw [hy] at hh
      simp only [KV.avL, List.any_cons, boxes_av, hy, Bool.false_or]
      exact ih hh
   exact this cs hb
 ·rename_i e ho
  replace h := kk_spec h; obtain ⟨i, hi, h⟩ := h
  replace h := kk_spec h; obtain ⟨cs, hz, h⟩ := h
  exact ⟨.loc nb 0, [(nb, ⟨e, cs, true⟩)], [], free_alloc ho ((hT _ _ hi).z _ hz), h⟩
 ·rename_i t parts ho
  replace h := kk_spec h; obtain ⟨i, hi, h⟩ := h
  replace h := kk_spec h; obtain ⟨z, hz, h⟩ := h
  replace h := kk_spec h; obtain ⟨pl, hpl, h⟩ := h
  replace h := kk_spec h; obtain ⟨ps, hps, h⟩ := h
  replace h := kk_spec h; obtain ⟨cs, hcs, h⟩ := h
  have hi := hT _ _ hi
  refine freeR_plain (res := .agg cs) ?_ h; exact free_build ho (hi.z _ hz) (hi.pl _ hpl) (partsK_spec hps) (fillK_spec hcs)
 ·rename_i t len parts ho
  replace h := kk_spec h; obtain ⟨i, hi, h⟩ := h
  replace h := kk_spec h; obtain ⟨⟨e, sz⟩, hr, h⟩ := h
  replace h := kk_spec h; obtain ⟨j, hj, h⟩ := h
  replace h := kk_spec h; obtain ⟨zc, hz, h⟩ := h
  replace h := kif_spec h; obtain ⟨h1, h⟩ := h
  replace h := kif_spec h; obtain ⟨h2, h⟩ := h
  have hi := hT _ _ hi
  have hj := hT _ _ hj
  have hr := hi.el _ hr
  have hz := hj.z _ hz
  simp only at h1 h2 hz h
  split at h
  ·split at h
   ·rename_i hp
    have hps : partsA S.st.T parts.toList = some [] := by rw [hp]; rfl
    split at h
    ·refine freeR_plain (res := .slr true sz []) ?_ h
     exact free_buildSlice_d (rows := []) ho hr hz h1 hps rfl rfl (by simp [fillA]) h2
    ·replace h := kif_spec h; obtain ⟨h0, h⟩ := h
     rw [Nat.blt_eq] at h0
     exact ⟨.osl nb, [], [(nb, ⟨e, sz, [], true, true⟩)], free_buildSlice (rows := []) ho h0 hr hz h1 hps rfl rfl (by simp [fillA]) h2, h⟩
   ·exact h.elim
  ·rename_i n
   replace h := kk_spec h; obtain ⟨ps, hps, h⟩ := h
   replace h := kk_spec h; obtain ⟨cells, hcells, h⟩ := h
   replace h := kif_spec h; obtain ⟨h3, h⟩ := h
   replace h := kif_spec h; obtain ⟨h4, h⟩ := h
   have h4 := Nat.eq_of_beq_eq_true h4
   have hf := fillK_spec hcells
   rw [anys_spec] at hf
   obtain ⟨t1, t2, t3⟩ := toRows_spec (sz := sz) (n := n + 1) (l := KV.toDL cells) (by rw [toDL_len]; exact h4)
   split at h
   ·replace h := kif_spec h; obtain ⟨h0, h⟩ := h
    rw [Nat.blt_eq] at h0
    have := free_buildSlice (id := nb) (rows := toRows sz (n + 1) (KV.toDL cells)) ho h0 hr hz h1 (show partsA S.st.T _ = _ from partsK_spec hps) t2 t3 (by rw [hf, t1, allD_av h3]) h2
    rw [<- chunks_spec] at this
    exact ⟨.osl nb, [], [(nb, ⟨e, sz, [.rw (chunks sz (n + 1) cells)], true, true⟩)], by simpa [mapO, mapH, KRow.row, rowsD, KP.rows, KV.av] using this, h⟩
   refine freeR_plain (res := .slr true sz (chunks sz (n + 1) cells)) ?_ h
   have := free_buildSlice_d (rows := toRows sz (n + 1) (KV.toDL cells)) ho hr hz h1 (show partsA S.st.T _ = _ from partsK_spec hps) t2 t3 (by rw [hf, t1, allD_av h3]) h2
   rw [<- chunks_spec] at this
   exact this
 ·rename_i t x y ho
  replace h := kk_spec h; obtain ⟨c, hc, h⟩ := h
  replace h := kk_spec h; obtain ⟨d, hd, h⟩ := h
  replace h := kk_spec h; obtain ⟨⟨fa, ka, a⟩, ha, h⟩ := h
  replace h := kk_spec h; obtain ⟨⟨fb, kb, b⟩, hb, h⟩ := h
  replace h := kk_spec h; obtain ⟨i, hi, h⟩ := h
  replace h := kk_spec h; obtain ⟨⟨e, sz⟩, hr, h⟩ := h
  replace h := kk_spec h; obtain ⟨j, hj, h⟩ := h
  replace h := kk_spec h; obtain ⟨z, hz, h⟩ := h
  replace h := kif_spec h; obtain ⟨h1, h⟩ := h
  replace h := kif_spec h; obtain ⟨h2, h⟩ := h
  replace h := kif_spec h; obtain ⟨h3, h⟩ := h
  replace h : a = b /\ _ := h; obtain ⟨h4, h⟩ := h
  replace h : (0 <= a /\ (j.bytes : Int) * a <= 281474976710656 /\ a <= 9223372036854775807) /\ _ := h; obtain ⟨⟨h5, h6, h7⟩, h⟩ := h
  have h2 := Nat.eq_of_beq_eq_true h2
  rw [Nat.blt_eq] at h3
  subst h4
  have hi := hT _ _ hi
  have hj := hT _ _ hj
  have hz := hj.z _ hz
  rw [allD_av h1] at hz
  have := free_makeSlice (id := nb) ho (hi.el _ hr) hz (by rw [toDL_len]; exact h2) h3 hj.bytes ((kop_st hc).trans (congrArg some (numK_spec ha))) ((kop_st hd).trans (congrArg some (numK_spec hb))) h5 h6 h7
  rw [<- reps_rows a.toNat z sz (by rw [<- lenK_eq]; exact h2)] at this
  exact ⟨.osl nb, [], [(nb, ⟨e, sz, _, true, true⟩)], this, h⟩
 ·rename_i t x low high ho
  replace h := kk_spec h; obtain ⟨c, hc, h⟩ := h
  replace h := kk_spec h; obtain ⟨i, hi, h⟩ := h
  split at h
  ·rename_i clip sz α dd l f
   replace h := kk_spec h; obtain ⟨⟨e, n⟩, hr, h⟩ := h
   replace h := kif_spec h; obtain ⟨h1, h⟩ := h
   have h1 := Nat.eq_of_beq_eq_true h1
   simp only at h1; subst h1
   replace h := kk_spec h; obtain ⟨lo, hlo, h⟩ := h
   replace h := kk_spec h; obtain ⟨hi', hhi, h⟩ := h
   replace h : (0 <= lo) /\ (lo <= hi') /\ (hi' <= (plenN [KP.ls α dd l f] : Int)) /\ _ := h; obtain ⟨h2, h3, h4, h⟩ := h
   have hpl : plenN [KP.ls α dd l f] = l.length := by simp [plenN]
   rw [hpl] at h4
   refine freeR_plain (res := .sl false n α dd ((l.take hi'.toNat).drop lo.toNat) f) ?_ h
   have b1 : BoundIs S.st.T low 0 lo.toNat := by
    split at hlo
    ·cases hlo; exact .inl ⟨rfl, rfl⟩
    ·split at hlo
     ·rename_i y v hv
      split at hlo
      ·rename_i q hq
       obtain ⟨fl, k, m⟩ := q
       simp only [Option.some.injEq] at hlo
       subst hlo
       exact .inr ⟨_, k, rfl, by rw [Int.toNat_of_nonneg h2]; exact (kop_st hv).trans (congrArg some (numK_spec hq))⟩
      ·cases hlo
     ·cases hlo
   have b2 : BoundIs S.st.T high (l.map fun a => rowD n 0 fun j => (f a j).toD).length hi'.toNat := by
    split at hhi
    ·simp only [Option.some.injEq] at hhi
     have : hi' = (l.length : Int) := by rw [<- hhi]; exact congrArg _ hpl
     exact .inl ⟨rfl, by rw [this, List.length_map]; rfl⟩
    ·split at hhi
     ·rename_i y v hv
      split at hhi
      ·rename_i q hq
       obtain ⟨fl, k, m⟩ := q
       simp only [Option.some.injEq] at hhi
       subst hhi
       exact .inr ⟨_, k, rfl, by rw [Int.toNat_of_nonneg (Int.le_trans h2 h3)]; exact (kop_st hv).trans (congrArg some (numK_spec hq))⟩
      ·cases hhi
     ·cases hhi
   have := free_slice ho (kop_st hc) ((hT _ _ hi).el _ hr) b1 b2 (by omega) (by rw [List.length_map]; omega)
   rw [<- List.map_take, <- List.map_drop] at this
   exact this
  ·exact h.elim
 ·rename_i t ho
  exact ⟨.osl nb, [], [(nb, ⟨0, 0, [], true, true⟩)], free_makeMap ho, h⟩
 ·rename_i t x k comma ho
  replace h := kk_spec h; obtain ⟨c, hc, h⟩ := h
  replace h := kk_spec h; obtain ⟨kc, hk, h⟩ := h
  replace h := kk_spec h; obtain ⟨ti, hi, h⟩ := h
  replace h := kk_spec h; obtain ⟨⟨kt, et⟩, hr, h⟩ := h
  replace h := kk_spec h; obtain ⟨ki, hki, h⟩ := h
  replace h := kk_spec h; obtain ⟨ei, hei, h⟩ := h
  replace h := kk_spec h; obtain ⟨z, hz, h⟩ := h
  replace h := kk_spec h; obtain ⟨ps, hps, h⟩ := h
  replace h := kif_spec h; obtain ⟨hd, h⟩ := h
  obtain ⟨d, g1, g2, g3, v, b, g4, rfl, h⟩ := h
  have key := fun comma => free_lookup (P := P) (o := { o with op := .lookup t x k comma }) (S := S.st) rfl ((hT _ _ hi).mp _ hr) (unK_spec (hT _ _ hki) g1) ((hT _ _ hei).zv _ hz) (kop_st hc) (mapPs_spec hps) (by rw [kop_st hk, okDat_av hd]) (fun w ok μ ν yl u hu => okDat_rd hd (by rw [okDat_av hd]; exact hu)) g2 g3
  have ho' : o = { o with op := .lookup t x k comma } := by rw [<- ho]
  rw [ho']
  split at h
  ·refine freeR_plain (res := .tup [v, .bool _]) ?_ h
   simp only [KV.av, KV.avL, g4]; exact key true
  ·refine freeR_plain (res := v) ?_ h
   rw [g4]; exact key false
 ·rename_i t x ho
  replace h := kk_spec h; obtain ⟨c, hc, h⟩ := h
  replace h := kk_spec h; obtain ⟨ti, hi, h⟩ := h
  split at h
  ·rename_i α dd l f
   replace h := kk_spec h; obtain ⟨⟨kt, et⟩, hr, h⟩ := h
   refine ⟨.osl nb, [], [(nb, _)], ?_, h⟩
   have := free_range (P := P) (id := nb) ho ((hT _ _ hi).mp _ hr) (kop_st hc)
   simpa [mapH, mapO, KRow.row, rowsD, KP.rows, KV.toDLL, KV.toDL, KV.toD, KV.av] using this
  ·rename_i sv
   split at h
   ·rename_i hu
    refine ⟨.osl nb, [], [(nb, _)], ?_, h⟩
    have := free_rangeS (P := P) (id := nb) ho ((hT _ _ hi).str hu) (kop_st hc)
    simpa [mapH, mapO, KRow.row, rowsD, KP.rows, KV.toDLL, KV.toDL, KV.toD, KV.av] using this
   ·exact h.elim
  ·exact h.elim
 ·rename_i s d x ho
  replace h := kk_spec h; obtain ⟨c, hc, h⟩ := h
  replace h := kk_spec h; obtain ⟨si, hsi, h⟩ := h
  replace h := kk_spec h; obtain ⟨di, hdi, h⟩ := h
  have hs := (hT _ _ hsi).sz
  have hd := hT _ _ hdi
  have hsd : ∃ sd, P.underlying s = some sd := by
   have := (hT _ _ hsi).ag
   unfold isAggT at this
   cases hu : P.underlying s with
   | none => rw [hu] at this; cases this
   | some sd => exact ⟨sd, rfl⟩
  obtain ⟨sd, hsd⟩ := hsd
  split at h
  ·split at h
   ·rename_i hu
    refine freeR_plain (res := .int _ _) ?_ h; exact free_conv ho (kop_st hc) hsd (hd.int _ hu)
   ·exact h.elim
  ·split at h
   ·rename_i hu
    replace h := kif_spec h; obtain ⟨h1, h⟩ := h
    refine freeR_plain (res := .lit _ _) ?_ h; exact free_conv ho (kop_st hc) hsd (hd.int _ hu)
   ·exact h.elim
  ·rename_i sv
   replace h := kk_spec h; obtain ⟨⟨e, ez⟩, hr, h⟩ := h
   replace h := kk_spec h; obtain ⟨ei, hei, h⟩ := h
   split at h
   ·rename_i hu
    obtain ⟨h1, h⟩ := (h : ((sv.size : Nat) : Int) <= 9223372036854775807 /\ _)
    refine freeR_plain (res := .sl false 1 Int 0 (bytesL sv) (fun n _ => .int .u8 n)) ?_ h
    have := free_str_bytes ho hsd (eltT_spec (hd.el _ hr)) ((hT _ _ hei).int _ hu) (kop_st hc) (Int.ofNat_le.1 (show ((sv.size : Nat) : Int) <= ((9223372036854775807 : Nat) : Int) from h1))
    simpa [KV.av, KV.toD, rowD] using this
   ·exact h.elim
  ·rename_i clip sz rows
   split at h
   ·rename_i hu
    replace h := kk_spec h; obtain ⟨⟨e, ez⟩, hr, h⟩ := h
    replace h := kk_spec h; obtain ⟨ei, hei, h⟩ := h
    split at h
    ·rename_i hue
     replace h := kif_spec h; obtain ⟨h1, h⟩ := h
     replace h := kk_spec h; obtain ⟨l, hl, h⟩ := h
     have h1 := Nat.eq_of_beq_eq_true h1
     subst h1
     refine freeR_plain (res := .str (strL l)) ?_ h
     have hx := kop_st hc
     rw [show (KV.slr clip 1 rows).av = .d (.sl clip 1 (l.map fun n => [.int .u8 n])) from by simp only [KV.av, KV.toD]; rw [bytesK_spec hl]] at hx
     exact free_bytes_str ho (eltT_spec ((hT _ _ hsi).el _ hr)) (hd.str hu) ((hT _ _ hei).int _ hue) hx
    ·exact h.elim
   ·exact h.elim
  ·exact h.elim
 ·rename_i c ho
  obtain ⟨callee, args, ts⟩ := c
  simp only at h
  split at h
  ·exact callK_spec ho h
  ·split at h
   ·exact appOK_spec hT ho h
   ·split at h
    ·obtain ⟨res, h1, h2⟩ := appNK_spec hT ho h
     exact freeR_plain h1 h2
    ·obtain ⟨res, h1, h2⟩ := appK_spec hT ho h
     exact freeR_plain h1 h2
  ·obtain ⟨res, h1, h2⟩ := builtK_spec hT ho h
   exact freeR_plain h1 h2
  ·exact h.elim
 ·exact h.elim
end Go.Proofs.Ytfilnnbfppokmaa.Aw
namespace Go.Proofs.Ytfilnnbfppokmaa.Aw
open Go Go.RowKit
universe u
variable {P : Program} {E : Env P} {base : Nat} {r : Option Nat} {post : KV -> List KRow -> Prop} {tb : Nat -> Option TI}
theorem freeT_spec {b : Nat} : ∀ {T : List (Nat × KV)}, freeT b T = true -> (mapT T).any (fun p => p.2.box b) = false
 | [], _ => rfl
 | (t, c) :: q, h => by
  simp only [freeT] at h
  cases hc : c.boxes b with
  | true => rw [hc] at h; cases h
  | false => rw [hc] at h; simp only [mapT, List.any_cons, boxes_av, hc, Bool.false_or]; exact freeT_spec h
theorem boxesL_any {b : Nat} : ∀ {l : List KV}, KV.boxesL b l = false -> (KV.avL l).any (fun c => c.box b) = false
 | [], _ => rfl
 | c :: q, h => by
  simp only [KV.boxesL] at h
  cases hc : c.boxes b with
  | true => rw [hc] at h; cases h
  | false => rw [hc] at h; simp only [KV.avL, List.any_cons, boxes_av, hc, Bool.false_or]; exact boxesL_any h
theorem freeH_spec {b : Nat} : ∀ {T : List (Nat × KBlk)}, freeH b T = true -> memN b (keys (mapH T)) = false /\ (mapH T).any (fun p => p.2.cells.any fun c => c.box b) = false
 | [], _ => ⟨rfl, rfl⟩
 | (k, B) :: q, h => by
  simp only [freeH] at h
  cases hk : Nat.beq k b with
  | true => rw [hk] at h; cases h
  | false =>
   rw [hk] at h
   cases hc : KV.boxesL b B.cells with
   | true => rw [hc] at h; cases h
   | false =>
    rw [hc] at h
    obtain ⟨h1, h2⟩ := freeH_spec h
    refine ⟨?_, ?_⟩
    ·simp only [mapH, keys, memN, nbeq, hk, h1, Bool.or_self]
    ·simp only [mapH, List.any_cons, h2, Bool.or_false]; exact boxesL_any hc
theorem freeRT_spec {b : Nat} : ∀ {T : List (Nat × KV)}, freeRT b T = true -> (mapT T).any (fun p => p.2.hasRow b) = false
 | [], _ => rfl
 | (t, c) :: q, h => by
  simp only [freeRT] at h
  cases hc : c.hasRow b with
  | true => rw [hc] at h; cases h
  | false => rw [hc] at h; simp only [mapT, List.any_cons, hasRow_av, hc, Bool.false_or]; exact freeRT_spec h
theorem hasRowL_any {b : Nat} : ∀ {l : List KV}, KV.hasRowL b l = false -> (KV.avL l).any (fun c => c.hasRow b) = false
 | [], _ => rfl
 | c :: q, h => by
  simp only [KV.hasRowL] at h
  cases hc : c.hasRow b with
  | true => rw [hc] at h; cases h
  | false => rw [hc] at h; simp only [KV.avL, List.any_cons, hasRow_av, hc, Bool.false_or]; exact hasRowL_any h
theorem freeRH_spec {b : Nat} : ∀ {T : List (Nat × KBlk)}, freeRH b T = true -> (mapH T).any (fun p => p.2.cells.any fun c => c.hasRow b) = false
 | [], _ => rfl
 | (k, B) :: q, h => by
  simp only [freeRH] at h
  cases hc : KV.hasRowL b B.cells with
  | true => rw [hc] at h; cases h
  | false => rw [hc] at h; simp only [mapH, List.any_cons, freeRH_spec h, Bool.or_false]; exact hasRowL_any hc
theorem freeRO_spec {b : Nat} : ∀ {T : List (Nat × KRow)}, freeRO b T = true -> memN b (keys (mapO T)) = false
 | [], _ => rfl
 | (k, B) :: q, h => by
  simp only [freeRO] at h
  cases hk : Nat.beq k b with
  | true => rw [hk] at h; cases h
  | false => rw [hk] at h; simp only [mapO, keys, memN, nbeq, hk, freeRO_spec h, Bool.or_self]
theorem freshKH_spec {S : KSt} : ∀ {nh : List (Nat × KBlk)}, freshKH S nh = true -> ∀ b ∈ keys (mapH nh), usesBox S.st b = false /\ S.low <= b
 | [], _, b, hb => by cases hb
 | (k, B) :: q, h, b, hb => by
  simp only [freshKH, Bool.and_eq_true] at h
  obtain ⟨⟨⟨h1, h2⟩, h3⟩, h4⟩ := h
  rcases List.mem_cons.1 hb with e | hb
  ·subst e
   obtain ⟨e1, e2⟩ := freeH_spec h3
   exact ⟨by simp only [usesBox, KSt.st, e1, freeT_spec h2, e2, Bool.or_self], Nat.le_of_ble_eq_true h1⟩
  ·exact freshKH_spec h4 b hb
theorem freshKO_spec {S : KSt} : ∀ {no : List (Nat × KRow)}, freshKO S no = true -> ∀ b ∈ keys (mapO no), usesRow S.st b = false /\ S.low <= b /\ b < 100
 | [], _, b, hb => by cases hb
 | (k, B) :: q, h, b, hb => by
  simp only [freshKO, Bool.and_eq_true, Nat.blt_eq] at h
  obtain ⟨⟨⟨⟨⟨h1, hp⟩, h2⟩, h3⟩, h5⟩, h4⟩ := h
  rcases List.mem_cons.1 hb with e | hb
  ·subst e
   exact ⟨by simp only [usesRow, KSt.st, freeRO_spec h5, freeRT_spec h2, freeRH_spec h3, Bool.or_self], Nat.le_of_ble_eq_true h1, hp⟩
  ·exact freshKO_spec h4 b hb
theorem freshK_spec {S : KSt} {nh : List (Nat × KBlk)} {no : List (Nat × KRow)} (h1 : freshKH S nh = true) (h2 : freshKO S no = true) : Fresh S.st (mapH nh) (mapO no) :=
 ⟨fun b hb => (freshKH_spec h1 b hb).1, fun b hb => (freshKO_spec h2 b hb).1, fun b hb => (freshKH_spec h1 b hb).2, fun b hb => (freshKO_spec h2 b hb).2.1, fun b hb => (freshKO_spec h2 b hb).2.2⟩
theorem freshKB_spec {S : KSt} {nh : List (Nat × KBlk)} {no : List (Nat × KRow)} (h1 : freshKH S nh = true) (h2 : freshKO S no = true) : freshB S.st (mapH nh) (mapO no) = true := by
 have := freshK_spec h1 h2
 simp only [freshB, Bool.and_eq_true, List.all_eq_true, Bool.not_eq_true', Nat.ble_eq, Nat.blt_eq]
 exact ⟨fun b hb => ⟨this.box b hb, this.bl b hb⟩, fun b hb => ⟨⟨this.row b hb, this.rl b hb⟩, this.rp b hb⟩⟩
theorem dstK_spec {S : KSt} {d : Option Nat} (h : dstK S d = true) : dstOk S.st d = true := by
 cases d with
 | none => rfl
 | some t => exact h
theorem forgT_spec (id : Nat) : ∀ (T : List (Nat × KV)), mapT (forgT id T) = forgetT id (mapT T)
 | [] => rfl
 | (t, c) :: q => by
  simp only [forgT, mapT, forgetT, AV.forget, hasRow_av]
  cases c.hasRow id <;> simp only [mapT, forgT_spec id q, KV.av]
theorem forgL_spec (id : Nat) : ∀ (l : List KV), KV.avL (forgL id l) = forgetL id (KV.avL l)
 | [] => rfl
 | c :: q => by
  simp only [forgL, KV.avL, forgetL, AV.forget, hasRow_av]
  cases c.hasRow id <;> simp only [KV.avL, forgL_spec id q, KV.av]
theorem forgH_spec (id : Nat) : ∀ (H : List (Nat × KBlk)), mapH (forgH id H) = forgetH id (mapH H)
 | [] => rfl
 | (b, B) :: q => by simp only [forgH, mapH, forgetH, KBlk.blk, forgL_spec, forgH_spec id q]
theorem rowsD_app (sz : Nat) : ∀ (a b : List KP), rowsD sz (a ++ b) = rowsD sz a ++ rowsD sz b
 | [], b => rfl
 | p :: q, b => by simp [rowsD, rowsD_app sz q b]
theorem joinP_rows (sz : Nat) (a b : List KP) : rowsD sz (joinP a b) = rowsD sz a ++ rowsD sz b := by
 unfold joinP
 split
 ·simp [rowsD, KP.rows, toDLL_map]
 ·exact rowsD_app sz a b
theorem lit_leq {S : KSt} {t : Nat} {b : Bool} {c v : KV} (h : lk S.T t = some c) (hc : c.av = .d (.bool b)) (hv : v.av = .d (.bool b)) : Leq S.st (S.lit (.tmp t) v).st := by
 refine ⟨rfl, rfl, fun u => ?_, fun _ => rfl, fun _ => rfl⟩
 simp only [KSt.lit, KSt.st, mapT, look]
 by_cases e : t = u
 ·subst e; rw [if_pos rfl, look_mapT, h, hv]; simp [hc]
 ·rw [if_neg e]
theorem wantK_spec {ops : Array Oper} {S : KSt} {o : Oper} {A B : KSt -> Prop} (h : wantK (primK P E base r post) ops.toList S o A B) :
  ∃ S', Leq S.st S'.st /\ ((guardB ops S'.st.T o = some true /\ A S') \/ (guardB ops S'.st.T o = some false /\ B S')) := by
 unfold wantK at h
 split at h
 ·rename_i hg; exact ⟨S, Leq.refl _, .inl ⟨by simp [guardB, hg], h⟩⟩
 ·rename_i j want hg
  replace h := kk_spec h; obtain ⟨o', h1, h⟩ := h
  replace h := kk_spec h; obtain ⟨t, h2, h⟩ := h
  replace h := kk_spec h; obtain ⟨c, h3, h⟩ := h
  rw [nth_eq, Array.getElem?_toList] at h1
  have gd : ∀ (S' : KSt) (b : Bool), look S'.st.T t = some (.d (.bool b)) -> guardB ops S'.st.T o = some (b == want) := fun S' b hb => by
   simp only [guardB, hg, h1, Option.bind_some, h2, hb]
  have hl : look S.st.T t = some c.av := by rw [st_look, h3]; rfl
  split at h
  ·have := gd S true hl
   cases want with
   | true => exact ⟨S, Leq.refl _, .inl ⟨this, h⟩⟩
   | false => exact ⟨S, Leq.refl _, .inr ⟨this, h⟩⟩
  ·have := gd S false hl
   cases want with
   | true => exact ⟨S, Leq.refl _, .inr ⟨this, h⟩⟩
   | false => exact ⟨S, Leq.refl _, .inl ⟨this, h⟩⟩
  ·rename_i b
   have key : ∀ v : KV, v.av = .d (.bool b) -> Leq S.st (S.lit (.tmp t) v).st /\ guardB ops (S.lit (.tmp t) v).st.T o = some (b == want) := fun v hv =>
    ⟨lit_leq h3 rfl hv, gd _ b (by simp only [KSt.lit, KSt.st, mapT, look, if_true, hv])⟩
   cases b with
   | true =>
    obtain ⟨e1, e2⟩ := key .tt rfl
    cases want with
    | true => exact ⟨_, e1, .inl ⟨e2, h.1 rfl⟩⟩
    | false => exact ⟨_, e1, .inr ⟨e2, h.1 rfl⟩⟩
   | false =>
    obtain ⟨e1, e2⟩ := key .ff rfl
    cases want with
    | true => exact ⟨_, e1, .inr ⟨e2, h.2 rfl⟩⟩
    | false => exact ⟨_, e1, .inl ⟨e2, h.2 rfl⟩⟩
  ·refine ⟨S, Leq.refl _, .inr ⟨?_, h⟩⟩
   have hl : look S.st.T t = some (.tup []) := hl
   simp only [guardB, hg, h1, Option.bind_some, h2, hl]
  ·exact h.elim
theorem Bar_leq {o : Oper} {S S' S'' : St} {s s' : E.σ} (h : Bar E o S s S' s') (hl : Leq S' S'') : Bar E o S s S'' s' := fun r base M a w hc K Q hK =>
 h r base M a w hc K Q fun v w' M' hc' hx => hK v w' M' (hc'.leq hl) (hx.trans (hl.ext M' w'))
def isVal (o : Oper) : Prop := (∃ f args ts, o.op = .call ⟨.value f, args, ts⟩) \/ ∃ x b, o.op = .next x b
theorem putS_k {S : KSt} {id : Nat} {R : KRow} {ps : List KP} {rows : List (List D)} (h : rowsD R.sz ps = rows) : putS S.st id R.row rows = KSt.st ⟨S.n, S.T, S.H, stA S.O id ⟨R.e, R.sz, ps, R.nn, true⟩, S.low⟩ := by
 subst h
 simp only [putS, KSt.st]
 rw [<- setA_mapO]; rfl
def snapped (c : KV) : Bool := c.isD
theorem snapped_av {v : KV} (h : snapped v = true) : v.av = .d v.toD := by
 exact KV.isD_av h
theorem rowKV_snapped (R : KRow) : snapped (rowKV R) = true := by
 unfold rowKV
 split <;> rfl
theorem rowSn_snapped {R : KRow} {v : KV} (h : rowSn R = some v) : snapped v = true := by
 unfold rowSn at h
 split at h
 ·cases h; exact rowKV_snapped R
 ·split at h
  ·cases h
   unfold mapKV
   split <;> rfl
  ·cases h
theorem snapK_noagg {lv : Bool} {S : KSt} {n : Nat} {c v : KV} (h : snapK lv S n c = some v) (hc : ∀ l, c ≠ .agg l) : snapped v = true := by
 cases n with
 | zero => simp [snapK] at h
 | succ n =>
  unfold snapK at h
  split at h
  ·exact absurd rfl (hc _)
  ·obtain ⟨vs, _, rfl⟩ := omap_spec h; rfl
  ·split at h
   ·split at h
    ·obtain ⟨vs, _, rfl⟩ := omap_spec h; rfl
    ·cases h
   ·cases h
  ·split at h
   ·split at h
    ·exact rowSn_snapped h
    ·cases h
   ·cases h
  ·cases h; rfl
  ·cases h; rfl
  ·cases h; rfl
  ·split at h
   ·rename_i hd
    cases h
    exact hd
   ·cases h
theorem rowsOfK_spec {S : KSt} : ∀ {ids : List Nat} {rows : List KRow}, rowsOfK S ids = some rows -> rowsOf S.st ids = some (rows.map KRow.row)
 | [], rows, h => by simp [rowsOfK] at h; subst h; rfl
 | id :: r, rows, h => by
  simp only [rowsOfK] at h
  split at h
  ·rename_i R hR
   split at h
   ·rename_i hl
    split at h
    ·rename_i l h2
     cases h
     have : R.row.live = true := hl
     simp only [rowsOf, st_lookO, hR, Option.map_some, rowsOfK_spec h2, this, if_true, List.map_cons]
    ·cases h
   ·cases h
  ·cases h
theorem lessHK_spec (ids : List Nat) : ∀ (O : List (Nat × KBlk)), mapH (lessHK ids O) = (mapH O).filter fun p => !memN p.1 ids
 | [] => rfl
 | (k, R) :: r => by
  simp only [lessHK, mapH, List.filter_cons]
  cases memN k ids <;> simp [mapH, lessHK_spec ids r]
theorem KSt.lessW_st (S : KSt) (hb hr : List Nat) : (S.lessW hb hr).st = Aw.lessW S.st hb hr := by simp only [KSt.lessW, KSt.st, Aw.lessW, lessK_spec, lessHK_spec]
theorem blksOfK_spec {S : KSt} : ∀ {ids : List Nat} {rows : List KBlk}, blksOfK S ids = some rows -> blksOf S.st ids = some (rows.map KBlk.blk)
 | [], rows, h => by simp [blksOfK] at h; subst h; rfl
 | id :: r, rows, h => by
  simp only [blksOfK] at h
  split at h
  ·rename_i R hR
   split at h
   ·rename_i hl
    split at h
    ·rename_i l h2
     cases h
     have : R.blk.live = true := hl
     simp only [blksOf, st_lookH, hR, Option.map_some, blksOfK_spec h2, this, if_true, List.map_cons]
    ·cases h
   ·cases h
  ·cases h
theorem nodupK_spec : ∀ {l : List Nat}, nodupK l = true -> l.Nodup
 | [], _ => List.nodup_nil
 | k :: r, h => by
  simp only [nodupK] at h
  split at h
  ·cases h
  ·rename_i hm
   refine List.nodup_cons.2 ⟨fun hh => ?_, nodupK_spec h⟩
   rw [memN_iff.2 hh] at hm; cases hm
theorem mapM_avL {f : AV -> Option AV} {g : KV -> Option KV} : ∀ {cs : List KV} {l : List KV}, (∀ c ∈ cs, ∀ v, g c = some v -> f c.av = some v.av) -> mapK g cs = some l -> (KV.avL cs).mapM f = some (KV.avL l)
 | [], l, _, h => by simp [mapK] at h; subst h; rfl
 | c :: r, l, hh, h => by
  simp only [mapK] at h
  cases h1 : g c with
  | none => rw [h1] at h; cases h
  | some v =>
   cases h2 : mapK g r with
   | none => rw [h1, h2] at h; cases h
   | some l' =>
    rw [h1, h2] at h
    simp only [Option.some.injEq] at h; subst h
    simp only [KV.avL, List.mapM_cons, hh c (by simp) v h1, mapM_avL (fun c hc => hh c (List.mem_cons_of_mem _ hc)) h2]; rfl
theorem snapWK_spec {S : KSt} {hb hr : List Nat} : ∀ (n : Nat) (c v : KV), snapWK S hb hr n c = some v -> snapW S.st hb hr n c.av = some v.av := by
 intro n
 have main : ∀ (c v : KV), (∀ l, c ≠ .agg l) -> snapK true (S.lessW hb hr) 8 c = some v -> (snap true (Aw.lessW S.st hb hr) 8 c.av).map .d = some v.av := by
  intro c v hc h
  have := snapK_spec 8 c v h
  rw [KSt.lessW_st] at this
  rw [this, snapped_av (snapK_noagg h hc)]; rfl
 induction n with
 | zero => intro c v h; cases h
 | succ n ih =>
  intro c v h
  unfold snapWK at h
  split at h
  ·obtain ⟨l, h1, rfl⟩ := omap_spec h
   simp only [KV.av, snapW, mapM_avL (fun c _ v => ih c v) h1, Option.map_some]
  ·simp only [KV.av, snapW]
   split at h
   ·rename_i i hi
    rw [idxK'_spec] at hi
    rw [hi]; cases h; rfl
   ·rename_i hi
    rw [idxK'_spec] at hi
    rw [hi]
    exact main (.osl _) v (fun l e => by cases e) h
  ·simp only [KV.av, snapW]
   split at h
   ·rename_i i hi
    rw [idxK'_spec] at hi
    rw [hi]; cases h; rfl
   ·rename_i hi
    rw [idxK'_spec] at hi
    rw [hi]
    exact main (.loc _ _) v (fun l e => by cases e) h
  ·cases h
  ·rename_i h1 h2 h3 h4
   have := main c v h1 h
   cases c <;> first | exact absurd rfl (h1 _) | exact absurd rfl (h2 _) | exact absurd rfl (h3 _ _) | exact absurd rfl (h4 _) | exact this | skip
theorem snapWKL_spec {S : KSt} {hb hr : List Nat} : ∀ {cs xs : List KV}, mapK (snapWK S hb hr 8) cs = some xs -> snapWL S.st hb hr (KV.avL cs) = some (KV.avL xs)
 | [], l, h => by simp [mapK] at h; subst h; rfl
 | c :: r, l, h => by
  simp only [mapK] at h
  cases h1 : snapWK S hb hr 8 c with
  | none => rw [h1] at h; cases h
  | some v =>
   cases h2 : mapK (snapWK S hb hr 8) r with
   | none => rw [h1, h2] at h; cases h
   | some l' =>
    rw [h1, h2] at h
    simp only [Option.some.injEq] at h; subst h
    simp only [KV.avL, snapWL, snapWK_spec 8 c v h1, snapWKL_spec h2]
theorem dataHs_spec : ∀ {Hs : List KBlk}, dataHs Hs = true -> ∀ B ∈ Hs.map KBlk.blk, ∀ c ∈ B.cells, c.isd = true
 | [], _, B, hB => by cases hB
 | B0 :: r, h, B, hB => by
  simp only [dataHs] at h
  split at h
  ·rename_i h0
   rcases List.mem_cons.1 hB with e | hB
   ·subst e
    intro c hc
    have hc' : c ∈ KV.avL B0.cells := hc
    rw [allD_av h0] at hc'
    obtain ⟨x, _, rfl⟩ := List.mem_map.1 hc'
    rfl
   ·exact dataHs_spec h B hB
  ·cases h
theorem scalHs_spec : ∀ {Hs : List KBlk}, scalHs Hs = true -> ∀ B ∈ Hs.map KBlk.blk, B.live = true /\ ∀ c ∈ B.cells, c.scalar = true
 | [], _, B, hB => by cases hB
 | B0 :: r, h, B, hB => by
  simp only [scalHs] at h
  split at h
  ·rename_i h0
   split at h
   ·rename_i h1
    rcases List.mem_cons.1 hB with e | hB
    ·subst e
     refine ⟨h0, fun c hc => ?_⟩
     obtain ⟨i, hi⟩ := List.mem_iff_getElem?.1 (show c ∈ KV.avL B0.cells from hc)
     exact AV.scalarL_get (scalarL_av _ h1) hi
    ·exact scalHs_spec h B hB
   ·cases h
  ·cases h
theorem stAs_H : ∀ {bs : List Nat} {Bs : List KBlk} {T : List (Nat × KBlk)}, mapH (stAs T bs Bs) = setAs (mapH T) bs (Bs.map KBlk.blk)
 | [], Bs, T => by simp [stAs, setAs]
 | b :: bs, [], T => by simp [stAs, setAs]
 | b :: bs, B :: Bs, T => by simp only [stAs, setAs, List.map_cons]; rw [stAs_H, <- setA_mapH]
theorem stAs_O : ∀ {bs : List Nat} {Bs : List KRow} {T : List (Nat × KRow)}, mapO (stAs T bs Bs) = setAs (mapO T) bs (Bs.map KRow.row)
 | [], Bs, T => by simp [stAs, setAs]
 | b :: bs, [], T => by simp [stAs, setAs]
 | b :: bs, B :: Bs, T => by simp only [stAs, setAs, List.map_cons]; rw [stAs_O, <- setA_mapO]
theorem nnK_row (R : KRow) : (nnK R).row = nnS R.row := by
 unfold nnK nnS
 by_cases h : R.sz = 0
 ·have : Nat.blt 0 R.sz = false := by rw [h]; rfl
  rw [this, if_pos (show R.row.sz = 0 from h)]
 ·have : Nat.blt 0 R.sz = true := by rw [Nat.blt_eq]; omega
  rw [this, if_neg (show ¬ R.row.sz = 0 from h)]; rfl
theorem nnKL_rows : ∀ (Os : List KRow), (nnKL Os).map KRow.row = (Os.map KRow.row).map nnS
 | [] => rfl
 | R :: r => by simp only [nnKL, List.map_cons, nnK_row, nnKL_rows r]
theorem backK_rows : ∀ (Os Rs : List KRow), (backK Os Rs).map KRow.row = backR (Os.map KRow.row) (Rs.map KRow.row)
 | [], [] => rfl
 | [], _ :: _ => rfl
 | _ :: _, [] => rfl
 | R0 :: r, R :: q => by simp only [backK, List.map_cons, backR, backK_rows r q]; rfl
theorem okBack_spec : ∀ {Os Rs : List KRow}, okBack Os Rs = true -> Rs.length = Os.length /\ ∀ (i : Nat) (R0 R2 : Row), (Os.map KRow.row)[i]? = some R0 -> (Rs.map KRow.row)[i]? = some R2 -> R2.sz = 0 -> R2.nn = R0.nn
 | [], [], _ => ⟨rfl, fun i R0 R2 h => by simp at h⟩
 | [], _ :: _, h => by cases h
 | _ :: _, [], h => by cases h
 | R0 :: r, R :: q, h => by
  simp only [okBack] at h
  have go : okBack r q = true -> (0 < R.sz \/ R.nn = R0.nn) -> (R :: q).length = (R0 :: r).length /\ ∀ (i : Nat) (A B : Row), ((R0 :: r).map KRow.row)[i]? = some A -> ((R :: q).map KRow.row)[i]? = some B -> B.sz = 0 -> B.nn = A.nn := by
   intro h' hn
   obtain ⟨e1, e2⟩ := okBack_spec h'
   refine ⟨by simp [e1], fun i A B hA hB hs => ?_⟩
   cases i with
   | zero =>
    simp at hA hB; subst hA hB
    have hs : R.sz = 0 := hs
    exact hn.resolve_left (by omega)
   | succ i => exact e2 i A B (by simpa using hA) (by simpa using hB) hs
  split at h
  ·rename_i h0; rw [Nat.blt_eq] at h0; exact go h (.inl h0)
  ·split at h
   ·rename_i h1 h2; exact go h (.inr (by rw [h1, h2]))
   ·rename_i h1 h2; exact go h (.inr (by rw [h1, h2]))
   ·cases h
theorem wrCallK_bar {E : Env P} {base : Nat} {r : Option Nat} {post : KV -> List KRow -> Prop} {pz : List Nat} {o : Oper} {S : KSt} {s : E.σ} {c : Call} {f : Operand} {g : Nat} (ho : o.op = .call c) (hcal : c.callee = .value f) (hw : wrFn pz f = some g) (hd : dstK S o.dst = true) {K : KSt -> Prop}
  (h : wrCallK (primK P E base r post) g c.args.toList S o.dst K) : ∃ S', Bar E o S.st s S'.st s /\ K S' := by
 obtain ⟨callee, args, ts⟩ := c
 simp only at hcal; subst hcal
 have hfg : f = .func g := by
  unfold wrFn at hw
  split at hw
  ·split at hw
   ·cases hw; rfl
   ·cases hw
  ·cases hw
 subst hfg
 unfold wrCallK at h
 replace h := kk_spec h; obtain ⟨cs, hcs, h⟩ := h
 simp only at h
 replace h := kif_spec h; obtain ⟨h1, h⟩ := h
 simp only [Bool.and_eq_true] at h1
 replace h := kk_spec h; obtain ⟨Hs, hHs, h⟩ := h
 replace h := kk_spec h; obtain ⟨Os, hOs, h⟩ := h
 replace h := kif_spec h; obtain ⟨h2, h⟩ := h
 replace h := kk_spec h; obtain ⟨xs, hxs, h⟩ := h
 obtain ⟨res, Bs, Rs, hcon, h⟩ := h
 replace h := kif_spec h; obtain ⟨h3, h⟩ := h
 simp only [Bool.and_eq_true] at h3
 obtain ⟨⟨⟨e1, e2⟩, e3⟩, e4⟩ := h3
 obtain ⟨hnum, h⟩ := (h : numRows (Rs.map KRow.row) /\ _)
 obtain ⟨e21, e22⟩ := okBack_spec e2
 have e1 := Nat.eq_of_beq_eq_true e1
 rw [lenK_eq, lenK_eq] at e1
 have hcon' : ConW P g (KV.avL xs) (enumB 0 (Hs.map KBlk.blk)) (enumR 100 ((Os.map KRow.row).map nnS)) res.av (enumB 0 (Bs.map KBlk.blk)) (enumR 100 (Rs.map KRow.row)) := by
  rw [<- nnKL_rows]; exact hcon
 refine ⟨_, ?_, h⟩
 have := bar_callW (E := E) (P := P) (o := o) (S := S.st) (s := s) (caps := []) (cs := KV.avL cs) (xs := KV.avL xs) ho (f := .func g) (fv := .fn g []) (g := g) rfl rfl (kopL_spec hcs) (nodupK_spec h1.1) (nodupK_spec h1.2) (blksOfK_spec hHs) (rowsOfK_spec hOs)
  (dataHs_spec h2) (by rw [List.append_nil]; exact snapWKL_spec hxs) (by simpa using e1) (by simpa using e21) e22 ⟨scalHs_spec e4, hnum⟩ (scalar_av _ e3) (dstK_spec hd) hcon'
 refine Bar_leq this ?_
 refine ⟨rfl, rfl, fun t => ?_, fun b => ?_, fun b => ?_⟩
 ·simp only [writS, KSt.st]
  cases o.dst <;> rfl
 ·simp only [writS, KSt.st, stAs_H]
 ·simp only [writS, KSt.st, stAs_O, backK_rows]
theorem barK_next {pz : List Nat} {o : Oper} {S : KSt} {s : E.σ} {nb : Nat} {x : Operand} {b : Bool} (hop : o.op = .next x b) {K : KSt -> E.σ -> Prop} (h : barK (primK P E base r post) tb pz o S s nb K) : BarN E o S.st s (fun X s' => ∃ S' : KSt, X = S'.st /\ K S' s') := by
 unfold barK at h
 rw [hop] at h
 simp only at h
 split at h
 ·replace h := kif_spec h; obtain ⟨hd, h⟩ := h
  replace h := kk_spec h; obtain ⟨c, hc, h⟩ := h
  split at h
  ·rename_i id
   replace h := kk_spec h; obtain ⟨R, hR, h⟩ := h
   replace h := kif_spec h; obtain ⟨hb, h⟩ := h
   simp only [Bool.and_eq_true, Bool.not_eq_true'] at hb
   obtain ⟨⟨hl, hs⟩, hn⟩ := hb
   have hs := Nat.eq_of_beq_eq_true hs
   have hR' : look S.st.O id = some R.row := by rw [st_lookO, hR]; rfl
   split at h
   ·rename_i sv pc hps
    replace h := kk_spec h; obtain ⟨⟨la, k, p⟩, hpn, h⟩ := h
    simp only at h
    split at h
    ·obtain ⟨h1, h2⟩ := (h : (icmpR .lss p (sv.size : Nat) = true -> _) /\ (icmpR .lss p (sv.size : Nat) = false -> _))
     have hpv := numK_spec hpn
     have hrows : R.row.rows = [[.str sv, .int .i64 p]] := by
      show rowsD R.sz R.ps = _
      rw [hps]
      have : pc.toD = .int .i64 p := by cases pc <;> simp [numK] at hpn <;> simp [KV.toD, hpn]
      simp [rowsD, KP.rows, KV.toDLL, KV.toDL, this, KV.toD]
     refine barN_nextS hop (kop_st hc) hR' hs hn hl hrows (dstK_spec hd) (fun h0 => ?_) (fun h0 => ?_)
     ·exact ⟨_, by rw [KSt.add_st]; rfl, h2 (decide_eq_false h0)⟩
     ·refine ⟨_, ?_, h1 (decide_eq_true h0)⟩
      rw [KSt.add_st, <- putS_k (rows := [[.str sv, .int .i64 (strN sv p)]]) (by simp [rowsD, KP.rows, KV.toDLL, KV.toDL, KV.toD, primK])]
      simp only [KV.av, KV.avL, mapH, mapO, primK]
    ·exact h.elim
   ·exact h.elim
  ·exact h.elim
 replace h := kif_spec h; obtain ⟨hd, h⟩ := h
 replace h := kk_spec h; obtain ⟨c, hc, h⟩ := h
 split at h
 ·rename_i id
  replace h := kk_spec h; obtain ⟨R, hR, h⟩ := h
  replace h := kif_spec h; obtain ⟨hb, h⟩ := h
  simp only [Bool.and_eq_true, Bool.not_eq_true'] at hb
  obtain ⟨⟨hl, hs⟩, hn⟩ := hb
  have hs := Nat.eq_of_beq_eq_true hs
  have hR' : look S.st.O id = some R.row := by rw [st_lookO, hR]; rfl
  split at h
  ·rename_i m α dd l f hps
   split at h
   ·rename_i α' d' l' f'
    obtain ⟨he, hk⟩ := h
    have hrows : R.row.rows = [.map (l'.map fun a => rowD 2 0 fun j => (f' a j).toD), .bool false] :: ([] ++ l.map fun a => rowD 2 0 fun j => (f a j).toD) := by
     show rowsD R.sz R.ps = _
     rw [hps]; simp [rowsD, KP.rows, KV.toDLL, KV.toDL, KV.toD]
    refine barN_next (t := 0) hop (kop_st hc) hR' hs hn hl hrows rfl (dstK_spec hd) (fun h0 => ?_) (fun i k v hi => ?_)
    ·have := he (List.map_eq_nil_iff.1 h0)
     exact ⟨_, by rw [KSt.add_st]; rfl, this⟩
    ·rw [List.getElem?_map] at hi
     cases hx : l[i]? with
     | none => rw [hx] at hi; cases hi
     | some y =>
      rw [hx] at hi
      simp only [Option.map_some, rowD, Option.some.injEq, List.cons.injEq, and_true] at hi
      obtain ⟨rfl, rfl⟩ := hi
      have h1 := kif_spec (hk i y hx); obtain ⟨h2, h1⟩ := h1
      simp only [Bool.and_eq_true] at h2
      refine ⟨_, ?_, h1⟩
      rw [KSt.add_st, <- putS_k (rows := [.map (l'.map fun a => rowD 2 0 fun j => (f' a j).toD), .bool true] :: [(f y 0).toD, (f y 1).toD] :: (l.map fun a => rowD 2 0 fun j => (f a j).toD).eraseIdx i) (by simp [rowsD, KP.rows, KV.toDLL, KV.toDL, KV.toD, ChangeMaps.map_eraseIdx])]
      simp only [KV.av, KV.avL, okDat_av h2.1, okDat_av h2.2, mapH, mapO]
   ·exact h.elim
  ·exact h.elim
 ·exact h.elim
theorem barK_bar {pz : List Nat} {o : Oper} {S : KSt} {s : E.σ} {nb : Nat} (hT : ∀ t i, tb t = some i -> TIOk P t i) {K : KSt -> E.σ -> Prop}
  (hbar : ¬ isVal o) (h : barK (primK P E base r post) tb pz o S s nb K) : ∃ S' s', Bar E o S.st s S'.st s' /\ K S' s' := by
 unfold barK at h
 split at h
 ·rename_i t p x hop
  replace h := kk_spec h; obtain ⟨c, hc, h⟩ := h
  replace h := kk_spec h; obtain ⟨d, hd, h⟩ := h
  replace h := kk_spec h; obtain ⟨cs, hcs, h⟩ := h
  replace h := kk_spec h; obtain ⟨ti, hi, h⟩ := h
  replace h := kif_spec h; obtain ⟨h1, h⟩ := h
  have h1 := Nat.eq_of_beq_eq_true h1
  split at h
  ·exact h.elim
  ·rename_i hdst
   split at h
   ·rename_i b off
    replace h := kk_spec h; obtain ⟨B, hB, h⟩ := h
    replace h := kif_spec h; obtain ⟨h2, h⟩ := h
    replace h := kif_spec h; obtain ⟨h3, h⟩ := h
    have hB' : look S.st.H b = some B.blk := by rw [st_lookH, hB]; rfl
    have := bar_store (s := s) hop hdst (kop_st hc) hB' h2 (kop_st hd) (cellsK_spec hcs) (by rw [(hT _ _ hi).sz, h1, avL_len]) (by rw [avL_len, show B.blk.cells = KV.avL B.cells from rfl, avL_len]; exact h3)
    refine ⟨_, _, ?_, h⟩
    have e2 : setBox S.st b ⟨B.blk.e, putL B.blk.cells off (KV.avL cs), true⟩ = KSt.st ⟨S.n, S.T, stA S.H b ⟨B.e, putK B.cells off cs, true⟩, S.O, S.low⟩ := by
     simp only [setBox, KSt.st]
     rw [<- setA_mapH]; simp only [KBlk.blk, putK_spec]
    rw [<- e2]; exact this
   ·rename_i id sz ix j
    replace h := kk_spec h; obtain ⟨R, hR, h⟩ := h
    replace h := kif_spec h; obtain ⟨h2, h⟩ := h
    simp only [Bool.and_eq_true] at h2
    obtain ⟨h2, h3⟩ := h2
    have h3 := Nat.eq_of_beq_eq_true h3
    subst h3
    replace h := kif_spec h; obtain ⟨h4, h⟩ := h
    have h4 := Nat.le_of_ble_eq_true h4
    replace h := kif_spec h; obtain ⟨h5, h⟩ := h
    replace h : (0 <= ix /\ ix < (plenN R.ps : Int)) /\ ∃ ps', rowsD R.sz ps' = (rowsD R.sz R.ps).set ix.toNat (putG ((rowsD R.sz R.ps).getD ix.toNat []) j (KV.toDL cs)) /\ K ⟨S.n, S.T, S.H, stA S.O id ⟨R.e, R.sz, ps', R.nn, true⟩, S.low⟩ s := h
    obtain ⟨⟨h6, h7⟩, ps', h8, h⟩ := h
    have hR' : look S.st.O id = some R.row := by rw [st_lookO, hR]; rfl
    have hlen : ix.toNat < (rowsD R.sz R.ps).length := by rw [plenN_spec]; omega
    have := bar_storeRow (s := s) (ds := KV.toDL cs) (row := (rowsD R.sz R.ps)[ix.toNat]) (i := ix.toNat) (R := R.row) hop hdst (kop_st hc) hR' h2 (kop_st hd) (by rw [cellsK_spec hcs, allD_av h5]) (by rw [(hT _ _ hi).sz, h1, toDL_len]) (by show (rowsD R.sz R.ps)[ix.toNat]? = _; simp [hlen]) (by rw [toDL_len]; exact h4)
    refine ⟨_, _, ?_, h⟩
    have e2 : putS S.st id R.row (R.row.rows.set ix.toNat (putG (rowsD R.sz R.ps)[ix.toNat] j (KV.toDL cs))) = KSt.st ⟨S.n, S.T, S.H, stA S.O id ⟨R.e, R.sz, ps', R.nn, true⟩, S.low⟩ := by
     simp only [putS, KSt.st]
     rw [<- setA_mapO]
     simp only [KRow.row, h8]
     rw [List.getD_eq_getElem?_getD, List.getElem?_eq_getElem hlen]; rfl
    rw [<- e2]; exact this
   ·exact h.elim
 ·rename_i c hop
  obtain ⟨callee, args, ts⟩ := c
  simp only at h
  split at h
  ·split at h
   ·rename_i x y t t' h1 h2
    have e1 : args = #[x, y] := by apply Array.toList_inj.1; simp [h1]
    have e2 : ts = #[t, t'] := by apply Array.toList_inj.1; simp [h2]
    subst e1 e2
    replace h := kif_spec h; obtain ⟨ht, h⟩ := h
    have ht := Nat.eq_of_beq_eq_true ht
    subst ht
    replace h := kif_spec h; obtain ⟨hd, h⟩ := h
    have hd := dstK_spec hd
    replace h := kk_spec h; obtain ⟨c, hc, h⟩ := h
    replace h := kk_spec h; obtain ⟨d, hy, h⟩ := h
    replace h := kk_spec h; obtain ⟨ti, hi, h⟩ := h
    replace h := kk_spec h; obtain ⟨⟨e, sz⟩, hr, h⟩ := h
    replace h := kk_spec h; obtain ⟨j, hj, h⟩ := h
    replace h := kk_spec h; obtain ⟨zc, hz, h⟩ := h
    replace h := kif_spec h; obtain ⟨hzs, h⟩ := h
    replace h := kif_spec h; obtain ⟨hpos, h⟩ := h
    have hzs := Nat.eq_of_beq_eq_true hzs
    have hi := hT _ _ hi
    have hj := hT _ _ hj
    have hr := hi.el _ hr
    have hz := hj.z _ hz
    replace hy := kop_st hy
    replace hc := kop_st hc
    simp only at hzs hpos hz hj h
    split at h
    ·rename_i id
     replace h := kk_spec h; obtain ⟨R, hR, h⟩ := h
     replace h := kif_spec h; obtain ⟨h3, h⟩ := h
     simp only [Bool.and_eq_true] at h3
     obtain ⟨⟨⟨h3, h4⟩, h5⟩, hpp⟩ := h3
     rw [Nat.blt_eq] at hpp
     have h4 := Nat.eq_of_beq_eq_true h4
     have h5 := Nat.eq_of_beq_eq_true h5
     replace h := kk_spec h; obtain ⟨news, hs, h⟩ := h
     replace h : (plenN (joinP R.ps news) * j.bytes <= 140737488355328 /\ plenN (joinP R.ps news) <= 140737488355328) /\ _ := h; obtain ⟨⟨h6, h7⟩, h⟩ := h
     have hR' : look S.st.O id = some R.row := by rw [st_lookO, hR]; rfl
     have hlen : R.row.rows.length + (rowsD R.sz news).length = plenN (joinP R.ps news) := by
      rw [<- plenN_spec R.sz, joinP_rows, List.length_append]; rfl
     have := bar_append (s := s) hop hc hR' h3 (by rw [show R.row.e = R.e from rfl, show R.row.sz = R.sz from rfl, h4, h5]; exact hr) (by rw [show R.row.e = R.e from rfl, h4]; exact hz) (by rw [avL_len, show R.row.sz = R.sz from rfl, h5]; exact hzs) (by rw [show R.row.sz = R.sz from rfl, h5]; exact hpos)
      (by rw [show R.row.e = R.e from rfl, h4]; exact hj.bytes) hy (srcK_spec hs) (by rw [<- hlen] at h6; exact h6) (by rw [<- hlen] at h7; exact h7) hd hpp
     refine ⟨_, _, Bar_leq (Bar_leq this (appS_leq _ _ _ _)) ?_, h⟩
     refine ⟨rfl, rfl, fun u => ?_, fun u => ?_, fun u => ?_⟩
     ·simp only [KSt.st]
      cases o.dst with
      | none => rw [forgT_spec]; rfl
      | some v => simp only [setD, look_setT, mapT, look, forgT_spec]; rfl
     ·simp only [KSt.st, forgH_spec]
     ·simp only [KSt.st, <- setA_mapO]
      rw [show (KRow.row ⟨R.e, R.sz, joinP R.ps news, R.nn, true⟩) = ⟨R.row.e, R.row.sz, R.row.rows ++ rowsD R.sz news, R.row.nn, true⟩ from by simp only [KRow.row, joinP_rows]]
      rfl
    ·replace h := kk_spec h; obtain ⟨news, hs, h⟩ := h
     replace h : (plenN news * j.bytes <= 140737488355328 /\ plenN news <= 140737488355328) /\ _ := h; obtain ⟨⟨h6, h7⟩, h⟩ := h
     replace h := kif_spec h; obtain ⟨hf, h⟩ := h
     have hs' : srcRows { S.st with O := (nb, ⟨e, sz, [], false, true⟩) :: S.st.O } nb sz d.av = some (rowsD sz news) := by
      have h0 := srcK_spec hs
      unfold srcK at hs
      split at hs
      all_goals first | exact h0 | (cases hs; done) | skip
      ·rename_i id'
       split at hs
       ·rename_i R hR
        split at hs
        ·rename_i he
         simp only [Bool.and_eq_true] at he
         have hne : ¬ nb = id' := fun e => by
          subst e
          have := he.2
          simp at this
         simp only [srcRows, KV.av, look, if_neg hne] at h0 ⊢
         exact h0
        ·cases hs
       ·cases hs
     have hlen : (rowsD sz news).length = plenN news := plenN_spec _ _
     have := bar_append_nil (s := s) nb hop hc hr hz (by rw [avL_len]; exact hzs) hpos hj.bytes hy hs' (by rw [hlen]; exact h6) (by rw [hlen]; exact h7) hd (freshKB_spec (nh := []) (by rfl) hf)
     refine ⟨_, _, Bar_leq (Bar_leq this (appS_leq _ _ _ _)) ?_, h⟩
     refine ⟨rfl, rfl, fun u => ?_, fun u => ?_, fun u => ?_⟩
     ·simp only [KSt.st]
      cases o.dst with
      | none => rw [forgT_spec]; rfl
      | some v => simp only [setD, look_setT, mapT, look, forgT_spec]; rfl
     ·simp only [KSt.st, forgH_spec]
     ·simp only [KSt.st, mapO, setA, if_true]; rfl
    ·rename_i sz' row rows
     replace h := kif_spec h; obtain ⟨he, h⟩ := h
     have he := Nat.eq_of_beq_eq_true he
     subst he
     replace h := kk_spec h; obtain ⟨news, hs, h⟩ := h
     replace h : (1 : Int) <= (plenN news : Int) /\ (plenN (joinP [.rw (row :: rows)] news) * j.bytes <= 140737488355328 /\ plenN (joinP [.rw (row :: rows)] news) <= 140737488355328) /\ _ := h
     obtain ⟨h5, ⟨h6, h7⟩, h⟩ := h
     have hlen : (rowsD sz' news).length = plenN news := plenN_spec _ _
     have hrw : (KV.toDLL (row :: rows)) = rowsD sz' [.rw (row :: rows)] := by simp [rowsD, KP.rows]
     have hsum : (KV.toDLL (row :: rows)).length + (rowsD sz' news).length = plenN (joinP [.rw (row :: rows)] news) := by
      rw [<- plenN_spec sz', joinP_rows, List.length_append, hrw]
     rw [Nat.blt_eq] at hpos
     have hf := free_append_full (id := nb) hop (rows := KV.toDLL (row :: rows)) hc hr hz (by rw [avL_len]; exact hzs) hpos (hT _ _ hj).bytes (by simp [KV.toDLL]) (by rw [hlen]; omega) hy (srcK_spec hs) (by rw [hsum]; exact h6) (by rw [hsum]; exact h7)
     refine ⟨_, _, ?_, h⟩
     rw [KSt.add_st]
     refine bar_of_free (res := (rowKV ⟨e, sz', joinP [.rw (row :: rows)] news, true, true⟩).av) ?_ hd
     rw [rowKV_av, joinP_rows, <- hrw]
     exact hf
    ·exact h.elim
   ·exact h.elim
  ·split at h
   ·rename_i x y t t' h1 h2
    have e1 : args = #[x, y] := by apply Array.toList_inj.1; simp [h1]
    have e2 : ts = #[t, t'] := by apply Array.toList_inj.1; simp [h2]
    subst e1 e2
    replace h := kif_spec h; obtain ⟨ht, h⟩ := h
    have ht := Nat.eq_of_beq_eq_true ht
    subst ht
    replace h := kif_spec h; obtain ⟨hd, h⟩ := h
    have hd := dstK_spec hd
    replace h := kk_spec h; obtain ⟨c, hc, h⟩ := h
    replace h := kk_spec h; obtain ⟨d, hy, h⟩ := h
    replace h := kk_spec h; obtain ⟨ti, hi, h⟩ := h
    replace h := kk_spec h; obtain ⟨⟨e, sz⟩, hr, h⟩ := h
    split at h
    ·rename_i id
     replace h := kk_spec h; obtain ⟨R, hR, h⟩ := h
     replace h := kif_spec h; obtain ⟨h3, h⟩ := h
     simp only [Bool.and_eq_true] at h3
     obtain ⟨⟨h3, h4⟩, h5⟩ := h3
     have h4 := Nat.eq_of_beq_eq_true h4
     have h5 := Nat.eq_of_beq_eq_true h5
     subst h4 h5
     replace h := kif_spec h; obtain ⟨h0, h⟩ := h
     rw [Nat.blt_eq] at h0
     replace h := kk_spec h; obtain ⟨news, hs, h⟩ := h
     replace h : (1 : Int) <= (plenN news : Int) /\ (plenN news : Int) = (plenN R.ps : Int) /\ K (KSt.add ⟨S.n, S.T, S.H, stA S.O id ⟨R.e, R.sz, news, R.nn, true⟩, S.low⟩ o.dst (.int .i64 (plenN news)) [] []) s := h
     obtain ⟨h6, h7, h⟩ := h
     have hR' : look S.st.O id = some R.row := by rw [st_lookO, hR]; rfl
     have hlen : (rowsD R.sz news).length = plenN news := plenN_spec _ _
     have := bar_copy (s := s) (R := R.row) hop (kop_st hc) hR' h3 h0 ((hT _ _ hi).el _ hr) (kop_st hy) (srcK_spec hs) ((show (rowsD R.sz news).length = R.row.rows.length from by rw [hlen, show R.row.rows.length = plenN R.ps from plenN_spec _ _]; omega)) (show 0 < (rowsD R.sz news).length from by rw [hlen]; omega) hd
     refine ⟨_, _, ?_, h⟩
     rw [KSt.add_st]
     have e2 : putS S.st id R.row (rowsD R.sz news) = KSt.st ⟨S.n, S.T, S.H, stA S.O id ⟨R.e, R.sz, news, R.nn, true⟩, S.low⟩ := by
      simp only [putS, KSt.st]
      rw [<- setA_mapO]; rfl
     rw [<- e2, show KV.av (.int .i64 (plenN news)) = .d (.int .i64 ((rowsD R.sz news).length : Nat)) from by rw [hlen]; rfl]
     exact this
    ·exact h.elim
   ·exact h.elim
  ·split at h
   ·rename_i x y t t' h1 h2
    have e1 : args = #[x, y] := by apply Array.toList_inj.1; simp [h1]
    have e2 : ts = #[t, t'] := by apply Array.toList_inj.1; simp [h2]
    subst e1 e2
    replace h := kif_spec h; obtain ⟨hd, h⟩ := h
    replace h := kk_spec h; obtain ⟨c, hc, h⟩ := h
    replace h := kk_spec h; obtain ⟨kc, hk, h⟩ := h
    replace h := kk_spec h; obtain ⟨ti, hi, h⟩ := h
    replace h := kk_spec h; obtain ⟨⟨kt, et⟩, hr, h⟩ := h
    replace h := kk_spec h; obtain ⟨ki, hki, h⟩ := h
    replace h := kif_spec h; obtain ⟨hkd, h⟩ := h
    split at h
    ·rename_i id
     replace h := kk_spec h; obtain ⟨R, hR, h⟩ := h
     replace h := kif_spec h; obtain ⟨hb, h⟩ := h
     simp only [Bool.and_eq_true] at hb
     obtain ⟨⟨hl, hs⟩, hn⟩ := hb
     have hs := Nat.eq_of_beq_eq_true hs
     have hR' : look S.st.O id = some R.row := by rw [st_lookO, hR]; rfl
     obtain ⟨d, g1, g2, g3, ps', g4, h⟩ := h
     have e0 : R.row.rows = rowsD 0 R.ps := by show rowsD R.sz R.ps = _; rw [hs]
     have := bar_delete (s := s) (R := R.row) hop ((hT _ _ hi).mp _ hr) (unK_spec (hT _ _ hki) g1) (kop_st hc) hR' hs hn hl ((kop_st hk).trans (congrArg some (KV.isD_av hkd))) g2 (by rw [e0]; exact g3) (dstK_spec hd)
     refine ⟨_, _, ?_, h⟩
     rw [KSt.add_st, <- putS_k (rows := mdelD R.row.rows kc.toD) (by rw [e0, <- g4, hs])]
     exact this
    ·exact h.elim
   ·exact h.elim
  ·rename_i f; exact absurd (.inl ⟨f, args, ts, hop⟩) hbar
  ·exact h.elim
 ·rename_i t m k x hop
  split at h
  ·exact h.elim
  ·rename_i hdst
   replace h := kk_spec h; obtain ⟨c, hc, h⟩ := h
   replace h := kk_spec h; obtain ⟨kc, hk, h⟩ := h
   replace h := kk_spec h; obtain ⟨v, hv, h⟩ := h
   replace h := kk_spec h; obtain ⟨ti, hi, h⟩ := h
   replace h := kk_spec h; obtain ⟨⟨kt, et⟩, hr, h⟩ := h
   replace h := kk_spec h; obtain ⟨ki, hki, h⟩ := h
   replace h := kif_spec h; obtain ⟨hkd, h⟩ := h
   simp only [Bool.and_eq_true] at hkd
   split at h
   ·rename_i id
    replace h := kk_spec h; obtain ⟨R, hR, h⟩ := h
    replace h := kif_spec h; obtain ⟨hb, h⟩ := h
    simp only [Bool.and_eq_true] at hb
    obtain ⟨⟨hl, hs⟩, hn⟩ := hb
    have hs := Nat.eq_of_beq_eq_true hs
    have hR' : look S.st.O id = some R.row := by rw [st_lookO, hR]; rfl
    obtain ⟨d, g1, g2, g3, ps', g4, h⟩ := h
    have e0 : R.row.rows = rowsD 0 R.ps := by show rowsD R.sz R.ps = _; rw [hs]
    have hka : okDat kc = true := hkd.1
    have := bar_mapUpdate (s := s) (R := R.row) (vD := v.toD) hop hdst ((hT _ _ hi).mp _ hr) (unK_spec (hT _ _ hki) g1) (kop_st hc) hR' hs hn hl (kD := kc.toD) (fun w ok μ ν yl u hu => okDat_rd hka (by rw [okDat_av hka]; exact hu)) (by rw [kop_st hk, okDat_av hka]) g2 (by rw [e0]; exact g3) (kop_st hv) (fun w ok μ ν yl u hu => okDat_rd hkd.2 hu)
    refine ⟨_, _, ?_, h⟩
    rw [<- putS_k (rows := msetD R.row.rows kc.toD v.toD) (by rw [e0, <- g4, hs])]
    exact this
   ·exact h.elim
 ·rename_i x hop
  replace h := kif_spec h; obtain ⟨hd, h⟩ := h
  replace h := kk_spec h; obtain ⟨c, hc, h⟩ := h
  split at h
  ·rename_i id
   replace h := kk_spec h; obtain ⟨R, hR, h⟩ := h
   replace h := kif_spec h; obtain ⟨hb, h⟩ := h
   simp only [Bool.and_eq_true, Bool.not_eq_true'] at hb
   obtain ⟨⟨hl, hs⟩, hn⟩ := hb
   have hs := Nat.eq_of_beq_eq_true hs
   have hR' : look S.st.O id = some R.row := by rw [st_lookO, hR]; rfl
   split at h
   ·rename_i m k v ps hps
    split at h
    ·rename_i α dd l f
     replace h := kif_spec h; obtain ⟨h2, h⟩ := h
     simp only [Bool.and_eq_true] at h2
     have hrows : R.row.rows = [.map (l.map fun a => rowD 2 0 fun j => (f a j).toD), .bool true] :: [k.toD, v.toD] :: rowsD R.sz ps := by
      show rowsD R.sz R.ps = _
      rw [hps]; simp [rowsD, KP.rows, KV.toDLL, KV.toDL, KV.toD]
     have := bar_entry (s := s) (R := R.row) hop (kop_st hc) hR' hs hn hl hrows (dstK_spec hd)
     refine ⟨_, _, ?_, h⟩
     rw [KSt.add_st, <- putS_k (rows := [.map (l.map fun a => rowD 2 0 fun j => (f a j).toD), .bool false] :: rowsD R.sz ps) (by simp [rowsD, KP.rows, KV.toDLL, KV.toDL, KV.toD])]
     simp only [KV.av, KV.avL, okDat_av h2.1, okDat_av h2.2, mapH, mapO]
     exact this
    ·exact h.elim
   ·exact h.elim
  ·exact h.elim
 ·rename_i x b hop
  exact absurd (.inr ⟨x, b, hop⟩) hbar
 ·exact h.elim
theorem barK_spec {pz : List Nat} {ops : Array Oper} {i : Nat} {rest : List Nat} {o : Oper} {S : KSt} {s : E.σ} {Q : Exit -> St -> E.σ -> Prop} {nb : Nat} (hT : ∀ t i, tb t = some i -> TIOk P t i) (ho : ops[i]? = some o) (hg : guardB ops S.st.T o = some true) {K : KSt -> E.σ -> Prop}
  (hK : ∀ S' s', K S' s' -> AWO E base r ops rest S'.st s' Q) (hbar : isBarK pz o S = true) (h : barK (primK P E base r post) tb pz o S s nb K) : AWO E base r ops (i :: rest) S.st s Q := by
 by_cases hv : isVal o
 ·rcases hv with ⟨f, args, ts, hop⟩ | ⟨x, b, hop⟩
  case inr => exact AWO_barN ho hg (barK_next hop h) (fun X s' ⟨S', e, hk⟩ => by subst e; exact hK S' s' hk)
  unfold barK at h
  rw [hop] at h
  simp only at h
  cases hw : wrFn pz f with
  | some g =>
   rw [hw] at h
   replace h := kif_spec h; obtain ⟨hd, h⟩ := h
   obtain ⟨S', hb, hk⟩ := wrCallK_bar (s := s) hop rfl hw hd h
   exact AWO_bar ho hg hb (hK _ _ hk)
  | none =>
  rw [hw] at h
  cases hm : modeK pz o.dst 9000000 with
  | true =>
   rw [hm] at h
   replace h := kif_spec h; obtain ⟨hd, h⟩ := h
   replace h := kk_spec h; obtain ⟨fv, hf, h⟩ := h
   replace h := kk_spec h; obtain ⟨cs, hcs, h⟩ := h
   replace h := kk_spec h; obtain ⟨⟨g, caps⟩, hgf, h⟩ := h
   replace h := kk_spec h; obtain ⟨xs, hxs, h⟩ := h
   obtain ⟨RR, hcon, h⟩ := h
   have hsx := snapL_spec' hxs
   rw [avL_app] at hsx
   exact AWO_barN ho hg (barN_callN nb hop (kop_st hf) (fnK_spec hgf) (kopL_spec hcs) hsx (by rintro R ⟨R', hR, rfl⟩; exact (h R' hR).1)
    (by
     rintro R ⟨R', hR, rfl⟩
     obtain ⟨h1, _⟩ := kif_spec (h R' hR).2
     exact freshK_spec (nh := []) rfl h1) (dstK_spec hd) hcon) (fun X s' hX => by
    obtain ⟨R, ⟨R', hR, rfl⟩, rfl, rfl⟩ := hX
    obtain ⟨_, h2⟩ := kif_spec (h R' hR).2
    have := hK _ _ h2
    rwa [KSt.add_st] at this)
  | false =>
  rw [hm] at h
  have hy : kop S.T f = some .yld := by
   simp only [isBarK, hop, hw, hm] at hbar
   split at hbar
   ·rename_i hk; exact hk
   ·cases hbar
  replace h := kif_spec h; obtain ⟨hd, h⟩ := h
  replace h := kk_spec h; obtain ⟨cs, hcs, h⟩ := h
  replace h := kk_spec h; obtain ⟨xs, hxs, h⟩ := h
  obtain ⟨hst, h⟩ := h
  exact AWO_yield ho hg hop (kop_st hy) (kopL_spec hcs) (snapL_spec' hxs) (dstK_spec hd) hst (fun s' b hb => by
   have := hK _ _ (h s' b hb)
   rwa [KSt.add_st] at this)
 ·obtain ⟨S', s', hb, hk⟩ := barK_bar hT hv h
  exact AWO_bar ho hg hb (hK _ _ hk)
theorem seeT_other {id : Nat} {d : D} {t : Nat} {c : AV} {T : List (Nat × AV)} (h : c ≠ .osl id) : seeT id d ((t, c) :: T) = (t, c) :: seeT id d T := by
 cases c with
 | osl i => simp only [seeT]; rw [if_neg (fun e => h (by rw [e]))]
 | _ => rfl
theorem seeK_spec {id : Nat} {v : KV} {d : D} (hv : v.av = .d d) : ∀ {T : List (Nat × KV)}, mapT (seeK id v T) = seeT id d (mapT T)
 | [] => rfl
 | (t, c) :: q => by
  have ih := seeK_spec (id := id) hv (T := q)
  cases c with
  | osl i =>
   simp only [seeK]
   split
   ·rename_i h
    have := Nat.eq_of_beq_eq_true h
    subst this
    simp [mapT, KV.av, ih, seeT, hv]
   ·rename_i h
    have : i ≠ id := fun e => by subst e; rw [Nat.beq_refl] at h; cases h
    simp [mapT, KV.av, ih, seeT, this]
  | _ => simp only [seeK, mapT, ih, KV.av]; rw [seeT_other (fun e => by cases e)]
theorem look_keepT {id : Nat} {d : D} {t : Nat} {x : AV} (hx : x ≠ .osl id) : ∀ {T : List (Nat × AV)}, look T t = some x -> look (seeT id d T) t = some x
 | [], h => by cases h
 | (u, c) :: q, h => by
  have ih := look_keepT (id := id) (d := d) (t := t) (x := x) hx (T := q)
  simp only [look] at h
  by_cases hc : c = .osl id
  ·subst hc
   simp only [seeT, if_true, look]
   by_cases e : u = t
   ·rw [if_pos e] at h; cases h; exact absurd rfl hx
   ·rw [if_neg e] at h ⊢; exact ih h
  ·rw [seeT_other hc]
   simp only [look]
   by_cases e : u = t
   ·rw [if_pos e] at h ⊢; exact h
   ·rw [if_neg e] at h ⊢; exact ih h
def Keeps (S S' : KSt) : Prop := Weak S.st S'.st /\ ∀ t x, (∀ i, x ≠ .osl i) -> look S.st.T t = some x -> look S'.st.T t = some x
theorem Keeps.refl (S : KSt) : Keeps S S := ⟨Weak.refl _, fun _ _ _ h => h⟩
theorem Keeps.trans {S S' S'' : KSt} (h : Keeps S S') (k : Keeps S' S'') : Keeps S S'' := ⟨h.1.trans k.1, fun t x hx e => k.2 t x hx (h.2 t x hx e)⟩
theorem rowSn_av {R : KRow} {v : KV} (h : rowSn R = some v) : v.av = .d v.toD := by
 unfold rowSn at h
 split at h
 ·cases h; rw [rowKV_toD]; exact rowKV_av R
 ·split at h
  ·cases h
   unfold mapKV
   split <;> rfl
  ·cases h
theorem frzK_keeps (id : Nat) (S : KSt) : Keeps S (frzK id S) := by
 unfold frzK
 split
 ·rename_i R hR
  split
  ·exact Keeps.refl S
  ·rename_i v hv
   have hR' : look S.st.O id = some R.row := by rw [st_lookO, hR]; rfl
   have e : frzS S.st id R.row v.toD = KSt.st ⟨S.n, seeK id v S.T, S.H, stA S.O id ⟨R.e, R.sz, R.ps, R.nn, false⟩, S.low⟩ := by
    simp only [frzS, KSt.st]
    rw [<- setA_mapO, seeK_spec (rowSn_av hv)]; rfl
   refine ⟨?_, fun t x hx h => ?_⟩
   ·rw [<- e]; exact weak_frz hR' (rowSn_spec hv)
   ·rw [<- e]; exact look_keepT (hx _) h
 ·exact Keeps.refl S
theorem frzI_keeps : ∀ (l : List Nat) (S : KSt), Keeps S (frzI l S)
 | [], S => Keeps.refl S
 | id :: q, S => (frzK_keeps id S).trans (frzI_keeps q _)
theorem frzL_keeps : ∀ (l : List Nat) (S : KSt), Keeps S (frzL l S)
 | [], S => Keeps.refl S
 | t :: q, S => by
  unfold frzL
  split
  ·exact (frzI_keeps _ S).trans (frzL_keeps q _)
  ·exact frzL_keeps q S
theorem preK_keeps (pz : List Nat) (o : Oper) (S : KSt) : Keeps S (preK pz o S) := by
 unfold preK
 split
 ·split
  ·exact frzL_keeps _ S
  ·exact Keeps.refl S
 ·exact Keeps.refl S
theorem guardB_keeps {ops : Array Oper} {S S' : KSt} {o : Oper} {b : Bool} (h : Keeps S S') (hg : guardB ops S.st.T o = some b) : guardB ops S'.st.T o = some b := by
 unfold guardB at hg ⊢
 split at hg
 ·exact hg
 ·rename_i j want hgd
  cases hq : (ops[j]?).bind (·.dst) with
  | none => simp only [hq] at hg; cases hg
  | some t =>
   simp only [hq] at hg ⊢
   cases hl : look S.st.T t with
   | none => rw [hl] at hg; cases hg
   | some v =>
    rw [hl] at hg
    cases v with
    | d x => rw [h.2 t _ (fun i e => by cases e) hl]; exact hg
    | tup l => rw [h.2 t _ (fun i e => by cases e) hl]; exact hg
    | _ => cases hg
theorem opsK_spec {ops : Array Oper} {pz : List Nat} {Q : Exit -> St -> E.σ -> Prop} {K : KSt -> E.σ -> Prop} (hT : ∀ t i, tb t = some i -> TIOk P t i) (hQ : ∀ S s, K S s -> Q .normal S.st s) : ∀ (l : List Oper) (i : Nat) (S : KSt) (s : E.σ), (∀ (j : Nat) (o : Oper), l[j]? = some o -> ops[i + j]? = some o) ->
  opsK (primK P E base r post) tb pz ops.toList l S s K -> AWO E base r ops (List.range' i l.length) S.st s Q
 | [], i, S, s, _, h => AWO_nil (hQ _ _ h)
 | o :: rest, i, S, s, hl, h => by
  have ho : ops[i]? = some o := by simpa using hl 0 o rfl
  have hrest : ∀ (j : Nat) (o : Oper), rest[j]? = some o -> ops[i + 1 + j]? = some o := fun j o h => by
   have := hl (j + 1) o (by simpa using h)
   rwa [show i + (j + 1) = i + 1 + j from by omega] at this
  rw [List.length_cons, List.range'_succ]
  unfold opsK at h
  obtain ⟨S', hleq, h⟩ := wantK_spec h
  refine AWO_leq hleq ?_
  rcases h with ⟨hg, h⟩ | ⟨hg, h⟩
  ·have hk := preK_keeps pz o S'
   refine AWO_weak hk.1 ?_
   replace hg := guardB_keeps hk hg
   generalize preK pz o S' = S' at h hg
   simp only at h
   split at h
   ·rename_i hb
    exact barK_spec hT ho hg (fun S' s' hk => opsK_spec hT hQ rest (i + 1) S' s' hrest hk) hb h
   ·obtain ⟨res, nh, no, hf, h⟩ := freeK_spec hT h
    replace h := kif_spec h; obtain ⟨h1, h⟩ := h
    simp only [Bool.and_eq_true] at h1
    have := opsK_spec hT hQ rest (i + 1) _ s hrest h
    rw [KSt.add_st] at this
    exact AWO_free _ _ _ ho hg hf (freshK_spec h1.1.1 h1.1.2) (dstK_spec h1.2) this
  ·replace h := kif_spec h; obtain ⟨h1, h⟩ := h
   have := opsK_spec hT hQ rest (i + 1) _ s hrest h
   rw [KSt.add_st] at this
   exact AWO_notT ho hg (dstK_spec h1) this
theorem regK_spec {id : Nat} {ops : Array Oper} {pz : List Nat} {S : KSt} {s : E.σ} {Q : Exit -> St -> E.σ -> Prop} {K : KSt -> E.σ -> Prop} (hT : ∀ t i, tb t = some i -> TIOk P t i) (hQ : ∀ S s, K S s -> Q .normal S.st s)
  (h : opsK (primK P E base r post) tb pz ops.toList ops.toList S s K) : AW E base r (.region id ops false) S.st s Q := by
 refine AW_region ?_
 have := opsK_spec (ops := ops) hT hQ ops.toList 0 S s (fun j o h => by simpa using h) h
 rwa [List.range_eq_range', <- Array.length_toList]
end Go.Proofs.Ytfilnnbfppokmaa.Aw
namespace Go.Proofs.Ytfilnnbfppokmaa.Aw
open Go Go.RowKit
universe u
variable {P : Program} {E : Env P} {base : Nat} {r : Option Nat} {post : KV -> List KRow -> Prop} {tb : Nat -> Option TI}
theorem key_look {α : Type} {l : List (Nat × α)} {b : Nat} (h : b ∈ keys l) : ∃ v, look l b = some v := by
 induction l with
 | nil => cases h
 | cons p q ih =>
  obtain ⟨k, v⟩ := p
  simp only [look]
  by_cases e : k = b
  ·exact ⟨v, if_pos e⟩
  ·rw [if_neg e]
   rcases List.mem_cons.1 h with h | h
   ·exact absurd h.symm e
   ·exact ih h
theorem freshH_not {S : KSt} : ∀ {nh : List (Nat × KBlk)}, freshKH S nh = true -> ∀ b ∈ keys (mapH nh), b ∉ keys S.st.H := fun h b hb hh => by
 have := (freshKH_spec h b hb).1
 simp only [usesBox, memN_iff.2 hh, Bool.true_or] at this
 cases this
theorem freshO_not {S : KSt} : ∀ {no : List (Nat × KRow)}, freshKO S no = true -> ∀ b ∈ keys (mapO no), b ∉ keys S.st.O := fun h b hb hh => by
 have := (freshKO_spec h b hb).1
 simp only [usesRow, memN_iff.2 hh, Bool.true_or] at this
 cases this
theorem segS_snoc {ops : Array Oper} {X : Nat -> Bool} (l : List Sg) (g : Sg) (i : Nat) (S : St) : segS ops X i (l ++ [g]) S = if X (i + l.length) then (segS ops X i l S).add (dstAt ops (i + l.length)) g.res g.nh g.no else segS ops X i l S := by
 rw [segS_split]; rfl
theorem segS_keysH {ops : Array Oper} : ∀ (l : List Sg) (i : Nat) (S : St) (b : Nat), b ∈ keys (segS ops (fun _ => true) i l S).H ↔ b ∈ keys S.H \/ ∃ g ∈ l, b ∈ keys g.nh
 | [], i, S, b => by simp [segS]
 | g :: q, i, S, b => by
  simp only [segS, if_true]
  rw [segS_keysH q (i + 1)]
  simp only [St.add, keys_append, List.mem_append, List.mem_cons, exists_eq_or_imp]
  exact ⟨fun h => h.elim (fun h => h.elim (fun h => .inr (.inl h)) .inl) (fun h => .inr (.inr h)), fun h => h.elim (fun h => .inl (.inr h)) (fun h => h.elim (fun h => .inl (.inl h)) .inr)⟩
theorem segS_keysO {ops : Array Oper} : ∀ (l : List Sg) (i : Nat) (S : St) (b : Nat), b ∈ keys (segS ops (fun _ => true) i l S).O ↔ b ∈ keys S.O \/ ∃ g ∈ l, b ∈ keys g.no
 | [], i, S, b => by simp [segS]
 | g :: q, i, S, b => by
  simp only [segS, if_true]
  rw [segS_keysO q (i + 1)]
  simp only [St.add, keys_append, List.mem_append, List.mem_cons, exists_eq_or_imp]
  exact ⟨fun h => h.elim (fun h => h.elim (fun h => .inr (.inl h)) .inl) (fun h => .inr (.inr h)), fun h => h.elim (fun h => .inl (.inr h)) (fun h => h.elim (fun h => .inl (.inl h)) .inr)⟩
theorem dis_snoc {g : Sg} : ∀ {l : List Sg} {K K' : List Nat}, dis K K' l = true -> (∀ b ∈ keys g.nh, b ∉ K /\ ∀ g' ∈ l, b ∉ keys g'.nh) -> (∀ b ∈ keys g.no, b ∉ K' /\ ∀ g' ∈ l, b ∉ keys g'.no) -> dis K K' (l ++ [g]) = true
 | [], K, K', h, h1, h2 => by
  simp only [List.nil_append, dis, Bool.and_true, Bool.and_eq_true, List.all_eq_true, Bool.not_eq_true']
  refine ⟨fun b hb => ?_, fun b hb => ?_⟩
  ·cases hm : memN b K with
   | false => rfl
   | true => exact absurd (memN_iff.1 hm) (h1 b hb).1
  ·cases hm : memN b K' with
   | false => rfl
   | true => exact absurd (memN_iff.1 hm) (h2 b hb).1
 | g' :: q, K, K', h, h1, h2 => by
  simp only [dis, Bool.and_eq_true] at h
  simp only [List.cons_append, dis, Bool.and_eq_true]
  refine ⟨h.1, dis_snoc h.2 (fun b hb => ⟨fun hm => ?_, fun g2 hg2 => (h1 b hb).2 g2 (List.mem_cons_of_mem _ hg2)⟩) (fun b hb => ⟨fun hm => ?_, fun g2 hg2 => (h2 b hb).2 g2 (List.mem_cons_of_mem _ hg2)⟩)⟩
  ·rcases List.mem_append.1 hm with hm | hm
   ·exact (h1 b hb).2 g' (by simp) hm
   ·exact (h1 b hb).1 hm
  ·rcases List.mem_append.1 hm with hm | hm
   ·exact (h2 b hb).2 g' (by simp) hm
   ·exact (h2 b hb).1 hm
def Apt (g g' : Sg) : Prop := (∀ b ∈ keys g.nh, sgBox b g' = false) /\ ∀ b ∈ keys g.no, sgRow b g' = false
def sgOf (g : SgK) (run : Bool) : Sg := ⟨g.res.av, mapH g.nh, mapO g.no, run⟩
theorem mentB_spec {b : Nat} : ∀ {nh : List (Nat × KBlk)}, mentB b nh = false -> memN b (keys (mapH nh)) = false /\ (mapH nh).any (fun p => p.2.cells.any fun c => c.box b) = false
 | [], _ => ⟨rfl, rfl⟩
 | (k, B) :: q, h => by
  simp only [mentB] at h
  split at h
  ·cases h
  ·rename_i hk
   split at h
   ·cases h
   ·rename_i hc
    obtain ⟨h1, h2⟩ := mentB_spec h
    refine ⟨by simp only [mapH, keys, memN, nbeq, hk, h1, Bool.or_self], ?_⟩
    simp only [mapH, List.any_cons, h2, Bool.or_false]; exact boxesL_any hc
theorem mentRB_spec {b : Nat} : ∀ {nh : List (Nat × KBlk)}, mentRB b nh = false -> (mapH nh).any (fun p => p.2.cells.any fun c => c.hasRow b) = false
 | [], _ => rfl
 | (k, B) :: q, h => by
  simp only [mentRB] at h
  split at h
  ·cases h
  ·rename_i hc
   simp only [mapH, List.any_cons, mentRB_spec h, Bool.or_false]; exact hasRowL_any hc
theorem mentRO_spec {b : Nat} : ∀ {no : List (Nat × KRow)}, mentRO b no = false -> memN b (keys (mapO no)) = false
 | [], _ => rfl
 | (k, B) :: q, h => by
  simp only [mentRO] at h
  split at h
  ·cases h
  ·rename_i hk
   simp only [mapO, keys, memN, nbeq, hk, mentRO_spec h, Bool.or_self]
theorem apartH_spec {g' : SgK} {run : Bool} : ∀ {nh : List (Nat × KBlk)}, apartH g' nh = true -> ∀ b ∈ keys (mapH nh), sgBox b (sgOf g' run) = false
 | [], _, b, hb => by cases hb
 | (k, B) :: q, h, b, hb => by
  simp only [apartH] at h
  split at h
  ·cases h
  ·rename_i h1
   split at h
   ·cases h
   ·rename_i h2
    rcases List.mem_cons.1 hb with e | hb
    ·subst e
     obtain ⟨e1, e2⟩ := mentB_spec h2
     simp only [sgBox, sgOf, boxes_av, h1, e1, e2, Bool.or_self]
    ·exact apartH_spec h b hb
theorem apartO_spec {g' : SgK} {run : Bool} : ∀ {no : List (Nat × KRow)}, apartO g' no = true -> ∀ b ∈ keys (mapO no), sgRow b (sgOf g' run) = false
 | [], _, b, hb => by cases hb
 | (k, B) :: q, h, b, hb => by
  simp only [apartO] at h
  split at h
  ·cases h
  ·rename_i h1
   split at h
   ·cases h
   ·rename_i h2
    split at h
    ·cases h
    ·rename_i h3
     rcases List.mem_cons.1 hb with e | hb
     ·subst e
      simp only [sgRow, sgOf, hasRow_av, h1, mentRO_spec h3, mentRB_spec h2, Bool.or_self]
     ·exact apartO_spec h b hb
theorem apartG_spec {g g' : SgK} {x y : Bool} (h : apartG g g' = true) : Apt (sgOf g x) (sgOf g' y) := by
 unfold apartG at h
 split at h
 ·rename_i h1; exact ⟨apartH_spec h1, apartO_spec h⟩
 ·cases h
theorem okNew_spec {ops : List Oper} {i : Nat} {g : SgK} : ∀ {Rs : List (Nat × SgK)}, okNew ops i g Rs = true -> ∀ p ∈ Rs, apartG g p.2 = true /\ (apartG p.2 g = true \/ ((depsK ops []).getD i 0).testBit p.1 = true)
 | [], _, p, hp => by cases hp
 | (j, g') :: q, h, p, hp => by
  simp only [okNew] at h
  split at h
  ·rename_i h1
   split at h
   ·rename_i h2
    rcases List.mem_cons.1 hp with e | hp
    ·subst e; exact ⟨h1, .inl h2⟩
    ·exact okNew_spec h p hp
   ·split at h
    ·rename_i h3
     rcases List.mem_cons.1 hp with e | hp
     ·subst e; exact ⟨h1, .inr h3⟩
     ·exact okNew_spec h p hp
    ·cases h
  ·cases h
theorem tmpsK_mem {t : Nat} : ∀ {l : List Operand}, t ∈ tmpsK l -> t ∈ l.filterMap tmpOf
 | [], h => by cases h
 | .tmp u :: q, h => by
  simp only [tmpsK, List.mem_cons] at h
  simp only [List.filterMap_cons, tmpOf, List.mem_cons]
  exact h.imp id tmpsK_mem
 | .const v :: q, h => by simp only [List.filterMap_cons, tmpOf]; exact tmpsK_mem h
 | .func v :: q, h => by simp only [List.filterMap_cons, tmpOf]; exact tmpsK_mem h
 | .global v :: q, h => by simp only [List.filterMap_cons, tmpOf]; exact tmpsK_mem h
theorem namesK_mem {ops : Array Oper} {o : Oper} {t : Nat} (h : t ∈ namesK ops.toList o) : t ∈ names ops o := by
 unfold namesK at h
 unfold names gdst
 split at h
 ·rename_i j w hg
  rw [hg]
  split at h
  ·rename_i o' ho
   rw [nth_eq, Array.getElem?_toList] at ho
   split at h
   ·rename_i u hu
    rcases List.mem_cons.1 h with e | h
    ·subst e
     simp [dstAt, ho, hu]
    ·exact List.mem_append_left _ (tmpsK_mem h)
   ·exact List.mem_append_left _ (tmpsK_mem h)
  ·exact List.mem_append_left _ (tmpsK_mem h)
 ·exact List.mem_append_left _ (tmpsK_mem h)
theorem restrK_look {T : List (Nat × KV)} {t : Nat} {c : KV} : ∀ {l : List Nat}, lk (restrK T l) t = some c -> t ∈ l /\ lk T t = some c
 | [], h => by cases h
 | u :: q, h => by
  simp only [restrK] at h
  split at h
  ·rename_i v hv
   rw [lk_cons] at h
   by_cases e : u = t
   ·subst e; rw [if_pos rfl] at h; cases h; exact ⟨by simp, hv⟩
   ·rw [if_neg e] at h
    obtain ⟨h1, h2⟩ := restrK_look h
    exact ⟨List.mem_cons_of_mem _ h1, h2⟩
  ·obtain ⟨h1, h2⟩ := restrK_look h
   exact ⟨List.mem_cons_of_mem _ h1, h2⟩
theorem Free_sub {o : Oper} {S S' : St} {res : AV} {nh : List (Nat × Blk)} {no : List (Nat × Row)} (h : Free P o S' res nh no) (hs : Sub S S') : Free P o S res nh no :=
 fun r base M yl a w hr K Q hK => h r base M yl a w (hr.sub hs) K Q hK
structure SegInv (P : Program) (ops : Array Oper) (B : List Nat) (m : Nat) (L : List Sg) (S0 S : KSt) (Rs : List (Nat × SgK)) : Prop where
 leq : Leq (segS ops (fun _ => true) m L S0.st) S.st
 obl : ∀ (p : Nat) (g : Sg), L[p]? = some g -> Obl P ops B m L S0.st (m + p) g
 dis : Aw.dis (keys S0.st.H) (keys S0.st.O) L = true
 fresh : ∀ (p : Nat) (g : Sg), L[p]? = some g -> freshB S0.st g.nh g.no = true
 apt : ∀ (p : Nat) (g : Sg) (q : Nat) (g' : Sg), L[p]? = some g -> L[q]? = some g' -> p = q \/ (B.getD (m + q) 0).testBit (m + p) = true \/ Apt g g'
 rs : ∀ (p : Nat) (g : Sg), L[p]? = some g -> ∃ gk run, (m + p, gk) ∈ Rs /\ g = sgOf gk run
theorem segInv_nil (ops : Array Oper) (B : List Nat) (m : Nat) (S : KSt) : SegInv P ops B m [] S S [] :=
 ⟨Leq.refl _, fun p g h => by simp at h, rfl, fun p g h => by simp at h, fun p g q g' h => by simp at h, fun p g h => by simp at h⟩
theorem SegInv.leq' {ops : Array Oper} {B : List Nat} {m : Nat} {L : List Sg} {S0 S S' : KSt} {Rs : List (Nat × SgK)} (h : SegInv P ops B m L S0 S Rs) (k : Leq S.st S'.st) : SegInv P ops B m L S0 S' Rs := { h with leq := h.leq.trans k }
theorem getElem?_snoc {α : Type u} {l : List α} {a x : α} {p : Nat} (h : (l ++ [a])[p]? = some x) : l[p]? = some x \/ (p = l.length /\ x = a) := by
 by_cases hp : p < l.length
 ·rw [List.getElem?_append_left hp] at h; exact .inl h
 ·rw [List.getElem?_append_right (by omega)] at h
  have : p - l.length = 0 := by
   cases hh : p - l.length with
   | zero => rfl
   | succ n => rw [hh] at h; simp at h
  rw [this] at h
  simp only [List.getElem?_cons_zero, Option.some.injEq] at h
  exact .inr ⟨by omega, h.symm⟩
theorem preS_snoc {ops : Array Oper} {B : List Nat} (hB : depOk ops B = true) {m i : Nat} {L : List Sg} {g : Sg} {S : St} {o : Oper} (hi : i < ops.size) (h : i <= m + L.length) : preS ops B m (L ++ [g]) S i o = preS ops B m L S i o := by
 unfold preS
 rw [segS_snoc]
 have : (B.getD i 0).testBit (m + L.length) = false := by
  cases hh : (B.getD i 0).testBit (m + L.length) with
  | false => rfl
  | true => have := (depOk_sound hB i hi _ hh).lt hB; omega
 rw [this]; rfl
theorem SegInv.snoc {ops : Array Oper} (hB : depOk ops (depsK ops.toList []) = true) {m : Nat} {L : List Sg} {S0 S : KSt} {Rs : List (Nat × SgK)} (h : SegInv P ops (depsK ops.toList []) m L S0 S Rs) {o : Oper} (ho : ops[m + L.length]? = some o) {gk : SgK} {run : Bool}
  (hg : guardB ops S.st.T o = some run) (hd : dstK S o.dst = true) (hf1 : freshKH S gk.nh = true) (hf2 : freshKO S gk.no = true) (hf3 : freshKH S0 gk.nh = true) (hf4 : freshKO S0 gk.no = true) (hok : okNew ops.toList (m + L.length) gk Rs = true)
  (hrun : run = true -> Free P o (KSt.st ⟨S.n, restrK S.T (namesK ops.toList o), S0.H, S0.O, S.low⟩) gk.res.av (mapH gk.nh) (mapO gk.no)) (hskip : run = false -> gk = ⟨.tup [], [], []⟩)
  {cnt : Nat} (hcnt : L.length < cnt) (hap : apartB ops (depsK ops.toList []) m cnt = true) :
  SegInv P ops (depsK ops.toList []) m (L ++ [sgOf gk run]) S0 (S.add o.dst gk.res gk.nh gk.no) ((m + L.length, gk) :: Rs) := by
 have hi : m + L.length < ops.size := (Array.getElem?_eq_some_iff.1 ho).1
 have hdst : dstAt ops (m + L.length) = o.dst := by simp [dstAt, ho]
 have hn : S.n = S0.n := by have := h.leq.n; rw [segS_n] at this; exact this
 have oblOld : ∀ (p : Nat) (g : Sg), L[p]? = some g -> Obl P ops (depsK ops.toList []) m (L ++ [sgOf gk run]) S0.st (m + p) g := fun p g hp => by
  obtain ⟨o', h1, h2, h3, h4, h5⟩ := h.obl p g hp
  have hpl := (List.getElem?_eq_some_iff.1 hp).1
  have hpi := (Array.getElem?_eq_some_iff.1 h1).1
  refine ⟨o', h1, ?_, h3, ?_, h5⟩
  ·rw [preS_snoc hB hpi (by omega)]; exact h2
  ·rw [preS_snoc hB hpi (by omega)]; exact h4
 have hnotH : ∀ b ∈ keys (mapH gk.nh), b ∉ keys S0.st.H /\ ∀ g' ∈ L, b ∉ keys g'.nh := fun b hb => by
  have h1 := freshH_not hf1 b hb
  have h2 : b ∉ keys (segS ops (fun _ => true) m L S0.st).H := fun hh => by
   obtain ⟨v, hv⟩ := key_look hh
   rw [<- h.leq.H b] at hv
   exact h1 (look_key hv)
  rw [segS_keysH] at h2
  exact ⟨fun hh => h2 (.inl hh), fun g' hg' hh => h2 (.inr ⟨g', hg', hh⟩)⟩
 have hnotO : ∀ b ∈ keys (mapO gk.no), b ∉ keys S0.st.O /\ ∀ g' ∈ L, b ∉ keys g'.no := fun b hb => by
  have h1 := freshO_not hf2 b hb
  have h2 : b ∉ keys (segS ops (fun _ => true) m L S0.st).O := fun hh => by
   obtain ⟨v, hv⟩ := key_look hh
   rw [<- h.leq.O b] at hv
   exact h1 (look_key hv)
  rw [segS_keysO] at h2
  exact ⟨fun hh => h2 (.inl hh), fun g' hg' hh => h2 (.inr ⟨g', hg', hh⟩)⟩
 have hlook : ∀ t, t ∈ names ops o -> look (segS ops (fun j => ((depsK ops.toList []).getD (m + L.length) 0).testBit j) m L S0.st).T t = look S.st.T t := fun t ht => by
  rw [h.leq.T t]
  refine segS_look L m _ _ rfl (fun j g hj hdj => ?_)
  have hjl := (List.getElem?_eq_some_iff.1 hj).1
  simp only [apartB, List.all_eq_true, List.mem_range] at hap
  have := hap L.length hcnt j (by omega)
  simp only [Bool.or_eq_true, beq_iff_eq] at this
  rcases this with ((h1 | h1) | h1) | h1
  ·omega
  ·rw [ho, hdj] at h1
   simp only [Bool.not_eq_true', Bool.or_eq_false_iff] at h1
   rw [memN_iff.2 ht] at h1; cases h1.1
  ·exact h1
  ·have := (depOk_sound hB (m + j) (by omega) _ h1).lt hB; omega
 have hpre : ∀ t, look (preS ops (depsK ops.toList []) m L S0.st (m + L.length) o).T t = if memN t (names ops o) then look S.st.T t else none := fun t => by
  unfold preS restr
  simp only
  rw [look_filter (f := fun k => memN k (names ops o))]
  cases hm : memN t (names ops o) with
  | false => rfl
  | true => simp only [if_true]; exact hlook t (memN_iff.1 hm)
 have oblNew : Obl P ops (depsK ops.toList []) m (L ++ [sgOf gk run]) S0.st (m + L.length) (sgOf gk run) := by
  refine ⟨o, ho, ?_, ?_, fun hr => ?_, fun hr => ?_⟩
  ·rw [preS_snoc hB hi (Nat.le_refl _), show (sgOf gk run).run = run from rfl, <- hg]
   unfold guardB
   cases hgd : o.guard with
   | none => rfl
   | some q =>
    obtain ⟨j, want⟩ := q
    simp only
    cases hb : (ops[j]?).bind (·.dst) with
    | none => rfl
    | some t =>
     simp only
     have ht : memN t (names ops o) = true := by
      rw [memN_iff]
      refine List.mem_append_right _ ?_
      simp only [gdst, hgd, dstAt]
      rw [hb]; simp
     rw [hpre t, if_pos ht]
  ·cases hdd : o.dst with
   | none => rfl
   | some t =>
    rw [hdd] at hd
    have : Nat.blt t S.n = true := hd
    rw [hn] at this
    exact this
  ·rw [preS_snoc hB hi (Nat.le_refl _)]
   refine Free_sub (hrun hr) ⟨?_, fun t c ht => ?_, fun b B' hb => ?_, fun b B' hb => ?_⟩
   ·show S.n = _
    rw [hn]
    unfold preS restr
    simp only [segS_n]; rfl
   ·rw [st_look] at ht
    cases hh : lk (restrK S.T (namesK ops.toList o)) t with
    | none => simp only [hh] at ht; cases ht
    | some v =>
     simp only [hh, Option.map_some, Option.some.injEq] at ht
     obtain ⟨h1, h2⟩ := restrK_look hh
     rw [hpre t, if_pos (memN_iff.2 (namesK_mem h1)), st_look, h2, <- ht]; rfl
   ·have := (segS_lookH (ops := ops) (X := fun _ => false) (Y := fun j => ((depsK ops.toList []).getD (m + L.length) 0).testBit j) L m S0.st S0.st _ _ (fun _ _ x => x) (fun _ _ x => x) (fun _ x => x) (fun _ x => x) h.dis (fun _ x => by cases x)).1 b B'
    have e0 : segS ops (fun _ => false) m L S0.st = S0.st := by
     have : ∀ (l : List Sg) (i : Nat) (S : St), segS ops (fun _ => false) i l S = S := by
      intro l
      induction l with
      | nil => intro i S; rfl
      | cons g q ih => intro i S; simp only [segS, Bool.false_eq_true, if_false]; exact ih _ _
     exact this _ _ _
    rw [e0] at this
    exact this hb
   ·have := (segS_lookH (ops := ops) (X := fun _ => false) (Y := fun j => ((depsK ops.toList []).getD (m + L.length) 0).testBit j) L m S0.st S0.st _ _ (fun _ _ x => x) (fun _ _ x => x) (fun _ x => x) (fun _ x => x) h.dis (fun _ x => by cases x)).2 b B'
    have e0 : segS ops (fun _ => false) m L S0.st = S0.st := by
     have : ∀ (l : List Sg) (i : Nat) (S : St), segS ops (fun _ => false) i l S = S := by
      intro l
      induction l with
      | nil => intro i S; rfl
      | cons g q ih => intro i S; simp only [segS, Bool.false_eq_true, if_false]; exact ih _ _
     exact this _ _ _
    rw [e0] at this
    exact this hb
  ·rw [hskip hr]; exact ⟨rfl, rfl, rfl⟩
 have apt2 : ∀ (p : Nat) (g : Sg), L[p]? = some g -> Apt (sgOf gk run) g /\ (((depsK ops.toList []).getD (m + L.length) 0).testBit (m + p) = true \/ Apt g (sgOf gk run)) := fun p g hp => by
  obtain ⟨g2, run2, h1, rfl⟩ := h.rs p g hp
  obtain ⟨h2, h3⟩ := okNew_spec hok _ h1
  exact ⟨apartG_spec h2, h3.elim (fun x => .inr (apartG_spec x)) .inl⟩
 refine ⟨?_, fun p g hp => ?_, ?_, fun p g hp => ?_, fun p g q g' hp hq => ?_, fun p g hp => ?_⟩
 ·rw [segS_snoc, if_pos rfl, hdst, KSt.add_st]
  exact h.leq.add _ _ _ _
 ·rcases getElem?_snoc hp with hp | ⟨rfl, rfl⟩
  ·exact oblOld p g hp
  ·exact oblNew
 ·exact dis_snoc h.dis hnotH hnotO
 ·rcases getElem?_snoc hp with hp | ⟨rfl, rfl⟩
  ·exact h.fresh p g hp
  ·exact freshKB_spec hf3 hf4
 ·rcases getElem?_snoc hp with hp | ⟨rfl, rfl⟩ <;> rcases getElem?_snoc hq with hq | ⟨rfl, rfl⟩
  ·exact h.apt p g q g' hp hq
  ·exact (apt2 p g hp).2.elim (fun x => .inr (.inl x)) (fun x => .inr (.inr x))
  ·exact .inr (.inr (apt2 q g' hq).1)
  ·exact .inl rfl
 ·rcases getElem?_snoc hp with hp | ⟨rfl, rfl⟩
  ·obtain ⟨g2, run2, h1, h2⟩ := h.rs p g hp
   exact ⟨g2, run2, List.mem_cons_of_mem _ h1, h2⟩
  ·exact ⟨gk, run, by simp, rfl⟩
theorem AWN_leq {ops : Array Oper} {m : Nat} {S S' : St} {s : E.σ} {Q : Exit -> St -> E.σ -> Prop} (hl : Leq S S') (h : AWN E base r ops m S' s Q) : AWN E base r ops m S s Q := fun M a w hc fuel listed hf hp =>
 wpAnyIn_mono' (fun e a' w' k => k.later (hl.ext M w)) _ _ _ _ (h M a w (hc.leq hl) fuel listed hf hp)
theorem SegInv.done {ops : Array Oper} {B : List Nat} (hB : depOk ops B = true) {m : Nat} {L : List Sg} {S0 S : KSt} {Rs : List (Nat × SgK)} (h : SegInv P ops B m L S0 S Rs) (hap : apartB ops B m L.length = true) (hla : laterB ops B m L.length = true) (hsz : Nat.ble (m + L.length) ops.size = true)
  {s : E.σ} {Q : Exit -> St -> E.σ -> Prop} (k : AWN E base r ops (m + L.length) S.st s Q) : AWN E base r ops m S0.st s Q := by
 refine AWN_seg B L hB hsz hap hla h.dis ?_ ?_ ?_
 ·simp only [freshL, List.all_eq_true, List.mem_range]
  intro i hi
  obtain ⟨g, hg⟩ : ∃ g, L[i]? = some g := ⟨L[i], by simp [hi]⟩
  rw [hg]
  simp only [Bool.and_eq_true, List.all_eq_true, List.mem_range, Bool.or_eq_true, beq_iff_eq]
  refine ⟨h.fresh i g hg, fun j hj => ?_⟩
  obtain ⟨g', hg'⟩ : ∃ g, L[j]? = some g := ⟨L[j], by simp [hj]⟩
  rw [hg']
  rcases h.apt i g j g' hg hg' with e | e | e
  ·exact .inl (.inl e)
  ·exact .inl (.inr e)
  ·refine .inr ?_
   simp only [Bool.and_eq_true, List.all_eq_true, Bool.not_eq_true']
   exact e
 ·have : ∀ (l : List Sg) (p : Nat), (∀ (q : Nat) (g : Sg), l[q]? = some g -> Obl P ops B m L S0.st (m + p + q) g) -> Obls P ops B m L S0.st (m + p) l := by
   intro l
   induction l with
   | nil => intro p _; trivial
   | cons g q ih =>
    intro p hh
    refine ⟨by simpa using hh 0 g rfl, ?_⟩
    have := ih (p + 1) (fun q' g' hq => by have := hh (q' + 1) g' (by simpa using hq); rwa [show m + p + (q' + 1) = m + (p + 1) + q' from by omega] at this)
    rwa [show m + (p + 1) = m + p + 1 from by omega] at this
  simpa using this L 0 (fun q g hq => by simpa using h.obl q g hq)
 ·exact AWN_leq h.leq k
theorem segsOk_end {ops : Array Oper} {B : List Nat} : ∀ {rest : List Oper} {m c : Nat}, segsOk ops B rest m c = true -> ∃ cnt, c <= cnt /\ apartB ops B m cnt = true
 | [], m, c, h => by simp only [segsOk, Bool.and_eq_true] at h; exact ⟨c, Nat.le_refl _, h.1.1⟩
 | o :: q, m, c, h => by
  simp only [segsOk] at h
  split at h
  ·simp only [Bool.and_eq_true] at h; exact ⟨c, Nat.le_refl _, h.1.1.1.1.1⟩
  ·obtain ⟨cnt, h1, h2⟩ := segsOk_end h; exact ⟨cnt, by omega, h2⟩
theorem isBarS_val {ops : List Oper} {o : Oper} (h : isBarS ops o = true) : ¬ isVal o := by
 rintro (⟨f, args, ts, hop⟩ | ⟨x, b, hop⟩)
 ·simp only [isBarS, hop, isApp, isCopy] at h
  cases h
 ·simp only [isBarS, hop, isApp, isCopy] at h
  cases h
theorem drawK_spec {ops : Array Oper} {pz : List Nat} {Q : Exit -> St -> E.σ -> Prop} {K : KSt -> E.σ -> Prop} (hT : ∀ t i, tb t = some i -> TIOk P t i) (hB : depOk ops (depsK ops.toList []) = true) (hQ : ∀ S s, K S s -> Q .normal S.st s) :
  ∀ (rest : List Oper) (i m : Nat) (L : List Sg) (S0 S : KSt) (Rs : List (Nat × SgK)) (s : E.σ), (∀ (j : Nat) (o : Oper), rest[j]? = some o -> ops[i + j]? = some o) -> i + rest.length = ops.size -> i = m + L.length -> segsOk ops (depsK ops.toList []) rest m L.length = true ->
  SegInv P ops (depsK ops.toList []) m L S0 S Rs -> drawK (primK P E base r post) tb pz ops.toList rest i S0 Rs S s K -> AWN E base r ops m S0.st s Q
 | [], i, m, L, S0, S, Rs, s, _, hsz, him, hok, hinv, h => by
  simp only [segsOk, Bool.and_eq_true] at hok
  refine hinv.done hB hok.1.1 hok.1.2 hok.2 (AWN_done ?_ (hQ _ _ h))
  simp only [List.length_nil] at hsz; omega
 | o :: rest, i, m, L, S0, S, Rs, s, hl, hsz, him, hok, hinv, h => by
  have ho : ops[i]? = some o := by simpa using hl 0 o rfl
  have hrest : ∀ (j : Nat) (o : Oper), rest[j]? = some o -> ops[i + 1 + j]? = some o := fun j o h => by
   have := hl (j + 1) o (by simpa using h)
   rwa [show i + (j + 1) = i + 1 + j from by omega] at this
  have hsz' : i + 1 + rest.length = ops.size := by rw [List.length_cons] at hsz; omega
  unfold drawK at h
  simp only [segsOk] at hok
  split at h
  ·rename_i hb
   rw [hb] at hok
   simp only [Bool.and_eq_true] at hok
   obtain ⟨⟨⟨⟨⟨o1, o2⟩, o3⟩, o4⟩, o5⟩, o6⟩ := hok
   obtain ⟨S', hleq, h⟩ := wantK_spec h
   have hinv := hinv.leq' hleq
   have o5' := Nat.le_of_ble_eq_true o5
   refine hinv.done hB o1 o2 (by rw [Nat.ble_eq]; omega) ?_
   rw [<- him] at o3 o4 o6 ⊢
   rcases h with ⟨hg, h⟩ | ⟨hg, h⟩
   ·replace h := kif_spec h; obtain ⟨_, h⟩ := h
    obtain ⟨S2, s2, hbar, h⟩ := barK_bar hT (isBarS_val hb) h
    refine AWN_bar _ hB o4 ho hg hbar ?_
    exact drawK_spec hT hB hQ rest (i + 1) (i + 1) [] S2 S2 [] s2 hrest hsz' rfl o6 (segInv_nil _ _ _ _) h
   ·replace h := kif_spec h; obtain ⟨hd, h⟩ := h
    have one := SegInv.snoc (P := P) hB (segInv_nil ops (depsK ops.toList []) i S') (o := o) (by simpa using ho) (gk := ⟨.tup [], [], []⟩) (run := false) hg hd rfl rfl rfl rfl rfl (fun h => by cases h) (fun _ => rfl) (cnt := 1) (by simp) o3
    refine one.done hB o3 o4 (by rw [Nat.ble_eq]; simp only [List.nil_append, List.length_cons, List.length_nil]; omega) ?_
    exact drawK_spec hT hB hQ rest (i + 1) (i + 1) [] _ _ [] s hrest hsz' rfl o6 (segInv_nil _ _ _ _) h
  ·rename_i hb
   rw [hb] at hok
   simp only at hok
   obtain ⟨S', hleq, h⟩ := wantK_spec h
   have hinv := hinv.leq' hleq
   obtain ⟨cnt, hc1, hc2⟩ := segsOk_end hok
   have step : ∀ (gk : SgK) (run : Bool), guardB ops S'.st.T o = some run -> dstK S' o.dst = true -> freshKH S' gk.nh = true -> freshKO S' gk.no = true -> freshKH S0 gk.nh = true -> freshKO S0 gk.no = true -> okNew ops.toList i gk Rs = true ->
     (run = true -> Free P o (KSt.st ⟨S'.n, restrK S'.T (namesK ops.toList o), S0.H, S0.O, S'.low⟩) gk.res.av (mapH gk.nh) (mapO gk.no)) -> (run = false -> gk = ⟨.tup [], [], []⟩) ->
     drawK (primK P E base r post) tb pz ops.toList rest (i + 1) S0 ((i, gk) :: Rs) (S'.add o.dst gk.res gk.nh gk.no) s K -> AWN E base r ops m S0.st s Q := fun gk run hg hd f1 f2 f3 f4 f5 hr hs h => by
    subst him
    have one := SegInv.snoc hB hinv ho hg hd f1 f2 f3 f4 f5 hr hs (cnt := cnt) (by omega) hc2
    exact drawK_spec hT hB hQ rest (m + L.length + 1) m (L ++ [sgOf gk run]) S0 _ _ s hrest hsz' (by simp; omega) (by simpa using hok) one h
   rcases h with ⟨hg, h⟩ | ⟨hg, h⟩
   ·obtain ⟨res, nh, no, hf, h⟩ := freeK_spec hT h
    replace h := kif_spec h; obtain ⟨h1, h⟩ := h
    simp only [Bool.and_eq_true] at h1
    obtain ⟨⟨⟨⟨⟨f1, f2⟩, f3⟩, f4⟩, f5⟩, f6⟩ := h1
    exact step ⟨res, nh, no⟩ true hg f5 f1 f2 f3 f4 f6 (fun _ => hf) (fun h => by cases h) h
   ·replace h := kif_spec h; obtain ⟨h1, h⟩ := h
    simp only [Bool.and_eq_true] at h1
    exact step ⟨.tup [], [], []⟩ false hg h1.1 rfl rfl rfl rfl h1.2 (fun h => by cases h) (fun _ => rfl) h
end Go.Proofs.Ytfilnnbfppokmaa.Aw
namespace Go.Proofs.Ytfilnnbfppokmaa.Aw
open Go Go.RowKit
universe u
variable {P : Program} {E : Env P} {base : Nat} {r : Option Nat} {post : KV -> List KRow -> Prop} {tb : Nat -> Option TI}
theorem bindsK_spec (e : Edge) : bindsK e.ground = Region.binds .any e := by
 unfold bindsK Region.binds
 cases e.ground <;> rfl
theorem undone_iff {U : List (Nat × Oper)} {j : Nat} : undone U j = true ↔ ∃ o, (j, o) ∈ U := by
 induction U with
 | nil => simp [undone]
 | cons p q ih =>
  obtain ⟨i, o⟩ := p
  unfold undone
  split
  ·rename_i h
   have := Nat.eq_of_beq_eq_true h
   subst this
   exact ⟨fun _ => ⟨o, by simp⟩, fun _ => rfl⟩
  ·rename_i h
   rw [ih]
   have hne : ¬ i = j := fun e => by subst e; rw [Nat.beq_refl] at h; cases h
   constructor
   ·rintro ⟨o', ho'⟩; exact ⟨o', List.mem_cons_of_mem _ ho'⟩
   ·rintro ⟨o', ho'⟩
    rcases List.mem_cons.1 ho' with e | e
    ·cases e; exact absurd rfl hne
    ·exact ⟨o', e⟩
theorem freeE_spec {U : List (Nat × Oper)} : ∀ {l : List Edge}, freeE U l = true ↔ ∀ e ∈ l, Region.binds .any e = true -> undone U e.on = false
 | [] => by simp [freeE]
 | e :: q => by
  have ih := freeE_spec (U := U) (l := q)
  unfold freeE
  rw [bindsK_spec]
  split
  ·rename_i hb
   split
   ·rename_i hu
    refine ⟨fun h => (by cases h), fun h => ?_⟩
    have := h e (by simp) hb
    rw [hu] at this; cases this
   ·rename_i hu
    rw [ih]
    exact ⟨fun h e' he' hb' => (List.mem_cons.1 he').elim (fun q => q ▸ hu) (fun q => h e' q hb'), fun h e' he' => h e' (List.mem_cons_of_mem _ he')⟩
  ·rename_i hb
   rw [ih]
   exact ⟨fun h e' he' hb' => (List.mem_cons.1 he').elim (fun q => by rw [q] at hb'; rw [hb'] at hb; cases hb) (fun q => h e' q hb'), fun h e' he' => h e' (List.mem_cons_of_mem _ he')⟩
theorem anyR_false {U : List (Nat × Oper)} : ∀ {l : List (Nat × Oper)}, anyR U l = false -> ∀ p ∈ l, freeE U p.2.after.toList = false
 | [], _, p, hp => by cases hp
 | (i, o) :: q, h, p, hp => by
  unfold anyR at h
  split at h
  ·cases h
  ·rename_i hf
   rcases List.mem_cons.1 hp with e | e
   ·rw [e]; exact hf
   ·exact anyR_false h p e
theorem allR_spec {f : Nat -> Oper -> Prop} {U : List (Nat × Oper)} : ∀ {l : List (Nat × Oper)}, allR (primK P E base r post) f U l -> ∀ p ∈ l, freeE U p.2.after.toList = true -> f p.1 p.2
 | [], h, p, hp, _ => by cases hp
 | (i, o) :: q, h, p, hp, hf => by
  unfold allR at h
  split at h
  ·rename_i h1
   split at h
   ·obtain ⟨h2, h3⟩ := (h : f i o /\ allR (primK P E base r post) f U q)
    rcases List.mem_cons.1 hp with e | e
    ·rw [e]; exact h2
    ·exact allR_spec h3 p e hf
   ·rename_i hn
    rcases List.mem_cons.1 hp with e | e
    ·rw [e]; exact h
    ·rw [anyR_false hn p e] at hf; cases hf
  ·rename_i h1
   rcases List.mem_cons.1 hp with e | e
   ·rw [e] at hf; rw [hf] at h1; cases h1
   ·exact allR_spec h p e hf
theorem allR_some {f : Nat -> Oper -> Prop} {U : List (Nat × Oper)} : ∀ {l : List (Nat × Oper)}, allR (primK P E base r post) f U l -> ∃ p ∈ l, freeE U p.2.after.toList = true
 | [], h => h.elim
 | (i, o) :: q, h => by
  unfold allR at h
  split at h
  ·rename_i h1; exact ⟨(i, o), by simp, h1⟩
  ·obtain ⟨p, hp, hf⟩ := allR_some h; exact ⟨p, List.mem_cons_of_mem _ hp, hf⟩
def AWX (E : Env P) (base : Nat) (r : Option Nat) (ops : Array Oper) (U : List (Nat × Oper)) (S : St) (s : E.σ) (Q : Exit -> St -> E.σ -> Prop) : Prop :=
 ∀ M a w, Cfg E base S s M a w -> ∀ (fuel : Nat) (listed : Array Bool), U.length <= fuel -> Pre ops listed (fun j => !undone U j) ->
  wpAnyIn (FW r) 0 P .any ops (Post E base Q S M w) fuel listed a w
theorem lessU_undone {i j : Nat} : ∀ {U : List (Nat × Oper)}, (U.map Prod.fst).Nodup -> undone (lessU i U) j = (undone U j && !(j == i))
 | [], _ => rfl
 | (k, o) :: q, h => by
  have ih := lessU_undone (i := i) (j := j) (U := q) (List.nodup_cons.1 h).2
  have hk := (List.nodup_cons.1 h).1
  unfold lessU
  split
  ·rename_i e
   have := Nat.eq_of_beq_eq_true e
   subst this
   by_cases hj : j = k
   ·subst hj
    simp only [beq_self_eq_true, Bool.not_true, Bool.and_false]
    cases hu : undone q j with
    | false => rfl
    | true => obtain ⟨o', ho'⟩ := undone_iff.1 hu; exact absurd (List.mem_map.2 ⟨_, ho', rfl⟩) hk
   ·have e1 : (j == k) = false := by simp [hj]
    have e2 : Nat.beq k j = false := by cases hb : Nat.beq k j with
     | false => rfl
     | true => exact absurd (Nat.eq_of_beq_eq_true hb).symm hj
    simp [undone, e1, e2]
  ·rename_i e
   simp only [undone]
   split
   ·rename_i e2
    have := Nat.eq_of_beq_eq_true e2
    subst this
    have : (k == i) = false := by
     cases hb : (k == i) with
     | false => rfl
     | true => rw [eq_of_beq hb, Nat.beq_refl] at e; cases e
    simp [this]
   ·exact ih
theorem lessU_sub {i : Nat} : ∀ {U : List (Nat × Oper)} {p : Nat × Oper}, p ∈ lessU i U -> p ∈ U
 | [], p, h => by cases h
 | (k, o) :: q, p, h => by
  unfold lessU at h
  split at h
  ·exact List.mem_cons_of_mem _ h
  ·rcases List.mem_cons.1 h with e | e
   ·rw [e]; simp
   ·exact List.mem_cons_of_mem _ (lessU_sub e)
theorem lessU_len {i : Nat} : ∀ {U : List (Nat × Oper)}, undone U i = true -> (lessU i U).length + 1 = U.length
 | [], h => by cases h
 | (k, o) :: q, h => by
  unfold undone at h
  unfold lessU
  split
  ·simp
  ·rename_i e
   rw [e] at h
   simp only at h
   simp [lessU_len h]
theorem lessU_nodup {i : Nat} : ∀ {U : List (Nat × Oper)}, (U.map Prod.fst).Nodup -> ((lessU i U).map Prod.fst).Nodup
 | [], h => h
 | (k, o) :: q, h => by
  obtain ⟨h1, h2⟩ := List.nodup_cons.1 h
  unfold lessU
  split
  ·exact h2
  ·refine List.nodup_cons.2 ⟨fun hm => ?_, lessU_nodup h2⟩
   obtain ⟨p, hp, he⟩ := List.mem_map.1 hm
   exact h1 (List.mem_map.2 ⟨p, lessU_sub hp, he⟩)
theorem restsOn_spec {i : Nat} : ∀ {l : List Edge}, restsOn i l = true -> ∃ e ∈ l, Region.binds .any e = true /\ e.on = i
 | [], h => by cases h
 | e :: q, h => by
  unfold restsOn at h
  split at h
  ·rename_i hb
   rw [bindsK_spec] at hb
   split at h
   ·rename_i he; exact ⟨e, by simp, hb, Nat.eq_of_beq_eq_true he⟩
   ·obtain ⟨e', h1, h2⟩ := restsOn_spec h; exact ⟨e', List.mem_cons_of_mem _ h1, h2⟩
  ·obtain ⟨e', h1, h2⟩ := restsOn_spec h; exact ⟨e', List.mem_cons_of_mem _ h1, h2⟩
theorem hoistK_spec {tb : Nat -> Option TI} {ops : List Oper} {S : KSt} {U0 : List (Nat × Oper)} {i : Nat} {o : Oper} : ∀ {U : List (Nat × Oper)}, hoistK tb ops S U0 U = some (i, o) -> (i, o) ∈ U /\ freeE U0 o.after.toList = true /\ isHo tb ops o S = true /\ apartAll ops i o U0 = true
 | [], h => by cases h
 | (j, o') :: q, h => by
  unfold hoistK at h
  split at h
  ·rename_i hb
   simp only [Option.some.injEq, Prod.mk.injEq] at h
   obtain ⟨rfl, rfl⟩ := h
   simp only [Bool.and_eq_true] at hb
   exact ⟨by simp, hb.1.1, hb.1.2, hb.2⟩
  ·obtain ⟨h1, h2⟩ := hoistK_spec h
   exact ⟨List.mem_cons_of_mem _ h1, h2⟩
theorem apartAll_spec {ops : List Oper} {i : Nat} {o : Oper} : ∀ {U : List (Nat × Oper)}, apartAll ops i o U = true -> ∀ p ∈ U, p.1 = i \/ restsOn i p.2.after.toList = true \/ apartP ops o p.2 = true
 | [], _, p, hp => by cases hp
 | (j, o') :: q, h, p, hp => by
  simp only [apartAll, Bool.and_eq_true, Bool.or_eq_true] at h
  rcases List.mem_cons.1 hp with e | hp
  ·subst e
   rcases h.1 with (h1 | h1) | h1
   ·exact .inl (Nat.eq_of_beq_eq_true h1)
   ·exact .inr (.inl h1)
   ·exact .inr (.inr h1)
  ·exact apartAll_spec h.2 p hp
theorem tmpsK_memF {d : Nat} {l : List Operand} (h : d ∈ l.filterMap (fun x => match x with | .tmp t => some t | _ => none)) : d ∈ tmpsK l := by
 induction l with
 | nil => simp at h
 | cons x q ih =>
  cases x with
  | tmp t =>
   simp only [List.filterMap_cons, List.mem_cons] at h
   simp only [tmpsK, List.mem_cons]
   exact h.imp id ih
  | _ => simp only [List.filterMap_cons] at h; exact ih h
theorem looksAt_names {ops : Array Oper} {o : Oper} {d : Nat} (h : d ∈ o.looksAt ops) : d ∈ namesK ops.toList o := by
 unfold Oper.looksAt at h
 unfold namesK
 rcases List.mem_append.1 h with h | h
 ·have h' := tmpsK_memF h
  split
  ·split
   ·split
    ·exact List.mem_cons_of_mem _ h'
    ·exact h'
   ·exact h'
  ·exact h'
 ·split at h
  ·rename_i g b hg
   simp only [hg, nth_eq, Array.getElem?_toList]
   cases ho : ops[g]? with
   | none => rw [ho] at h; simp at h
   | some o' =>
    rw [ho] at h
    simp only [Option.bind_some, Option.mem_toList] at h
    simp only
    cases hd : o'.dst with
    | none => rw [hd] at h; cases h
    | some t => rw [hd] at h; cases h; simp
  ·cases h
theorem apartP_spec {ops : Array Oper} {o o' : Oper} (h : apartP ops.toList o o' = true) : o.apart ops o' = true := by
 have hn : ∀ {d : Nat} {x : Oper}, memN d (namesK ops.toList x) = false -> (x.looksAt ops).contains d = false := fun {d x} hm => by
  cases hc : (x.looksAt ops).contains d with
  | false => rfl
  | true =>
   have := memN_iff.2 (looksAt_names (List.contains_iff_mem.1 hc))
   rw [hm] at this; cases this
 simp only [apartP, Bool.and_eq_true] at h
 obtain ⟨h1, h2⟩ := h
 unfold Oper.apart
 simp only [Bool.and_eq_true]
 refine ⟨?_, ?_⟩
 ·cases hd : o.dst with
  | none => rfl
  | some d =>
   rw [hd] at h1
   simp only [Bool.and_eq_true, Bool.not_eq_true'] at h1
   simp only [Bool.and_eq_true, Bool.not_eq_true', hn h1.1, true_and]
   cases hd' : o'.dst with
   | none => rfl
   | some d' =>
    have := h1.2
    rw [hd'] at this
    simp only [Bool.not_eq_true'] at this
    simp only [bne_iff_ne, ne_eq, Option.some.injEq]
    exact fun e => by subst e; simp at this
 ·cases hd : o'.dst with
  | none => rfl
  | some d =>
   rw [hd] at h2
   simp only [Bool.not_eq_true'] at h2
   simp only [hn h2, Bool.not_false]
theorem noSelK_spec : ∀ {l : List Oper}, noSelK l = true -> ∀ (j : Nat) (o : Oper) cs b, l[j]? = some o -> o.op ≠ .select cs b
 | [], _, j, o, cs, b, h => by simp at h
 | o0 :: q, hs, j, o, cs, b, h => by
  unfold noSelK at hs
  split at hs
  ·cases hs
  ·rename_i hne
   cases j with
   | zero => simp at h; subst h; exact fun e => hne _ _ e
   | succ j => exact noSelK_spec hs j o cs b (by simpa using h)
theorem numOf_spec {S : KSt} {x : Operand} {k : IntKind} (h : numOf S.T x = some k) : ∃ n, opnd S.st.T x = some (.d (.int k n)) := by
 unfold numOf at h
 split at h
 ·rename_i c hc
  split at h
  ·rename_i b k' n hn
   cases h
   exact ⟨n, (kop_st hc).trans (congrArg some (numK_spec hn))⟩
  ·cases h
 ·cases h
theorem guardK_spec {ops : Array Oper} {S : KSt} {o : Oper} {b : Bool} (h : guardK ops.toList S o = some b) : guardB ops S.st.T o = some b := by
 unfold guardK at h
 unfold guardB
 split at h
 ·rename_i hg; rw [hg]; exact h
 ·rename_i j want hg
  rw [hg]
  split at h
  ·rename_i o' h1
   rw [nth_eq, Array.getElem?_toList] at h1
   split at h
   ·rename_i t h2
    simp only [h1, Option.bind_some, h2]
    split at h
    ·rename_i h3
     have hl : look S.st.T t = some (.d (.bool true)) := by rw [st_look, h3]; rfl
     rw [hl]; cases h; cases b <;> rfl
    ·rename_i h3
     have hl : look S.st.T t = some (.d (.bool false)) := by rw [st_look, h3]; rfl
     rw [hl]; cases h; cases want <;> rfl
    ·cases h
   ·cases h
  ·cases h
theorem ho_yields {tb : Nat -> Option TI} (hT : ∀ t i, tb t = some i -> TIOk P t i) {ops : Array Oper} {o : Oper} {S : KSt} (h : isHo tb ops.toList o S = true) {res : KV} {yl : Nat} {M : Mp} {a : Act} {w : World} {b0 : Nat} (hr : Rel b0 S.st M yl a w) (hf : hoVal (primK P E base r post) tb ops.toList S o = some res) :
  ∃ v, YieldsFenced P ops o v a /\ RdA w M.ok M.μ M.ν yl res.av v := by
 unfold isHo at h
 unfold hoVal at hf
 split at h
 ·cases h
 ·rename_i hg
  have hw := guardB_spec (guardK_spec hg) hr
  rw [hg] at hf
  simp only [Option.some.injEq] at hf
  subst hf
  refine ⟨undef, ⟨.inr ⟨hw, rfl⟩, fun w' => ?_⟩, .tup _ _ rfl (fun i c v hc hv => by simp [KV.avL] at hc)⟩
  split at h
  ·cases h
  ·rename_i hnc
   unfold Oper.about
   split
   ·rename_i c hc; exact absurd hc (hnc c)
   ·rfl
 rename_i hg
 have hw := guardB_spec (guardK_spec hg) hr
 rw [hg] at hf
 simp only at hf
 split at h
 ·rename_i x ho
  simp only [hoVal0, ho] at hf
  exact ⟨a.eval x, ⟨.inl ⟨hw, fun w' => by simp [execOp, ho]⟩, fun w' => by simp [Oper.about, ho]⟩, hr.opnd (kop_st hf)⟩
 ·rename_i x ho
  simp only [hoVal0, ho] at hf
  exact ⟨a.eval x, ⟨.inl ⟨hw, fun w' => by simp [execOp, ho]⟩, fun w' => by simp [Oper.about, ho]⟩, hr.opnd (kop_st hf)⟩
 ·rename_i op t x y yt ho
  split at h
  ·rename_i hk
   simp only [hoVal0, ho] at hf
   split at hf
   ·rename_i c hc
    split at hf
    ·rename_i d hd
     split at hf
     ·rename_i la k m hn
      split at hf
      ·rename_i lb k' n hn'
       have hx := (kop_st hc).trans (congrArg some (numK_spec hn))
       have hy := (kop_st hd).trans (congrArg some (numK_spec hn'))
       have hkk : k = k' := by
        simp only [numOf, hc, hd, hn, hn'] at h
        exact sameK_spec h
       subst hkk
       have h1 := (hr.opnd hx).int
       have h2 := (hr.opnd hy).int
       have hres : res.av = .d (.int k (iopR op k m n)) := by
        split at hf
        ·cases hf; cases op <;> rfl
        ·cases hf; rfl
       refine ⟨.int k (iopR op k m n), ⟨.inl ⟨hw, fun w' => ?_⟩, fun w' => by simp [Oper.about, ho]⟩, by rw [hres]; exact .d (.int _ _)⟩
       cases op <;> first
        | (simp [opKind] at hk; done)
        | (simp [execOp, ho, h1, h2, eqGuard, binOp, Op.intArith, Op.intCmp, Op.intBits, iopR]; done)
      ·cases hf
     ·cases hf
    ·cases hf
   ·cases hf
  ·cases h
 ·rename_i s d x ho
  split at h
  ·rename_i k0 hk0
   obtain ⟨n0, hn0⟩ := numOf_spec hk0
   split at h
   ·rename_i si hsi
    split at h
    ·rename_i di hdi
     have hsd : ∃ sd, P.underlying s = some sd := by
      have := (hT _ _ hsi).ag
      unfold isAggT at this
      cases hu : P.underlying s with
      | none => rw [hu] at this; cases this
      | some sd => exact ⟨sd, rfl⟩
     obtain ⟨sd, hsd⟩ := hsd
     simp only [hoVal0, ho, hdi] at hf
     split at hf
     ·rename_i c hc
      split at hf
      ·rename_i la k' n hn
       have hx := (kop_st hc).trans (congrArg some (numK_spec hn))
       have h1 := (hr.opnd hx).int
       split at hf
       ·rename_i k hu
        cases hf
        have hd := (hT _ _ hdi).int _ hu
        exact ⟨.int k (k.wrap n), ⟨.inl ⟨hw, fun w' => by simp [execOp, ho, h1, convert, run_underlying hsd, run_underlying hd, Result.andThen, Conv.intToInt]⟩, fun w' => by simp [Oper.about, ho]⟩, .d (.int _ _)⟩
       ·cases hf
      ·cases hf
     ·cases hf
    ·cases h
   ·cases h
  ·cases h
 ·rename_i t x ix ho
  simp only [hoVal0, ho] at hf
  split at hf
  ·rename_i b off hc
   split at hf
   ·rename_i d hd
    split at hf
    ·rename_i n hn
     split at hf
     ·rename_i i hti
      split at hf
      ·rename_i rr hrr
       cases hf
       simp only [hc, hd, hn, hti, hrr] at h
       rw [Nat.blt_eq] at h
       obtain ⟨k, hk⟩ := litN_spec hn
       obtain ⟨l, e, sz⟩ := rr
       have hix := (kop_st hd).trans (congrArg some hk)
       obtain ⟨kk', h2, h1⟩ := (hr.opnd (kop_st hc)).loc'
       have h3 := (hr.opnd hix).int
       have ht := (hT _ _ hti).ar _ hrr
       unfold arrT at ht
       split at ht
       ·rename_i l' e' hu
        cases hs : szT P e' with
        | none => rw [hs] at ht; cases ht
        | some m =>
         rw [hs] at ht
         simp only [Option.map_some, Option.some.injEq, Prod.mk.injEq] at ht
         obtain ⟨e0, e1, e2⟩ := ht
         subst e0 e1 e2
         have hltn : n < l' := h
         have hlt : (n : Int) < (l' : Int) := by omega
         have h0 : (0 : Int) <= (n : Int) := by omega
         have hadd : (⟨kk', off, none⟩ : Addr).add (n * m) = ⟨kk', off + n * m, none⟩ := by unfold Addr.add; split <;> simp_all
         exact ⟨.pointer (some ⟨kk', off + n * m, none⟩), ⟨.inl ⟨hw, fun w' => by simp [execOp, ho, h1, h3, Instr.indexAt, asIntOf, run_underlying hu, Result.andThen, h0, hlt, hltn, run_sizeOf hs, hadd, Instr.sureAddr]⟩, fun w' => by simp [Oper.about, ho]⟩, .loc h2⟩
       ·cases ht
      ·cases hf
     ·cases hf
    ·cases hf
   ·cases hf
  ·cases hf
 ·cases h
theorem exK_spec {ops : Array Oper} {pz : List Nat} {Q : Exit -> St -> E.σ -> Prop} {K : KSt -> E.σ -> Prop} (hT : ∀ t i, tb t = some i -> TIOk P t i) (hQ : ∀ S s, K S s -> Q .normal S.st s) (hQn : ∀ c S s, ¬ Q (.panic c) S s) :
  ∀ (n : Nat) (U : List (Nat × Oper)) (S : KSt) (s : E.σ), (∀ p ∈ U, ops[p.1]? = some p.2) -> (U.map Prod.fst).Nodup -> (∀ (i : Nat) (o : Oper), ops[i]? = some o -> ∀ e ∈ o.after, e.on < ops.size) -> exK (primK P E base r post) tb pz ops.toList n U S s K -> AWX E base r ops U S.st s Q
 | 0, U, S, s, _, _, _, h => h.elim
 | n + 1, U, S, s, hU, hnd, hlt, h => by
  unfold exK at h
  cases U with
  | nil =>
   intro M a w hc fuel listed _ hp
   refine wpAnyIn_done ?_ ⟨S.st, s, M, hQ _ _ h, hc, Ext.refl _ _ _⟩ fuel
   refine List.eq_nil_iff_forall_not_mem.2 (fun i hi => ?_)
   have := (hp.ready.1 hi).1
   simp [undone] at this
  | cons p0 U0 =>
   obtain ⟨U, hUe⟩ : ∃ U, U = p0 :: U0 := ⟨_, rfl⟩
   simp only [<- hUe] at h hU hnd ⊢
   intro M a w hc fuel listed hfuel hp
   split at h
   ·rename_i i o hho
    obtain ⟨hrn, h⟩ := (h : r = none /\ _)
    replace h := kk_spec h; obtain ⟨res, hres, h⟩ := h
    replace h := kif_spec h; obtain ⟨hd, h⟩ := h
    unfold hoistP at hho
    split at hho
    case h_2 => cases hho
    rename_i hsel
    simp only [Bool.and_eq_true] at hsel
    obtain ⟨hm, hf, hih, hap⟩ := hoistK_spec hho
    have hoi := hU _ hm
    simp only at hoi
    obtain ⟨fuel, rfl⟩ : ∃ f, fuel = f + 1 := ⟨fuel - 1, by
     have := List.length_pos_of_mem hm
     omega⟩
    have hun : undone U i = true := undone_iff.2 ⟨o, hm⟩
    have hrdy : i ∈ Region.ready .any ops listed := hp.ready.2 ⟨by simp [hun], o, hoi, fun e he hb => ⟨hlt _ _ hoi e he, by
     have := freeE_spec.1 hf e (by simpa using he) hb
     simp [this]⟩⟩
    obtain ⟨v, hyv, hrv⟩ := ho_yields hT (ops := ops) (P := P) (E := E) (base := base) (r := r) (post := post) hih hc.rel hres
    have hset : Pre ops (listed.setIfInBounds i true) (fun j => !undone (lessU i U) j) := by
     have h0 := hp.set i
     refine ⟨h0.1, fun j hj => ?_⟩
     rw [h0.2 j hj]
     simp only
     rw [lessU_undone hnd]
     congr 1
     cases undone U j <;> cases (j == i) <;> rfl
    have hlen := lessU_len hun
    obtain ⟨c2, x2⟩ := hc.new (New.plain (v := v) hrv) (fresh_nil _) (dstK_spec hd)
    have hn := exK_spec hT hQ hQn n _ _ s (fun p hp => hU p (lessU_sub hp)) (lessU_nodup hnd) hlt h
    rw [KSt.add_st] at hn
    refine wpAnyIn_first (F := FW r) (by rw [hrn]; rfl) hoi (fun j o' cs b ho' => noSelK_spec hsel.2 j o' cs b (by rw [Array.getElem?_toList]; exact ho')) (fun c a w hq => ?_) fuel listed a w (fun j oj hoj hji hjun hno => ?_) hrdy hyv
     (wpAnyIn_mono' (fun e a _ k => k.later x2) _ _ _ _ (hn M _ w c2 fuel _ (by omega) hset))
    ·obtain ⟨S', s', M', q, _⟩ := hq
     exact absurd q (hQn _ _ _)
    ·have hju : undone U j = true := by
      have hjs := (Array.getElem?_eq_some_iff.1 hoj).1
      have := hp.2 j hjs
      rw [Array.getD_eq_getD_getElem?, this] at hjun
      simpa using hjun
     obtain ⟨o', ho'⟩ := undone_iff.1 hju
     have := hU _ ho'
     simp only at this
     rw [hoj] at this
     simp only [Option.some.injEq] at this
     subst this
     rcases apartAll_spec hap _ ho' with h1 | h1 | h1
     ·exact absurd h1 hji
     ·obtain ⟨e, he, hb, hei⟩ := restsOn_spec h1
      exact absurd hei (hno e (by simpa using he) hb)
     ·exact apartP_spec h1
   rename_i hho
   have hsome := allR_some h
   obtain ⟨fuel, rfl⟩ : ∃ f, fuel = f + 1 := ⟨fuel - 1, by
    obtain ⟨p, hp', _⟩ := hsome
    have := List.length_pos_of_mem hp'
    omega⟩
   have hready : ∀ p ∈ U, freeE U p.2.after.toList = true -> p.1 ∈ Region.ready .any ops listed := fun p hp' hf => hp.ready.2 ⟨by
     have : undone U p.1 = true := undone_iff.2 ⟨p.2, hp'⟩
     simp [this], p.2, hU p hp', fun e he hb => ⟨hlt _ _ (hU p hp') e he, by
     have := freeE_spec.1 hf e (by simpa using he) hb
     simp [this]⟩⟩
   refine ⟨fun h0 => ?_, fun i hi => ?_⟩
   ·obtain ⟨p, hp', hf⟩ := hsome
    have := hready p hp' hf
    rw [h0] at this; cases this
   obtain ⟨hXi, o, ho, hdeps⟩ := hp.ready.1 hi
   have hun : undone U i = true := by simpa using hXi
   obtain ⟨o', ho'⟩ := undone_iff.1 hun
   have heq := hU _ ho'
   simp only at heq
   rw [ho] at heq
   simp only [Option.some.injEq] at heq
   subst heq
   have hf : freeE U o.after.toList = true := freeE_spec.2 (fun e he hb => by simpa using (hdeps e (by simpa using he) hb).2)
   have hstep := allR_spec h (i, o) ho' hf
   simp only at hstep
   have hset : Pre ops (listed.setIfInBounds i true) (fun j => !undone (lessU i U) j) := by
    have h0 := hp.set i
    refine ⟨h0.1, fun j hj => ?_⟩
    rw [h0.2 j hj]
    simp only
    rw [lessU_undone hnd]
    congr 1
    cases undone U j <;> cases (j == i) <;> rfl
   have hlen := lessU_len hun
   have next : ∀ (S' : KSt) (s' : E.σ), exK (primK P E base r post) tb pz ops.toList n (lessU i U) S' s' K -> AWX E base r ops (lessU i U) S'.st s' Q := fun S' s' h => exK_spec hT hQ hQn n _ S' s' (fun p hp => hU p (lessU_sub hp)) (lessU_nodup hnd) hlt h
   have bar : ∀ (S1 S' : KSt) (s' : E.σ), Leq S.st S1.st -> guardB ops S1.st.T o = some true -> Bar E o S1.st s S'.st s' -> AWX E base r ops (lessU i U) S'.st s' Q -> wpOpIn (FW r) 0 P ops (Post E base Q S.st M w) i (wpAnyIn (FW r) 0 P .any ops (Post E base Q S.st M w) fuel (listed.setIfInBounds i true)) a w := by
    intro S1 S' s' hleq hg hb hn
    have hc1 := hc.leq hleq
    unfold wpOpIn
    simp only [ho]
    rw [guardB_spec hg hc1.rel, if_pos rfl]
    refine hb r base M a w hc1 _ _ (fun v w' M' hc' hx' => ?_)
    refine wpAnyIn_mono' (fun e a _ k => k.later ((hleq.ext M w).trans hx')) _ _ _ _ (hn M' _ w' hc' fuel _ (by omega) hset)
   obtain ⟨S1, hleq, hstep⟩ := wantK_spec hstep
   rcases hstep with ⟨hg, hstep⟩ | ⟨hg, hstep⟩
   ·split at hstep
    ·replace hstep := kif_spec hstep; obtain ⟨hv, hstep⟩ := hstep
     have hex : ∃ S2 s2, Bar E o S1.st s S2.st s2 /\ exK (primK P E base r post) tb pz ops.toList n (lessU i U) S2 s2 K := by
      by_cases hiv : isVal o
      ·rcases hiv with ⟨f, args, ts, hop⟩ | ⟨x, b, hop⟩
       ·cases hw : wrFn pz f with
        | none => simp [notVW, hop, hw] at hv
        | some g =>
         unfold barK at hstep
         rw [hop] at hstep
         simp only [hw] at hstep
         obtain ⟨hd, hstep⟩ := kif_spec hstep
         obtain ⟨S', hb, hk⟩ := wrCallK_bar (s := s) hop rfl hw hd hstep
         exact ⟨S', s, hb, hk⟩
       ·simp [notVW, hop] at hv
      ·exact barK_bar hT hiv hstep
     obtain ⟨S2, s2, hb, hk⟩ := hex
     exact bar S1 S2 s2 hleq hg hb (next _ _ hk)
    ·obtain ⟨res, nh, no, hfr, hk⟩ := freeK_spec hT hstep
     replace hk := kif_spec hk; obtain ⟨h1, hk⟩ := hk
     simp only [Bool.and_eq_true] at h1
     have hc1 := hc.leq hleq
     have hn := next _ _ hk
     rw [KSt.add_st] at hn
     unfold wpOpIn
     simp only [ho]
     rw [guardB_spec hg hc1.rel, if_pos rfl]
     refine hfr r base M E.l a w hc1.rel _ _ (fun v w' M' hnew => ?_)
     obtain ⟨c2, x2⟩ := hc1.new hnew (freshK_spec h1.1.1 h1.1.2) (dstK_spec h1.2)
     exact wpAnyIn_mono' (fun e a _ k => k.later ((hleq.ext M w).trans x2)) _ _ _ _ (hn M' _ w' c2 fuel _ (by omega) hset)
   ·replace hstep := kif_spec hstep; obtain ⟨h1, hk⟩ := hstep
    have hc1 := hc.leq hleq
    have hn := next _ _ hk
    rw [KSt.add_st] at hn
    unfold wpOpIn
    simp only [ho]
    rw [guardB_spec hg hc1.rel, if_neg (by simp)]
    obtain ⟨c2, x2⟩ := hc1.new (dst := o.dst) (New.plain (v := undef) (.tup [] #[] rfl (fun i c v h => by simp at h))) (fresh_nil _) (dstK_spec h1)
    exact ⟨fun f hf => trivial, wpAnyIn_mono' (fun e a _ k => k.later ((hleq.ext M w).trans x2)) _ _ _ _ (hn M _ w c2 fuel _ (by omega) hset)⟩
theorem enumU_get {l : List Oper} : ∀ {i : Nat} {p : Nat × Oper}, p ∈ enumU i l -> i <= p.1 /\ l[p.1 - i]? = some p.2 := by
 induction l with
 | nil => intro i p h; cases h
 | cons o q ih =>
  intro i p h
  rcases List.mem_cons.1 h with e | e
  ·rw [e]; simp
  ·obtain ⟨h1, h2⟩ := ih e
   refine ⟨by omega, ?_⟩
   rw [show p.1 - i = (p.1 - (i + 1)) + 1 from by omega]; exact h2
theorem enumU_len {l : List Oper} : ∀ {i : Nat}, (enumU i l).length = l.length := by
 induction l with
 | nil => intro i; rfl
 | cons o q ih => intro i; simp [enumU, ih]
theorem enumU_mem' {l : List Oper} : ∀ {i j : Nat} {o : Oper}, l[j]? = some o -> (i + j, o) ∈ enumU i l := by
 induction l with
 | nil => intro i j o h; simp at h
 | cons o' q ih =>
  intro i j o h
  cases j with
  | zero => simp at h; subst h; simp [enumU]
  | succ j =>
   refine List.mem_cons_of_mem _ ?_
   have := ih (i := i + 1) (j := j) (o := o) (by simpa using h)
   rwa [show i + 1 + j = i + (j + 1) from by omega] at this
theorem enumU_mem {l : List Oper} {j : Nat} {o : Oper} (h : l[j]? = some o) : (j, o) ∈ enumU 0 l := by
 have := enumU_mem' (i := 0) h
 rwa [Nat.zero_add] at this
theorem enumU_nodup {l : List Oper} : ∀ {i : Nat}, ((enumU i l).map Prod.fst).Nodup := by
 induction l with
 | nil => intro i; exact List.nodup_nil
 | cons o q ih =>
  intro i
  refine List.nodup_cons.2 ⟨fun hm => ?_, ih⟩
  obtain ⟨p, hp, he⟩ := List.mem_map.1 hm
  have := (enumU_get hp).1
  simp only at he; omega
end Go.Proofs.Ytfilnnbfppokmaa.Aw
