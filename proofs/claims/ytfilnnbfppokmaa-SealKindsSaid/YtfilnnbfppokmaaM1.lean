/- Part 1 of the proof: lemmas. -/
import Derived.RangeFuncNested
import Derived.RangeFuncLeaves
import Derived.Laws.AppendOwn
import Derived.Laws.OwnMore
import Derived.OrdersIn
import Derived.Below
import Derived.WalkKit
import Derived.Laws.MakeOwn
import Derived.Laws.Tables
import Derived.Shelf.Abstract
import Derived.Laws.CopyOwn
set_option linter.unusedVariables false
set_option linter.unusedSimpArgs false
set_option linter.unusedSectionVars false

namespace Go.Proofs.Ytfilnnbfppokmaa.Aw
open Go Go.RowKit
inductive D where
 | int (k : IntKind) (n : Int)
 | bool (b : Bool)
 | str (s : ByteArray)
 | agg (cs : List D)
 | fn (f : Nat) (caps : List D)
 | bnd (f : Nat) (fs caps : List D)
 | nilfn
 | ptr (cs : List D)
 | sl (clip : Bool) (sz : Nat) (rows : List (List D))
 | nilsl
 | nilmap
 | nilptr
 | map (rows : List (List D))
def Stamps (es : Array MapEntry) (clock : Nat) : Prop := (∀ (i : Nat) (e : MapEntry), es[i]? = some e -> e.born < clock) /\ ∀ (i j : Nat) (e f : MapEntry), es[i]? = some e -> es[j]? = some f -> e.born = f.born -> i = j
inductive AV where
 | any
 | d (x : D)
 | agg (cs : List AV)
 | tup (cs : List AV)
 | fn (f : Nat) (caps : List AV)
 | loc (b off : Nat)
 | asl (b off len cap : Nat)
 | osl (id : Nat)
 | oloc (id sz i j : Nat)
 | yld
inductive Rd (w : World) (ok : Nat -> Prop) : D -> Value -> Prop
 | int (k n) : Rd w ok (.int k n) (.int k n)
 | bool (b) : Rd w ok (.bool b) (.bool b)
 | str (s) : Rd w ok (.str s) (.string s)
 | agg (cs : List D) (vs : Array Value) (hl : vs.size = cs.length) (h1 : ∀ (i : Nat) (v : Value), vs[i]? = some v -> v.oneCell' = true) (h : ∀ (i : Nat) (c : D) (v : Value), cs[i]? = some c -> vs[i]? = some v -> Rd w ok c v) : Rd w ok (.agg cs) (.agg vs)
 | fn (f) (cs : List D) (vs : Array Value) (hl : vs.size = cs.length) (h : ∀ (i : Nat) (c : D) (v : Value), cs[i]? = some c -> vs[i]? = some v -> Rd w ok c v) : Rd w ok (.fn f cs) (.func (.func f) #[] vs)
 | bnd (f) (fs cs : List D) (us vs : Array Value) (hl' : us.size = fs.length) (h' : ∀ (i : Nat) (c : D) (v : Value), fs[i]? = some c -> us[i]? = some v -> Rd w ok c v) (hl : vs.size = cs.length) (h : ∀ (i : Nat) (c : D) (v : Value), cs[i]? = some c -> vs[i]? = some v -> Rd w ok c v) : Rd w ok (.bnd f fs cs) (.func (.func f) us vs)
 | nilfn : Rd w ok .nilfn .nilFunc
 | ptr (cs : List D) (b off : Nat) (vs : Nat -> Value) (hok : ok b) (hc : ∀ (i : Nat) (c : D), cs[i]? = some c -> w.cell? ⟨b, off + i, none⟩ = some (vs i))
   (h : ∀ (i : Nat) (c : D), cs[i]? = some c -> Rd w ok c (vs i)) : Rd w ok (.ptr cs) (.pointer (some ⟨b, off, none⟩))
 | sl0 (clip sz) : Rd w ok (.sl clip sz []) (.slice none 0 0)
 | slE (clip sz) (ad : Addr) : Rd w ok (.sl clip sz []) (.slice (some ad) 0 0)
 | sl (clip : Bool) (sz : Nat) (rows : List (List D)) (b off cap : Nat) (vs : Nat -> Nat -> Value) (hok : ok b) (hcap : rows.length <= cap) (hmax : cap <= maxLen)
   (hclip : clip = true -> cap = rows.length) (hsz : ∀ row ∈ rows, row.length = sz)
   (hc : ∀ (i : Nat) (row : List D) (j : Nat) (c : D), rows[i]? = some row -> row[j]? = some c -> w.cell? ⟨b, off + i * sz + j, none⟩ = some (vs i j))
   (ho : ∀ (i : Nat) (row : List D) (j : Nat) (c : D), rows[i]? = some row -> row[j]? = some c -> (vs i j).oneCell' = true)
   (h : ∀ (i : Nat) (row : List D) (j : Nat) (c : D), rows[i]? = some row -> row[j]? = some c -> Rd w ok c (vs i j)) : Rd w ok (.sl clip sz rows) (.slice (some ⟨b, off, none⟩) rows.length cap)
 | nilsl : Rd w ok .nilsl (.slice none 0 0)
 | nilmap : Rd w ok .nilmap (.map none)
 | nilptr : Rd w ok .nilptr (.pointer none)
 | map (rows : List (List D)) (k clock : Nat) (es : Array MapEntry) (vs : Nat -> Nat -> Value) (hok : ok k) (hh : w.heap[k]? = some (.map es clock)) (hn : es.size = rows.length) (hst : Stamps es clock) (hsz : ∀ row ∈ rows, row.length = 2)
   (hv : ∀ (i : Nat) (e : MapEntry), es[i]? = some e -> vs i 0 = e.key /\ vs i 1 = e.val)
   (h : ∀ (i : Nat) (row : List D) (j : Nat) (c : D), rows[i]? = some row -> row[j]? = some c -> Rd w ok c (vs i j)) : Rd w ok (.map rows) (.map (some k))
theorem Rd.mono {w w' : World} {ok ok' : Nat -> Prop} (hok : ∀ k, ok k -> ok' k) (hw : ∀ k, ok k -> w'.heap[k]? = w.heap[k]?) {x : D} {v : Value} (h : Rd w ok x v) : Rd w' ok' x v := by
 have hcell : ∀ b o, ok b -> w'.cell? ⟨b, o, none⟩ = w.cell? ⟨b, o, none⟩ := fun b o hb => World.cell?_of_block (w := w) (a := ⟨b, o, none⟩) (hw b hb)
 induction h with
 | int k n => exact .int k n
 | bool b => exact .bool b
 | str s => exact .str s
 | agg cs vs hl h1 _ ih => exact .agg cs vs hl h1 ih
 | fn f cs vs hl _ ih => exact .fn f cs vs hl ih
 | bnd f fs cs us vs hl' _ hl _ ih' ih => exact .bnd f fs cs us vs hl' ih' hl ih
 | nilfn => exact .nilfn
 | ptr cs b off vs hb hc _ ih => exact .ptr cs b off vs (hok b hb) (fun i c hi => (hcell b _ hb).trans (hc i c hi)) ih
 | sl0 clip sz => exact .sl0 clip sz
 | slE clip sz ad => exact .slE clip sz ad
 | sl clip sz rows b off cap vs hb h1 h2 h3 h4 hc ho _ ih => exact .sl clip sz rows b off cap vs (hok b hb) h1 h2 h3 h4 (fun i row j c hi hj => (hcell b _ hb).trans (hc i row j c hi hj)) ho ih
 | nilsl => exact .nilsl
 | nilmap => exact .nilmap
 | nilptr => exact .nilptr
 | map rows k clock es vs hb hh hn hst hsz hv _ ih => exact .map rows k clock es vs (hok k hb) ((hw k hb).trans hh) hn hst hsz hv ih
def Rds (w : World) (ok : Nat -> Prop) (xs : List D) (vs : Array Value) : Prop := vs.size = xs.length /\ ∀ (i : Nat) (x : D) (v : Value), xs[i]? = some x -> vs[i]? = some v -> Rd w ok x v
theorem Rds.mono {w w' : World} {ok ok' : Nat -> Prop} (hok : ∀ k, ok k -> ok' k) (hw : ∀ k, ok k -> w'.heap[k]? = w.heap[k]?) {xs : List D} {vs : Array Value} (h : Rds w ok xs vs) : Rds w' ok' xs vs :=
 ⟨h.1, fun i x v h1 h2 => (h.2 i x v h1 h2).mono hok hw⟩
inductive RdA (w : World) (ok : Nat -> Prop) (μ : Nat -> Option Nat) (ν : Nat -> Option Value) (yl : Nat) : AV -> Value -> Prop
 | any (v) : RdA w ok μ ν yl .any v
 | d {x v} (h : Rd w ok x v) : RdA w ok μ ν yl (.d x) v
 | agg (cs : List AV) (vs : Array Value) (hl : vs.size = cs.length) (h1 : ∀ (i : Nat) (v : Value), vs[i]? = some v -> v.oneCell' = true) (h : ∀ (i : Nat) (c : AV) (v : Value), cs[i]? = some c -> vs[i]? = some v -> RdA w ok μ ν yl c v) : RdA w ok μ ν yl (.agg cs) (.agg vs)
 | tup (cs : List AV) (vs : Array Value) (hl : vs.size = cs.length) (h : ∀ (i : Nat) (c : AV) (v : Value), cs[i]? = some c -> vs[i]? = some v -> RdA w ok μ ν yl c v) : RdA w ok μ ν yl (.tup cs) (.tuple vs)
 | fn (f) (cs : List AV) (vs : Array Value) (hl : vs.size = cs.length) (h : ∀ (i : Nat) (c : AV) (v : Value), cs[i]? = some c -> vs[i]? = some v -> RdA w ok μ ν yl c v) : RdA w ok μ ν yl (.fn f cs) (.func (.func f) #[] vs)
 | loc {b off k} (h : μ b = some k) : RdA w ok μ ν yl (.loc b off) (.pointer (some ⟨k, off, none⟩))
 | asl {b off len cap k} (h : μ b = some k) (hc : len <= cap) : RdA w ok μ ν yl (.asl b off len cap) (.slice (some ⟨k, off, none⟩) len cap)
 | osl {id v} (h : ν id = some v) (h1 : v.oneCell' = true) : RdA w ok μ ν yl (.osl id) v
 | oloc {id sz i j v k} (h : ν id = some v) (hk : v.ownBlock = some k) : RdA w ok μ ν yl (.oloc id sz i j) (.pointer (some ⟨k, i * sz + j, none⟩))
 | yld : RdA w ok μ ν yl .yld (.func (.yield yl) #[] #[])
mutual
def AV.box (b : Nat) : AV -> Bool
 | .agg cs | .tup cs | .fn _ cs => AV.boxL b cs
 | .loc b' _ | .asl b' _ _ _ => b' == b
 | _ => false
def AV.boxL (b : Nat) : List AV -> Bool
 | [] => false
 | c :: r => c.box b || AV.boxL b r
end
mutual
def AV.hasRow (id : Nat) : AV -> Bool
 | .agg cs | .tup cs | .fn _ cs => AV.hasRowL id cs
 | .osl i => i == id
 | .oloc i _ _ _ => i == id
 | _ => false
def AV.hasRowL (id : Nat) : List AV -> Bool
 | [] => false
 | c :: r => c.hasRow id || AV.hasRowL id r
end
theorem AV.boxL_get {b : Nat} : ∀ {cs : List AV}, AV.boxL b cs = false -> ∀ {i : Nat} {c : AV}, cs[i]? = some c -> c.box b = false
 | [], _, i, c, h => by simp at h
 | x :: r, h, 0, c, hc => by simp [AV.boxL] at h; simp at hc; exact hc ▸ h.1
 | x :: r, h, i + 1, c, hc => by simp [AV.boxL] at h; simp at hc; exact AV.boxL_get h.2 hc
theorem AV.rowL_get {id : Nat} : ∀ {cs : List AV}, AV.hasRowL id cs = false -> ∀ {i : Nat} {c : AV}, cs[i]? = some c -> c.hasRow id = false
 | [], _, i, c, h => by simp at h
 | x :: r, h, 0, c, hc => by simp [AV.hasRowL] at h; simp at hc; exact hc ▸ h.1
 | x :: r, h, i + 1, c, hc => by simp [AV.hasRowL] at h; simp at hc; exact AV.rowL_get h.2 hc
theorem RdA.mono {w w' : World} {ok ok' : Nat -> Prop} {μ μ' : Nat -> Option Nat} {ν ν' : Nat -> Option Value} {yl : Nat} (hok : ∀ k, ok k -> ok' k) (hw : ∀ k, ok k -> w'.heap[k]? = w.heap[k]?)
  {x : AV} {v : Value} (h : RdA w ok μ ν yl x v) (hμ : ∀ b, x.box b = true -> μ' b = μ b) (hν : ∀ b, x.hasRow b = true -> ν' b = ν b) : RdA w' ok' μ' ν' yl x v := by
 induction h with
 | any v => exact .any v
 | d h => exact .d (h.mono hok hw)
 | agg cs vs hl h1 _ ih =>
  refine .agg cs vs hl h1 (fun i c v hc hv => ih i c v hc hv (fun b hb => hμ b ?_) (fun b hb => hν b ?_))
  ·cases hh : AV.boxL b cs with
   | true => simp [AV.box, hh]
   | false => rw [AV.boxL_get hh hc] at hb; cases hb
  ·cases hh : AV.hasRowL b cs with
   | true => simp [AV.hasRow, hh]
   | false => rw [AV.rowL_get hh hc] at hb; cases hb
 | tup cs vs hl _ ih =>
  refine .tup cs vs hl (fun i c v hc hv => ih i c v hc hv (fun b hb => hμ b ?_) (fun b hb => hν b ?_))
  ·cases hh : AV.boxL b cs with
   | true => simp [AV.box, hh]
   | false => rw [AV.boxL_get hh hc] at hb; cases hb
  ·cases hh : AV.hasRowL b cs with
   | true => simp [AV.hasRow, hh]
   | false => rw [AV.rowL_get hh hc] at hb; cases hb
 | fn f cs vs hl _ ih =>
  refine .fn f cs vs hl (fun i c v hc hv => ih i c v hc hv (fun b hb => hμ b ?_) (fun b hb => hν b ?_))
  ·cases hh : AV.boxL b cs with
   | true => simp [AV.box, hh]
   | false => rw [AV.boxL_get hh hc] at hb; cases hb
  ·cases hh : AV.hasRowL b cs with
   | true => simp [AV.hasRow, hh]
   | false => rw [AV.rowL_get hh hc] at hb; cases hb
 | @loc b off k h => exact .loc ((hμ b (by simp [AV.box])).trans h)
 | @asl b off len cap k h hc => exact .asl ((hμ b (by simp [AV.box])).trans h) hc
 | @osl id v h h1 => exact .osl ((hν id (by simp [AV.hasRow])).trans h) h1
 | @oloc id sz i j v k h hk => exact .oloc ((hν id (by simp [AV.hasRow])).trans h) hk
 | yld => exact .yld
theorem Rd.one {w : World} {ok : Nat -> Prop} {x : D} {v : Value} (h : Rd w ok x v) (hx : ∀ cs, x ≠ .agg cs) : v.oneCell' = true := by
 cases h <;> first | rfl | exact absurd rfl (hx _)
def look {α : Type} : List (Nat × α) -> Nat -> Option α
 | [], _ => none
 | (k, v) :: r, n => if k = n then some v else look r n
def keys {α : Type} : List (Nat × α) -> List Nat
 | [] => []
 | (k, _) :: r => k :: keys r
def memN (n : Nat) : List Nat -> Bool
 | [] => false
 | k :: r => k == n || memN n r
theorem memN_iff {n : Nat} {l : List Nat} : memN n l = true ↔ n ∈ l := by
 induction l with
 | nil => simp [memN]
 | cons a r ih => simp only [memN, Bool.or_eq_true, beq_iff_eq, ih, List.mem_cons]; exact ⟨fun h => h.imp Eq.symm id, fun h => h.imp Eq.symm id⟩
theorem look_key {α : Type} {l : List (Nat × α)} {n : Nat} {v : α} (h : look l n = some v) : n ∈ keys l := by
 induction l with
 | nil => simp [look] at h
 | cons p r ih =>
  obtain ⟨k, u⟩ := p
  unfold look at h
  by_cases hk : k = n
  ·simp [keys, hk]
  ·rw [if_neg hk] at h; simp [keys, ih h]
theorem look_append {α : Type} {l m : List (Nat × α)} {n : Nat} : look (l ++ m) n = (look l n).or (look m n) := by
 induction l with
 | nil => simp [look]
 | cons p r ih =>
  obtain ⟨k, u⟩ := p
  simp only [List.cons_append, look]
  by_cases hk : k = n
  ·simp [hk]
  ·simp [hk, ih]
theorem look_none_of_key {α : Type} {l : List (Nat × α)} {n : Nat} (h : n ∉ keys l) : look l n = none := by
 cases hh : look l n with
 | none => rfl
 | some v => exact absurd (look_key hh) h
structure Blk where
 e : TypeId
 cells : List AV
 live : Bool
structure Row where
 e : TypeId
 sz : Nat
 rows : List (List D)
 nn : Bool
 live : Bool
structure St where
 n : Nat
 T : List (Nat × AV)
 H : List (Nat × Blk)
 O : List (Nat × Row)
 low : Nat := 0
structure Mp where
 μ : Nat -> Option Nat
 ν : Nat -> Option Value
 ok : Nat -> Prop
 lv : Nat -> Prop
 rd : Nat -> Prop
 ds : List Nat
def BlkOk (lo : Nat) (M : Mp) (yl : Nat) (w : World) (b : Nat) (B : Blk) : Prop :=
 ∃ k vs, M.μ b = some k /\ lo <= k /\ w.heap[k]? = some (.cells vs B.e (0, 0)) /\ vs.size = B.cells.length /\
  (∀ (i : Nat) (c : AV) (v : Value), B.cells[i]? = some c -> vs[i]? = some v -> RdA w M.ok M.μ M.ν yl c v) /\
  (∀ (i : Nat) (v : Value), vs[i]? = some v -> v.oneCell' = true) /\ (B.live = true -> ¬ M.ok k) /\ (B.live = false -> M.ok k)
def ownB : Value -> Option Nat
 | .slice (some a) _ _ => some a.block
 | .map (some k) => some k
 | .pointer (some a) => some a.block
 | _ => none
def wd : Nat -> Nat
 | 0 => 2
 | n + 1 => n + 1
theorem wd_pos {sz : Nat} (h : 0 < sz) : wd sz = sz := by cases sz with
 | zero => omega
 | succ n => rfl
def MapOwn (w : World) (lo : Nat) (v : Value) (n : Nat) (flat : List Value) : Prop :=
 ∃ k es clock, v = .map (some k) /\ lo <= k /\ w.heap[k]? = some (.map es clock) /\ es.size = n /\ Stamps es clock /\ ∀ (i : Nat) (e : MapEntry), es[i]? = some e -> flat[i * 2]? = some e.key /\ flat[i * 2 + 1]? = some e.val
def flatE : List MapEntry -> List Value
 | [] => []
 | e :: r => e.key :: e.val :: flatE r
def IterOwn (w : World) (lo : Nat) (v : Value) (n : Nat) (flat : List Value) : Prop :=
 (∃ k s p, v = .pointer (some ⟨k, 0, none⟩) /\ lo <= k /\ w.heap[k]? = some (.stringIter s p) /\ n = 1 /\ flat = [.string s, .int .i64 p]) \/
 (∃ k km es clock seen last, v = .pointer (some ⟨k, 0, none⟩) /\ lo <= k /\ w.heap[k]? = some (.mapIter (some km) clock seen clock) /\
  n = (last ++ es.toList.filter fun e => !seen.contains e.born).length + 1 /\ flat = .map (some km) :: .bool (!last.isEmpty) :: flatE (last ++ es.toList.filter fun e => !seen.contains e.born) /\ w.heap[km]? = some (.map es clock) /\ Stamps es clock /\
  last.length <= 1 /\ ∀ e ∈ last, seen.back? = some e.born /\ e ∈ es.toList)
def ownsR (w : World) (lo : Nat) (e : TypeId) (sz : Nat) (nn : Bool) (v : Value) (n : Nat) (flat : List Value) : Prop :=
 (0 < sz /\ w.ownsRow lo e sz v n flat) \/ (sz = 0 /\ nn = true /\ MapOwn w lo v n flat) \/ (sz = 0 /\ nn = false /\ IterOwn w lo v n flat)
def RowCells (w : World) (ok : Nat -> Prop) (sz : Nat) (rows : List (List D)) (flat : List Value) : Prop :=
 (∀ row ∈ rows, row.length = wd sz) /\ ∀ (i : Nat) (row : List D) (j : Nat) (c : D), rows[i]? = some row -> row[j]? = some c -> ∃ x, flat[i * wd sz + j]? = some x /\ Rd w ok c x /\ (0 < sz -> x.oneCell' = true)
def objOk : Obj -> Bool
 | .cells _ _ _ => true
 | .map _ _ => true
 | .mapIter _ _ _ _ => true
 | .stringIter _ _ => true
 | _ => false
theorem ownsR.at {w : World} {lo : Nat} {e : TypeId} {sz : Nat} {nn : Bool} {v : Value} {n : Nat} {flat : List Value} (h : ownsR w lo e sz nn v n flat) {k : Nat} (hk : ownB v = some k) : lo <= k /\ k < w.heap.size /\ ∃ ob, w.heap[k]? = some ob /\ objOk ob = true := by
 have key : ∀ {ob : Obj}, lo <= k -> w.heap[k]? = some ob -> objOk ob = true -> lo <= k /\ k < w.heap.size /\ ∃ ob, w.heap[k]? = some ob /\ objOk ob = true := fun h1 h2 h3 => ⟨h1, (Array.getElem?_eq_some_iff.1 h2).1, _, h2, h3⟩
 rcases h with ⟨_, _, h⟩ | ⟨_, _, k', es, clock, rfl, h1, h2, _⟩ | ⟨_, _, h⟩
 ·rcases h with ⟨rfl, _⟩ | ⟨g, cap, cur, rfl, hb, hg, _⟩
  ·cases hk
  ·cases hk; exact key hb hg rfl
 ·cases hk; exact key h1 h2 rfl
 ·rcases h with ⟨k', s, p, rfl, h1, h2, _⟩ | ⟨k', km, es, clock, seen, last, rfl, h1, h2, _⟩
  ·cases hk; exact key h1 h2 rfl
  ·cases hk; exact key h1 h2 rfl
theorem ownsR.lt {w : World} {lo : Nat} {e : TypeId} {sz : Nat} {nn : Bool} {v : Value} {n : Nat} {flat : List Value} (h : ownsR w lo e sz nn v n flat) : ∀ k, ownB v = some k -> lo <= k /\ k < w.heap.size := fun k hk => ⟨(h.at hk).1, (h.at hk).2.1⟩
theorem ownsR.sl {w : World} {lo : Nat} {e : TypeId} {sz : Nat} {nn : Bool} {v : Value} {n : Nat} {flat : List Value} (h : ownsR w lo e sz nn v n flat) (hs : 0 < sz) : w.ownsRow lo e sz v n flat := by
 rcases h with ⟨_, h⟩ | ⟨h, _⟩ | ⟨h, _⟩
 ·exact h
 ·omega
 ·omega
theorem ownB_sl {w : World} {lo : Nat} {e : TypeId} {sz : Nat} {v : Value} {n : Nat} {flat : List Value} (h : w.ownsRow lo e sz v n flat) : ownB v = v.ownBlock := by
 rcases h.2 with ⟨rfl, _⟩ | ⟨g, cap, cur, rfl, _⟩ <;> rfl
def RowOk (lo : Nat) (M : Mp) (w : World) (id : Nat) (R : Row) : Prop :=
 ∃ v flat, M.ν id = some v /\ ownsR w lo R.e R.sz R.nn v R.rows.length flat /\ RowCells w M.ok R.sz R.rows flat /\ (R.nn = true -> v ≠ .slice none 0 0) /\
  (∀ k, ownB v = some k -> (R.live = true -> ¬ M.ok k) /\ (R.live = false -> M.ok k))
def At (H : List (Nat × Blk)) (O : List (Nat × Row)) (M : Mp) : Nat ⊕ Nat -> Nat -> Prop
 | .inl b, k => (∃ B, look H b = some B) /\ M.μ b = some k
 | .inr id, k => (∃ R, look O id = some R) /\ ∃ v, M.ν id = some v /\ ownB v = some k
def Liv (H : List (Nat × Blk)) (O : List (Nat × Row)) : Nat ⊕ Nat -> Prop
 | .inl b => ∃ B, look H b = some B /\ B.live = true
 | .inr id => ∃ R, look O id = some R /\ R.live = true
structure HeapOk (lo : Nat) (H : List (Nat × Blk)) (O : List (Nat × Row)) (M : Mp) (yl : Nat) (w : World) : Prop where
 blk : ∀ b B, look H b = some B -> BlkOk lo M yl w b B
 row : ∀ id R, look O id = some R -> RowOk lo M w id R
 inj : ∀ x y k, At H O M x k -> At H O M y k -> x = y
theorem HeapOk.at_lt {lo : Nat} {H : List (Nat × Blk)} {O : List (Nat × Row)} {M : Mp} {yl : Nat} {w : World} (h : HeapOk lo H O M yl w) {x : Nat ⊕ Nat} {k : Nat} (hx : At H O M x k) :
  lo <= k /\ k < w.heap.size /\ ∃ ob, w.heap[k]? = some ob /\ objOk ob = true := by
 cases x with
 | inl b =>
  obtain ⟨⟨B, hB⟩, hk⟩ := hx
  obtain ⟨k', vs, h1, h2, h3, _⟩ := h.blk b B hB
  rw [h1] at hk; cases hk
  exact ⟨h2, (Array.getElem?_eq_some_iff.1 h3).1, _, h3, rfl⟩
 | inr id =>
  obtain ⟨⟨R, hR⟩, v, hv, hk⟩ := hx
  obtain ⟨v', flat, h1, h2, _⟩ := h.row id R hR
  rw [h1] at hv; cases hv
  exact h2.at hk
def marks (ds : List Nat) : List Deferred := ds.map fun D => { target := .collected D, args := #[] }
structure Rel (base : Nat) (S : St) (M : Mp) (yl : Nat) (a : Act) (w : World) : Prop where
 lo : base <= w.heap.size
 size : a.tmps.size = S.n
 tmp : ∀ t c, look S.T t = some c -> ∃ v, a.tmps[t]? = some v /\ RdA w M.ok M.μ M.ν yl c v
 heap : HeapOk base S.H S.O M yl w
 okLt : ∀ k, M.ok k -> k < w.heap.size
 dfr : a.defers = marks M.ds
 dsOk : ∀ D ∈ M.ds, base <= D /\ w.heap[D]? = some (.deferred (some [])) /\ ¬ M.ok D
 dsN : M.ds.Nodup
def Own (S : St) (M : Mp) (k : Nat) : Prop := (∃ x, At S.H S.O M x k /\ Liv S.H S.O x) \/ k ∈ M.ds
structure Env (P : Program) where
 σ : Type
 l : Nat
 J : σ -> (Nat -> Prop) -> (Nat -> Prop) -> World -> Prop
 frame : ∀ s lv rd w w', J s lv rd w -> (∀ k, lv k \/ rd k -> w'.heap[k]? = w.heap[k]?) -> w.heap.size <= w'.heap.size -> J s lv rd w'
 lt : ∀ s lv rd w, J s lv rd w -> ∀ k, lv k \/ rd k -> k < w.heap.size
 dom : Nat -> Prop
 step : σ -> List D -> Prop
 out : σ -> List D -> σ -> Bool -> Prop
 round : ∀ s xs vs lv rd ok w, J s lv rd w -> step s xs -> (∀ k, ok k -> k < w.heap.size /\ ¬ lv k /\ dom k) -> Rds w ok xs vs ->
  YieldAt Fence.wide 0 P l vs w fun e w' => ∃ s' b, out s xs s' b /\ e = .returned (.bool b) /\ ∃ lv' rd', J s' lv' rd' w' /\ w'.os = w.os /\ w'.tape = w.tape /\ w'.output = w.output /\ w.heap.size <= w'.heap.size /\
   (∀ k, k < w.heap.size -> ¬ lv k -> w'.heap[k]? = w.heap[k]?) /\ (∀ k, k < w.heap.size -> lv' k -> lv k) /\ (∀ k, k < w.heap.size -> rd' k -> rd k \/ lv k \/ ok k)
def noEnv (P : Program) : Env P where
 σ := Unit
 l := 0
 J _ lv rd _ := (∀ k, ¬ lv k) /\ (∀ k, ¬ rd k)
 frame _ _ _ _ _ h _ _ := h
 lt _ _ _ _ h k hk := hk.elim (fun x => absurd x (h.1 k)) (fun x => absurd x (h.2 k))
 dom _ := True
 step _ _ := False
 out _ _ _ _ := False
 round _ _ _ _ _ _ _ _ h := h.elim
structure Cfg {P : Program} (E : Env P) (base : Nat) (S : St) (s : E.σ) (M : Mp) (a : Act) (w : World) : Prop where
 rel : Rel base S M E.l a w
 j : E.J s M.lv M.rd w
 okLv : ∀ k, M.ok k -> ¬ M.lv k
 own : ∀ k, Own S M k -> ¬ M.lv k /\ ¬ M.rd k
 okDom : ∀ k, M.ok k -> E.dom k
 bDom : ∀ k, base <= k -> E.dom k
structure Ext (S : St) (M : Mp) (w : World) (S' : St) (M' : Mp) (w' : World) : Prop where
 os : w'.os = w.os
 tape : w'.tape = w.tape
 output : w'.output = w.output
 size : w.heap.size <= w'.heap.size
 keep : ∀ k, k < w.heap.size -> ¬ Own S M k -> ¬ M.lv k -> w'.heap[k]? = w.heap[k]?
 own : ∀ k, k < w.heap.size -> Own S' M' k -> Own S M k
 okm : ∀ k, M.ok k -> M'.ok k
 okn : ∀ k, k < w.heap.size -> M'.ok k -> M.ok k \/ Own S M k
 lvn : ∀ k, k < w.heap.size -> M'.lv k -> M.lv k
 low : S.low <= S'.low
 μlow : ∀ b, b < S.low -> M'.μ b = M.μ b
 rdn : ∀ k, k < w.heap.size -> M'.rd k -> M.rd k \/ M.lv k \/ M.ok k \/ Own S M k
 pin : ∀ id, 100 <= id -> M'.ν id = M.ν id
theorem Ext.refl (S : St) (M : Mp) (w : World) : Ext S M w S M w := ⟨rfl, rfl, rfl, Nat.le_refl _, fun _ _ _ _ => rfl, fun _ _ h => h, fun _ h => h, fun _ _ h => .inl h, fun _ _ h => h, Nat.le_refl _, fun _ _ => rfl, fun _ _ h => .inl h, fun _ _ => rfl⟩
theorem Ext.trans {S S' S'' : St} {M M' M'' : Mp} {w w' w'' : World} (h : Ext S M w S' M' w') (k : Ext S' M' w' S'' M'' w'') : Ext S M w S'' M'' w'' where
 os := k.os.trans h.os
 tape := k.tape.trans h.tape
 output := k.output.trans h.output
 size := Nat.le_trans h.size k.size
 keep i hi ho hl := (k.keep i (Nat.lt_of_lt_of_le hi h.size) (fun x => ho (h.own i hi x)) (fun x => hl (h.lvn i hi x))).trans (h.keep i hi ho hl)
 own i hi x := h.own i hi (k.own i (Nat.lt_of_lt_of_le hi h.size) x)
 okm i x := k.okm i (h.okm i x)
 okn i hi x := by
  rcases k.okn i (Nat.lt_of_lt_of_le hi h.size) x with x | x
  ·exact h.okn i hi x
  ·exact .inr (h.own i hi x)
 lvn i hi x := h.lvn i hi (k.lvn i (Nat.lt_of_lt_of_le hi h.size) x)
 low := Nat.le_trans h.low k.low
 μlow b hb := (k.μlow b (Nat.lt_of_lt_of_le hb h.low)).trans (h.μlow b hb)
 rdn i hi x := by
  rcases k.rdn i (Nat.lt_of_lt_of_le hi h.size) x with x | x | x | x
  ·exact h.rdn i hi x
  ·exact .inr (.inl (h.lvn i hi x))
  ·rcases h.okn i hi x with x | x
   ·exact .inr (.inr (.inl x))
   ·exact .inr (.inr (.inr x))
  ·exact .inr (.inr (.inr (h.own i hi x)))
 pin id hi := (k.pin id hi).trans (h.pin id hi)
def RowCellsS (w : World) (ok : Nat -> Prop) (sz : Nat) (rows : List (List D)) (flat : List Value) : Prop :=
 (∀ row ∈ rows, row.length = sz) /\ ∀ (i : Nat) (row : List D) (j : Nat) (c : D), rows[i]? = some row -> row[j]? = some c -> ∃ x, flat[i * sz + j]? = some x /\ Rd w ok c x /\ x.oneCell' = true
theorem RowCells.sl {w : World} {ok : Nat -> Prop} {sz : Nat} {rows : List (List D)} {flat : List Value} (h : RowCells w ok sz rows flat) (hs : 0 < sz) : RowCellsS w ok sz rows flat := by
 unfold RowCells at h
 rw [wd_pos hs] at h
 exact ⟨h.1, fun i row j c hi hj => let ⟨x, h1, h2, h3⟩ := h.2 i row j c hi hj; ⟨x, h1, h2, h3 hs⟩⟩
theorem RowCellsS.mk' {w : World} {ok : Nat -> Prop} {sz : Nat} {rows : List (List D)} {flat : List Value} (h : RowCellsS w ok sz rows flat) (hs : 0 < sz) : RowCells w ok sz rows flat := by
 unfold RowCells
 rw [wd_pos hs]
 exact ⟨h.1, fun i row j c hi hj => let ⟨x, h1, h2, h3⟩ := h.2 i row j c hi hj; ⟨x, h1, h2, fun _ => h3⟩⟩
theorem ownsR.pos {w : World} {lo : Nat} {e : TypeId} {sz : Nat} {nn : Bool} {v : Value} {n : Nat} {flat : List Value} (h : ownsR w lo e sz nn v n flat) {k : Nat} (hk : v.ownBlock = some k) : 0 < sz := by
 rcases h with ⟨h, _⟩ | ⟨_, _, k', es, clock, rfl, _⟩ | ⟨_, _, h⟩
 ·exact h
 ·cases hk
 ·rcases h with ⟨k', s, p, rfl, _⟩ | ⟨k', km, es, clock, seen, idx, rfl, _⟩ <;> cases hk
theorem RowOk.sl {lo : Nat} {M : Mp} {w : World} {id : Nat} {R : Row} (h : RowOk lo M w id R) (hs : 0 < R.sz) : ∃ v flat, M.ν id = some v /\ w.ownsRow lo R.e R.sz v R.rows.length flat /\ RowCellsS w M.ok R.sz R.rows flat /\ (R.nn = true -> v ≠ .slice none 0 0) /\
  (∀ k, v.ownBlock = some k -> (R.live = true -> ¬ M.ok k) /\ (R.live = false -> M.ok k)) := by
 obtain ⟨v, flat, h1, h2, h3, h4, h5⟩ := h
 exact ⟨v, flat, h1, h2.sl hs, h3.sl hs, h4, fun k hk => h5 k ((ownB_sl (h2.sl hs)).trans hk)⟩
theorem RowOk.mk' {lo : Nat} {M : Mp} {w : World} {id : Nat} {R : Row} (hs : 0 < R.sz) (h : ∃ v flat, M.ν id = some v /\ w.ownsRow lo R.e R.sz v R.rows.length flat /\ RowCellsS w M.ok R.sz R.rows flat /\ (R.nn = true -> v ≠ .slice none 0 0) /\
  (∀ k, v.ownBlock = some k -> (R.live = true -> ¬ M.ok k) /\ (R.live = false -> M.ok k))) : RowOk lo M w id R := by
 obtain ⟨v, flat, h1, h2, h3, h4, h5⟩ := h
 exact ⟨v, flat, h1, .inl ⟨hs, h2⟩, h3.mk' hs, h4, fun k hk => h5 k ((ownB_sl h2).symm.trans hk)⟩
theorem RowOk.blk {lo : Nat} {M : Mp} {w : World} {id : Nat} {R : Row} (h : RowOk lo M w id R) {v : Value} (hv : M.ν id = some v) {k : Nat} (hk : v.ownBlock = some k) : 0 < R.sz := by
 obtain ⟨v', flat, h1, h2, _⟩ := h
 rw [hv] at h1; cases h1
 exact h2.pos hk
theorem BlkOk.mono {lo lo' : Nat} {M M' : Mp} {yl : Nat} {w w' : World} {b : Nat} {B : Blk} (h : BlkOk lo M yl w b B) (hlo : lo' <= lo) (hb : M'.μ b = M.μ b)
  (hw : ∀ k, k < w.heap.size -> w'.heap[k]? = w.heap[k]?) (hokLt : ∀ k, M.ok k -> k < w.heap.size) (hok : ∀ k, M.ok k -> M'.ok k) (hokn : ∀ k, k < w.heap.size -> M'.ok k -> M.ok k)
  (hμ : ∀ c ∈ B.cells, ∀ b, c.box b = true -> M'.μ b = M.μ b) (hν : ∀ c ∈ B.cells, ∀ b, c.hasRow b = true -> M'.ν b = M.ν b) : BlkOk lo' M' yl w' b B := by
 obtain ⟨k, vs, h1, h2, h3, h4, h5, h6, h7, h8⟩ := h
 have hk := (Array.getElem?_eq_some_iff.1 h3).1
 exact ⟨k, vs, hb.trans h1, Nat.le_trans hlo h2, (hw k hk).trans h3, h4,
  fun i c v hc hv => (h5 i c v hc hv).mono hok (fun j hj => hw j (hokLt j hj)) (hμ c (List.mem_of_getElem? hc)) (hν c (List.mem_of_getElem? hc)), h6, fun hl hh => h7 hl (hokn k hk hh), fun hl => hok k (h8 hl)⟩
theorem RowCells.mono {w w' : World} {ok ok' : Nat -> Prop} {sz : Nat} {rows : List (List D)} {flat : List Value} (h : RowCells w ok sz rows flat) (hok : ∀ k, ok k -> ok' k)
  (hw : ∀ k, ok k -> w'.heap[k]? = w.heap[k]?) : RowCells w' ok' sz rows flat :=
 ⟨h.1, fun i row j c hi hj => let ⟨x, h1, h2, h3⟩ := h.2 i row j c hi hj; ⟨x, h1, h2.mono hok hw, h3⟩⟩
theorem ownsRow_lo {w : World} {lo lo' : Nat} {e : TypeId} {sz : Nat} {v : Value} {n : Nat} {xs : List Value} (h : w.ownsRow lo e sz v n xs) (hlo : lo' <= lo) : w.ownsRow lo' e sz v n xs := by
 refine ⟨h.1, ?_⟩
 rcases h.2 with h | ⟨g, cap, cur, h1, h2, r⟩
 ·exact .inl h
 ·exact .inr ⟨g, cap, cur, h1, Nat.le_trans hlo h2, r⟩
theorem ownsR_lo {w : World} {lo lo' : Nat} {e : TypeId} {sz : Nat} {nn : Bool} {v : Value} {n : Nat} {xs : List Value} (h : ownsR w lo e sz nn v n xs) (hlo : lo' <= lo) : ownsR w lo' e sz nn v n xs := by
 rcases h with ⟨a, h⟩ | ⟨a, b, k, es, clock, h0, h1, h2⟩ | ⟨a, b, h⟩
 ·exact .inl ⟨a, ownsRow_lo h hlo⟩
 ·exact .inr (.inl ⟨a, b, k, es, clock, h0, Nat.le_trans hlo h1, h2⟩)
 ·refine .inr (.inr ⟨a, b, ?_⟩)
  rcases h with ⟨k, s, p, h0, h1, h2⟩ | ⟨k, km, es, clock, seen, last, h0, h1, h2⟩
  ·exact .inl ⟨k, s, p, h0, Nat.le_trans hlo h1, h2⟩
  ·exact .inr ⟨k, km, es, clock, seen, last, h0, Nat.le_trans hlo h1, h2⟩
theorem ownsRow_same {w w' : World} {lo : Nat} {e : TypeId} {sz : Nat} {v : Value} {n : Nat} {xs : List Value} (h : w.ownsRow lo e sz v n xs) (hw : ∀ k, v.ownBlock = some k -> w'.heap[k]? = w.heap[k]?) : w'.ownsRow lo e sz v n xs := by
 refine ⟨h.1, ?_⟩
 rcases h.2 with h | ⟨g, cap, cur, rfl, h2, h3, r⟩
 ·exact .inl h
 ·exact .inr ⟨g, cap, cur, rfl, h2, (hw g rfl).trans h3, r⟩
theorem iter_ok {w : World} {ok : Nat -> Prop} {rows : List (List D)} {km n : Nat} {r : List Value} (hc : RowCells w ok 0 rows (.map (some km) :: r)) (hn : rows.length = n + 1) : ok km := by
 match rows, hn with
 | row :: _, _ =>
  have hl := hc.1 row (by simp)
  match row, hl with
  | [c, c'], _ =>
   obtain ⟨x, h1, h2, _⟩ := hc.2 0 _ 0 c rfl rfl
   simp [wd] at h1
   subst h1
   cases h2 with
   | map rows k clock es vs hok => exact hok
theorem ownsR_same {w w' : World} {lo : Nat} {e : TypeId} {sz : Nat} {nn : Bool} {v : Value} {rows : List (List D)} {ok : Nat -> Prop} {xs : List Value} (h : ownsR w lo e sz nn v rows.length xs) (hc : RowCells w ok sz rows xs) (hok : ∀ k, ok k -> w'.heap[k]? = w.heap[k]?)
  (hw : ∀ k, ownB v = some k -> w'.heap[k]? = w.heap[k]?) : ownsR w' lo e sz nn v rows.length xs := by
 rcases h with ⟨a, h⟩ | ⟨a, b, k, es, clock, rfl, h1, h2, h3⟩ | ⟨a, b, h⟩
 ·exact .inl ⟨a, ownsRow_same h (fun k hk => hw k ((ownB_sl h).trans hk))⟩
 ·exact .inr (.inl ⟨a, b, k, es, clock, rfl, h1, (hw k rfl).trans h2, h3⟩)
 ·refine .inr (.inr ⟨a, b, ?_⟩)
  rcases h with ⟨k, s, p, rfl, h1, h2, h3⟩ | ⟨k, km, es, clock, seen, last, rfl, h1, h2, c, rfl, h4, h5⟩
  ·exact .inl ⟨k, s, p, rfl, h1, (hw k rfl).trans h2, h3⟩
  ·subst a
   exact .inr ⟨k, km, es, clock, seen, last, rfl, h1, (hw k rfl).trans h2, c, rfl, (hok km (iter_ok hc c)).trans h4, h5⟩
theorem RowOk.mono {lo lo' : Nat} {M M' : Mp} {w w' : World} {id : Nat} {R : Row} (h : RowOk lo M w id R) (hlo : lo' <= lo) (hb : M'.ν id = M.ν id)
  (hw : ∀ k, k < w.heap.size -> w'.heap[k]? = w.heap[k]?) (hokLt : ∀ k, M.ok k -> k < w.heap.size) (hok : ∀ k, M.ok k -> M'.ok k) (hokn : ∀ k, k < w.heap.size -> M'.ok k -> M.ok k) : RowOk lo' M' w' id R := by
 obtain ⟨v, flat, h1, h2, h3, h4, h5⟩ := h
 refine ⟨v, flat, hb.trans h1, ownsR_lo (ownsR_same h2 h3 (fun k hk => hw k (hokLt k hk)) (fun k hk => hw k (h2.lt k hk).2)) hlo, h3.mono hok (fun k hk => hw k (hokLt k hk)), h4, fun k hk => ⟨fun hl hh => (h5 k hk).1 hl (hokn k (h2.lt k hk).2 hh), fun hl => hok k ((h5 k hk).2 hl)⟩⟩
def FW (r : Option Nat) : Fence := { Fence.wide with round := r }
def constAV : Value -> Option AV
 | .int k n => some (.d (.int k n))
 | .bool b => some (.d (.bool b))
 | .string s => some (.d (.str s))
 | .nilFunc => some (.d .nilfn)
 | .slice none 0 0 => some (.d .nilsl)
 | .map none => some (.d .nilmap)
 | .pointer none => some (.d .nilptr)
 | _ => none
def opnd (T : List (Nat × AV)) : Operand -> Option AV
 | .tmp t => look T t
 | .const v => constAV v
 | .func f => some (.fn f [])
 | .global _ => none
theorem Rel.opnd {base : Nat} {S : St} {M : Mp} {yl : Nat} {a : Act} {w : World} (h : Rel base S M yl a w) {x : Operand} {c : AV} (hx : opnd S.T x = some c) : RdA w M.ok M.μ M.ν yl c (a.eval x) := by
 cases x with
 | tmp t =>
  obtain ⟨v, h1, h2⟩ := h.tmp t c hx
  have : a.eval (.tmp t) = v := by simp [Act.eval, Array.getD_eq_getD_getElem?, h1]
  rw [this]; exact h2
 | const v =>
  simp only [Aw.opnd] at hx
  show RdA w M.ok M.μ M.ν yl c v
  cases v with
  | int k n => simp [constAV] at hx; subst hx; exact .d (.int k n)
  | bool b => simp [constAV] at hx; subst hx; exact .d (.bool b)
  | string s => simp [constAV] at hx; subst hx; exact .d (.str s)
  | nilFunc => simp [constAV] at hx; subst hx; exact .d .nilfn
  | map m => cases m with
   | none => simp [constAV] at hx; subst hx; exact .d .nilmap
   | some m => simp [constAV] at hx
  | pointer m => cases m with
   | none => simp [constAV] at hx; subst hx; exact .d .nilptr
   | some m => simp [constAV] at hx
  | slice ad n k =>
   cases ad with
   | some ad => simp [constAV] at hx
   | none =>
    cases n with
    | succ n => simp [constAV] at hx
    | zero =>
     cases k with
     | succ k => simp [constAV] at hx
     | zero => simp [constAV] at hx; subst hx; exact .d .nilsl
  | _ => simp [constAV] at hx
 | func f =>
  simp only [Aw.opnd, Option.some.injEq] at hx; subst hx
  exact .fn f [] #[] rfl (fun i c v h1 _ => by simp at h1)
 | global g => simp [Aw.opnd] at hx
def usesBox (S : St) (b : Nat) : Bool := memN b (keys S.H) || S.T.any (fun p => p.2.box b) || S.H.any (fun p => p.2.cells.any fun c => c.box b)
def usesRow (S : St) (id : Nat) : Bool := memN id (keys S.O) || S.T.any (fun p => p.2.hasRow id) || S.H.any (fun p => p.2.cells.any fun c => c.hasRow id)
structure Fresh (S : St) (nh : List (Nat × Blk)) (no : List (Nat × Row)) : Prop where
 box : ∀ b ∈ keys nh, usesBox S b = false
 row : ∀ b ∈ keys no, usesRow S b = false
 bl : ∀ b ∈ keys nh, S.low <= b
 rl : ∀ b ∈ keys no, S.low <= b
 rp : ∀ b ∈ keys no, b < 100
def freshB (S : St) (nh : List (Nat × Blk)) (no : List (Nat × Row)) : Bool := (keys nh).all (fun b => !usesBox S b && Nat.ble S.low b) && (keys no).all (fun b => !usesRow S b && Nat.ble S.low b && Nat.blt b 100)
theorem fresh_of {S : St} {nh : List (Nat × Blk)} {no : List (Nat × Row)} (h : freshB S nh no = true) : Fresh S nh no := by
 simp only [freshB, Bool.and_eq_true, List.all_eq_true, Bool.not_eq_true', Nat.ble_eq, Nat.blt_eq] at h
 exact ⟨fun b hb => (h.1 b hb).1, fun b hb => (h.2 b hb).1.1, fun b hb => (h.1 b hb).2, fun b hb => (h.2 b hb).1.2, fun b hb => (h.2 b hb).2⟩
theorem look_mem {α : Type} {l : List (Nat × α)} {n : Nat} {v : α} (h : look l n = some v) : (n, v) ∈ l := by
 induction l with
 | nil => simp [look] at h
 | cons p r ih =>
  obtain ⟨k, u⟩ := p
  unfold look at h
  by_cases hk : k = n
  ·rw [if_pos hk] at h; cases h; subst hk; simp
  ·rw [if_neg hk] at h; exact List.mem_cons_of_mem _ (ih h)
theorem usesBox_T {S : St} {b : Nat} (h : usesBox S b = false) {t : Nat} {c : AV} (ht : look S.T t = some c) : c.box b = false := by
 simp only [usesBox, Bool.or_eq_false_iff, List.any_eq_false] at h
 have := h.1.2 _ (look_mem ht)
 simpa using this
theorem usesBox_H {S : St} {b : Nat} (h : usesBox S b = false) {t : Nat} {B : Blk} (ht : look S.H t = some B) {c : AV} (hc : c ∈ B.cells) : c.box b = false := by
 simp only [usesBox, Bool.or_eq_false_iff, List.any_eq_false] at h
 have := h.2 _ (look_mem ht)
 simp only [List.any_eq_true, not_exists, not_and] at this
 simpa using this c hc
theorem usesRow_T {S : St} {b : Nat} (h : usesRow S b = false) {t : Nat} {c : AV} (ht : look S.T t = some c) : c.hasRow b = false := by
 simp only [usesRow, Bool.or_eq_false_iff, List.any_eq_false] at h
 have := h.1.2 _ (look_mem ht)
 simpa using this
theorem usesRow_H {S : St} {b : Nat} (h : usesRow S b = false) {t : Nat} {B : Blk} (ht : look S.H t = some B) {c : AV} (hc : c ∈ B.cells) : c.hasRow b = false := by
 simp only [usesRow, Bool.or_eq_false_iff, List.any_eq_false] at h
 have := h.2 _ (look_mem ht)
 simp only [List.any_eq_true, not_exists, not_and] at this
 simpa using this c hc
structure New (M : Mp) (yl : Nat) (w : World) (nh : List (Nat × Blk)) (no : List (Nat × Row)) (res : AV) (v : Value) (M' : Mp) (w' : World) : Prop where
 below : Below w.heap.size w w'
 lv : M'.lv = M.lv
 rd : M'.rd = M.rd
 ds : M'.ds = M.ds
 μ : ∀ b, b ∉ keys nh -> M'.μ b = M.μ b
 ν : ∀ b, b ∉ keys no -> M'.ν b = M.ν b
 okm : ∀ k, M.ok k -> M'.ok k
 okn : ∀ k, M'.ok k -> M.ok k \/ (w.heap.size <= k /\ k < w'.heap.size)
 res : RdA w' M'.ok M'.μ M'.ν yl res v
 heap : HeapOk w.heap.size nh no M' yl w'
def Free (P : Program) (o : Oper) (S : St) (res : AV) (nh : List (Nat × Blk)) (no : List (Nat × Row)) : Prop :=
 ∀ (r : Option Nat) (base : Nat) (M : Mp) (yl : Nat) (a : Act) (w : World), Rel base S M yl a w -> ∀ (K : Act -> World -> Prop) (Q : Exit -> Act -> World -> Prop),
  (∀ v w' M', New M yl w nh no res v M' w' -> K (a.put o.dst v) w') -> o.wpIn (FW r) 0 P a w K Q
def St.add (S : St) (dst : Option Nat) (res : AV) (nh : List (Nat × Blk)) (no : List (Nat × Row)) : St :=
 { S with T := (match dst with | some t => (t, res) :: S.T | none => S.T), H := nh ++ S.H, O := no ++ S.O }
def dstOk (S : St) : Option Nat -> Bool
 | some t => Nat.ble (t + 1) S.n
 | none => true
theorem at_add {S : St} {nh : List (Nat × Blk)} {no : List (Nat × Row)} {M M' : Mp} {yl : Nat} {w w' : World} {res : AV} {v : Value} (hn : New M yl w nh no res v M' w') (x : Nat ⊕ Nat) (k : Nat)
  (h : At (nh ++ S.H) (no ++ S.O) M' x k) : At nh no M' x k \/ At S.H S.O M x k := by
 cases x with
 | inl b =>
  obtain ⟨⟨B, hB⟩, hk⟩ := h
  rw [look_append] at hB
  cases hh : look nh b with
  | some B' => exact .inl ⟨⟨B', hh⟩, hk⟩
  | none =>
   rw [hh, Option.none_or] at hB
   by_cases hb : b ∈ keys nh
   ·exfalso
    clear hB hk
    induction nh with
    | nil => simp [keys] at hb
    | cons p r ih =>
     clear ih hn
     obtain ⟨n', B'⟩ := p
     revert hh hb
     generalize ((n', B') :: r) = l
     intro hh hb
     induction l with
     | nil => simp [keys] at hb
     | cons q r ih =>
      obtain ⟨k', u⟩ := q
      unfold look at hh
      by_cases hk : k' = b
      ·rw [if_pos hk] at hh; cases hh
      ·rw [if_neg hk] at hh
       simp only [keys, List.mem_cons] at hb
       exact ih hh (hb.resolve_left (fun e => hk e.symm))
   ·exact .inr ⟨⟨B, hB⟩, (hn.μ b hb) ▸ hk⟩
 | inr id =>
  obtain ⟨⟨R, hR⟩, v', hv, hk⟩ := h
  rw [look_append] at hR
  cases hh : look no id with
  | some R' => exact .inl ⟨⟨R', hh⟩, v', hv, hk⟩
  | none =>
   rw [hh, Option.none_or] at hR
   by_cases hb : id ∈ keys no
   ·exfalso
    clear hR hk hv
    revert hh hb
    clear hn
    intro hh hb
    induction no with
    | nil => simp [keys] at hb
    | cons q r ih =>
     obtain ⟨k', u⟩ := q
     unfold look at hh
     by_cases hk : k' = id
     ·rw [if_pos hk] at hh; cases hh
     ·rw [if_neg hk] at hh
      simp only [keys, List.mem_cons] at hb
      exact ih hh (hb.resolve_left (fun e => hk e.symm))
   ·exact .inr ⟨⟨R, hR⟩, v', (hn.ν id hb) ▸ hv, hk⟩
theorem Liv_old {nh : List (Nat × Blk)} {no : List (Nat × Row)} {S : St} {x : Nat ⊕ Nat} (h : Liv (nh ++ S.H) (no ++ S.O) x) (hx : match x with | .inl b => look nh b = none | .inr id => look no id = none) : Liv S.H S.O x := by
 cases x with
 | inl b => obtain ⟨B, hB, hl⟩ := h; rw [look_append, hx, Option.none_or] at hB; exact ⟨B, hB, hl⟩
 | inr b => obtain ⟨B, hB, hl⟩ := h; rw [look_append, hx, Option.none_or] at hB; exact ⟨B, hB, hl⟩
theorem own_add {S : St} {nh : List (Nat × Blk)} {no : List (Nat × Row)} {M M' : Mp} {yl : Nat} {w w' : World} {dst : Option Nat} {res : AV} {v : Value} (hn : New M yl w nh no res v M' w') (k : Nat)
  (h : Own (S.add dst res nh no) M' k) : w.heap.size <= k \/ Own S M k := by
 rcases h with ⟨x, hx, hl⟩ | hd
 ·rcases at_add (S := S) hn x k hx with h | h
  ·exact .inl (hn.heap.at_lt h).1
  ·cases hh : (match x with | .inl b => (look nh b).isSome | .inr id => (look no id).isSome) with
   | true =>
    left
    refine (hn.heap.at_lt (x := x) (k := k) ?_).1
    cases x with
    | inl b => simp only [Option.isSome_iff_exists] at hh; exact ⟨hh, hx.2⟩
    | inr b => simp only [Option.isSome_iff_exists] at hh; exact ⟨hh, hx.2⟩
   | false =>
    right
    refine .inl ⟨x, h, Liv_old (nh := nh) (no := no) hl ?_⟩
    cases x with
    | inl b => simpa using hh
    | inr b => simpa using hh
 ·exact .inr (.inr (hn.ds ▸ hd))
theorem Rel.new {base : Nat} {S : St} {M M' : Mp} {yl : Nat} {a : Act} {w w' : World} {nh : List (Nat × Blk)} {no : List (Nat × Row)} {res : AV} {v : Value} {dst : Option Nat}
  (h : Rel base S M yl a w) (hn : New M yl w nh no res v M' w') (hf : Fresh S nh no) (hd : dstOk S dst = true) : Rel base (S.add dst res nh no) M' yl (a.put dst v) w' := by
 have hb := hn.below
 have hw : ∀ k, k < w.heap.size -> w'.heap[k]? = w.heap[k]? := hb.block
 have hokw : ∀ k, M.ok k -> w'.heap[k]? = w.heap[k]? := fun k hk => hw k (h.okLt k hk)
 have hokn : ∀ k, k < w.heap.size -> M'.ok k -> M.ok k := fun k hk hh => (hn.okn k hh).resolve_right (fun x => by omega)
 have hμ : ∀ b, usesBox S b = true -> M'.μ b = M.μ b := fun b hb => hn.μ b (fun hk => by rw [hf.box b hk] at hb; cases hb)
 have hν : ∀ b, usesRow S b = true -> M'.ν b = M.ν b := fun b hb => hn.ν b (fun hk => by rw [hf.row b hk] at hb; cases hb)
 have hμT : ∀ {t c}, look S.T t = some c -> ∀ b, c.box b = true -> M'.μ b = M.μ b := fun ht b hb => hμ b (by
  cases hu : usesBox S b with
  | true => rfl
  | false => rw [usesBox_T hu ht] at hb; cases hb)
 have hνT : ∀ {t c}, look S.T t = some c -> ∀ b, c.hasRow b = true -> M'.ν b = M.ν b := fun ht b hb => hν b (by
  cases hu : usesRow S b with
  | true => rfl
  | false => rw [usesRow_T hu ht] at hb; cases hb)
 have hput : (a.put dst v).defers = a.defers := by cases dst <;> rfl
 refine ⟨Nat.le_trans h.lo hb.size, ?_, ?_, ⟨?_, ?_, ?_⟩, ?_, ?_, ?_, ?_⟩
 ·cases dst with
  | none => exact h.size
  | some t => simp only [Act.put, Array.size_setIfInBounds]; exact h.size
 ·intro t c ht
  cases dst with
  | none =>
   obtain ⟨u, h1, h2⟩ := h.tmp t c ht
   exact ⟨u, h1, h2.mono hn.okm hokw (hμT ht) (hνT ht)⟩
  | some t' =>
   simp only [St.add, look] at ht
   by_cases he : t' = t
   ·rw [if_pos he] at ht; cases ht; subst he
    have hlt : t' < a.tmps.size := by rw [h.size]; exact Nat.le_of_ble_eq_true hd
    exact ⟨v, by simp [Act.put, hlt], hn.res⟩
   ·rw [if_neg he] at ht
    obtain ⟨u, h1, h2⟩ := h.tmp t c ht
    exact ⟨u, by simp only [Act.put]; rw [Array.getElem?_setIfInBounds_ne he]; exact h1, h2.mono hn.okm hokw (hμT ht) (hνT ht)⟩
 ·intro b B hB
  simp only [St.add] at hB
  rw [look_append] at hB
  cases hh : look nh b with
  | some B' =>
   rw [hh, Option.some_or] at hB; cases hB
   exact (hn.heap.blk b B hh).mono h.lo rfl (fun _ _ => rfl) (fun k hk => (hn.okn k hk).elim (fun x => Nat.lt_of_lt_of_le (h.okLt k x) hb.size) (fun x => x.2)) (fun _ x => x) (fun _ _ x => x) (fun _ _ _ _ => rfl) (fun _ _ _ _ => rfl)
  | none =>
   rw [hh, Option.none_or] at hB
   refine (h.heap.blk b B hB).mono (Nat.le_refl _) (hμ b ?_) hw h.okLt hn.okm hokn (fun c hc b' hb' => hμ b' ?_) (fun c hc b' hb' => hν b' ?_)
   ·simp only [usesBox, memN_iff.2 (look_key hB), Bool.true_or]
   ·cases hu : usesBox S b' with
    | true => rfl
    | false => rw [usesBox_H hu hB hc] at hb'; cases hb'
   ·cases hu : usesRow S b' with
    | true => rfl
    | false => rw [usesRow_H hu hB hc] at hb'; cases hb'
 ·intro id R hR
  simp only [St.add] at hR
  rw [look_append] at hR
  cases hh : look no id with
  | some R' =>
   rw [hh, Option.some_or] at hR; cases hR
   exact (hn.heap.row id R hh).mono h.lo rfl (fun _ _ => rfl) (fun k hk => (hn.okn k hk).elim (fun x => Nat.lt_of_lt_of_le (h.okLt k x) hb.size) (fun x => x.2)) (fun _ x => x) (fun _ _ x => x)
  | none =>
   rw [hh, Option.none_or] at hR
   exact (h.heap.row id R hR).mono (Nat.le_refl _) (hν id (by simp only [usesRow, memN_iff.2 (look_key hR), Bool.true_or])) hw h.okLt hn.okm hokn
 ·intro x y k hx hy
  rcases at_add (S := S) hn x k hx with h1 | h1 <;> rcases at_add (S := S) hn y k hy with h2 | h2
  ·exact hn.heap.inj x y k h1 h2
  ·have := (hn.heap.at_lt h1).1; have := (h.heap.at_lt h2).2.1; omega
  ·have := (hn.heap.at_lt h2).1; have := (h.heap.at_lt h1).2.1; omega
  ·exact h.heap.inj x y k h1 h2
 ·exact fun k hk => (hn.okn k hk).elim (fun x => Nat.lt_of_lt_of_le (h.okLt k x) hb.size) (fun x => x.2)
 ·rw [hput, hn.ds]; exact h.dfr
 ·intro D hD
  rw [hn.ds] at hD
  obtain ⟨h1, h2, h3⟩ := h.dsOk D hD
  have hlt := (Array.getElem?_eq_some_iff.1 h2).1
  exact ⟨h1, (hw D hlt).trans h2, fun x => h3 (hokn D hlt x)⟩
 ·rw [hn.ds]; exact h.dsN
theorem Cfg.new {P : Program} {E : Env P} {base : Nat} {S : St} {s : E.σ} {M M' : Mp} {a : Act} {w w' : World} {nh : List (Nat × Blk)} {no : List (Nat × Row)} {res : AV} {v : Value} {dst : Option Nat}
  (h : Cfg E base S s M a w) (hn : New M E.l w nh no res v M' w') (hf : Fresh S nh no) (hd : dstOk S dst = true) :
  Cfg E base (S.add dst res nh no) s M' (a.put dst v) w' /\ Ext S M w (S.add dst res nh no) M' w' := by
 have hb := hn.below
 have hlt := E.lt _ _ _ _ h.j
 have hfr : ∀ k, Own (S.add dst res nh no) M' k -> w.heap.size <= k \/ Own S M k := own_add hn
 refine ⟨⟨h.rel.new hn hf hd, ?_, ?_, ?_, fun k hk => (hn.okn k hk).elim (h.okDom k) (fun x => h.bDom k (Nat.le_trans h.rel.lo x.1)), h.bDom⟩, ⟨hb.os, hb.tape, hb.output, hb.size, fun k hk _ _ => hb.block k hk, ?_, hn.okm, ?_, fun k _ x => hn.lv ▸ x, Nat.le_refl _, fun b hb => hn.μ b (fun hk => by have := hf.bl b hk; omega), fun k _ x => .inl (hn.rd ▸ x), fun id hid => hn.ν id (fun hk => by have := hf.rp id hk; omega)⟩⟩
 ·rw [hn.lv, hn.rd]; exact E.frame _ _ _ _ _ h.j (fun k hk => hb.block k (hlt k hk)) hb.size
 ·intro k hk
  rw [hn.lv]
  rcases hn.okn k hk with x | x
  ·exact h.okLv k x
  ·exact fun y => by have := hlt k (.inl y); omega
 ·intro k hk
  rw [hn.lv, hn.rd]
  rcases hfr k hk with x | x
  ·exact ⟨fun y => by have := hlt k (.inl y); omega, fun y => by have := hlt k (.inr y); omega⟩
  ·exact h.own k x
 ·exact fun k hk x => (hfr k x).resolve_left (by omega)
 ·exact fun k hk x => .inl ((hn.okn k x).resolve_right (fun y => by omega))
end Go.Proofs.Ytfilnnbfppokmaa.Aw
namespace Go.Proofs.Ytfilnnbfppokmaa.Aw
open Go Go.RowKit
variable {P : Program} {E : Env P} {base : Nat} {r : Option Nat}
def Post (E : Env P) (base : Nat) (Q : Exit -> St -> E.σ -> Prop) (S : St) (M : Mp) (w : World) : Exit -> Act -> World -> Prop :=
 fun e a' w' => ∃ S' s' M', Q e S' s' /\ Cfg E base S' s' M' a' w' /\ Ext S M w S' M' w'
def AW (E : Env P) (base : Nat) (r : Option Nat) (c : Code) (S : St) (s : E.σ) (Q : Exit -> St -> E.σ -> Prop) : Prop :=
 ∀ M a w, Cfg E base S s M a w -> c.wpIn (FW r) 0 P (Post E base Q S M w) a w
theorem Post.later {Q : Exit -> St -> E.σ -> Prop} {S S' : St} {M M' : Mp} {w w' : World} {e : Exit} {a'' : Act} {w'' : World} (h : Ext S M w S' M' w') (k : Post E base Q S' M' w' e a'' w'') : Post E base Q S M w e a'' w'' :=
 let ⟨S2, s2, M2, q, c, x⟩ := k; ⟨S2, s2, M2, q, c, h.trans x⟩
theorem AW.mono {c : Code} {S : St} {s : E.σ} {Q Q' : Exit -> St -> E.σ -> Prop} (h : AW E base r c S s Q) (hq : ∀ e S s, Q e S s -> Q' e S s) : AW E base r c S s Q' :=
 fun M a w hc => wpIn_mono (h M a w hc) (fun e a' w' ⟨S', s', M', q, x⟩ => ⟨S', s', M', hq _ _ _ q, x⟩)
def thenQ (K : St -> E.σ -> Prop) (Q : Exit -> St -> E.σ -> Prop) : Exit -> St -> E.σ -> Prop
 | .normal, S, s => K S s
 | e, S, s => Q e S s
theorem AW_seq {x y : Code} {S : St} {s : E.σ} {Q : Exit -> St -> E.σ -> Prop} (h : AW E base r x S s (thenQ (fun S' s' => AW E base r y S' s' Q) Q)) : AW E base r (.seq x y) S s Q := by
 intro M a w hc
 refine wpIn_seq (wpIn_mono (h M a w hc) ?_)
 rintro e a' w' ⟨S', s', M', q, hc', hx⟩
 cases e with
 | normal => exact wpIn_mono (q M' a' w' hc') (fun _ _ _ k => k.later hx)
 | exit id => exact ⟨S', s', M', q, hc', hx⟩
 | goto l => exact ⟨S', s', M', q, hc', hx⟩
 | ret => exact ⟨S', s', M', q, hc', hx⟩
 | panic c => exact ⟨S', s', M', q, hc', hx⟩
 | outgrown => exact ⟨S', s', M', q, hc', hx⟩
theorem AW_skip {S : St} {s : E.σ} {Q : Exit -> St -> E.σ -> Prop} (h : Q .normal S s) : AW E base r .skip S s Q := fun M a w hc => wpIn_skip ⟨S, s, M, h, hc, Ext.refl _ _ _⟩
theorem AW_label {l : Nat} {S : St} {s : E.σ} {Q : Exit -> St -> E.σ -> Prop} (h : Q .normal S s) : AW E base r (.label l) S s Q := fun M a w hc => wpIn_label ⟨S, s, M, h, hc, Ext.refl _ _ _⟩
theorem AW_exit {id : Nat} {S : St} {s : E.σ} {Q : Exit -> St -> E.σ -> Prop} (h : Q (.exit id) S s) : AW E base r (.exit id) S s Q := fun M a w hc => wpIn_exit ⟨S, s, M, h, hc, Ext.refl _ _ _⟩
theorem AW_goto {l : Nat} {S : St} {s : E.σ} {Q : Exit -> St -> E.σ -> Prop} (h : Q (.goto l) S s) : AW E base r (.goto l) S s Q := fun M a w hc => wpIn_goto ⟨S, s, M, h, hc, Ext.refl _ _ _⟩
theorem AW_ret {S : St} {s : E.σ} {Q : Exit -> St -> E.σ -> Prop} (h : Q .ret S s) : AW E base r .ret S s Q := fun M a w hc => wpIn_ret ⟨S, s, M, h, hc, Ext.refl _ _ _⟩
theorem AW_cond {c : Operand} {x y : Code} {b : Bool} {S : St} {s : E.σ} {Q : Exit -> St -> E.σ -> Prop} (hb : opnd S.T c = some (.d (.bool b))) (ht : b = true -> AW E base r x S s Q) (hf : b = false -> AW E base r y S s Q) :
  AW E base r (.cond c x y) S s Q := by
 intro M a w hc
 have he : a.eval c = .bool b := by
  have := hc.rel.opnd hb
  generalize a.eval c = v at this
  cases this with
  | d h => cases h; rfl
 exact wpIn_cond_split he (fun h => ht h M a w hc) (fun h => hf h M a w hc)
def blockQ (id : Nat) (Q : Exit -> St -> E.σ -> Prop) : Exit -> St -> E.σ -> Prop
 | .exit id', S, s => if id' = id then Q .normal S s else Q (.exit id') S s
 | e, S, s => Q e S s
theorem AW_block {id : Nat} {c : Code} {S : St} {s : E.σ} {Q : Exit -> St -> E.σ -> Prop} (h : AW E base r c S s (blockQ id Q)) : AW E base r (.block id c) S s Q := by
 intro M a w hc
 refine wpIn_block (wpIn_mono (h M a w hc) ?_)
 rintro e a' w' ⟨S', s', M', q, hc', hx⟩
 cases e with
 | exit id' =>
  simp only [Exit.inBlock]
  simp only [blockQ] at q
  by_cases hid : id' = id
  ·rw [if_pos hid] at q ⊢; exact ⟨S', s', M', q, hc', hx⟩
  ·rw [if_neg hid] at q ⊢; exact ⟨S', s', M', q, hc', hx⟩
 | normal => exact ⟨S', s', M', q, hc', hx⟩
 | goto l => exact ⟨S', s', M', q, hc', hx⟩
 | ret => exact ⟨S', s', M', q, hc', hx⟩
 | panic c => exact ⟨S', s', M', q, hc', hx⟩
 | outgrown => exact ⟨S', s', M', q, hc', hx⟩
def Weak (S S' : St) : Prop := ∀ (P : Program) (E : Env P) (base : Nat) (s : E.σ) (M : Mp) (a : Act) (w : World), Cfg E base S s M a w -> ∃ M', Cfg E base S' s M' a w /\ Ext S M w S' M' w
theorem Weak.refl (S : St) : Weak S S := fun P E base s M a w h => ⟨M, h, Ext.refl _ _ _⟩
theorem Weak.trans {S S' S'' : St} (h : Weak S S') (k : Weak S' S'') : Weak S S'' := fun P E base s M a w hc =>
 let ⟨M1, c1, x1⟩ := h P E base s M a w hc; let ⟨M2, c2, x2⟩ := k P E base s M1 a w c1; ⟨M2, c2, x1.trans x2⟩
theorem AW_weak {c : Code} {S S' : St} {s : E.σ} {Q : Exit -> St -> E.σ -> Prop} (hw : Weak S S') (h : AW E base r c S' s Q) : AW E base r c S s Q := by
 intro M a w hc
 obtain ⟨M', hc', hx⟩ := hw P E base s M a w hc
 exact wpIn_mono (h M' a w hc') (fun _ _ _ k => k.later hx)
theorem exists_least (p : Nat -> Prop) (h : ∃ n, p n) : ∃ m, p m /\ ∀ j, p j -> m <= j := by
 obtain ⟨n, hn⟩ := h
 induction n using Nat.strongRecOn with
 | _ n ih =>
  by_cases hh : ∃ m, m < n /\ p m
  ·obtain ⟨m, hm, hp⟩ := hh; exact ih m hm hp
  ·exact ⟨n, hn, fun j hj => Nat.le_of_not_lt (fun hl => hh ⟨j, hl, hj⟩)⟩
noncomputable def least (p : Nat -> Prop) (h : ∃ n, p n) : Nat := Classical.choose (exists_least p h)
theorem least_spec (p : Nat -> Prop) (h : ∃ n, p n) : p (least p h) /\ ∀ j, p j -> least p h <= j := Classical.choose_spec (exists_least p h)
theorem AW_loop {c : Code} {S : St} {s : E.σ} {Q : Exit -> St -> E.σ -> Prop} (I : Nat -> St -> E.σ -> Prop) (k : Nat) (h0 : I k S s)
  (round : ∀ k S s, I k S s -> AW E base r c S s (thenQ (fun S' s' => ∃ k' S'', k' < k /\ Weak S' S'' /\ I k' S'' s') Q)) : AW E base r (.loop c) S s Q := by
 classical
 intro M a w hc
 let J : Nat -> Act -> World -> Prop := fun k a' w' => ∃ S' s' M', I k S' s' /\ Cfg E base S' s' M' a' w' /\ Ext S M w S' M' w'
 refine wpIn_loop (fun a' w' => ∃ k, J k a' w') (fun a' w' => if h : ∃ k, J k a' w' then least (fun k => J k a' w') h else 0) ⟨k, S, s, M, h0, hc, Ext.refl _ _ _⟩ ?_
 intro a' w' hJ
 simp only [dif_pos hJ]
 obtain ⟨S1, s1, M1, hi, hc1, hx1⟩ := (least_spec (fun k => J k a' w') hJ).1
 refine wpIn_mono (round _ S1 s1 hi M1 a' w' hc1) ?_
 rintro e a2 w2 ⟨S2, s2, M2, q, hc2, hx2⟩
 cases e with
 | normal =>
  obtain ⟨k', S3, hlt, hw, hi'⟩ := q
  obtain ⟨M3, hc3, hx3⟩ := hw P E base s2 M2 a2 w2 hc2
  have hJ' : J k' a2 w2 := ⟨S3, s2, M3, hi', hc3, (hx1.trans hx2).trans hx3⟩
  refine ⟨⟨k', hJ'⟩, ?_⟩
  rw [dif_pos ⟨k', hJ'⟩]
  exact Nat.lt_of_le_of_lt ((least_spec (fun k => J k a2 w2) ⟨k', hJ'⟩).2 _ hJ') hlt
 | exit id => exact ⟨S2, s2, M2, q, hc2, hx1.trans hx2⟩
 | goto l => exact ⟨S2, s2, M2, q, hc2, hx1.trans hx2⟩
 | ret => exact ⟨S2, s2, M2, q, hc2, hx1.trans hx2⟩
 | panic c => exact ⟨S2, s2, M2, q, hc2, hx1.trans hx2⟩
 | outgrown => exact ⟨S2, s2, M2, q, hc2, hx1.trans hx2⟩
def AWO (E : Env P) (base : Nat) (r : Option Nat) (ops : Array Oper) (l : List Nat) (S : St) (s : E.σ) (Q : Exit -> St -> E.σ -> Prop) : Prop :=
 ∀ M a w, Cfg E base S s M a w -> wpOpsIn (FW r) 0 P ops (Post E base Q S M w) l a w
def Bar (E : Env P) (o : Oper) (S : St) (s : E.σ) (S' : St) (s' : E.σ) : Prop :=
 ∀ (r : Option Nat) (base : Nat) (M : Mp) (a : Act) (w : World), Cfg E base S s M a w -> ∀ (K : Act -> World -> Prop) (Q : Exit -> Act -> World -> Prop),
  (∀ v w' M', Cfg E base S' s' M' (a.put o.dst v) w' -> Ext S M w S' M' w' -> K (a.put o.dst v) w') -> o.wpIn (FW r) 0 P a w K Q
def guardB (ops : Array Oper) (T : List (Nat × AV)) (o : Oper) : Option Bool :=
 match o.guard with
 | none => some true
 | some (j, want) => match (ops[j]?).bind (·.dst) with
  | some t => match look T t with
   | some (.d (.bool b)) => some (b == want)
   | some (.tup []) => some false
   | _ => none
  | none => none
theorem guardB_spec {ops : Array Oper} {S : St} {o : Oper} {b : Bool} (h : guardB ops S.T o = some b) {yl : Nat} {M : Mp} {a : Act} {w : World} (hr : Rel base S M yl a w) : Region.wanted o (yielded ops a.tmps) = b := by
 unfold guardB at h
 unfold Region.wanted
 split at h
 ·rename_i hg; cases h; rw [hg]
 ·rename_i j want hg
  rw [hg]
  split at h
  ·rename_i t ht
   split at h
   ·rename_i c hc
    cases h
    obtain ⟨v, h1, h2⟩ := hr.tmp t _ hc
    have hv : v = .bool c := by cases h2 with | d x => cases x; rfl
    subst hv
    have hy : yielded ops a.tmps j = some c := by simp [yielded, ht, h1]
    show (yielded ops a.tmps j == some want) = (c == want)
    rw [hy]; rfl
   ·rename_i hc
    cases h
    obtain ⟨v, h1, h2⟩ := hr.tmp t _ hc
    have hy : yielded ops a.tmps j = none := by
     cases h2 with | tup _ vs hl _ => simp [yielded, ht, h1]
    show (yielded ops a.tmps j == some want) = false
    rw [hy]; rfl
   ·cases h
  ·cases h
theorem wpOpsIn_mono' {ops : Array Oper} {Q Q' : Exit -> Act -> World -> Prop} (hq : ∀ e a w, Q e a w -> Q' e a w) : ∀ (l : List Nat) (a : Act) (w : World), wpOpsIn (FW r) 0 P ops Q l a w -> wpOpsIn (FW r) 0 P ops Q' l a w := by
 intro l
 induction l with
 | nil => exact fun a w h => hq _ _ _ h
 | cons i rest ih =>
  intro a w h
  simp only [wpOpsIn] at h ⊢
  cases ho : ops[i]? with
  | none => simp only [ho] at h ⊢; exact ih a w h
  | some o =>
   simp only [ho] at h ⊢
   by_cases hw : Region.wanted o (yielded ops a.tmps) = true
   ·simp only [hw, if_true] at h ⊢
    refine ⟨h.1, ?_⟩
    have h2 := h.2
    generalize (o.semAt (FW r).round a.eval).run P w = x at h2 ⊢
    have hl : LetsOut Q -> LetsOut Q' := fun ⟨a, w, h⟩ => ⟨a, w, hq _ _ _ h⟩
    cases x with
    | ok x w' =>
     cases x <;> simp only [Oper.uponIn] at h2 ⊢ <;> first
      | exact h2.elim
      | exact ih _ _ h2
      | exact ⟨h2.1, CallsIn.mono h2.2 (fun e w'' he => by cases e <;> first | exact ih _ _ he | exact hq _ _ _ he | exact hl he)⟩
      | exact ⟨h2.1, RowsIn.mono h2.2 (fun _ _ he => ih _ _ he)⟩
      | exact ⟨h2.1, RoundIn.mono h2.2 (fun e w'' he => by cases e <;> first | exact ih _ _ he | exact hq _ _ _ he | exact hl he)⟩
    | halt x w' => cases x <;> simp only [Oper.uponIn] at h2 ⊢ <;> first | exact h2.elim | exact hq _ _ _ h2
   ·simp only [hw, if_false, Bool.false_eq_true] at h ⊢
    exact ⟨h.1, ih _ _ h.2⟩
theorem AWO_nil {ops : Array Oper} {S : St} {s : E.σ} {Q : Exit -> St -> E.σ -> Prop} (h : Q .normal S s) : AWO E base r ops [] S s Q := fun M a w hc => ⟨S, s, M, h, hc, Ext.refl _ _ _⟩
theorem AWO_bar {ops : Array Oper} {i : Nat} {rest : List Nat} {S S' : St} {s s' : E.σ} {Q : Exit -> St -> E.σ -> Prop} {o : Oper} (ho : ops[i]? = some o) (hg : guardB ops S.T o = some true) (hb : Bar E o S s S' s')
  (h : AWO E base r ops rest S' s' Q) : AWO E base r ops (i :: rest) S s Q := by
 intro M a w hc
 simp only [wpOpsIn, ho, guardB_spec hg hc.rel, if_true]
 exact hb r base M a w hc _ _ (fun v w' M' hc' hx => wpOpsIn_mono' (fun e a w k => k.later hx) rest _ _ (h M' _ w' hc'))
theorem AWO_free {ops : Array Oper} {i : Nat} {rest : List Nat} {S : St} {s : E.σ} {Q : Exit -> St -> E.σ -> Prop} {o : Oper} (res : AV) (nh : List (Nat × Blk)) (no : List (Nat × Row)) (ho : ops[i]? = some o)
  (hg : guardB ops S.T o = some true) (hb : Free P o S res nh no) (hf : Fresh S nh no) (hd : dstOk S o.dst = true)
  (h : AWO E base r ops rest (S.add o.dst res nh no) s Q) : AWO E base r ops (i :: rest) S s Q := by
 intro M a w hc
 simp only [wpOpsIn, ho, guardB_spec hg hc.rel, if_true]
 exact hb r base M E.l a w hc.rel _ _ (fun v w' M' hn => let ⟨c2, x2⟩ := hc.new hn hf hd; wpOpsIn_mono' (fun e a w k => k.later x2) rest _ _ (h M' _ w' c2))
theorem New.skip {M : Mp} {yl : Nat} {w : World} : New M yl w [] [] .any undef M w where
 below := Below.refl _ _
 lv := rfl
 rd := rfl
 ds := rfl
 μ _ _ := rfl
 ν _ _ := rfl
 okm _ x := x
 okn _ x := .inl x
 res := .any _
 heap := ⟨fun b B h => (by cases h), fun b B h => (by cases h), fun x y k hx => by cases x <;> (obtain ⟨⟨_, h⟩, _⟩ := hx; cases h)⟩
theorem fresh_nil (S : St) : Fresh S [] [] := ⟨fun b h => (by cases h), fun b h => (by cases h), fun b h => (by cases h), fun b h => (by cases h), fun b h => (by cases h)⟩
theorem AWO_notT {ops : Array Oper} {i : Nat} {rest : List Nat} {S : St} {s : E.σ} {Q : Exit -> St -> E.σ -> Prop} {o : Oper} (ho : ops[i]? = some o)
  (hg : guardB ops S.T o = some false) (hd : dstOk S o.dst = true) (h : AWO E base r ops rest (S.add o.dst (.tup []) [] []) s Q) : AWO E base r ops (i :: rest) S s Q := by
 intro M a w hc
 simp only [wpOpsIn, ho, guardB_spec hg hc.rel, Bool.false_eq_true, if_false]
 obtain ⟨c2, x2⟩ := hc.new (dst := o.dst) { New.skip with res := .tup [] #[] rfl (fun i c v h => by simp at h) } (fresh_nil S) hd
 exact ⟨fun _ _ => trivial, wpOpsIn_mono' (fun e a w k => k.later x2) rest _ _ (h M _ w c2)⟩
theorem AWO_weak {ops : Array Oper} {l : List Nat} {S S' : St} {s : E.σ} {Q : Exit -> St -> E.σ -> Prop} (hw : Weak S S') (h : AWO E base r ops l S' s Q) : AWO E base r ops l S s Q := by
 intro M a w hc
 obtain ⟨M', hc', hx⟩ := hw P E base s M a w hc
 exact wpOpsIn_mono' (fun e a w k => k.later hx) l _ _ (h M' a w hc')
theorem AW_region {id : Nat} {ops : Array Oper} {S : St} {s : E.σ} {Q : Exit -> St -> E.σ -> Prop} (h : AWO E base r ops (List.range ops.size) S s Q) : AW E base r (.region id ops false) S s Q :=
 fun M a w hc => wpIn_region (h M a w hc)
structure Less (S S' : St) : Prop where
 n : S'.n = S.n
 low : S.low <= S'.low
 T : ∀ t c, look S'.T t = some c -> look S.T t = some c
 H : ∀ b B, look S'.H b = some B -> ∃ l, look S.H b = some ⟨B.e, B.cells, l⟩ /\ (B.live = true -> l = true)
 O : ∀ b R, look S'.O b = some R -> ∃ l, look S.O b = some ⟨R.e, R.sz, R.rows, R.nn, l⟩ /\ (R.live = true -> l = true)
theorem Less.weak {S S' : St} (h : Less S S') : Weak S S' := by
 intro P E base s M a w hc
 have hr := hc.rel
 have hmu : ∀ x k, At S'.H S'.O M x k -> At S.H S.O M x k := by
  intro x k hx
  cases x with
  | inl b => obtain ⟨⟨B, hB⟩, hk⟩ := hx; obtain ⟨l, h1, _⟩ := h.H b B hB; exact ⟨⟨_, h1⟩, hk⟩
  | inr b => obtain ⟨⟨B, hB⟩, hk⟩ := hx; obtain ⟨l, h1, _⟩ := h.O b B hB; exact ⟨⟨_, h1⟩, hk⟩
 let fz : Nat -> Prop := fun k => (∃ x, At S'.H S'.O M x k /\ ¬ Liv S'.H S'.O x) /\ ∃ x, At S.H S.O M x k /\ Liv S.H S.O x
 let M' : Mp := { M with ok := fun k => M.ok k \/ fz k }
 have hfz : ∀ k, fz k -> Own S M k := fun k hk => .inl hk.2
 have hat : ∀ (H : List (Nat × Blk)) (O : List (Nat × Row)) x k, At H O M' x k ↔ At H O M x k := fun H O x k => by cases x <;> exact Iff.rfl
 have hlive : ∀ x, Liv S'.H S'.O x -> Liv S.H S.O x := by
  intro x hx
  cases x with
  | inl b => obtain ⟨B, hB, hl⟩ := hx; obtain ⟨l, h1, h2⟩ := h.H b B hB; exact ⟨_, h1, h2 hl⟩
  | inr b => obtain ⟨B, hB, hl⟩ := hx; obtain ⟨l, h1, h2⟩ := h.O b B hB; exact ⟨_, h1, h2 hl⟩
 have hown : ∀ k, Own S' M' k -> Own S M k := by
  rintro k (⟨x, hx, hl⟩ | hd)
  ·exact .inl ⟨x, hmu x k ((hat _ _ x k).1 hx), hlive x hl⟩
  ·exact .inr hd
 have hmono : ∀ {c v}, RdA w M.ok M.μ M.ν E.l c v -> RdA w M'.ok M'.μ M'.ν E.l c v := fun hv => hv.mono (fun k x => .inl x) (fun _ _ => rfl) (fun _ _ => rfl) (fun _ _ => rfl)
 refine ⟨M', ⟨⟨hr.lo, hr.size.trans h.n.symm, ?_, ⟨?_, ?_, ?_⟩, ?_, hr.dfr, ?_, hr.dsN⟩, hc.j, ?_, fun k hk => hc.own k (hown k hk), ?_, hc.bDom⟩, ⟨rfl, rfl, rfl, Nat.le_refl _, fun _ _ _ _ => rfl, fun k _ hk => hown k hk, fun k x => .inl x, ?_, fun _ _ x => x, h.low, fun _ _ => rfl, fun _ _ x => .inl x, fun _ _ => rfl⟩⟩
 ·intro t c ht
  obtain ⟨v, h2, h3⟩ := hr.tmp t c (h.T t c ht)
  exact ⟨v, h2, hmono h3⟩
 ·intro b B hB
  obtain ⟨l, h1, h2⟩ := h.H b B hB
  obtain ⟨k, vs, e1, e2, e3, e4, e5, e6, e7, e8⟩ := hr.heap.blk b _ h1
  refine ⟨k, vs, e1, e2, e3, e4, fun i c v hi hv => hmono (e5 i c v hi hv), e6, ?_, ?_⟩
  ·rintro hl (hk | ⟨⟨x, hx, hnl⟩, _⟩)
   ·exact e7 (h2 hl) hk
   ·have : x = .inl b := hr.heap.inj x (.inl b) k (hmu x k hx) ⟨⟨_, h1⟩, e1⟩
    subst this; exact hnl ⟨B, hB, hl⟩
  ·intro hl
   cases l with
   | false => exact .inl (e8 rfl)
   | true => exact .inr ⟨⟨.inl b, ⟨⟨B, hB⟩, e1⟩, fun ⟨B2, hB2, hl2⟩ => by rw [hB] at hB2; cases hB2; rw [hl] at hl2; cases hl2⟩, .inl b, ⟨⟨_, h1⟩, e1⟩, ⟨_, h1, rfl⟩⟩
 ·intro b R hR
  obtain ⟨l, h1, h2⟩ := h.O b R hR
  obtain ⟨v, flat, e1, e2, e3, e4, e5⟩ := hr.heap.row b _ h1
  refine ⟨v, flat, e1, e2, e3.mono (fun k x => .inl x) (fun _ _ => rfl), e4, fun k hk => ⟨?_, ?_⟩⟩
  ·rintro hl (hk' | ⟨⟨x, hx, hnl⟩, _⟩)
   ·exact (e5 k hk).1 (h2 hl) hk'
   ·have : x = .inr b := hr.heap.inj x (.inr b) k (hmu x k hx) ⟨⟨_, h1⟩, v, e1, hk⟩
    subst this; exact hnl ⟨R, hR, hl⟩
  ·intro hl
   cases l with
   | false => exact .inl ((e5 k hk).2 rfl)
   | true => exact .inr ⟨⟨.inr b, ⟨⟨R, hR⟩, v, e1, hk⟩, fun ⟨B2, hB2, hl2⟩ => by rw [hR] at hB2; cases hB2; rw [hl] at hl2; cases hl2⟩, .inr b, ⟨⟨_, h1⟩, v, e1, hk⟩, ⟨_, h1, rfl⟩⟩
 ·intro x y k hx hy
  exact hr.heap.inj x y k (hmu x k ((hat _ _ x k).1 hx)) (hmu y k ((hat _ _ y k).1 hy))
 ·rintro k (hk | hk)
  ·exact hr.okLt k hk
  ·obtain ⟨x, hx, _⟩ := hk.2; exact (hr.heap.at_lt hx).2.1
 ·intro D hD
  obtain ⟨h1, h2, h3⟩ := hr.dsOk D hD
  refine ⟨h1, h2, ?_⟩
  rintro (hk | hk)
  ·exact h3 hk
  ·obtain ⟨x, hx, _⟩ := hk.2
   obtain ⟨_, _, ob, he, ho⟩ := hr.heap.at_lt hx
   rw [h2] at he; cases he; cases ho
 ·rintro k (hk | hk)
  ·exact hc.okLv k hk
  ·exact (hc.own k (hfz k hk)).1
 ·rintro k (hk | hk)
  ·exact hc.okDom k hk
  ·obtain ⟨x, hx, _⟩ := hk.2; exact hc.bDom k (hr.heap.at_lt hx).1
 ·rintro k _ (hk | hk)
  ·exact .inl hk
  ·exact .inr (hfz k hk)
end Go.Proofs.Ytfilnnbfppokmaa.Aw
namespace Go.Proofs.Ytfilnnbfppokmaa.Aw
open Go Go.RowKit
variable {P : Program} {E : Env P} {base : Nat} {r : Option Nat}
structure Sg where
 res : AV
 nh : List (Nat × Blk)
 no : List (Nat × Row)
 run : Bool
def dstAt (ops : Array Oper) (i : Nat) : Option Nat := (ops[i]?).bind (·.dst)
def segS (ops : Array Oper) (X : Nat -> Bool) : Nat -> List Sg -> St -> St
 | _, [], S => S
 | i, g :: rest, S => segS ops X (i + 1) rest (if X i then S.add (dstAt ops i) g.res g.nh g.no else S)
structure Leq (S S' : St) : Prop where
 n : S'.n = S.n
 low : S'.low = S.low
 T : ∀ t, look S'.T t = look S.T t
 H : ∀ b, look S'.H b = look S.H b
 O : ∀ b, look S'.O b = look S.O b
theorem Leq.refl (S : St) : Leq S S := ⟨rfl, rfl, fun _ => rfl, fun _ => rfl, fun _ => rfl⟩
theorem Leq.symm {S S' : St} (h : Leq S S') : Leq S' S := ⟨h.n.symm, h.low.symm, fun t => (h.T t).symm, fun t => (h.H t).symm, fun t => (h.O t).symm⟩
theorem Leq.trans {S S' S'' : St} (h : Leq S S') (k : Leq S' S'') : Leq S S'' := ⟨k.n.trans h.n, k.low.trans h.low, fun t => (k.T t).trans (h.T t), fun t => (k.H t).trans (h.H t), fun t => (k.O t).trans (h.O t)⟩
theorem Leq.less {S S' : St} (h : Leq S S') : Less S S' :=
 ⟨h.n, Nat.le_of_eq h.low.symm, fun t c hc => (h.T t) ▸ hc, fun b B hB => ⟨B.live, (h.H b) ▸ hB, fun x => x⟩, fun b B hB => ⟨B.live, (h.O b) ▸ hB, fun x => x⟩⟩
theorem Leq.add {S S' : St} (h : Leq S S') (dst : Option Nat) (res : AV) (nh : List (Nat × Blk)) (no : List (Nat × Row)) : Leq (S.add dst res nh no) (S'.add dst res nh no) := by
 refine ⟨h.n, h.low, fun t => ?_, fun b => ?_, fun b => ?_⟩
 ·cases dst with
  | none => exact h.T t
  | some t' => simp only [St.add, look]; rw [h.T t]
 ·simp only [St.add]; rw [look_append, look_append, h.H b]
 ·simp only [St.add]; rw [look_append, look_append, h.O b]
theorem segS_leq {ops : Array Oper} {X : Nat -> Bool} : ∀ (l : List Sg) (i : Nat) {S S' : St}, Leq S S' -> Leq (segS ops X i l S) (segS ops X i l S')
 | [], _, _, _, h => h
 | g :: rest, i, S, S', h => by
  simp only [segS]
  refine segS_leq rest (i + 1) ?_
  cases X i with
  | true => exact h.add _ _ _ _
  | false => exact h
theorem segS_congr {ops : Array Oper} {X Y : Nat -> Bool} : ∀ (l : List Sg) (i : Nat) (S : St), (∀ j, i <= j -> j < i + l.length -> X j = Y j) -> segS ops X i l S = segS ops Y i l S
 | [], _, _, _ => rfl
 | g :: rest, i, S, h => by
  simp only [segS]
  rw [h i (Nat.le_refl _) (by simp)]
  exact segS_congr rest (i + 1) _ (fun j h1 h2 => h j (by omega) (by simp; omega))
theorem look_comm {α : Type} {l m r : List (Nat × α)} (h : ∀ b, b ∈ keys l -> b ∉ keys m) (b : Nat) : look (l ++ (m ++ r)) b = look (m ++ (l ++ r)) b := by
 simp only [look_append]
 cases h1 : look l b with
 | none => simp
 | some v => rw [look_none_of_key (h b (look_key h1))]; simp
theorem add_comm {S : St} {d d' : Option Nat} {res res' : AV} {nh nh' : List (Nat × Blk)} {no no' : List (Nat × Row)} (hd : ∀ t, d = some t -> d' ≠ some t) (h1 : ∀ b, b ∈ keys nh -> b ∉ keys nh') (h2 : ∀ b, b ∈ keys no -> b ∉ keys no') :
  Leq ((S.add d res nh no).add d' res' nh' no') ((S.add d' res' nh' no').add d res nh no) := by
 refine ⟨rfl, rfl, fun t => ?_, fun b => ?_, fun b => ?_⟩
 ·cases d with
  | none => rfl
  | some t1 =>
   cases d' with
   | none => rfl
   | some t2 =>
    have hne : t1 ≠ t2 := fun e => hd t1 rfl (by rw [e])
    simp only [St.add, look]
    by_cases e1 : t1 = t
    ·have : ¬ t2 = t := fun e => hne (e1.trans e.symm)
     simp [e1, this]
    ·simp [e1]
 ·simp only [St.add]; exact look_comm h1 b
 ·simp only [St.add]; exact look_comm h2 b
theorem segS_late {ops : Array Oper} {X : Nat -> Bool} {d : Option Nat} {res : AV} {nh : List (Nat × Blk)} {no : List (Nat × Row)} : ∀ (l : List Sg) (i : Nat) (S : St),
  (∀ (j : Nat) (g : Sg), l[j]? = some g -> X (i + j) = true -> (∀ t, d = some t -> dstAt ops (i + j) ≠ some t) /\ (∀ b, b ∈ keys nh -> b ∉ keys g.nh) /\ (∀ b, b ∈ keys no -> b ∉ keys g.no)) ->
  Leq ((segS ops X i l S).add d res nh no) (segS ops X i l (S.add d res nh no))
 | [], _, _, _ => Leq.refl _
 | g :: rest, i, S, h => by
  simp only [segS]
  have hr : ∀ (j : Nat) (g : Sg), rest[j]? = some g -> X (i + 1 + j) = true -> (∀ t, d = some t -> dstAt ops (i + 1 + j) ≠ some t) /\ (∀ b, b ∈ keys nh -> b ∉ keys g.nh) /\ (∀ b, b ∈ keys no -> b ∉ keys g.no) :=
   fun j g hg hX => by have := h (j + 1) g (by simpa using hg) (by rw [show i + (j + 1) = i + 1 + j from by omega]; exact hX); rwa [show i + (j + 1) = i + 1 + j from by omega] at this
  cases hX : X i with
  | false => exact segS_late rest (i + 1) S hr
  | true =>
   obtain ⟨h1, h2, h3⟩ := h 0 g rfl hX
   exact (segS_late rest (i + 1) (S.add (dstAt ops i) g.res g.nh g.no) hr).trans (segS_leq rest (i + 1) (add_comm (fun t e e' => h1 t e' e) (fun b hb hh => h2 b hh hb) (fun b hb hh => h3 b hh hb)))
theorem segS_split {ops : Array Oper} {X : Nat -> Bool} : ∀ (l1 l2 : List Sg) (i : Nat) (S : St), segS ops X i (l1 ++ l2) S = segS ops X (i + l1.length) l2 (segS ops X i l1 S)
 | [], _, _, _ => rfl
 | g :: r, l2, i, S => by
  simp only [List.cons_append, segS, List.length_cons]
  rw [segS_split r l2 (i + 1), show i + 1 + r.length = i + (r.length + 1) from by omega]
theorem segS_more {ops : Array Oper} {X : Nat -> Bool} {l : List Sg} {m p : Nat} {g : Sg} {S : St} (hp : l[p]? = some g) (hX : X (m + p) = false)
  (h : ∀ (j : Nat) (g' : Sg), l[j]? = some g' -> p < j -> X (m + j) = true -> (∀ t, dstAt ops (m + p) = some t -> dstAt ops (m + j) ≠ some t) /\ (∀ b, b ∈ keys g.nh -> b ∉ keys g'.nh) /\ (∀ b, b ∈ keys g.no -> b ∉ keys g'.no)) :
  Leq ((segS ops X m l S).add (dstAt ops (m + p)) g.res g.nh g.no) (segS ops (fun j => X j || j == m + p) m l S) := by
 have hlt : p < l.length := (List.getElem?_eq_some_iff.1 hp).1
 have hg : l[p] = g := (List.getElem?_eq_some_iff.1 hp).2
 have hl : l = l.take p ++ g :: l.drop (p + 1) := by rw [<- hg, List.getElem_cons_drop, List.take_append_drop]
 have hlen : (l.take p).length = p := by simp; omega
 have e1 : ∀ Y : Nat -> Bool, segS ops Y m l S = segS ops Y (m + p) (g :: l.drop (p + 1)) (segS ops Y m (l.take p) S) := fun Y => by
  conv => lhs; rw [hl]
  rw [segS_split, hlen]
 rw [e1 X, e1 (fun j => X j || j == m + p)]
 rw [segS_congr (X := fun j => X j || j == m + p) (Y := X) (l.take p) m S (fun j h1 h2 => by
  have : ¬ j = m + p := by rw [hlen] at h2; omega
  simp [this])]
 simp only [segS, hX, Bool.false_eq_true, if_false, beq_self_eq_true, Bool.or_true, if_true]
 rw [segS_congr (X := fun j => X j || j == m + p) (Y := X) (l.drop (p + 1)) (m + p + 1) _ (fun j h1 h2 => by
  have : ¬ j = m + p := by omega
  simp [this])]
 refine segS_late _ _ _ (fun j g' hg' hXj => ?_)
 have hg2 : l[p + 1 + j]? = some g' := by rw [List.getElem?_drop] at hg'; exact hg'
 have := h (p + 1 + j) g' hg2 (by omega) (by rw [show m + (p + 1 + j) = m + p + 1 + j from by omega]; exact hXj)
 rwa [show m + (p + 1 + j) = m + p + 1 + j from by omega] at this
theorem segS_look {ops : Array Oper} {X Y : Nat -> Bool} {t : Nat} : ∀ (l : List Sg) (i : Nat) (S S' : St), look S.T t = look S'.T t ->
  (∀ (j : Nat) (g : Sg), l[j]? = some g -> dstAt ops (i + j) = some t -> X (i + j) = Y (i + j)) -> look (segS ops X i l S).T t = look (segS ops Y i l S').T t
 | [], _, _, _, h, _ => h
 | g :: rest, i, S, S', h, hx => by
  simp only [segS]
  refine segS_look rest (i + 1) _ _ ?_ (fun j g hg hd => by have := hx (j + 1) g (by simpa using hg); rw [show i + (j + 1) = i + 1 + j from by omega] at this; exact this hd)
  have h0 := hx 0 g rfl
  rw [Nat.add_zero] at h0
  cases hd : dstAt ops i with
  | none => cases X i <;> cases Y i <;> simp [St.add, h]
  | some t' =>
   by_cases e : t' = t
   ·subst e
    rw [h0 hd]
    cases Y i <;> simp [St.add, look, h]
   ·cases X i <;> cases Y i <;> simp [St.add, look, e, h]
def dis (K K' : List Nat) : List Sg -> Bool
 | [] => true
 | g :: rest => (keys g.nh).all (fun b => !memN b K) && (keys g.no).all (fun b => !memN b K') && dis (keys g.nh ++ K) (keys g.no ++ K') rest
theorem keys_append {α : Type} (l m : List (Nat × α)) : keys (l ++ m) = keys l ++ keys m := by
 induction l with
 | nil => rfl
 | cons p r ih => simp [keys, ih]
theorem segS_lookH {ops : Array Oper} {X Y : Nat -> Bool} : ∀ (l : List Sg) (i : Nat) (S S' : St) (K K' : List Nat), (∀ b B, look S.H b = some B -> look S'.H b = some B) -> (∀ b R, look S.O b = some R -> look S'.O b = some R) ->
  (∀ b ∈ keys S.H, b ∈ K) -> (∀ b ∈ keys S.O, b ∈ K') -> dis K K' l = true -> (∀ j, X j = true -> Y j = true) ->
  (∀ b B, look (segS ops X i l S).H b = some B -> look (segS ops Y i l S').H b = some B) /\ (∀ b R, look (segS ops X i l S).O b = some R -> look (segS ops Y i l S').O b = some R)
 | [], _, _, _, _, _, h1, h2, _, _, _, _ => ⟨h1, h2⟩
 | g :: rest, i, S, S', K, K', h1, h2, k1, k2, hd, hxy => by
  simp only [segS]
  simp only [dis, Bool.and_eq_true, List.all_eq_true, Bool.not_eq_true'] at hd
  obtain ⟨⟨d1, d2⟩, d3⟩ := hd
  have n1 : ∀ b ∈ keys g.nh, b ∉ keys S.H := fun b hb hh => by have := d1 b hb; rw [memN_iff.2 (k1 b hh)] at this; cases this
  have n2 : ∀ b ∈ keys g.no, b ∉ keys S.O := fun b hb hh => by have := d2 b hb; rw [memN_iff.2 (k2 b hh)] at this; cases this
  refine segS_lookH rest (i + 1) _ _ (keys g.nh ++ K) (keys g.no ++ K') ?_ ?_ ?_ ?_ d3 hxy
  ·intro b B hB
   cases hX : X i with
   | true =>
    rw [hX] at hB; rw [hxy i hX]
    simp only [if_true, St.add] at hB ⊢
    rw [look_append] at hB ⊢
    cases hh : look g.nh b with
    | some B' => rw [hh] at hB; exact hB
    | none => rw [hh, Option.none_or] at hB; rw [Option.none_or]; exact h1 b B hB
   | false =>
    rw [hX] at hB
    simp only [Bool.false_eq_true, if_false] at hB
    cases hY : Y i with
    | false => simp only [Bool.false_eq_true, if_false]; exact h1 b B hB
    | true =>
     simp only [if_true, St.add]
     rw [look_append, look_none_of_key (fun hb => n1 b hb (look_key hB)), Option.none_or]
     exact h1 b B hB
  ·intro b B hB
   cases hX : X i with
   | true =>
    rw [hX] at hB; rw [hxy i hX]
    simp only [if_true, St.add] at hB ⊢
    rw [look_append] at hB ⊢
    cases hh : look g.no b with
    | some B' => rw [hh] at hB; exact hB
    | none => rw [hh, Option.none_or] at hB; rw [Option.none_or]; exact h2 b B hB
   | false =>
    rw [hX] at hB
    simp only [Bool.false_eq_true, if_false] at hB
    cases hY : Y i with
    | false => simp only [Bool.false_eq_true, if_false]; exact h2 b B hB
    | true =>
     simp only [if_true, St.add]
     rw [look_append, look_none_of_key (fun hb => n2 b hb (look_key hB)), Option.none_or]
     exact h2 b B hB
  ·intro b hb
   cases hX : X i with
   | true => rw [hX] at hb; simp only [if_true, St.add, keys_append, List.mem_append] at hb ⊢; exact hb.imp id (k1 b)
   | false => rw [hX] at hb; simp only [Bool.false_eq_true, if_false] at hb; exact List.mem_append_right _ (k1 b hb)
  ·intro b hb
   cases hX : X i with
   | true => rw [hX] at hb; simp only [if_true, St.add, keys_append, List.mem_append] at hb ⊢; exact hb.imp id (k2 b)
   | false => rw [hX] at hb; simp only [Bool.false_eq_true, if_false] at hb; exact List.mem_append_right _ (k2 b hb)
theorem segS_n {ops : Array Oper} {X : Nat -> Bool} : ∀ (l : List Sg) (i : Nat) (S : St), (segS ops X i l S).n = S.n
 | [], _, _ => rfl
 | g :: rest, i, S => by
  simp only [segS]
  rw [segS_n rest]
  cases X i <;> rfl
theorem segS_low {ops : Array Oper} {X : Nat -> Bool} : ∀ (l : List Sg) (i : Nat) (S : St), (segS ops X i l S).low = S.low
 | [], _, _ => rfl
 | g :: rest, i, S => by
  simp only [segS]
  rw [segS_low rest]
  cases X i <;> rfl
def sgBox (b : Nat) (g : Sg) : Bool := g.res.box b || memN b (keys g.nh) || g.nh.any (fun p => p.2.cells.any fun c => c.box b)
def sgRow (b : Nat) (g : Sg) : Bool := g.res.hasRow b || memN b (keys g.no) || g.nh.any (fun p => p.2.cells.any fun c => c.hasRow b)
theorem usesBox_add {S : St} {d : Option Nat} {g : Sg} {b : Nat} (h : usesBox S b = false) (hg : sgBox b g = false) : usesBox (S.add d g.res g.nh g.no) b = false := by
 simp only [usesBox, sgBox, Bool.or_eq_false_iff] at h hg ⊢
 obtain ⟨⟨h1, h2⟩, h3⟩ := h
 obtain ⟨⟨g1, g2⟩, g3⟩ := hg
 refine ⟨⟨?_, ?_⟩, ?_⟩
 ·simp only [St.add, keys_append]
  cases hh : memN b (keys g.nh ++ keys S.H) with
  | false => rfl
  | true =>
   rw [memN_iff, List.mem_append] at hh
   rcases hh with hh | hh
   ·rw [memN_iff.2 hh] at g2; cases g2
   ·rw [memN_iff.2 hh] at h1; cases h1
 ·cases d with
  | none => exact h2
  | some t => simp only [St.add, List.any_cons, g1, h2, Bool.or_self]
 ·simp only [St.add, List.any_append, g3, h3, Bool.or_self]
theorem usesRow_add {S : St} {d : Option Nat} {g : Sg} {b : Nat} (h : usesRow S b = false) (hg : sgRow b g = false) : usesRow (S.add d g.res g.nh g.no) b = false := by
 simp only [usesRow, sgRow, Bool.or_eq_false_iff] at h hg ⊢
 obtain ⟨⟨h1, h2⟩, h3⟩ := h
 obtain ⟨⟨g1, g2⟩, g3⟩ := hg
 refine ⟨⟨?_, ?_⟩, ?_⟩
 ·simp only [St.add, keys_append]
  cases hh : memN b (keys g.no ++ keys S.O) with
  | false => rfl
  | true =>
   rw [memN_iff, List.mem_append] at hh
   rcases hh with hh | hh
   ·rw [memN_iff.2 hh] at g2; cases g2
   ·rw [memN_iff.2 hh] at h1; cases h1
 ·cases d with
  | none => exact h2
  | some t => simp only [St.add, List.any_cons, g1, h2, Bool.or_self]
 ·simp only [St.add, List.any_append, g3, h3, Bool.or_self]
theorem segS_uses {ops : Array Oper} {X : Nat -> Bool} {b : Nat} : ∀ (l : List Sg) (i : Nat) (S : St), usesBox S b = false -> (∀ (j : Nat) (g : Sg), l[j]? = some g -> X (i + j) = true -> sgBox b g = false) -> usesBox (segS ops X i l S) b = false
 | [], _, _, h, _ => h
 | g :: rest, i, S, h, hx => by
  simp only [segS]
  refine segS_uses rest (i + 1) _ ?_ (fun j g hg hX => hx (j + 1) g (by simpa using hg) (by rw [show i + (j + 1) = i + 1 + j from by omega]; exact hX))
  cases hX : X i with
  | false => exact h
  | true => exact usesBox_add h (hx 0 g rfl hX)
theorem segS_usesRow {ops : Array Oper} {X : Nat -> Bool} {b : Nat} : ∀ (l : List Sg) (i : Nat) (S : St), usesRow S b = false -> (∀ (j : Nat) (g : Sg), l[j]? = some g -> X (i + j) = true -> sgRow b g = false) -> usesRow (segS ops X i l S) b = false
 | [], _, _, h, _ => h
 | g :: rest, i, S, h, hx => by
  simp only [segS]
  refine segS_usesRow rest (i + 1) _ ?_ (fun j g hg hX => hx (j + 1) g (by simpa using hg) (by rw [show i + (j + 1) = i + 1 + j from by omega]; exact hX))
  cases hX : X i with
  | false => exact h
  | true => exact usesRow_add h (hx 0 g rfl hX)
end Go.Proofs.Ytfilnnbfppokmaa.Aw
namespace Go.Proofs.Ytfilnnbfppokmaa.Aw
open Go Go.RowKit
variable {P : Program} {E : Env P} {base : Nat} {r : Option Nat}
structure Sub (S S' : St) : Prop where
 n : S'.n = S.n
 T : ∀ t c, look S'.T t = some c -> look S.T t = some c
 H : ∀ b B, look S'.H b = some B -> look S.H b = some B
 O : ∀ b R, look S'.O b = some R -> look S.O b = some R
theorem Sub.at {S S' : St} (h : Sub S S') {M : Mp} {x : Nat ⊕ Nat} {k : Nat} (hx : At S'.H S'.O M x k) : At S.H S.O M x k := by
 cases x with
 | inl b => obtain ⟨⟨B, hB⟩, hk⟩ := hx; exact ⟨⟨B, h.H b B hB⟩, hk⟩
 | inr b => obtain ⟨⟨B, hB⟩, hk⟩ := hx; exact ⟨⟨B, h.O b B hB⟩, hk⟩
theorem Rel.sub {S S' : St} {M : Mp} {yl : Nat} {a : Act} {w : World} (h : Rel base S M yl a w) (hs : Sub S S') : Rel base S' M yl a w :=
 ⟨h.lo, h.size.trans hs.n.symm, fun t c ht => h.tmp t c (hs.T t c ht), ⟨fun b B hB => h.heap.blk b B (hs.H b B hB), fun b B hB => h.heap.row b B (hs.O b B hB), fun x y k hx hy => h.heap.inj x y k (hs.at hx) (hs.at hy)⟩, h.okLt, h.dfr, h.dsOk, h.dsN⟩
theorem Leq.sub {S S' : St} (h : Leq S S') : Sub S S' := ⟨h.n, fun t c x => (h.T t) ▸ x, fun t c x => (h.H t) ▸ x, fun t c x => (h.O t) ▸ x⟩
theorem Leq.own {S S' : St} (h : Leq S S') {M : Mp} {k : Nat} (hk : Own S' M k) : Own S M k := by
 rcases hk with ⟨x, hx, hl⟩ | hd
 ·refine .inl ⟨x, h.sub.at hx, ?_⟩
  cases x with
  | inl b => obtain ⟨B, hB, hl⟩ := hl; exact ⟨B, (h.H b) ▸ hB, hl⟩
  | inr b => obtain ⟨B, hB, hl⟩ := hl; exact ⟨B, (h.O b) ▸ hB, hl⟩
 ·exact .inr hd
theorem Cfg.leq {S S' : St} {s : E.σ} {M : Mp} {a : Act} {w : World} (h : Cfg E base S s M a w) (hl : Leq S S') : Cfg E base S' s M a w :=
 ⟨h.rel.sub hl.sub, h.j, h.okLv, fun k hk => h.own k (hl.own hk), h.okDom, h.bDom⟩
theorem Leq.ext {S S' : St} (h : Leq S S') (M : Mp) (w : World) : Ext S M w S' M w :=
 ⟨rfl, rfl, rfl, Nat.le_refl _, fun _ _ _ _ => rfl, fun _ _ hk => h.own hk, fun _ x => x, fun _ _ x => .inl x, fun _ _ x => x, Nat.le_of_eq h.low.symm, fun _ _ => rfl, fun _ _ x => .inl x, fun _ _ => rfl⟩
inductive Dep (ops : Array Oper) : Nat -> Nat -> Prop
 | one {i o e} (ho : ops[i]? = some o) (he : e ∈ o.after) (hb : Region.binds .any e = true) : Dep ops i e.on
 | step {i o e k} (ho : ops[i]? = some o) (he : e ∈ o.after) (hb : Region.binds .any e = true) (h : Dep ops e.on k) : Dep ops i k
def bitsU (B : List Nat) (l : List Edge) (s : Nat) : Nat := l.foldl (fun s e => if Region.binds .any e then s ||| 2 ^ e.on ||| B.getD e.on 0 else s) s
def depOk (ops : Array Oper) (B : List Nat) : Bool := (List.range ops.size).all fun i => match ops[i]? with
 | some o => (o.after.toList.all fun e => !Region.binds .any e || Nat.blt e.on i) && (B.getD i 0 ||| bitsU B o.after.toList 0) == bitsU B o.after.toList 0
 | none => true
theorem bitsU_spec {B : List Nat} {k : Nat} : ∀ (l : List Edge) (s : Nat), (bitsU B l s).testBit k = true -> s.testBit k = true \/ ∃ e ∈ l, Region.binds .any e = true /\ (e.on = k \/ (B.getD e.on 0).testBit k = true)
 | [], s, h => .inl h
 | e :: rest, s, h => by
  have h' := bitsU_spec rest _ (show (bitsU B rest (if Region.binds .any e then s ||| 2 ^ e.on ||| B.getD e.on 0 else s)).testBit k = true from h)
  rcases h' with h' | ⟨e', he', hb, hk⟩
  ·cases hb : Region.binds .any e with
   | false => rw [hb] at h'; exact .inl h'
   | true =>
    rw [hb] at h'
    simp only [if_true, Nat.testBit_or, Bool.or_eq_true] at h'
    rcases h' with (h' | h') | h'
    ·exact .inl h'
    ·rw [Nat.testBit_two_pow] at h'; exact .inr ⟨e, by simp, hb, .inl (by simpa using h')⟩
    ·exact .inr ⟨e, by simp, hb, .inr h'⟩
  ·exact .inr ⟨e', List.mem_cons_of_mem _ he', hb, hk⟩
theorem depOk_edge {ops : Array Oper} {B : List Nat} (h : depOk ops B = true) {i : Nat} {o : Oper} (ho : ops[i]? = some o) {e : Edge} (he : e ∈ o.after) (hb : Region.binds .any e = true) : e.on < i := by
 have hi := (Array.getElem?_eq_some_iff.1 ho).1
 simp only [depOk, List.all_eq_true, List.mem_range] at h
 have := h i hi
 rw [ho] at this
 simp only [Bool.and_eq_true, List.all_eq_true] at this
 have := this.1 e (by simpa using he)
 rw [hb] at this
 simpa using this
theorem depOk_sound {ops : Array Oper} {B : List Nat} (h : depOk ops B = true) : ∀ (i : Nat), i < ops.size -> ∀ k, (B.getD i 0).testBit k = true -> Dep ops i k := by
 intro i
 induction i using Nat.strongRecOn with
 | _ i ih =>
  intro hi k hk
  obtain ⟨o, ho⟩ : ∃ o, ops[i]? = some o := ⟨ops[i], by simp [hi]⟩
  have h0 := h
  simp only [depOk, List.all_eq_true, List.mem_range] at h0
  have h1 := h0 i hi
  rw [ho] at h1
  simp only [Bool.and_eq_true, beq_iff_eq] at h1
  have h2 : (bitsU B o.after.toList 0).testBit k = true := by rw [<- h1.2, Nat.testBit_or, hk, Bool.true_or]
  rcases bitsU_spec _ _ h2 with h3 | ⟨e, he, hb, hk'⟩
  ·simp at h3
  ·have he' : e ∈ o.after := by simpa using he
   have hlt := depOk_edge h ho he' hb
   rcases hk' with rfl | hk'
   ·exact .one ho he' hb
   ·exact .step ho he' hb (ih e.on hlt (by omega) k hk')
theorem Dep.lt {ops : Array Oper} {B : List Nat} (h : depOk ops B = true) {i k : Nat} (hd : Dep ops i k) : k < i := by
 induction hd with
 | one ho he hb => exact depOk_edge h ho he hb
 | step ho he hb _ ih => exact Nat.lt_trans ih (depOk_edge h ho he hb)
def tmpOf : Operand -> Option Nat
 | .tmp t => some t
 | _ => none
def gdst (ops : Array Oper) (o : Oper) : List Nat := match o.guard with
 | some (j, _) => (dstAt ops j).toList
 | none => []
def names (ops : Array Oper) (o : Oper) : List Nat := o.op.operands.toList.filterMap tmpOf ++ gdst ops o
def restr (S : St) (l : List Nat) : St := { S with T := S.T.filter fun p => memN p.1 l }
theorem look_filter {α : Type} {f : Nat -> Bool} {l : List (Nat × α)} {t : Nat} : look (l.filter fun p => f p.1) t = if f t then look l t else none := by
 induction l with
 | nil => simp [look]
 | cons p r ih =>
  obtain ⟨k, v⟩ := p
  simp only [List.filter_cons]
  by_cases hk : k = t
  ·subst hk
   cases hf : f k with
   | true => simp [look]
   | false => simp [look, ih, hf]
  ·cases hf : f k with
   | true => simp [look, ih, hk]
   | false => simp [look, ih, hk]
def preS (ops : Array Oper) (B : List Nat) (m : Nat) (L : List Sg) (S : St) (i : Nat) (o : Oper) : St := restr (segS ops (fun j => (B.getD i 0).testBit j) m L S) (names ops o)
def apartB (ops : Array Oper) (B : List Nat) (m cnt : Nat) : Bool := (List.range cnt).all fun i => (List.range cnt).all fun j => i == j || (match ops[m + i]?, dstAt ops (m + j) with
  | some o, some t => !(memN t (names ops o) || o.dst == some t)
  | _, _ => true) || (B.getD (m + i) 0).testBit (m + j) || (B.getD (m + j) 0).testBit (m + i)
def laterB (ops : Array Oper) (B : List Nat) (m cnt : Nat) : Bool := (List.range ops.size).all fun j => Nat.blt j (m + cnt) || (List.range cnt).all fun i => (B.getD j 0).testBit (m + i)
def freshL (ops : Array Oper) (B : List Nat) (m : Nat) (L : List Sg) (S : St) : Bool := (List.range L.length).all fun i => match L[i]? with
 | some g => freshB S g.nh g.no && (List.range L.length).all fun j => i == j || (B.getD (m + j) 0).testBit (m + i) || (match L[j]? with
  | some g' => (keys g.nh).all (fun b => !sgBox b g') && (keys g.no).all (fun b => !sgRow b g')
  | none => true)
 | none => true
def Obl (P : Program) (ops : Array Oper) (B : List Nat) (m : Nat) (L : List Sg) (S : St) (i : Nat) (g : Sg) : Prop :=
 ∃ o, ops[i]? = some o /\ guardB ops (preS ops B m L S i o).T o = some g.run /\ dstOk S o.dst = true /\
  (g.run = true -> Free P o (preS ops B m L S i o) g.res g.nh g.no) /\ (g.run = false -> g.res = .tup [] /\ g.nh = [] /\ g.no = [])
def Obls (P : Program) (ops : Array Oper) (B : List Nat) (m : Nat) (L : List Sg) (S : St) : Nat -> List Sg -> Prop
 | _, [] => True
 | i, g :: rest => Obl P ops B m L S i g /\ Obls P ops B m L S (i + 1) rest
theorem Obls.get {ops : Array Oper} {B : List Nat} {m : Nat} {L : List Sg} {S : St} : ∀ {l : List Sg} {i : Nat}, Obls P ops B m L S i l -> ∀ (p : Nat) (g : Sg), l[p]? = some g -> Obl P ops B m L S (i + p) g
 | [], _, _, p, g, h => by simp at h
 | x :: r, i, ⟨h1, h2⟩, 0, g, h => by simp at h; exact h ▸ h1
 | x :: r, i, ⟨h1, h2⟩, p + 1, g, h => by rw [show i + (p + 1) = i + 1 + p from by omega]; exact Obls.get h2 p g (by simpa using h)
def Pre (ops : Array Oper) (listed : Array Bool) (X : Nat -> Bool) : Prop := listed.size = ops.size /\ ∀ j, j < ops.size -> listed[j]? = some (X j)
def AWN (E : Env P) (base : Nat) (r : Option Nat) (ops : Array Oper) (m : Nat) (S : St) (s : E.σ) (Q : Exit -> St -> E.σ -> Prop) : Prop :=
 ∀ M a w, Cfg E base S s M a w -> ∀ (fuel : Nat) (listed : Array Bool), ops.size <= fuel + m -> Pre ops listed (fun j => Nat.blt j m) ->
  wpAnyIn (FW r) 0 P .any ops (Post E base Q S M w) fuel listed a w
theorem Pre.ready {ops : Array Oper} {listed : Array Bool} {X : Nat -> Bool} (h : Pre ops listed X) {i : Nat} : i ∈ Region.ready .any ops listed ↔
  X i = false /\ ∃ o, ops[i]? = some o /\ ∀ e ∈ o.after, Region.binds .any e = true -> e.on < ops.size /\ X e.on = true := by
 rw [mem_ready]
 constructor
 ·rintro ⟨h1, o, ho, h2⟩
  have hi := (Array.getElem?_eq_some_iff.1 ho).1
  have hx := h.2 i hi
  refine ⟨?_, o, ho, fun e he hb => ?_⟩
  ·rw [Array.getD_eq_getD_getElem?, hx] at h1; simpa using h1
  ·have := h2 e he hb
   rw [Array.getD_eq_getD_getElem?] at this
   by_cases hlt : e.on < ops.size
   ·rw [h.2 _ hlt] at this; exact ⟨hlt, by simpa using this⟩
   ·rw [Array.getElem?_eq_none (by rw [h.1]; omega)] at this; simp at this
 ·rintro ⟨h1, o, ho, h2⟩
  have hi := (Array.getElem?_eq_some_iff.1 ho).1
  refine ⟨by rw [Array.getD_eq_getD_getElem?, h.2 i hi]; simpa using h1, o, ho, fun e he hb => ?_⟩
  obtain ⟨hlt, hx⟩ := h2 e he hb
  rw [Array.getD_eq_getD_getElem?, h.2 _ hlt]; simpa using hx
theorem Pre.set {ops : Array Oper} {listed : Array Bool} {X : Nat -> Bool} (h : Pre ops listed X) (i : Nat) : Pre ops (listed.setIfInBounds i true) (fun j => X j || j == i) := by
 refine ⟨by rw [Array.size_setIfInBounds]; exact h.1, fun j hj => ?_⟩
 rw [Array.getElem?_setIfInBounds]
 by_cases e : i = j
 ·subst e; simp [h.1, hj]
 ·rw [if_neg e, h.2 j hj]
  have : (j == i) = false := by simp; omega
  simp [this]
theorem wpAnyIn_mono' {ops : Array Oper} {Q Q' : Exit -> Act -> World -> Prop} (hq : ∀ e a w, Q e a w -> Q' e a w) : ∀ (fuel : Nat) (listed : Array Bool) (a : Act) (w : World),
  wpAnyIn (FW r) 0 P .any ops Q fuel listed a w -> wpAnyIn (FW r) 0 P .any ops Q' fuel listed a w := by
 intro fuel
 induction fuel with
 | zero => exact fun listed a w h => ⟨h.1, hq _ _ _ h.2⟩
 | succ fuel ih =>
  intro listed a w h
  refine ⟨fun h0 => hq _ _ _ (h.1 h0), fun i hi => ?_⟩
  have h2 := h.2 i hi
  unfold wpOpIn at h2 ⊢
  cases ho : ops[i]? with
  | none => simp only [ho] at h2 ⊢; exact ih _ _ _ h2
  | some o =>
   simp only [ho] at h2 ⊢
   by_cases hw : Region.wanted o (yielded ops a.tmps) = true
   ·simp only [hw, if_true] at h2 ⊢
    refine ⟨h2.1, ?_⟩
    have h3 := h2.2
    generalize (o.semAt (FW r).round a.eval).run P w = x at h3 ⊢
    have hl : LetsOut Q -> LetsOut Q' := fun ⟨a, w, h⟩ => ⟨a, w, hq _ _ _ h⟩
    cases x with
    | ok x w' =>
     cases x <;> simp only [Oper.uponIn] at h3 ⊢ <;> first
      | exact h3.elim
      | exact ih _ _ _ h3
      | exact ⟨h3.1, CallsIn.mono h3.2 (fun e w'' he => by cases e <;> first | exact ih _ _ _ he | exact hq _ _ _ he | exact hl he)⟩
      | exact ⟨h3.1, RowsIn.mono h3.2 (fun _ _ he => ih _ _ _ he)⟩
      | exact ⟨h3.1, RoundIn.mono h3.2 (fun e w'' he => by cases e <;> first | exact ih _ _ _ he | exact hq _ _ _ he | exact hl he)⟩
    | halt x w' => cases x <;> simp only [Oper.uponIn] at h3 ⊢ <;> first | exact h3.elim | exact hq _ _ _ h3
   ·simp only [hw, if_false, Bool.false_eq_true] at h2 ⊢
    exact ⟨h2.1, ih _ _ _ h2.2⟩
theorem AWN_done {ops : Array Oper} {m : Nat} {S : St} {s : E.σ} {Q : Exit -> St -> E.σ -> Prop} (hm : ops.size <= m) (h : Q .normal S s) : AWN E base r ops m S s Q := by
 intro M a w hc fuel listed _ hp
 refine wpAnyIn_done ?_ ⟨S, s, M, h, hc, Ext.refl _ _ _⟩ fuel
 refine List.eq_nil_iff_forall_not_mem.2 (fun i hi => ?_)
 obtain ⟨h1, o, ho, _⟩ := hp.ready.1 hi
 have := (Array.getElem?_eq_some_iff.1 ho).1
 have : Nat.blt i m = true := by rw [Nat.blt_eq]; omega
 rw [h1] at this; cases this
theorem AW_region_draw {id : Nat} {ops : Array Oper} {S : St} {s : E.σ} {Q : Exit -> St -> E.σ -> Prop} (hm : P.follows .mixedOrders = true) (h : AWN E base r ops 0 S s Q) : AW E base r (.region id ops true) S s Q := by
 intro M a w hc
 have hn : New M E.l w [] [] .any undef M { w with drawn := w.drawn + 1 } := ⟨(Below.refl _ _).drew, rfl, rfl, rfl, fun _ _ => rfl, fun _ _ => rfl, fun _ x => x, fun _ x => .inl x, .any _,
  ⟨fun b B h => (by cases h), fun b B h => (by cases h), fun x y k hx => by cases x <;> (obtain ⟨⟨_, h⟩, _⟩ := hx; cases h)⟩⟩
 obtain ⟨c2, x2⟩ := hc.new (dst := none) hn (fresh_nil S) rfl
 refine wpIn_region_any hm (wpAnyIn_mono' (fun e a w k => k.later x2) _ _ _ _ (h M _ _ c2 ops.size _ (by omega) ⟨by simp, fun j hj => ?_⟩))
 have : Nat.blt j 0 = false := rfl
 simp [hj, this]
end Go.Proofs.Ytfilnnbfppokmaa.Aw
namespace Go.Proofs.Ytfilnnbfppokmaa.Aw
open Go Go.RowKit
variable {P : Program} {E : Env P} {base : Nat} {r : Option Nat}
def missing (X : Nat -> Bool) (m : Nat) : Nat -> Nat
 | 0 => 0
 | n + 1 => missing X m n + (!X (m + n)).toNat
theorem missing_zero {X : Nat -> Bool} {m : Nat} : ∀ {n : Nat}, missing X m n = 0 -> ∀ j, j < n -> X (m + j) = true
 | 0, _, j, hj => by omega
 | n + 1, h, j, hj => by
  simp only [missing] at h
  cases hX : X (m + n) with
  | false => rw [hX] at h; simp at h
  | true =>
   by_cases e : j = n
   ·subst e; exact hX
   ·exact missing_zero (n := n) (by omega) j (by omega)
theorem missing_full {X : Nat -> Bool} {m : Nat} : ∀ {n : Nat}, (∀ j, j < n -> X (m + j) = true) -> missing X m n = 0
 | 0, _ => rfl
 | n + 1, h => by simp only [missing, h n (by omega)]; rw [missing_full (n := n) (fun j hj => h j (by omega))]; rfl
theorem missing_set {X : Nat -> Bool} {m p : Nat} (hX : X (m + p) = false) : ∀ {n : Nat}, p < n -> missing (fun j => X j || j == m + p) m n + 1 = missing X m n
 | 0, h => by omega
 | n + 1, h => by
  simp only [missing]
  by_cases e : p = n
  ·subst e
   have : missing (fun j => X j || j == m + p) m p = missing X m p := by
    clear h
    have aux : ∀ k, k <= p -> missing (fun j => X j || j == m + p) m k = missing X m k := by
     intro k
     induction k with
     | zero => intro _; rfl
     | succ k ih =>
      intro hk
      simp only [missing]
      rw [ih (by omega)]
      have : (m + k == m + p) = false := by simp; omega
      rw [this, Bool.or_false]
    exact aux p (Nat.le_refl _)
   rw [this, hX]; simp
  ·have ih := missing_set hX (n := n) (by omega)
   have : (m + n == m + p) = false := by simp; omega
   rw [this, Bool.or_false]; omega
theorem AWN_seg {ops : Array Oper} {m : Nat} {S : St} {s : E.σ} {Q : Exit -> St -> E.σ -> Prop} (B : List Nat) (L : List Sg) (hB : depOk ops B = true) (hsz : Nat.ble (m + L.length) ops.size = true)
  (hap : apartB ops B m L.length = true) (hla : laterB ops B m L.length = true) (hdis : dis (keys S.H) (keys S.O) L = true) (hfr : freshL ops B m L S = true)
  (hob : Obls P ops B m L S m L) (h : AWN E base r ops (m + L.length) (segS ops (fun _ => true) m L S) s Q) : AWN E base r ops m S s Q := by
 have hsz : m + L.length <= ops.size := Nat.le_of_ble_eq_true hsz
 intro M a w hc fuel listed hfuel hp
 have key : ∀ (c : Nat) (X : Nat -> Bool), missing X m L.length = c -> (∀ j, j < m -> X j = true) -> (∀ j, m + L.length <= j -> X j = false) -> (∀ j k, j < ops.size -> X j = true -> Dep ops j k -> X k = true) ->
   ∀ (fuel : Nat) (listed : Array Bool) (M' : Mp) (a' : Act) (w' : World), ops.size + c <= fuel + (m + L.length) -> Pre ops listed X -> Cfg E base (segS ops X m L S) s M' a' w' -> Ext S M w (segS ops X m L S) M' w' ->
   wpAnyIn (FW r) 0 P .any ops (Post E base Q S M w) fuel listed a' w' := by
  intro c
  induction c with
  | zero =>
   intro X hmis hlo hhi hcl fuel listed M' a' w' hfuel hp hc' hx'
   have hall := missing_zero hmis
   have e : segS ops X m L S = segS ops (fun _ => true) m L S := segS_congr L m S (fun j h1 h2 => by
    have := hall (j - m) (by omega)
    rw [show m + (j - m) = j from by omega] at this
    rw [this])
   rw [e] at hc' hx'
   refine wpAnyIn_mono' (fun e a w k => k.later hx') _ _ _ _ (h M' a' w' hc' fuel listed (by omega) ⟨hp.1, fun j hj => ?_⟩)
   rw [hp.2 j hj]
   congr 1
   by_cases h1 : j < m
   ·rw [hlo j h1]; exact (show Nat.blt j (m + L.length) = true from by rw [Nat.blt_eq]; omega).symm
   ·by_cases h2 : j < m + L.length
    ·have := hall (j - m) (by omega)
     rw [show m + (j - m) = j from by omega] at this
     rw [this]; exact (show Nat.blt j (m + L.length) = true from by rw [Nat.blt_eq]; exact h2).symm
    ·rw [hhi j (by omega)]
     have hb : Nat.blt j (m + L.length) = false := by
      cases hb : Nat.blt j (m + L.length) with
      | false => rfl
      | true => rw [Nat.blt_eq] at hb; exact absurd hb h2
     exact hb.symm
  | succ c ih =>
   intro X hmis hlo hhi hcl fuel listed M' a' w' hfuel hp hc' hx'
   have hmiss : ∃ p, p < L.length /\ X (m + p) = false := by
    apply Classical.byContradiction
    intro hh
    have : missing X m L.length = 0 := missing_full (fun j hj => by
     cases hX : X (m + j) with
     | true => rfl
     | false => exact absurd ⟨j, hj, hX⟩ hh)
    omega
   obtain ⟨p0, ⟨hp0, hX0⟩, hmin⟩ := exists_least (fun p => p < L.length /\ X (m + p) = false) hmiss
   obtain ⟨o0, ho0⟩ : ∃ o, ops[m + p0]? = some o := ⟨ops[m + p0]'(by omega), by simp⟩
   have hready0 : m + p0 ∈ Region.ready .any ops listed := hp.ready.2 ⟨hX0, o0, ho0, fun e he hb => by
    have hlt := depOk_edge hB ho0 he hb
    refine ⟨by omega, ?_⟩
    by_cases h1 : e.on < m
    ·exact hlo _ h1
    ·cases hX : X e.on with
     | true => rfl
     | false =>
      have := hmin (e.on - m) ⟨by omega, by rw [show m + (e.on - m) = e.on from by omega]; exact hX⟩
      omega⟩
   obtain ⟨fuel, rfl⟩ : ∃ f, fuel = f + 1 := ⟨fuel - 1, by omega⟩
   refine ⟨fun h0 => (by rw [h0] at hready0; cases hready0), fun i hi => ?_⟩
   obtain ⟨hXi, o, ho, hdeps⟩ := hp.ready.1 hi
   have hisz := (Array.getElem?_eq_some_iff.1 ho).1
   have hdep : ∀ k, Dep ops i k -> X k = true := by
    intro k hk
    cases hk with
    | one ho' he hb => rw [ho] at ho'; cases ho'; exact (hdeps _ he hb).2
    | step ho' he hb hd => rw [ho] at ho'; cases ho'; exact hcl _ k (hdeps _ he hb).1 (hdeps _ he hb).2 hd
   have him : m <= i := by
    apply Classical.byContradiction; intro hh
    rw [hlo i (by omega)] at hXi; cases hXi
   have hil : i < m + L.length := by
    apply Classical.byContradiction; intro hh
    simp only [laterB, List.all_eq_true, List.mem_range, Bool.or_eq_true] at hla
    rcases hla i hisz with h1 | h1
    ·rw [Nat.blt_eq] at h1; omega
    ·have := hdep _ (depOk_sound hB i hisz _ (h1 p0 hp0))
     rw [hX0] at this; cases this
   obtain ⟨p, rfl⟩ : ∃ p, i = m + p := ⟨i - m, by omega⟩
   have hpl : p < L.length := by omega
   obtain ⟨g, hg⟩ : ∃ g, L[p]? = some g := ⟨L[p], by simp [hpl]⟩
   obtain ⟨o', ho', hgd, hdst, hfree, hskip⟩ := hob.get p g hg
   rw [ho] at ho'; cases ho'
   have hnw : ∀ j, j < ops.size -> X j = true -> (B.getD j 0).testBit (m + p) = false := by
    intro j hj hXj
    cases hb : (B.getD j 0).testBit (m + p) with
    | false => rfl
    | true => have := hcl j _ hj hXj (depOk_sound hB j hj _ hb); rw [hXi] at this; cases this
   have hsub : Sub (segS ops X m L S) (preS ops B m L S (m + p) o) := by
    have hXsub : ∀ j, (B.getD (m + p) 0).testBit j = true -> X j = true := fun j hj => hdep j (depOk_sound hB _ hisz j hj)
    have hHO := segS_lookH (ops := ops) (X := fun j => (B.getD (m + p) 0).testBit j) (Y := X) L m S S (keys S.H) (keys S.O) (fun _ _ x => x) (fun _ _ x => x) (fun _ x => x) (fun _ x => x) hdis hXsub
    refine ⟨by rw [segS_n]; show (segS ops _ m L S).n = S.n; exact segS_n _ _ _, fun t c ht => ?_, hHO.1, hHO.2⟩
    have ht' : look ((segS ops (fun j => (B.getD (m + p) 0).testBit j) m L S).T.filter fun q => memN q.1 (names ops o)) t = some c := ht
    rw [look_filter (f := fun k => memN k (names ops o))] at ht'
    by_cases hn : memN t (names ops o) = true
    ·rw [if_pos hn] at ht'
     rw [<- ht']
     refine segS_look L m S S rfl (fun j g' hg' hd => ?_)
     have hj : j < L.length := (List.getElem?_eq_some_iff.1 hg').1
     cases hXj : X (m + j) with
     | false =>
      cases hb : (B.getD (m + p) 0).testBit (m + j) with
      | false => rfl
      | true => rw [hXsub _ hb] at hXj; cases hXj
     | true =>
      simp only [apartB, List.all_eq_true, List.mem_range, Bool.or_eq_true] at hap
      have := hap p hpl j hj
      rw [ho, hd] at this
      simp only [hn, Bool.true_or, Bool.not_true, Bool.false_eq_true, or_false] at this
      rcases this with (h1 | h1) | h1
      ·have : p = j := by simpa using h1
       subst this; rw [hXi] at hXj; cases hXj
      ·exact h1.symm
      ·rw [hnw (m + j) (by omega) hXj] at h1; cases h1
    ·rw [if_neg hn] at ht'; cases ht'
   have hrel := hc'.rel.sub hsub
   have hfree' : Fresh (segS ops X m L S) g.nh g.no := by
    simp only [freshL, List.all_eq_true, List.mem_range] at hfr
    have h1 := hfr p hpl
    rw [hg] at h1
    simp only [Bool.and_eq_true, List.all_eq_true, List.mem_range, Bool.or_eq_true] at h1
    have h2 := fresh_of h1.1
    have h3 : ∀ (j : Nat) (g' : Sg), L[j]? = some g' -> X (m + j) = true -> (∀ b ∈ keys g.nh, sgBox b g' = false) /\ ∀ b ∈ keys g.no, sgRow b g' = false := by
     intro j g' hg' hXj
     have hj : j < L.length := (List.getElem?_eq_some_iff.1 hg').1
     rcases h1.2 j hj with (h4 | h4) | h4
     ·have : p = j := by simpa using h4
      subst this; rw [hXi] at hXj; cases hXj
     ·rw [hnw (m + j) (by omega) hXj] at h4; cases h4
     ·rw [hg'] at h4
      simp only [Bool.and_eq_true, List.all_eq_true, Bool.not_eq_true'] at h4
      exact h4
    exact ⟨fun b hb => segS_uses L m S (h2.box b hb) (fun j g' hg' hXj => (h3 j g' hg' hXj).1 b hb), fun b hb => segS_usesRow L m S (h2.row b hb) (fun j g' hg' hXj => (h3 j g' hg' hXj).2 b hb), fun b hb => by rw [segS_low]; exact h2.bl b hb, fun b hb => by rw [segS_low]; exact h2.rl b hb, h2.rp⟩
   have hdst' : dstOk (segS ops X m L S) o.dst = true := by
    cases hd : o.dst with
    | none => rfl
    | some t => rw [hd] at hdst; simp only [dstOk] at hdst ⊢; rw [segS_n]; exact hdst
   have hdAt : dstAt ops (m + p) = o.dst := by simp [dstAt, ho]
   have hmore : Leq ((segS ops X m L S).add (dstAt ops (m + p)) g.res g.nh g.no) (segS ops (fun j => X j || j == m + p) m L S) := by
    refine segS_more hg hXi (fun j g' hg' hpj hXj => ⟨fun t ht hd => ?_, fun b hb hb' => ?_, fun b hb hb' => ?_⟩)
    ·have hj : j < L.length := (List.getElem?_eq_some_iff.1 hg').1
     simp only [apartB, List.all_eq_true, List.mem_range, Bool.or_eq_true] at hap
     have := hap p hpl j hj
     rw [hdAt] at ht
     rw [ho, hd] at this
     simp only [ht, beq_self_eq_true, Bool.or_true, Bool.not_true, Bool.false_eq_true, or_false] at this
     rcases this with (h1 | h1) | h1
     ·have : p = j := by simpa using h1
      omega
     ·have := (depOk_sound hB _ hisz _ h1).lt hB; omega
     ·rw [hnw (m + j) (by omega) hXj] at h1; cases h1
    ·simp only [freshL, List.all_eq_true, List.mem_range] at hfr
     have h1 := hfr p hpl
     have hj : j < L.length := (List.getElem?_eq_some_iff.1 hg').1
     rw [hg] at h1
     simp only [Bool.and_eq_true, List.all_eq_true, List.mem_range, Bool.or_eq_true] at h1
     rcases h1.2 j hj with (h4 | h4) | h4
     ·have : p = j := by simpa using h4
      omega
     ·rw [hnw (m + j) (by omega) hXj] at h4; cases h4
     ·rw [hg'] at h4
      simp only [Bool.and_eq_true, List.all_eq_true, Bool.not_eq_true'] at h4
      have := h4.1 b hb
      simp [sgBox, memN_iff.2 hb'] at this
    ·simp only [freshL, List.all_eq_true, List.mem_range] at hfr
     have h1 := hfr p hpl
     have hj : j < L.length := (List.getElem?_eq_some_iff.1 hg').1
     rw [hg] at h1
     simp only [Bool.and_eq_true, List.all_eq_true, List.mem_range, Bool.or_eq_true] at h1
     rcases h1.2 j hj with (h4 | h4) | h4
     ·have : p = j := by simpa using h4
      omega
     ·rw [hnw (m + j) (by omega) hXj] at h4; cases h4
     ·rw [hg'] at h4
      simp only [Bool.and_eq_true, List.all_eq_true, Bool.not_eq_true'] at h4
      have := h4.2 b hb
      simp [sgRow, memN_iff.2 hb'] at this
   have hnext : ∀ (v : Value) (M2 : Mp) (w2 : World), Cfg E base ((segS ops X m L S).add o.dst g.res g.nh g.no) s M2 (a'.put o.dst v) w2 -> Ext (segS ops X m L S) M' w' ((segS ops X m L S).add o.dst g.res g.nh g.no) M2 w2 ->
     wpAnyIn (FW r) 0 P .any ops (Post E base Q S M w) fuel (listed.setIfInBounds (m + p) true) (a'.put o.dst v) w2 := by
    intro v M2 w2 c2 x2
    rw [<- hdAt] at c2 x2
    rw [hdAt] at c2
    rw [<- hdAt] at c2
    refine ih (fun j => X j || j == m + p) ?_ (fun j hj => by simp [hlo j hj]) (fun j hj => ?_) ?_ fuel _ M2 _ w2 (by omega) (hp.set _) ?_ ?_
    ·have := missing_set hXi hpl; omega
    ·have : (j == m + p) = false := by simp; omega
     rw [hhi j hj, this]; rfl
    ·intro j k hj hXj hd
     simp only [Bool.or_eq_true, beq_iff_eq] at hXj ⊢
     rcases hXj with hXj | rfl
     ·exact .inl (hcl j k hj hXj hd)
     ·exact .inl (hdep k hd)
    ·rw [<- hdAt]; exact c2.leq hmore
    ·exact (hx'.trans x2).trans (hmore.ext M2 w2)
   unfold wpOpIn
   simp only [ho]
   cases hrun : g.run with
   | true =>
    rw [guardB_spec hgd hrel, hrun, if_pos rfl]
    refine hfree hrun r base M' E.l a' w' hrel _ _ (fun v w2 M2 hn => ?_)
    obtain ⟨c2, x2⟩ := hc'.new hn hfree' hdst'
    exact hnext v M2 w2 c2 x2
   | false =>
    rw [guardB_spec hgd hrel, hrun]
    simp only [Bool.false_eq_true, if_false]
    obtain ⟨e1, e2, e3⟩ := hskip hrun
    refine ⟨fun _ _ => trivial, ?_⟩
    have hn : New M' E.l w' g.nh g.no g.res undef M' w' := by rw [e1, e2, e3]; exact { New.skip with res := .tup [] #[] rfl (fun i c v h => by simp at h) }
    obtain ⟨c2, x2⟩ := hc'.new hn hfree' hdst'
    exact hnext undef M' w' c2 x2
 have hX0 : segS ops (fun j => Nat.blt j m) m L S = S := by
  have : ∀ (l : List Sg) (i : Nat) (S : St), m <= i -> segS ops (fun j => Nat.blt j m) i l S = S := by
   intro l
   induction l with
   | nil => intro _ _ _; rfl
   | cons g rest ih =>
    intro i S hi
    have hb : Nat.blt i m = false := by
     cases hh : Nat.blt i m with
     | false => rfl
     | true => rw [Nat.blt_eq] at hh; omega
    simp only [segS, hb, Bool.false_eq_true, if_false]
    exact ih (i + 1) S (by omega)
  exact this L m S (Nat.le_refl _)
 have hmis0 : missing (fun j => Nat.blt j m) m L.length = L.length := by
  generalize L.length = n
  induction n with
  | zero => rfl
  | succ n ih =>
   have hb : Nat.blt (m + n) m = false := by
    cases hh : Nat.blt (m + n) m with
    | false => rfl
    | true => rw [Nat.blt_eq] at hh; omega
   simp [missing, ih, hb]
 refine key L.length (fun j => Nat.blt j m) hmis0 (fun j hj => by rw [Nat.blt_eq]; exact hj) (fun j hj => ?_) (fun j k hj hX hd => ?_) fuel listed M a w (by omega) hp (by rw [hX0]; exact hc) (by rw [hX0]; exact Ext.refl _ _ _)
 ·cases hh : Nat.blt j m with
  | false => rfl
  | true => rw [Nat.blt_eq] at hh; omega
 ·rw [Nat.blt_eq] at hX ⊢; exact Nat.lt_trans (hd.lt hB) hX
end Go.Proofs.Ytfilnnbfppokmaa.Aw
namespace Go.Proofs.Ytfilnnbfppokmaa.Aw
open Go Go.RowKit
variable {P : Program}
theorem New.plain {M : Mp} {yl : Nat} {w : World} {res : AV} {v : Value} (h : RdA w M.ok M.μ M.ν yl res v) : New M yl w [] [] res v M w where
 below := Below.refl _ _
 lv := rfl
 rd := rfl
 ds := rfl
 μ _ _ := rfl
 ν _ _ := rfl
 okm _ x := x
 okn _ x := .inl x
 res := h
 heap := ⟨fun b B h => (by cases h), fun b B h => (by cases h), fun x y k hx => by cases x <;> (obtain ⟨⟨_, h⟩, _⟩ := hx; cases h)⟩
theorem free_run {o : Oper} {S : St} {res : AV} {nh : List (Nat × Blk)} {no : List (Nat × Row)} (hd : ∀ c, o.op ≠ .defer c)
  (h : ∀ base M yl a w, Rel base S M yl a w -> ∃ v w' M', (execOp a.eval o).run P w = .ok (.value v) w' /\ New M yl w nh no res v M' w') : Free P o S res nh no := by
 intro r base M yl a w hr K Q hK
 obtain ⟨v, w', M', hrun, hn⟩ := h base M yl a w hr
 unfold Oper.wpIn
 rw [Oper.semAt_eq _ _ _ hd, hrun]
 exact ⟨fun _ _ => trivial, hK v w' M' hn⟩
theorem free_val {o : Oper} {S : St} {res : AV} (hd : ∀ c, o.op ≠ .defer c)
  (h : ∀ base M yl a w, Rel base S M yl a w -> ∃ v, (execOp a.eval o).run P w = .ok (.value v) w /\ RdA w M.ok M.μ M.ν yl res v) : Free P o S res [] [] :=
 free_run hd fun base M yl a w hr => let ⟨v, h1, h2⟩ := h base M yl a w hr; ⟨v, w, M, h1, New.plain h2⟩
section
variable {w : World} {ok : Nat -> Prop} {μ : Nat -> Option Nat} {ν : Nat -> Option Value} {yl : Nat} {v : Value}
theorem RdA.int {k : IntKind} {n : Int} (h : RdA w ok μ ν yl (.d (.int k n)) v) : v = .int k n := by cases h with | d h => cases h; rfl
theorem RdA.bool {b : Bool} (h : RdA w ok μ ν yl (.d (.bool b)) v) : v = .bool b := by cases h with | d h => cases h; rfl
theorem RdA.str {s : ByteArray} (h : RdA w ok μ ν yl (.d (.str s)) v) : v = .string s := by cases h with | d h => cases h; rfl
theorem RdA.nilsl (h : RdA w ok μ ν yl (.d .nilsl) v) : v = .slice .none 0 0 := by cases h with | d h => cases h; rfl
theorem RdA.nilfn (h : RdA w ok μ ν yl (.d .nilfn) v) : v = .nilFunc := by cases h with | d h => cases h; rfl
theorem RdA.ptr {cs : List D} (h : RdA w ok μ ν yl (.d (.ptr cs)) v) : ∃ b off, v = .pointer (some ⟨b, off, Option.none⟩) /\ ok b /\ ∃ vs : Nat -> Value,
  (∀ (i : Nat) (c : D), cs[i]? = some c -> w.cell? ⟨b, off + i, Option.none⟩ = some (vs i)) /\ ∀ (i : Nat) (c : D), cs[i]? = some c -> Rd w ok c (vs i) := by
 cases h with | d h => cases h with | ptr _ b off vs hok hc h => exact ⟨b, off, rfl, hok, vs, hc, h⟩
theorem RdA.loc' {b off : Nat} (h : RdA w ok μ ν yl (.loc b off) v) : ∃ k, μ b = some k /\ v = .pointer (some ⟨k, off, Option.none⟩) := by cases h with | loc h => exact ⟨_, h, rfl⟩
theorem RdA.osl' {id : Nat} (h : RdA w ok μ ν yl (.osl id) v) : ν id = some v := by cases h with | osl h _ => exact h
theorem RdA.agg' {cs : List AV} (h : RdA w ok μ ν yl (.agg cs) v) : ∃ vs : Array Value, v = .agg vs /\ vs.size = cs.length /\ (∀ (i : Nat) (v : Value), vs[i]? = some v -> v.oneCell' = true) /\
  ∀ (i : Nat) (c : AV) (v : Value), cs[i]? = some c -> vs[i]? = some v -> RdA w ok μ ν yl c v := by cases h with | agg _ vs hl h1 h => exact ⟨vs, rfl, hl, h1, h⟩
theorem RdA.tup' {cs : List AV} (h : RdA w ok μ ν yl (.tup cs) v) : ∃ vs : Array Value, v = .tuple vs /\ vs.size = cs.length /\
  ∀ (i : Nat) (c : AV) (v : Value), cs[i]? = some c -> vs[i]? = some v -> RdA w ok μ ν yl c v := by cases h with | tup _ vs hl h => exact ⟨vs, rfl, hl, h⟩
end
def isAggT (P : Program) (t : TypeId) : Option Bool := (P.underlying t).map fun | .struct _ | .array _ _ => true | _ => false
def szT (P : Program) (t : TypeId) : Option Nat := (P.info? t).map (·.size)
def fldT (P : Program) (s : TypeId) (f : Nat) : Option (Nat × Nat × TypeId) := match P.underlying s with
 | some (.struct fs) => (fs[f]?).bind fun fl => (szT P fl.type).map fun n => (fl.offset, n, fl.type)
 | _ => none
def eltT (P : Program) (t : TypeId) : Option (TypeId × Nat) := match P.underlying t with
 | some (.slice e) => (szT P e).map fun n => (e, n)
 | _ => none
def arrT (P : Program) (t : TypeId) : Option (Nat × TypeId × Nat) := match P.underlying t with
 | some (.array l e) => (szT P e).map fun n => (l, e, n)
 | _ => none
theorem run_isAgg {t : TypeId} {b : Bool} (h : isAggT P t = some b) (w : World) : (isAgg t).run P w = .ok b w := by
 unfold isAggT at h
 cases hu : P.underlying t with
 | none => rw [hu] at h; cases h
 | some d =>
  rw [hu] at h
  simp only [Option.map_some, Option.some.injEq] at h
  unfold isAgg
  rw [Sem.run_bind, run_underlying hu]
  cases d <;> simp_all [Result.andThen]
theorem run_sizeOf {t : TypeId} {n : Nat} (h : szT P t = some n) (w : World) : (sizeOf t).run P w = .ok n w := by
 unfold szT at h
 cases hi : P.info? t with
 | none => rw [hi] at h; cases h
 | some i => rw [hi] at h; simp only [Option.map_some, Option.some.injEq] at h; simp [sizeOf, typeInfo, hi, h]
theorem run_loadVar_one {t : TypeId} {w : World} {ad : Addr} {v : Value} (h : isAggT P t = some false) (hc : w.cell? ad = some v) : (loadVar t ad).run P w = .ok v w := by
 unfold loadVar
 rw [Sem.run_bind, run_isAgg h]
 simp [Result.andThen, load, Sem.run, hc]
theorem run_loadVar_agg {t : TypeId} {w : World} {b off n : Nat} (h : isAggT P t = some true) (hn : szT P t = some n) (f : Nat -> Value) (hc : ∀ j, j < n -> w.cell? ⟨b, off + j, none⟩ = some (f j)) :
  (loadVar t ⟨b, off, none⟩).run P w = .ok (.agg ((List.range n).map f).toArray) w := by
 unfold loadVar
 rw [Sem.run_bind, run_isAgg h]
 simp only [Result.andThen, if_true]
 rw [Sem.run_bind, run_sizeOf hn]
 have hadd : ∀ j, (⟨b, off, none⟩ : Addr).add j = ⟨b, off + j, none⟩ := fun j => by unfold Addr.add; split <;> simp_all
 have := run_loadCells (P := P) (w := w) ⟨b, off, none⟩ n f (fun j hj => by rw [hadd]; exact hc j hj)
 simp only [Result.andThen, Sem.run_bind, this, Sem.run_pure]
theorem free_move {o : Oper} {S : St} {x : Operand} {c : AV} (ho : o.op = .move x) (hx : opnd S.T x = some c) : Free P o S c [] [] :=
 free_val (by simp [ho]) fun base M yl a w hr => ⟨a.eval x, by simp [execOp, ho], hr.opnd hx⟩
theorem free_assign {o : Oper} {S : St} {x : Operand} {c : AV} (ho : o.op = .assign x) (hx : opnd S.T x = some c) : Free P o S c [] [] :=
 free_val (by simp [ho]) fun base M yl a w hr => ⟨a.eval x, by simp [execOp, ho], hr.opnd hx⟩
theorem free_pick {o : Oper} {S : St} {x y z : Operand} {c : AV} {b : Bool} (ho : o.op = .pick x y z) (hx : opnd S.T x = some (.d (.bool b))) (hy : opnd S.T (if b then y else z) = some c) : Free P o S c [] [] :=
 free_val (by simp [ho]) fun base M yl a w hr => ⟨a.eval (if b then y else z), by
  have := (hr.opnd hx).bool
  cases b <;> simp [execOp, ho, this, asBool], hr.opnd hy⟩
theorem free_extract {o : Oper} {S : St} {x : Operand} {i : Nat} {cs : List AV} {c : AV} (ho : o.op = .extract x i) (hx : opnd S.T x = some (.tup cs)) (hc : cs[i]? = some c) : Free P o S c [] [] :=
 free_val (by simp [ho]) fun base M yl a w hr => by
  obtain ⟨vs, h1, h2, h3⟩ := (hr.opnd hx).tup'
  have hi := (List.getElem?_eq_some_iff.1 hc).1
  obtain ⟨v, hv⟩ : ∃ v, vs[i]? = some v := ⟨vs[i], by simp [h2, hi]⟩
  exact ⟨v, by simp [execOp, ho, h1, Instr.extract, hv], h3 i c v hc hv⟩
theorem free_fieldAddr_ptr {o : Oper} {S : St} {x : Operand} {s f off n : Nat} {ft : TypeId} {cs : List D} (ho : o.op = .fieldAddr s x f) (hx : opnd S.T x = some (.d (.ptr cs))) (hf : fldT P s f = some (off, n + 1, ft)) : Free P o S (.d (.ptr (cs.drop off))) [] [] :=
 free_val (by simp [ho]) fun base M yl a w hr => by
  obtain ⟨b, o', h1, hok, vs, h2, h3⟩ := (hr.opnd hx).ptr
  refine ⟨.pointer (some ⟨b, o' + off, none⟩), ?_, .d (.ptr _ b (o' + off) (fun i => vs (off + i)) hok ?_ ?_)⟩
  ·unfold fldT at hf
   split at hf
   ·rename_i fs hu
    cases hfl : fs[f]? with
    | none => rw [hfl] at hf; cases hf
    | some fl =>
     rw [hfl] at hf
     simp only [Option.bind_some] at hf
     cases hs : szT P fl.type with
     | none => rw [hs] at hf; cases hf
     | some n' =>
      rw [hs] at hf
      simp only [Option.map_some, Option.some.injEq, Prod.mk.injEq] at hf
      obtain ⟨e1, e2, e3⟩ := hf
      subst e1 e2
      have hadd : (⟨b, o', none⟩ : Addr).add fl.offset = ⟨b, o' + fl.offset, none⟩ := by unfold Addr.add; split <;> simp_all
      simp [execOp, ho, h1, Instr.fieldAt, run_underlying hu, hfl, Instr.sureAddr, fieldPlace, run_sizeOf hs, Result.andThen, hadd]
   ·cases hf
  ·intro i c hc
   rw [List.getElem?_drop] at hc
   rw [Nat.add_assoc]; exact h2 _ c hc
  ·intro i c hc
   rw [List.getElem?_drop] at hc
   exact h3 _ c hc
theorem free_fieldAddr_loc {o : Oper} {S : St} {x : Operand} {s f off n b o' : Nat} {ft : TypeId} (ho : o.op = .fieldAddr s x f) (hx : opnd S.T x = some (.loc b o')) (hf : fldT P s f = some (off, n + 1, ft)) : Free P o S (.loc b (o' + off)) [] [] :=
 free_val (by simp [ho]) fun base M yl a w hr => by
  obtain ⟨k, h2, h1⟩ := (hr.opnd hx).loc'
  refine ⟨.pointer (some ⟨k, o' + off, none⟩), ?_, .loc h2⟩
  unfold fldT at hf
  split at hf
  ·rename_i fs hu
   cases hfl : fs[f]? with
   | none => rw [hfl] at hf; cases hf
   | some fl =>
    rw [hfl] at hf
    simp only [Option.bind_some] at hf
    cases hs : szT P fl.type with
    | none => rw [hs] at hf; cases hf
    | some n' =>
     rw [hs] at hf
     simp only [Option.map_some, Option.some.injEq, Prod.mk.injEq] at hf
     obtain ⟨e1, e2, e3⟩ := hf
     subst e1 e2
     have hadd : (⟨k, o', none⟩ : Addr).add fl.offset = ⟨k, o' + fl.offset, none⟩ := by unfold Addr.add; split <;> simp_all
     simp [execOp, ho, h1, Instr.fieldAt, run_underlying hu, hfl, Instr.sureAddr, fieldPlace, run_sizeOf hs, Result.andThen, hadd]
  ·cases hf
theorem free_fieldAddr_oloc {o : Oper} {S : St} {x : Operand} {s f off n id sz i j : Nat} {ft : TypeId} (ho : o.op = .fieldAddr s x f) (hx : opnd S.T x = some (.oloc id sz i j)) (hf : fldT P s f = some (off, n + 1, ft)) : Free P o S (.oloc id sz i (j + off)) [] [] :=
 free_val (by simp [ho]) fun base M yl a w hr => by
  have hh := hr.opnd hx
  generalize hav : a.eval x = av at hh
  cases hh with
  | @oloc _ _ _ _ v k h2 hk =>
  refine ⟨.pointer (some ⟨k, i * sz + (j + off), none⟩), ?_, .oloc h2 hk⟩
  unfold fldT at hf
  split at hf
  ·rename_i fs hu
   cases hfl : fs[f]? with
   | none => rw [hfl] at hf; cases hf
   | some fl =>
    rw [hfl] at hf
    simp only [Option.bind_some] at hf
    cases hs : szT P fl.type with
    | none => rw [hs] at hf; cases hf
    | some n' =>
     rw [hs] at hf
     simp only [Option.map_some, Option.some.injEq, Prod.mk.injEq] at hf
     obtain ⟨e1, e2, e3⟩ := hf
     subst e1 e2
     have hadd : (⟨k, i * sz + j, none⟩ : Addr).add fl.offset = ⟨k, i * sz + (j + fl.offset), none⟩ := by
      unfold Addr.add
      split
      ·simp_all
      ·simp; omega
     simp [execOp, ho, hav, Instr.fieldAt, run_underlying hu, hfl, Instr.sureAddr, fieldPlace, run_sizeOf hs, Result.andThen, hadd]
  ·cases hf
theorem free_load_ptr {o : Oper} {S : St} {x : Operand} {t : TypeId} {cs : List D} {c : D} (ho : o.op = .load t x) (hx : opnd S.T x = some (.d (.ptr cs))) (ht : isAggT P t = some false) (hc : cs[0]? = some c) : Free P o S (.d c) [] [] :=
 free_val (by simp [ho]) fun base M yl a w hr => by
  obtain ⟨b, o', h1, hok, vs, h2, h3⟩ := (hr.opnd hx).ptr
  have := h2 0 c hc
  rw [Nat.add_zero] at this
  exact ⟨vs 0, by simp [execOp, ho, h1, Instr.loadAt, Instr.sureAddr, Result.andThen, run_loadVar_one ht this], .d (h3 0 c hc)⟩
theorem free_load_ptr_agg {o : Oper} {S : St} {x : Operand} {t : TypeId} {cs : List D} {n : Nat} (ho : o.op = .load t x) (hx : opnd S.T x = some (.d (.ptr cs))) (ht : isAggT P t = some true) (hn : szT P t = some n)
  (hl : n <= cs.length) (hg : ∀ c ∈ cs, ∀ l, c ≠ .agg l) : Free P o S (.agg ((cs.take n).map .d)) [] [] :=
 free_val (by simp [ho]) fun base M yl a w hr => by
  obtain ⟨b, o', h1, hok, vs, h2, h3⟩ := (hr.opnd hx).ptr
  have hget : ∀ j, j < n -> ∃ c, cs[j]? = some c := fun j hj => ⟨cs[j]'(by omega), by simp⟩
  have hld := run_loadVar_agg (P := P) (w := w) (b := b) (off := o') ht hn vs (fun j hj => let ⟨c, hc⟩ := hget j hj; h2 j c hc)
  refine ⟨.agg ((List.range n).map vs).toArray, by simp [execOp, ho, h1, Instr.loadAt, Instr.sureAddr, Result.andThen, hld], .agg _ _ (by simp; omega) ?_ ?_⟩
  ·intro i v hv
   simp only [List.getElem?_toArray, List.getElem?_map] at hv
   by_cases hi : i < n
   ·rw [List.getElem?_range hi, Option.map_some] at hv
    cases hv
    obtain ⟨c, hc⟩ := hget i hi
    exact (h3 i c hc).one (hg c (List.mem_of_getElem? hc))
   ·rw [List.getElem?_eq_none (by simp; omega)] at hv; cases hv
  ·intro i c v hc hv
   simp only [List.getElem?_toArray, List.getElem?_map] at hv
   by_cases hi : i < n
   ·rw [List.getElem?_range hi, Option.map_some] at hv
    cases hv
    rw [List.getElem?_map, List.getElem?_take] at hc
    simp only [hi, if_true] at hc
    cases hh : cs[i]? with
    | none => rw [hh] at hc; cases hc
    | some c' => rw [hh] at hc; cases hc; exact .d (h3 i c' hh)
   ·rw [List.getElem?_eq_none (by simp; omega)] at hv; cases hv
theorem free_load_loc {o : Oper} {S : St} {x : Operand} {t : TypeId} {b off : Nat} {B : Blk} {c : AV} (ho : o.op = .load t x) (hx : opnd S.T x = some (.loc b off)) (ht : isAggT P t = some false) (hB : look S.H b = some B) (hc : B.cells[off]? = some c) :
  Free P o S c [] [] :=
 free_val (by simp [ho]) fun base M yl a w hr => by
  obtain ⟨k, h2, h1⟩ := (hr.opnd hx).loc'
  obtain ⟨k', vs, e1, e2, e3, e4, e5, e6, _⟩ := hr.heap.blk b B hB
  rw [h2] at e1; cases e1
  obtain ⟨v, hv⟩ : ∃ v, vs[off]? = some v := ⟨vs[off]'(by rw [e4]; exact (List.getElem?_eq_some_iff.1 hc).1), by simp⟩
  have hcell : w.cell? ⟨k, off, none⟩ = some v := by simp [World.cell?, e3, hv]
  exact ⟨v, by simp [execOp, ho, h1, Instr.loadAt, Instr.sureAddr, Result.andThen, run_loadVar_one ht hcell], e5 off c v hc hv⟩
theorem free_load_loc_agg {o : Oper} {S : St} {x : Operand} {t : TypeId} {b off n : Nat} {B : Blk} (ho : o.op = .load t x) (hx : opnd S.T x = some (.loc b off)) (ht : isAggT P t = some true) (hn : szT P t = some n) (hB : look S.H b = some B)
  (hl : off + n <= B.cells.length) : Free P o S (.agg ((B.cells.drop off).take n)) [] [] :=
 free_val (by simp [ho]) fun base M yl a w hr => by
  obtain ⟨k, h2, h1⟩ := (hr.opnd hx).loc'
  obtain ⟨k', vs, e1, e2, e3, e4, e5, e6, _⟩ := hr.heap.blk b B hB
  rw [h2] at e1; cases e1
  have hld := run_loadVar_agg (P := P) (w := w) (b := k) (off := off) ht hn (fun j => vs.getD (off + j) undef) (fun j hj => by
   have : off + j < vs.size := by rw [e4]; omega
   simp [World.cell?, e3, this])
  refine ⟨.agg ((List.range n).map fun j => vs.getD (off + j) undef).toArray, by simp [execOp, ho, h1, Instr.loadAt, Instr.sureAddr, Result.andThen, hld], .agg _ _ (by simp; omega) ?_ ?_⟩
  ·intro i v hv
   simp only [List.getElem?_toArray, List.getElem?_map] at hv
   by_cases hi : i < n
   ·rw [List.getElem?_range hi, Option.map_some] at hv
    cases hv
    have hlt : off + i < vs.size := by rw [e4]; omega
    exact e6 (off + i) _ (by simp [hlt])
   ·rw [List.getElem?_eq_none (by simp; omega)] at hv; cases hv
  ·intro i c v hc hv
   simp only [List.getElem?_toArray, List.getElem?_map] at hv
   by_cases hi : i < n
   ·rw [List.getElem?_range hi, Option.map_some] at hv
    cases hv
    rw [List.getElem?_take, List.getElem?_drop] at hc
    simp only [hi, if_true] at hc
    have hlt : off + i < vs.size := by rw [e4]; omega
    exact e5 (off + i) c _ hc (by simp [hlt])
   ·rw [List.getElem?_eq_none (by simp; omega)] at hv; cases hv
end Go.Proofs.Ytfilnnbfppokmaa.Aw
namespace Go.Proofs.Ytfilnnbfppokmaa.Aw
open Go Go.RowKit
variable {P : Program}
theorem wrap_i64 {n : Int} (h : -9223372036854775808 <= n /\ n <= 9223372036854775807) : IntKind.i64.wrap n = n := (IntWalk.i64_left n).trans (IntWalk.wrap64_in n h)
def intOp (op : BinOp) (k : IntKind) (x y : Int) : Option D :=
 match op with
 | .add => some (.int k (k.wrap (x + y)))
 | .sub => some (.int k (k.wrap (x - y)))
 | .mul => some (.int k (k.wrap (x * y)))
 | .quo => if y = 0 then none else some (.int k (k.wrap (x.tdiv y)))
 | .rem => if y = 0 then none else some (.int k (x.tmod y))
 | .and => some (.int k (k.wrap (BitVec.ofInt k.bits x &&& BitVec.ofInt k.bits y).toNat))
 | .or => some (.int k (k.wrap (BitVec.ofInt k.bits x ||| BitVec.ofInt k.bits y).toNat))
 | .eql => some (.bool (x == y))
 | .neq => some (.bool (x != y))
 | .lss => some (.bool (decide (x < y)))
 | .leq => some (.bool (decide (x <= y)))
 | .gtr => some (.bool (decide (x > y)))
 | .geq => some (.bool (decide (x >= y)))
 | _ => none
theorem free_bin {o : Oper} {S : St} {op : BinOp} {t yt : TypeId} {x y : Operand} {k : IntKind} {a b : Int} {r : D} (ho : o.op = .binOp op t x y yt) (hx : opnd S.T x = some (.d (.int k a))) (hy : opnd S.T y = some (.d (.int k b)))
  (hr : intOp op k a b = some r) : Free P o S (.d r) [] [] :=
 free_val (by simp [ho]) fun base M yl ac w hrel => by
  have h1 := (hrel.opnd hx).int
  have h2 := (hrel.opnd hy).int
  cases op <;> simp only [intOp, Option.some.injEq, reduceCtorEq] at hr <;> first
   | cases hr; done
   | (subst hr
      refine ⟨_, ?_, .d (by first | exact .int _ _ | exact .bool _)⟩
      simp [execOp, ho, h1, h2, eqGuard, binOp, Op.intArith, Op.intCmp, Op.intBits]; done)
   | (by_cases hb : b = 0
      · simp [hb] at hr
      · rw [if_neg hb] at hr
        cases hr
        refine ⟨_, ?_, .d (.int _ _)⟩
        simp [execOp, ho, h1, h2, eqGuard, binOp, Op.intDiv, hb]; done)
theorem free_shift {o : Oper} {S : St} {op : BinOp} {t yt : TypeId} {x y : Operand} {k yk : IntKind} {a b : Int} (ho : o.op = .binOp op t x y yt) (hx : opnd S.T x = some (.d (.int k a))) (hy : opnd S.T y = some (.d (.int yk b)))
  (hb : 0 <= b) {e : Int} (hr : (op = .shl /\ e = k.wrap (a * 2 ^ (min b.toNat k.bits))) \/ (op = .shr /\ e = a.fdiv (2 ^ (min b.toNat k.bits)))) : Free P o S (.d (.int k e)) [] [] :=
 free_val (by simp [ho]) fun base M yl ac w hrel => by
  have h1 := (hrel.opnd hx).int
  have h2 := (hrel.opnd hy).int
  have hnb : ¬ b < 0 := by omega
  rcases hr with ⟨rfl, rfl⟩ | ⟨rfl, rfl⟩ <;>
   exact ⟨_, by simp [execOp, ho, h1, h2, eqGuard, binOp, Op.shift, hnb], .d (.int _ _)⟩
theorem free_eqBool {o : Oper} {S : St} {t yt : TypeId} {x y : Operand} {a b : Bool} (neq : Bool) (ho : o.op = .binOp (if neq then .neq else .eql) t x y yt) (hx : opnd S.T x = some (.d (.bool a))) (hy : opnd S.T y = some (.d (.bool b)))
  (ht : P.underlying t = some .bool) : Free P o S (.d (.bool (if neq then !(a == b) else a == b))) [] [] :=
 free_val (by simp [ho]) fun base M yl ac w hrel => by
  have h1 := (hrel.opnd hx).bool
  have h2 := (hrel.opnd hy).bool
  cases neq <;>
   exact ⟨_, by simp [execOp, ho, h1, h2, eqGuard, binOp, run_equal_bool w t a b ht], .d (.bool _)⟩
theorem free_not {o : Oper} {S : St} {t : TypeId} {x : Operand} {b : Bool} (ho : o.op = .unOp .not t x) (hx : opnd S.T x = some (.d (.bool b))) : Free P o S (.d (.bool (!b))) [] [] :=
 free_val (by simp [ho]) fun base M yl ac w hrel => by
  have h1 := (hrel.opnd hx).bool
  exact ⟨_, by simp [execOp, ho, h1, Op.unary], .d (.bool _)⟩
theorem free_neg {o : Oper} {S : St} {t : TypeId} {x : Operand} {k : IntKind} {n : Int} (ho : o.op = .unOp .neg t x) (hx : opnd S.T x = some (.d (.int k n))) : Free P o S (.d (.int k (k.wrap (0 - n)))) [] [] :=
 free_val (by simp [ho]) fun base M yl ac w hrel => by
  have h1 := (hrel.opnd hx).int
  exact ⟨_, by simp [execOp, ho, h1, Op.unary, Op.intArith], .d (.int _ _)⟩
theorem free_makeFunc {o : Oper} {S : St} {f : Nat} {cap : Array Operand} {cs : List AV} (ho : o.op = .makeFunc (.func f) #[] cap) (hc : cap.toList.mapM (opnd S.T) = some cs) : Free P o S (.fn f cs) [] [] :=
 free_val (by simp [ho]) fun base M yl ac w hrel => by
  refine ⟨.func (.func f) #[] (cap.map ac.eval), by simp [execOp, ho, Instr.makeFunc], .fn f cs _ ?_ ?_⟩
  ·rw [Array.size_map]
   have : ∀ (l : List Operand) (cs : List AV), l.mapM (opnd S.T) = some cs -> l.length = cs.length := by
    intro l
    induction l with
    | nil => intro cs h; simp at h; subst h; rfl
    | cons x r ih =>
     intro cs h
     simp only [List.mapM_cons, Option.bind_eq_bind, Option.bind_eq_some_iff, Option.pure_def, Option.some.injEq] at h
     obtain ⟨c, _, cs', h2, rfl⟩ := h
     simp [ih cs' h2]
   have := this _ _ hc
   simpa using this
  ·intro i c v hi hv
   have aux : ∀ (l : List Operand) (cs : List AV), l.mapM (opnd S.T) = some cs -> ∀ (i : Nat) (c : AV), cs[i]? = some c -> ∃ x, l[i]? = some x /\ opnd S.T x = some c := by
    intro l
    induction l with
    | nil => intro cs h i c hc; simp at h; subst h; simp at hc
    | cons x r ih =>
     intro cs h i c hc
     simp only [List.mapM_cons, Option.bind_eq_bind, Option.bind_eq_some_iff, Option.pure_def, Option.some.injEq] at h
     obtain ⟨c', h1, cs', h2, rfl⟩ := h
     cases i with
     | zero => simp at hc; subst hc; exact ⟨x, rfl, h1⟩
     | succ i => simp at hc ⊢; exact ih cs' h2 i c hc
   obtain ⟨x, hx, hxc⟩ := aux _ _ hc i c hi
   rw [Array.getElem?_map] at hv
   rw [<- Array.getElem?_toList, hx] at hv
   simp only [Option.map_some, Option.some.injEq] at hv
   subst hv
   exact hrel.opnd hxc
theorem free_field {o : Oper} {S : St} {x : Operand} {s f off n : Nat} {ft : TypeId} {cs : List AV} {c : AV} (ho : o.op = .field s x f) (hx : opnd S.T x = some (.agg cs)) (hf : fldT P s f = some (off, n, ft)) (ht : isAggT P ft = some false)
  (hc : cs[off]? = some c) : Free P o S c [] [] :=
 free_val (by simp [ho]) fun base M yl a w hr => by
  obtain ⟨vs, h1, h2, _, h3⟩ := (hr.opnd hx).agg'
  unfold fldT at hf
  split at hf
  ·rename_i fs hu
   cases hfl : fs[f]? with
   | none => rw [hfl] at hf; cases hf
   | some fl =>
    rw [hfl] at hf
    simp only [Option.bind_some] at hf
    cases hs : szT P fl.type with
    | none => rw [hs] at hf; cases hf
    | some n' =>
     rw [hs] at hf
     simp only [Option.map_some, Option.some.injEq, Prod.mk.injEq] at hf
     obtain ⟨e1, e2, e3⟩ := hf
     subst e1 e2 e3
     obtain ⟨v, hv⟩ : ∃ v, vs[fl.offset]? = some v := ⟨vs[fl.offset]'(by rw [h2]; exact (List.getElem?_eq_some_iff.1 hc).1), by simp⟩
     exact ⟨v, by simp [execOp, ho, h1, Instr.field, run_underlying hu, hfl, asAgg, part, run_isAgg ht, Result.andThen, hv], h3 _ c v hc hv⟩
  ·cases hf
theorem free_field_agg {o : Oper} {S : St} {x : Operand} {s f off n : Nat} {ft : TypeId} {cs : List AV} (ho : o.op = .field s x f) (hx : opnd S.T x = some (.agg cs)) (hf : fldT P s f = some (off, n, ft)) (ht : isAggT P ft = some true)
  (hl : off + n <= cs.length) : Free P o S (.agg ((cs.drop off).take n)) [] [] :=
 free_val (by simp [ho]) fun base M yl a w hr => by
  obtain ⟨vs, h1, h2, h4, h3⟩ := (hr.opnd hx).agg'
  unfold fldT at hf
  split at hf
  ·rename_i fs hu
   cases hfl : fs[f]? with
   | none => rw [hfl] at hf; cases hf
   | some fl =>
    rw [hfl] at hf
    simp only [Option.bind_some] at hf
    cases hs : szT P fl.type with
    | none => rw [hs] at hf; cases hf
    | some n' =>
     rw [hs] at hf
     simp only [Option.map_some, Option.some.injEq, Prod.mk.injEq] at hf
     obtain ⟨e1, e2, e3⟩ := hf
     subst e1 e2 e3
     refine ⟨.agg (vs.extract fl.offset (fl.offset + n')), by simp [execOp, ho, h1, Instr.field, run_underlying hu, hfl, asAgg, part, run_isAgg ht, run_sizeOf hs, Result.andThen], .agg _ _ (by simp; omega) ?_ ?_⟩
     ·intro i v hv
      rw [Array.getElem?_extract] at hv
      split at hv
      ·exact h4 _ v hv
      ·cases hv
     ·intro i c v hc hv
      rw [Array.getElem?_extract] at hv
      rw [List.getElem?_take, List.getElem?_drop] at hc
      split at hv
      ·split at hc
       ·exact h3 _ c v hc hv
       ·cases hc
      ·cases hv
  ·cases hf
theorem free_indexAddr {o : Oper} {S : St} {t : TypeId} {x ix : Operand} {k : IntKind} {i : Int} {clip : Bool} {sz : Nat} {e : TypeId} {rows : List (List D)} {row : List D} (ho : o.op = .indexAddr t x ix) (hx : opnd S.T x = some (.d (.sl clip sz rows)))
  (hix : opnd S.T ix = some (.d (.int k i))) (ht : eltT P t = some (e, sz)) (h0 : 0 <= i) (hrow : rows[i.toNat]? = some row) : Free P o S (.d (.ptr row)) [] [] :=
 free_val (by simp [ho]) fun base M yl a w hr => by
  have h1 := hr.opnd hx
  have h2 := (hr.opnd hix).int
  unfold eltT at ht
  split at ht
  ·rename_i e' hu
   cases hs : szT P e' with
   | none => rw [hs] at ht; cases ht
   | some n =>
    rw [hs] at ht
    simp only [Option.map_some, Option.some.injEq, Prod.mk.injEq] at ht
    obtain ⟨e1, e2⟩ := ht
    subst e1 e2
    generalize hv : a.eval x = v at h1
    cases h1 with
    | d h =>
     cases h with
     | sl0 => simp at hrow
     | slE => simp at hrow
     | sl _ _ _ b off cap vs hok hcap hmax hclip hsz hc _ hh =>
      have hlt := (List.getElem?_eq_some_iff.1 hrow).1
      have hlt' : i < (rows.length : Int) := by omega
      have hadd : (⟨b, off, none⟩ : Addr).add (i.toNat * n) = ⟨b, off + i.toNat * n, none⟩ := by unfold Addr.add; split <;> simp_all
      refine ⟨.pointer (some ⟨b, off + i.toNat * n, none⟩), ?_, .d (.ptr row b (off + i.toNat * n) (fun j => vs i.toNat j) hok ?_ ?_)⟩
      ·simp [execOp, ho, hv, h2, Instr.indexAt, asIntOf, run_underlying hu, Result.andThen, h0, hlt', run_sizeOf hs, hadd]
      ·exact fun j c hj => hc i.toNat row j c hrow hj
      ·exact fun j c hj => hh i.toNat row j c hrow hj
  ·cases ht
theorem free_indexAddr_osl {o : Oper} {S : St} {t : TypeId} {x ix : Operand} {k : IntKind} {i : Int} {id : Nat} {R : Row} {e : TypeId} (ho : o.op = .indexAddr t x ix) (hx : opnd S.T x = some (.osl id)) (hR : look S.O id = some R) (hs0 : 0 < R.sz)
  (hix : opnd S.T ix = some (.d (.int k i))) (ht : eltT P t = some (e, R.sz)) (h0 : 0 <= i) (hlt : i < (R.rows.length : Int)) : Free P o S (.oloc id R.sz i.toNat 0) [] [] :=
 free_val (by simp [ho]) fun base M yl a w hr => by
  have h1 := (hr.opnd hx).osl'
  have h2 := (hr.opnd hix).int
  unfold eltT at ht
  split at ht
  ·rename_i e' hu
   cases hs : szT P e' with
   | none => rw [hs] at ht; cases ht
   | some n =>
    rw [hs] at ht
    simp only [Option.map_some, Option.some.injEq, Prod.mk.injEq] at ht
    obtain ⟨e1, e2⟩ := ht
    subst e1
    rw [e2] at hs
    obtain ⟨v, flat, hv, hown, _⟩ := (hr.heap.row id R hR).sl hs0
    rw [h1] at hv; cases hv
    rcases hown.2 with ⟨_, hz⟩ | ⟨g, cap, cur, hg, _, _, _⟩
    ·omega
    ·have hadd : (⟨g, 0, none⟩ : Addr).add (i.toNat * R.sz) = ⟨g, i.toNat * R.sz + 0, none⟩ := by unfold Addr.add; split <;> simp_all
     refine ⟨.pointer (some ⟨g, i.toNat * R.sz + 0, none⟩), ?_, .oloc h1 (by rw [hg]; rfl)⟩
     simp [execOp, ho, hg, h2, Instr.indexAt, asIntOf, run_underlying hu, Result.andThen, h0, hlt, run_sizeOf hs, hadd]
  ·cases ht
theorem free_indexAddr_arr {o : Oper} {S : St} {t : TypeId} {x ix : Operand} {k : IntKind} {i : Int} {b off l sz : Nat} {e : TypeId} (ho : o.op = .indexAddr t x ix) (hx : opnd S.T x = some (.loc b off))
  (hix : opnd S.T ix = some (.d (.int k i))) (ht : arrT P t = some (l, e, sz)) (h0 : 0 <= i) (hlt : i < (l : Int)) : Free P o S (.loc b (off + i.toNat * sz)) [] [] :=
 free_val (by simp [ho]) fun base M yl a w hr => by
  obtain ⟨kk, h2, h1⟩ := (hr.opnd hx).loc'
  have h3 := (hr.opnd hix).int
  unfold arrT at ht
  split at ht
  ·rename_i l' e' hu
   cases hs : szT P e' with
   | none => rw [hs] at ht; cases ht
   | some n =>
    rw [hs] at ht
    simp only [Option.map_some, Option.some.injEq, Prod.mk.injEq] at ht
    obtain ⟨e0, e1, e2⟩ := ht
    subst e0 e1 e2
    have hadd : (⟨kk, off, none⟩ : Addr).add (i.toNat * n) = ⟨kk, off + i.toNat * n, none⟩ := by unfold Addr.add; split <;> simp_all
    refine ⟨.pointer (some ⟨kk, off + i.toNat * n, none⟩), ?_, .loc h2⟩
    simp [execOp, ho, h1, h3, Instr.indexAt, asIntOf, run_underlying hu, Result.andThen, h0, hlt, run_sizeOf hs, hadd, Instr.sureAddr]
  ·cases ht
theorem free_indexAddr_parr {o : Oper} {S : St} {t : TypeId} {x ix : Operand} {k : IntKind} {i : Int} {l sz : Nat} {e : TypeId} {cs : List D} (ho : o.op = .indexAddr t x ix) (hx : opnd S.T x = some (.d (.ptr cs)))
  (hix : opnd S.T ix = some (.d (.int k i))) (ht : arrT P t = some (l, e, sz)) (h0 : 0 <= i) (hlt : i < (l : Int)) : Free P o S (.d (.ptr (cs.drop (i.toNat * sz)))) [] [] :=
 free_val (by simp [ho]) fun base M yl a w hr => by
  obtain ⟨b, o', h1, hok, vs, h4, h5⟩ := (hr.opnd hx).ptr
  have h3 := (hr.opnd hix).int
  unfold arrT at ht
  split at ht
  ·rename_i l' e' hu
   cases hs : szT P e' with
   | none => rw [hs] at ht; cases ht
   | some n =>
    rw [hs] at ht
    simp only [Option.map_some, Option.some.injEq, Prod.mk.injEq] at ht
    obtain ⟨e0, e1, e2⟩ := ht
    subst e0 e1 e2
    have hadd : (⟨b, o', none⟩ : Addr).add (i.toNat * n) = ⟨b, o' + i.toNat * n, none⟩ := by unfold Addr.add; split <;> simp_all
    refine ⟨.pointer (some ⟨b, o' + i.toNat * n, none⟩), ?_, .d (.ptr _ b _ (fun j => vs (i.toNat * n + j)) hok ?_ ?_)⟩
    ·simp [execOp, ho, h1, h3, Instr.indexAt, asIntOf, run_underlying hu, Result.andThen, h0, hlt, run_sizeOf hs, hadd, Instr.sureAddr]
    ·intro j c hc; rw [List.getElem?_drop] at hc; rw [Nat.add_assoc]; exact h4 _ c hc
    ·intro j c hc; rw [List.getElem?_drop] at hc; exact h5 _ c hc
  ·cases ht
theorem ownsRow_cell {w : World} {lo : Nat} {R : Row} {v : Value} {flat : List Value} {ok : Nat -> Prop} (hown : w.ownsRow lo R.e R.sz v R.rows.length flat) (hc : RowCellsS w ok R.sz R.rows flat) {k : Nat} (hk : v.ownBlock = some k) {i j : Nat} {row : List D} {c : D}
  (hrow : R.rows[i]? = some row) (hj : row[j]? = some c) : ∃ x, w.cell? ⟨k, i * R.sz + j, none⟩ = some x /\ Rd w ok c x /\ x.oneCell' = true := by
 obtain ⟨x, h1, h2, h3⟩ := hc.2 i row j c hrow hj
 have := hown.cells hk _ x h1
 have hadd : (⟨k, 0, none⟩ : Addr).add (i * R.sz + j) = ⟨k, i * R.sz + j, none⟩ := by unfold Addr.add; split <;> simp_all
 rw [hadd] at this
 exact ⟨x, this, h2, h3⟩
theorem free_load_oloc {o : Oper} {S : St} {x : Operand} {t : TypeId} {id i j : Nat} {R : Row} {row : List D} {c : D} (ho : o.op = .load t x) (hR : look S.O id = some R) (hx : opnd S.T x = some (.oloc id R.sz i j)) (ht : isAggT P t = some false)
  (hrow : R.rows[i]? = some row) (hc : row[j]? = some c) : Free P o S (.d c) [] [] :=
 free_val (by simp [ho]) fun base M yl a w hr => by
  have hh := hr.opnd hx
  generalize hav : a.eval x = av at hh
  cases hh with
  | @oloc _ _ _ _ v k h2 hk =>
  obtain ⟨v', flat, h3, hown, hcs, _⟩ := (hr.heap.row id R hR).sl ((hr.heap.row id R hR).blk h2 hk)
  rw [h2] at h3; cases h3
  obtain ⟨u, h4, h5, _⟩ := ownsRow_cell hown hcs hk hrow hc
  exact ⟨u, by simp [execOp, ho, hav, Instr.loadAt, Instr.sureAddr, Result.andThen, run_loadVar_one ht h4], .d h5⟩
theorem free_load_oloc_agg {o : Oper} {S : St} {x : Operand} {t : TypeId} {id i j n : Nat} {R : Row} {row : List D} (ho : o.op = .load t x) (hR : look S.O id = some R) (hx : opnd S.T x = some (.oloc id R.sz i j)) (ht : isAggT P t = some true) (hn : szT P t = some n)
  (hrow : R.rows[i]? = some row) (hl : j + n <= row.length) : Free P o S (.agg (((row.drop j).take n).map .d)) [] [] :=
 free_val (by simp [ho]) fun base M yl a w hr => by
  have hh := hr.opnd hx
  generalize hav : a.eval x = av at hh
  cases hh with
  | @oloc _ _ _ _ v k h2 hk =>
  obtain ⟨v', flat, h3, hown, hcs, _⟩ := (hr.heap.row id R hR).sl ((hr.heap.row id R hR).blk h2 hk)
  rw [h2] at h3; cases h3
  have hget : ∀ q, q < n -> ∃ u c, row[j + q]? = some c /\ w.cell? ⟨k, i * R.sz + j + q, none⟩ = some u /\ Rd w M.ok c u /\ u.oneCell' = true := fun q hq => by
   have hc : row[j + q]? = some (row[j + q]'(by omega)) := by simp
   obtain ⟨u, h4, h5, h6⟩ := ownsRow_cell hown hcs hk hrow hc
   exact ⟨u, _, hc, by rw [Nat.add_assoc]; exact h4, h5, h6⟩
  classical
  let f : Nat -> Value := fun q => if hq : q < n then Classical.choose (hget q hq) else undef
  have hf : ∀ q (hq : q < n), ∃ c, row[j + q]? = some c /\ w.cell? ⟨k, i * R.sz + j + q, none⟩ = some (f q) /\ Rd w M.ok c (f q) /\ (f q).oneCell' = true := fun q hq => by
   have := Classical.choose_spec (hget q hq)
   simp only [f, dif_pos hq]; exact this
  have hld := run_loadVar_agg (P := P) (w := w) (b := k) (off := i * R.sz + j) ht hn f (fun q hq => let ⟨c, _, h, _⟩ := hf q hq; h)
  refine ⟨.agg ((List.range n).map f).toArray, by simp [execOp, ho, hav, Instr.loadAt, Instr.sureAddr, Result.andThen, hld], .agg _ _ (by simp; omega) ?_ ?_⟩
  ·intro q u hu
   simp only [List.getElem?_toArray, List.getElem?_map] at hu
   by_cases hq : q < n
   ·rw [List.getElem?_range hq] at hu; cases hu; obtain ⟨_, _, _, _, h⟩ := hf q hq; exact h
   ·rw [List.getElem?_eq_none (by simp; omega)] at hu; cases hu
  ·intro q c u hc hu
   simp only [List.getElem?_toArray, List.getElem?_map] at hu hc
   by_cases hq : q < n
   ·rw [List.getElem?_range hq] at hu; cases hu
    obtain ⟨c', h1, _, h3, _⟩ := hf q hq
    rw [List.getElem?_take, List.getElem?_drop, if_pos hq, h1] at hc
    cases hc; exact .d h3
   ·rw [List.getElem?_eq_none (by simp; omega)] at hu; cases hu
theorem free_len {o : Oper} {S : St} {x : Operand} {t e : TypeId} {clip : Bool} {sz sz' : Nat} {rows : List (List D)} {n : Int} (ho : o.op = .call { callee := .builtin .len, args := #[x], argTypes := #[t] }) (hx : opnd S.T x = some (.d (.sl clip sz rows))) (ht : eltT P t = some (e, sz'))
  (hn : (rows.length : Int) = n) : Free P o S (.d (.int .i64 n)) [] [] :=
 free_val (by simp [ho]) fun base M yl a w hr => by
  have h1 := hr.opnd hx
  unfold eltT at ht
  split at ht
  ·rename_i e' hu
   generalize hv : a.eval x = v at h1
   subst hn
   cases h1 with
   | d h =>
    cases h with
    | sl0 => exact ⟨_, by simp [execOp, ho, resolve, invoke, builtin, Builtin.len_, hv, run_underlying hu, Result.andThen, goInt], .d (.int _ _)⟩
    | slE => exact ⟨_, by simp [execOp, ho, resolve, invoke, builtin, Builtin.len_, hv, run_underlying hu, Result.andThen, goInt], .d (.int _ _)⟩
    | sl => exact ⟨_, by simp [execOp, ho, resolve, invoke, builtin, Builtin.len_, hv, run_underlying hu, Result.andThen, goInt], .d (.int _ _)⟩
  ·cases ht
theorem free_len_nil {o : Oper} {S : St} {x : Operand} {t e : TypeId} {sz' : Nat} (ho : o.op = .call { callee := .builtin .len, args := #[x], argTypes := #[t] }) (hx : opnd S.T x = some (.d .nilsl)) (ht : eltT P t = some (e, sz')) : Free P o S (.d (.int .i64 0)) [] [] :=
 free_val (by simp [ho]) fun base M yl a w hr => by
  have h1 := (hr.opnd hx).nilsl
  unfold eltT at ht
  split at ht
  ·rename_i e' hu
   exact ⟨_, by simp [execOp, ho, resolve, invoke, builtin, Builtin.len_, h1, run_underlying hu, Result.andThen, goInt], .d (.int _ _)⟩
  ·cases ht
theorem free_len_osl {o : Oper} {S : St} {x : Operand} {t e : TypeId} {id sz' : Nat} {R : Row} {n : Int} (ho : o.op = .call { callee := .builtin .len, args := #[x], argTypes := #[t] }) (hx : opnd S.T x = some (.osl id)) (hR : look S.O id = some R) (hs0 : 0 < R.sz) (ht : eltT P t = some (e, sz'))
  (hn : (R.rows.length : Int) = n) : Free P o S (.d (.int .i64 n)) [] [] :=
 free_val (by simp [ho]) fun base M yl a w hr => by
  have h1 := (hr.opnd hx).osl'
  obtain ⟨v, flat, hv, hown, _⟩ := (hr.heap.row id R hR).sl hs0
  rw [h1] at hv; cases hv
  subst hn
  unfold eltT at ht
  split at ht
  ·rename_i e' hu
   rcases hown.2 with ⟨hv, hz⟩ | ⟨g, cap, cur, hv, _⟩
   ·exact ⟨_, by simp [execOp, ho, resolve, invoke, builtin, Builtin.len_, hv, run_underlying hu, Result.andThen, goInt, hz], .d (.int _ _)⟩
   ·exact ⟨_, by simp [execOp, ho, resolve, invoke, builtin, Builtin.len_, hv, run_underlying hu, Result.andThen, goInt], .d (.int _ _)⟩
  ·cases ht
theorem free_lenStr {o : Oper} {S : St} {x : Operand} {t : TypeId} {s : ByteArray} (ho : o.op = .call { callee := .builtin .len, args := #[x], argTypes := #[t] }) (hx : opnd S.T x = some (.d (.str s))) (ht : P.underlying t = some .string) : Free P o S (.d (.int .i64 s.size)) [] [] :=
 free_val (by simp [ho]) fun base M yl a w hr => by
  have h1 := (hr.opnd hx).str
  exact ⟨_, by simp [execOp, ho, resolve, invoke, builtin, Builtin.len_, h1, run_underlying ht, Result.andThen, goInt], .d (.int _ _)⟩
theorem free_max2 {o : Oper} {S : St} {x y : Operand} {ts : Array TypeId} {k : IntKind} {a b : Int} (ho : o.op = .call { callee := .builtin .max, args := #[x, y], argTypes := ts }) (hx : opnd S.T x = some (.d (.int k a))) (hy : opnd S.T y = some (.d (.int k b))) :
  Free P o S (.d (.int k (max a b))) [] [] :=
 free_val (by simp [ho]) fun base M yl ac w hr => by
  have h1 := (hr.opnd hx).int
  have h2 := (hr.opnd hy).int
  refine ⟨.int k (max a b), ?_, .d (.int _ _)⟩
  have : (if b > a then b else a) = max a b := by rw [Int.max_def]; split <;> split <;> omega
  simp [execOp, ho, resolve, invoke, builtin, Builtin.max_, Builtin.max2, h1, h2, Result.andThen]
  exact this
theorem free_min2 {o : Oper} {S : St} {x y : Operand} {ts : Array TypeId} {k : IntKind} {a b : Int} (ho : o.op = .call { callee := .builtin .min, args := #[x, y], argTypes := ts }) (hx : opnd S.T x = some (.d (.int k a))) (hy : opnd S.T y = some (.d (.int k b))) :
  Free P o S (.d (.int k (min a b))) [] [] :=
 free_val (by simp [ho]) fun base M yl ac w hr => by
  have h1 := (hr.opnd hx).int
  have h2 := (hr.opnd hy).int
  refine ⟨.int k (min a b), ?_, .d (.int _ _)⟩
  have : (if b < a then b else a) = min a b := by rw [Int.min_def]; split <;> split <;> omega
  simp [execOp, ho, resolve, invoke, builtin, Builtin.min_, Builtin.min2, h1, h2, Result.andThen]
  exact this
theorem free_max3 {o : Oper} {S : St} {x y z : Operand} {ts : Array TypeId} {k : IntKind} {a b c : Int} (ho : o.op = .call { callee := .builtin .max, args := #[x, y, z], argTypes := ts }) (hx : opnd S.T x = some (.d (.int k a))) (hy : opnd S.T y = some (.d (.int k b)))
  (hz : opnd S.T z = some (.d (.int k c))) : Free P o S (.d (.int k (max (max a b) c))) [] [] :=
 free_val (by simp [ho]) fun base M yl ac w hr => by
  have h1 := (hr.opnd hx).int
  have h2 := (hr.opnd hy).int
  have h3 := (hr.opnd hz).int
  refine ⟨.int k (max (max a b) c), ?_, .d (.int _ _)⟩
  have e1 : (if b > a then b else a) = max a b := by rw [Int.max_def]; split <;> split <;> omega
  have e2 : (if max a b < c then c else max a b) = max a (max b c) := by rw [<- Int.max_assoc]; rw [Int.max_def (max a b)]; split <;> split <;> omega
  simp [execOp, ho, resolve, invoke, builtin, Builtin.max_, Builtin.max2, h1, h2, h3, Result.andThen, e1]
  exact e2
theorem free_conv {o : Oper} {S : St} {x : Operand} {s d : TypeId} {ks k : IntKind} {n : Int} {sd : TypeDesc} (ho : o.op = .convert s d x) (hx : opnd S.T x = some (.d (.int ks n))) (hs : P.underlying s = some sd) (hd : P.underlying d = some (.int k)) :
  Free P o S (.d (.int k (k.wrap n))) [] [] :=
 free_val (by simp [ho]) fun base M yl ac w hr => by
  have h1 := (hr.opnd hx).int
  refine ⟨.int k (k.wrap n), ?_, .d (.int _ _)⟩
  simp [execOp, ho, h1, convert, run_underlying hs, run_underlying hd, Result.andThen, Conv.intToInt]
theorem free_index_str {o : Oper} {S : St} {t : TypeId} {x ix : Operand} {k : IntKind} {i : Int} {s : ByteArray} {b : UInt8} (ho : o.op = .index t x ix) (hx : opnd S.T x = some (.d (.str s))) (hix : opnd S.T ix = some (.d (.int k i))) (ht : P.underlying t = some .string)
  (h0 : 0 <= i) (hb : s[i.toNat]? = some b) : Free P o S (.d (.int .u8 b.toNat)) [] [] :=
 free_val (by simp [ho]) fun base M yl ac w hr => by
  have h1 := (hr.opnd hx).str
  have h2 := (hr.opnd hix).int
  exact ⟨_, by simp [execOp, ho, h1, h2, Instr.index, asIntOf, run_underlying ht, Result.andThen, h0, hb], .d (.int _ _)⟩
end Go.Proofs.Ytfilnnbfppokmaa.Aw
namespace Go.Proofs.Ytfilnnbfppokmaa.Aw
open Go Go.RowKit
variable {P : Program}
def avCells : AV -> Option (List AV)
 | .any => none
 | .agg cs => some cs
 | .tup _ => none
 | .d (.agg _) => none
 | v => some [v]
theorem avCells_spec {w : World} {ok : Nat -> Prop} {μ : Nat -> Option Nat} {ν : Nat -> Option Value} {yl : Nat} {c : AV} {v : Value} {cs : List AV} (h : RdA w ok μ ν yl c v) (hc : avCells c = some cs) :
  v.cells.size = cs.length /\ (∀ (i : Nat) (u : Value), v.cells[i]? = some u -> u.oneCell' = true) /\ ∀ (i : Nat) (x : AV) (u : Value), cs[i]? = some x -> v.cells[i]? = some u -> RdA w ok μ ν yl x u := by
 have one : ∀ {c : AV} {v : Value} {cs : List AV}, RdA w ok μ ν yl c v -> v.oneCell' = true -> cs = [c] ->
   v.cells.size = cs.length /\ (∀ (i : Nat) (u : Value), v.cells[i]? = some u -> u.oneCell' = true) /\ ∀ (i : Nat) (x : AV) (u : Value), cs[i]? = some x -> v.cells[i]? = some u -> RdA w ok μ ν yl x u := by
  intro c v cs h h1 e
  subst e
  have hv : v.cells = #[v] := by cases v <;> first | rfl | cases h1
  rw [hv]
  refine ⟨rfl, fun i u hu => ?_, fun i x u hx hu => ?_⟩
  ·cases i with
   | zero => simp at hu; subst hu; exact h1
   | succ i => simp at hu
  ·cases i with
   | zero => simp at hu hx; subst hu hx; exact h
   | succ i => simp at hu
 cases c with
 | any => cases hc
 | tup _ => cases hc
 | agg l =>
  simp only [avCells, Option.some.injEq] at hc; subst hc
  obtain ⟨vs, rfl, h2, h3, h4⟩ := h.agg'
  exact ⟨h2, h3, h4⟩
 | d x =>
  cases x with
  | agg _ => cases hc
  | _ =>
   simp only [avCells, Option.some.injEq] at hc
   refine one h ?_ hc.symm
   cases h with
   | d h => exact h.one (by intro cs; simp)
 | fn f l => simp only [avCells, Option.some.injEq] at hc; exact one h (by cases h; rfl) hc.symm
 | loc b o => simp only [avCells, Option.some.injEq] at hc; exact one h (by cases h; rfl) hc.symm
 | asl b o l c => simp only [avCells, Option.some.injEq] at hc; exact one h (by cases h; rfl) hc.symm
 | oloc b o l c => simp only [avCells, Option.some.injEq] at hc; exact one h (by cases h; rfl) hc.symm
 | yld => simp only [avCells, Option.some.injEq] at hc; exact one h (by cases h; rfl) hc.symm
 | osl id => simp only [avCells, Option.some.injEq] at hc; exact one h (by cases h with | osl _ h1 => exact h1) hc.symm
theorem heap_new (w : World) (o : Obj) : (w.alloc o).heap[w.heap.size]? = some o := heap_alloc_new w o
def setμ (M : Mp) (b k : Nat) : Mp := { M with μ := fun x => if x = b then some k else M.μ x }
theorem New.box {base : Nat} {S : St} {M : Mp} {yl : Nat} {a : Act} {w : World} {b : Nat} {e : TypeId} {cs : List AV} {vs : Array Value} (hr : Rel base S M yl a w) (hl : vs.size = cs.length) (h1 : ∀ (i : Nat) (u : Value), vs[i]? = some u -> u.oneCell' = true)
  (h : ∀ (i : Nat) (x : AV) (u : Value), cs[i]? = some x -> vs[i]? = some u -> RdA w M.ok M.μ M.ν yl x u) (hb : ∀ c ∈ cs, c.box b = false) :
  New M yl w [(b, ⟨e, cs, true⟩)] [] (.loc b 0) (.pointer (some ⟨w.heap.size, 0, none⟩)) (setμ M b w.heap.size) (w.alloc (.cells vs e)) where
 below := (Below.refl _ _).alloc (Nat.le_refl _) _
 lv := rfl
 rd := rfl
 ds := rfl
 μ x hx := by
  have : ¬ x = b := fun e => hx (by simp [keys, e])
  simp [setμ, this]
 ν _ _ := rfl
 okm _ x := x
 okn _ x := .inl x
 res := .loc (by simp [setμ])
 heap := by
  have hw : ∀ k, M.ok k -> (w.alloc (.cells vs e)).heap[k]? = w.heap[k]? := fun k hk => Below.heap_alloc w _ k (hr.okLt k hk)
  refine ⟨fun b' B hB => ?_, fun b' B hB => (by cases hB), fun x y k hx hy => ?_⟩
  ·simp only [look] at hB
   by_cases hbb : b = b'
   ·rw [if_pos hbb] at hB; cases hB; subst hbb
    refine ⟨w.heap.size, vs, by simp [setμ], Nat.le_refl _, heap_new _ _, hl, fun i c v hc hv => (h i c v hc hv).mono (fun _ x => x) hw (fun b' hb' => ?_) (fun _ _ => rfl), h1, fun _ hk => by have := hr.okLt _ hk; omega, fun hf => by cases hf⟩
    have : ¬ b' = b := fun e => by subst e; rw [hb c (List.mem_of_getElem? hc)] at hb'; cases hb'
    simp [setμ, this]
   ·rw [if_neg hbb] at hB; cases hB
  ·cases x with
   | inr id => obtain ⟨⟨_, h⟩, _⟩ := hx; cases h
   | inl x =>
    cases y with
    | inr id => obtain ⟨⟨_, h⟩, _⟩ := hy; cases h
    | inl y =>
     obtain ⟨⟨_, hx⟩, _⟩ := hx
     obtain ⟨⟨_, hy⟩, _⟩ := hy
     simp only [look] at hx hy
     by_cases h1 : b = x
     ·by_cases h2 : b = y
      ·rw [<- h1, <- h2]
      ·rw [if_neg h2] at hy; cases hy
     ·rw [if_neg h1] at hx; cases hx
theorem free_box {o : Oper} {S : St} {e : TypeId} {x : Operand} {c : AV} {cs : List AV} {b : Nat} (ho : o.op = .box e x) (hx : opnd S.T x = some c) (hc : avCells c = some cs) (hb : cs.any (fun c => c.box b) = false) : Free P o S (.loc b 0) [(b, ⟨e, cs, true⟩)] [] :=
 free_run (by simp [ho]) fun base M yl a w hr => by
  obtain ⟨h1, h2, h3⟩ := avCells_spec (hr.opnd hx) hc
  refine ⟨_, _, _, ?_, New.box hr h1 h2 h3 (fun c hcc => by simpa using List.any_eq_false.1 hb c hcc)⟩
  simp [execOp, ho, Instr.box, newVar, newRow, Result.andThen]
def zeroC (P : Program) (e : TypeId) : Option (List AV) := ((P.info? e).bind (·.zero)).bind fun z => z.cells.toList.mapM constAV
theorem mapM_get {α β : Type} {f : α -> Option β} : ∀ {l : List α} {r : List β}, l.mapM f = some r -> l.length = r.length /\ ∀ (i : Nat) (y : β), r[i]? = some y -> ∃ x, l[i]? = some x /\ f x = some y
 | [], r, h => by simp at h; subst h; simp
 | x :: l, r, h => by
  simp only [List.mapM_cons, Option.bind_eq_bind, Option.bind_eq_some_iff, Option.pure_def, Option.some.injEq] at h
  obtain ⟨c, h1, cs, h2, rfl⟩ := h
  obtain ⟨e1, e2⟩ := mapM_get h2
  refine ⟨by simp [e1], fun i y hy => ?_⟩
  cases i with
  | zero => simp at hy; subst hy; exact ⟨x, rfl, h1⟩
  | succ i => simp at hy ⊢; exact e2 i y hy
theorem constAV_spec {w : World} {ok : Nat -> Prop} {μ : Nat -> Option Nat} {ν : Nat -> Option Value} {yl : Nat} {v : Value} {c : AV} (h : constAV v = some c) : RdA w ok μ ν yl c v /\ v.oneCell' = true /\ ∀ b, c.box b = false := by
 cases v with
 | int k n => simp [constAV] at h; subst h; exact ⟨.d (.int k n), rfl, fun _ => rfl⟩
 | bool b => simp [constAV] at h; subst h; exact ⟨.d (.bool b), rfl, fun _ => rfl⟩
 | string s => simp [constAV] at h; subst h; exact ⟨.d (.str s), rfl, fun _ => rfl⟩
 | nilFunc => simp [constAV] at h; subst h; exact ⟨.d .nilfn, rfl, fun _ => rfl⟩
 | map m => cases m with
  | none => simp [constAV] at h; subst h; exact ⟨.d .nilmap, rfl, fun _ => rfl⟩
  | some m => simp [constAV] at h
 | pointer m => cases m with
  | none => simp [constAV] at h; subst h; exact ⟨.d .nilptr, rfl, fun _ => rfl⟩
  | some m => simp [constAV] at h
 | slice ad n k =>
  cases ad with
  | some ad => simp [constAV] at h
  | none =>
   cases n with
   | succ n => simp [constAV] at h
   | zero =>
    cases k with
    | succ k => simp [constAV] at h
    | zero => simp [constAV] at h; subst h; exact ⟨.d .nilsl, rfl, fun _ => rfl⟩
 | _ => simp [constAV] at h
theorem free_alloc {o : Oper} {S : St} {e : TypeId} {cs : List AV} {b : Nat} (ho : o.op = .alloc e) (hz : zeroC P e = some cs) : Free P o S (.loc b 0) [(b, ⟨e, cs, true⟩)] [] :=
 free_run (by simp [ho]) fun base M yl a w hr => by
  unfold zeroC at hz
  cases hi : P.info? e with
  | none => rw [hi] at hz; cases hz
  | some i =>
   rw [hi] at hz
   simp only [Option.bind_some] at hz
   cases hzz : i.zero with
   | none => rw [hzz] at hz; cases hz
   | some z =>
    rw [hzz] at hz
    simp only [Option.bind_some] at hz
    obtain ⟨e1, e2⟩ := mapM_get hz
    have hall : ∀ (j : Nat) (u : Value), z.cells[j]? = some u -> ∃ c, cs[j]? = some c /\ constAV u = some c := fun j u hu => by
     have hj : j < cs.length := by rw [<- e1]; have := (Array.getElem?_eq_some_iff.1 hu).1; simpa using this
     obtain ⟨x, hx, hc⟩ := e2 j cs[j] (by simp)
     rw [Array.getElem?_toList, hu] at hx; cases hx
     exact ⟨cs[j], by simp, hc⟩
    refine ⟨_, _, _, ?_, New.box (cs := cs) (vs := z.cells) (e := e) (b := b) hr (by simpa using e1) (fun j u hu => ?_) (fun j c u hc hu => ?_) (fun c hc => ?_)⟩
    ·simp [execOp, ho, Instr.alloc, zeroValue, typeInfo, hi, hzz, newVar, newRow, Result.andThen]
    ·obtain ⟨c, _, h⟩ := hall j u hu; exact (constAV_spec (w := w) (ok := M.ok) (μ := M.μ) (ν := M.ν) (yl := yl) h).2.1
    ·obtain ⟨c', h1, h⟩ := hall j u hu
     rw [h1] at hc; cases hc
     exact (constAV_spec h).1
    ·obtain ⟨j, hj⟩ := List.getElem?_of_mem hc
     obtain ⟨x, hx, h⟩ := e2 j c hj
     exact (constAV_spec (w := w) (ok := M.ok) (μ := M.μ) (ν := M.ν) (yl := yl) h).2.2 b
end Go.Proofs.Ytfilnnbfppokmaa.Aw
namespace Go.Proofs.Ytfilnnbfppokmaa.Aw
open Go Go.RowKit
variable {P : Program}
structure CellsRel (w : World) (ok : Nat -> Prop) (μ : Nat -> Option Nat) (ν : Nat -> Option Value) (yl : Nat) (cs : List AV) (vs : Array Value) : Prop where
 len : vs.size = cs.length
 one : ∀ (i : Nat) (u : Value), vs[i]? = some u -> u.oneCell' = true
 get : ∀ (i : Nat) (x : AV) (u : Value), cs[i]? = some x -> vs[i]? = some u -> RdA w ok μ ν yl x u
def putL (cells : List AV) (off : Nat) (cs : List AV) : List AV := cells.take off ++ cs ++ cells.drop (off + cs.length)
def fillA (pl : Nat -> Option (Nat × Nat)) : List AV -> List (Nat × AV) -> Option (List AV)
 | cells, [] => some cells
 | cells, (i, c) :: rest => match pl i, avCells c with
  | some (off, size), some cs => if Nat.beq cs.length size && Nat.ble (off + size) cells.length then fillA pl (putL cells off cs) rest else none
  | _, _ => none
theorem setAll_get : ∀ (l : List Value) (off : Nat) (k : Nat) (cs : Array Value), off + k + l.length <= cs.size ->
  let r := (l.zipIdx k).foldl (fun cs (p : Value × Nat) => cs.setIfInBounds (off + p.2) p.1) cs
  r.size = cs.size /\ ∀ i, r[i]? = if off + k <= i /\ i < off + k + l.length then l[i - (off + k)]? else cs[i]?
 | [], off, k, cs, h => by simp; intro i h1 h2; omega
 | v :: l, off, k, cs, h => by
  simp only [List.zipIdx_cons, List.foldl_cons, List.length_cons] at h ⊢
  obtain ⟨h1, h2⟩ := setAll_get l off (k + 1) (cs.setIfInBounds (off + k) v) (by simp; omega)
  refine ⟨by rw [h1]; simp, fun i => ?_⟩
  rw [h2 i]
  by_cases hi : off + (k + 1) <= i /\ i < off + (k + 1) + l.length
  ·rw [if_pos hi, if_pos (by omega), show i - (off + k) = (i - (off + (k + 1))) + 1 from by omega, List.getElem?_cons_succ]
  ·rw [if_neg hi, Array.getElem?_setIfInBounds]
   by_cases e : off + k = i
   ·subst e; rw [if_pos rfl, if_pos (by omega), if_pos (by omega), Nat.sub_self]; rfl
   ·rw [if_neg e, if_neg (by omega)]
theorem fill_rel {w : World} {ok : Nat -> Prop} {μ : Nat -> Option Nat} {ν : Nat -> Option Value} {yl : Nat} {pl : Nat -> Option (Nat × Nat)} : ∀ (ps : List (Nat × AV)) (vps : List (Nat × Value)) (cells cells' : List AV) (vs : Array Value),
  CellsRel w ok μ ν yl cells vs -> vps.length = ps.length -> (∀ (j : Nat) (p : Nat × AV) (q : Nat × Value), ps[j]? = some p -> vps[j]? = some q -> p.1 = q.1 /\ RdA w ok μ ν yl p.2 q.2) -> fillA pl cells ps = some cells' ->
  ∃ vs', Instr.fill pl vs vps = some vs' /\ CellsRel w ok μ ν yl cells' vs'
 | [], vps, cells, cells', vs, h, hl, _, hf => by
  have : vps = [] := List.eq_nil_of_length_eq_zero (by simpa using hl)
  subst this
  simp only [fillA, Option.some.injEq] at hf; subst hf
  exact ⟨vs, rfl, h⟩
 | (i, c) :: rest, vps, cells, cells', vs, h, hl, hp, hf => by
  cases vps with
  | nil => simp at hl
  | cons q vrest =>
   obtain ⟨i', v⟩ := q
   obtain ⟨e1, hv⟩ := hp 0 (i, c) (i', v) rfl rfl
   simp only at e1 hv; subst e1
   simp only [fillA] at hf
   cases hpl : pl i with
   | none => rw [hpl] at hf; cases hf
   | some os =>
    obtain ⟨off, size⟩ := os
    cases hc : avCells c with
    | none => rw [hpl, hc] at hf; cases hf
    | some cs =>
     rw [hpl, hc] at hf
     simp only at hf
     by_cases hb : (Nat.beq cs.length size && Nat.ble (off + size) cells.length) = true
     ·rw [if_pos hb] at hf
      simp only [Bool.and_eq_true, Nat.beq_eq, Nat.ble_eq] at hb
      obtain ⟨b1, b2⟩ := hb
      obtain ⟨g1, g2, g3⟩ := avCells_spec hv hc
      have hfit : off + v.cells.size <= vs.size := by rw [h.len]; omega
      have hz : v.cells.zipIdx.foldl (fun cs (p : Value × Nat) => cs.setIfInBounds (off + p.2) p.1) vs = (v.cells.toList.zipIdx 0).foldl (fun cs (p : Value × Nat) => cs.setIfInBounds (off + p.2) p.1) vs := by
       rw [<- Array.foldl_toList, Array.toList_zipIdx]
      obtain ⟨s1, s2⟩ := setAll_get v.cells.toList off 0 vs (by simp; omega)
      simp only [<- hz] at s1 s2
      have hrel : CellsRel w ok μ ν yl (putL cells off cs) (v.cells.zipIdx.foldl (fun cs (p : Value × Nat) => cs.setIfInBounds (off + p.2) p.1) vs) := by
       have hget : ∀ j, (putL cells off cs)[j]? = if off <= j /\ j < off + cs.length then cs[j - off]? else cells[j]? := by
        intro j
        unfold putL
        have hto : (cells.take off).length = off := by simp; omega
        by_cases h1 : j < off
        ·rw [List.append_assoc, List.getElem?_append_left (by omega), List.getElem?_take, if_pos h1, if_neg (by omega)]
        ·by_cases h2 : j < off + cs.length
         ·rw [List.append_assoc, List.getElem?_append_right (by omega), hto, List.getElem?_append_left (by omega), if_pos (by omega)]
         ·rw [List.getElem?_append_right (by simp; omega), if_neg (by omega), List.getElem?_drop, List.length_append, hto]
          congr 1; omega
       refine ⟨?_, fun j u hu => ?_, fun j x u hx hu => ?_⟩
       ·rw [s1, h.len]; simp [putL]; omega
       ·rw [s2 j] at hu
        split at hu
        ·rw [Array.getElem?_toList] at hu; exact g2 _ u hu
        ·exact h.one j u hu
       ·rw [s2 j] at hu
        rw [hget j] at hx
        simp only [Nat.add_zero, Array.length_toList] at hu
        by_cases hh : off <= j /\ j < off + cs.length
        ·rw [if_pos hh] at hx; rw [if_pos (by omega), Array.getElem?_toList] at hu; exact g3 _ x u hx hu
        ·rw [if_neg hh] at hx; rw [if_neg (by omega)] at hu; exact h.get j x u hx hu
      obtain ⟨vs', f1, f2⟩ := fill_rel rest vrest (putL cells off cs) cells' _ hrel (by simpa using hl) (fun j p q h1 h2 => hp (j + 1) p q (by simpa using h1) (by simpa using h2)) hf
      refine ⟨vs', ?_, f2⟩
      simp only [Instr.fill, hpl]
      rw [if_neg (by simp; omega)]
      exact f1
     ·rw [if_neg hb] at hf; cases hf
inductive Pl where
 | st (l : List (Nat × Nat))
 | ar (n : Nat)
def Pl.at : Pl -> Nat -> Option (Nat × Nat)
 | .st l, i => l[i]?
 | .ar n, i => some (i * n, n)
def plT (P : Program) (t : TypeId) : Option Pl := match P.underlying t with
 | some (.struct fs) => (fs.toList.mapM fun f => (szT P f.type).map fun n => (f.offset, n)).map Pl.st
 | some (.array _ e) => (szT P e).map Pl.ar
 | _ => none
def partsA (T : List (Nat × AV)) : List (Nat × Operand) -> Option (List (Nat × AV))
 | [] => some []
 | (i, x) :: r => match opnd T x, partsA T r with
  | some c, some l => some ((i, c) :: l)
  | _, _ => none
theorem partsA_get {T : List (Nat × AV)} : ∀ {l : List (Nat × Operand)} {ps : List (Nat × AV)}, partsA T l = some ps -> l.length = ps.length /\ ∀ (j : Nat) (p : Nat × AV), ps[j]? = some p -> ∃ x, l[j]? = some (p.1, x) /\ opnd T x = some p.2
 | [], ps, h => by simp [partsA] at h; subst h; simp
 | (i, x) :: r, ps, h => by
  simp only [partsA] at h
  cases h1 : opnd T x with
  | none => rw [h1] at h; cases h
  | some c =>
   cases h2 : partsA T r with
   | none => rw [h1, h2] at h; cases h
   | some l =>
    rw [h1, h2] at h
    simp only [Option.some.injEq] at h; subst h
    obtain ⟨e1, e2⟩ := partsA_get h2
    refine ⟨by simp [e1], fun j p hp => ?_⟩
    cases j with
    | zero => simp at hp; subst hp; exact ⟨x, rfl, h1⟩
    | succ j => simp at hp ⊢; exact e2 j p hp
theorem zeroC_rel {e : TypeId} {cs : List AV} (hz : zeroC P e = some cs) : ∃ it z, P.info? e = some it /\ it.zero = some z /\ ∀ (w : World) (ok : Nat -> Prop) (μ : Nat -> Option Nat) (ν : Nat -> Option Value) (yl : Nat), CellsRel w ok μ ν yl cs z.cells := by
 unfold zeroC at hz
 cases hi : P.info? e with
 | none => rw [hi] at hz; cases hz
 | some i =>
  rw [hi] at hz
  simp only [Option.bind_some] at hz
  cases hzz : i.zero with
  | none => rw [hzz] at hz; cases hz
  | some z =>
   rw [hzz] at hz
   simp only [Option.bind_some] at hz
   obtain ⟨e1, e2⟩ := mapM_get hz
   have hall : ∀ (j : Nat) (u : Value), z.cells[j]? = some u -> ∃ c, cs[j]? = some c /\ constAV u = some c := fun j u hu => by
    have hj : j < cs.length := by rw [<- e1]; have := (Array.getElem?_eq_some_iff.1 hu).1; simpa using this
    obtain ⟨x, hx, hc⟩ := e2 j cs[j] (by simp)
    rw [Array.getElem?_toList, hu] at hx; cases hx
    exact ⟨cs[j], by simp, hc⟩
   refine ⟨i, z, rfl, hzz, fun w ok μ ν yl => ⟨by simpa using e1, fun j u hu => ?_, fun j c u hc hu => ?_⟩⟩
   ·obtain ⟨c, _, h⟩ := hall j u hu; exact (constAV_spec (w := w) (ok := ok) (μ := μ) (ν := ν) (yl := yl) h).2.1
   ·obtain ⟨c', h1, h⟩ := hall j u hu
    rw [h1] at hc; cases hc
    exact (constAV_spec h).1
theorem free_build {o : Oper} {S : St} {t : TypeId} {parts : Array (Nat × Operand)} {z cs : List AV} {ps : List (Nat × AV)} {pl : Pl} (ho : o.op = .build t parts) (hz : zeroC P t = some z) (hpl : plT P t = some pl) (hps : partsA S.T parts.toList = some ps)
  (hf : fillA pl.at z ps = some cs) : Free P o S (.agg cs) [] [] :=
 free_val (by simp [ho]) fun base M yl a w hr => by
  obtain ⟨it, zv, hit, hzv, hzr⟩ := zeroC_rel hz
  obtain ⟨e1, e2⟩ := partsA_get hps
  obtain ⟨vs', h1, h2⟩ := fill_rel (w := w) (ok := M.ok) (μ := M.μ) (ν := M.ν) (yl := yl) ps (parts.toList.map fun p => (p.1, a.eval p.2)) z cs zv.cells (hzr w M.ok M.μ M.ν yl) (by simp [<- e1]) (fun j p q hp hq => by
   obtain ⟨x, hx, hxc⟩ := e2 j p hp
   rw [List.getElem?_map, hx] at hq
   simp only [Option.map_some, Option.some.injEq] at hq
   subst hq
   exact ⟨rfl, hr.opnd hxc⟩) hf
  have hbuilt : P.built t (parts.map fun p => (p.1, a.eval p.2)).toList = some vs' := by
   unfold Program.built plT at *
   rw [hit]
   cases hu : P.underlying t with
   | none => rw [hu] at hpl; cases hpl
   | some d =>
    rw [hu] at hpl
    cases d with
    | struct fs =>
     simp only at hpl ⊢
     rw [hzv]
     have hm : (fun f : Field => (P.info? f.type).map fun i => (f.offset, i.size)) = fun f : Field => (szT P f.type).map fun n => (f.offset, n) := by
      funext f; unfold szT; cases P.info? f.type <;> rfl
     rw [hm]
     cases hmm : fs.toList.mapM (fun f => (szT P f.type).map fun n => (f.offset, n)) with
     | none => rw [hmm] at hpl; cases hpl
     | some l =>
      rw [hmm] at hpl
      simp only [Option.map_some, Option.some.injEq] at hpl
      subst hpl
      have : (fun x => l.toArray[x]?) = (Pl.st l).at := by funext i; simp [Pl.at]
      simp only
      rw [this]
      simpa using h1
    | array n e =>
     simp only at hpl ⊢
     rw [hzv]
     unfold szT at hpl
     cases hie : P.info? e with
     | none => rw [hie] at hpl; cases hpl
     | some ie =>
      rw [hie] at hpl
      simp only [Option.map_some, Option.some.injEq] at hpl
      subst hpl
      simp only
      have : (fun i => some (i * ie.size, ie.size)) = (Pl.ar ie.size).at := by funext i; rfl
      rw [this]
      simpa using h1
    | _ => cases hpl
  refine ⟨.agg vs', ?_, .agg cs vs' h2.len h2.one h2.get⟩
  have hrun := run_build (P := P) w t (parts.map fun p => (p.1, a.eval p.2)) vs' hbuilt
  simp only [execOp, ho]
  rw [Sem.run_bind, hrun]
  rfl
end Go.Proofs.Ytfilnnbfppokmaa.Aw
namespace Go.Proofs.Ytfilnnbfppokmaa.Aw
open Go Go.RowKit
variable {P : Program}
theorem flatten_get {α : Type} {sz : Nat} : ∀ {rows : List (List α)}, (∀ row ∈ rows, row.length = sz) -> ∀ {i : Nat} {row : List α} {j : Nat} {c : α}, rows[i]? = some row -> row[j]? = some c -> rows.flatten[i * sz + j]? = some c
 | [], _, i, row, j, c, h, _ => by simp at h
 | r :: rest, hsz, 0, row, j, c, h, hj => by
  simp at h; subst h
  rw [Nat.zero_mul, Nat.zero_add, List.flatten_cons, List.getElem?_append_left (List.getElem?_eq_some_iff.1 hj).1]; exact hj
 | r :: rest, hsz, i + 1, row, j, c, h, hj => by
  have hr : r.length = sz := hsz r (by simp)
  rw [List.flatten_cons, List.getElem?_append_right (by rw [hr, Nat.add_mul]; omega), hr, show (i + 1) * sz + j - sz = i * sz + j from by rw [Nat.add_mul]; omega]
  exact flatten_get (fun row h => hsz row (by simp [h])) (by simpa using h) hj
theorem flatten_len {α : Type} {sz : Nat} : ∀ {rows : List (List α)}, (∀ row ∈ rows, row.length = sz) -> rows.flatten.length = rows.length * sz
 | [], _ => by simp
 | r :: rest, hsz => by
  rw [List.flatten_cons, List.length_append, hsz r (by simp), flatten_len (fun row h => hsz row (by simp [h])), List.length_cons, Nat.add_mul]; omega
def setν (M : Mp) (id : Nat) (v : Value) : Mp := { M with ν := fun x => if x = id then some v else M.ν x }
def moreOk (M : Mp) (k : Nat) : Mp := { M with ok := fun j => M.ok j \/ j = k }
theorem New.row {base : Nat} {S : St} {M : Mp} {yl : Nat} {a : Act} {w : World} {id n cap sz : Nat} {e : TypeId} {rows : List (List D)} {vs : Array Value} (hr : Rel base S M yl a w) (hn : rows.length = n) (hcap : n <= cap) (hm : cap <= maxLen) (hs0 : 0 < sz) (hsz : vs.size = cap * sz)
  (hrow : ∀ row ∈ rows, row.length = sz) (h : ∀ (i : Nat) (row : List D) (j : Nat) (c : D), rows[i]? = some row -> row[j]? = some c -> ∃ x, vs[i * sz + j]? = some x /\ Rd w M.ok c x /\ x.oneCell' = true) :
  New M yl w [] [(id, ⟨e, sz, rows, true, true⟩)] (.osl id) (.slice (some ⟨w.heap.size, 0, none⟩) n cap) (setν M id (.slice (some ⟨w.heap.size, 0, none⟩) n cap)) (w.alloc (.cells vs e)) where
 below := (Below.refl _ _).alloc (Nat.le_refl _) _
 lv := rfl
 rd := rfl
 ds := rfl
 μ _ _ := rfl
 ν x hx := by
  have : ¬ x = id := fun e => hx (by simp [keys, e])
  simp [setν, this]
 okm _ x := x
 okn _ x := .inl x
 res := .osl (by simp [setν]) rfl
 heap := by
  subst hn
  have hw : ∀ k, M.ok k -> (w.alloc (.cells vs e)).heap[k]? = w.heap[k]? := fun k hk => Below.heap_alloc w _ k (hr.okLt k hk)
  refine ⟨fun b' B hB => (by cases hB), fun id' R hR => ?_, fun x y k hx hy => ?_⟩
  ·simp only [look] at hR
   by_cases hbb : id = id'
   ·rw [if_pos hbb] at hR; cases hR; subst hbb
    refine RowOk.mk' hs0 ⟨_, vs.toList.take (rows.length * sz), by simp [setν], ⟨?_, .inr ⟨w.heap.size, cap, vs, rfl, Nat.le_refl _, heap_alloc_new w _, hcap, hm, hsz, rfl⟩⟩, ⟨hrow, fun i row j c hi hj => ?_⟩, fun _ => by simp, fun k hk => ⟨fun _ hok => ?_, fun hf => by cases hf⟩⟩
    ·show (vs.toList.take (rows.length * sz)).length = rows.length * sz
     have hvl : vs.toList.length = cap * sz := by simpa using hsz
     rw [List.length_take, hvl]; exact Nat.min_eq_left (Nat.mul_le_mul_right _ hcap)
    ·obtain ⟨x, h1, h2, h3⟩ := h i row j c hi hj
     have hlt : i * sz + j < rows.length * sz := by
      have hi' := (List.getElem?_eq_some_iff.1 hi).1
      have hj' := (List.getElem?_eq_some_iff.1 hj).1
      rw [hrow row (List.mem_of_getElem? hi)] at hj'
      calc i * sz + j < i * sz + sz := by omega
       _ = (i + 1) * sz := by rw [Nat.add_mul]; omega
       _ <= rows.length * sz := Nat.mul_le_mul_right _ hi'
     exact ⟨x, by rw [List.getElem?_take, if_pos hlt, Array.getElem?_toList]; exact h1, h2.mono (fun _ x => x) hw, h3⟩
    ·simp [Value.ownBlock] at hk; have := hr.okLt k hok; omega
   ·rw [if_neg hbb] at hR; cases hR
  ·cases x with
   | inl b => obtain ⟨⟨_, h⟩, _⟩ := hx; cases h
   | inr x =>
    cases y with
    | inl b => obtain ⟨⟨_, h⟩, _⟩ := hy; cases h
    | inr y =>
     obtain ⟨⟨_, hx⟩, _⟩ := hx
     obtain ⟨⟨_, hy⟩, _⟩ := hy
     simp only [look] at hx hy
     by_cases h1 : id = x
     ·by_cases h2 : id = y
      ·rw [<- h1, <- h2]
      ·rw [if_neg h2] at hy; cases hy
     ·rw [if_neg h1] at hx; cases hx
theorem New.keptRow {base : Nat} {S : St} {M : Mp} {yl : Nat} {a : Act} {w : World} {n sz : Nat} {e : TypeId} {rows : List (List D)} {vs : Array Value} (hr : Rel base S M yl a w) (hn : rows.length = n) (hm : n <= maxLen)
  (hrow : ∀ row ∈ rows, row.length = sz) (h : ∀ (i : Nat) (row : List D) (j : Nat) (c : D), rows[i]? = some row -> row[j]? = some c -> ∃ x, vs[i * sz + j]? = some x /\ Rd w M.ok c x /\ x.oneCell' = true) :
  New M yl w [] [] (.d (.sl true sz rows)) (.slice (some ⟨w.heap.size, 0, none⟩) n n) (moreOk M w.heap.size) (w.alloc (.cells vs e)) where
 below := (Below.refl _ _).alloc (Nat.le_refl _) _
 lv := rfl
 rd := rfl
 ds := rfl
 μ _ _ := rfl
 ν _ _ := rfl
 okm _ x := .inl x
 okn k x := x.elim .inl (fun e => .inr ⟨by omega, by simp [e]⟩)
 res := by
  subst hn
  have hw : ∀ k, M.ok k -> (w.alloc (.cells vs e)).heap[k]? = w.heap[k]? := fun k hk => Below.heap_alloc w _ k (hr.okLt k hk)
  refine .d (.sl true sz rows w.heap.size 0 rows.length (fun i j => vs.getD (i * sz + j) undef) (.inr rfl) (Nat.le_refl _) hm (fun _ => rfl) hrow (fun i row j c hi hj => ?_) (fun i row j c hi hj => ?_) (fun i row j c hi hj => ?_))
  ·obtain ⟨x, h1, _, _⟩ := h i row j c hi hj
   have hl : i * sz + j < vs.size := (Array.getElem?_eq_some_iff.1 h1).1
   have hk := heap_alloc_new w (.cells vs e)
   simp only [World.cell?, hk, Option.isSome_none, Bool.false_eq_true, if_false, Nat.zero_add]
   rw [Array.getD_eq_getD_getElem?, h1]; rfl
  ·obtain ⟨x, h1, _, h3⟩ := h i row j c hi hj
   rw [Array.getD_eq_getD_getElem?, h1]
   exact h3
  ·obtain ⟨x, h1, h2, _⟩ := h i row j c hi hj
   rw [Array.getD_eq_getD_getElem?, h1]
   exact h2.mono (fun _ x => .inl x) hw
 heap := ⟨fun b B h => (by cases h), fun b B h => (by cases h), fun x y k hx => by cases x <;> (obtain ⟨⟨_, h⟩, _⟩ := hx; cases h)⟩
theorem run_buildSlice {t e : TypeId} {sz len : Nat} {zc : List AV} {w : World} {ok : Nat -> Prop} {μ : Nat -> Option Nat} {ν : Nat -> Option Value} {yl : Nat} {ps : List (Nat × AV)} {vps : Array (Nat × Value)} {cells : List AV} (ht : eltT P t = some (e, sz)) (hz : zeroC P e = some zc)
  (hb : Nat.ble (len * sz) 16777216 = true) (hl : vps.toList.length = ps.length) (hp : ∀ (j : Nat) (p : Nat × AV) (q : Nat × Value), ps[j]? = some p -> vps.toList[j]? = some q -> p.1 = q.1 /\ RdA w ok μ ν yl p.2 q.2)
  (hf : fillA (Pl.ar sz).at (List.replicate (len * sz) .any) ps = some cells) :
  ∃ vs, (Instr.buildSlice t len vps).run P w = .ok (.slice (some ⟨w.heap.size, 0, none⟩) len len) (w.alloc (.cells vs e)) /\ CellsRel w ok μ ν yl cells vs := by
 obtain ⟨it, z, hit, hzz, hzr⟩ := zeroC_rel hz
 have hz0 := hzr w ok μ ν yl
 have hinit : ∀ zero : Array Value, (∀ (i : Nat) (u : Value), zero[i]? = some u -> u.oneCell' = true) -> CellsRel w ok μ ν yl (List.replicate (len * sz) .any) ((Array.range (len * sz)).map fun i => zero[i % zero.size]!) := by
  intro zero h1
  refine ⟨by simp, fun i u hu => ?_, fun i x u hx hu => ?_⟩
  ·rw [Array.getElem?_map] at hu
   cases hr : (Array.range (len * sz))[i]? with
   | none => rw [hr] at hu; cases hu
   | some k =>
    rw [hr] at hu
    simp only [Option.map_some, Option.some.injEq] at hu
    subst hu
    by_cases hh : k % zero.size < zero.size
    ·exact h1 (k % zero.size) _ (by rw [getElem!_pos zero _ hh]; simp [hh])
    ·rw [getElem!_neg zero _ hh]; rfl
  ·rw [List.getElem?_replicate] at hx
   split at hx
   ·cases hx; exact .any u
   ·cases hx
 obtain ⟨vs, h1, h2⟩ := fill_rel ps vps.toList (List.replicate (len * sz) .any) cells ((Array.range (len * sz)).map fun i => (if len * sz = 0 then (#[] : Array Value) else z.cells)[i % (if len * sz = 0 then (#[] : Array Value) else z.cells).size]!)
  (hinit _ (by split; (· intro i u hu; simp at hu); exact hz0.one)) hl hp hf
 refine ⟨vs, ?_, h2⟩
 unfold eltT at ht
 split at ht
 ·rename_i e' hu
  cases hs : szT P e' with
  | none => rw [hs] at ht; cases ht
  | some n =>
   rw [hs] at ht
   simp only [Option.map_some, Option.some.injEq, Prod.mk.injEq] at ht
   obtain ⟨e1, e2⟩ := ht
   subst e1 e2
   have hb' : ¬ 16777216 < len * n := by have := Nat.le_of_ble_eq_true hb; omega
   have hpl : (fun i => some (i * n, n)) = (Pl.ar n).at := by funext i; rfl
   by_cases h0 : len * n = 0
   ·simp only [if_pos h0] at h1
    simp [Instr.buildSlice, run_underlying hu, run_sizeOf hs, Result.andThen, hb', h0, newRow]
    rw [hpl]
    simp [h0] at h1
    rw [h1]
    simp [Result.andThen]
   ·simp only [if_neg h0] at h1
    simp [Instr.buildSlice, run_underlying hu, run_sizeOf hs, Result.andThen, hb', h0, newRow, zeroValue, typeInfo, hit, hzz]
    rw [hpl, h1]
    simp [Result.andThen]
 ·cases ht
def allLen (rows : List (List D)) (sz : Nat) : Bool := rows.all fun r => Nat.beq r.length sz
theorem allLen_spec {rows : List (List D)} {sz : Nat} (h : allLen rows sz = true) : ∀ row ∈ rows, row.length = sz := fun row hr => by
 have := List.all_eq_true.1 h row hr
 simpa using this
theorem rows_of_cells {w : World} {ok : Nat -> Prop} {μ : Nat -> Option Nat} {ν : Nat -> Option Value} {yl sz : Nat} {rows : List (List D)} {vs : Array Value} (hl : ∀ row ∈ rows, row.length = sz) (h : CellsRel w ok μ ν yl (rows.flatten.map .d) vs) :
  ∀ (i : Nat) (row : List D) (j : Nat) (c : D), rows[i]? = some row -> row[j]? = some c -> ∃ x, vs[i * sz + j]? = some x /\ Rd w ok c x /\ x.oneCell' = true := by
 intro i row j c hi hj
 have hf := flatten_get hl hi hj
 have hlt : i * sz + j < vs.size := by rw [h.len, List.length_map]; exact (List.getElem?_eq_some_iff.1 hf).1
 refine ⟨vs[i * sz + j], Array.getElem?_eq_getElem hlt, ?_, h.one _ _ (Array.getElem?_eq_getElem hlt)⟩
 have := h.get (i * sz + j) (.d c) _ (by rw [List.getElem?_map, hf]; rfl) (Array.getElem?_eq_getElem hlt)
 cases this with | d h => exact h
theorem partsA_rel {base : Nat} {S : St} {M : Mp} {yl : Nat} {a : Act} {w : World} (hr : Rel base S M yl a w) {parts : Array (Nat × Operand)} {ps : List (Nat × AV)} (hps : partsA S.T parts.toList = some ps) :
  (parts.map fun p => (p.1, a.eval p.2)).toList.length = ps.length /\ ∀ (j : Nat) (p : Nat × AV) (q : Nat × Value), ps[j]? = some p -> (parts.map fun p => (p.1, a.eval p.2)).toList[j]? = some q -> p.1 = q.1 /\ RdA w M.ok M.μ M.ν yl p.2 q.2 := by
 obtain ⟨e1, e2⟩ := partsA_get hps
 refine ⟨by simp [<- e1], fun j p q hp hq => ?_⟩
 obtain ⟨x, hx, hxc⟩ := e2 j p hp
 rw [Array.toList_map, List.getElem?_map, hx] at hq
 simp only [Option.map_some, Option.some.injEq] at hq
 subst hq
 exact ⟨rfl, hr.opnd hxc⟩
theorem free_buildSlice {o : Oper} {S : St} {t e : TypeId} {len sz id : Nat} {parts : Array (Nat × Operand)} {zc : List AV} {ps : List (Nat × AV)} {rows : List (List D)} (ho : o.op = .buildSlice t len parts) (hs0 : 0 < sz) (ht : eltT P t = some (e, sz)) (hz : zeroC P e = some zc)
  (hb : Nat.ble (len * sz) 16777216 = true) (hps : partsA S.T parts.toList = some ps) (hlen : rows.length = len) (hrow : allLen rows sz = true) (hf : fillA (Pl.ar sz).at (List.replicate (len * sz) .any) ps = some (rows.flatten.map .d)) (hm : Nat.ble len 16777216 = true) :
  Free P o S (.osl id) [] [(id, ⟨e, sz, rows, true, true⟩)] :=
 free_run (by simp [ho]) fun base M yl a w hr => by
  obtain ⟨h1, h2⟩ := partsA_rel hr hps
  obtain ⟨vs, h3, h4⟩ := run_buildSlice (P := P) (w := w) (ok := M.ok) (μ := M.μ) (ν := M.ν) (yl := yl) ht hz hb h1 h2 hf
  have hrow' := allLen_spec hrow
  refine ⟨_, _, _, ?_, New.row hr hlen (Nat.le_refl _) (by have := Nat.le_of_ble_eq_true hm; unfold maxLen; omega) hs0 (by rw [h4.len, List.length_map, flatten_len hrow', hlen]) hrow' (rows_of_cells hrow' h4)⟩
  simp only [execOp, ho]
  rw [Sem.run_bind, h3]
  rfl
theorem free_buildSlice_d {o : Oper} {S : St} {t e : TypeId} {len sz : Nat} {parts : Array (Nat × Operand)} {zc : List AV} {ps : List (Nat × AV)} {rows : List (List D)} (ho : o.op = .buildSlice t len parts) (ht : eltT P t = some (e, sz)) (hz : zeroC P e = some zc)
  (hb : Nat.ble (len * sz) 16777216 = true) (hps : partsA S.T parts.toList = some ps) (hlen : rows.length = len) (hrow : allLen rows sz = true) (hf : fillA (Pl.ar sz).at (List.replicate (len * sz) .any) ps = some (rows.flatten.map .d)) (hm : Nat.ble len 16777216 = true) :
  Free P o S (.d (.sl true sz rows)) [] [] :=
 free_run (by simp [ho]) fun base M yl a w hr => by
  obtain ⟨h1, h2⟩ := partsA_rel hr hps
  obtain ⟨vs, h3, h4⟩ := run_buildSlice (P := P) (w := w) (ok := M.ok) (μ := M.μ) (ν := M.ν) (yl := yl) ht hz hb h1 h2 hf
  have hrow' := allLen_spec hrow
  refine ⟨_, _, _, ?_, New.keptRow (e := e) hr hlen (by have := Nat.le_of_ble_eq_true hm; unfold maxLen; omega) hrow' (rows_of_cells hrow' h4)⟩
  simp only [execOp, ho]
  rw [Sem.run_bind, h3]
  rfl
theorem free_makeSlice {o : Oper} {S : St} {t e : TypeId} {x y : Operand} {sz id : Nat} {n : Int} {kx ky : IntKind} {zc : List D} {bytes : Nat} (ho : o.op = .makeSlice t x y) (ht : eltT P t = some (e, sz)) (hz : zeroC P e = some (zc.map .d)) (hzs : zc.length = sz) (hsz : 0 < sz)
  (hby : (P.info? e).map (·.bytes) = some bytes) (hx : opnd S.T x = some (.d (.int kx n))) (hy : opnd S.T y = some (.d (.int ky n))) (h0 : 0 <= n) (hn : (bytes : Int) * n <= 281474976710656) (hm : n <= 9223372036854775807) :
  Free P o S (.osl id) [] [(id, ⟨e, sz, List.replicate n.toNat zc, true, true⟩)] :=
 free_run (by simp [ho]) fun base M yl a w hr => by
  have h1 := (hr.opnd hx).int
  have h2 := (hr.opnd hy).int
  obtain ⟨it, z, hit, hzz, hzr⟩ := zeroC_rel hz
  have hz0 := hzr w M.ok M.μ M.ν yl
  rw [hit] at hby
  simp only [Option.map_some, Option.some.injEq] at hby
  unfold eltT at ht
  split at ht
  ·rename_i e' hu
   cases hs : szT P e' with
   | none => rw [hs] at ht; cases ht
   | some m =>
    rw [hs] at ht
    simp only [Option.map_some, Option.some.injEq, Prod.mk.injEq] at ht
    obtain ⟨e1, e2⟩ := ht
    subst e1 e2
    have hsz' : it.size = m := by unfold szT at hs; rw [hit] at hs; simpa using hs
    have hrun := run_make (P := P) w t e' it z hu hit hzz kx ky n n h0 (Int.le_refl _) (by rw [hby]; exact hn) hm
    have hzsz : z.cells.size = m := by rw [hz0.len, List.length_map, hzs]
    have hcells : ∀ k, k < n.toNat * m -> (madeCells z.cells (n.toNat * m))[k]? = z.cells[k % m]? := fun k hk => by
     unfold madeCells
     have hmod : k % z.cells.size < z.cells.size := by rw [hzsz]; exact Nat.mod_lt _ hsz
     rw [Array.getElem?_map, Array.getElem?_range, if_pos hk]
     simp only [Option.map_some]
     rw [getElem!_pos z.cells _ hmod]
     simp only [hzsz]
     rw [Array.getElem?_eq_getElem (by rw [hzsz]; exact Nat.mod_lt _ hsz)]
    refine ⟨_, _, _, ?_, New.row (id := id) (e := e') (cap := n.toNat) (n := n.toNat) (sz := m) (rows := List.replicate n.toNat zc) (vs := madeCells z.cells (n.toNat * m)) hr (by simp) (Nat.le_refl _) (by unfold maxLen; omega) hsz (by rw [size_madeCells]) (fun row hrow => ?_) (fun i row j c hi hj => ?_)⟩
    ·simp only [execOp, ho, h1, h2]
     rw [Sem.run_bind, hrun, hsz']
     rfl
    ·rw [List.eq_of_mem_replicate hrow, hzs]
    ·rw [List.getElem?_replicate] at hi
     split at hi
     ·rename_i hlt
      cases hi
      have hj' := (List.getElem?_eq_some_iff.1 hj).1
      rw [hzs] at hj'
      have hk : i * m + j < n.toNat * m := by
       calc i * m + j < i * m + m := by omega
        _ = (i + 1) * m := by rw [Nat.add_mul]; omega
        _ <= n.toNat * m := Nat.mul_le_mul_right _ hlt
      have hmod : (i * m + j) % m = j := by rw [Nat.mul_comm, Nat.mul_add_mod, Nat.mod_eq_of_lt hj']
      rw [hcells _ hk, hmod]
      have hjz : j < z.cells.size := by rw [hzsz]; exact hj'
      refine ⟨z.cells[j], Array.getElem?_eq_getElem hjz, ?_, hz0.one j _ (Array.getElem?_eq_getElem hjz)⟩
      have := hz0.get j (.d c) _ (by rw [List.getElem?_map, hj]; rfl) (Array.getElem?_eq_getElem hjz)
      cases this with | d h => exact h
     ·cases hi
  ·cases ht
end Go.Proofs.Ytfilnnbfppokmaa.Aw
namespace Go.Proofs.Ytfilnnbfppokmaa.Aw
open Go Go.RowKit
variable {P : Program}
def Ent (P : Program) (f : Nat) : Prop := ∀ (args : Array Value) (w : World), (callFunc f args).run P w = .ok (.enter f args) w
def enumR (q : Nat) : List Row -> List (Nat × Row)
 | [] => []
 | R :: r => (q, R) :: enumR (q + 1) r
mutual
def AV.sh (q : Nat) : AV -> AV
 | .agg cs => .agg (AV.shL q cs)
 | .tup cs => .tup (AV.shL q cs)
 | .osl id => .osl (q + id)
 | c => c
def AV.shL (q : Nat) : List AV -> List AV
 | [] => []
 | c :: r => c.sh q :: AV.shL q r
end
theorem AV.shL_get {q : Nat} : ∀ {cs : List AV} {i : Nat}, (AV.shL q cs)[i]? = (cs[i]?).map (AV.sh q)
 | [], i => by simp [AV.shL]
 | c :: r, 0 => by simp [AV.shL]
 | c :: r, i + 1 => by simp [AV.shL, AV.shL_get]
theorem AV.shL_len {q : Nat} : ∀ {cs : List AV}, (AV.shL q cs).length = cs.length
 | [] => rfl
 | c :: r => by simp [AV.shL, AV.shL_len]
def Con (P : Program) (f : Nat) (args : List D) (res : AV) (rows : List Row) : Prop :=
 Ent P f /\ ∀ (w : World) (ok : Nat -> Prop) (vs : Array Value), (∀ k, ok k -> k < w.heap.size) -> Rds w ok args vs ->
  Calls P f vs w fun e w' => ∃ v ok' ν', e = .returned v /\ Below w.heap.size w w' /\ (∀ k, ok k -> ok' k) /\ (∀ k, ok' k -> ok k \/ (w.heap.size <= k /\ k < w'.heap.size)) /\
   (∀ μ yl, RdA w' ok' μ ν' yl res v) /\ HeapOk w.heap.size [] (enumR 0 rows) ⟨fun _ => none, ν', ok', fun _ => False, fun _ => False, []⟩ 0 w'
def rowDt (R : Row) : Option D := if 0 < R.sz then some (.sl false R.sz R.rows) else if R.nn = true then some (.map R.rows) else none
def snap (lv : Bool) (S : St) : Nat -> AV -> Option D
 | 0, _ => none
 | n + 1, c => match c with
  | .d (.agg _) => none
  | .d x => some x
  | .agg cs => (cs.mapM (snap lv S n)).map D.agg
  | .fn f cs => (cs.mapM (snap lv S n)).map (D.fn f)
  | .loc b off => match look S.H b with
   | some B => if B.live && !lv then none else (B.cells.mapM (snap lv S n)).map fun l => D.ptr (l.drop off)
   | none => none
  | .osl id => match look S.O id with
   | some R => if R.live && !lv then none else rowDt R
   | none => none
  | _ => none
def okS (lv : Bool) (S : St) (M : Mp) (k : Nat) : Prop := M.ok k \/ (lv = true /\ ∃ x, At S.H S.O M x k /\ Liv S.H S.O x)
theorem row_sl {S : St} {M : Mp} {base yl : Nat} {a : Act} {w : World} {lv : Bool} (hr : Rel base S M yl a w) {id : Nat} {R : Row} (hR : look S.O id = some R) (hs : 0 < R.sz) (hl : (R.live && !lv) = false) {v : Value} (hv : M.ν id = some v) : Rd w (okS lv S M) (.sl false R.sz R.rows) v := by
 obtain ⟨v', flat, h1, h2, h3, h4, h5⟩ := (hr.heap.row id R hR).sl hs
 rw [hv] at h1; cases h1
 rcases h2.2 with ⟨rfl, hz⟩ | ⟨g, cap, cur, rfl, h6, h7, h8, h9, h10, h11⟩
 ·have : R.rows = [] := List.eq_nil_of_length_eq_zero hz
  rw [this]; exact .sl0 _ _
 ·classical
  have hget : ∀ (i : Nat) (row : List D) (j : Nat) (c : D), R.rows[i]? = some row -> row[j]? = some c -> w.cell? ⟨g, 0 + i * R.sz + j, none⟩ = some (flat.getD (i * R.sz + j) undef) /\ Rd w M.ok c (flat.getD (i * R.sz + j) undef) /\ (flat.getD (i * R.sz + j) undef).oneCell' = true := by
   intro i row j c hi hj
   obtain ⟨x, e1, e2, e3⟩ := h3.2 i row j c hi hj
   have := h2.cells rfl (i * R.sz + j) x e1
   have hadd : (⟨g, 0, none⟩ : Addr).add (i * R.sz + j) = ⟨g, i * R.sz + j, none⟩ := by unfold Addr.add; split <;> simp_all
   rw [hadd] at this
   rw [Nat.zero_add, List.getD_eq_getElem?_getD, e1]
   exact ⟨this, e2, e3⟩
  refine .sl false R.sz R.rows g 0 cap (fun i j => flat.getD (i * R.sz + j) undef) ?_ h8 h9 (fun h => by cases h) h3.1 (fun i row j c hi hj => (hget i row j c hi hj).1) (fun i row j c hi hj => (hget i row j c hi hj).2.2) (fun i row j c hi hj => (hget i row j c hi hj).2.1.mono (fun k x => .inl x) (fun _ _ => rfl))
  cases hRl : R.live with
  | false => exact .inl ((h5 g rfl).2 hRl)
  | true =>
   refine .inr ⟨by rw [hRl] at hl; simpa using hl, .inr id, ⟨⟨R, hR⟩, _, hv, rfl⟩, R, hR, hRl⟩
theorem row_map {S : St} {M : Mp} {base yl : Nat} {a : Act} {w : World} {lv : Bool} (hr : Rel base S M yl a w) {id : Nat} {R : Row} (hR : look S.O id = some R) (hs : R.sz = 0) (hn : R.nn = true) (hl : (R.live && !lv) = false) {v : Value} (hv : M.ν id = some v) : Rd w (okS lv S M) (.map R.rows) v := by
 obtain ⟨v', flat, h1, h2, h3, h4, h5⟩ := hr.heap.row id R hR
 rw [hv] at h1; cases h1
 rcases h2 with ⟨h, _⟩ | ⟨_, _, k, es, clock, rfl, e1, e2, e3, e4, e5⟩ | ⟨_, h, _⟩
 ·omega
 ·rw [hs] at h3
  refine .map R.rows k clock es (fun i j => flat.getD (i * 2 + j) undef) ?_ e2 e3 e4 h3.1 (fun i e he => ?_) (fun i row j c hi hj => ?_)
  ·cases hRl : R.live with
   | false => exact .inl ((h5 k rfl).2 hRl)
   | true => exact .inr ⟨by rw [hRl] at hl; simpa using hl, .inr id, ⟨⟨R, hR⟩, _, hv, rfl⟩, R, hR, hRl⟩
  ·obtain ⟨g1, g2⟩ := e5 i e he
   exact ⟨by simp only [List.getD_eq_getElem?_getD, Nat.add_zero, g1, Option.getD_some], by simp only [List.getD_eq_getElem?_getD, g2, Option.getD_some]⟩
  ·obtain ⟨x, f1, f2, _⟩ := h3.2 i row j c hi hj
   have f1' : flat[i * 2 + j]? = some x := f1
   simp only [List.getD_eq_getElem?_getD, f1', Option.getD_some]
   exact f2.mono (fun k x => .inl x) (fun _ _ => rfl)
 ·rw [hn] at h; cases h
theorem row_dt {S : St} {M : Mp} {base yl : Nat} {a : Act} {w : World} {lv : Bool} (hr : Rel base S M yl a w) {id : Nat} {R : Row} (hR : look S.O id = some R) (hl : (R.live && !lv) = false) {v : Value} (hv : M.ν id = some v) {x : D} (hx : rowDt R = some x) : Rd w (okS lv S M) x v /\ ∀ l, x ≠ .agg l := by
 unfold rowDt at hx
 split at hx
 ·rename_i hs; cases hx; exact ⟨row_sl hr hR hs hl hv, fun l => by simp⟩
 ·split at hx
  ·rename_i hs hn; cases hx; exact ⟨row_map hr hR (by omega) hn hl hv, fun l => by simp⟩
  ·cases hx
theorem snap_spec {S : St} {M : Mp} {base yl : Nat} {a : Act} {w : World} {lv : Bool} (hr : Rel base S M yl a w) : ∀ (n : Nat) (c : AV) (x : D) (v : Value), snap lv S n c = some x -> RdA w M.ok M.μ M.ν yl c v ->
  Rd w (okS lv S M) x v /\ ((∀ l, c ≠ .agg l) -> ∀ l, x ≠ .agg l) := by
 intro n
 induction n with
 | zero => intro c x v h; cases h
 | succ n ih =>
  intro c x v h hv
  have hmono : ∀ {x v}, Rd w M.ok x v -> Rd w (okS lv S M) x v := fun h => h.mono (fun k x => .inl x) (fun _ _ => rfl)
  cases c with
  | any => cases h
  | tup _ => cases h
  | asl _ _ _ _ => cases h
  | oloc _ _ _ _ => cases h
  | yld => cases h
  | d y =>
   cases y with
   | agg _ => cases h
   | _ =>
    simp only [snap, Option.some.injEq] at h; subst h
    cases hv with | d hv => exact ⟨hmono hv, fun _ l => by simp⟩
  | agg cs =>
   simp only [snap] at h
   cases hm : cs.mapM (snap lv S n) with
   | none => rw [hm] at h; cases h
   | some l =>
    rw [hm] at h; simp only [Option.map_some, Option.some.injEq] at h; subst h
    obtain ⟨vs, rfl, h1, h2, h3⟩ := hv.agg'
    obtain ⟨e1, e2⟩ := mapM_get hm
    refine ⟨.agg l vs (by rw [h1, e1]) h2 (fun i c v hc hv => ?_), fun hh => absurd rfl (hh cs)⟩
    obtain ⟨y, hy, hys⟩ := e2 i c hc
    exact (ih y c v hys (h3 i y v hy hv)).1
  | fn f cs =>
   simp only [snap] at h
   cases hm : cs.mapM (snap lv S n) with
   | none => rw [hm] at h; cases h
   | some l =>
    rw [hm] at h; simp only [Option.map_some, Option.some.injEq] at h; subst h
    obtain ⟨e1, e2⟩ := mapM_get hm
    cases hv with
    | fn _ _ vs h1 h3 =>
     refine ⟨.fn f l vs (by rw [h1, e1]) (fun i c v hc hv => ?_), fun _ l => by simp⟩
     obtain ⟨y, hy, hys⟩ := e2 i c hc
     exact (ih y c v hys (h3 i y v hy hv)).1
  | loc b off =>
   simp only [snap] at h
   cases hB : look S.H b with
   | none => rw [hB] at h; cases h
   | some B =>
    rw [hB] at h
    simp only at h
    cases hl : (B.live && !lv) with
    | true => rw [hl] at h; cases h
    | false =>
     rw [hl] at h
     simp only [Bool.false_eq_true, if_false] at h
     cases hm : B.cells.mapM (snap lv S n) with
     | none => rw [hm] at h; cases h
     | some l =>
      rw [hm] at h; simp only [Option.map_some, Option.some.injEq] at h; subst h
      obtain ⟨k, hk, rfl⟩ := hv.loc'
      obtain ⟨k', vs, e1, e2, e3, e4, e5, e6, e7, e8⟩ := hr.heap.blk b B hB
      rw [hk] at e1; cases e1
      obtain ⟨f1, f2⟩ := mapM_get hm
      refine ⟨.ptr _ k off (fun i => vs.getD (off + i) undef) ?_ (fun i c hc => ?_) (fun i c hc => ?_), fun _ l => by simp⟩
      ·cases hBl : B.live with
       | false => exact .inl (e8 hBl)
       | true => exact .inr ⟨by rw [hBl] at hl; simpa using hl, .inl b, ⟨⟨B, hB⟩, hk⟩, B, hB, hBl⟩
      ·rw [List.getElem?_drop] at hc
       obtain ⟨y, hy, _⟩ := f2 _ c hc
       have hlt : off + i < vs.size := by rw [e4]; exact (List.getElem?_eq_some_iff.1 hy).1
       simp [World.cell?, e3, hlt]
      ·rw [List.getElem?_drop] at hc
       obtain ⟨y, hy, hys⟩ := f2 _ c hc
       have hlt : off + i < vs.size := by rw [e4]; exact (List.getElem?_eq_some_iff.1 hy).1
       have hvv : vs[off + i]? = some (vs.getD (off + i) undef) := by simp [hlt]
       exact (ih y c _ hys (e5 _ y _ hy hvv)).1
  | osl id =>
   simp only [snap] at h
   cases hR : look S.O id with
   | none => rw [hR] at h; cases h
   | some R =>
    rw [hR] at h
    simp only at h
    cases hl : (R.live && !lv) with
    | true => rw [hl] at h; cases h
    | false =>
     rw [hl] at h
     simp only [Bool.false_eq_true, if_false] at h
     have := row_dt hr hR hl hv.osl' h
     exact ⟨this.1, fun _ => this.2⟩
def snapL (lv : Bool) (S : St) : List AV -> Option (List D)
 | [] => some []
 | c :: r => match snap lv S 8 c, snapL lv S r with
  | some x, some l => some (x :: l)
  | _, _ => none
theorem snapL_spec {S : St} {M : Mp} {base yl : Nat} {a : Act} {w : World} {lv : Bool} (hr : Rel base S M yl a w) : ∀ {cs : List AV} {xs : List D}, snapL lv S cs = some xs -> cs.length = xs.length /\
  ∀ (i : Nat) (x : D) (v : Value), xs[i]? = some x -> (∀ c, cs[i]? = some c -> RdA w M.ok M.μ M.ν yl c v) -> Rd w (okS lv S M) x v
 | [], xs, h => by simp [snapL] at h; subst h; simp
 | c :: r, xs, h => by
  simp only [snapL] at h
  cases h1 : snap lv S 8 c with
  | none => rw [h1] at h; cases h
  | some x =>
   cases h2 : snapL lv S r with
   | none => rw [h1, h2] at h; cases h
   | some l =>
    rw [h1, h2] at h
    simp only [Option.some.injEq] at h; subst h
    obtain ⟨e1, e2⟩ := snapL_spec hr h2
    refine ⟨by simp [e1], fun i y v hy hv => ?_⟩
    cases i with
    | zero => simp at hy; subst hy; exact (snap_spec hr 8 c x v h1 (hv c rfl)).1
    | succ i => simp at hy; exact e2 i y v hy (fun c hc => hv c (by simpa using hc))
def opndL (T : List (Nat × AV)) : List Operand -> Option (List AV)
 | [] => some []
 | x :: r => match opnd T x, opndL T r with
  | some c, some l => some (c :: l)
  | _, _ => none
theorem opndL_get {T : List (Nat × AV)} : ∀ {l : List Operand} {cs : List AV}, opndL T l = some cs -> l.length = cs.length /\ ∀ (i : Nat) (c : AV), cs[i]? = some c -> ∃ x, l[i]? = some x /\ opnd T x = some c
 | [], cs, h => by simp [opndL] at h; subst h; simp
 | x :: r, cs, h => by
  simp only [opndL] at h
  cases h1 : opnd T x with
  | none => rw [h1] at h; cases h
  | some c =>
   cases h2 : opndL T r with
   | none => rw [h1, h2] at h; cases h
   | some l =>
    rw [h1, h2] at h
    simp only [Option.some.injEq] at h; subst h
    obtain ⟨e1, e2⟩ := opndL_get h2
    refine ⟨by simp [e1], fun i c hc => ?_⟩
    cases i with
    | zero => simp at hc; subst hc; exact ⟨x, rfl, h1⟩
    | succ i => simp at hc ⊢; exact e2 i c hc
def fnOf : AV -> Option (Nat × List AV)
 | .fn f cs => some (f, cs)
 | .d (.fn f cs) => some (f, cs.map .d)
 | _ => none
theorem fnOf_spec {w : World} {ok : Nat -> Prop} {μ : Nat -> Option Nat} {ν : Nat -> Option Value} {yl : Nat} {c : AV} {v : Value} {f : Nat} {caps : List AV} (h : RdA w ok μ ν yl c v) (hf : fnOf c = some (f, caps)) :
  ∃ vs : Array Value, v = .func (.func f) #[] vs /\ vs.size = caps.length /\ ∀ (i : Nat) (c : AV) (v : Value), caps[i]? = some c -> vs[i]? = some v -> RdA w ok μ ν yl c v := by
 cases c with
 | fn f' cs =>
  simp only [fnOf, Option.some.injEq, Prod.mk.injEq] at hf
  obtain ⟨rfl, rfl⟩ := hf
  cases h with | fn _ _ vs h1 h2 => exact ⟨vs, rfl, h1, h2⟩
 | d x =>
  cases x with
  | fn f' cs =>
   simp only [fnOf, Option.some.injEq, Prod.mk.injEq] at hf
   obtain ⟨rfl, rfl⟩ := hf
   cases h with
   | d h =>
    cases h with
    | fn _ _ vs h1 h2 =>
     refine ⟨vs, rfl, by simp [h1], fun i c v hc hv => ?_⟩
     rw [List.getElem?_map] at hc
     cases hh : cs[i]? with
     | none => rw [hh] at hc; cases hc
     | some y => rw [hh] at hc; cases hc; exact .d (h2 i y v hh hv)
  | _ => cases hf
 | _ => cases hf
mutual
def AV.scalar : AV -> Bool
 | .d (.int _ _) | .d (.bool _) | .d (.str _) => true
 | .agg cs | .tup cs => AV.scalarL cs
 | _ => false
def AV.scalarL : List AV -> Bool
 | [] => true
 | c :: r => c.scalar && AV.scalarL r
end
theorem AV.scalarL_get : ∀ {cs : List AV}, AV.scalarL cs = true -> ∀ {i : Nat} {c : AV}, cs[i]? = some c -> c.scalar = true
 | [], _, i, c, h => by simp at h
 | x :: r, h, 0, c, hc => by simp [AV.scalarL] at h; simp at hc; exact hc ▸ h.1
 | x :: r, h, i + 1, c, hc => by simp [AV.scalarL] at h; simp at hc; exact AV.scalarL_get h.2 hc
theorem RdA.anyOk {w w' : World} {ok ok' : Nat -> Prop} {μ μ' : Nat -> Option Nat} {ν ν' : Nat -> Option Value} {yl yl' : Nat} {c : AV} {v : Value} (h : RdA w ok μ ν yl c v) (hs : c.scalar = true) : RdA w' ok' μ' ν' yl' c v := by
 induction h with
 | any => cases hs
 | @d x v h =>
  cases x with
  | int => cases h; exact .d (.int _ _)
  | bool => cases h; exact .d (.bool _)
  | str => cases h; exact .d (.str _)
  | _ => cases hs
 | agg cs vs hl h1 _ ih => exact .agg cs vs hl h1 (fun i c v hc hv => ih i c v hc hv (AV.scalarL_get (by simpa [AV.scalar] using hs) hc))
 | tup cs vs hl _ ih => exact .tup cs vs hl (fun i c v hc hv => ih i c v hc hv (AV.scalarL_get (by simpa [AV.scalar] using hs) hc))
 | _ => cases hs
mutual
def AV.ownly : AV -> Bool
 | .d (.int _ _) | .d (.bool _) | .d (.str _) => true
 | .osl _ => true
 | .agg cs | .tup cs => AV.ownlyL cs
 | _ => false
def AV.ownlyL : List AV -> Bool
 | [] => true
 | c :: r => c.ownly && AV.ownlyL r
end
theorem AV.ownlyL_get : ∀ {cs : List AV}, AV.ownlyL cs = true -> ∀ {i : Nat} {c : AV}, cs[i]? = some c -> c.ownly = true
 | [], _, i, c, h => by simp at h
 | x :: r, h, 0, c, hc => by simp [AV.ownlyL] at h; simp at hc; exact hc ▸ h.1
 | x :: r, h, i + 1, c, hc => by simp [AV.ownlyL] at h; simp at hc; exact AV.ownlyL_get h.2 hc
mutual
theorem AV.scalar_ownly : ∀ (c : AV), c.scalar = true -> c.ownly = true
 | .d x, h => by cases x <;> first | rfl | cases h
 | .agg cs, h => by simp only [AV.scalar] at h; simp only [AV.ownly]; exact AV.scalarL_ownly cs h
 | .tup cs, h => by simp only [AV.scalar] at h; simp only [AV.ownly]; exact AV.scalarL_ownly cs h
 | .osl _, _ => rfl
 | .any, h | .fn _ _, h | .loc _ _, h | .asl _ _ _ _, h | .oloc _ _ _ _, h | .yld, h => by simp [AV.scalar] at h
theorem AV.scalarL_ownly : ∀ (cs : List AV), AV.scalarL cs = true -> AV.ownlyL cs = true
 | [], _ => rfl
 | c :: r, h => by
  simp only [AV.scalarL, Bool.and_eq_true] at h
  simp only [AV.ownlyL, AV.scalar_ownly c h.1, AV.scalarL_ownly r h.2, Bool.and_self]
end
theorem RdA.anyOkR {w w' : World} {ok ok' : Nat -> Prop} {μ μ' : Nat -> Option Nat} {ν : Nat -> Option Value} {yl yl' : Nat} {c : AV} {v : Value} (h : RdA w ok μ ν yl c v) (hs : c.ownly = true) : RdA w' ok' μ' ν yl' c v := by
 induction h with
 | any => cases hs
 | @d x v h =>
  cases x with
  | int => cases h; exact .d (.int _ _)
  | bool => cases h; exact .d (.bool _)
  | str => cases h; exact .d (.str _)
  | _ => cases hs
 | agg cs vs hl h1 _ ih => exact .agg cs vs hl h1 (fun i c v hc hv => ih i c v hc hv (AV.ownlyL_get (by simpa [AV.ownly] using hs) hc))
 | tup cs vs hl _ ih => exact .tup cs vs hl (fun i c v hc hv => ih i c v hc hv (AV.ownlyL_get (by simpa [AV.ownly] using hs) hc))
 | osl h h1 => exact .osl h h1
 | _ => cases hs
def D.num0 : D -> Bool
 | .int _ _ | .bool _ | .str _ => true
 | _ => false
def D.num : D -> Bool
 | .agg cs => cs.all D.num0
 | c => c.num0
theorem Rd.num0 {w : World} {ok ok' : Nat -> Prop} {c : D} {v : Value} (h : Rd w ok c v) (hc : c.num0 = true) : Rd w ok' c v := by
 cases c with
 | int => cases h; exact .int _ _
 | bool => cases h; exact .bool _
 | str => cases h; exact .str _
 | _ => cases hc
theorem Rd.num {w : World} {ok ok' : Nat -> Prop} {c : D} {v : Value} (h : Rd w ok c v) (hc : c.num = true) : Rd w ok' c v := by
 cases c with
 | agg cs =>
  cases h with
  | agg _ vs hl h1 hh =>
   have hc : cs.all D.num0 = true := hc
   exact .agg cs vs hl h1 fun i c v hi hv => (hh i c v hi hv).num0 (List.all_eq_true.1 hc c (List.mem_of_getElem? hi))
 | int => exact h.num0 rfl
 | bool => exact h.num0 rfl
 | str => exact h.num0 rfl
 | _ => cases hc
def numRows (rows : List Row) : Prop := ∀ R ∈ rows, R.live = true /\ ∀ row ∈ R.rows, ∀ c ∈ row, D.num c = true
theorem RowCells.nums {w : World} {ok ok' : Nat -> Prop} {sz : Nat} {rows : List (List D)} {flat : List Value} (h : RowCells w ok sz rows flat) (hn : ∀ row ∈ rows, ∀ c ∈ row, D.num c = true) : RowCells w ok' sz rows flat :=
 ⟨h.1, fun i row j c hi hj => by
  obtain ⟨x, h1, h2, h3⟩ := h.2 i row j c hi hj
  refine ⟨x, h1, ?_, h3⟩
  exact h2.num (hn row (List.mem_of_getElem? hi) c (List.mem_of_getElem? hj))⟩
end Go.Proofs.Ytfilnnbfppokmaa.Aw
namespace Go.Proofs.Ytfilnnbfppokmaa.Aw
open Go Go.RowKit
variable {P : Program}
def unsh (q : Nat) (ν' ν : Nat -> Option Value) (n : Nat) : Nat -> Option Value := fun id => if q <= id /\ id < q + n then ν' (id - q) else ν id
theorem keys_enumR : ∀ {rows : List Row} {q : Nat} {id : Nat}, id ∈ keys (enumR q rows) ↔ q <= id /\ id < q + rows.length
 | [], q, id => by simp [enumR, keys]
 | R :: r, q, id => by
  simp only [enumR, keys, List.mem_cons, keys_enumR, List.length_cons]
  constructor
  ·rintro (rfl | h) <;> omega
  ·intro h; by_cases e : id = q
   ·exact .inl e
   ·exact .inr (by omega)
theorem look_enumR : ∀ {rows : List Row} {q : Nat} {id : Nat} {R : Row}, look (enumR q rows) id = some R ↔ q <= id /\ rows[id - q]? = some R
 | [], q, id, R => by simp [enumR, look]
 | R0 :: r, q, id, R => by
  simp only [enumR, look]
  by_cases e : q = id
  ·subst e; simp
  ·rw [if_neg e, look_enumR]
   constructor
   ·rintro ⟨h1, h2⟩
    refine ⟨by omega, ?_⟩
    rw [show id - q = (id - (q + 1)) + 1 from by omega, List.getElem?_cons_succ]; exact h2
   ·rintro ⟨h1, h2⟩
    refine ⟨by omega, ?_⟩
    rw [show id - q = (id - (q + 1)) + 1 from by omega, List.getElem?_cons_succ] at h2; exact h2
mutual
def AV.rowsBelow (n : Nat) : AV -> Bool
 | .agg cs | .tup cs => AV.rowsBelowL n cs
 | .osl id => Nat.blt id n
 | .fn _ _ | .loc _ _ | .asl _ _ _ _ | .oloc _ _ _ _ | .yld => false
 | _ => true
def AV.rowsBelowL (n : Nat) : List AV -> Bool
 | [] => true
 | c :: r => c.rowsBelow n && AV.rowsBelowL n r
end
theorem AV.rowsBelowL_get {n : Nat} : ∀ {cs : List AV}, AV.rowsBelowL n cs = true -> ∀ {i : Nat} {c : AV}, cs[i]? = some c -> c.rowsBelow n = true
 | [], _, i, c, h => by simp at h
 | x :: r, h, 0, c, hc => by simp [AV.rowsBelowL] at h; simp at hc; exact hc ▸ h.1
 | x :: r, h, i + 1, c, hc => by simp [AV.rowsBelowL] at h; simp at hc; exact AV.rowsBelowL_get h.2 hc
theorem RdA.shift {w : World} {ok : Nat -> Prop} {μ : Nat -> Option Nat} {ν ν' : Nat -> Option Value} {yl q n : Nat} {c : AV} {v : Value} (h : RdA w ok μ ν' yl c v) (hb : c.rowsBelow n = true) : RdA w ok μ (unsh q ν' ν n) yl (c.sh q) v := by
 induction h with
 | any v => exact .any v
 | d h => exact .d h
 | agg cs vs hl h1 _ ih =>
  refine .agg _ vs (by rw [hl, AV.shL_len]) h1 (fun i c v hc hv => ?_)
  rw [AV.shL_get] at hc
  cases hh : cs[i]? with
  | none => rw [hh] at hc; cases hc
  | some y => rw [hh] at hc; cases hc; exact ih i y v hh hv (AV.rowsBelowL_get (by simpa [AV.rowsBelow] using hb) hh)
 | tup cs vs hl _ ih =>
  refine .tup _ vs (by rw [hl, AV.shL_len]) (fun i c v hc hv => ?_)
  rw [AV.shL_get] at hc
  cases hh : cs[i]? with
  | none => rw [hh] at hc; cases hc
  | some y => rw [hh] at hc; cases hc; exact ih i y v hh hv (AV.rowsBelowL_get (by simpa [AV.rowsBelow] using hb) hh)
 | @osl id v h h1 =>
  simp only [AV.rowsBelow, Nat.blt_eq] at hb
  refine .osl ?_ h1
  unfold unsh
  rw [if_pos (by omega), show q + id - q = id from by omega]; exact h
 | _ => cases hb
theorem free_call {o : Oper} {S : St} {f : Operand} {args : Array Operand} {ts : Array TypeId} {fv : AV} {g : Nat} {caps cs : List AV} {xs : List D} {res : AV} {rows : List Row} (q : Nat) (lv : Bool) (ho : o.op = .call { callee := .value f, args := args, argTypes := ts })
  (hf : opnd S.T f = some fv) (hg : fnOf fv = some (g, caps)) (ha : opndL S.T args.toList = some cs) (hx : snapL lv S (cs ++ caps) = some xs) (hlv : lv = true -> res.ownly = true /\ numRows rows) (hb : res.rowsBelow rows.length = true)
  (hc : Con P g xs res rows) : Free P o S (res.sh q) [] (enumR q rows) := by
 intro r base M yl a w hr K Q hK
 obtain ⟨vcs, hfv, hcl, hcr⟩ := fnOf_spec (hr.opnd hf) hg
 obtain ⟨al, ar⟩ := opndL_get ha
 obtain ⟨sl, sr⟩ := snapL_spec hr hx
 have hargs : Rds w (okS lv S M) xs (args.map a.eval ++ vcs) := by
  refine ⟨by rw [<- sl, List.length_append, <- al, <- hcl]; simp, fun i x v hxi hv => sr i x v hxi (fun c hc => ?_)⟩
  by_cases hi : i < cs.length
  ·rw [List.getElem?_append_left hi] at hc
   obtain ⟨y, hy, hyc⟩ := ar i c hc
   rw [Array.getElem?_append_left (by simp; rw [<- Array.length_toList, al]; exact hi), Array.getElem?_map, <- Array.getElem?_toList, hy] at hv
   simp only [Option.map_some, Option.some.injEq] at hv
   subst hv
   exact hr.opnd hyc
  ·rw [List.getElem?_append_right (by omega)] at hc
   have hsz : (args.map a.eval).size = cs.length := by simp; rw [<- Array.length_toList, al]
   rw [Array.getElem?_append_right (by rw [hsz]; omega), hsz] at hv
   exact hcr _ c v hc hv
 have hokLt : ∀ k, okS lv S M k -> k < w.heap.size := by
  rintro k (hk | ⟨_, x, hx, _⟩)
  ·exact hr.okLt k hk
  ·exact (hr.heap.at_lt hx).2.1
 have hcall := hc.2 w _ _ hokLt hargs
 have hrun : (execOp a.eval o).run P w = .ok (.enter g (args.map a.eval ++ vcs)) w := by
  simp only [execOp, ho, resolve, Deferred.ofValue, hfv, Sem.run_bind, Sem.run_pure, Result.andThen, invoke]
  have : (#[] : Array Value) ++ args.map a.eval = args.map a.eval := by simp
  rw [this]; exact hc.1 _ w
 unfold Oper.wpIn
 rw [Oper.semAt_eq _ _ _ (by simp [ho]), hrun]
 refine ⟨fun _ _ => trivial, fun h => (by cases h), ?_⟩
 have hcallsIn : CallsIn (FW r) 0 P g (args.map a.eval ++ vcs) w _ := (callsIn_wide (n := 0)).2 hcall
 refine hcallsIn.mono ?_
 rintro e w' ⟨v, ok', ν', rfl, hbel, hokm, hokn, hres, hheap⟩
 obtain ⟨okN, hN⟩ : ∃ okN : Nat -> Prop, okN = fun k => if lv then M.ok k else ok' k := ⟨_, rfl⟩
 refine hK v w' { M with ok := okN, ν := unsh q ν' M.ν rows.length } ⟨hbel, rfl, rfl, rfl, fun _ _ => rfl, fun id hid => ?_, fun k hk => ?_, fun k hk => ?_, ?_, ?_⟩
 ·rw [keys_enumR] at hid
  show unsh q ν' M.ν rows.length id = M.ν id
  unfold unsh; rw [if_neg hid]
 ·subst hN; show (if lv then M.ok k else ok' k)
  cases lv with
  | true => exact hk
  | false => exact hokm k (.inl hk)
 ·subst hN
  have hk' : if lv then M.ok k else ok' k := hk
  cases lv with
  | true => exact .inl hk'
  | false =>
   rcases hokn k hk' with (h | ⟨h, _⟩) | h
   ·exact .inl h
   ·cases h
   ·exact .inr h
 ·subst hN
  cases hlv' : lv with
  | true =>
   obtain ⟨h1, _⟩ := hlv hlv'
   exact ((hres M.μ yl).anyOkR (w' := w') (ok' := fun k => if true = true then M.ok k else ok' k) (μ' := M.μ) (yl' := yl) h1).shift (q := q) (ν := M.ν) hb
  | false =>
   have := (hres M.μ yl).shift (q := q) (ν := M.ν) hb
   refine this.mono (fun k hk => ?_) (fun _ _ => rfl) (fun _ _ => rfl) (fun _ _ => rfl)
   show (if false = true then M.ok k else ok' k)
   simpa using hk
 ·have hrow : ∀ id R, look (enumR q rows) id = some R -> RowOk w.heap.size ⟨fun _ => none, ν', ok', fun _ => False, fun _ => False, []⟩ w' (id - q) R := by
   intro id R hR
   rw [look_enumR] at hR
   exact hheap.row (id - q) R (look_enumR.2 ⟨Nat.zero_le _, by simpa using hR.2⟩)
  refine ⟨fun b B hB => (by cases hB), fun id R hR => ?_, fun x y k hx hy => ?_⟩
  ·obtain ⟨v', flat, h1, h2⟩ := hrow id R hR
   rw [look_enumR] at hR
   have hlt := (List.getElem?_eq_some_iff.1 hR.2).1
   refine ⟨v', flat, ?_, ?_⟩
   ·show unsh q ν' M.ν rows.length id = some v'
    unfold unsh; rw [if_pos (by omega)]; exact h1
   ·subst hN
    cases hlv' : lv with
    | false =>
     have e : (fun k => if false = true then M.ok k else ok' k) = ok' := by funext k; simp
     show ownsR w' _ _ _ _ _ _ _ /\ RowCells w' (fun k => if false = true then M.ok k else ok' k) R.sz R.rows flat /\ _ /\ ∀ k, ownB v' = some k -> (R.live = true -> ¬ (if false = true then M.ok k else ok' k)) /\ (R.live = false -> (if false = true then M.ok k else ok' k))
     rw [e]
     simpa using h2
    | true =>
     obtain ⟨_, hnum⟩ := hlv hlv'
     obtain ⟨hlive, hcells⟩ := hnum R (List.mem_of_getElem? hR.2)
     obtain ⟨g1, g2, g3, g4⟩ := h2
     refine ⟨g1, g2.nums hcells, g3, fun k hk => ⟨fun _ hok => ?_, fun hf => by rw [hlive] at hf; cases hf⟩⟩
     have hok' : M.ok k := by simpa using hok
     have h5 := hr.okLt k hok'
     have h6 := (g1.at hk).1
     omega
  ·have aux : ∀ (x : Nat ⊕ Nat), At [] (enumR q rows) { M with ok := okN, ν := unsh q ν' M.ν rows.length } x k -> ∃ id, x = .inr id /\ q <= id /\ At [] (enumR 0 rows) ⟨fun _ => none, ν', ok', fun _ => False, fun _ => False, []⟩ (.inr (id - q)) k := by
    intro x hx
    cases x with
    | inl b => obtain ⟨⟨_, h⟩, _⟩ := hx; cases h
    | inr id =>
     obtain ⟨⟨R, hR⟩, v', hv, hk⟩ := hx
     rw [look_enumR] at hR
     have hlt := (List.getElem?_eq_some_iff.1 hR.2).1
     refine ⟨id, rfl, hR.1, ⟨R, look_enumR.2 ⟨Nat.zero_le _, by simpa using hR.2⟩⟩, v', ?_, hk⟩
     have hv' : unsh q ν' M.ν rows.length id = some v' := hv
     unfold unsh at hv'; rw [if_pos (by omega)] at hv'; exact hv'
   obtain ⟨i, rfl, hi, h1⟩ := aux x hx
   obtain ⟨j, rfl, hj, h2⟩ := aux y hy
   have := hheap.inj _ _ k h1 h2
   simp only [Sum.inr.injEq] at this
   congr 1; omega
end Go.Proofs.Ytfilnnbfppokmaa.Aw
namespace Go.Proofs.Ytfilnnbfppokmaa.Aw
open Go Go.RowKit
variable {P : Program}
def toAV : D -> AV
 | .agg cs => .agg (cs.map .d)
 | x => .d x
def argT : Nat -> List D -> List (Nat × AV)
 | _, [] => []
 | i, x :: r => (i, toAV x) :: argT (i + 1) r
def S0 (n : Nat) (args : List D) : St := ⟨n, argT 0 args, [], [], 0⟩
theorem look_argT : ∀ {xs : List D} {i t : Nat} {c : AV}, look (argT i xs) t = some c -> i <= t /\ ∃ x, xs[t - i]? = some x /\ c = toAV x
 | [], i, t, c, h => by simp [argT, look] at h
 | x :: r, i, t, c, h => by
  simp only [argT, look] at h
  by_cases e : i = t
  ·rw [if_pos e] at h; cases h; subst e; exact ⟨Nat.le_refl _, x, by simp, rfl⟩
  ·rw [if_neg e] at h
   obtain ⟨h1, y, h2, h3⟩ := look_argT h
   exact ⟨by omega, y, by rw [show t - i = (t - (i + 1)) + 1 from by omega, List.getElem?_cons_succ]; exact h2, h3⟩
theorem toAV_spec {w : World} {ok : Nat -> Prop} {μ : Nat -> Option Nat} {ν : Nat -> Option Value} {yl : Nat} {x : D} {v : Value} (h : Rd w ok x v) : RdA w ok μ ν yl (toAV x) v := by
 cases h with
 | agg cs vs hl h1 h =>
  refine .agg _ vs (by simp [hl]) h1 (fun i c v hc hv => ?_)
  rw [List.getElem?_map] at hc
  cases hh : cs[i]? with
  | none => rw [hh] at hc; cases hc
  | some y => rw [hh] at hc; cases hc; exact .d (h i y v hh hv)
 | int k n => exact .d (.int k n)
 | bool b => exact .d (.bool b)
 | str s => exact .d (.str s)
 | fn f cs vs hl h => exact .d (.fn f cs vs hl h)
 | bnd f fs cs us vs hl' h' hl h => exact .d (.bnd f fs cs us vs hl' h' hl h)
 | nilfn => exact .d .nilfn
 | ptr cs b off vs hok hc h => exact .d (.ptr cs b off vs hok hc h)
 | sl0 clip sz => exact .d (.sl0 clip sz)
 | slE clip sz ad => exact .d (.slE clip sz ad)
 | sl clip sz rows b off cap vs hok h1 h2 h3 h4 h5 h6 h7 => exact .d (.sl clip sz rows b off cap vs hok h1 h2 h3 h4 h5 h6 h7)
 | nilsl => exact .d .nilsl
 | nilmap => exact .d .nilmap
 | nilptr => exact .d .nilptr
 | map rows k clock es vs hok h1 h2 h3 h4 h5 h6 => exact .d (.map rows k clock es vs hok h1 h2 h3 h4 h5 h6)
def resV (P : Program) (S : St) : ResultVar -> Option AV
 | .tmp t => look S.T t
 | .cell ad t => match look S.T ad with
  | some (.loc b off) => match look S.H b, isAggT P t with
   | some B, some false => B.cells[off]?
   | some B, some true => match szT P t with
    | some n => if Nat.ble (off + n) B.cells.length then some (.agg ((B.cells.drop off).take n)) else none
    | none => none
   | _, _ => none
  | _ => none
def getR (tmps : Array Value) : ResultVar -> Sem Value
 | .tmp t => pure (tmps.getD t undef)
 | .cell ad t => do loadVar t (<- asAddr (tmps.getD ad undef))
theorem run_resV {base : Nat} {S : St} {M : Mp} {yl : Nat} {a : Act} {w : World} (hr : Rel base S M yl a w) {rv : ResultVar} {c : AV} (h : resV P S rv = some c) :
  ∃ v, (getR a.tmps rv).run P w = .ok v w /\ RdA w M.ok M.μ M.ν yl c v := by
 cases rv with
 | tmp t =>
  obtain ⟨v, h1, h2⟩ := hr.tmp t c h
  exact ⟨v, by simp [getR, Array.getD_eq_getD_getElem?, h1], h2⟩
 | cell ad t =>
  simp only [resV] at h
  cases ha : look S.T ad with
  | none => rw [ha] at h; cases h
  | some x =>
   rw [ha] at h
   cases x with
   | loc b off =>
    simp only at h
    obtain ⟨v, h1, h2⟩ := hr.tmp ad _ ha
    obtain ⟨k, hk, rfl⟩ := h2.loc'
    have hg : a.tmps.getD ad undef = .pointer (some ⟨k, off, none⟩) := by simp [Array.getD_eq_getD_getElem?, h1]
    cases hB : look S.H b with
    | none => rw [hB] at h; cases h
    | some B =>
     rw [hB] at h
     obtain ⟨k', vs, e1, e2, e3, e4, e5, e6, _⟩ := hr.heap.blk b B hB
     rw [hk] at e1; cases e1
     cases hag : isAggT P t with
     | none => rw [hag] at h; cases h
     | some ag =>
      cases ag with
      | false =>
       rw [hag] at h
       simp only at h
       obtain ⟨v, hv⟩ : ∃ v, vs[off]? = some v := ⟨vs[off]'(by rw [e4]; exact (List.getElem?_eq_some_iff.1 h).1), by simp⟩
       have hcell : w.cell? ⟨k, off, none⟩ = some v := by simp [World.cell?, e3, hv]
       exact ⟨v, by simp [getR, hg, asAddr, Result.andThen, run_loadVar_one hag hcell], e5 off c v h hv⟩
      | true =>
       rw [hag] at h
       simp only at h
       cases hn : szT P t with
       | none => rw [hn] at h; cases h
       | some n =>
        rw [hn] at h
        simp only at h
        by_cases hl : Nat.ble (off + n) B.cells.length = true
        ·rw [if_pos hl] at h
         simp only [Option.some.injEq] at h; subst h
         have hl' := Nat.le_of_ble_eq_true hl
         have hld := run_loadVar_agg (P := P) (w := w) (b := k) (off := off) hag hn (fun j => vs.getD (off + j) undef) (fun j hj => by
          have : off + j < vs.size := by rw [e4]; omega
          simp [World.cell?, e3, this])
         refine ⟨.agg ((List.range n).map fun j => vs.getD (off + j) undef).toArray, by simp [getR, hg, asAddr, Result.andThen, hld], .agg _ _ (by simp; omega) ?_ ?_⟩
         ·intro i v hv
          simp only [List.getElem?_toArray, List.getElem?_map] at hv
          by_cases hi : i < n
          ·rw [List.getElem?_range hi, Option.map_some] at hv
           cases hv
           have hlt : off + i < vs.size := by rw [e4]; omega
           exact e6 (off + i) _ (by simp [hlt])
          ·rw [List.getElem?_eq_none (by simp; omega)] at hv; cases hv
         ·intro i c v hc hv
          simp only [List.getElem?_toArray, List.getElem?_map] at hv
          by_cases hi : i < n
          ·rw [List.getElem?_range hi, Option.map_some] at hv
           cases hv
           rw [List.getElem?_take, List.getElem?_drop] at hc
           simp only [hi, if_true] at hc
           have hlt : off + i < vs.size := by rw [e4]; omega
           exact e5 (off + i) c _ hc (by simp [hlt])
          ·rw [List.getElem?_eq_none (by simp; omega)] at hv; cases hv
        ·rw [if_neg hl] at h; cases h
   | _ => cases h
def resVL (P : Program) (S : St) : List ResultVar -> Option (List AV)
 | [] => some []
 | x :: r => match resV P S x, resVL P S r with
  | some c, some l => some (c :: l)
  | _, _ => none
theorem run_resVL {base : Nat} {S : St} {M : Mp} {yl : Nat} {a : Act} {w : World} (hr : Rel base S M yl a w) : ∀ {rs : List ResultVar} {cs : List AV}, resVL P S rs = some cs ->
  ∃ vs : List Value, (rs.mapM (getR a.tmps)).run P w = .ok vs w /\ vs.length = cs.length /\
   ∀ (i : Nat) (c : AV) (v : Value), cs[i]? = some c -> vs[i]? = some v -> RdA w M.ok M.μ M.ν yl c v
 | [], cs, h => by simp [resVL] at h; subst h; exact ⟨[], by simp, rfl, fun i c v h => by simp at h⟩
 | x :: r, cs, h => by
  simp only [resVL] at h
  cases h1 : resV P S x with
  | none => rw [h1] at h; cases h
  | some c =>
   cases h2 : resVL P S r with
   | none => rw [h1, h2] at h; cases h
   | some l =>
    rw [h1, h2] at h
    simp only [Option.some.injEq] at h; subst h
    obtain ⟨v, e1, e2⟩ := run_resV hr h1
    obtain ⟨vs, e3, e4, e5⟩ := run_resVL hr h2
    refine ⟨v :: vs, ?_, by simp [e4], fun i c v hc hv => ?_⟩
    ·rw [List.mapM_cons, Sem.run_bind, e1]
     simp only [Result.andThen]
     rw [Sem.run_bind, e3]
     rfl
    ·cases i with
     | zero => simp at hc hv; subst hc hv; exact e2
     | succ i => simp at hc hv; exact e5 i c v hc hv
def oneOf : List AV -> AV
 | [c] => c
 | cs => .tup cs
theorem run_results {base : Nat} {S : St} {M : Mp} {yl : Nat} {a : Act} {w : World} {fn : Func} {cs : List AV} (hr : Rel base S M yl a w) (h : resVL P S fn.results.toList = some cs) :
  ∃ v, (results fn a.tmps).run P w = .ok v w /\ RdA w M.ok M.μ M.ν yl (oneOf cs) v := by
 obtain ⟨vs, h1, h2, h3⟩ := run_resVL hr h
 have hrun : (results fn a.tmps).run P w = .ok (if h : vs.toArray.size = 1 then vs.toArray[0] else .tuple vs.toArray) w := by
  have e : results fn a.tmps = (do let vs <- fn.results.mapM (getR a.tmps); pure (if h : vs.size = 1 then vs[0] else .tuple vs)) := by
   unfold results
   congr 1
  rw [e, Array.mapM_eq_mapM_toList, Sem.run_bind, Sem.run_map, h1]
  rfl
 refine ⟨_, hrun, ?_⟩
 match vs, cs, h2, h3 with
 | [v], [c], _, h3 => simpa [oneOf] using h3 0 c v rfl rfl
 | [], [], _, h3 => simp [oneOf]; exact .tup [] #[] rfl (fun i c v h => by simp at h)
 | v :: v' :: r, c :: c' :: r', h2, h3 =>
  have hne : ¬ (v :: v' :: r).toArray.size = 1 := by simp
  rw [dif_neg hne]
  exact .tup _ _ (by simpa using h2) (fun i c v hc hv => h3 i c v hc (by simpa using hv))
def idxN (n : Nat) : List Nat -> Nat -> Option Nat
 | [], _ => none
 | k :: r, i => if k = n then some i else idxN n r (i + 1)
theorem idxN_spec {n : Nat} : ∀ {l : List Nat} {i j : Nat}, idxN n l i = some j -> i <= j /\ l[j - i]? = some n
 | [], i, j, h => by simp [idxN] at h
 | k :: r, i, j, h => by
  simp only [idxN] at h
  by_cases e : k = n
  ·rw [if_pos e] at h; cases h; subst e; simp
  ·rw [if_neg e] at h
   obtain ⟨h1, h2⟩ := idxN_spec h
   exact ⟨by omega, by rw [show j - i = (j - (i + 1)) + 1 from by omega, List.getElem?_cons_succ]; exact h2⟩
def lessO (S : St) (ids : List Nat) : St := { S with O := S.O.filter fun p => !memN p.1 ids }
def ret1 (ids : List Nat) (S : St) (c : AV) : Option AV :=
 match c with
 | .osl id => match idxN id ids 0 with
  | some i => some (.osl i)
  | none => (snap true (lessO S ids) 8 c).map .d
 | .agg _ => none
 | _ => (snap true (lessO S ids) 8 c).map .d
def ret1L (ids : List Nat) (S : St) : List AV -> Option (List AV)
 | [] => some []
 | c :: r => match ret1 ids S c, ret1L ids S r with
  | some x, some l => some (x :: l)
  | _, _ => none
def ret2 (ids : List Nat) (S : St) : AV -> Option AV
 | .agg cs => (ret1L ids S cs).map .agg
 | c => ret1 ids S c
def ret2L (ids : List Nat) (S : St) : List AV -> Option (List AV)
 | [] => some []
 | c :: r => match ret2 ids S c, ret2L ids S r with
  | some x, some l => some (x :: l)
  | _, _ => none
def ret3 (ids : List Nat) (S : St) : AV -> Option AV
 | .tup cs => (ret2L ids S cs).map .tup
 | c => ret2 ids S c
def rowsOf (S : St) : List Nat -> Option (List Row)
 | [] => some []
 | id :: r => match look S.O id, rowsOf S r with
  | some R, some l => if R.live then some (R :: l) else none
  | _, _ => none
def RetOk (P : Program) (fn : Func) (S : St) (res : AV) (rows : List Row) : Prop :=
 ∃ cs ids, resVL P S fn.results.toList = some cs /\ ret3 ids S (oneOf cs) = some res /\ rowsOf S ids = some rows /\ ids.Nodup
theorem rowsOf_get {S : St} : ∀ {ids : List Nat} {rows : List Row}, rowsOf S ids = some rows -> ids.length = rows.length /\ ∀ (i : Nat) (R : Row), rows[i]? = some R -> ∃ id, ids[i]? = some id /\ look S.O id = some R /\ R.live = true
 | [], rows, h => by simp [rowsOf] at h; subst h; simp
 | id :: r, rows, h => by
  simp only [rowsOf] at h
  cases h1 : look S.O id with
  | none => rw [h1] at h; cases h
  | some R =>
   cases h2 : rowsOf S r with
   | none => rw [h1, h2] at h; cases h
   | some l =>
    rw [h1, h2] at h
    simp only at h
    cases hl : R.live with
    | false => rw [hl] at h; cases h
    | true =>
     rw [hl] at h
     simp only [if_true, Option.some.injEq] at h; subst h
     obtain ⟨e1, e2⟩ := rowsOf_get h2
     refine ⟨by simp [e1], fun i R' hR => ?_⟩
     cases i with
     | zero => simp at hR; subst hR; exact ⟨id, rfl, h1, hl⟩
     | succ i => simp at hR ⊢; exact e2 i R' hR
theorem lessO_sub (S : St) (ids : List Nat) : Sub S (lessO S ids) := by
 refine ⟨rfl, fun _ _ h => h, fun _ _ h => h, fun b R h => ?_⟩
 have := look_filter (f := fun k => !memN k ids) (l := S.O) (t := b)
 simp only [lessO] at h
 rw [this] at h
 split at h
 ·exact h
 ·cases h
theorem lessO_not {S : St} {ids : List Nat} {id : Nat} (h : id ∈ ids) : look (lessO S ids).O id = none := by
 have := look_filter (f := fun k => !memN k ids) (l := S.O) (t := id)
 simp only [lessO]
 rw [this, memN_iff.2 h]; rfl
section
variable {base : Nat} {S : St} {M : Mp} {yl : Nat} {a : Act} {w : World} {ids : List Nat} {ν' : Nat -> Option Value}
theorem snap_out (hr : Rel base S M yl a w) {c : AV} {x : D} {v : Value} (h : snap true (lessO S ids) 8 c = some x) (hv : RdA w M.ok M.μ M.ν yl c v) (μ : Nat -> Option Nat) (yl' : Nat) : RdA w (okS true (lessO S ids) M) μ ν' yl' (.d x) v :=
 .d (snap_spec (hr.sub (lessO_sub S ids)) 8 c x v h hv).1
theorem ret1_spec (hr : Rel base S M yl a w) (hν : ∀ i id, ids[i]? = some id -> ν' i = M.ν id) {c r : AV} {v : Value} (h : ret1 ids S c = some r) (hv : RdA w M.ok M.μ M.ν yl c v) (μ : Nat -> Option Nat) (yl' : Nat) : RdA w (okS true (lessO S ids) M) μ ν' yl' r v := by
 have gen : ∀ {c : AV}, (snap true (lessO S ids) 8 c).map AV.d = some r -> RdA w M.ok M.μ M.ν yl c v -> RdA w (okS true (lessO S ids) M) μ ν' yl' r v := by
  intro c h hv
  cases hs : snap true (lessO S ids) 8 c with
  | none => rw [hs] at h; cases h
  | some x => rw [hs] at h; simp only [Option.map_some, Option.some.injEq] at h; subst h; exact snap_out hr hs hv μ yl'
 cases c with
 | osl id =>
  simp only [ret1] at h
  cases hi : idxN id ids 0 with
  | none => rw [hi] at h; exact gen (c := .osl id) h hv
  | some i =>
   rw [hi] at h
   simp only [Option.some.injEq] at h; subst h
   obtain ⟨_, h2⟩ := idxN_spec hi
   cases hv with
   | osl h3 h4 => exact .osl ((hν i id (by simpa using h2)).trans h3) h4
 | agg _ => cases h
 | any => exact gen (c := .any) h hv
 | d _ => exact gen (c := .d _) h hv
 | tup _ => exact gen (c := .tup _) h hv
 | fn _ _ => exact gen (c := .fn _ _) h hv
 | loc _ _ => exact gen (c := .loc _ _) h hv
 | asl _ _ _ _ => exact gen (c := .asl _ _ _ _) h hv
 | oloc _ _ _ _ => exact gen (c := .oloc _ _ _ _) h hv
 | yld => exact gen (c := .yld) h hv
theorem ret1L_spec : ∀ {cs rs : List AV}, ret1L ids S cs = some rs -> cs.length = rs.length /\ ∀ (i : Nat) (r : AV), rs[i]? = some r -> ∃ c, cs[i]? = some c /\ ret1 ids S c = some r
 | [], rs, h => by simp [ret1L] at h; subst h; simp
 | c :: q, rs, h => by
  simp only [ret1L] at h
  cases h1 : ret1 ids S c with
  | none => rw [h1] at h; cases h
  | some x =>
   cases h2 : ret1L ids S q with
   | none => rw [h1, h2] at h; cases h
   | some l =>
    rw [h1, h2] at h
    simp only [Option.some.injEq] at h; subst h
    obtain ⟨e1, e2⟩ := ret1L_spec h2
    refine ⟨by simp [e1], fun i r hr => ?_⟩
    cases i with
    | zero => simp at hr; subst hr; exact ⟨c, rfl, h1⟩
    | succ i => simp at hr ⊢; exact e2 i r hr
theorem ret2L_spec : ∀ {cs rs : List AV}, ret2L ids S cs = some rs -> cs.length = rs.length /\ ∀ (i : Nat) (r : AV), rs[i]? = some r -> ∃ c, cs[i]? = some c /\ ret2 ids S c = some r
 | [], rs, h => by simp [ret2L] at h; subst h; simp
 | c :: q, rs, h => by
  simp only [ret2L] at h
  cases h1 : ret2 ids S c with
  | none => rw [h1] at h; cases h
  | some x =>
   cases h2 : ret2L ids S q with
   | none => rw [h1, h2] at h; cases h
   | some l =>
    rw [h1, h2] at h
    simp only [Option.some.injEq] at h; subst h
    obtain ⟨e1, e2⟩ := ret2L_spec h2
    refine ⟨by simp [e1], fun i r hr => ?_⟩
    cases i with
    | zero => simp at hr; subst hr; exact ⟨c, rfl, h1⟩
    | succ i => simp at hr ⊢; exact e2 i r hr
theorem ret2_spec (hr : Rel base S M yl a w) (hν : ∀ i id, ids[i]? = some id -> ν' i = M.ν id) {c r : AV} {v : Value} (h : ret2 ids S c = some r) (hv : RdA w M.ok M.μ M.ν yl c v) (μ : Nat -> Option Nat) (yl' : Nat) : RdA w (okS true (lessO S ids) M) μ ν' yl' r v := by
 cases c with
 | agg cs =>
  simp only [ret2] at h
  cases hs : ret1L ids S cs with
  | none => rw [hs] at h; cases h
  | some l =>
   rw [hs] at h; simp only [Option.map_some, Option.some.injEq] at h; subst h
   obtain ⟨e1, e2⟩ := ret1L_spec hs
   obtain ⟨vs, rfl, h1, h2, h3⟩ := hv.agg'
   refine .agg l vs (by rw [h1, e1]) h2 (fun i c v hc hv => ?_)
   obtain ⟨y, hy, hyr⟩ := e2 i c hc
   exact ret1_spec hr hν hyr (h3 i y v hy hv) μ yl'
 | any => exact ret1_spec hr hν (c := .any) h hv μ yl'
 | d _ => exact ret1_spec hr hν (c := .d _) h hv μ yl'
 | tup _ => exact ret1_spec hr hν (c := .tup _) h hv μ yl'
 | fn _ _ => exact ret1_spec hr hν (c := .fn _ _) h hv μ yl'
 | loc _ _ => exact ret1_spec hr hν (c := .loc _ _) h hv μ yl'
 | asl _ _ _ _ => exact ret1_spec hr hν (c := .asl _ _ _ _) h hv μ yl'
 | osl _ => exact ret1_spec hr hν (c := .osl _) h hv μ yl'
 | oloc _ _ _ _ => exact ret1_spec hr hν (c := .oloc _ _ _ _) h hv μ yl'
 | yld => exact ret1_spec hr hν (c := .yld) h hv μ yl'
theorem ret3_spec (hr : Rel base S M yl a w) (hν : ∀ i id, ids[i]? = some id -> ν' i = M.ν id) {c r : AV} {v : Value} (h : ret3 ids S c = some r) (hv : RdA w M.ok M.μ M.ν yl c v) (μ : Nat -> Option Nat) (yl' : Nat) : RdA w (okS true (lessO S ids) M) μ ν' yl' r v := by
 cases c with
 | tup cs =>
  simp only [ret3] at h
  cases hs : ret2L ids S cs with
  | none => rw [hs] at h; cases h
  | some l =>
   rw [hs] at h; simp only [Option.map_some, Option.some.injEq] at h; subst h
   obtain ⟨e1, e2⟩ := ret2L_spec hs
   obtain ⟨vs, rfl, h1, h3⟩ := hv.tup'
   refine .tup l vs (by rw [h1, e1]) (fun i c v hc hv => ?_)
   obtain ⟨y, hy, hyr⟩ := e2 i c hc
   exact ret2_spec hr hν hyr (h3 i y v hy hv) μ yl'
 | any => exact ret2_spec hr hν (c := .any) h hv μ yl'
 | d _ => exact ret2_spec hr hν (c := .d _) h hv μ yl'
 | fn _ _ => exact ret2_spec hr hν (c := .fn _ _) h hv μ yl'
 | loc _ _ => exact ret2_spec hr hν (c := .loc _ _) h hv μ yl'
 | asl _ _ _ _ => exact ret2_spec hr hν (c := .asl _ _ _ _) h hv μ yl'
 | osl _ => exact ret2_spec hr hν (c := .osl _) h hv μ yl'
 | oloc _ _ _ _ => exact ret2_spec hr hν (c := .oloc _ _ _ _) h hv μ yl'
 | yld => exact ret2_spec hr hν (c := .yld) h hv μ yl'
 | agg _ => exact ret2_spec hr hν (c := .agg _) h hv μ yl'
end
theorem Rel.take {base : Nat} {S : St} {M : Mp} {yl : Nat} {a : Act} {w : World} {D : Nat} {ds : List Nat} (h : Rel base S M yl a w) (hd : M.ds = D :: ds) :
  Rel base S { M with ds := ds } yl { a with defers := marks ds } (w.putObj D (.deferred none)) := by
 obtain ⟨hD1, hD2, hD3⟩ := h.dsOk D (by rw [hd]; simp)
 have hN : D ∉ ds := by have := h.dsN; rw [hd] at this; exact (List.nodup_cons.1 this).1
 have hlt := (Array.getElem?_eq_some_iff.1 hD2).1
 have hw : ∀ k, k ≠ D -> (w.putObj D (.deferred none)).heap[k]? = w.heap[k]? := fun k hk => World.putObj_heap_other hk
 have hokw : ∀ k, M.ok k -> (w.putObj D (.deferred none)).heap[k]? = w.heap[k]? := fun k hk => hw k (fun e => hD3 (e ▸ hk))
 refine ⟨by simp; exact h.lo, h.size, fun t c ht => ?_, ⟨fun b B hB => ?_, fun id R hR => ?_, fun x y k hx hy => h.heap.inj x y k (by cases x <;> exact hx) (by cases y <;> exact hy)⟩, fun k hk => by simp; exact h.okLt k hk, rfl, fun D' hD' => ?_, ?_⟩
 ·obtain ⟨v, h1, h2⟩ := h.tmp t c ht
  exact ⟨v, h1, h2.mono (fun _ x => x) hokw (fun _ _ => rfl) (fun _ _ => rfl)⟩
 ·obtain ⟨k, vs, e1, e2, e3, e4, e5, e6, e7, e8⟩ := h.heap.blk b B hB
  have hkD : k ≠ D := fun e => by subst e; rw [hD2] at e3; cases e3
  exact ⟨k, vs, e1, e2, (hw k hkD).trans e3, e4, fun i c v hc hv => (e5 i c v hc hv).mono (fun _ x => x) hokw (fun _ _ => rfl) (fun _ _ => rfl), e6, e7, e8⟩
 ·obtain ⟨v, flat, e1, e2, e3, e4, e5⟩ := h.heap.row id R hR
  refine ⟨v, flat, e1, ownsR_same e2 e3 hokw (fun k hk => hw k (fun e => ?_)), e3.mono (fun _ x => x) hokw, e4, e5⟩
  subst e
  obtain ⟨_, _, ob, hc, ho⟩ := h.heap.at_lt (x := .inr id) ⟨⟨R, hR⟩, v, e1, hk⟩
  rw [hD2] at hc; cases hc; cases ho
 ·obtain ⟨h1, h2, h3⟩ := h.dsOk D' (by rw [hd]; exact List.mem_cons_of_mem _ hD')
  exact ⟨h1, (hw D' (fun e => hN (e ▸ hD'))).trans h2, h3⟩
 ·have := h.dsN; rw [hd] at this; exact (List.nodup_cons.1 this).2
theorem leaves_marks {base : Nat} {S : St} {fn : Func} {R : Ending -> World -> Prop} {w0 : World} (hbase : w0.heap.size <= base) : ∀ (ds : List Nat) (M : Mp) (a : Act) (w : World), M.ds = ds -> Rel base S M 0 a w -> Below w0.heap.size w0 w ->
  (∀ M' a' w', Rel base S M' 0 a' w' -> Below w0.heap.size w0 w' -> M'.μ = M.μ -> M'.ν = M.ν -> M'.ok = M.ok -> a'.tmps = a.tmps -> w'.heap.size = w.heap.size -> ∃ v, (results fn a.tmps).run P w' = .ok v w' /\ R (.returned v) w') ->
  LeavesInM (FW none) 0 P fn a.tmps R (marks ds) .returning w
 | [], M, a, w, hd, hr, hb, h => h M a w hr hb rfl rfl rfl rfl rfl
 | D :: ds, M, a, w, hd, hr, hb, h => by
  refine ⟨by simp, .inl ⟨D, w.putObj D (.deferred none), rfl, run_takeDeferred (hr.dsOk D (by rw [hd]; simp)).2.1, ?_⟩⟩
  have hD := (hr.dsOk D (by rw [hd]; simp))
  have := leaves_marks hbase ds { M with ds := ds } { a with defers := marks ds } (w.putObj D (.deferred none)) rfl (hr.take hd)
   (hb.grown (grownBy_putObj' w D _) hb.size (fun k e => by cases e; omega)) (fun M' a' w' h1 h2 h3 h4 h5 h6 h7 => h M' a' w' h1 h2 h3 h4 h5 h6 (h7.trans (by simp)))
  exact this
end Go.Proofs.Ytfilnnbfppokmaa.Aw
namespace Go.Proofs.Ytfilnnbfppokmaa.Aw
open Go Go.RowKit
variable {P : Program} {E : Env P}
def setA {α : Type} : List (Nat × α) -> Nat -> α -> List (Nat × α)
 | [], _, _ => []
 | (k, u) :: r, n, v => if k = n then (k, v) :: r else (k, u) :: setA r n v
theorem look_setA {α : Type} {l : List (Nat × α)} {b : Nat} {u v : α} (h : look l b = some u) (b' : Nat) : look (setA l b v) b' = if b = b' then some v else look l b' := by
 induction l with
 | nil => simp [look] at h
 | cons p r ih =>
  obtain ⟨k, x⟩ := p
  simp only [look] at h
  simp only [setA]
  by_cases e : k = b
  ·subst e
   rw [if_pos rfl]
   simp only [look]
   by_cases e' : k = b' <;> simp [e']
  ·rw [if_neg e] at h ⊢
   simp only [look]
   by_cases e' : k = b'
   ·subst e'; rw [if_pos rfl, if_neg (fun h => e h.symm), if_pos rfl]
   ·rw [if_neg e', ih h, if_neg e']
def setBox (S : St) (b : Nat) (B : Blk) : St := { S with H := setA S.H b B }
theorem setRow_at {w : World} {g : Nat} {cs : Array Value} {k : Nat} (h : k ≠ g) : (w.setRow g cs).heap[k]? = w.heap[k]? := setRow_other w g k cs h
theorem Cfg.setBox {base : Nat} {S : St} {s : E.σ} {M : Mp} {a : Act} {w : World} {b k : Nat} {B : Blk} {cells : List AV} {vs : Array Value} (h : Cfg E base S s M a w) (hB : look S.H b = some B) (hl : B.live = true) (hk : M.μ b = some k)
  (hc : CellsRel w M.ok M.μ M.ν E.l cells vs) (hlen : cells.length = B.cells.length) : Cfg E base (setBox S b ⟨B.e, cells, true⟩) s M a (w.setRow k vs) /\ Ext S M w (Aw.setBox S b ⟨B.e, cells, true⟩) M (w.setRow k vs) := by
 have hr := h.rel
 obtain ⟨k', old, e1, e2, e3, e4, e5, e6, e7, e8⟩ := hr.heap.blk b B hB
 rw [hk] at e1; cases e1
 have hnok := e7 hl
 have hlk : ∀ b', look (setA S.H b ⟨B.e, cells, true⟩) b' = if b = b' then some ⟨B.e, cells, true⟩ else look S.H b' := look_setA hB
 have hat : ∀ x j, At (setA S.H b ⟨B.e, cells, true⟩) S.O M x j ↔ At S.H S.O M x j := by
  intro x j
  cases x with
  | inr id => exact Iff.rfl
  | inl b' =>
   simp only [At, hlk]
   by_cases e : b = b'
   ·subst e; simp [hB]
   ·simp [e]
 have hliv : ∀ x, Liv (setA S.H b ⟨B.e, cells, true⟩) S.O x ↔ Liv S.H S.O x := by
  intro x
  cases x with
  | inr id => exact Iff.rfl
  | inl b' =>
   simp only [Liv, hlk]
   by_cases e : b = b'
   ·subst e; simp [hB, hl]
   ·simp [e]
 have hown : ∀ j, Own (Aw.setBox S b ⟨B.e, cells, true⟩) M j ↔ Own S M j := by
  intro j
  simp only [Own, Aw.setBox]
  constructor
  ·rintro (⟨x, hx, hl⟩ | hd)
   ·exact .inl ⟨x, (hat x j).1 hx, (hliv x).1 hl⟩
   ·exact .inr hd
  ·rintro (⟨x, hx, hl⟩ | hd)
   ·exact .inl ⟨x, (hat x j).2 hx, (hliv x).2 hl⟩
   ·exact .inr hd
 have hownk : Own S M k := .inl ⟨.inl b, ⟨⟨B, hB⟩, hk⟩, B, hB, hl⟩
 have hokw : ∀ j, M.ok j -> (w.setRow k vs).heap[j]? = w.heap[j]? := fun j hj => setRow_at (fun e => hnok (e ▸ hj))
 have hmono : ∀ {c v}, RdA w M.ok M.μ M.ν E.l c v -> RdA (w.setRow k vs) M.ok M.μ M.ν E.l c v := fun hv => hv.mono (fun _ x => x) hokw (fun _ _ => rfl) (fun _ _ => rfl)
 have hsize : (w.setRow k vs).heap.size = w.heap.size := by simp [World.setRow]
 refine ⟨⟨⟨by rw [hsize]; exact hr.lo, hr.size, fun t c ht => ?_, ⟨fun b' B' hB' => ?_, fun id R hR => ?_, fun x y j hx hy => hr.heap.inj x y j ((hat x j).1 hx) ((hat y j).1 hy)⟩, fun j hj => by rw [hsize]; exact hr.okLt j hj, hr.dfr, fun D hD => ?_, hr.dsN⟩, ?_, h.okLv, fun j hj => h.own j ((hown j).1 hj), h.okDom, h.bDom⟩,
  ⟨rfl, rfl, rfl, by rw [hsize]; exact Nat.le_refl _, fun j _ hj _ => setRow_at (fun e => hj (e ▸ hownk)), fun j _ hj => (hown j).1 hj, fun _ x => x, fun _ _ x => .inl x, fun _ _ x => x, Nat.le_refl _, fun _ _ => rfl, fun _ _ x => .inl x, fun _ _ => rfl⟩⟩
 ·obtain ⟨v, h1, h2⟩ := hr.tmp t c ht; exact ⟨v, h1, hmono h2⟩
 ·simp only [Aw.setBox] at hB'
  rw [hlk] at hB'
  by_cases e : b = b'
  ·subst e
   rw [if_pos rfl] at hB'; cases hB'
   exact ⟨k, vs, hk, e2, setRow_heap w k old vs B.e (0, 0) e3, hc.len, fun i c v h1 h2 => hmono (hc.get i c v h1 h2), hc.one, fun _ => hnok, fun hf => by cases hf⟩
  ·rw [if_neg e] at hB'
   obtain ⟨k', vs', f1, f2, f3, f4, f5, f6, f7, f8⟩ := hr.heap.blk b' B' hB'
   have hne : k' ≠ k := fun ek => by
    subst ek
    have := hr.heap.inj (.inl b) (.inl b') k' ⟨⟨B, hB⟩, hk⟩ ⟨⟨B', hB'⟩, f1⟩
    simp only [Sum.inl.injEq] at this; exact e this
   exact ⟨k', vs', f1, f2, (setRow_at hne).trans f3, f4, fun i c v h1 h2 => hmono (f5 i c v h1 h2), f6, f7, f8⟩
 ·obtain ⟨v, flat, f1, f2, f3, f4, f5⟩ := hr.heap.row id R hR
  refine ⟨v, flat, f1, ownsR_same f2 f3 hokw (fun j hj => setRow_at (fun e => ?_)), f3.mono (fun _ x => x) hokw, f4, f5⟩
  subst e
  have := hr.heap.inj (.inl b) (.inr id) j ⟨⟨B, hB⟩, hk⟩ ⟨⟨R, hR⟩, v, f1, hj⟩
  cases this
 ·obtain ⟨h1, h2, h3⟩ := hr.dsOk D hD
  exact ⟨h1, (setRow_at (fun e => by subst e; rw [h2] at e3; cases e3)).trans h2, h3⟩
 ·refine E.frame _ _ _ _ _ h.j (fun j hj => setRow_at (fun e => ?_)) (by rw [hsize]; exact Nat.le_refl _)
  subst e
  have := h.own j hownk
  exact hj.elim this.1 this.2
theorem bar_run {o : Oper} {S S' : St} {s s' : E.σ} (hd : ∀ c, o.op ≠ .defer c) (hdst : o.dst = none)
  (h : ∀ base M a w, Cfg E base S s M a w -> ∃ w' M', (execOp a.eval o).run P w = .ok .skip w' /\ Cfg E base S' s' M' a w' /\ Ext S M w S' M' w') : Bar E o S s S' s' := by
 intro r base M a w hc K Q hK
 obtain ⟨w', M', hrun, hc', hx⟩ := h base M a w hc
 unfold Oper.wpIn
 rw [Oper.semAt_eq _ _ _ hd, hrun]
 refine ⟨fun _ _ => trivial, ?_⟩
 have : a.put o.dst undef = a := by rw [hdst]; rfl
 exact hK undef w' M' (by rw [this]; exact hc') hx
theorem cells_putL {w : World} {ok : Nat -> Prop} {μ : Nat -> Option Nat} {ν : Nat -> Option Value} {yl off : Nat} {cells cs : List AV} {vs us : Array Value} (h : CellsRel w ok μ ν yl cells vs) (h' : CellsRel w ok μ ν yl cs us) (hl : off + cs.length <= cells.length) :
  CellsRel w ok μ ν yl (putL cells off cs) (vs.toList.take off ++ us.toList ++ vs.toList.drop (off + us.toList.length)).toArray := by
 have hvl : vs.toList.length = cells.length := by simpa using h.len
 have hul : us.toList.length = cs.length := by simpa using h'.len
 have hto : (cells.take off).length = off := by simp; omega
 have hto' : (vs.toList.take off).length = off := by rw [List.length_take]; omega
 refine ⟨by simp only [List.size_toArray, List.length_append, List.length_take, List.length_drop, putL]; omega, fun i u hu => ?_, fun i x u hx hu => ?_⟩
 ·simp only [List.getElem?_toArray] at hu
  by_cases h1 : i < off
  ·rw [List.append_assoc, List.getElem?_append_left (by omega), List.getElem?_take, if_pos h1, Array.getElem?_toList] at hu
   exact h.one i u hu
  ·by_cases h2 : i < off + cs.length
   ·rw [List.append_assoc, List.getElem?_append_right (by omega), hto', List.getElem?_append_left (by omega), Array.getElem?_toList] at hu
    exact h'.one _ u hu
   ·rw [List.getElem?_append_right (by rw [List.length_append]; omega), List.getElem?_drop, Array.getElem?_toList] at hu
    exact h.one _ u hu
 ·simp only [List.getElem?_toArray] at hu
  unfold putL at hx
  by_cases h1 : i < off
  ·rw [List.append_assoc, List.getElem?_append_left (by omega), List.getElem?_take, if_pos h1, Array.getElem?_toList] at hu
   rw [List.append_assoc, List.getElem?_append_left (by omega), List.getElem?_take, if_pos h1] at hx
   exact h.get i x u hx hu
  ·by_cases h2 : i < off + cs.length
   ·rw [List.append_assoc, List.getElem?_append_right (by omega), hto', List.getElem?_append_left (by omega), Array.getElem?_toList] at hu
    rw [List.append_assoc, List.getElem?_append_right (by omega), hto, List.getElem?_append_left (by omega)] at hx
    exact h'.get _ x u hx hu
   ·rw [List.getElem?_append_right (by rw [List.length_append]; omega), List.getElem?_drop, List.length_append, hto', Array.getElem?_toList] at hu
    rw [List.getElem?_append_right (by rw [List.length_append]; omega), List.getElem?_drop, List.length_append, hto] at hx
    rw [hul] at hu
    exact h.get _ x u hx hu
theorem bar_store {o : Oper} {S : St} {s : E.σ} {t : TypeId} {p x : Operand} {b off : Nat} {B : Blk} {c : AV} {cs : List AV} (ho : o.op = .store t p x) (hdst : o.dst = none) (hp : opnd S.T p = some (.loc b off)) (hB : look S.H b = some B) (hl : B.live = true)
  (hx : opnd S.T x = some c) (hc : avCells c = some cs) (hs : szT P t = some cs.length) (hfit : Nat.ble (off + cs.length) B.cells.length = true) : Bar E o S s (setBox S b ⟨B.e, putL B.cells off cs, true⟩) s :=
 bar_run (by simp [ho]) hdst fun base M a w hcfg => by
  have hr := hcfg.rel
  obtain ⟨k, hk, hpv⟩ := (hr.opnd hp).loc'
  obtain ⟨k', vs, e1, e2, e3, e4, e5, e6, e7, e8⟩ := hr.heap.blk b B hB
  rw [hk] at e1; cases e1
  obtain ⟨g1, g2, g3⟩ := avCells_spec (hr.opnd hx) hc
  have hfit' := Nat.le_of_ble_eq_true hfit
  have hcr : CellsRel w M.ok M.μ M.ν E.l (putL B.cells off cs) _ := cells_putL (us := (a.eval x).cells) ⟨e4, e6, e5⟩ ⟨g1, g2, g3⟩ hfit'
  obtain ⟨c1, c2⟩ := hcfg.setBox hB hl hk hcr (by unfold putL; simp only [List.length_append, List.length_take, List.length_drop]; omega)
  refine ⟨_, M, ?_, c1, c2⟩
  have hst := run_storeCells_at P k off B.e (a.eval x).cells.toList 0 vs w e3 (by simp; omega) (fun u hu => by
   obtain ⟨i, hi⟩ := List.getElem?_of_mem hu
   exact g2 i u (by simpa using hi))
  simp only [Nat.add_zero] at hst
  have hne : ¬ ((a.eval x).cells.size ≠ cs.length) := by simp [g1]
  simp only [execOp, ho, Instr.storeAt, Instr.sureAddr, hpv, storeVar, Sem.run_bind, Sem.run_pure, Result.andThen, run_sizeOf hs]
  rw [if_neg hne]
  simp only [Sem.run_bind, Sem.run_pure, Result.andThen, hst]
end Go.Proofs.Ytfilnnbfppokmaa.Aw
namespace Go.Proofs.Ytfilnnbfppokmaa.Aw
open Go Go.RowKit
variable {P : Program}
def noAggD : List D -> Bool
 | [] => true
 | .agg _ :: _ => false
 | _ :: r => noAggD r
theorem noAggD_spec {cs : List D} (h : noAggD cs = true) : ∀ c ∈ cs, ∀ l, c ≠ .agg l := by
 induction cs with
 | nil => intro c hc; cases hc
 | cons x r ih =>
  intro c hc l e
  subst e
  cases x with
  | agg _ => cases h
  | _ =>
   rcases List.mem_cons.1 hc with e | hc
   ·cases e
   ·exact ih h _ hc l rfl
def toRows (sz : Nat) : Nat -> List D -> List (List D)
 | 0, _ => []
 | n + 1, l => l.take sz :: toRows sz n (l.drop sz)
theorem toRows_spec {sz : Nat} : ∀ {n : Nat} {l : List D}, l.length = n * sz -> (toRows sz n l).flatten = l /\ (toRows sz n l).length = n /\ allLen (toRows sz n l) sz = true
 | 0, l, h => by
  have : l = [] := List.eq_nil_of_length_eq_zero (by simpa using h)
  subst this; exact ⟨rfl, rfl, rfl⟩
 | n + 1, l, h => by
  have hl : (l.drop sz).length = n * sz := by rw [List.length_drop, h, Nat.add_mul]; omega
  obtain ⟨h1, h2, h3⟩ := toRows_spec hl
  refine ⟨by simp [toRows, h1], by simp [toRows, h2], ?_⟩
  have : sz <= l.length := by rw [h, Nat.add_mul]; omega
  simp [toRows, allLen] at h3 ⊢
  exact ⟨by omega, h3⟩
end Go.Proofs.Ytfilnnbfppokmaa.Aw
namespace Go.Proofs.Ytfilnnbfppokmaa.Aw
open Go Go.RowKit
variable {P : Program}
theorem fldT_pos {s f : Nat} {r : Nat × Nat × TypeId} (h : fldT P s f = some r) (h0 : Nat.blt 0 r.2.1 = true) : ∃ n, fldT P s f = some (r.1, n + 1, r.2.2) := by
 rw [Nat.blt_eq] at h0
 exact ⟨r.2.1 - 1, by rw [h, show r.2.1 - 1 + 1 = r.2.1 from by omega]⟩
theorem opndL_mapM {T : List (Nat × AV)} : ∀ {l : List Operand} {cs : List AV}, opndL T l = some cs -> l.mapM (opnd T) = some cs
 | [], cs, h => by simp [opndL] at h; subst h; rfl
 | x :: r, cs, h => by
  simp only [opndL] at h
  cases h1 : opnd T x with
  | none => rw [h1] at h; cases h
  | some c =>
   cases h2 : opndL T r with
   | none => rw [h1, h2] at h; cases h
   | some l =>
    rw [h1, h2] at h
    simp only [Option.some.injEq] at h; subst h
    simp [List.mapM_cons, h1, opndL_mapM h2]
end Go.Proofs.Ytfilnnbfppokmaa.Aw
namespace Go.Proofs.Ytfilnnbfppokmaa.Aw
open Go Go.RowKit
variable {P : Program} {E : Env P}
def AV.forget (id : Nat) (c : AV) : AV := match c.hasRow id with
 | true => .any
 | false => c
def forgetT (id : Nat) : List (Nat × AV) -> List (Nat × AV)
 | [] => []
 | (t, c) :: r => (t, c.forget id) :: forgetT id r
def forgetL (id : Nat) : List AV -> List AV
 | [] => []
 | c :: r => c.forget id :: forgetL id r
def forgetH (id : Nat) : List (Nat × Blk) -> List (Nat × Blk)
 | [] => []
 | (b, B) :: r => (b, ⟨B.e, forgetL id B.cells, B.live⟩) :: forgetH id r
theorem AV.forget_row (id : Nat) (c : AV) : (c.forget id).hasRow id = false := by
 unfold AV.forget
 split
 ·rfl
 ·assumption
theorem look_forgetT {id t : Nat} : ∀ {T : List (Nat × AV)}, look (forgetT id T) t = (look T t).map (AV.forget id)
 | [] => rfl
 | (k, c) :: r => by
  simp only [forgetT, look]
  by_cases e : k = t
  ·simp [e]
  ·simp [e, look_forgetT]
theorem look_forgetH {id t : Nat} : ∀ {T : List (Nat × Blk)}, look (forgetH id T) t = (look T t).map fun B => ⟨B.e, forgetL id B.cells, B.live⟩
 | [] => rfl
 | (k, c) :: r => by
  simp only [forgetH, look]
  by_cases e : k = t
  ·simp [e]
  ·simp [e, look_forgetH]
theorem forgetL_get {id : Nat} : ∀ {cs : List AV} {i : Nat}, (forgetL id cs)[i]? = (cs[i]?).map (AV.forget id)
 | [], i => by simp [forgetL]
 | c :: r, 0 => by simp [forgetL]
 | c :: r, i + 1 => by simp [forgetL, forgetL_get]
theorem forgetL_len {id : Nat} : ∀ {cs : List AV}, (forgetL id cs).length = cs.length
 | [] => rfl
 | c :: r => by simp [forgetL, forgetL_len]
theorem RdA.forget {w : World} {ok : Nat -> Prop} {μ : Nat -> Option Nat} {ν : Nat -> Option Value} {yl id : Nat} {c : AV} {v : Value} (h : RdA w ok μ ν yl c v) : RdA w ok μ ν yl (c.forget id) v := by
 unfold AV.forget
 split
 ·exact .any v
 ·exact h
def putO (dst : Option Nat) (c : AV) (T : List (Nat × AV)) : List (Nat × AV) := match dst with
 | some t => (t, c) :: T
 | none => T
def appS (S : St) (dst : Option Nat) (id : Nat) (R : Row) : St := { S with T := putO dst (.osl id) (forgetT id S.T), H := forgetH id S.H, O := setA S.O id R }
theorem Cfg.appRow {base : Nat} {S : St} {s : E.σ} {M : Mp} {a : Act} {w w' : World} {id : Nat} {R : Row} {v v' : Value} {rows : List (List D)} {flat : List Value} {nn : Bool} {dst : Option Nat} (h : Cfg E base S s M a w) (hR : look S.O id = some R) (hl : R.live = true)
  (hv : M.ν id = some v) (hg : w.grownBy w' (ownB v)) (hown : ownsR w' base R.e R.sz nn v' rows.length flat) (hc : RowCells w' M.ok R.sz rows flat) (hnn : nn = true -> v' ≠ .slice none 0 0) (hblk : ∀ k, ownB v' = some k -> ownB v = some k \/ w.heap.size <= k)
  (hd : dstOk S dst = true) (h1 : v'.oneCell' = true) (hp : id < 100) : Cfg E base (appS S dst id ⟨R.e, R.sz, rows, nn, true⟩) s (setν M id v') (a.put dst v') w' /\ Ext S M w (appS S dst id ⟨R.e, R.sz, rows, nn, true⟩) (setν M id v') w' := by
 have hr := h.rel
 obtain ⟨v0, flat0, r1, r2, r3, r4, r5⟩ := hr.heap.row id R hR
 rw [hv] at r1; cases r1
 have hlk : ∀ b', look (setA S.O id ⟨R.e, R.sz, rows, nn, true⟩) b' = if id = b' then some ⟨R.e, R.sz, rows, nn, true⟩ else look S.O b' := look_setA hR
 have hownv : ∀ k, ownB v = some k -> Own S M k := fun k hk => .inl ⟨.inr id, ⟨⟨R, hR⟩, v, hv, hk⟩, R, hR, hl⟩
 have hnok : ∀ k, ownB v = some k -> ¬ M.ok k := fun k hk => (r5 k hk).1 hl
 have hsame : ∀ k, k < w.heap.size -> ownB v ≠ some k -> w'.heap[k]? = w.heap[k]? := fun k hk hne => hg.block k hk (fun e => hne e.symm)
 have hokw : ∀ k, M.ok k -> w'.heap[k]? = w.heap[k]? := fun k hk => hsame k (hr.okLt k hk) (fun e => hnok k e hk)
 have hmono : ∀ {c : AV} {u : Value}, RdA w M.ok M.μ M.ν E.l c u -> RdA w' M.ok M.μ (setν M id v').ν E.l (c.forget id) u := fun {c u} hu =>
  hu.forget.mono (fun _ x => x) hokw (fun _ _ => rfl) (fun b hb => by
   have : b ≠ id := fun e => by subst e; rw [AV.forget_row] at hb; cases hb
   simp [setν, this])
 have hat : ∀ x k, At (appS S dst id ⟨R.e, R.sz, rows, nn, true⟩).H (appS S dst id ⟨R.e, R.sz, rows, nn, true⟩).O (setν M id v') x k -> (x = .inr id /\ ownB v' = some k) \/ (x ≠ .inr id /\ At S.H S.O M x k) := by
  intro x k hx
  cases x with
  | inl b =>
   obtain ⟨⟨B, hB⟩, hk⟩ := hx
   simp only [appS] at hB
   rw [look_forgetH] at hB
   cases hh : look S.H b with
   | none => rw [hh] at hB; cases hB
   | some B' => exact .inr ⟨by simp, ⟨B', hh⟩, hk⟩
  | inr b =>
   obtain ⟨⟨B, hB⟩, u, hu, hk⟩ := hx
   simp only [appS] at hB
   rw [hlk] at hB
   by_cases e : id = b
   ·subst e
    have : (setν M id v').ν id = some v' := by simp [setν]
    rw [this] at hu; cases hu
    exact .inl ⟨rfl, hk⟩
   ·rw [if_neg e] at hB
    have : (setν M id v').ν b = M.ν b := by simp [setν, Ne.symm e]
    rw [this] at hu
    exact .inr ⟨by simp; exact fun h => e h.symm, ⟨B, hB⟩, u, hu, hk⟩
 have hliv : ∀ x, x ≠ .inr id -> Liv (appS S dst id ⟨R.e, R.sz, rows, nn, true⟩).H (appS S dst id ⟨R.e, R.sz, rows, nn, true⟩).O x -> Liv S.H S.O x := by
  intro x hne hx
  cases x with
  | inl b =>
   obtain ⟨B, hB, hl⟩ := hx
   simp only [appS] at hB
   rw [look_forgetH] at hB
   cases hh : look S.H b with
   | none => rw [hh] at hB; cases hB
   | some B' => rw [hh] at hB; cases hB; exact ⟨B', hh, hl⟩
  | inr b =>
   obtain ⟨B, hB, hl⟩ := hx
   simp only [appS] at hB
   rw [hlk, if_neg (fun e => hne (by rw [e]))] at hB
   exact ⟨B, hB, hl⟩
 have hownS : ∀ k, Own (appS S dst id ⟨R.e, R.sz, rows, nn, true⟩) (setν M id v') k -> w.heap.size <= k \/ Own S M k := by
  rintro k (⟨x, hx, hl'⟩ | hd')
  ·rcases hat x k hx with ⟨rfl, hk⟩ | ⟨hne, hx'⟩
   ·rcases hblk k hk with hk' | hk'
    ·exact .inr (hownv k hk')
    ·exact .inl hk'
   ·exact .inr (.inl ⟨x, hx', hliv x hne hl'⟩)
  ·exact .inr (.inr hd')
 have hlt := E.lt _ _ _ _ h.j
 have hput : (a.put dst v').defers = a.defers := by cases dst <;> rfl
 have hnlv : ∀ k, M.lv k \/ M.rd k -> ownB v ≠ some k := fun k hk e => hk.elim (h.own k (hownv k e)).1 (h.own k (hownv k e)).2
 refine ⟨⟨⟨Nat.le_trans hr.lo hg.size, ?_, ?_, ⟨?_, ?_, ?_⟩, fun k hk => Nat.lt_of_lt_of_le (hr.okLt k hk) hg.size, by rw [hput]; exact hr.dfr, ?_, hr.dsN⟩, ?_, h.okLv, ?_, h.okDom, h.bDom⟩, ⟨hg.os, hg.tape, hg.output, hg.size, ?_, ?_, fun _ x => x, fun _ _ x => .inl x, fun _ _ x => x, Nat.le_refl _, fun _ _ => rfl, fun _ _ x => .inl x, fun i hi => by simp [setν, show ¬ i = id from by omega]⟩⟩
 ·cases dst with
  | none => exact hr.size
  | some t => simp only [Act.put, Array.size_setIfInBounds]; exact hr.size
 ·intro t c ht
  have old : ∀ {t c}, look (forgetT id S.T) t = some c -> ∃ u, a.tmps[t]? = some u /\ RdA w' M.ok M.μ (setν M id v').ν E.l c u := by
   intro t c ht
   rw [look_forgetT] at ht
   cases hh : look S.T t with
   | none => rw [hh] at ht; cases ht
   | some c' =>
    rw [hh] at ht; cases ht
    obtain ⟨u, h1, h2⟩ := hr.tmp t c' hh
    exact ⟨u, h1, hmono h2⟩
  cases dst with
  | none => exact old ht
  | some t' =>
   simp only [appS, putO, look] at ht
   by_cases he : t' = t
   ·rw [if_pos he] at ht; cases ht; subst he
    have hlt : t' < a.tmps.size := by rw [hr.size]; exact Nat.le_of_ble_eq_true hd
    exact ⟨v', by simp [Act.put, hlt], .osl (by simp [setν]) h1⟩
   ·rw [if_neg he] at ht
    obtain ⟨u, h1, h2⟩ := old ht
    exact ⟨u, by simp only [Act.put]; rw [Array.getElem?_setIfInBounds_ne he]; exact h1, h2⟩
 ·intro b B hB
  simp only [appS] at hB
  rw [look_forgetH] at hB
  cases hh : look S.H b with
  | none => rw [hh] at hB; cases hB
  | some B' =>
   rw [hh] at hB; cases hB
   obtain ⟨k, vs, e1, e2, e3, e4, e5, e6, e7, e8⟩ := hr.heap.blk b B' hh
   have hk : ownB v ≠ some k := fun e => by
    have := hr.heap.inj (.inl b) (.inr id) k ⟨⟨B', hh⟩, e1⟩ ⟨⟨R, hR⟩, v, hv, e⟩
    cases this
   refine ⟨k, vs, e1, e2, (hsame k (Array.getElem?_eq_some_iff.1 e3).1 hk).trans e3, by rw [e4]; exact forgetL_len.symm, fun i c u hc hu => ?_, e6, e7, e8⟩
   simp only at hc
   rw [forgetL_get] at hc
   cases hi : B'.cells[i]? with
   | none => rw [hi] at hc; cases hc
   | some c' => rw [hi] at hc; cases hc; exact hmono (e5 i c' u hi hu)
 ·intro id' R' hR'
  simp only [appS] at hR'
  rw [hlk] at hR'
  by_cases e : id = id'
  ·subst e
   rw [if_pos rfl] at hR'; cases hR'
   exact ⟨v', flat, by simp [setν], hown, hc, hnn, fun k hk => ⟨fun _ hok => (hblk k hk).elim (fun e => hnok k e hok) (fun e => by have := hr.okLt k hok; omega), fun hf => by cases hf⟩⟩
  ·rw [if_neg e] at hR'
   obtain ⟨u, fl, e1, e2, e3, e4, e5⟩ := hr.heap.row id' R' hR'
   refine ⟨u, fl, by simp [setν, Ne.symm e, e1], ownsR_same e2 e3 hokw (fun k hk => hsame k (e2.lt k hk).2 (fun ek => ?_)), e3.mono (fun _ x => x) hokw, e4, e5⟩
   have := hr.heap.inj (.inr id') (.inr id) k ⟨⟨R', hR'⟩, u, e1, hk⟩ ⟨⟨R, hR⟩, v, hv, ek⟩
   simp only [Sum.inr.injEq] at this; exact e this.symm
 ·intro x y k hx hy
  rcases hat x k hx with ⟨rfl, hx'⟩ | ⟨hnx, hx'⟩ <;> rcases hat y k hy with ⟨rfl, hy'⟩ | ⟨hny, hy'⟩
  ·rfl
  ·exfalso
   rcases hblk k hx' with hk | hk
   ·exact hny (hr.heap.inj y (.inr id) k hy' ⟨⟨R, hR⟩, v, hv, hk⟩)
   ·have := (hr.heap.at_lt hy').2.1; omega
  ·exfalso
   rcases hblk k hy' with hk | hk
   ·exact hnx (hr.heap.inj x (.inr id) k hx' ⟨⟨R, hR⟩, v, hv, hk⟩)
   ·have := (hr.heap.at_lt hx').2.1; omega
  ·exact hr.heap.inj x y k hx' hy'
 ·intro D hD
  obtain ⟨h1, h2, h3⟩ := hr.dsOk D hD
  refine ⟨h1, (hsame D (Array.getElem?_eq_some_iff.1 h2).1 (fun e => ?_)).trans h2, h3⟩
  obtain ⟨_, _, ob, he, ho⟩ := hr.heap.at_lt (x := .inr id) (k := D) ⟨⟨R, hR⟩, v, hv, e⟩
  rw [h2] at he; cases he; cases ho
 ·exact E.frame _ _ _ _ _ h.j (fun k hk => hsame k (hlt k hk) (hnlv k hk)) hg.size
 ·intro k hk
  rcases hownS k hk with x | x
  ·exact ⟨fun y => by have := hlt k (.inl y); omega, fun y => by have := hlt k (.inr y); omega⟩
  ·exact h.own k x
 ·exact fun k hk hno _ => hsame k hk (fun e => hno (hownv k e))
 ·exact fun k hk x => (hownS k x).resolve_left (by omega)
def srcRows (S : St) (id sz : Nat) : AV -> Option (List (List D))
 | .d (.sl _ sz' rows) => if Nat.beq sz' sz then some rows else none
 | .d .nilsl => some []
 | .osl id' => match look S.O id' with
  | some R => if Nat.beq R.sz sz && !Nat.beq id id' then some R.rows else none
  | none => none
 | _ => none
theorem nil_block {v : Value} {w : World} {base n sz : Nat} {e : TypeId} {xs : List Value} (h : w.ownsRow base e sz v n xs) : v.oneCell' = true := by
 rcases h.2 with ⟨rfl, _⟩ | ⟨g, cap, cur, rfl, _⟩ <;> rfl
theorem src_spec {base : Nat} {S : St} {M : Mp} {yl : Nat} {a : Act} {w : World} {id sz : Nat} {c : AV} {news : List (List D)} {v : Value} (hr : Rel base S M yl a w) (hp0 : 0 < sz) (h : srcRows S id sz c = some news) (hv : RdA w M.ok M.μ M.ν yl c v) :
  (∀ row ∈ news, row.length = sz) /\ news.length <= maxLen /\ ((v = .slice none 0 0 /\ news = []) \/ ∃ (ad : Addr) (cap : Nat), v = .slice (some ad) news.length cap /\ ∃ xs : List Value, xs.length = news.length * sz /\ (∀ (j : Nat) (u : Value), xs[j]? = some u -> w.cell? (ad.add j) = some u) /\
   ∀ (i : Nat) (row : List D) (j : Nat) (c : D), news[i]? = some row -> row[j]? = some c -> ∃ x, xs[i * sz + j]? = some x /\ Rd w M.ok c x /\ x.oneCell' = true) := by
 cases c with
 | d x =>
  cases x with
  | sl clip sz' rows =>
   simp only [srcRows] at h
   by_cases hb : Nat.beq sz' sz = true
   ·rw [if_pos hb] at h; cases h
    have := Nat.eq_of_beq_eq_true hb; subst this
    cases hv with
    | d hv =>
     cases hv with
     | sl0 => exact ⟨fun row hr => (by cases hr), Nat.zero_le _, .inl ⟨rfl, rfl⟩⟩
     | slE _ _ ad => exact ⟨fun row hr => (by cases hr), Nat.zero_le _, .inr ⟨ad, 0, rfl, [], by simp, fun j u hu => (by simp at hu), fun i row j c hi => (by simp at hi)⟩⟩
     | sl _ _ _ b off cap vs hok hcap hmax hclip hsz hc h1 hh =>
      have hadd : ∀ j, (⟨b, off, none⟩ : Addr).add j = ⟨b, off + j, none⟩ := fun j => by unfold Addr.add; split <;> simp_all
      refine ⟨hsz, by omega, .inr ⟨⟨b, off, none⟩, cap, rfl, (List.range (news.length * sz')).map (fun j => vs (j / sz') (j % sz')), by simp, fun j u hu => ?_, fun i row j c hi hj => ?_⟩⟩
      ·rw [List.getElem?_map] at hu
       by_cases hj : j < news.length * sz'
       ·rw [List.getElem?_range hj] at hu
        cases hu
        have hpos : 0 < sz' := by
         rcases Nat.eq_zero_or_pos sz' with e | e
         ·subst e; omega
         ·exact e
        have hi : j / sz' < news.length := Nat.div_lt_of_lt_mul (by rw [Nat.mul_comm]; exact hj)
        have hrow := hsz (news[j / sz']) (List.getElem_mem hi)
        have := hc (j / sz') (news[j / sz']) (j % sz') ((news[j / sz'])[j % sz']'(by rw [hrow]; exact Nat.mod_lt _ hpos)) (by simp) (by simp)
        rw [<- this, hadd]
        congr 2
        have := Nat.div_add_mod j sz'
        rw [Nat.mul_comm] at this
        omega
       ·rw [List.getElem?_eq_none (by simp; omega)] at hu; cases hu
      ·have hi' := (List.getElem?_eq_some_iff.1 hi).1
       have hj' := (List.getElem?_eq_some_iff.1 hj).1
       have hlen := hsz row (List.mem_of_getElem? hi)
       rw [hlen] at hj'
       have hlt : i * sz' + j < news.length * sz' := by
        calc i * sz' + j < i * sz' + sz' := by omega
         _ = (i + 1) * sz' := by rw [Nat.add_mul]; omega
         _ <= news.length * sz' := Nat.mul_le_mul_right _ hi'
       refine ⟨vs i j, ?_, hh i row j c hi hj, h1 i row j c hi hj⟩
       rw [List.getElem?_map, List.getElem?_range hlt]
       simp only [Option.map_some]
       rw [show (i * sz' + j) / sz' = i from by rw [Nat.mul_comm, Nat.mul_add_div (by omega), Nat.div_eq_of_lt hj', Nat.add_zero], show (i * sz' + j) % sz' = j from by rw [Nat.mul_comm, Nat.mul_add_mod, Nat.mod_eq_of_lt hj']]
   ·rw [if_neg hb] at h; cases h
  | nilsl =>
   simp only [srcRows, Option.some.injEq] at h; subst h
   exact ⟨fun row hr => (by cases hr), Nat.zero_le _, .inl ⟨hv.nilsl, rfl⟩⟩
  | _ => cases h
 | osl id' =>
  simp only [srcRows] at h
  cases hR : look S.O id' with
  | none => rw [hR] at h; cases h
  | some R =>
   rw [hR] at h
   simp only at h
   by_cases hb : (Nat.beq R.sz sz && !Nat.beq id id') = true
   ·rw [if_pos hb] at h; cases h
    simp only [Bool.and_eq_true] at hb
    have := Nat.eq_of_beq_eq_true hb.1
    obtain ⟨v', flat, h1, h2, h3, h4, h5⟩ := (hr.heap.row id' R hR).sl (by omega)
    rw [hv.osl'] at h1; cases h1
    rcases h2.2 with ⟨rfl, hz⟩ | ⟨g, cap, cur, rfl, h6, h7, h8, h9, h10, h11⟩
    ·exact ⟨by rw [<- this]; exact h3.1, by omega, .inl ⟨rfl, List.eq_nil_of_length_eq_zero hz⟩⟩
    ·exact ⟨by rw [<- this]; exact h3.1, by omega, .inr ⟨⟨g, 0, none⟩, cap, rfl, flat, by rw [<- this]; exact h2.1, fun j u hu => h2.cells rfl j u hu, by rw [<- this]; exact h3.2⟩⟩
   ·rw [if_neg hb] at h; cases h
 | _ => cases h
theorem bar_val {o : Oper} {S S' : St} {s s' : E.σ} (hd : ∀ c, o.op ≠ .defer c)
  (h : ∀ base M a w, Cfg E base S s M a w -> ∃ v w' M', (execOp a.eval o).run P w = .ok (.value v) w' /\ Cfg E base S' s' M' (a.put o.dst v) w' /\ Ext S M w S' M' w') : Bar E o S s S' s' := by
 intro r base M a w hc K Q hK
 obtain ⟨v, w', M', hrun, hc', hx⟩ := h base M a w hc
 unfold Oper.wpIn
 rw [Oper.semAt_eq _ _ _ hd, hrun]
 exact ⟨fun _ _ => trivial, hK v w' M' hc' hx⟩
theorem rowCells_append {w : World} {ok : Nat -> Prop} {sz : Nat} {rows news : List (List D)} {flat xs : List Value} (h : RowCellsS w ok sz rows flat) (hl : flat.length = rows.length * sz) (h1 : ∀ row ∈ news, row.length = sz)
  (h2 : ∀ (i : Nat) (row : List D) (j : Nat) (c : D), news[i]? = some row -> row[j]? = some c -> ∃ x, xs[i * sz + j]? = some x /\ Rd w ok c x /\ x.oneCell' = true) : RowCellsS w ok sz (rows ++ news) (flat ++ xs) := by
 refine ⟨fun row hr => (List.mem_append.1 hr).elim (h.1 row) (h1 row), fun i row j c hi hj => ?_⟩
 have hjl : j < sz := by
  have hmem := List.mem_of_getElem? hi
  have := (List.mem_append.1 hmem).elim (h.1 row) (h1 row)
  rw [<- this]; exact (List.getElem?_eq_some_iff.1 hj).1
 by_cases hlt : i < rows.length
 ·rw [List.getElem?_append_left hlt] at hi
  obtain ⟨x, e1, e2⟩ := h.2 i row j c hi hj
  refine ⟨x, ?_, e2⟩
  rw [List.getElem?_append_left (List.getElem?_eq_some_iff.1 e1).1]; exact e1
 ·rw [List.getElem?_append_right (by omega)] at hi
  obtain ⟨x, e1, e2⟩ := h2 _ row j c hi hj
  refine ⟨x, ?_, e2⟩
  have hmul : i * sz = rows.length * sz + (i - rows.length) * sz := by rw [<- Nat.add_mul]; congr 1; omega
  rw [List.getElem?_append_right (by rw [hl, hmul]; omega), hl, hmul, show rows.length * sz + (i - rows.length) * sz + j - rows.length * sz = (i - rows.length) * sz + j from by omega]
  exact e1
theorem run_append_at {w : World} {base : Nat} {t ty e : TypeId} {it : TypeInfo} {z : Value} {size bytes : Nat} (ht : P.underlying t = some (.slice e)) (hi : P.info? e = some it) (hz : it.zero = some z)
  (hsize : it.size = size) (hby : it.bytes = bytes) (hzs : z.cells.size = size) (hsz : 0 < size) {v : Value} {n : Nat} {xs : List Value} (hown : w.ownsRow base e size v n xs)
  {a : Addr} {m c : Nat} {news : List Value} (hl : news.length = m * size) (hnews : ∀ j u, news[j]? = some u -> w.cell? (a.add j) = some u) (h1 : ∀ u ∈ news, u.oneCell' = true)
  (h63 : n + m <= maxLen) (hbytes : (n + m) * bytes <= 140737488355328) (hbase : base <= w.heap.size) :
  ∃ v' w', (Builtin.append_ #[t, t] ty #[v, .slice (some a) m c]).run P w = .ok v' w' /\ w'.ownsRow base e size v' (n + m) (xs ++ news) /\ w.grownBy w' v.ownBlock /\
   (v' = .slice none 0 0 ↔ v = .slice none 0 0 /\ m = 0) /\ ∀ k, v'.ownBlock = some k -> v.ownBlock = some k \/ w.heap.size <= k := by
 obtain ⟨v', w', hr, h2, h3, h4⟩ := run_append_own (P := P) w base t ty e it z size bytes ht hi hz hsize hby hzs hsz v n xs hown a m c news hl hnews h1 h63 hbytes hbase
 refine ⟨v', w', hr, h2, h3, h4, ?_⟩
 rcases hown.2 with ⟨rfl, rfl⟩ | ⟨g, cap, cur, rfl, hbg, hg, hnc, hcm, hcs, htake⟩
 ·obtain ⟨v2, w2, hr2, h22, _⟩ := run_append_own (P := P) w w.heap.size t ty e it z size bytes ht hi hz hsize hby hzs hsz (.slice none 0 0) 0 xs ⟨hown.1, .inl ⟨rfl, rfl⟩⟩ a m c news hl hnews h1 h63 hbytes (Nat.le_refl _)
  rw [hr] at hr2; cases hr2
  exact fun k hk => .inr (h22.lt k hk).1
 ·subst hsize
  subst hby
  by_cases hroom : n + m <= cap
  ·have hfit : n * it.size + news.length <= cur.size := by rw [hl, hcs, <- Nat.add_mul]; exact Nat.mul_le_mul_right _ hroom
   have hr2 := run_append_room (P := P) w t ty e it ht hi g n cap cur hg a m c news hl hnews h1 hroom hfit
   rw [hr] at hr2; cases hr2
   exact fun k hk => .inl hk
  ·have holds : ∀ j u, xs[j]? = some u -> w.cell? ((⟨g, 0, none⟩ : Addr).add j) = some u := hown.cells (g := g) rfl
   have hsmall : n + m <= 9223372036854775807 := by simp only [maxLen] at h63; omega
   have hr2 := run_append_grow (P := P) w t ty e it z ht hi hz ⟨g, 0, none⟩ n cap xs hown.1 holds a m c news hl hnews (by omega) (by omega) (growslice_fits (by omega) hbytes)
   rw [hr] at hr2; cases hr2
   exact fun k hk => .inr (by simp [Value.ownBlock] at hk; omega)
theorem oneCells {w : World} {ok : Nat -> Prop} {sz : Nat} {news : List (List D)} {xs : List Value} (hl : xs.length = news.length * sz) (h1 : ∀ row ∈ news, row.length = sz)
  (h2 : ∀ (i : Nat) (row : List D) (j : Nat) (c : D), news[i]? = some row -> row[j]? = some c -> ∃ x, xs[i * sz + j]? = some x /\ Rd w ok c x /\ x.oneCell' = true) : ∀ u ∈ xs, u.oneCell' = true := by
 intro u hu
 obtain ⟨j, hj⟩ := List.getElem?_of_mem hu
 have hlt := (List.getElem?_eq_some_iff.1 hj).1
 rw [hl] at hlt
 have hpos : 0 < sz := by
  rcases Nat.eq_zero_or_pos sz with e | e
  ·subst e; omega
  ·exact e
 have hi : j / sz < news.length := Nat.div_lt_of_lt_mul (by rw [Nat.mul_comm]; exact hlt)
 have hrow := h1 (news[j / sz]) (List.getElem_mem hi)
 obtain ⟨x, e1, _, e3⟩ := h2 (j / sz) (news[j / sz]) (j % sz) ((news[j / sz])[j % sz]'(by rw [hrow]; exact Nat.mod_lt _ hpos)) (by simp) (by simp)
 have hdm := Nat.div_add_mod j sz
 rw [Nat.mul_comm] at hdm
 rw [hdm, hj] at e1
 cases e1; exact e3
theorem append_core {o : Oper} {S : St} {s : E.σ} {x y : Operand} {t : TypeId} {id bytes : Nat} {R : Row} {c : AV} {zc : List AV} {news : List (List D)} (ho : o.op = .call { callee := .builtin .append, args := #[x, y], argTypes := #[t, t] })
  (hR : look S.O id = some R) (hl : R.live = true) (ht : eltT P t = some (R.e, R.sz)) (hz : zeroC P R.e = some zc) (hzs : zc.length = R.sz) (hpos : Nat.blt 0 R.sz = true) (hby : (P.info? R.e).map (fun x : TypeInfo => x.bytes) = some bytes)
  (hy : opnd S.T y = some c) (hs : srcRows S id R.sz c = some news) (hbytes : (R.rows.length + news.length) * bytes <= 140737488355328) (h63 : R.rows.length + news.length <= 140737488355328) (hd : dstOk S o.dst = true) (hp : id < 100)
  {base : Nat} {M : Mp} {a : Act} {w : World} (hcfg : Cfg E base S s M a w) (hxv : M.ν id = some (a.eval x)) :
  ∃ v w' M', (execOp a.eval o).run P w = .ok (.value v) w' /\ Cfg E base (appS S o.dst id ⟨R.e, R.sz, R.rows ++ news, R.nn, true⟩) s M' (a.put o.dst v) w' /\ Ext S M w (appS S o.dst id ⟨R.e, R.sz, R.rows ++ news, R.nn, true⟩) M' w' := by
 have hr := hcfg.rel
 rw [Nat.blt_eq] at hpos
 obtain ⟨it, z, hit, hzz, hzr⟩ := zeroC_rel hz
 have hz0 := hzr w M.ok M.μ M.ν E.l
 rw [hit] at hby
 simp only [Option.map_some, Option.some.injEq] at hby
 unfold eltT at ht
 split at ht
 ·rename_i e' hu
  cases hsz : szT P e' with
  | none => rw [hsz] at ht; cases ht
  | some m =>
   rw [hsz] at ht
   simp only [Option.map_some, Option.some.injEq, Prod.mk.injEq] at ht
   obtain ⟨e1, e2⟩ := ht
   subst e1 e2
   have hsz' : it.size = R.sz := by unfold szT at hsz; rw [hit] at hsz; simpa using hsz
   have hzsz : z.cells.size = R.sz := by rw [hz0.len, hzs]
   have hmax : R.rows.length + news.length <= maxLen := by simp only [maxLen]; omega
   have hpos0 : 0 < R.sz := by first | exact hpos | rwa [Nat.blt_eq] at hpos
   obtain ⟨v, flat, r1, r2, r3, r4, r5⟩ := (hr.heap.row id R hR).sl hpos0
   rw [r1] at hxv
   simp only [Option.some.injEq] at hxv
   obtain ⟨s1, s2, s3⟩ := src_spec hr hpos0 hs (hr.opnd hy)
   have hexec : ∀ {v' w'}, (Builtin.append_ #[t, t] o.type #[a.eval x, a.eval y]).run P w = .ok v' w' -> (execOp a.eval o).run P w = .ok (.value v') w' := fun {v' w'} h => by
    simp only [execOp, ho, resolve, invoke, builtin, Sem.run_bind, Sem.run_pure, Result.andThen, List.map_toArray, List.map_cons, List.map_nil, h]
   rcases s3 with ⟨hv0, hn0⟩ | ⟨ad, cap, hyv, xs, x1, x2, x3⟩
   ·-- nothing is appended
    subst hn0
    have hrun : (Builtin.append_ #[t, t] o.type #[v, .slice none 0 0]).run P w = .ok v w := run_append_owned_none w base t o.type R.e it R.sz hu hit v _ _ r2
    obtain ⟨c1, c2⟩ := hcfg.appRow (w' := w) (rows := R.rows ++ []) (nn := R.nn) (dst := o.dst) hR hl r1 ⟨rfl, rfl, rfl, Nat.le_refl _, fun _ _ _ => rfl⟩ (.inl ⟨hpos0, by simpa using r2⟩) (by simpa using r3.mk' hpos0) r4 (fun k hk => .inl hk) hd (nil_block r2) hp
    exact ⟨v, w, _, hexec (by rw [<- hxv, hv0]; exact hrun), c1, c2⟩
   ·obtain ⟨v', w', hrun, g1, g2, g3, g4⟩ := run_append_at (P := P) (ty := o.type) (a := ad) (c := cap) hu hit hzz hsz' hby hzsz hpos r2 x1 x2 (oneCells x1 s1 x3) hmax hbytes hr.lo
    have hokw : ∀ k, M.ok k -> w'.heap[k]? = w.heap[k]? := fun k hk => g2.block k (hr.okLt k hk) (fun e => (r5 k e.symm).1 hl hk)
    obtain ⟨c1, c2⟩ := hcfg.appRow (w' := w') (rows := R.rows ++ news) (nn := R.nn) (dst := o.dst) hR hl r1 (by rw [ownB_sl r2]; exact g2) (.inl ⟨hpos0, by rw [List.length_append]; exact g1⟩)
     (((rowCells_append r3 r2.1 s1 x3).mk' hpos0).mono (fun _ x => x) hokw) (fun hn he => r4 hn (g3.1 he).1) (by rw [ownB_sl r2, ownB_sl g1]; exact g4) hd (nil_block g1) hp
    exact ⟨v', w', _, hexec (by rw [<- hxv, hyv]; exact hrun), c1, c2⟩
 ·cases ht
theorem bar_append {o : Oper} {S : St} {s : E.σ} {x y : Operand} {t : TypeId} {id bytes : Nat} {R : Row} {c : AV} {zc : List AV} {news : List (List D)} (ho : o.op = .call { callee := .builtin .append, args := #[x, y], argTypes := #[t, t] }) (hx : opnd S.T x = some (.osl id))
  (hR : look S.O id = some R) (hl : R.live = true) (ht : eltT P t = some (R.e, R.sz)) (hz : zeroC P R.e = some zc) (hzs : zc.length = R.sz) (hpos : Nat.blt 0 R.sz = true) (hby : (P.info? R.e).map (fun x : TypeInfo => x.bytes) = some bytes)
  (hy : opnd S.T y = some c) (hs : srcRows S id R.sz c = some news) (hbytes : (R.rows.length + news.length) * bytes <= 140737488355328) (h63 : R.rows.length + news.length <= 140737488355328) (hd : dstOk S o.dst = true) (hp : id < 100) :
  Bar E o S s (appS S o.dst id ⟨R.e, R.sz, R.rows ++ news, R.nn, true⟩) s :=
 bar_val (by simp [ho]) fun base M a w hcfg => append_core ho hR hl ht hz hzs hpos hby hy hs hbytes h63 hd hp hcfg (hcfg.rel.opnd hx).osl'
theorem New.nilRow {M : Mp} {yl : Nat} {w : World} {id sz : Nat} {e : TypeId} (hs0 : 0 < sz) : New M yl w [] [(id, ⟨e, sz, [], false, true⟩)] .any undef (setν M id (.slice none 0 0)) w where
 below := Below.refl _ _
 lv := rfl
 rd := rfl
 ds := rfl
 μ _ _ := rfl
 ν x hx := by
  have : ¬ x = id := fun e => hx (by simp [keys, e])
  simp [setν, this]
 okm _ x := x
 okn _ x := .inl x
 res := .any _
 heap := by
  refine ⟨fun b B h => (by cases h), fun b R hR => ?_, fun x y k hx hy => ?_⟩
  ·simp only [look] at hR
   by_cases e : id = b
   ·rw [if_pos e] at hR; cases hR; subst e
    exact RowOk.mk' hs0 ⟨.slice none 0 0, [], by simp [setν], World.ownsRow_nil _ _ _ _, ⟨fun row h => (by cases h), fun i row j c h => (by simp at h)⟩, fun h => (by cases h), fun k hk => by simp [Value.ownBlock] at hk⟩
   ·rw [if_neg e] at hR; cases hR
  ·cases x with
   | inl b => obtain ⟨⟨_, h⟩, _⟩ := hx; cases h
   | inr b =>
    obtain ⟨⟨R, hR⟩, v, hv, hk⟩ := hx
    simp only [look] at hR
    by_cases e : id = b
    ·subst e; simp [setν] at hv; subst hv; simp [ownB] at hk
    ·rw [if_neg e] at hR; cases hR
theorem bar_append_nil {o : Oper} {S : St} {s : E.σ} {x y : Operand} {t e : TypeId} {sz bytes : Nat} {c : AV} {zc : List AV} {news : List (List D)} (id : Nat) (ho : o.op = .call { callee := .builtin .append, args := #[x, y], argTypes := #[t, t] }) (hx : opnd S.T x = some (.d .nilsl))
  (ht : eltT P t = some (e, sz)) (hz : zeroC P e = some zc) (hzs : zc.length = sz) (hpos : Nat.blt 0 sz = true) (hby : (P.info? e).map (fun x : TypeInfo => x.bytes) = some bytes)
  (hy : opnd S.T y = some c) (hs : srcRows { S with O := (id, ⟨e, sz, [], false, true⟩) :: S.O } id sz c = some news) (hbytes : news.length * bytes <= 140737488355328) (h63 : news.length <= 140737488355328) (hd : dstOk S o.dst = true) (hf : freshB S [] [(id, ⟨e, sz, [], false, true⟩)] = true) :
  Bar E o S s (appS { S with O := (id, ⟨e, sz, [], false, true⟩) :: S.O } o.dst id ⟨e, sz, news, false, true⟩) s :=
 bar_val (by simp [ho]) fun base M a w hcfg => by
  obtain ⟨c1, c2⟩ := hcfg.new (dst := none) (New.nilRow (M := M) (yl := E.l) (w := w) (id := id) (sz := sz) (e := e) (by rwa [Nat.blt_eq] at hpos)) (fresh_of hf) rfl
  have hO : look ({ S with O := (id, ⟨e, sz, [], false, true⟩) :: S.O } : St).O id = some ⟨e, sz, [], false, true⟩ := by simp [look]
  obtain ⟨v, w', M', h1, h2, h3⟩ := append_core (E := E) (P := P) (S := { S with O := (id, ⟨e, sz, [], false, true⟩) :: S.O }) (R := ⟨e, sz, [], false, true⟩) ho hO rfl ht hz hzs hpos hby hy hs (by simpa using hbytes) (by simpa using h63) hd ((fresh_of hf).rp id (by simp [keys])) c1 (by
   have := (hcfg.rel.opnd hx).nilsl
   show (setν M id (.slice none 0 0)).ν id = some (a.eval x)
   rw [this]; simp [setν])
  exact ⟨v, w', M', h1, h2, c2.trans h3⟩
end Go.Proofs.Ytfilnnbfppokmaa.Aw
namespace Go.Proofs.Ytfilnnbfppokmaa.Aw
open Go Go.RowKit
variable {P : Program} {E : Env P} {base : Nat} {r : Option Nat}
theorem Cfg.notOk {S : St} {s : E.σ} {M : Mp} {a : Act} {w : World} (h : Cfg E base S s M a w) {k : Nat} (hk : Own S M k) : ¬ M.ok k := by
 rcases hk with ⟨x, hx, hl⟩ | hd
 ·cases x with
  | inl b =>
   obtain ⟨B, hB, hl⟩ := hl
   obtain ⟨k', vs, e1, _, _, _, _, _, e7, _⟩ := h.rel.heap.blk b B hB
   rw [hx.2] at e1; cases e1
   exact e7 hl
  | inr b =>
   obtain ⟨R, hR, hl⟩ := hl
   obtain ⟨_, v, hv, hk⟩ := hx
   obtain ⟨v', flat, e1, _, _, _, e5⟩ := h.rel.heap.row b R hR
   rw [hv] at e1; cases e1
   exact (e5 k hk).1 hl
 ·exact (h.rel.dsOk k hd).2.2
theorem Cfg.own_lt {S : St} {s : E.σ} {M : Mp} {a : Act} {w : World} (h : Cfg E base S s M a w) {k : Nat} (hk : Own S M k) : k < w.heap.size := by
 rcases hk with ⟨x, hx, _⟩ | hd
 ·exact (h.rel.heap.at_lt hx).2.1
 ·exact (Array.getElem?_eq_some_iff.1 (h.rel.dsOk k hd).2.1).1
theorem Cfg.at_or {S : St} {s : E.σ} {M : Mp} {a : Act} {w : World} (h : Cfg E base S s M a w) {x : Nat ⊕ Nat} {k : Nat} (hx : At S.H S.O M x k) : Own S M k \/ M.ok k := by
 cases x with
 | inl b =>
  obtain ⟨⟨B, hB⟩, hk⟩ := hx
  obtain ⟨k', vs, e1, _, _, _, _, _, _, e8⟩ := h.rel.heap.blk b B hB
  rw [hk] at e1; cases e1
  cases hl : B.live with
  | true => exact .inl (.inl ⟨.inl b, ⟨⟨B, hB⟩, hk⟩, B, hB, hl⟩)
  | false => exact .inr (e8 hl)
 | inr b =>
  obtain ⟨⟨R, hR⟩, v, hv, hk⟩ := hx
  obtain ⟨v', flat, e1, _, _, _, e5⟩ := h.rel.heap.row b R hR
  rw [hv] at e1; cases e1
  cases hl : R.live with
  | true => exact .inl (.inl ⟨.inr b, ⟨⟨R, hR⟩, v, hv, hk⟩, R, hR, hl⟩)
  | false => exact .inr ((e5 k hk).2 hl)
theorem Rel.frame {S : St} {M M' : Mp} {yl : Nat} {a : Act} {w w' : World} (h : Rel base S M yl a w) (hs : w.heap.size <= w'.heap.size) (hat : ∀ x k, At S.H S.O M x k -> w'.heap[k]? = w.heap[k]?) (hok : ∀ k, M.ok k -> w'.heap[k]? = w.heap[k]?)
  (hds : ∀ D ∈ M.ds, w'.heap[D]? = w.heap[D]?) (e1 : M'.μ = M.μ) (e2 : M'.ν = M.ν) (e3 : M'.ok = M.ok) (e4 : M'.ds = M.ds) : Rel base S M' yl a w' := by
 have hat' : ∀ x k, At S.H S.O M' x k ↔ At S.H S.O M x k := fun x k => by cases x <;> simp only [At, e1, e2]
 refine ⟨Nat.le_trans h.lo hs, h.size, fun t c ht => ?_, ⟨fun b B hB => ?_, fun id R hR => ?_, fun x y k hx hy => h.heap.inj x y k ((hat' x k).1 hx) ((hat' y k).1 hy)⟩, fun k hk => Nat.lt_of_lt_of_le (h.okLt k (e3 ▸ hk)) hs, by rw [e4]; exact h.dfr, fun D hD => ?_, by rw [e4]; exact h.dsN⟩
 ·obtain ⟨v, h1, h2⟩ := h.tmp t c ht
  refine ⟨v, h1, ?_⟩
  rw [e1, e2, e3]
  exact h2.mono (fun _ x => x) hok (fun _ _ => rfl) (fun _ _ => rfl)
 ·obtain ⟨k, vs, f1, f2, f3, f4, f5, f6, f7, f8⟩ := h.heap.blk b B hB
  refine ⟨k, vs, by rw [e1]; exact f1, f2, (hat (.inl b) k ⟨⟨B, hB⟩, f1⟩).trans f3, f4, fun i c v hc hv => ?_, f6, by rw [e3]; exact f7, by rw [e3]; exact f8⟩
  rw [e1, e2, e3]
  exact (f5 i c v hc hv).mono (fun _ x => x) hok (fun _ _ => rfl) (fun _ _ => rfl)
 ·obtain ⟨v, flat, f1, f2, f3, f4, f5⟩ := h.heap.row id R hR
  refine ⟨v, flat, by rw [e2]; exact f1, ownsR_same f2 f3 hok (fun k hk => hat (.inr id) k ⟨⟨R, hR⟩, v, f1, hk⟩), by rw [e3]; exact f3.mono (fun _ x => x) hok, f4, by rw [e3]; exact f5⟩
 ·rw [e4] at hD
  obtain ⟨h1, h2, h3⟩ := h.dsOk D hD
  exact ⟨h1, (hds D hD).trans h2, by rw [e3]; exact h3⟩
theorem AWO_yield {ops : Array Oper} {i : Nat} {rest : List Nat} {S : St} {s : E.σ} {Q : Exit -> St -> E.σ -> Prop} {o : Oper} {f : Operand} {args : Array Operand} {ts : Array TypeId} {cs : List AV} {xs : List D} (ho : ops[i]? = some o) (hg : guardB ops S.T o = some true)
  (hop : o.op = .call { callee := .value f, args := args, argTypes := ts }) (hf : opnd S.T f = some .yld) (ha : opndL S.T args.toList = some cs) (hx : snapL false S cs = some xs) (hd : dstOk S o.dst = true) (hs : E.step s xs)
  (h : ∀ s' b, E.out s xs s' b -> AWO E base r ops rest (S.add o.dst (.d (.bool b)) [] []) s' Q) : AWO E base r ops (i :: rest) S s Q := by
 intro M a w hc
 have hr := hc.rel
 simp only [wpOpsIn, ho, guardB_spec hg hr, if_true]
 have hfv : a.eval f = .func (.yield E.l) #[] #[] := by
  have := hr.opnd hf
  generalize a.eval f = v at this
  cases this; rfl
 obtain ⟨al, ar⟩ := opndL_get ha
 obtain ⟨sl, sr⟩ := snapL_spec hr hx
 have hok0 : ∀ k, okS false S M k -> M.ok k := fun k hk => hk.elim id (fun h => by cases h.1)
 have hargs : Rds w M.ok xs (args.map a.eval) := by
  refine ⟨by rw [<- sl, <- al]; simp, fun i x v hxi hv => ?_⟩
  refine (sr i x v hxi (fun c hc => ?_)).mono hok0 (fun _ _ => rfl)
  obtain ⟨y, hy, hyc⟩ := ar i c hc
  rw [Array.getElem?_map, <- Array.getElem?_toList, hy] at hv
  simp only [Option.map_some, Option.some.injEq] at hv
  subst hv
  exact hr.opnd hyc
 obtain ⟨fn, tmps, assign, body, hy, hround⟩ := E.round s xs _ M.lv M.rd M.ok w hc.j hs (fun k hk => ⟨hr.okLt k hk, hc.okLv k hk, hc.okDom k hk⟩) hargs
 have hrun : (execOp a.eval o).run P w = .ok (.round E.l fn tmps assign body) w := by
  simp only [execOp, hop, resolve, Deferred.ofValue, hfv, Sem.run_bind, Sem.run_pure, Result.andThen, invoke]
  have : (#[] : Array Value) ++ args.map a.eval = args.map a.eval := by simp
  simpa [this] using hy
 unfold Oper.wpIn
 rw [Oper.semAt_eq _ _ _ (by simp [hop]), hrun, Oper.uponIn_round]
 refine ⟨fun _ _ => trivial, fun h => (by cases h), ?_⟩
 have hround' : RoundIn (FW r) 0 P E.l fn tmps assign body w _ := hround
 refine hround'.mono ?_
 rintro e w' ⟨s', b, hout, rfl, lv', rd', hJ, h1, h2, h3, h4, h5, h6, h7⟩
 have hM' : Cfg E base S s' { M with lv := lv', rd := rd' } a w' := by
  refine ⟨hr.frame h4 (fun x k hx => ?_) (fun k hk => h5 k (hr.okLt k hk) (hc.okLv k hk)) (fun D hD => h5 D (hc.own_lt (.inr hD)) (hc.own D (.inr hD)).1) rfl rfl rfl rfl, hJ, fun k hk hl => hc.okLv k hk (h6 k (hr.okLt k hk) hl), fun k hk => ?_, hc.okDom, hc.bDom⟩
  ·rcases hc.at_or hx with ho | ho
   ·exact h5 k (hc.own_lt ho) (hc.own k ho).1
   ·exact h5 k (hr.okLt k ho) (hc.okLv k ho)
  ·have hk' : Own S M k := hk
   have hlt := hc.own_lt hk'
   refine ⟨fun hl => (hc.own k hk').1 (h6 k hlt hl), fun hl => ?_⟩
   rcases h7 k hlt hl with h | h | h
   ·exact (hc.own k hk').2 h
   ·exact (hc.own k hk').1 h
   ·exact hc.notOk hk' h
 have hx1 : Ext S M w S { M with lv := lv', rd := rd' } w' := ⟨h1, h2, h3, h4, fun k hk _ hl => h5 k hk hl, fun _ _ x => x, fun _ x => x, fun _ _ x => .inl x, h6, Nat.le_refl _, fun _ _ => rfl, fun k hk x => (h7 k hk x).elim .inl (fun x => x.elim (fun x => .inr (.inl x)) (fun x => .inr (.inr (.inl x)))), fun _ _ => rfl⟩
 obtain ⟨c2, x2⟩ := hM'.new (dst := o.dst) (New.plain (.d (.bool b))) (fresh_nil S) hd
 exact wpOpsIn_mono' (fun e a w k => k.later (hx1.trans x2)) rest _ _ (h s' b hout _ _ w' c2)
end Go.Proofs.Ytfilnnbfppokmaa.Aw
