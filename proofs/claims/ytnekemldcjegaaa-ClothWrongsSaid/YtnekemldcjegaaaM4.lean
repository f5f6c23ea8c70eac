/- Part 4 of the proof: lemmas. -/
import Derived.Test.YtnekemldcjegaaaM3
import Derived.Deep.Slices
import Derived.ProofKit

/- The logic of abstract walks, part N: from a contract to a row. What comes in, read as data. -/
namespace Go.Proofs.Ytnekemldcjegaaa.Aw
open Go Go.RowKit Go.ChangeShapes Go.WideShapes
set_option linter.unusedVariables false
set_option linter.unusedSimpArgs false

/-- The shape of a type's data. -/
inductive Sh where
  | int (k : IntKind)
  | bool
  | str
  | agg (l : List Sh)
  | sl (e : Sh)
mutual
def Sh.n : Sh → Nat
  | .int _ => 1
  | .bool => 1
  | .str => 1
  | .agg l => Sh.nL l
  | .sl _ => 1
def Sh.nL : List Sh → Nat
  | [] => 0
  | s :: r => s.n + Sh.nL r
end
mutual
def Sh.Fit : Sh → List D → Prop
  | .int k, xs => ∃ n, xs = [.int k n] ∧ k.min ≤ n ∧ n ≤ k.max
  | .bool, xs => ∃ b, xs = [.bool b]
  | .str, xs => ∃ s, xs = [.str s] ∧ s.size ≤ maxLen
  | .agg l, xs => Sh.FitL l xs
  | .sl e, xs => ∃ rows : List (List D), xs = [.sl false e.n rows] ∧ rows.length ≤ maxLen ∧ ∀ row ∈ rows, e.Fit row
def Sh.FitL : List Sh → List D → Prop
  | [], xs => xs = []
  | s :: r, xs => ∃ a b, xs = a ++ b ∧ s.Fit a ∧ Sh.FitL r b
end
def shF (P : Program) (g : TypeId → Option Sh) : List (TypeId × Nat) → Nat → Option (List Sh)
  | [], _ => some []
  | (t, o) :: r, off => if o = off then match g t with
    | some s => if s.n = P.cellsOf t then match shF P g r (off + s.n) with
      | some l => some (s :: l)
      | none => none
      else none
    | none => none
    else none
/-- The shape of a type. -/
def shT (P : Program) : Nat → TypeId → Option Sh
  | 0, _ => none
  | f + 1, t => match P.underlying t with
    | some .bool => some .bool
    | some (.int k) => some (.int k)
    | some .string => some .str
    | some (.slice e) => match shT P f e with
      | some s => if s.n = P.cellsOf e ∧ 0 < s.n then some (.sl s) else none
      | none => none
    | some (.struct fs) => (shF P (shT P f) (fs.toList.map fun x => (x.type, x.offset)) 0).map .agg
    | some (.array n e) => (shF P (shT P f) ((List.range n).map fun i => (e, i * P.cellsOf e)) 0).map .agg
    | _ => none

/-- A list of cells read as data. -/
def RdC (w : World) (xs : List D) (cs : List Value) : Prop :=
  xs.length = cs.length ∧ ∀ (i : Nat) (c : D) (v : Value), xs[i]? = some c → cs[i]? = some v → Rd w (fun k => k < w.heap.size) c v ∧ v.oneCell' = true
theorem RdC.append {w : World} {xs ys : List D} {cs ds : List Value} (h : RdC w xs cs) (k : RdC w ys ds) : RdC w (xs ++ ys) (cs ++ ds) := by
  refine ⟨by simp [h.1, k.1], fun i c v hc hv => ?_⟩
  by_cases hi : i < xs.length
  · rw [List.getElem?_append_left hi] at hc
    rw [List.getElem?_append_left (by rw [← h.1]; exact hi)] at hv
    exact h.2 i c v hc hv
  · rw [List.getElem?_append_right (by omega)] at hc
    rw [List.getElem?_append_right (by rw [← h.1]; omega), ← h.1] at hv
    exact k.2 _ c v hc hv
theorem RdC.one {w : World} {x : D} {v : Value} (h : Rd w (fun k => k < w.heap.size) x v) (h1 : v.oneCell' = true) : RdC w [x] [v] := by
  refine ⟨rfl, fun i c u hc hu => ?_⟩
  match i, hc, hu with
  | 0, hc, hu => cases hc; cases hu; exact ⟨h, h1⟩
  | i + 1, hc, hu => simp at hc

section
variable {H : Type} {enc : TypeId × Value → H} {P : Program} {w : World} {held : Bool}
/-- A row of parts. -/
theorem open_parts {g : TypeId → Option Sh} {rd : TypeId → List Value → Option (DataW H × List MemPlace)} {cs : List Value}
    (ih : ∀ t s, g t = some s → ∀ cs x, rd t cs = some x → cs.length = s.n → ∃ xs, s.Fit xs ∧ RdC w xs cs) :
    ∀ {l : List (TypeId × Nat)} {off : Nat} {shs : List Sh} {ys : List (DataW H × List MemPlace)}, shF P g l off = some shs →
      (l.mapM fun f => rd f.1 ((cs.drop f.2).take (P.cellsOf f.1))) = some ys → off + Sh.nL shs = cs.length → ∃ xs, Sh.FitL shs xs ∧ RdC w xs (cs.drop off)
  | [], off, shs, ys, h1, _, h3 => by
    simp only [shF, Option.some.injEq] at h1
    subst h1
    refine ⟨[], rfl, ?_, fun i c v hc => by simp at hc⟩
    simp only [Sh.nL] at h3
    simp only [List.length_drop, List.length_nil]; omega
  | (t, o) :: r, off, shs, ys, h1, h2, h3 => by
    simp only [shF] at h1
    split at h1
    · rename_i ho
      subst ho
      cases hg : g t with
      | none => rw [hg] at h1; cases h1
      | some s =>
        rw [hg] at h1
        simp only at h1
        split at h1
        · rename_i hn
          cases hr : shF P g r (o + s.n) with
          | none => rw [hr] at h1; cases h1
          | some l =>
            rw [hr] at h1
            simp only [Option.some.injEq] at h1
            subst h1
            rw [List.mapM_cons] at h2
            cases hy : rd t ((cs.drop o).take (P.cellsOf t)) with
            | none => simp [hy] at h2
            | some y =>
              cases hz : (r.mapM fun f => rd f.1 ((cs.drop f.2).take (P.cellsOf f.1))) with
              | none => simp [hy, hz] at h2
              | some zs =>
                simp only [Sh.nL] at h3
                obtain ⟨a, a1, a2⟩ := ih t s hg _ y hy (by rw [List.length_take, List.length_drop, hn]; omega)
                obtain ⟨b, b1, b2⟩ := open_parts ih hr hz (by omega)
                refine ⟨a ++ b, ⟨a, b, rfl, a1, b1⟩, ?_⟩
                have := a2.append b2
                rw [← hn] at this
                have e : List.take s.n (List.drop o cs) ++ List.drop (o + s.n) cs = List.drop o cs := by
                  rw [← List.drop_drop]; exact List.take_append_drop _ _
                rwa [e] at this
        · cases h1
    · cases h1
theorem cells?_spec {a : Addr} {n : Nat} {cs : List Value} (h : w.cells? 0 a n = some cs) : cs.length = n ∧ ∀ j v, cs[j]? = some v → w.cell? (a.add j) = some v := by
  unfold World.cells? at h
  rw [if_pos (Nat.zero_le _)] at h
  obtain ⟨h1, h2⟩ := mapM_get h
  rw [List.length_range] at h1
  refine ⟨h1.symm, fun j v hj => ?_⟩
  obtain ⟨x, e1, e2⟩ := h2 j v hj
  have hlt := (List.getElem?_eq_some_iff.1 hj).1
  rw [List.getElem?_range (by omega)] at e1
  cases e1
  exact e2
theorem cell_plain {a : Addr} {v : Value} (h : w.cell? a = some v) : a.spot = none ∧ a.block < w.heap.size := by
  unfold World.cell? at h
  split at h
  · rename_i c x y hb
    split at h
    · cases h
    · rename_i hs
      refine ⟨?_, (Array.getElem?_eq_some_iff.1 hb).1⟩
      cases hq : a.spot with
      | none => rfl
      | some z => rw [hq] at hs; simp at hs
  · cases h
/-- What comes in, as data. -/
theorem open_sh : ∀ (f : Nat) (t : TypeId) (sh : Sh), shT P f t = some sh → ∀ (fuel : Nat) (cs : List Value) (x : DataW H × List MemPlace), DataW.trod enc P w 0 (fun _ => true) held fuel t cs = some x → cs.length = sh.n →
    ∃ xs, sh.Fit xs ∧ RdC w xs cs
  | 0, t, sh, h => by simp [shT] at h
  | f + 1, t, sh, h => by
    intro fuel cs x hx hlen
    have hx0 := hx
    cases fuel with
    | zero => simp [DataW.trod] at hx
    | succ fuel =>
      unfold shT at h
      unfold DataW.trod at hx
      split at h <;> rename_i hu
      · cases h
        rw [hu] at hx
        split at hx <;> simp_all
        rename_i b
        exact ⟨[.bool b], ⟨b, rfl⟩, RdC.one (.bool b) rfl⟩
      · cases h
        rw [hu] at hx
        split at hx <;> simp_all
        rename_i k' n e
        subst e
        obtain ⟨⟨rfl, hw⟩, _⟩ := hx
        simp only [Lit.wf, Bool.and_eq_true, decide_eq_true_eq] at hw
        exact ⟨[.int k' n], ⟨n, rfl, hw⟩, RdC.one (.int k' n) rfl⟩
      · cases h
        rw [hu] at hx
        split at hx <;> simp_all
        rename_i s
        exact ⟨[.str s], ⟨s, rfl, hx.1⟩, RdC.one (.str s) rfl⟩
      · rename_i e
        cases he : shT P f e with
        | none => rw [he] at h; cases h
        | some s =>
          rw [he] at h
          simp only at h
          split at h
          · rename_i hc
            cases h
            obtain ⟨hc1, hc2⟩ := hc
            rcases Go.Deep.open_slice hu hx0 with ⟨rfl, _⟩ | ⟨a, len, cap, m, n, Dd, Pl, rfl, _, hl, hm, hmm, _, hel⟩
            · exact ⟨[.sl false s.n []], ⟨[], rfl, Nat.zero_le _, fun row hr => by cases hr⟩, RdC.one (.sl0 _ _) rfl⟩
            · simp only [if_true] at hmm
              subst hmm
              by_cases h0 : m = 0
              · subst h0
                have : len = 0 := by omega
                subst this
                exact ⟨[.sl false s.n []], ⟨[], rfl, Nat.zero_le _, fun row hr => by cases hr⟩, RdC.one (.slE _ _ a) rfl⟩
              · have hread : ∀ i, i < m → ∃ z : List D × List Value, w.cells? 0 (a.add (i * P.cellsOf e)) (P.cellsOf e) = some z.2 ∧ s.Fit z.1 ∧ RdC w z.1 z.2 := fun i hi => by
                  obtain ⟨cs', c1, c2⟩ := hel i hi
                  obtain ⟨xs, f1, f2⟩ := open_sh f e s he n cs' _ c2 (by rw [(cells?_spec c1).1, hc1])
                  exact ⟨(xs, cs'), c1, f1, f2⟩
                obtain ⟨Z, hZ⟩ := Go.Deep.choose_lt (α := List D × List Value) hread
                obtain ⟨z1, z2, z3⟩ := hZ 0 (by omega)
                obtain ⟨y1, y2⟩ := cells?_spec z1
                have hcell0 : w.cell? (a.add (0 * P.cellsOf e)) = some ((Z 0).2[0]'(by rw [y1]; omega)) := by
                  have := y2 0 ((Z 0).2[0]'(by rw [y1]; omega)) (by simp)
                  simpa [Addr.add] using this
                rw [Nat.zero_mul] at hcell0
                have e0 : a.add 0 = a := rfl
                rw [e0] at hcell0
                obtain ⟨hsp, hblk⟩ := cell_plain hcell0
                obtain ⟨b, off, spot⟩ := a
                simp only at hsp hblk
                subst hsp
                have hadd : ∀ j, (⟨b, off, none⟩ : Addr).add j = ⟨b, off + j, none⟩ := fun j => by unfold Addr.add; split <;> simp_all
                have hadd2 : ∀ o j, (⟨b, o, none⟩ : Addr).add j = ⟨b, o + j, none⟩ := fun o j => by unfold Addr.add; split <;> simp_all
                have hrows : ∀ (i : Nat) (row : List D), ((List.range len).map fun i => (Z i).1)[i]? = some row → i < len ∧ row = (Z i).1 := fun i row hi => by
                  have hlt := (List.getElem?_eq_some_iff.1 hi).1
                  simp only [List.length_map, List.length_range] at hlt
                  rw [List.getElem?_map, List.getElem?_range hlt] at hi
                  exact ⟨hlt, by simpa using hi.symm⟩
                have key : ∀ (i : Nat) (row : List D) (j : Nat) (c : D), ((List.range len).map fun i => (Z i).1)[i]? = some row → row[j]? = some c →
                    w.cell? ⟨b, off + i * s.n + j, none⟩ = some ((Z i).2.getD j undef) ∧ ((Z i).2.getD j undef).oneCell' = true ∧ Rd w (fun k => k < w.heap.size) c ((Z i).2.getD j undef) := fun i row j c hi hj => by
                  obtain ⟨hlt, rfl⟩ := hrows i row hi
                  obtain ⟨q1, q2, q3⟩ := hZ i (by omega)
                  obtain ⟨r1, r2⟩ := cells?_spec q1
                  have hj' := (List.getElem?_eq_some_iff.1 hj).1
                  have hlen2 := q3.1
                  have hv : (Z i).2[j]? = some ((Z i).2.getD j undef) := by
                    rw [List.getD_eq_getElem?_getD, List.getElem?_eq_getElem (by omega)]; rfl
                  have t1 := r2 j _ hv
                  obtain ⟨t2, t3⟩ := q3.2 j c _ hj hv
                  refine ⟨?_, t3, t2⟩
                  rw [hadd, hadd2, ← hc1] at t1
                  exact t1
                refine ⟨[.sl false s.n ((List.range len).map fun i => (Z i).1)], ⟨_, rfl, by simp only [List.length_map, List.length_range]; omega, fun row hr => ?_⟩, RdC.one ?_ rfl⟩
                · obtain ⟨i, hi, rfl⟩ := List.mem_map.1 hr
                  exact (hZ i (by have := List.mem_range.1 hi; omega)).2.1
                · have := Rd.sl (w := w) (ok := fun k => k < w.heap.size) false s.n ((List.range len).map fun i => (Z i).1) b off m (fun i j => (Z i).2.getD j undef) hblk (by simpa using hl) hm (fun h => by cases h)
                    (fun row hr => by
                      obtain ⟨i, hi, rfl⟩ := List.mem_map.1 hr
                      obtain ⟨q1, q2, q3⟩ := hZ i (by have := List.mem_range.1 hi; omega)
                      rw [q3.1, (cells?_spec q1).1, hc1])
                    (fun i row j c hi hj => (key i row j c hi hj).1) (fun i row j c hi hj => (key i row j c hi hj).2.1) (fun i row j c hi hj => (key i row j c hi hj).2.2)
                  simpa using this
          · cases h
      · rename_i fs
        rw [hu] at hx
        cases hl : shF P (shT P f) (fs.toList.map fun x => (x.type, x.offset)) 0 with
        | none => rw [hl] at h; cases h
        | some l =>
          rw [hl] at h; cases h
          simp only at hx
          split at hx
          · rename_i ys hq
            cases hys : (fs.toList.mapM fun f => DataW.trod enc P w 0 (fun _ => true) held fuel f.type ((cs.drop f.offset).take (P.cellsOf f.type))) with
            | none => rw [hys] at hx; cases hx
            | some ys =>
              have := open_parts (P := P) (w := w) (g := shT P f) (rd := fun t cs => DataW.trod enc P w 0 (fun _ => true) held fuel t cs) (cs := cs) (fun t s hs cs x hx hn => open_sh f t s hs fuel cs x hx hn) (l := fs.toList.map fun x => (x.type, x.offset)) (ys := ys) hl
                (by rw [List.mapM_map]; exact hys) (by simpa [Sh.n] using hlen.symm)
              rw [List.drop_zero] at this
              obtain ⟨xs, a1, a2⟩ := this
              exact ⟨xs, by unfold Sh.Fit; exact a1, a2⟩
          · cases hx
      · rename_i n e
        rw [hu] at hx
        cases hl : shF P (shT P f) ((List.range n).map fun i => (e, i * P.cellsOf e)) 0 with
        | none => rw [hl] at h; cases h
        | some l =>
          rw [hl] at h; cases h
          simp only at hx
          split at hx
          · cases hys : ((List.range n).mapM fun i => DataW.trod enc P w 0 (fun _ => true) held fuel e ((cs.drop (i * P.cellsOf e)).take (P.cellsOf e))) with
            | none => rw [hys] at hx; cases hx
            | some ys =>
              have := open_parts (P := P) (w := w) (g := shT P f) (rd := fun t cs => DataW.trod enc P w 0 (fun _ => true) held fuel t cs) (cs := cs) (fun t s hs cs x hx hn => open_sh f t s hs fuel cs x hx hn) (l := (List.range n).map fun i => (e, i * P.cellsOf e)) (ys := ys) hl
                (by rw [List.mapM_map]; exact hys) (by simpa [Sh.n] using hlen.symm)
              rw [List.drop_zero] at this
              obtain ⟨xs, a1, a2⟩ := this
              exact ⟨xs, by unfold Sh.Fit; exact a1, a2⟩
          · cases hx
      · cases h

def Sh.isAgg : Sh → Bool
  | .agg _ => true
  | _ => false
/-- An argument as data. -/
def Sh.arg : Sh → List D → D
  | .agg _, xs => .agg xs
  | _, xs => xs.headD .nilptr
theorem Rd.aggOf {xs : List D} {vs : Array Value} (h : RdC w xs vs.toList) : Rd w (fun k => k < w.heap.size) (.agg xs) (.agg vs) := by
  have hl : vs.size = xs.length := by rw [h.1]; simp
  refine .agg xs vs hl (fun i v hv => ?_) (fun i c v hc hv => (h.2 i c v hc (by simpa using hv)).1)
  have hlt := (Array.getElem?_eq_some_iff.1 hv).1
  have hx : xs[i]? = some (xs[i]'(by omega)) := List.getElem?_eq_getElem (by omega)
  exact (h.2 i _ v hx (by simpa using hv)).2
theorem open_arg {f : Nat} {t : TypeId} {sh : Sh} {v : Value} {d : DataW H} {p : List MemPlace} {r : Reach} {b : Nat} (hs : shT P f t = some sh) (hn : sh.n = P.cellsOf t) (hval : Value.okWide P w r b t v)
    (hd : DataW.Trod enc P w 0 (fun _ => true) held t v d p) : ∃ xs, sh.Fit xs ∧ Rd w (fun k => k < w.heap.size) (sh.arg xs) v := by
  obtain ⟨fuel, hd⟩ := hd
  have one : ∀ {s : Sh}, s.isAgg = false → s.n = 1 := fun {s} h => by cases s <;> first | rfl | cases h
  have fin : sh.isAgg = false → v.cells.toList = [v] → ∃ xs, sh.Fit xs ∧ Rd w (fun k => k < w.heap.size) (sh.arg xs) v := fun ha hv => by
    rw [hv] at hd
    obtain ⟨xs, a1, a2⟩ := open_sh f t sh hs fuel [v] _ hd (by rw [one ha]; rfl)
    refine ⟨xs, a1, ?_⟩
    obtain ⟨l1, l2⟩ := a2
    match xs, l1 with
    | [x], _ =>
      have := (l2 0 x v rfl rfl).1
      cases sh <;> first | exact this | cases ha
  have fin2 : ∀ l, sh = .agg l → (∃ cs, v = .agg cs ∧ cs.size = P.cellsOf t) → ∃ xs, sh.Fit xs ∧ Rd w (fun k => k < w.heap.size) (sh.arg xs) v := fun l hl ⟨cs, hv, hc⟩ => by
    subst hl; subst hv
    obtain ⟨xs, a1, a2⟩ := open_sh f t _ hs fuel cs.toList _ hd (by simp only [Array.length_toList]; rw [hc, hn])
    exact ⟨xs, a1, Rd.aggOf a2⟩
  have hs0 := hs
  cases f with
  | zero => simp [shT] at hs
  | succ f =>
    unfold shT at hs
    split at hs <;> rename_i hu
    · cases hs; obtain ⟨b, rfl⟩ := okWide_bool hu hval; exact fin rfl rfl
    · cases hs; obtain ⟨n, rfl⟩ := okWide_int hu hval; exact fin rfl rfl
    · cases hs; obtain ⟨n, rfl⟩ := okWide_string hu hval; exact fin rfl rfl
    · rename_i e
      cases he : shT P f e with
      | none => rw [he] at hs; cases hs
      | some s =>
        rw [he] at hs
        simp only at hs
        split at hs
        · cases hs; obtain ⟨a, len, cap, rfl⟩ := okWide_slice hu hval; exact fin rfl rfl
        · cases hs
    · rename_i fs
      cases hl : shF P (shT P f) (fs.toList.map fun x => (x.type, x.offset)) 0 with
      | none => rw [hl] at hs; cases hs
      | some l => rw [hl] at hs; cases hs; exact fin2 l rfl (okWide_struct hu hval)
    · rename_i n e
      cases hl : shF P (shT P f) ((List.range n).map fun i => (e, i * P.cellsOf e)) 0 with
      | none => rw [hl] at hs; cases hs
      | some l =>
        rw [hl] at hs; cases hs
        refine fin2 l rfl ?_
        simp only [Value.okWide, hu] at hval
        obtain ⟨cs, h1, h2, _⟩ := hval
        exact ⟨cs, h1, h2⟩
    · cases hs
/-- All arguments. -/
def FitA : List Sh → List D → Prop
  | [], xs => xs = []
  | s :: r, xs => ∃ a q, xs = s.arg a :: q ∧ s.Fit a ∧ FitA r q
def shA (P : Program) (f : Nat) : List TypeId → Option (List Sh)
  | [] => some []
  | t :: r => match shT P f t with
    | some s => if s.n = P.cellsOf t then match shA P f r with
      | some l => some (s :: l)
      | none => none
      else none
    | none => none
theorem open_args {f : Nat} {r : Reach} {b : Nat} : ∀ {ts : List TypeId} {shs : List Sh} {vs : List Value} {ds : List (DataW H)} {p : List MemPlace}, shA P f ts = some shs → DataW.TrodAll enc P w 0 (fun _ => true) held ts vs ds p →
    (∀ (j : Nat) t v, ts[j]? = some t → vs[j]? = some v → Value.okWide P w r b t v) → ∃ xs : List D, FitA shs xs ∧ vs.length = xs.length ∧ ∀ (i : Nat) (x : D) (v : Value), xs[i]? = some x → vs[i]? = some v → Rd w (fun k => k < w.heap.size) x v
  | [], shs, vs, ds, p, h1, h2, _ => by
    simp only [shA, Option.some.injEq] at h1
    subst h1
    obtain ⟨rfl, _, _⟩ := trodAll_nil h2
    exact ⟨[], rfl, rfl, fun i x v h => by simp at h⟩
  | t :: ts, shs, vs, ds, p, h1, h2, h3 => by
    simp only [shA] at h1
    cases hs : shT P f t with
    | none => rw [hs] at h1; cases h1
    | some s =>
      rw [hs] at h1
      simp only at h1
      split at h1
      · rename_i hn
        cases hl : shA P f ts with
        | none => rw [hl] at h1; cases h1
        | some l =>
          rw [hl] at h1
          simp only [Option.some.injEq] at h1
          subst h1
          obtain ⟨v, vs', d, ds', p', q', rfl, rfl, rfl, hd, hr⟩ := trodAll_cons h2
          obtain ⟨xs, a1, a2⟩ := open_arg hs hn (h3 0 t v rfl rfl) hd
          obtain ⟨ys, b1, b2, b3⟩ := open_args hl hr (fun j t v e1 e2 => h3 (j + 1) t v (by simpa using e1) (by simpa using e2))
          refine ⟨s.arg xs :: ys, ⟨xs, ys, rfl, a1, b1⟩, by simp [b2], fun i x u hx hu => ?_⟩
          match i, hx, hu with
          | 0, hx, hu => cases hx; cases hu; exact a2
          | i + 1, hx, hu => exact b3 i x u (by simpa using hx) (by simpa using hu)
      · cases h1
theorem trodAll_below (hl : laidOutB P = true) {W' : World} (hb : Below w.heap.size w W') : ∀ {ts : List TypeId} {vs : List Value} {ds : List (DataW H)} {p : List MemPlace}, (ts.all fun t => P.readableRec t && decide (t < P.types.size)) = true →
    DataW.TrodAll enc P w 0 (fun _ => true) true ts vs ds p → (∀ x ∈ p, x.block < w.heap.size) → DataW.TrodAll enc P W' 0 (fun b => decide (b < w.heap.size)) true ts vs ds p
  | [], vs, ds, p, _, h, _ => by
    obtain ⟨rfl, rfl, rfl⟩ := trodAll_nil h
    exact rfl
  | t :: ts, vs, ds, p, ht, h, hlt => by
    simp only [List.all_cons, Bool.and_eq_true, decide_eq_true_eq] at ht
    obtain ⟨v, vs', d, ds', p', q', rfl, rfl, rfl, hd, hr⟩ := trodAll_cons h
    refine ⟨p', q', Below.trod hl ht.1.1 ht.1.2 hd hb (fun x hx => hlt x (List.mem_append_left _ hx)), ?_, rfl⟩
    exact trodAll_below hl hb (by simpa using ht.2) hr (fun x hx => hlt x (List.mem_append_right _ hx))
theorem trodAll_below' (hl : laidOutB P = true) {W' : World} (hb : Below w.heap.size w W') : ∀ {ts : List TypeId} {vs : List Value} {ds : List (DataW H)} {p : List MemPlace}, (ts.all fun t => P.readableRec t && decide (t < P.types.size)) = true →
    DataW.TrodAll enc P w 0 (fun _ => true) true ts vs ds p → (∀ x ∈ p, x.block < w.heap.size) → DataW.TrodAll enc P W' 0 (fun _ => true) true ts vs ds p
  | [], vs, ds, p, _, h, _ => by
    obtain ⟨rfl, rfl, rfl⟩ := trodAll_nil h
    exact rfl
  | t :: ts, vs, ds, p, ht, h, hlt => by
    simp only [List.all_cons, Bool.and_eq_true, decide_eq_true_eq] at ht
    obtain ⟨v, vs', d, ds', p', q', rfl, rfl, rfl, hd, hr⟩ := trodAll_cons h
    refine ⟨p', q', WideElems.Trod_stays hl ht.1.1 ht.1.2 hd (fun x hx => hb.same (hlt x (List.mem_append_left _ hx))) (fun x hx => rfl), ?_, rfl⟩
    exact trodAll_below' hl hb (by simpa using ht.2) hr (fun x hx => hlt x (List.mem_append_right _ hx))
theorem trodAll_len {base : Nat} {sp : Nat → Bool} : ∀ {ts : List TypeId} {vs : List Value} {ds : List (DataW H)} {p : List MemPlace}, DataW.TrodAll enc P w base sp held ts vs ds p → ds.length = ts.length
  | [], vs, ds, p, h => by
    obtain ⟨rfl, rfl, rfl⟩ := trodAll_nil h
    rfl
  | t :: ts, vs, ds, p, h => by
    obtain ⟨v, vs', d, ds', p', q', rfl, rfl, rfl, hd, hr⟩ := trodAll_cons h
    simp only [List.length_cons, trodAll_len hr]
/-- The row of a law that only reads, and returns true. -/
theorem lifted {C : Checked} {os : Os} {f : FuncId} {fn : Func} {s : ChangeSpec} {apart fresh handsOn again : Bool} {tb : TypeId} {shs : List Sh} {fl : Nat}
    (own : ownKnob C.prog.godebug = none) (started : os.Started) (noInit : C.prog.inits.idxOf? f = none) (hfn : C.prog.funcs[f]? = some fn)
    (witness : ∃ (w : World) (tape : Tape) (i : Input), w.os = os ∧ (w.forCall tape i).Shaped C.prog ∧ i.vars = [] ∧ Input.okWide C.prog (w.forCall tape i) .any w.heap.size f i ∧
      s.pre6 enc C.prog fn [] apart (w.forCall tape i).memory i.args ∧ ({} : Assume).holds C.prog (lone (Frame.enter C.prog f i.args .normal) [] (w.forCall tape i)))
    (hl : laidOutB C.prog = true) (hv : s.vars = []) (hres : fn.resultTypes = #[tb]) (htb : C.prog.underlying tb = some .bool)
    (hsp : ∀ ds : List (DataW H), ds.length = fn.params.toList.length → s.fn H ds = { results := [.lit (.bool true)], args := ds })
    (hsh : shA C.prog fl fn.params.toList = some shs) (hrd : (fn.params.toList.all fun t => C.prog.readableRec t && decide (t < C.prog.types.size)) = true)
    (con : ∀ xs, FitA shs xs → Con C.prog f xs (.d (.bool true)) []) :
    ReturnsInHanded {} C os f .any (s.pre6 enc C.prog fn [] apart) (s.post enc C.prog fn apart fresh handsOn again) := by
  refine returnsInHanded_of_change own started noInit hfn witness ?_
  intro W base args ds gs before hval hW hcnd _
  have hW' := hW
  have hlt : ∀ p ∈ before, p.block < W.heap.size := fun p hp => by simpa using hW.lt p hp
  obtain ⟨p, q, hA, hV, hpq, hfz, hnd⟩ := hW
  rw [hv] at hV
  obtain ⟨rfl, rfl⟩ := trodVars_none hV
  have hpq : before = p := by simpa using hpq
  subst hpq
  obtain ⟨xs, x1, x2, x3⟩ := open_args hsh hA (fun j t v e1 e2 => hval j t v (by simpa using e1) (by simpa using e2))
  have hlen : ds.length = fn.params.toList.length := trodAll_len hA
  have hcon := con xs x1
  refine (hcon.2 W (fun k => k < W.heap.size) args (fun k h => h) ⟨by simpa using x2, fun i x v e1 e2 => x3 i x v e1 (by simpa using e2)⟩).mono ?_
  rintro e W' ⟨v, ok', ν', rfl, hb, _, _, hv', _⟩
  have hvv : v = .bool true := (hv' (fun _ => none) 0).bool
  subst hvv
  refine ⟨_, rfl, ?_⟩
  have hfz' : ∀ b off, MemPlace.cell b off ∈ before → W'.frozen? ⟨b, off, none⟩ = false := fun b off hp => by
    rw [hb.frozen (p := ⟨b, off, none⟩) (hlt _ hp)]; exact hfz b off hp
  have hok := ok_one (P := C.prog) (W' := W') hres rfl (okWide_bool_mk htb true)
  have e1 : (s.fn H (ds ++ [])).results = [.lit (.bool true)] := by rw [List.append_nil, hsp ds hlen]
  have e2 : (s.fn H (ds ++ [])).args = ds := by rw [List.append_nil, hsp ds hlen]
  have e3 : (s.fn H (ds ++ [])).vars = [] := by rw [List.append_nil, hsp ds hlen]
  have r1 : ∀ (b : Nat) (sp : Nat → Bool) (hd : Bool), DataW.TrodAll enc C.prog W' b sp hd fn.resultTypes.toList ((Value.bool true).resultList fn.resultTypes.size) [.lit (.bool true)] [] := fun b sp hd => by
    rw [hres]
    exact trodAll_mk1 (shut_bool htb true)
  have hv2 : ∀ sp : Nat → Bool, DataW.TrodVars enc C.prog W' sp s.vars (s.fn H (ds ++ [])).vars [] := fun sp => by rw [hv, e3]; exact rfl
  have a2 := trodAll_below' hl hb hrd hA hlt
  refine ⟨ds, [], before, [], before, [], hW', ?_, ?_, hv2 _, hb.frame _, fun _ => ⟨hok, [.lit (.bool true)] ++ ds, (s.fn H (ds ++ [])).vars, before, ⟨[] ++ before, [], ?_, hv2 _, by simp, hfz', hnd⟩, fun p hp _ => hp⟩⟩
  · rw [e1]; exact r1 _ _ _
  · rw [e2]; exact trodAll_below hl hb hrd hA hlt
  · exact trodAll_append a2 (r1 _ _ _)
end
end Go.Proofs.Ytnekemldcjegaaa.Aw
