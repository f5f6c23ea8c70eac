/- Part 3 of the proof: lemmas. -/
import Derived.Test.YtnekemldcjegaaaM2

/- The logic of abstract walks, part M3: small facts on evaluation. -/
namespace Go.Proofs.Ytnekemldcjegaaa.Aw
open Go Go.RowKit
set_option linter.unusedVariables false
set_option linter.unusedSimpArgs false
universe u
theorem constK_spec {v : Value} {c : KV} (h : constK v = some c) : constAV v = some c.av := by
  cases v with
  | int k n => simp [constK] at h; subst h; rfl
  | bool b => cases b <;> (simp [constK] at h; subst h; rfl)
  | string s => simp [constK] at h; subst h; rfl
  | nilFunc => simp [constK] at h; subst h; rfl
  | map m => cases m with
    | none => simp [constK] at h; subst h; rfl
    | some m => simp [constK] at h
  | pointer m => cases m with
    | none => simp [constK] at h; subst h; rfl
    | some m => simp [constK] at h
  | slice ad n k =>
    cases ad with
    | some ad => simp [constK] at h
    | none =>
      cases n with
      | succ n => simp [constK] at h
      | zero =>
        cases k with
        | succ k => simp [constK] at h
        | zero => simp [constK] at h; subst h; rfl
  | _ => simp [constK] at h
theorem kop_spec {T : List (Nat × KV)} {x : Operand} {c : KV} (h : kop T x = some c) : opnd (mapT T) x = some c.av := by
  cases x with
  | tmp t => simp only [kop] at h; simp only [opnd, look_mapT, h, Option.map_some]
  | const v => exact constK_spec h
  | func f => simp only [kop, Option.some.injEq] at h; subst h; rfl
  | global g => simp [kop] at h
theorem kopL_spec {T : List (Nat × KV)} : ∀ {l : List Operand} {cs : List KV}, kopL T l = some cs → opndL (mapT T) l = some (KV.avL cs)
  | [], cs, h => by simp [kopL] at h; subst h; rfl
  | x :: r, cs, h => by
    simp only [kopL] at h
    cases h1 : kop T x with
    | none => rw [h1] at h; cases h
    | some c =>
      cases h2 : kopL T r with
      | none => rw [h1, h2] at h; cases h
      | some l =>
        rw [h1, h2] at h
        simp only [Option.some.injEq] at h; subst h
        simp only [opndL, kop_spec h1, kopL_spec h2, KV.avL]
theorem partsK_spec {T : List (Nat × KV)} : ∀ {l : List (Nat × Operand)} {ps : List (Nat × KV)}, partsK T l = some ps → partsA (mapT T) l = some (mapT ps)
  | [], cs, h => by simp [partsK] at h; subst h; rfl
  | (i, x) :: r, cs, h => by
    simp only [partsK] at h
    cases h1 : kop T x with
    | none => rw [h1] at h; cases h
    | some c =>
      cases h2 : partsK T r with
      | none => rw [h1, h2] at h; cases h
      | some l =>
        rw [h1, h2] at h
        simp only [Option.some.injEq] at h; subst h
        simp only [partsA, kop_spec h1, partsK_spec h2, mapT]
theorem cellsK_spec {c : KV} {cs : List KV} (h : cellsK c = some cs) : avCells c.av = some (KV.avL cs) := by
  cases c with
  | d x => cases x <;> simp [cellsK] at h <;> subst h <;> rfl
  | _ => simp [cellsK] at h <;> subst h <;> rfl
theorem numK_spec {c : KV} {f : Bool} {k : IntKind} {n : Int} (h : numK c = some (f, k, n)) : c.av = .d (.int k n) := by
  cases c <;> simp [numK] at h <;> (obtain ⟨_, rfl, rfl⟩ := h; rfl)
theorem boolK_spec {c : KV} {b : Bool} (h : boolK c = some b) : c.av = .d (.bool b) := by
  cases c <;> simp [boolK] at h <;> (subst h; rfl)
theorem fnK_spec {c : KV} {f : Nat} {cs : List KV} (h : fnK c = some (f, cs)) : fnOf c.av = some (f, KV.avL cs) := by
  cases c with
  | fn g l => simp [fnK] at h; obtain ⟨rfl, rfl⟩ := h; rfl
  | dfn g l =>
    simp only [fnK] at h
    split at h
    · rename_i hd
      simp only [Option.some.injEq, Prod.mk.injEq] at h; obtain ⟨rfl, rfl⟩ := h
      simp only [KV.av, fnOf, allD_av hd]
    · cases h
  | _ => simp [fnK] at h
theorem litN_spec {c : KV} {n : Nat} (h : litN c = some n) : ∃ k, c.av = .d (.int k (n : Int)) := by
  cases c with
  | lit k m => cases m with
    | ofNat m => simp [litN] at h; subst h; exact ⟨k, rfl⟩
    | negSucc m => simp [litN] at h
  | _ => simp [litN] at h
theorem putK_spec (cells : List KV) (off : Nat) (cs : List KV) : KV.avL (putK cells off cs) = putL (KV.avL cells) off (KV.avL cs) := by
  simp only [putK, putL, avL_app, avL_take, avL_drop, avL_len]
theorem atK_eq (pl : Pl) (i : Nat) : pl.atK i = pl.at i := by cases pl <;> simp [Pl.atK, Pl.at, nth_eq]
theorem fillK_spec {pl : Pl} : ∀ {ps : List (Nat × KV)} {cells cs : List KV}, fillK pl cells ps = some cs → fillA pl.at (KV.avL cells) (mapT ps) = some (KV.avL cs)
  | [], cells, cs, h => by simp [fillK] at h; subst h; rfl
  | (i, c) :: r, cells, cs, h => by
    simp only [fillK] at h
    split at h
    · rename_i off n h1
      split at h
      · rename_i us h2
        split at h
        · rename_i h3
          rw [atK_eq] at h1
          simp only [mapT, fillA, h1, cellsK_spec h2, avL_len]
          rw [if_pos h3, ← putK_spec]
          exact fillK_spec h
        · cases h
      · cases h
    · cases h
theorem mapK_spec {f : KV → Option KV} {g : AV → Option D} (hf : ∀ c v, f c = some v → g c.av = some v.toD) : ∀ {cs vs : List KV}, mapK f cs = some vs → (KV.avL cs).mapM g = some (KV.toDL vs)
  | [], vs, h => by simp [mapK] at h; subst h; rfl
  | c :: r, vs, h => by
    simp only [mapK] at h
    cases h1 : f c with
    | none => rw [h1] at h; cases h
    | some v =>
      cases h2 : mapK f r with
      | none => rw [h1, h2] at h; cases h
      | some l =>
        rw [h1, h2] at h
        simp only [Option.some.injEq] at h; subst h
        simp [KV.avL, KV.toDL, List.mapM_cons, hf c v h1, mapK_spec hf h2]
theorem omap_spec {α β : Type u} {x : Option α} {f : α → β} {b : β} (h : omap x f = some b) : ∃ a, x = some a ∧ b = f a := by
  cases x with
  | none => cases h
  | some a => cases h; exact ⟨a, rfl, rfl⟩
theorem rowKV_toD (R : KRow) : (rowKV R).toD = .sl false R.sz (rowsD R.sz R.ps) := by
  unfold rowKV
  split
  · rename_i α d l f h; simp [h, KV.toD, rowsD, KP.rows]
  · rename_i rows h; simp [h, KV.toD, rowsD, KP.rows]
  · rfl
theorem mapRows_eq (ps : List KP) : mapRows ps = rowsD 0 ps := by
  unfold mapRows
  split
  · simp [rowsD, KP.rows]
  · rfl
theorem mapKV_toD (ps : List KP) : (mapKV ps).toD = .map (rowsD 0 ps) := by
  unfold mapKV
  split
  · simp [KV.toD, rowsD, KP.rows]
  · simp only [KV.toD, mapRows_eq]
theorem rowSn_spec {R : KRow} {v : KV} (h : rowSn R = some v) : rowDt R.row = some v.toD := by
  unfold rowSn at h
  split at h
  · rename_i h0
    cases h
    rw [Nat.blt_eq] at h0
    rw [rowKV_toD]
    exact if_pos h0
  · rename_i h0
    split at h
    · rename_i hn
      cases h
      have h0' : ¬ 0 < R.sz := fun x => by
        have y : Nat.blt 0 R.sz = true := by rw [Nat.blt_eq]; exact x
        rw [y] at h0; cases h0
      have hz : R.sz = 0 := by omega
      have e : rowDt R.row = some (.map R.row.rows) := by
        unfold rowDt
        rw [if_neg (show ¬ 0 < R.row.sz from h0'), if_pos (show R.row.nn = true from hn)]
      rw [e, mapKV_toD]
      show some (D.map (rowsD R.sz R.ps)) = _
      rw [hz]
    · cases h
theorem liveOk_spec {lv live : Bool} (h : liveOk lv live = true) : (live && !lv) = false := by cases lv <;> cases live <;> simp_all [liveOk]
theorem snapK_spec {lv : Bool} {S : KSt} : ∀ (n : Nat) (c v : KV), snapK lv S n c = some v → snap lv S.st n c.av = some v.toD
  | 0, c, v, h => by simp [snapK] at h
  | n + 1, c, v, h => by
    have ih := snapK_spec (lv := lv) (S := S) n
    have other : c.isD = true → some c = some v → snap lv S.st (n + 1) c.av = some v.toD := by
      intro hd e
      cases e
      rw [KV.isD_av hd]
      have := KV.isD_agg hd
      cases hx : c.toD with
      | agg l => exact absurd hx (this l)
      | _ => rfl
    unfold snapK at h
    split at h
    · obtain ⟨vs, h1, rfl⟩ := omap_spec h
      simp only [KV.av, snap, mapK_spec ih h1, Option.map_some, KV.toD]
    · obtain ⟨vs, h1, rfl⟩ := omap_spec h
      simp only [KV.av, snap, mapK_spec ih h1, Option.map_some, KV.toD]
    · rename_i b off
      split at h
      · rename_i B hB
        split at h
        · rename_i hl
          obtain ⟨vs, h1, rfl⟩ := omap_spec h
          have h2 : look S.st.H b = some B.blk := by simp only [KSt.st, look_mapH, hB, Option.map_some]
          simp only [KV.av, snap, h2]
          rw [show (B.blk.live && !lv) = false from liveOk_spec hl]
          simp only [Bool.false_eq_true, if_false]
          rw [show B.blk.cells = KV.avL B.cells from rfl, mapK_spec ih h1]
          simp only [Option.map_some, KV.toD, toDL_drop]
        · cases h
      · cases h
    · rename_i id
      split at h
      · rename_i R hR
        split at h
        · rename_i hl
          have h2 : look S.st.O id = some R.row := by simp only [KSt.st, look_mapO, hR, Option.map_some]
          simp only [KV.av, snap, h2]
          rw [show (R.row.live && !lv) = false from liveOk_spec hl]
          simp only [Bool.false_eq_true, if_false]
          exact rowSn_spec h
        · cases h
      · cases h
    · cases h; rfl
    · cases h; rfl
    · cases h; rfl
    · split at h
      · rename_i hd; exact other hd h
      · cases h
theorem snapL_spec' {lv : Bool} {S : KSt} : ∀ {cs vs : List KV}, mapK (snapK lv S 8) cs = some vs → snapL lv S.st (KV.avL cs) = some (KV.toDL vs)
  | [], vs, h => by simp [mapK] at h; subst h; rfl
  | c :: r, vs, h => by
    simp only [mapK] at h
    cases h1 : snapK lv S 8 c with
    | none => rw [h1] at h; cases h
    | some v =>
      cases h2 : mapK (snapK lv S 8) r with
      | none => rw [h1, h2] at h; cases h
      | some l =>
        rw [h1, h2] at h
        simp only [Option.some.injEq] at h; subst h
        simp only [KV.avL, snapL, snapK_spec 8 c v h1, snapL_spec' h2, KV.toDL]
theorem snapL_app {lv : Bool} {S : St} : ∀ {cs : List AV} {xs : List D} {ds : List D}, snapL lv S cs = some xs → noAggD ds = true → snapL lv S (cs ++ ds.map .d) = some (xs ++ ds)
  | [], xs, ds, h, hd => by
    simp [snapL] at h; subst h
    simp only [List.nil_append]
    induction ds with
    | nil => rfl
    | cons x r ih =>
      have hx : snap lv S 8 (.d x) = some x := by
        cases x with
        | agg l => cases hd
        | _ => rfl
      have hr : noAggD r = true := by
        cases x with
        | agg l => cases hd
        | _ => exact hd
      simp only [List.map_cons, snapL, hx, ih hr]
  | c :: r, xs, ds, h, hd => by
    simp only [snapL] at h
    cases h1 : snap lv S 8 c with
    | none => rw [h1] at h; cases h
    | some x =>
      cases h2 : snapL lv S r with
      | none => rw [h1, h2] at h; cases h
      | some l =>
        rw [h1, h2] at h
        simp only [Option.some.injEq] at h; subst h
        simp only [List.cons_append, snapL, h1, snapL_app h2 hd]
mutual
theorem sh_av (q : Nat) : ∀ (c : KV), (c.sh q).av = c.av.sh q
  | .agg cs => by simp only [KV.sh, KV.av, AV.sh, shL_av q cs]
  | .tup cs => by simp only [KV.sh, KV.av, AV.sh, shL_av q cs]
  | .osl id => rfl
  | .any | .int _ _ | .lit _ _ | .bool _ | .tt | .ff | .str _ | .fn _ _ | .dfn _ _ | .nilfn | .nilsl | .nilmap | .nilptr | .ptr _ | .sl _ _ _ _ _ _ | .slr _ _ _ | .mp _ _ _ _ | .d _ | .loc _ _ | .oloc _ _ _ _ | .yld => by simp only [KV.sh, KV.av, AV.sh]
theorem shL_av (q : Nat) : ∀ (cs : List KV), KV.avL (KV.shL q cs) = AV.shL q (KV.avL cs)
  | [] => rfl
  | c :: r => by simp only [KV.shL, KV.avL, AV.shL, sh_av q c, shL_av q r]
end
mutual
theorem below_av (n : Nat) : ∀ (c : KV), c.rowsBelow n = true → c.av.rowsBelow n = true
  | .agg cs, h => by simp only [KV.rowsBelow] at h; simp only [KV.av, AV.rowsBelow]; exact belowL_av n cs h
  | .tup cs, h => by simp only [KV.rowsBelow] at h; simp only [KV.av, AV.rowsBelow]; exact belowL_av n cs h
  | .osl id, h => h
  | .fn _ _, h => by simp [KV.rowsBelow] at h
  | .loc _ _, h => by simp [KV.rowsBelow] at h
  | .oloc _ _ _ _, h => by simp [KV.rowsBelow] at h
  | .yld, h => by simp [KV.rowsBelow] at h
  | .any, _ | .int _ _, _ | .lit _ _, _ | .bool _, _ | .tt, _ | .ff, _ | .str _, _ | .dfn _ _, _ | .nilfn, _ | .nilsl, _ | .nilmap, _ | .nilptr, _ | .ptr _, _ | .sl _ _ _ _ _ _, _ | .slr _ _ _, _ | .mp _ _ _ _, _ | .d _, _ => by simp only [KV.av, AV.rowsBelow]
theorem belowL_av (n : Nat) : ∀ (cs : List KV), KV.rowsBelowL n cs = true → AV.rowsBelowL n (KV.avL cs) = true
  | [], _ => rfl
  | c :: r, h => by
    simp only [KV.rowsBelowL] at h
    cases h1 : c.rowsBelow n with
    | false => rw [h1] at h; cases h
    | true =>
      rw [h1] at h
      simp only [KV.avL, AV.rowsBelowL, below_av n c h1, belowL_av n r h, Bool.and_self]
end
mutual
theorem scalar_av : ∀ (c : KV), c.scalar = true → c.av.scalar = true
  | .agg cs, h => by simp only [KV.scalar] at h; simp only [KV.av, AV.scalar]; exact scalarL_av cs h
  | .tup cs, h => by simp only [KV.scalar] at h; simp only [KV.av, AV.scalar]; exact scalarL_av cs h
  | .int _ _, _ | .lit _ _, _ | .bool _, _ | .tt, _ | .ff, _ | .str _, _ => by simp only [KV.av, AV.scalar]
  | .osl _, h | .fn _ _, h | .loc _ _, h | .oloc _ _ _ _, h | .yld, h | .any, h | .dfn _ _, h | .nilfn, h | .nilsl, h | .nilmap, h | .nilptr, h | .ptr _, h | .sl _ _ _ _ _ _, h | .slr _ _ _, h | .mp _ _ _ _, h | .d _, h => by simp [KV.scalar] at h
theorem scalarL_av : ∀ (cs : List KV), KV.scalarL cs = true → AV.scalarL (KV.avL cs) = true
  | [], _ => rfl
  | c :: r, h => by
    simp only [KV.scalarL] at h
    cases h1 : c.scalar with
    | false => rw [h1] at h; cases h
    | true =>
      rw [h1] at h
      simp only [KV.avL, AV.scalarL, scalar_av c h1, scalarL_av r h, Bool.and_self]
end
theorem enumK_spec : ∀ (q : Nat) (rows : List KRow), mapO (enumK q rows) = enumR q (rows.map KRow.row)
  | _, [] => rfl
  | q, R :: r => by simp only [enumK, mapO, List.map_cons, enumR, enumK_spec (q + 1) r]
theorem nbeq (k b : Nat) : (k == b) = Nat.beq k b := by
  by_cases e : k = b
  · subst e; simp
  · cases h : Nat.beq k b with
    | true => exact absurd (Nat.eq_of_beq_eq_true h) e
    | false => simp [e]
mutual
theorem boxes_av (b : Nat) : ∀ (c : KV), c.av.box b = c.boxes b
  | .agg cs => by simp only [KV.av, AV.box, KV.boxes, boxesL_av b cs]
  | .tup cs => by simp only [KV.av, AV.box, KV.boxes, boxesL_av b cs]
  | .fn _ cs => by simp only [KV.av, AV.box, KV.boxes, boxesL_av b cs]
  | .loc k _ => by simp only [KV.av, AV.box, KV.boxes]; exact nbeq k b
  | .any | .int _ _ | .lit _ _ | .bool _ | .tt | .ff | .str _ | .dfn _ _ | .nilfn | .nilsl | .nilmap | .nilptr | .ptr _ | .sl _ _ _ _ _ _ | .slr _ _ _ | .mp _ _ _ _ | .d _ | .osl _ | .oloc _ _ _ _ | .yld => by simp only [KV.av, AV.box, KV.boxes]
theorem boxesL_av (b : Nat) : ∀ (cs : List KV), AV.boxL b (KV.avL cs) = KV.boxesL b cs
  | [] => rfl
  | c :: r => by
    simp only [KV.avL, AV.boxL, KV.boxesL, boxes_av b c, boxesL_av b r]
    cases c.boxes b <;> simp
end
mutual
theorem hasRow_av (b : Nat) : ∀ (c : KV), c.av.hasRow b = c.hasRow b
  | .agg cs => by simp only [KV.av, AV.hasRow, KV.hasRow, hasRowL_av b cs]
  | .tup cs => by simp only [KV.av, AV.hasRow, KV.hasRow, hasRowL_av b cs]
  | .fn _ cs => by simp only [KV.av, AV.hasRow, KV.hasRow, hasRowL_av b cs]
  | .osl k => by simp only [KV.av, AV.hasRow, KV.hasRow]; exact nbeq k b
  | .oloc k _ _ _ => by simp only [KV.av, AV.hasRow, KV.hasRow]; exact nbeq k b
  | .any | .int _ _ | .lit _ _ | .bool _ | .tt | .ff | .str _ | .dfn _ _ | .nilfn | .nilsl | .nilmap | .nilptr | .ptr _ | .sl _ _ _ _ _ _ | .slr _ _ _ | .mp _ _ _ _ | .d _ | .loc _ _ | .yld => by simp only [KV.av, AV.hasRow, KV.hasRow]
theorem hasRowL_av (b : Nat) : ∀ (cs : List KV), AV.hasRowL b (KV.avL cs) = KV.hasRowL b cs
  | [] => rfl
  | c :: r => by
    simp only [KV.avL, AV.hasRowL, KV.hasRowL, hasRow_av b c, hasRowL_av b r]
    cases c.hasRow b <;> simp
end
end Go.Proofs.Ytnekemldcjegaaa.Aw

/- The logic of abstract walks, part M4: the conditions for evaluation are enough. -/
namespace Go.Proofs.Ytnekemldcjegaaa.Aw
open Go Go.RowKit
set_option linter.unusedVariables false
set_option linter.unusedSimpArgs false
universe u
variable {P : Program} {E : Env P} {base : Nat} {r : Option Nat}
def plenN : List KP → Nat
  | [] => 0
  | .ls _ _ l _ :: r => l.length + plenN r
  | .rw rows :: r => rows.length + plenN r
  | .raw rows :: r => rows.length + plenN r
  | .mp _ _ l _ :: r => l.length + plenN r
theorem plenN_spec (sz : Nat) : ∀ (ps : List KP), (rowsD sz ps).length = plenN ps
  | [] => rfl
  | .ls _ _ l _ :: r => by simp [rowsD, plenN, KP.rows, plenN_spec sz r]
  | .rw rows :: r => by simp [rowsD, plenN, KP.rows, plenN_spec sz r, toDLL_map]
  | .raw rows :: r => by simp [rowsD, plenN, KP.rows, plenN_spec sz r]
  | .mp _ _ l _ :: r => by simp [rowsD, plenN, KP.rows, plenN_spec sz r]
def strAt (s : ByteArray) (i : Int) : Int := match s[i.toNat]? with
  | some b => b.toNat
  | none => 0
/-- What holds behind code, up to what may be forgotten. -/
def KQ (Q : Exit → KSt → E.σ → Prop) : Exit → St → E.σ → Prop := fun e S s => ∃ S', Weak S S'.st ∧ Q e S' s
def unT : Un → Option TypeDesc
  | .bool => some .bool
  | .str => some .string
  | .int k => some (.int k)
  | .other => none
theorem unT_spec {P : Program} {t : Nat} {i : TI} {d : TypeDesc} (hi : TIOk P t i) (h : unT i.un = some d) : P.underlying t = some d := by
  cases hu : i.un <;> rw [hu] at h <;> simp only [unT] at h <;> cases h
  · exact hi.bool hu
  · exact hi.str hu
  · exact hi.int _ hu
def primK (P : Program) (E : Env P) (base : Nat) (r : Option Nat) (post : KV → List KRow → Prop) : Prim E.σ where
  iop := iopR
  icmp := icmpR
  oknz := oknzR
  neg k n := k.wrap (0 - n)
  conv k n := k.wrap n
  not b := !b
  beq a b := a == b
  max a b := max a b
  min a b := min a b
  tst b A B := (b = true → A) ∧ (b = false → B)
  conj A B := A ∧ B
  inb i n := 0 ≤ i ∧ i < n
  plen ps := plenN ps
  get _ d l i := l.getD i.toNat d
  sub _ l lo hi := (l.take hi.toNat).drop lo.toNat
  le a b := a ≤ b
  strlen s := s.size
  strat s i := strAt s i
  fits ps bytes := plenN ps * bytes ≤ 140737488355328 ∧ plenN ps ≤ 140737488355328
  mkok n bytes := 0 ≤ n ∧ (bytes : Int) * n ≤ 281474976710656 ∧ n ≤ 9223372036854775807
  reps n z := [.ls Unit () (List.replicate n.toNat ()) fun _ j => (nth z j).getD .any]
  C g args K := ∃ res rows, Con P g (KV.toDL args) res.av (rows.map KRow.row) ∧ K res rows
  CD g args ds K := ∃ res rows, Con P g (KV.toDL args ++ ds) res.av (rows.map KRow.row) ∧ K res rows
  noagg ds := noAggD ds = true
  W c S s Q := AW E base r c S.st s (KQ Q)
  Y s xs K := E.step s (KV.toDL xs) ∧ ∀ s' b, E.out s (KV.toDL xs) s' b → K b s'
  post := post
  eqs := eqI
  norm ps sz K := ∃ ps', rowsD sz ps' = rowsD sz ps ∧ K ps'
  mget u ps k z K := ∃ d, unT u = some d ∧ isKeyD d k.toD ∧ keysD d (rowsD 0 ps) ∧ ∃ v b, v.av = toAV (lkD (rowsD 0 ps) k.toD z.toD) ∧ b = lkOk (rowsD 0 ps) k.toD ∧ K v b
  mset u ps k v K := ∃ d, unT u = some d ∧ isKeyD d k.toD ∧ keysD d (rowsD 0 ps) ∧ ∃ ps', rowsD 0 ps' = msetD (rowsD 0 ps) k.toD v.toD ∧ K ps'
  mdel u ps k K := ∃ d, unT u = some d ∧ isKeyD d k.toD ∧ keysD d (rowsD 0 ps) ∧ ∃ ps', rowsD 0 ps' = mdelD (rowsD 0 ps) k.toD ∧ K ps'
  mnext _ l Ks Ke := (l = [] → Ke) ∧ ∀ i x, l[i]? = some x → Ks x (l.eraseIdx i)
  setl ps sz ix j cs K := ∃ ps', rowsD sz ps' = (rowsD sz ps).set ix.toNat (putG ((rowsD sz ps).getD ix.toNat []) j (KV.toDL cs)) ∧ K ps'
theorem AW_weakQ {c : Code} {S : St} {s : E.σ} {Q : Exit → St → E.σ → Prop} (h : AW E base r c S s fun e S' s' => ∃ S'', Weak S' S'' ∧ Q e S'' s') : AW E base r c S s Q := by
  intro M a w hc
  refine wpIn_mono (h M a w hc) ?_
  rintro e a' w' ⟨S', s', M', ⟨S'', hw, hq⟩, hc', hx⟩
  obtain ⟨M2, h1, h2⟩ := hw _ _ _ _ _ _ _ hc'
  exact ⟨S'', s', M2, hq, h1, hx.trans h2⟩
variable {post : KV → List KRow → Prop} {tb : Nat → Option TI}
theorem st_look {S : KSt} {t : Nat} : look S.st.T t = (lk S.T t).map KV.av := look_mapT
theorem st_lookH {S : KSt} {t : Nat} : look S.st.H t = (lk S.H t).map KBlk.blk := look_mapH
theorem st_lookO {S : KSt} {t : Nat} : look S.st.O t = (lk S.O t).map KRow.row := look_mapO
theorem kop_st {S : KSt} {x : Operand} {c : KV} (h : kop S.T x = some c) : opnd S.st.T x = some c.av := kop_spec h
theorem sameK_spec {k k' : IntKind} (h : sameK k k' = true) : k = k' := by cases k <;> cases k' <;> first | rfl | cases h
/-- A value that an operation may bring. -/
abbrev FreeR (P : Program) (o : Oper) (S : KSt) (K : KV → List (Nat × KBlk) → List (Nat × KRow) → Prop) : Prop := ∃ res nh no, Free P o S.st res.av (mapH nh) (mapO no) ∧ K res nh no
theorem freeR_plain {o : Oper} {S : KSt} {K : KV → List (Nat × KBlk) → List (Nat × KRow) → Prop} {res : KV} (h : Free P o S.st res.av [] []) (k : K res [] []) : FreeR P o S K := ⟨res, [], [], h, k⟩
theorem getD_in {α : Type} {d : α} {l : List α} {i : Int} (h0 : 0 ≤ i) (h1 : i < l.length) : l[i.toNat]? = some (l.getD i.toNat d) := by
  have : i.toNat < l.length := by omega
  simp [List.getD_eq_getElem?_getD, this]
theorem rowD_getD {f : Nat → KV} : ∀ (n j i : Nat), i < n → (rowD n j fun j => (f j).toD)[i]? = some (f (j + i)).toD
  | 0, _, i, h => by omega
  | n + 1, j, 0, h => by simp [rowD]
  | n + 1, j, i + 1, h => by
    simp only [rowD, List.getElem?_cons_succ]
    rw [rowD_getD n (j + 1) i (by omega), show j + 1 + i = j + (i + 1) from by omega]
theorem getK_spec {o : Oper} {S : KSt} {t : TypeId} {x : Operand} {i : TI} {id sz j : Nat} {ix : Int} {R : KRow} {α : Type} {d : α} {l : List α} {f : α → Nat → KV} {K : KV → Prop} (ho : o.op = .load t x) (hi : TIOk P t i)
    (hx : opnd S.st.T x = some (.oloc id sz ix.toNat j)) (hR' : look S.st.O id = some R.row) (h1 : R.sz = sz) (hps : R.row.rows = l.map fun a => rowD sz 0 fun j => (f a j).toD)
    (h : getK (primK P E base r post) i sz ix j α d l f K) : ∃ res, Free P o S.st res.av [] [] ∧ K res := by
  replace h : (0 ≤ ix ∧ ix < (plenN [KP.ls α d l f] : Int)) ∧ _ := h; obtain ⟨hin, h⟩ := h
  have hlen : plenN [KP.ls α d l f] = l.length := by simp [plenN]
  rw [hlen] at hin
  have hrow : R.row.rows[ix.toNat]? = some (rowD sz 0 fun j => (f (l.getD ix.toNat d) j).toD) := by
    rw [hps, List.getElem?_map, getD_in (d := d) hin.1 hin.2]; rfl
  have hx' : opnd S.st.T x = some (.oloc id R.row.sz ix.toNat j) := by rw [show R.row.sz = sz from h1]; exact hx
  cases hag : i.ag with
  | false =>
    rw [hag] at h
    replace h := kif_spec h; obtain ⟨h2, h⟩ := h
    replace h := kif_spec h; obtain ⟨h3, h⟩ := h
    rw [Nat.blt_eq] at h2
    refine ⟨_, ?_, h⟩
    rw [KV.isD_av h3]
    exact free_load_oloc ho hR' hx' (hag ▸ hi.ag) hrow (by rw [rowD_getD _ _ _ h2, Nat.zero_add]; rfl)
  | true =>
    rw [hag] at h
    replace h := kif_spec h; obtain ⟨h2, h⟩ := h
    replace h := kif_spec h; obtain ⟨h3, h⟩ := h
    have h2 := Nat.le_of_ble_eq_true h2
    refine ⟨_, ?_, h⟩
    have e1 : rowD sz 0 (fun j => (f (l.getD ix.toNat d) j).toD) = KV.toDL (rowK sz 0 (f (l.getD ix.toNat d))) := (rowK_toD _ _).symm
    rw [e1] at hrow
    have := free_load_oloc_agg ho hR' hx' (hag ▸ hi.ag) hi.sz hrow (by rw [toDL_len, lenK_eq, rowK_len]; exact h2)
    rw [toDL_drop, toDL_take] at this
    have h4 : allD (takeK i.sz (dropK j (rowK sz 0 (f (l.getD ix.toNat d))))) = true := by
      have : ∀ c ∈ takeK i.sz (dropK j (rowK sz 0 (f (l.getD ix.toNat d)))), c.isD = true := fun c hc => allD_get h3 c (by rw [takeK_eq, dropK_eq] at hc; exact List.mem_of_mem_drop (List.mem_of_mem_take hc))
      revert this
      generalize takeK i.sz (dropK j (rowK sz 0 (f (l.getD ix.toNat d)))) = L
      intro this
      induction L with
      | nil => rfl
      | cons y q ih => simp only [allD, Bool.and_eq_true]; exact ⟨this y (by simp), ih (fun c hc => this c (by simp [hc]))⟩
    rw [← allD_av h4] at this
    exact this
theorem loadK_spec {o : Oper} {S : KSt} {t : TypeId} {x : Operand} {c : KV} {K : KV → Prop} (hT : ∀ t i, tb t = some i → TIOk P t i) (ho : o.op = .load t x) (hx : opnd S.st.T x = some c.av)
    (h : loadK (primK P E base r post) tb t S c K) : ∃ res, Free P o S.st res.av [] [] ∧ K res := by
  replace h := kk_spec h; obtain ⟨i, hi, h⟩ := h
  have hi := hT _ _ hi
  split at h
  · rename_i cs
    have hx : opnd S.st.T x = some (.d (.ptr (KV.toDL cs))) := hx
    cases hag : i.ag with
    | false =>
      rw [hag] at h
      cases cs with
      | nil => exact h.elim
      | cons y l =>
        replace h := kif_spec h; obtain ⟨h1, h⟩ := h
        exact ⟨y, by rw [KV.isD_av h1]; exact free_load_ptr ho hx (hag ▸ hi.ag) rfl, h⟩
    | true =>
      rw [hag] at h
      replace h := kif_spec h; obtain ⟨h1, h⟩ := h
      replace h := kif_spec h; obtain ⟨h2, h⟩ := h
      refine ⟨.agg (takeK i.sz cs), ?_, h⟩
      have := free_load_ptr_agg ho hx (hag ▸ hi.ag) hi.sz (by rw [toDL_len]; exact Nat.le_of_ble_eq_true h1) (noAggD_spec (allD_noAgg h2))
      rwa [show (KV.agg (takeK i.sz cs)).av = .agg (((KV.toDL cs).take i.sz).map .d) from by simp only [KV.av]; rw [← avL_take, allD_av h2, List.map_take]]
  · rename_i b off
    replace h := kk_spec h; obtain ⟨B, hB, h⟩ := h
    have hB' : look S.st.H b = some B.blk := by rw [st_lookH, hB]; rfl
    cases hag : i.ag with
    | false =>
      rw [hag] at h
      replace h := kk_spec h; obtain ⟨c, hc, h⟩ := h
      exact ⟨c, free_load_loc ho hx (hag ▸ hi.ag) hB' (by rw [show B.blk.cells = KV.avL B.cells from rfl, nth_avL, hc]; rfl), h⟩
    | true =>
      rw [hag] at h
      replace h := kif_spec h; obtain ⟨h1, h⟩ := h
      refine ⟨_, ?_, h⟩
      have := free_load_loc_agg ho hx (hag ▸ hi.ag) hi.sz hB' (by rw [show B.blk.cells = KV.avL B.cells from rfl, avL_len]; exact Nat.le_of_ble_eq_true h1)
      rwa [show B.blk.cells = KV.avL B.cells from rfl, avL_drop, avL_take] at this
  · rename_i id sz ix j
    replace h := kk_spec h; obtain ⟨R, hR, h⟩ := h
    replace h := kif_spec h; obtain ⟨h1, h⟩ := h
    have h1 := Nat.eq_of_beq_eq_true h1
    have hR' : look S.st.O id = some R.row := by rw [st_lookO, hR]; rfl
    split at h
    · rename_i α d l f hps
      exact getK_spec ho hi hx hR' h1 (by simp only [KRow.row, hps, rowsD, KP.rows, List.append_nil, h1]) h
    · replace h : ∃ ps', rowsD sz ps' = rowsD sz R.ps ∧ _ := h; obtain ⟨ps', hp, h⟩ := h
      split at h
      · rename_i α d l f
        exact getK_spec ho hi hx hR' h1 (by simp only [KRow.row]; rw [h1, ← hp]; simp only [rowsD, KP.rows, List.append_nil]) h
      · exact h.elim
  · exact h.elim
theorem fldK_spec {o : Oper} {S : KSt} {s f : Nat} {x : Operand} {c : KV} {K : KV → Prop} (hT : ∀ t i, tb t = some i → TIOk P t i) (ho : o.op = .fieldAddr s x f) (hx : opnd S.st.T x = some c.av)
    (h : fldK tb s f c K) : ∃ res, Free P o S.st res.av [] [] ∧ K res := by
  replace h := kk_spec h; obtain ⟨i, hi, h⟩ := h
  replace h := kk_spec h; obtain ⟨q, hq, h⟩ := h
  replace h := kif_spec h; obtain ⟨h0, h⟩ := h
  obtain ⟨n, hf⟩ := fldT_pos ((hT _ _ hi).fl _ _ hq) h0
  split at h
  · rename_i cs
    refine ⟨_, ?_, h⟩
    have := free_fieldAddr_ptr ho (cs := KV.toDL cs) hx hf
    rwa [toDL_drop] at this
  · refine ⟨_, ?_, h⟩; exact free_fieldAddr_loc ho hx hf
  · refine ⟨_, ?_, h⟩; exact free_fieldAddr_oloc ho hx hf
  · exact h.elim
theorem casesN_spec {m : Int} {K : Nat → Prop} : ∀ {n k : Nat}, casesN (primK P E base r post) m n k K → (k : Int) ≤ m → m < k + n → K m.toNat
  | 0, k, h, _, _ => h.elim
  | 1, k, h, h1, h2 => by
    have : m.toNat = k := by omega
    rw [this]; exact h
  | n + 2, k, h, h1, h2 => by
    obtain ⟨g1, g2⟩ := (h : ((primK P E base r post).icmp .eql m (Int.ofNat k) = true → K k) ∧ ((primK P E base r post).icmp .eql m (Int.ofNat k) = false → casesN (primK P E base r post) m (n + 1) (k + 1) K))
    by_cases e : m = Int.ofNat k
    · have : m.toNat = k := by subst e; rfl
      rw [this]; exact g1 (show (m == Int.ofNat k) = true from by simp [e])
    · have e' : ¬ m = (k : Int) := e
      exact casesN_spec (g2 (show (m == Int.ofNat k) = false from by simpa using e)) (by omega) (by omega)
theorem idxK_spec {o : Oper} {S : KSt} {t : TypeId} {x ix : Operand} {c d : KV} {K : KV → Prop} (hT : ∀ t i, tb t = some i → TIOk P t i) (ho : o.op = .indexAddr t x ix) (hx : opnd S.st.T x = some c.av) (hd : opnd S.st.T ix = some d.av)
    (h : idxK (primK P E base r post) tb t S c d K) : ∃ res, Free P o S.st res.av [] [] ∧ K res := by
  replace h := kk_spec h; obtain ⟨i, hi, h⟩ := h
  have hi := hT _ _ hi
  split at h
  · rename_i clip sz α dd l f
    replace h := kk_spec h; obtain ⟨⟨e, n⟩, hr, h⟩ := h
    replace h := kif_spec h; obtain ⟨h1, h⟩ := h
    have h1 := Nat.eq_of_beq_eq_true h1
    simp only at h1; subst h1
    replace h := kk_spec h; obtain ⟨⟨fl, k, m⟩, hn, h⟩ := h
    replace h : (0 ≤ m ∧ m < (plenN [KP.ls α dd l f] : Int)) ∧ _ := h; obtain ⟨⟨h2, h3⟩, h⟩ := h
    refine ⟨_, ?_, h⟩
    have := free_indexAddr ho hx (hd.trans (congrArg some (numK_spec hn))) (hi.el _ hr) h2 (row := rowD n 0 fun j => (f (l.getD m.toNat dd) j).toD) (by rw [List.getElem?_map, getD_in (d := dd) h2 (by simpa [plenN] using h3)]; rfl)
    rwa [← rowK_toD] at this
  · rename_i clip sz rows
    replace h := kk_spec h; obtain ⟨⟨e, n⟩, hr, h⟩ := h
    replace h := kif_spec h; obtain ⟨h1, h⟩ := h
    have h1 := Nat.eq_of_beq_eq_true h1
    simp only at h1; subst h1
    replace h := kk_spec h; obtain ⟨m, hn, h⟩ := h
    replace h := kk_spec h; obtain ⟨row, hrow, h⟩ := h
    obtain ⟨k, hk⟩ := litN_spec hn
    refine ⟨_, ?_, h⟩; exact free_indexAddr ho hx (hd.trans (congrArg some hk)) (hi.el _ hr) (by omega) (row := KV.toDL row) (by rw [toDLL_map, List.getElem?_map, ← nth_eq, Int.toNat_natCast, hrow]; rfl)
  · rename_i id
    replace h := kk_spec h; obtain ⟨⟨e, n⟩, hr, h⟩ := h
    replace h := kk_spec h; obtain ⟨R, hR, h⟩ := h
    replace h := kif_spec h; obtain ⟨h1, h⟩ := h
    have h1 := Nat.eq_of_beq_eq_true h1
    simp only at h1; subst h1
    replace h := kif_spec h; obtain ⟨h0, h⟩ := h
    rw [Nat.blt_eq] at h0
    replace h := kk_spec h; obtain ⟨⟨fl, k, m⟩, hn, h⟩ := h
    replace h : (0 ≤ m ∧ m < (plenN R.ps : Int)) ∧ _ := h; obtain ⟨⟨h2, h3⟩, h⟩ := h
    have hR' : look S.st.O id = some R.row := by rw [st_lookO, hR]; rfl
    refine ⟨_, ?_, h⟩; exact free_indexAddr_osl ho hx hR' h0 (hd.trans (congrArg some (numK_spec hn))) (hi.el _ hr) h2 (by rw [show R.row.rows.length = plenN R.ps from plenN_spec _ _]; exact h3)
  · rename_i b off
    replace h := kk_spec h; obtain ⟨⟨l, e, n⟩, hr, h⟩ := h
    simp only at h
    split at h
    · rename_i m hn
      replace h := kif_spec h; obtain ⟨h1, h⟩ := h
      rw [Nat.blt_eq] at h1
      obtain ⟨k, hk⟩ := litN_spec hn
      have := free_indexAddr_arr ho hx (hd.trans (congrArg some hk)) (hi.ar _ hr) (by omega) (by omega)
      refine ⟨_, ?_, h⟩; exact by rwa [Int.toNat_natCast] at this
    · replace h := kk_spec h; obtain ⟨⟨fl, k, m⟩, hn, h⟩ := h
      replace h : (0 ≤ m ∧ m < (Int.ofNat l)) ∧ _ := h; obtain ⟨⟨h2, h3⟩, h⟩ := h
      have h3 : m < (l : Int) := h3
      have := free_indexAddr_arr ho hx (hd.trans (congrArg some (numK_spec hn))) (hi.ar _ hr) h2 h3
      have h : casesN (primK P E base r post) m l 0 (fun q => K (.loc b (off + q * n))) := h
      exact ⟨.loc b (off + m.toNat * n), this, casesN_spec h (by omega) (by omega)⟩
  · rename_i cs
    replace h := kk_spec h; obtain ⟨⟨l, e, n⟩, hr, h⟩ := h
    simp only at h
    split at h
    · rename_i m hn
      replace h := kif_spec h; obtain ⟨h1, h⟩ := h
      rw [Nat.blt_eq] at h1
      obtain ⟨k, hk⟩ := litN_spec hn
      have := free_indexAddr_parr ho (cs := KV.toDL cs) hx (hd.trans (congrArg some hk)) (hi.ar _ hr) (by omega) (by omega)
      refine ⟨_, ?_, h⟩; exact by rwa [Int.toNat_natCast, toDL_drop] at this
    · replace h := kk_spec h; obtain ⟨⟨fl, k, m⟩, hn, h⟩ := h
      replace h : (0 ≤ m ∧ m < (Int.ofNat l)) ∧ _ := h; obtain ⟨⟨h2, h3⟩, h⟩ := h
      have h3 : m < (l : Int) := h3
      have := free_indexAddr_parr ho (cs := KV.toDL cs) hx (hd.trans (congrArg some (numK_spec hn))) (hi.ar _ hr) h2 h3
      have h : casesN (primK P E base r post) m l 0 (fun q => K (.ptr (dropK (q * n) cs))) := h
      exact ⟨.ptr (dropK (m.toNat * n) cs), by rwa [toDL_drop] at this, casesN_spec h (by omega) (by omega)⟩
  · exact h.elim
theorem intsK_spec : ∀ {cs : List KV} {l : List (IntKind × Int)}, intsK cs = some l → KV.avL cs = intsC l
  | [], l, h => by simp only [intsK, Option.some.injEq] at h; subst h; rfl
  | c :: q, l, h => by
    unfold intsK at h
    split at h
    · rename_i la k n hc
      split at h
      · rename_i l' hl
        simp only [Option.some.injEq] at h; subst h
        simp only [KV.avL, intsC, intsK_spec hl, numK_spec hc]
      · cases h
    · cases h
theorem kindsK_spec : ∀ {l m : List (IntKind × Int)}, kindsK l m = true → kindsEq l m = true
  | [], [], _ => rfl
  | (k, a) :: q, (k', b) :: q', h => by
    unfold kindsK at h
    split at h
    · rename_i hk
      have := sameK_spec hk
      subst this
      simp only [kindsEq, beq_self_eq_true, Bool.true_and]; exact kindsK_spec h
    · cases h
  | [], _ :: _, h => by cases h
  | _ :: _, [], h => by cases h
theorem eqOp_spec {op : BinOp} {neq : Bool} (h : eqOp op = some neq) : op = if neq then .neq else .eql := by
  cases op <;> simp [eqOp] at h <;> subst h <;> rfl
theorem notB_spec (b : Bool) : notB b = !b := by cases b <;> rfl
theorem litB_av (b : Bool) : (litB b).av = .d (.bool b) := by cases b <;> rfl
theorem binK_spec {o : Oper} {S : KSt} {t yt : TypeId} {op : BinOp} {x y : Operand} {c d : KV} {K : KV → Prop} (hT : ∀ t i, tb t = some i → TIOk P t i) (ho : o.op = .binOp op t x y yt) (hx : opnd S.st.T x = some c.av) (hy : opnd S.st.T y = some d.av)
    (h : binK (primK P E base r post) tb t op c d K) : ∃ res, Free P o S.st res.av [] [] ∧ K res := by
  unfold binK at h
  split at h
  · rename_i la k a hc
    replace h := kk_spec h; obtain ⟨⟨lb, k', b⟩, hn, h⟩ := h
    have hx := hx.trans (congrArg some (numK_spec hc))
    have hy := hy.trans (congrArg some (numK_spec hn))
    split at h
    · rename_i hk
      replace h := kif_spec h; obtain ⟨h1, h⟩ := h
      have h1 := sameK_spec h1
      simp only at h1; subst h1
      have hr : intOp op k a b = some (.int k (iopR op k a b)) := by cases op <;> first | rfl | (simp [opKind] at hk; done)
      have hfree := free_bin (P := P) ho hx hy hr
      split at h
      · refine ⟨_, ?_, h⟩
        have : (foldK (primK P E base r post) op k a b).av = .d (.int k (iopR op k a b)) := by
          cases op <;> rfl
        rw [this]; exact hfree
      · refine ⟨_, ?_, h⟩; exact hfree
    · rename_i hk
      replace h := kif_spec h; obtain ⟨h1, h⟩ := h
      have h1 := sameK_spec h1
      simp only at h1; subst h1
      have key : b ≠ 0 → Free P o S.st (.d (.int k (iopR op k a b))) [] [] := fun hb => by
        refine free_bin ho hx hy ?_
        cases op <;> first | (simp [opKind] at hk; done) | (simp [intOp, iopR, hb]; done)
      split at h
      · rename_i hl
        suffices hb : b ≠ 0 by refine ⟨_, ?_, h⟩; exact key hb
        cases d <;> simp only [litZ] at hl <;> try cases hl
        rename_i k2 m
        simp only [numK, Option.some.injEq, Prod.mk.injEq] at hn
        obtain ⟨_, _, rfl⟩ := hn
        intro e
        subst e
        cases hl
      · replace h : oknzR op b ∧ _ := h; obtain ⟨h2, h⟩ := h
        suffices hb : b ≠ 0 by refine ⟨_, ?_, h⟩; exact key hb
        cases op <;> first | (simp [opKind] at hk; done) | exact h2
    · rename_i hk
      replace h : oknzR op b ∧ _ := h; obtain ⟨h2, h⟩ := h
      refine ⟨_, ?_, h⟩
      cases op <;> try (simp [opKind] at hk; done)
      · exact free_shift ho hx hy h2 (.inl ⟨rfl, rfl⟩)
      · exact free_shift ho hx hy h2 (.inr ⟨rfl, rfl⟩)
    · rename_i hk
      replace h := kif_spec h; obtain ⟨h1, h⟩ := h
      have h1 := sameK_spec h1
      simp only at h1; subst h1
      have hr : intOp op k a b = some (.bool (icmpR op a b)) := by cases op <;> first | rfl | (simp [opKind] at hk; done)
      have hfree := free_bin (P := P) ho hx hy hr
      split at h
      · refine ⟨_, ?_, h⟩
        have : (litB (icmpR op a b)).av = .d (.bool (icmpR op a b)) := by cases icmpR op a b <;> rfl
        rw [this]; exact hfree
      · refine ⟨_, ?_, h⟩; exact hfree
    · exact h.elim
  · replace h := kk_spec h; obtain ⟨i, hi, h⟩ := h
    split at h
    · rename_i hu
      replace h := kk_spec h; obtain ⟨a, ha, h⟩ := h
      replace h := kk_spec h; obtain ⟨b, hb, h⟩ := h
      have hx := hx.trans (congrArg some (boolK_spec ha))
      have hy := hy.trans (congrArg some (boolK_spec hb))
      split at h
      · refine ⟨_, ?_, h⟩; exact free_eqBool false ho hx hy ((hT _ _ hi).bool hu)
      · refine ⟨_, ?_, h⟩; exact free_eqBool true ho hx hy ((hT _ _ hi).bool hu)
      · exact h.elim
    · have hi := hT _ _ hi
      split at h
      · replace h := kk_spec h; obtain ⟨⟨e, n⟩, hr, h⟩ := h
        replace h := kk_spec h; obtain ⟨neq, hn, h⟩ := h
        have := eqOp_spec hn
        subst this
        split at h
        · refine ⟨_, ?_, h⟩
          rw [litB_av, notB_spec]
          have := free_nilsl neq true ho hx hy (hi.el _ hr) (fun base M yl a w hr => ⟨none, 0, 0, (hr.opnd hx).nilsl, rfl⟩)
          cases neq <;> exact this
        · rename_i row rows
          refine ⟨_, ?_, h⟩
          rw [litB_av]
          have := free_nilsl neq false ho hx hy (hi.el _ hr) (fun base M yl a w hr => by
            have := hr.opnd hx
            cases this with | d h => generalize a.eval x = v at h; cases h; exact ⟨_, _, _, rfl, rfl⟩)
          cases neq <;> exact this
        · rename_i α x' l f _
          replace h : (1 : Int) ≤ (plenN [KP.ls α x' l f] : Int) ∧ _ := h; obtain ⟨h1, h⟩ := h
          refine ⟨_, ?_, h⟩
          rw [litB_av]
          have := free_nilsl neq false ho hx hy (hi.el _ hr) (fun base M yl a w hr => by
            have := hr.opnd hx
            cases this with | d h =>
            generalize a.eval x = v at h
            simp only [plenN, Nat.add_zero] at h1
            generalize hg : List.map (fun a => rowD _ 0 fun j => (f a j).toD) l = rows at h
            cases h with
            | sl0 => have := congrArg List.length hg; simp at this; subst this; simp at h1
            | slE => have := congrArg List.length hg; simp at this; subst this; simp at h1
            | sl => exact ⟨_, _, _, rfl, rfl⟩)
          cases neq <;> exact this
        · exact h.elim
      · split at h
        · replace h := kk_spec h; obtain ⟨n, hn, h⟩ := h
          replace h := kk_spec h; obtain ⟨neq, hop, h⟩ := h
          replace h := kk_spec h; obtain ⟨l, hl, h⟩ := h
          replace h := kk_spec h; obtain ⟨m, hm, h⟩ := h
          replace h := kif_spec h; obtain ⟨h1, h⟩ := h
          replace h := kif_spec h; obtain ⟨h2, h⟩ := h
          have := eqOp_spec hop
          subst this
          have h1 := Nat.eq_of_beq_eq_true h1
          rw [lenK_eq] at h1
          obtain ⟨e1, e2, e3⟩ := hi.eqn _ hn
          refine ⟨_, ?_, h⟩
          have := free_eqAgg neq ho (hx.trans (congrArg some (by rw [KV.av, intsK_spec hl]))) (hy.trans (congrArg some (by rw [KV.av, intsK_spec hm]))) (by rw [h1]; exact e1) e2 (by decide) e3 (kindsK_spec h2)
          cases neq <;> exact this
        · exact h.elim
      · exact h.elim
theorem plen_ls {α : Type} {d : α} {l : List α} {f : α → Nat → KV} : (primK P E base r post).plen [.ls α d l f] = l.length := by simp [primK, plenN]
theorem lenP'_spec {o : Oper} {S : KSt} {t : TypeId} {x : Operand} {c : KV} {K : KV → Prop} (hT : ∀ t i, tb t = some i → TIOk P t i) (ho : o.op = .call { callee := .builtin .len, args := #[x], argTypes := #[t] }) (hx : opnd S.st.T x = some c.av)
    (h : lenP' (primK P E base r post) tb t S c K) : ∃ res, Free P o S.st res.av [] [] ∧ K res := by
  replace h := kk_spec h; obtain ⟨i, hi, h⟩ := h
  have hi := hT _ _ hi
  split at h
  · replace h := kk_spec h; obtain ⟨⟨e, n⟩, hr, h⟩ := h
    refine ⟨_, ?_, h⟩; exact free_len ho hx (hi.el _ hr) (by simp [plen_ls])
  · replace h := kk_spec h; obtain ⟨⟨e, n⟩, hr, h⟩ := h
    refine ⟨_, ?_, h⟩; exact free_len ho hx (hi.el _ hr) (by simp [toDLL_map, lenK_eq])
  · replace h := kk_spec h; obtain ⟨⟨e, n⟩, hr, h⟩ := h
    refine ⟨_, ?_, h⟩; exact free_len_nil ho hx (hi.el _ hr)
  · replace h := kk_spec h; obtain ⟨R, hR, h⟩ := h
    replace h := kk_spec h; obtain ⟨⟨e, n⟩, hr, h⟩ := h
    replace h := kif_spec h; obtain ⟨h0, h⟩ := h
    rw [Nat.blt_eq] at h0
    have hR' := (st_lookO (S := S)).trans (congrArg (Option.map KRow.row) hR)
    refine ⟨_, ?_, h⟩; exact free_len_osl ho hx hR' h0 (hi.el _ hr) (show (((rowsD R.sz R.ps).length : Nat) : Int) = ((plenN R.ps : Nat) : Int) from congrArg _ (plenN_spec _ _))
  · split at h
    · rename_i hu
      refine ⟨_, ?_, h⟩; exact free_lenStr ho hx (hi.str hu)
    · exact h.elim
  · exact h.elim
theorem callK_spec {o : Oper} {S : KSt} {nb : Nat} {f : Operand} {args : Array Operand} {ts : Array TypeId} {K : KV → List (Nat × KBlk) → List (Nat × KRow) → Prop} (ho : o.op = .call { callee := .value f, args := args, argTypes := ts })
    (h : callK (primK P E base r post) f args.toList S nb K) : FreeR P o S K := by
  replace h := kk_spec h; obtain ⟨fv, hf, h⟩ := h
  replace h := kk_spec h; obtain ⟨cs, hcs, h⟩ := h
  replace hf := kop_st hf
  replace hcs := kopL_spec hcs
  have fin : ∀ {g : Nat} {caps : List AV} {xs : List D} {lv : Bool} {res : KV} {rows : List KRow}, fnOf fv.av = some (g, caps) → snapL lv S.st (KV.avL cs ++ caps) = some xs → Con P g xs res.av (rows.map KRow.row) → thenC nb lv K res rows → FreeR P o S K := by
    intro g caps xs lv res rows hg hx hc h
    cases lv with
    | false =>
      replace h := kif_spec h; obtain ⟨h1, h⟩ := h
      have := free_call nb false ho hf hg hcs hx (fun h => by cases h) (by rw [List.length_map, ← lenK_eq]; exact below_av _ _ h1) hc
      rw [← sh_av, ← enumK_spec] at this
      exact ⟨_, [], _, this, h⟩
    | true =>
      replace h := kif_spec h; obtain ⟨h1, h⟩ := h
      replace h := kif_spec h; obtain ⟨h2, h⟩ := h
      replace h := kif_spec h; obtain ⟨h3, h⟩ := h
      cases rows with
      | cons => cases h1
      | nil =>
        have := free_call nb true ho hf hg hcs hx (fun _ => ⟨scalar_av _ h2, rfl⟩) (below_av _ _ h3) hc
        rw [← sh_av] at this
        exact ⟨_, [], [], this, h⟩
  split at h
  · rename_i g ds
    replace h : noAggD ds = true ∧ _ := h; obtain ⟨hna, h⟩ := h
    split at h
    · rename_i xs hx
      obtain ⟨res, rows, hc, h⟩ := h
      exact fin rfl (snapL_app (snapL_spec' hx) hna) hc h
    · replace h := kk_spec h; obtain ⟨xs, hx, h⟩ := h
      obtain ⟨res, rows, hc, h⟩ := h
      exact fin rfl (snapL_app (snapL_spec' hx) hna) hc h
  · replace h := kk_spec h; obtain ⟨⟨g, caps⟩, hg, h⟩ := h
    replace hg := fnK_spec hg
    split at h
    · rename_i xs hx
      obtain ⟨res, rows, hc, h⟩ := h
      have hx := snapL_spec' hx
      rw [avL_app] at hx
      exact fin hg hx hc h
    · replace h := kk_spec h; obtain ⟨xs, hx, h⟩ := h
      obtain ⟨res, rows, hc, h⟩ := h
      have hx := snapL_spec' hx
      rw [avL_app] at hx
      exact fin hg hx hc h
theorem mapPs_spec {S : KSt} {c : KV} {ps : List KP} (h : mapPs S c = some ps) : mapRowsA S.st c.av = some (rowsD 0 ps) := by
  unfold mapPs at h
  split at h
  · rename_i id
    split at h
    · rename_i R hR
      split at h
      · rename_i hb
        cases h
        have hR' : look S.st.O id = some R.row := by rw [st_lookO, hR]; rfl
        simp only [KV.av, mapRowsA, hR']
        rw [if_pos (show (Nat.beq R.row.sz 0 && R.row.nn) = true from hb)]
        simp only [Bool.and_eq_true] at hb
        have := Nat.eq_of_beq_eq_true hb.1
        show some (rowsD R.sz R.ps) = _
        rw [this]
      · cases h
    · cases h
  · cases h; simp [KV.av, mapRowsA, rowsD, KP.rows]
  · cases h; simp [KV.av, mapRowsA, rowsD, KP.rows]
  · cases h; rfl
  · cases h
theorem builtK_spec {o : Oper} {S : KSt} {b : Builtin} {args : Array Operand} {ts : Array TypeId} {K : KV → Prop} (hT : ∀ t i, tb t = some i → TIOk P t i) (ho : o.op = .call { callee := .builtin b, args := args, argTypes := ts })
    (h : builtK (primK P E base r post) tb b args.toList ts.toList S K) : ∃ res, Free P o S.st res.av [] [] ∧ K res := by
  unfold builtK at h
  split at h
  · split at h
    · rename_i x t h1 h2
      have e1 : args = #[x] := by apply Array.toList_inj.1; simp [h1]
      have e2 : ts = #[t] := by apply Array.toList_inj.1; simp [h2]
      subst e1 e2
      replace h := kk_spec h; obtain ⟨c, hc, h⟩ := h
      replace h := kk_spec h; obtain ⟨i, hi, h⟩ := h
      split at h
      · rename_i r hr
        obtain ⟨kt, et⟩ := r
        replace h := kk_spec h; obtain ⟨ps, hps, h⟩ := h
        refine ⟨_, ?_, h⟩
        exact free_lenMap ho ((hT _ _ hi).mp _ hr) (kop_st hc) (mapPs_spec hps) (congrArg _ (plenN_spec 0 ps))
      · exact lenP'_spec hT ho (kop_st hc) h
    · exact h.elim
  · split at h
    · rename_i x y h1
      have e1 : args = #[x, y] := by apply Array.toList_inj.1; simp [h1]
      subst e1
      replace h := kk_spec h; obtain ⟨c, hc, h⟩ := h
      replace h := kk_spec h; obtain ⟨d, hd, h⟩ := h
      replace h := kk_spec h; obtain ⟨⟨fa, ka, a⟩, ha, h⟩ := h
      replace h := kk_spec h; obtain ⟨⟨fb, kb, b⟩, hb, h⟩ := h
      replace h := kif_spec h; obtain ⟨h1, h⟩ := h
      have h1 := sameK_spec h1
      simp only at h1; subst h1
      refine ⟨_, ?_, h⟩; exact free_max2 ho ((kop_st hc).trans (congrArg some (numK_spec ha))) ((kop_st hd).trans (congrArg some (numK_spec hb)))
    · rename_i x y z h1
      have e1 : args = #[x, y, z] := by apply Array.toList_inj.1; simp [h1]
      subst e1
      replace h := kk_spec h; obtain ⟨c, hc, h⟩ := h
      replace h := kk_spec h; obtain ⟨d, hd, h⟩ := h
      replace h := kk_spec h; obtain ⟨e, he, h⟩ := h
      replace h := kk_spec h; obtain ⟨⟨fa, ka, a⟩, ha, h⟩ := h
      replace h := kk_spec h; obtain ⟨⟨fb, kb, b⟩, hb, h⟩ := h
      replace h := kk_spec h; obtain ⟨⟨fg, kg, g⟩, hg, h⟩ := h
      replace h := kif_spec h; obtain ⟨h1, h⟩ := h
      replace h := kif_spec h; obtain ⟨h2, h⟩ := h
      have h1 := sameK_spec h1
      have h2 := sameK_spec h2
      simp only at h1 h2; subst h1 h2
      refine ⟨_, ?_, h⟩; exact free_max3 ho ((kop_st hc).trans (congrArg some (numK_spec ha))) ((kop_st hd).trans (congrArg some (numK_spec hb))) ((kop_st he).trans (congrArg some (numK_spec hg)))
    · exact h.elim
  · split at h
    · rename_i x y h1
      have e1 : args = #[x, y] := by apply Array.toList_inj.1; simp [h1]
      subst e1
      replace h := kk_spec h; obtain ⟨c, hc, h⟩ := h
      replace h := kk_spec h; obtain ⟨d, hd, h⟩ := h
      replace h := kk_spec h; obtain ⟨⟨fa, ka, a⟩, ha, h⟩ := h
      replace h := kk_spec h; obtain ⟨⟨fb, kb, b⟩, hb, h⟩ := h
      replace h := kif_spec h; obtain ⟨h1, h⟩ := h
      have h1 := sameK_spec h1
      simp only at h1; subst h1
      refine ⟨_, ?_, h⟩; exact free_min2 ho ((kop_st hc).trans (congrArg some (numK_spec ha))) ((kop_st hd).trans (congrArg some (numK_spec hb)))
    · exact h.elim
  · exact h.elim
theorem chunks_spec {sz : Nat} : ∀ (n : Nat) (l : List KV), KV.toDLL (chunks sz n l) = toRows sz n (KV.toDL l)
  | 0, l => rfl
  | n + 1, l => by simp only [chunks, KV.toDLL, toRows, ← toDL_take, ← toDL_drop, chunks_spec n]
theorem anys_spec : ∀ n, KV.avL (anys n) = List.replicate n .any
  | 0 => rfl
  | n + 1 => by simp only [anys, KV.avL, KV.av, anys_spec n, List.replicate_succ]
theorem reps_rows (n : Nat) (z : List KV) (sz : Nat) (h : z.length = sz) : rowsD sz [.ls Unit () (List.replicate n ()) fun _ j => (nth z j).getD .any] = List.replicate n (KV.toDL z) := by
  simp only [rowsD, KP.rows, List.append_nil, List.map_replicate]
  congr 1
  have : ∀ (m j : Nat) (z : List KV), z.length = m → ∀ y : List KV, y.length = j → rowD m j (fun k => ((nth (y ++ z) k).getD .any).toD) = KV.toDL z := by
    intro m
    induction m with
    | zero => intro j z hz y hy; rw [List.eq_nil_of_length_eq_zero hz]; rfl
    | succ m ih =>
      intro j z hz y hy
      cases z with
      | nil => simp at hz
      | cons c q =>
        simp only [rowD, KV.toDL]
        congr 1
        · rw [nth_eq, List.getElem?_append_right (by omega), hy, Nat.sub_self]; rfl
        · have := ih (j + 1) q (by simpa using hz) (y ++ [c]) (by simp [hy])
          simpa using this
  simpa using this sz 0 z h [] rfl
theorem srcK_spec {S : KSt} {id sz : Nat} {c : KV} {ps : List KP} (h : srcK S id sz c = some ps) : srcRows S.st id sz c.av = some (rowsD sz ps) := by
  unfold srcK at h
  split at h
  · split at h
    · rename_i he
      cases h
      have e := Nat.eq_of_beq_eq_true he
      subst e
      simp [srcRows, KV.av, rowsD, KP.rows]
    · cases h
  · split at h
    · rename_i he
      cases h
      have e := Nat.eq_of_beq_eq_true he
      subst e
      simp [srcRows, KV.av, rowsD, KP.rows]
    · cases h
  · cases h; rfl
  · split at h
    · rename_i R hR
      split at h
      · rename_i he
        cases h
        simp only [Bool.and_eq_true] at he
        have e := Nat.eq_of_beq_eq_true he.1
        simp only [srcRows, KV.av, st_lookO, hR, Option.map_some]
        rw [show R.row.sz = R.sz from rfl, if_pos (by simp only [Bool.and_eq_true]; exact he)]
        rw [← e]; rfl
      · cases h
    · cases h
  · cases h
theorem rowKV_av (R : KRow) : (rowKV R).av = .d (.sl false R.sz (rowsD R.sz R.ps)) := by
  unfold rowKV
  split
  · rename_i α d l f h; simp [h, KV.av, rowsD, KP.rows]
  · rename_i rows h; simp [h, KV.av, rowsD, KP.rows]
  · rfl
theorem appK_spec {o : Oper} {S : KSt} {nb : Nat} {args : Array Operand} {ts : Array TypeId} {K : KV → Prop} (hT : ∀ t i, tb t = some i → TIOk P t i) (ho : o.op = .call { callee := .builtin .append, args := args, argTypes := ts })
    (h : appK (primK P E base r post) tb args.toList ts.toList S nb K) : ∃ res, Free P o S.st res.av [] [] ∧ K res := by
  unfold appK at h
  split at h
  · rename_i x y t t' h1 h2
    have e1 : args = #[x, y] := by apply Array.toList_inj.1; simp [h1]
    have e2 : ts = #[t, t'] := by apply Array.toList_inj.1; simp [h2]
    subst e1 e2
    replace h := kif_spec h; obtain ⟨ht, h⟩ := h
    have ht := Nat.eq_of_beq_eq_true ht
    subst ht
    replace h := kk_spec h; obtain ⟨c, hc, h⟩ := h
    replace h := kk_spec h; obtain ⟨d, hy, h⟩ := h
    replace h := kk_spec h; obtain ⟨ti, hi, h⟩ := h
    replace h := kk_spec h; obtain ⟨⟨e, sz⟩, hr, h⟩ := h
    replace h := kk_spec h; obtain ⟨j, hj, h⟩ := h
    replace h := kk_spec h; obtain ⟨zc, hz, h⟩ := h
    replace h := kif_spec h; obtain ⟨hzs, h⟩ := h
    replace h := kif_spec h; obtain ⟨hpos, h⟩ := h
    have hzs := Nat.eq_of_beq_eq_true hzs
    rw [Nat.blt_eq] at hpos
    replace hi := hT _ _ hi
    replace hj := hT _ _ hj
    replace hr := hi.el _ hr
    replace hz := hj.z _ hz
    replace hy := kop_st hy
    replace hc := kop_st hc
    simp only at hzs hpos hz hj h
    split at h
    · rename_i sz'
      replace h := kif_spec h; obtain ⟨he, h⟩ := h
      have he := Nat.eq_of_beq_eq_true he
      subst he
      replace h := kk_spec h; obtain ⟨news, hs, h⟩ := h
      replace h : (plenN news * j.bytes ≤ 140737488355328 ∧ plenN news ≤ 140737488355328) ∧ _ := h; obtain ⟨⟨h6, h7⟩, h⟩ := h
      refine ⟨_, ?_, h⟩
      rw [rowKV_av]
      have hlen : (rowsD sz' news).length = plenN news := plenN_spec _ _
      exact free_append_clip ho hc hr hz (by rw [avL_len]; exact hzs) hpos hj.bytes hy (srcK_spec hs) (by rw [hlen]; exact h6) (by rw [hlen]; exact h7)
    · exact h.elim
  · exact h.elim
theorem appOK_spec {o : Oper} {S : KSt} {nb : Nat} {args : Array Operand} {ts : Array TypeId} {K : KV → List (Nat × KBlk) → List (Nat × KRow) → Prop} (hT : ∀ t i, tb t = some i → TIOk P t i) (ho : o.op = .call { callee := .builtin .append, args := args, argTypes := ts })
    (h : appOK (primK P E base r post) tb args.toList ts.toList S nb K) : FreeR P o S K := by
  unfold appOK at h
  split at h
  · rename_i x y t t' h1 h2
    have e1 : args = #[x, y] := by apply Array.toList_inj.1; simp [h1]
    have e2 : ts = #[t, t'] := by apply Array.toList_inj.1; simp [h2]
    subst e1 e2
    replace h := kif_spec h; obtain ⟨ht, h⟩ := h
    have ht := Nat.eq_of_beq_eq_true ht
    subst ht
    replace h := kk_spec h; obtain ⟨c, hc, h⟩ := h
    replace h := kk_spec h; obtain ⟨d, hy, h⟩ := h
    replace h := kk_spec h; obtain ⟨ti, hi, h⟩ := h
    replace h := kk_spec h; obtain ⟨⟨e, sz⟩, hr, h⟩ := h
    replace h := kk_spec h; obtain ⟨j, hj, h⟩ := h
    replace h := kk_spec h; obtain ⟨zc, hz, h⟩ := h
    replace h := kif_spec h; obtain ⟨hzs, h⟩ := h
    replace h := kif_spec h; obtain ⟨hpos, h⟩ := h
    have hzs := Nat.eq_of_beq_eq_true hzs
    rw [Nat.blt_eq] at hpos
    replace hi := hT _ _ hi
    replace hj := hT _ _ hj
    replace hr := hi.el _ hr
    replace hz := hj.z _ hz
    replace hy := kop_st hy
    replace hc := kop_st hc
    simp only at hzs hpos hz hj h
    split at h
    · rename_i sz'
      replace h := kif_spec h; obtain ⟨he, h⟩ := h
      have he := Nat.eq_of_beq_eq_true he
      subst he
      replace h := kk_spec h; obtain ⟨news, hs, h⟩ := h
      replace h : (1 : Int) ≤ (plenN news : Int) ∧ (plenN news * j.bytes ≤ 140737488355328 ∧ plenN news ≤ 140737488355328) ∧ _ := h; obtain ⟨h5, ⟨h6, h7⟩, h⟩ := h
      have hlen : (rowsD sz' news).length = plenN news := plenN_spec _ _
      refine ⟨_, _, _, ?_, h⟩
      exact free_append_own (id := nb) ho hc hr hz (by rw [avL_len]; exact hzs) hpos hj.bytes hy (srcK_spec hs) (by rw [hlen]; exact h6) (by rw [hlen]; exact h7) (by rw [hlen]; omega)
    · exact h.elim
  · exact h.elim
theorem appNK_spec {o : Oper} {S : KSt} {nb : Nat} {args : Array Operand} {ts : Array TypeId} {K : KV → Prop} (hT : ∀ t i, tb t = some i → TIOk P t i) (ho : o.op = .call { callee := .builtin .append, args := args, argTypes := ts })
    (h : appNK (primK P E base r post) tb args.toList ts.toList S nb K) : ∃ res, Free P o S.st res.av [] [] ∧ K res := by
  unfold appNK at h
  split at h
  · rename_i x y t t' h1 h2
    have e1 : args = #[x, y] := by apply Array.toList_inj.1; simp [h1]
    have e2 : ts = #[t, t'] := by apply Array.toList_inj.1; simp [h2]
    subst e1 e2
    replace h := kif_spec h; obtain ⟨ht, h⟩ := h
    have ht := Nat.eq_of_beq_eq_true ht
    subst ht
    replace h := kk_spec h; obtain ⟨c, hc, h⟩ := h
    replace h := kk_spec h; obtain ⟨d, hy, h⟩ := h
    replace h := kk_spec h; obtain ⟨ti, hi, h⟩ := h
    replace h := kk_spec h; obtain ⟨⟨e, sz⟩, hr, h⟩ := h
    replace h := kk_spec h; obtain ⟨j, hj, h⟩ := h
    replace h := kk_spec h; obtain ⟨zc, hz, h⟩ := h
    replace h := kif_spec h; obtain ⟨hzs, h⟩ := h
    replace h := kif_spec h; obtain ⟨hpos, h⟩ := h
    have hzs := Nat.eq_of_beq_eq_true hzs
    rw [Nat.blt_eq] at hpos
    replace hi := hT _ _ hi
    replace hj := hT _ _ hj
    replace hr := hi.el _ hr
    replace hz := hj.z _ hz
    replace hy := kop_st hy
    replace hc := kop_st hc
    simp only at hzs hpos hz hj h
    split at h
    · rename_i sz'
      replace h := kif_spec h; obtain ⟨he, h⟩ := h
      have he := Nat.eq_of_beq_eq_true he
      subst he
      replace h := kk_spec h; obtain ⟨news, hs, h⟩ := h
      replace h : (plenN news : Int) = 0 ∧ _ := h; obtain ⟨h5, h⟩ := h
      have hlen : (rowsD sz' news).length = plenN news := plenN_spec _ _
      have h0 : rowsD sz' news = [] := List.eq_nil_of_length_eq_zero (by rw [hlen]; omega)
      refine ⟨_, ?_, h⟩
      exact free_append_none (id := nb) ho hc hr hz (by rw [avL_len]; exact hzs) hpos hj.bytes hy (srcK_spec hs) (by rw [h0]; simp) (by rw [h0]; simp) h0
    · exact h.elim
  · exact h.elim
theorem freeK_spec {pz : List Nat} {o : Oper} {S : KSt} {nb : Nat} {K : KV → List (Nat × KBlk) → List (Nat × KRow) → Prop} (hT : ∀ t i, tb t = some i → TIOk P t i) (h : freeK (primK P E base r post) tb pz o S nb K) : FreeR P o S K := by
  unfold freeK at h
  split at h
  · rename_i ho; replace h := kk_spec h; obtain ⟨c, hc, h⟩ := h; refine freeR_plain ?_ h; exact free_move ho (kop_st hc)
  · rename_i ho; replace h := kk_spec h; obtain ⟨c, hc, h⟩ := h; refine freeR_plain ?_ h; exact free_assign ho (kop_st hc)
  · rename_i x y z ho
    replace h := kk_spec h; obtain ⟨c, hc, h⟩ := h
    have hc := kop_st hc
    have go : ∀ b : Bool, c.av = .d (.bool b) → (kk (kop S.T (if b then y else z)) fun c => K c [] []) → FreeR P o S K := fun b hb h => by
      replace h := kk_spec h; obtain ⟨c', hc', h⟩ := h
      refine freeR_plain ?_ h; exact free_pick ho (hc.trans (congrArg some hb)) (kop_st hc')
    split at h
    · exact go true rfl (by simpa using h)
    · exact go false rfl (by simpa using h)
    · rename_i b _
      cases b with
      | true => exact go true rfl (by simpa using h.1 rfl)
      | false => exact go false rfl (by simpa using h.2 rfl)
    · exact h.elim
  · rename_i ho
    replace h := kk_spec h; obtain ⟨c, hc, h⟩ := h
    split at h
    · replace h := kk_spec h; obtain ⟨c', hc', h⟩ := h
      refine freeR_plain ?_ h; exact free_extract ho (kop_st hc) (by rw [nth_avL, hc']; rfl)
    · exact h.elim
  · rename_i ho
    replace h := kk_spec h; obtain ⟨c, hc, h⟩ := h
    obtain ⟨res, h1, h2⟩ := fldK_spec hT ho (kop_st hc) h
    exact freeR_plain h1 h2
  · rename_i ho
    replace h := kk_spec h; obtain ⟨c, hc, h⟩ := h
    obtain ⟨res, h1, h2⟩ := loadK_spec hT ho (kop_st hc) h
    exact freeR_plain h1 h2
  · rename_i ho
    replace h := kk_spec h; obtain ⟨c, hc, h⟩ := h
    replace h := kk_spec h; obtain ⟨d, hd, h⟩ := h
    obtain ⟨res, h1, h2⟩ := idxK_spec hT ho (kop_st hc) (kop_st hd) h
    exact freeR_plain h1 h2
  · rename_i ho
    replace h := kk_spec h; obtain ⟨c, hc, h⟩ := h
    replace h := kk_spec h; obtain ⟨d, hd, h⟩ := h
    replace h := kk_spec h; obtain ⟨i, hi, h⟩ := h
    split at h
    · rename_i hu
      split at h
      · rename_i s
        replace h := kk_spec h; obtain ⟨⟨f, k, m⟩, hn, h⟩ := h
        replace h : (0 ≤ m ∧ m < (s.size : Int)) ∧ _ := h; obtain ⟨⟨h1, h2⟩, h⟩ := h
        have hlt : m.toNat < s.size := by omega
        have hg : s[m.toNat]? = some (s[m.toNat]) := by simp [hlt]
        refine freeR_plain (res := .int .u8 (strAt s m)) ?_ h
        have := free_index_str ho (kop_st hc) ((kop_st hd).trans (congrArg some (numK_spec hn))) ((hT _ _ hi).str hu) h1 hg
        simp only [KV.av, strAt, hg]
        exact this
      · exact h.elim
    · split at h
      · rename_i cs
        replace h := kk_spec h; obtain ⟨⟨l, e, n⟩, hr, h⟩ := h
        replace h := kk_spec h; obtain ⟨j, hj, h⟩ := h
        have key : ∀ (m : Nat) (k : IntKind), d.av = .d (.int k m) → m < l → aggK cs j.ag n m (fun c => K c [] []) → FreeR P o S K := fun m k hk hml h => by
          have hk := (kop_st hd).trans (congrArg some hk)
          cases hag : j.ag with
          | false =>
            rw [hag] at h
            replace h := kk_spec h; obtain ⟨c', hc', h⟩ := h
            refine freeR_plain ?_ h
            exact free_index_agg ho (kop_st hc) hk ((hT _ _ hi).ar _ hr) hml (by rw [(hT _ _ hj).ag, hag]) (by rw [nth_avL, hc']; rfl)
          | true =>
            rw [hag] at h
            replace h := kif_spec h; obtain ⟨h1, h⟩ := h
            have h1 := Nat.le_of_ble_eq_true h1
            refine freeR_plain ?_ h
            have := free_index_agg2 ho (kop_st hc) hk ((hT _ _ hi).ar _ hr) hml (by rw [(hT _ _ hj).ag, hag]) (by rw [avL_len]; exact h1)
            simp only [KV.av, ← avL_drop, ← avL_take]
            exact this
        simp only at h
        split at h
        · rename_i m hn
          replace h := kif_spec h; obtain ⟨h1, h⟩ := h
          rw [Nat.blt_eq] at h1
          obtain ⟨k, hk⟩ := litN_spec hn
          exact key m k hk h1 h
        · replace h := kk_spec h; obtain ⟨⟨fl, k, m⟩, hn, h⟩ := h
          replace h : (0 ≤ m ∧ m < (Int.ofNat l)) ∧ _ := h; obtain ⟨⟨h2, h3⟩, h⟩ := h
          have h3 : m < (l : Int) := h3
          have h : casesN (primK P E base r post) m l 0 (fun q => aggK cs j.ag n q fun c => K c [] []) := h
          refine key m.toNat k ?_ (by omega) (casesN_spec h (by omega) (by omega))
          rw [numK_spec hn, Int.toNat_of_nonneg h2]
      · exact h.elim
  · rename_i ho
    replace h := kk_spec h; obtain ⟨c, hc, h⟩ := h
    replace h := kk_spec h; obtain ⟨d, hd, h⟩ := h
    obtain ⟨res, h1, h2⟩ := binK_spec hT ho (kop_st hc) (kop_st hd) h
    exact freeR_plain h1 h2
  · rename_i ho
    replace h := kk_spec h; obtain ⟨c, hc, h⟩ := h
    have hc := kop_st hc
    unfold notK at h
    split at h
    · refine freeR_plain ?_ h; exact free_not ho hc
    · refine freeR_plain (res := .ff) ?_ h; exact free_not ho hc
    · refine freeR_plain (res := .tt) ?_ h; exact free_not ho hc
    · exact h.elim
  · rename_i ho
    replace h := kk_spec h; obtain ⟨c, hc, h⟩ := h
    replace h := kk_spec h; obtain ⟨⟨f, k, m⟩, hn, h⟩ := h
    refine freeR_plain (res := .int k (k.wrap (0 - m))) ?_ h; exact free_neg ho ((kop_st hc).trans (congrArg some (numK_spec hn)))
  · rename_i f first cap ho
    split at h
    · rename_i hf
      replace h := kk_spec h; obtain ⟨cs, hc, h⟩ := h
      have : first = #[] := by apply Array.toList_inj.1; simp [hf]
      subst this
      refine freeR_plain (res := .fn f cs) ?_ h; exact free_makeFunc ho (opndL_mapM (kopL_spec hc))
    · exact h.elim
  · rename_i ho
    replace h := kk_spec h; obtain ⟨c, hc, h⟩ := h
    have hc := kop_st hc
    split at h
    · replace h := kk_spec h; obtain ⟨i, hi, h⟩ := h
      replace h := kk_spec h; obtain ⟨⟨off, n, ft⟩, hr, h⟩ := h
      replace h := kk_spec h; obtain ⟨j, hj, h⟩ := h
      have hr := (hT _ _ hi).fl _ _ hr
      have hj := hT _ _ hj
      cases hag : j.ag with
      | false =>
        rw [hag] at h
        replace h := kk_spec h; obtain ⟨c', hc', h⟩ := h
        refine freeR_plain ?_ h; exact free_field ho hc hr (hag ▸ hj.ag) (by rw [nth_avL, hc']; rfl)
      | true =>
        rw [hag] at h
        replace h := kif_spec h; obtain ⟨h1, h⟩ := h
        have := free_field_agg ho hc hr (hag ▸ hj.ag) (by rw [avL_len]; exact Nat.le_of_ble_eq_true h1)
        rw [avL_drop, avL_take] at this
        exact freeR_plain (res := .agg _) this h
    · exact h.elim
  · rename_i e x ho
    replace h := kk_spec h; obtain ⟨c, hc, h⟩ := h
    replace h := kk_spec h; obtain ⟨cs, hcs, h⟩ := h
    split at h
    · exact h.elim
    · rename_i hb
      refine ⟨.loc nb 0, [(nb, ⟨e, cs, true⟩)], [], ?_, h⟩
      refine free_box ho (kop_st hc) (cellsK_spec hcs) ?_
      have : ∀ l : List KV, KV.boxesL nb l = false → (KV.avL l).any (fun c => c.box nb) = false := by
        intro l
        induction l with
        | nil => intro _; rfl
        | cons y q ih =>
          intro hh
          simp only [KV.boxesL] at hh
          cases hy : y.boxes nb with
          | true => rw [hy] at hh; cases hh
          | false =>
            rw [hy] at hh
            simp only [KV.avL, List.any_cons, boxes_av, hy, Bool.false_or]
            exact ih hh
      exact this cs hb
  · rename_i e ho
    replace h := kk_spec h; obtain ⟨i, hi, h⟩ := h
    replace h := kk_spec h; obtain ⟨cs, hz, h⟩ := h
    exact ⟨.loc nb 0, [(nb, ⟨e, cs, true⟩)], [], free_alloc ho ((hT _ _ hi).z _ hz), h⟩
  · rename_i t parts ho
    replace h := kk_spec h; obtain ⟨i, hi, h⟩ := h
    replace h := kk_spec h; obtain ⟨z, hz, h⟩ := h
    replace h := kk_spec h; obtain ⟨pl, hpl, h⟩ := h
    replace h := kk_spec h; obtain ⟨ps, hps, h⟩ := h
    replace h := kk_spec h; obtain ⟨cs, hcs, h⟩ := h
    have hi := hT _ _ hi
    refine freeR_plain (res := .agg cs) ?_ h; exact free_build ho (hi.z _ hz) (hi.pl _ hpl) (partsK_spec hps) (fillK_spec hcs)
  · rename_i t len parts ho
    replace h := kk_spec h; obtain ⟨i, hi, h⟩ := h
    replace h := kk_spec h; obtain ⟨⟨e, sz⟩, hr, h⟩ := h
    replace h := kk_spec h; obtain ⟨j, hj, h⟩ := h
    replace h := kk_spec h; obtain ⟨zc, hz, h⟩ := h
    replace h := kif_spec h; obtain ⟨h1, h⟩ := h
    replace h := kif_spec h; obtain ⟨h2, h⟩ := h
    have hi := hT _ _ hi
    have hj := hT _ _ hj
    have hr := hi.el _ hr
    have hz := hj.z _ hz
    simp only at h1 h2 hz h
    split at h
    · split at h
      · rename_i hp
        have hps : partsA S.st.T parts.toList = some [] := by rw [hp]; rfl
        split at h
        · refine freeR_plain (res := .slr true sz []) ?_ h
          exact free_buildSlice_d (rows := []) ho hr hz h1 hps rfl rfl (by simp [fillA]) h2
        · replace h := kif_spec h; obtain ⟨h0, h⟩ := h
          rw [Nat.blt_eq] at h0
          exact ⟨.osl nb, [], [(nb, ⟨e, sz, [], true, true⟩)], free_buildSlice (rows := []) ho h0 hr hz h1 hps rfl rfl (by simp [fillA]) h2, h⟩
      · exact h.elim
    · rename_i n
      replace h := kk_spec h; obtain ⟨ps, hps, h⟩ := h
      replace h := kk_spec h; obtain ⟨cells, hcells, h⟩ := h
      replace h := kif_spec h; obtain ⟨h3, h⟩ := h
      replace h := kif_spec h; obtain ⟨h4, h⟩ := h
      have h4 := Nat.eq_of_beq_eq_true h4
      have hf := fillK_spec hcells
      rw [anys_spec] at hf
      obtain ⟨t1, t2, t3⟩ := toRows_spec (sz := sz) (n := n + 1) (l := KV.toDL cells) (by rw [toDL_len]; exact h4)
      refine freeR_plain (res := .slr true sz (chunks sz (n + 1) cells)) ?_ h
      have := free_buildSlice_d (rows := toRows sz (n + 1) (KV.toDL cells)) ho hr hz h1 (show partsA S.st.T _ = _ from partsK_spec hps) t2 t3 (by rw [hf, t1, allD_av h3]) h2
      rw [← chunks_spec] at this
      exact this
  · rename_i t x y ho
    replace h := kk_spec h; obtain ⟨c, hc, h⟩ := h
    replace h := kk_spec h; obtain ⟨d, hd, h⟩ := h
    replace h := kk_spec h; obtain ⟨⟨fa, ka, a⟩, ha, h⟩ := h
    replace h := kk_spec h; obtain ⟨⟨fb, kb, b⟩, hb, h⟩ := h
    replace h := kk_spec h; obtain ⟨i, hi, h⟩ := h
    replace h := kk_spec h; obtain ⟨⟨e, sz⟩, hr, h⟩ := h
    replace h := kk_spec h; obtain ⟨j, hj, h⟩ := h
    replace h := kk_spec h; obtain ⟨z, hz, h⟩ := h
    replace h := kif_spec h; obtain ⟨h1, h⟩ := h
    replace h := kif_spec h; obtain ⟨h2, h⟩ := h
    replace h := kif_spec h; obtain ⟨h3, h⟩ := h
    replace h : a = b ∧ _ := h; obtain ⟨h4, h⟩ := h
    replace h : (0 ≤ a ∧ (j.bytes : Int) * a ≤ 281474976710656 ∧ a ≤ 9223372036854775807) ∧ _ := h; obtain ⟨⟨h5, h6, h7⟩, h⟩ := h
    have h2 := Nat.eq_of_beq_eq_true h2
    rw [Nat.blt_eq] at h3
    subst h4
    have hi := hT _ _ hi
    have hj := hT _ _ hj
    have hz := hj.z _ hz
    rw [allD_av h1] at hz
    have := free_makeSlice (id := nb) ho (hi.el _ hr) hz (by rw [toDL_len]; exact h2) h3 hj.bytes ((kop_st hc).trans (congrArg some (numK_spec ha))) ((kop_st hd).trans (congrArg some (numK_spec hb))) h5 h6 h7
    rw [← reps_rows a.toNat z sz (by rw [← lenK_eq]; exact h2)] at this
    exact ⟨.osl nb, [], [(nb, ⟨e, sz, _, true, true⟩)], this, h⟩
  · rename_i t x low high ho
    replace h := kk_spec h; obtain ⟨c, hc, h⟩ := h
    replace h := kk_spec h; obtain ⟨i, hi, h⟩ := h
    split at h
    · rename_i clip sz α dd l f
      replace h := kk_spec h; obtain ⟨⟨e, n⟩, hr, h⟩ := h
      replace h := kif_spec h; obtain ⟨h1, h⟩ := h
      have h1 := Nat.eq_of_beq_eq_true h1
      simp only at h1; subst h1
      replace h := kk_spec h; obtain ⟨lo, hlo, h⟩ := h
      replace h := kk_spec h; obtain ⟨hi', hhi, h⟩ := h
      replace h : (0 ≤ lo) ∧ (lo ≤ hi') ∧ (hi' ≤ (plenN [KP.ls α dd l f] : Int)) ∧ _ := h; obtain ⟨h2, h3, h4, h⟩ := h
      have hpl : plenN [KP.ls α dd l f] = l.length := by simp [plenN]
      rw [hpl] at h4
      refine freeR_plain (res := .sl false n α dd ((l.take hi'.toNat).drop lo.toNat) f) ?_ h
      have b1 : BoundIs S.st.T low 0 lo.toNat := by
        split at hlo
        · cases hlo; exact .inl ⟨rfl, rfl⟩
        · split at hlo
          · rename_i y v hv
            split at hlo
            · rename_i q hq
              obtain ⟨fl, k, m⟩ := q
              simp only [Option.some.injEq] at hlo
              subst hlo
              exact .inr ⟨_, k, rfl, by rw [Int.toNat_of_nonneg h2]; exact (kop_st hv).trans (congrArg some (numK_spec hq))⟩
            · cases hlo
          · cases hlo
      have b2 : BoundIs S.st.T high (l.map fun a => rowD n 0 fun j => (f a j).toD).length hi'.toNat := by
        split at hhi
        · simp only [Option.some.injEq] at hhi
          have : hi' = (l.length : Int) := by rw [← hhi]; exact congrArg _ hpl
          exact .inl ⟨rfl, by rw [this, List.length_map]; rfl⟩
        · split at hhi
          · rename_i y v hv
            split at hhi
            · rename_i q hq
              obtain ⟨fl, k, m⟩ := q
              simp only [Option.some.injEq] at hhi
              subst hhi
              exact .inr ⟨_, k, rfl, by rw [Int.toNat_of_nonneg (Int.le_trans h2 h3)]; exact (kop_st hv).trans (congrArg some (numK_spec hq))⟩
            · cases hhi
          · cases hhi
      have := free_slice ho (kop_st hc) ((hT _ _ hi).el _ hr) b1 b2 (by omega) (by rw [List.length_map]; omega)
      rw [← List.map_take, ← List.map_drop] at this
      exact this
    · exact h.elim
  · rename_i t ho
    exact ⟨.osl nb, [], [(nb, ⟨0, 0, [], true, true⟩)], free_makeMap ho, h⟩
  · rename_i t x k comma ho
    replace h := kk_spec h; obtain ⟨c, hc, h⟩ := h
    replace h := kk_spec h; obtain ⟨kc, hk, h⟩ := h
    replace h := kk_spec h; obtain ⟨ti, hi, h⟩ := h
    replace h := kk_spec h; obtain ⟨⟨kt, et⟩, hr, h⟩ := h
    replace h := kk_spec h; obtain ⟨ki, hki, h⟩ := h
    replace h := kk_spec h; obtain ⟨ei, hei, h⟩ := h
    replace h := kk_spec h; obtain ⟨z, hz, h⟩ := h
    replace h := kk_spec h; obtain ⟨ps, hps, h⟩ := h
    replace h := kif_spec h; obtain ⟨hd, h⟩ := h
    obtain ⟨d, g1, g2, g3, v, b, g4, rfl, h⟩ := h
    have key := fun comma => free_lookup (P := P) (o := { o with op := .lookup t x k comma }) (S := S.st) rfl ((hT _ _ hi).mp _ hr) (unT_spec (hT _ _ hki) g1) ((hT _ _ hei).zv _ hz) (kop_st hc) (mapPs_spec hps) ((kop_st hk).trans (congrArg some (KV.isD_av hd))) g2 g3
    have ho' : o = { o with op := .lookup t x k comma } := by rw [← ho]
    rw [ho']
    split at h
    · refine freeR_plain (res := .tup [v, .bool _]) ?_ h
      simp only [KV.av, KV.avL, g4]; exact key true
    · refine freeR_plain (res := v) ?_ h
      rw [g4]; exact key false
  · rename_i t x ho
    replace h := kk_spec h; obtain ⟨c, hc, h⟩ := h
    replace h := kk_spec h; obtain ⟨ti, hi, h⟩ := h
    replace h := kk_spec h; obtain ⟨⟨kt, et⟩, hr, h⟩ := h
    split at h
    · rename_i α dd l f
      refine ⟨.osl nb, [], [(nb, _)], ?_, h⟩
      have := free_range (P := P) (id := nb) ho ((hT _ _ hi).mp _ hr) (kop_st hc)
      simpa [mapH, mapO, KRow.row, rowsD, KP.rows, KV.toDLL, KV.toDL, KV.toD, KV.av] using this
    · exact h.elim
  · rename_i s d x ho
    replace h := kk_spec h; obtain ⟨c, hc, h⟩ := h
    replace h := kk_spec h; obtain ⟨si, hsi, h⟩ := h
    replace h := kk_spec h; obtain ⟨di, hdi, h⟩ := h
    have hs := (hT _ _ hsi).sz
    have hd := hT _ _ hdi
    have hsd : ∃ sd, P.underlying s = some sd := by
      have := (hT _ _ hsi).ag
      unfold isAggT at this
      cases hu : P.underlying s with
      | none => rw [hu] at this; cases this
      | some sd => exact ⟨sd, rfl⟩
    obtain ⟨sd, hsd⟩ := hsd
    split at h
    · split at h
      · rename_i hu
        refine freeR_plain (res := .int _ _) ?_ h; exact free_conv ho (kop_st hc) hsd (hd.int _ hu)
      · exact h.elim
    · split at h
      · rename_i hu
        replace h := kif_spec h; obtain ⟨h1, h⟩ := h
        refine freeR_plain (res := .lit _ _) ?_ h; exact free_conv ho (kop_st hc) hsd (hd.int _ hu)
      · exact h.elim
    · exact h.elim
  · rename_i c ho
    obtain ⟨callee, args, ts⟩ := c
    simp only at h
    split at h
    · exact callK_spec ho h
    · split at h
      · exact appOK_spec hT ho h
      · split at h
        · obtain ⟨res, h1, h2⟩ := appNK_spec hT ho h
          exact freeR_plain h1 h2
        · obtain ⟨res, h1, h2⟩ := appK_spec hT ho h
          exact freeR_plain h1 h2
    · obtain ⟨res, h1, h2⟩ := builtK_spec hT ho h
      exact freeR_plain h1 h2
    · exact h.elim
  · exact h.elim
end Go.Proofs.Ytnekemldcjegaaa.Aw

/- The logic of abstract walks, part M5: regions and code by evaluation. -/
namespace Go.Proofs.Ytnekemldcjegaaa.Aw
open Go Go.RowKit
set_option linter.unusedVariables false
set_option linter.unusedSimpArgs false
universe u
variable {P : Program} {E : Env P} {base : Nat} {r : Option Nat} {post : KV → List KRow → Prop} {tb : Nat → Option TI}
theorem freeT_spec {b : Nat} : ∀ {T : List (Nat × KV)}, freeT b T = true → (mapT T).any (fun p => p.2.box b) = false
  | [], _ => rfl
  | (t, c) :: q, h => by
    simp only [freeT] at h
    cases hc : c.boxes b with
    | true => rw [hc] at h; cases h
    | false => rw [hc] at h; simp only [mapT, List.any_cons, boxes_av, hc, Bool.false_or]; exact freeT_spec h
theorem boxesL_any {b : Nat} : ∀ {l : List KV}, KV.boxesL b l = false → (KV.avL l).any (fun c => c.box b) = false
  | [], _ => rfl
  | c :: q, h => by
    simp only [KV.boxesL] at h
    cases hc : c.boxes b with
    | true => rw [hc] at h; cases h
    | false => rw [hc] at h; simp only [KV.avL, List.any_cons, boxes_av, hc, Bool.false_or]; exact boxesL_any h
theorem freeH_spec {b : Nat} : ∀ {T : List (Nat × KBlk)}, freeH b T = true → memN b (keys (mapH T)) = false ∧ (mapH T).any (fun p => p.2.cells.any fun c => c.box b) = false
  | [], _ => ⟨rfl, rfl⟩
  | (k, B) :: q, h => by
    simp only [freeH] at h
    cases hk : Nat.beq k b with
    | true => rw [hk] at h; cases h
    | false =>
      rw [hk] at h
      cases hc : KV.boxesL b B.cells with
      | true => rw [hc] at h; cases h
      | false =>
        rw [hc] at h
        obtain ⟨h1, h2⟩ := freeH_spec h
        refine ⟨?_, ?_⟩
        · simp only [mapH, keys, memN, nbeq, hk, h1, Bool.or_self]
        · simp only [mapH, List.any_cons, h2, Bool.or_false]; exact boxesL_any hc
theorem freeRT_spec {b : Nat} : ∀ {T : List (Nat × KV)}, freeRT b T = true → (mapT T).any (fun p => p.2.hasRow b) = false
  | [], _ => rfl
  | (t, c) :: q, h => by
    simp only [freeRT] at h
    cases hc : c.hasRow b with
    | true => rw [hc] at h; cases h
    | false => rw [hc] at h; simp only [mapT, List.any_cons, hasRow_av, hc, Bool.false_or]; exact freeRT_spec h
theorem hasRowL_any {b : Nat} : ∀ {l : List KV}, KV.hasRowL b l = false → (KV.avL l).any (fun c => c.hasRow b) = false
  | [], _ => rfl
  | c :: q, h => by
    simp only [KV.hasRowL] at h
    cases hc : c.hasRow b with
    | true => rw [hc] at h; cases h
    | false => rw [hc] at h; simp only [KV.avL, List.any_cons, hasRow_av, hc, Bool.false_or]; exact hasRowL_any h
theorem freeRH_spec {b : Nat} : ∀ {T : List (Nat × KBlk)}, freeRH b T = true → (mapH T).any (fun p => p.2.cells.any fun c => c.hasRow b) = false
  | [], _ => rfl
  | (k, B) :: q, h => by
    simp only [freeRH] at h
    cases hc : KV.hasRowL b B.cells with
    | true => rw [hc] at h; cases h
    | false => rw [hc] at h; simp only [mapH, List.any_cons, freeRH_spec h, Bool.or_false]; exact hasRowL_any hc
theorem freeRO_spec {b : Nat} : ∀ {T : List (Nat × KRow)}, freeRO b T = true → memN b (keys (mapO T)) = false
  | [], _ => rfl
  | (k, B) :: q, h => by
    simp only [freeRO] at h
    cases hk : Nat.beq k b with
    | true => rw [hk] at h; cases h
    | false => rw [hk] at h; simp only [mapO, keys, memN, nbeq, hk, freeRO_spec h, Bool.or_self]
theorem freshKH_spec {S : KSt} : ∀ {nh : List (Nat × KBlk)}, freshKH S nh = true → ∀ b ∈ keys (mapH nh), usesBox S.st b = false ∧ S.low ≤ b
  | [], _, b, hb => by cases hb
  | (k, B) :: q, h, b, hb => by
    simp only [freshKH, Bool.and_eq_true] at h
    obtain ⟨⟨⟨h1, h2⟩, h3⟩, h4⟩ := h
    rcases List.mem_cons.1 hb with e | hb
    · subst e
      obtain ⟨e1, e2⟩ := freeH_spec h3
      exact ⟨by simp only [usesBox, KSt.st, e1, freeT_spec h2, e2, Bool.or_self], Nat.le_of_ble_eq_true h1⟩
    · exact freshKH_spec h4 b hb
theorem freshKO_spec {S : KSt} : ∀ {no : List (Nat × KRow)}, freshKO S no = true → ∀ b ∈ keys (mapO no), usesRow S.st b = false ∧ S.low ≤ b
  | [], _, b, hb => by cases hb
  | (k, B) :: q, h, b, hb => by
    simp only [freshKO, Bool.and_eq_true] at h
    obtain ⟨⟨⟨⟨h1, h2⟩, h3⟩, h5⟩, h4⟩ := h
    rcases List.mem_cons.1 hb with e | hb
    · subst e
      exact ⟨by simp only [usesRow, KSt.st, freeRO_spec h5, freeRT_spec h2, freeRH_spec h3, Bool.or_self], Nat.le_of_ble_eq_true h1⟩
    · exact freshKO_spec h4 b hb
theorem freshK_spec {S : KSt} {nh : List (Nat × KBlk)} {no : List (Nat × KRow)} (h1 : freshKH S nh = true) (h2 : freshKO S no = true) : Fresh S.st (mapH nh) (mapO no) :=
  ⟨fun b hb => (freshKH_spec h1 b hb).1, fun b hb => (freshKO_spec h2 b hb).1, fun b hb => (freshKH_spec h1 b hb).2, fun b hb => (freshKO_spec h2 b hb).2⟩
theorem freshKB_spec {S : KSt} {nh : List (Nat × KBlk)} {no : List (Nat × KRow)} (h1 : freshKH S nh = true) (h2 : freshKO S no = true) : freshB S.st (mapH nh) (mapO no) = true := by
  have := freshK_spec h1 h2
  simp only [freshB, Bool.and_eq_true, List.all_eq_true, Bool.not_eq_true', Nat.ble_eq]
  exact ⟨fun b hb => ⟨this.box b hb, this.bl b hb⟩, fun b hb => ⟨this.row b hb, this.rl b hb⟩⟩
theorem dstK_spec {S : KSt} {d : Option Nat} (h : dstK S d = true) : dstOk S.st d = true := by
  cases d with
  | none => rfl
  | some t => exact h
theorem forgT_spec (id : Nat) : ∀ (T : List (Nat × KV)), mapT (forgT id T) = forgetT id (mapT T)
  | [] => rfl
  | (t, c) :: q => by
    simp only [forgT, mapT, forgetT, AV.forget, hasRow_av]
    cases c.hasRow id <;> simp only [mapT, forgT_spec id q, KV.av]
theorem forgL_spec (id : Nat) : ∀ (l : List KV), KV.avL (forgL id l) = forgetL id (KV.avL l)
  | [] => rfl
  | c :: q => by
    simp only [forgL, KV.avL, forgetL, AV.forget, hasRow_av]
    cases c.hasRow id <;> simp only [KV.avL, forgL_spec id q, KV.av]
theorem forgH_spec (id : Nat) : ∀ (H : List (Nat × KBlk)), mapH (forgH id H) = forgetH id (mapH H)
  | [] => rfl
  | (b, B) :: q => by simp only [forgH, mapH, forgetH, KBlk.blk, forgL_spec, forgH_spec id q]
theorem rowsD_app (sz : Nat) : ∀ (a b : List KP), rowsD sz (a ++ b) = rowsD sz a ++ rowsD sz b
  | [], b => rfl
  | p :: q, b => by simp [rowsD, rowsD_app sz q b]
theorem joinP_rows (sz : Nat) (a b : List KP) : rowsD sz (joinP a b) = rowsD sz a ++ rowsD sz b := by
  unfold joinP
  split
  · simp [rowsD, KP.rows, toDLL_map]
  · exact rowsD_app sz a b
theorem lit_leq {S : KSt} {t : Nat} {b : Bool} {c v : KV} (h : lk S.T t = some c) (hc : c.av = .d (.bool b)) (hv : v.av = .d (.bool b)) : Leq S.st (S.lit (.tmp t) v).st := by
  refine ⟨rfl, rfl, fun u => ?_, fun _ => rfl, fun _ => rfl⟩
  simp only [KSt.lit, KSt.st, mapT, look]
  by_cases e : t = u
  · subst e; rw [if_pos rfl, look_mapT, h, hv]; simp [hc]
  · rw [if_neg e]
theorem wantK_spec {ops : Array Oper} {S : KSt} {o : Oper} {A B : KSt → Prop} (h : wantK (primK P E base r post) ops.toList S o A B) :
    ∃ S', Leq S.st S'.st ∧ ((guardB ops S'.st.T o = some true ∧ A S') ∨ (guardB ops S'.st.T o = some false ∧ B S')) := by
  unfold wantK at h
  split at h
  · rename_i hg; exact ⟨S, Leq.refl _, .inl ⟨by simp [guardB, hg], h⟩⟩
  · rename_i j want hg
    replace h := kk_spec h; obtain ⟨o', h1, h⟩ := h
    replace h := kk_spec h; obtain ⟨t, h2, h⟩ := h
    replace h := kk_spec h; obtain ⟨c, h3, h⟩ := h
    rw [nth_eq, Array.getElem?_toList] at h1
    have gd : ∀ (S' : KSt) (b : Bool), look S'.st.T t = some (.d (.bool b)) → guardB ops S'.st.T o = some (b == want) := fun S' b hb => by
      simp only [guardB, hg, h1, Option.bind_some, h2, hb]
    have hl : look S.st.T t = some c.av := by rw [st_look, h3]; rfl
    split at h
    · have := gd S true hl
      cases want with
      | true => exact ⟨S, Leq.refl _, .inl ⟨this, h⟩⟩
      | false => exact ⟨S, Leq.refl _, .inr ⟨this, h⟩⟩
    · have := gd S false hl
      cases want with
      | true => exact ⟨S, Leq.refl _, .inr ⟨this, h⟩⟩
      | false => exact ⟨S, Leq.refl _, .inl ⟨this, h⟩⟩
    · rename_i b
      have key : ∀ v : KV, v.av = .d (.bool b) → Leq S.st (S.lit (.tmp t) v).st ∧ guardB ops (S.lit (.tmp t) v).st.T o = some (b == want) := fun v hv =>
        ⟨lit_leq h3 rfl hv, gd _ b (by simp only [KSt.lit, KSt.st, mapT, look, if_true, hv])⟩
      cases b with
      | true =>
        obtain ⟨e1, e2⟩ := key .tt rfl
        cases want with
        | true => exact ⟨_, e1, .inl ⟨e2, h.1 rfl⟩⟩
        | false => exact ⟨_, e1, .inr ⟨e2, h.1 rfl⟩⟩
      | false =>
        obtain ⟨e1, e2⟩ := key .ff rfl
        cases want with
        | true => exact ⟨_, e1, .inr ⟨e2, h.2 rfl⟩⟩
        | false => exact ⟨_, e1, .inl ⟨e2, h.2 rfl⟩⟩
    · refine ⟨S, Leq.refl _, .inr ⟨?_, h⟩⟩
      have hl : look S.st.T t = some (.tup []) := hl
      simp only [guardB, hg, h1, Option.bind_some, h2, hl]
    · exact h.elim
theorem Bar_leq {o : Oper} {S S' S'' : St} {s s' : E.σ} (h : Bar E o S s S' s') (hl : Leq S' S'') : Bar E o S s S'' s' := fun r base M a w hc K Q hK =>
  h r base M a w hc K Q fun v w' M' hc' hx => hK v w' M' (hc'.leq hl) (hx.trans (hl.ext M' w'))
/-- Is it a call of a function value? -/
def isVal (o : Oper) : Prop := (∃ f args ts, o.op = .call ⟨.value f, args, ts⟩) ∨ ∃ x b, o.op = .next x b
theorem okDat_av {c : KV} (h : okDat c = true) : c.av = toAV c.toD := by
  unfold okDat at h
  split at h
  · simp only [KV.toD, toAV, KV.av, allD_av h]
  · rw [KV.isD_av h]
    have := KV.isD_agg h
    cases hx : c.toD with
    | agg l => exact absurd hx (this l)
    | _ => rfl
theorem okDat_rd {c : KV} (h : okDat c = true) {w : World} {ok : Nat → Prop} {μ : Nat → Option Nat} {ν : Nat → Option Value} {yl : Nat} {v : Value} (hv : RdA w ok μ ν yl c.av v) : Rd w ok c.toD v := by
  unfold okDat at h
  split at h
  · rename_i cs
    rw [KV.av, allD_av h] at hv
    rw [KV.toD]
    cases hv with
    | agg _ vs hl h1 hh =>
      refine .agg _ vs (by simpa using hl) h1 (fun i c v hc hv => ?_)
      have := hh i (.d c) v (by rw [List.getElem?_map, hc]; rfl) hv
      cases this with | d h => exact h
  · rw [KV.isD_av h] at hv
    cases hv with | d h => exact h
theorem putS_k {S : KSt} {id : Nat} {R : KRow} {ps : List KP} {rows : List (List D)} (h : rowsD R.sz ps = rows) : putS S.st id R.row rows = KSt.st ⟨S.n, S.T, S.H, stA S.O id ⟨R.e, R.sz, ps, R.nn, true⟩, S.low⟩ := by
  subst h
  simp only [putS, KSt.st]
  rw [← setA_mapO]; rfl
theorem barK_next {o : Oper} {S : KSt} {s : E.σ} {nb : Nat} {x : Operand} {b : Bool} (hop : o.op = .next x b) {K : KSt → E.σ → Prop} (h : barK (primK P E base r post) tb o S s nb K) : BarN E o S.st s (fun X s' => ∃ S' : KSt, X = S'.st ∧ K S' s') := by
  unfold barK at h
  rw [hop] at h
  simp only at h
  split at h
  · exact h.elim
  replace h := kif_spec h; obtain ⟨hd, h⟩ := h
  replace h := kk_spec h; obtain ⟨c, hc, h⟩ := h
  split at h
  · rename_i id
    replace h := kk_spec h; obtain ⟨R, hR, h⟩ := h
    replace h := kif_spec h; obtain ⟨hb, h⟩ := h
    simp only [Bool.and_eq_true, Bool.not_eq_true'] at hb
    obtain ⟨⟨hl, hs⟩, hn⟩ := hb
    have hs := Nat.eq_of_beq_eq_true hs
    have hR' : look S.st.O id = some R.row := by rw [st_lookO, hR]; rfl
    split at h
    · rename_i m α dd l f hps
      split at h
      · rename_i α' d' l' f'
        obtain ⟨he, hk⟩ := h
        have hrows : R.row.rows = [.map (l'.map fun a => rowD 2 0 fun j => (f' a j).toD), .bool false] :: ([] ++ l.map fun a => rowD 2 0 fun j => (f a j).toD) := by
          show rowsD R.sz R.ps = _
          rw [hps]; simp [rowsD, KP.rows, KV.toDLL, KV.toDL, KV.toD]
        refine barN_next (t := 0) hop (kop_st hc) hR' hs hn hl hrows rfl (dstK_spec hd) (fun h0 => ?_) (fun i k v hi => ?_)
        · have := he (List.map_eq_nil_iff.1 h0)
          exact ⟨_, by rw [KSt.add_st]; rfl, this⟩
        · rw [List.getElem?_map] at hi
          cases hx : l[i]? with
          | none => rw [hx] at hi; cases hi
          | some y =>
            rw [hx] at hi
            simp only [Option.map_some, rowD, Option.some.injEq, List.cons.injEq, and_true] at hi
            obtain ⟨rfl, rfl⟩ := hi
            have h1 := kif_spec (hk i y hx); obtain ⟨h2, h1⟩ := h1
            simp only [Bool.and_eq_true] at h2
            refine ⟨_, ?_, h1⟩
            rw [KSt.add_st, ← putS_k (rows := [.map (l'.map fun a => rowD 2 0 fun j => (f' a j).toD), .bool true] :: [(f y 0).toD, (f y 1).toD] :: (l.map fun a => rowD 2 0 fun j => (f a j).toD).eraseIdx i) (by simp [rowsD, KP.rows, KV.toDLL, KV.toDL, KV.toD, ChangeMaps.map_eraseIdx])]
            simp only [KV.av, KV.avL, okDat_av h2.1, okDat_av h2.2, mapH, mapO]
      · exact h.elim
    · exact h.elim
  · exact h.elim
theorem barK_bar {o : Oper} {S : KSt} {s : E.σ} {nb : Nat} (hT : ∀ t i, tb t = some i → TIOk P t i) {K : KSt → E.σ → Prop}
    (hbar : ¬ isVal o) (h : barK (primK P E base r post) tb o S s nb K) : ∃ S' s', Bar E o S.st s S'.st s' ∧ K S' s' := by
  unfold barK at h
  split at h
  · rename_i t p x hop
    replace h := kk_spec h; obtain ⟨c, hc, h⟩ := h
    replace h := kk_spec h; obtain ⟨d, hd, h⟩ := h
    replace h := kk_spec h; obtain ⟨cs, hcs, h⟩ := h
    replace h := kk_spec h; obtain ⟨ti, hi, h⟩ := h
    replace h := kif_spec h; obtain ⟨h1, h⟩ := h
    have h1 := Nat.eq_of_beq_eq_true h1
    split at h
    · exact h.elim
    · rename_i hdst
      split at h
      · rename_i b off
        replace h := kk_spec h; obtain ⟨B, hB, h⟩ := h
        replace h := kif_spec h; obtain ⟨h2, h⟩ := h
        replace h := kif_spec h; obtain ⟨h3, h⟩ := h
        have hB' : look S.st.H b = some B.blk := by rw [st_lookH, hB]; rfl
        have := bar_store (s := s) hop hdst (kop_st hc) hB' h2 (kop_st hd) (cellsK_spec hcs) (by rw [(hT _ _ hi).sz, h1, avL_len]) (by rw [avL_len, show B.blk.cells = KV.avL B.cells from rfl, avL_len]; exact h3)
        refine ⟨_, _, ?_, h⟩
        have e2 : setBox S.st b ⟨B.blk.e, putL B.blk.cells off (KV.avL cs), true⟩ = KSt.st ⟨S.n, S.T, stA S.H b ⟨B.e, putK B.cells off cs, true⟩, S.O, S.low⟩ := by
          simp only [setBox, KSt.st]
          rw [← setA_mapH]; simp only [KBlk.blk, putK_spec]
        rw [← e2]; exact this
      · rename_i id sz ix j
        replace h := kk_spec h; obtain ⟨R, hR, h⟩ := h
        replace h := kif_spec h; obtain ⟨h2, h⟩ := h
        simp only [Bool.and_eq_true] at h2
        obtain ⟨h2, h3⟩ := h2
        have h3 := Nat.eq_of_beq_eq_true h3
        subst h3
        replace h := kif_spec h; obtain ⟨h4, h⟩ := h
        have h4 := Nat.le_of_ble_eq_true h4
        replace h := kif_spec h; obtain ⟨h5, h⟩ := h
        replace h : (0 ≤ ix ∧ ix < (plenN R.ps : Int)) ∧ ∃ ps', rowsD R.sz ps' = (rowsD R.sz R.ps).set ix.toNat (putG ((rowsD R.sz R.ps).getD ix.toNat []) j (KV.toDL cs)) ∧ K ⟨S.n, S.T, S.H, stA S.O id ⟨R.e, R.sz, ps', R.nn, true⟩, S.low⟩ s := h
        obtain ⟨⟨h6, h7⟩, ps', h8, h⟩ := h
        have hR' : look S.st.O id = some R.row := by rw [st_lookO, hR]; rfl
        have hlen : ix.toNat < (rowsD R.sz R.ps).length := by rw [plenN_spec]; omega
        have := bar_storeRow (s := s) (ds := KV.toDL cs) (row := (rowsD R.sz R.ps)[ix.toNat]) (i := ix.toNat) (R := R.row) hop hdst (kop_st hc) hR' h2 (kop_st hd) (by rw [cellsK_spec hcs, allD_av h5]) (by rw [(hT _ _ hi).sz, h1, toDL_len]) (by show (rowsD R.sz R.ps)[ix.toNat]? = _; simp [hlen]) (by rw [toDL_len]; exact h4)
        refine ⟨_, _, ?_, h⟩
        have e2 : putS S.st id R.row (R.row.rows.set ix.toNat (putG (rowsD R.sz R.ps)[ix.toNat] j (KV.toDL cs))) = KSt.st ⟨S.n, S.T, S.H, stA S.O id ⟨R.e, R.sz, ps', R.nn, true⟩, S.low⟩ := by
          simp only [putS, KSt.st]
          rw [← setA_mapO]
          simp only [KRow.row, h8]
          rw [List.getD_eq_getElem?_getD, List.getElem?_eq_getElem hlen]; rfl
        rw [← e2]; exact this
      · exact h.elim
  · rename_i c hop
    obtain ⟨callee, args, ts⟩ := c
    simp only at h
    split at h
    · split at h
      · rename_i x y t t' h1 h2
        have e1 : args = #[x, y] := by apply Array.toList_inj.1; simp [h1]
        have e2 : ts = #[t, t'] := by apply Array.toList_inj.1; simp [h2]
        subst e1 e2
        replace h := kif_spec h; obtain ⟨ht, h⟩ := h
        have ht := Nat.eq_of_beq_eq_true ht
        subst ht
        replace h := kif_spec h; obtain ⟨hd, h⟩ := h
        have hd := dstK_spec hd
        replace h := kk_spec h; obtain ⟨c, hc, h⟩ := h
        replace h := kk_spec h; obtain ⟨d, hy, h⟩ := h
        replace h := kk_spec h; obtain ⟨ti, hi, h⟩ := h
        replace h := kk_spec h; obtain ⟨⟨e, sz⟩, hr, h⟩ := h
        replace h := kk_spec h; obtain ⟨j, hj, h⟩ := h
        replace h := kk_spec h; obtain ⟨zc, hz, h⟩ := h
        replace h := kif_spec h; obtain ⟨hzs, h⟩ := h
        replace h := kif_spec h; obtain ⟨hpos, h⟩ := h
        have hzs := Nat.eq_of_beq_eq_true hzs
        have hi := hT _ _ hi
        have hj := hT _ _ hj
        have hr := hi.el _ hr
        have hz := hj.z _ hz
        replace hy := kop_st hy
        replace hc := kop_st hc
        simp only at hzs hpos hz hj h
        split at h
        · rename_i id
          replace h := kk_spec h; obtain ⟨R, hR, h⟩ := h
          replace h := kif_spec h; obtain ⟨h3, h⟩ := h
          simp only [Bool.and_eq_true] at h3
          obtain ⟨⟨h3, h4⟩, h5⟩ := h3
          have h4 := Nat.eq_of_beq_eq_true h4
          have h5 := Nat.eq_of_beq_eq_true h5
          replace h := kk_spec h; obtain ⟨news, hs, h⟩ := h
          replace h : (plenN (joinP R.ps news) * j.bytes ≤ 140737488355328 ∧ plenN (joinP R.ps news) ≤ 140737488355328) ∧ _ := h; obtain ⟨⟨h6, h7⟩, h⟩ := h
          have hR' : look S.st.O id = some R.row := by rw [st_lookO, hR]; rfl
          have hlen : R.row.rows.length + (rowsD R.sz news).length = plenN (joinP R.ps news) := by
            rw [← plenN_spec R.sz, joinP_rows, List.length_append]; rfl
          have := bar_append (s := s) hop hc hR' h3 (by rw [show R.row.e = R.e from rfl, show R.row.sz = R.sz from rfl, h4, h5]; exact hr) (by rw [show R.row.e = R.e from rfl, h4]; exact hz) (by rw [avL_len, show R.row.sz = R.sz from rfl, h5]; exact hzs) (by rw [show R.row.sz = R.sz from rfl, h5]; exact hpos)
            (by rw [show R.row.e = R.e from rfl, h4]; exact hj.bytes) hy (srcK_spec hs) (by rw [← hlen] at h6; exact h6) (by rw [← hlen] at h7; exact h7) hd
          refine ⟨_, _, Bar_leq (Bar_leq this (appS_leq _ _ _ _)) ?_, h⟩
          refine ⟨rfl, rfl, fun u => ?_, fun u => ?_, fun u => ?_⟩
          · simp only [KSt.st]
            cases o.dst with
            | none => rw [forgT_spec]; rfl
            | some v => simp only [setD, look_setT, mapT, look, forgT_spec]; rfl
          · simp only [KSt.st, forgH_spec]
          · simp only [KSt.st, ← setA_mapO]
            rw [show (KRow.row ⟨R.e, R.sz, joinP R.ps news, R.nn, true⟩) = ⟨R.row.e, R.row.sz, R.row.rows ++ rowsD R.sz news, R.row.nn, true⟩ from by simp only [KRow.row, joinP_rows]]
            rfl
        · replace h := kk_spec h; obtain ⟨news, hs, h⟩ := h
          replace h : (plenN news * j.bytes ≤ 140737488355328 ∧ plenN news ≤ 140737488355328) ∧ _ := h; obtain ⟨⟨h6, h7⟩, h⟩ := h
          replace h := kif_spec h; obtain ⟨hf, h⟩ := h
          have hs' : srcRows { S.st with O := (nb, ⟨e, sz, [], false, true⟩) :: S.st.O } nb sz d.av = some (rowsD sz news) := by
            have h0 := srcK_spec hs
            unfold srcK at hs
            split at hs
            all_goals first | exact h0 | (cases hs; done) | skip
            · rename_i id'
              split at hs
              · rename_i R hR
                split at hs
                · rename_i he
                  simp only [Bool.and_eq_true] at he
                  have hne : ¬ nb = id' := fun e => by
                    subst e
                    have := he.2
                    simp at this
                  simp only [srcRows, KV.av, look, if_neg hne] at h0 ⊢
                  exact h0
                · cases hs
              · cases hs
          have hlen : (rowsD sz news).length = plenN news := plenN_spec _ _
          have := bar_append_nil (s := s) nb hop hc hr hz (by rw [avL_len]; exact hzs) hpos hj.bytes hy hs' (by rw [hlen]; exact h6) (by rw [hlen]; exact h7) hd (freshKB_spec (nh := []) (by rfl) hf)
          refine ⟨_, _, Bar_leq (Bar_leq this (appS_leq _ _ _ _)) ?_, h⟩
          refine ⟨rfl, rfl, fun u => ?_, fun u => ?_, fun u => ?_⟩
          · simp only [KSt.st]
            cases o.dst with
            | none => rw [forgT_spec]; rfl
            | some v => simp only [setD, look_setT, mapT, look, forgT_spec]; rfl
          · simp only [KSt.st, forgH_spec]
          · simp only [KSt.st, mapO, setA, if_true]; rfl
        · rename_i sz' row rows
          replace h := kif_spec h; obtain ⟨he, h⟩ := h
          have he := Nat.eq_of_beq_eq_true he
          subst he
          replace h := kk_spec h; obtain ⟨news, hs, h⟩ := h
          replace h : (1 : Int) ≤ (plenN news : Int) ∧ (plenN (joinP [.rw (row :: rows)] news) * j.bytes ≤ 140737488355328 ∧ plenN (joinP [.rw (row :: rows)] news) ≤ 140737488355328) ∧ _ := h
          obtain ⟨h5, ⟨h6, h7⟩, h⟩ := h
          have hlen : (rowsD sz' news).length = plenN news := plenN_spec _ _
          have hrw : (KV.toDLL (row :: rows)) = rowsD sz' [.rw (row :: rows)] := by simp [rowsD, KP.rows]
          have hsum : (KV.toDLL (row :: rows)).length + (rowsD sz' news).length = plenN (joinP [.rw (row :: rows)] news) := by
            rw [← plenN_spec sz', joinP_rows, List.length_append, hrw]
          rw [Nat.blt_eq] at hpos
          have hf := free_append_full (id := nb) hop (rows := KV.toDLL (row :: rows)) hc hr hz (by rw [avL_len]; exact hzs) hpos (hT _ _ hj).bytes (by simp [KV.toDLL]) (by rw [hlen]; omega) hy (srcK_spec hs) (by rw [hsum]; exact h6) (by rw [hsum]; exact h7)
          refine ⟨_, _, ?_, h⟩
          rw [KSt.add_st]
          refine bar_of_free (res := (rowKV ⟨e, sz', joinP [.rw (row :: rows)] news, true, true⟩).av) ?_ hd
          rw [rowKV_av, joinP_rows, ← hrw]
          exact hf
        · exact h.elim
      · exact h.elim
    · split at h
      · rename_i x y t t' h1 h2
        have e1 : args = #[x, y] := by apply Array.toList_inj.1; simp [h1]
        have e2 : ts = #[t, t'] := by apply Array.toList_inj.1; simp [h2]
        subst e1 e2
        replace h := kif_spec h; obtain ⟨ht, h⟩ := h
        have ht := Nat.eq_of_beq_eq_true ht
        subst ht
        replace h := kif_spec h; obtain ⟨hd, h⟩ := h
        have hd := dstK_spec hd
        replace h := kk_spec h; obtain ⟨c, hc, h⟩ := h
        replace h := kk_spec h; obtain ⟨d, hy, h⟩ := h
        replace h := kk_spec h; obtain ⟨ti, hi, h⟩ := h
        replace h := kk_spec h; obtain ⟨⟨e, sz⟩, hr, h⟩ := h
        split at h
        · rename_i id
          replace h := kk_spec h; obtain ⟨R, hR, h⟩ := h
          replace h := kif_spec h; obtain ⟨h3, h⟩ := h
          simp only [Bool.and_eq_true] at h3
          obtain ⟨⟨h3, h4⟩, h5⟩ := h3
          have h4 := Nat.eq_of_beq_eq_true h4
          have h5 := Nat.eq_of_beq_eq_true h5
          subst h4 h5
          replace h := kif_spec h; obtain ⟨h0, h⟩ := h
          rw [Nat.blt_eq] at h0
          replace h := kk_spec h; obtain ⟨news, hs, h⟩ := h
          replace h : (1 : Int) ≤ (plenN news : Int) ∧ (plenN news : Int) = (plenN R.ps : Int) ∧ K (KSt.add ⟨S.n, S.T, S.H, stA S.O id ⟨R.e, R.sz, news, R.nn, true⟩, S.low⟩ o.dst (.int .i64 (plenN news)) [] []) s := h
          obtain ⟨h6, h7, h⟩ := h
          have hR' : look S.st.O id = some R.row := by rw [st_lookO, hR]; rfl
          have hlen : (rowsD R.sz news).length = plenN news := plenN_spec _ _
          have := bar_copy (s := s) (R := R.row) hop (kop_st hc) hR' h3 h0 ((hT _ _ hi).el _ hr) (kop_st hy) (srcK_spec hs) ((show (rowsD R.sz news).length = R.row.rows.length from by rw [hlen, show R.row.rows.length = plenN R.ps from plenN_spec _ _]; omega)) (show 0 < (rowsD R.sz news).length from by rw [hlen]; omega) hd
          refine ⟨_, _, ?_, h⟩
          rw [KSt.add_st]
          have e2 : putS S.st id R.row (rowsD R.sz news) = KSt.st ⟨S.n, S.T, S.H, stA S.O id ⟨R.e, R.sz, news, R.nn, true⟩, S.low⟩ := by
            simp only [putS, KSt.st]
            rw [← setA_mapO]; rfl
          rw [← e2, show KV.av (.int .i64 (plenN news)) = .d (.int .i64 ((rowsD R.sz news).length : Nat)) from by rw [hlen]; rfl]
          exact this
        · exact h.elim
      · exact h.elim
    · split at h
      · rename_i x y t t' h1 h2
        have e1 : args = #[x, y] := by apply Array.toList_inj.1; simp [h1]
        have e2 : ts = #[t, t'] := by apply Array.toList_inj.1; simp [h2]
        subst e1 e2
        replace h := kif_spec h; obtain ⟨hd, h⟩ := h
        replace h := kk_spec h; obtain ⟨c, hc, h⟩ := h
        replace h := kk_spec h; obtain ⟨kc, hk, h⟩ := h
        replace h := kk_spec h; obtain ⟨ti, hi, h⟩ := h
        replace h := kk_spec h; obtain ⟨⟨kt, et⟩, hr, h⟩ := h
        replace h := kk_spec h; obtain ⟨ki, hki, h⟩ := h
        replace h := kif_spec h; obtain ⟨hkd, h⟩ := h
        split at h
        · rename_i id
          replace h := kk_spec h; obtain ⟨R, hR, h⟩ := h
          replace h := kif_spec h; obtain ⟨hb, h⟩ := h
          simp only [Bool.and_eq_true] at hb
          obtain ⟨⟨hl, hs⟩, hn⟩ := hb
          have hs := Nat.eq_of_beq_eq_true hs
          have hR' : look S.st.O id = some R.row := by rw [st_lookO, hR]; rfl
          obtain ⟨d, g1, g2, g3, ps', g4, h⟩ := h
          have e0 : R.row.rows = rowsD 0 R.ps := by show rowsD R.sz R.ps = _; rw [hs]
          have := bar_delete (s := s) (R := R.row) hop ((hT _ _ hi).mp _ hr) (unT_spec (hT _ _ hki) g1) (kop_st hc) hR' hs hn hl ((kop_st hk).trans (congrArg some (KV.isD_av hkd))) g2 (by rw [e0]; exact g3) (dstK_spec hd)
          refine ⟨_, _, ?_, h⟩
          rw [KSt.add_st, ← putS_k (rows := mdelD R.row.rows kc.toD) (by rw [e0, ← g4, hs])]
          exact this
        · exact h.elim
      · exact h.elim
    · rename_i f; exact absurd (.inl ⟨f, args, ts, hop⟩) hbar
    · exact h.elim
  · rename_i t m k x hop
    split at h
    · exact h.elim
    · rename_i hdst
      replace h := kk_spec h; obtain ⟨c, hc, h⟩ := h
      replace h := kk_spec h; obtain ⟨kc, hk, h⟩ := h
      replace h := kk_spec h; obtain ⟨v, hv, h⟩ := h
      replace h := kk_spec h; obtain ⟨ti, hi, h⟩ := h
      replace h := kk_spec h; obtain ⟨⟨kt, et⟩, hr, h⟩ := h
      replace h := kk_spec h; obtain ⟨ki, hki, h⟩ := h
      replace h := kif_spec h; obtain ⟨hkd, h⟩ := h
      simp only [Bool.and_eq_true] at hkd
      split at h
      · rename_i id
        replace h := kk_spec h; obtain ⟨R, hR, h⟩ := h
        replace h := kif_spec h; obtain ⟨hb, h⟩ := h
        simp only [Bool.and_eq_true] at hb
        obtain ⟨⟨hl, hs⟩, hn⟩ := hb
        have hs := Nat.eq_of_beq_eq_true hs
        have hR' : look S.st.O id = some R.row := by rw [st_lookO, hR]; rfl
        obtain ⟨d, g1, g2, g3, ps', g4, h⟩ := h
        have e0 : R.row.rows = rowsD 0 R.ps := by show rowsD R.sz R.ps = _; rw [hs]
        have hka : okDat kc = true := by
          unfold okDat
          split
          · cases hkd.1
          · exact hkd.1
        have := bar_mapUpdate (s := s) (R := R.row) (vD := v.toD) hop hdst ((hT _ _ hi).mp _ hr) (unT_spec (hT _ _ hki) g1) (kop_st hc) hR' hs hn hl (kD := kc.toD) (fun w ok μ ν yl u hu => okDat_rd hka (by rw [okDat_av hka]; exact hu)) (by rw [kop_st hk, okDat_av hka]) g2 (by rw [e0]; exact g3) (kop_st hv) (fun w ok μ ν yl u hu => okDat_rd hkd.2 hu)
        refine ⟨_, _, ?_, h⟩
        rw [← putS_k (rows := msetD R.row.rows kc.toD v.toD) (by rw [e0, ← g4, hs])]
        exact this
      · exact h.elim
  · rename_i x hop
    replace h := kif_spec h; obtain ⟨hd, h⟩ := h
    replace h := kk_spec h; obtain ⟨c, hc, h⟩ := h
    split at h
    · rename_i id
      replace h := kk_spec h; obtain ⟨R, hR, h⟩ := h
      replace h := kif_spec h; obtain ⟨hb, h⟩ := h
      simp only [Bool.and_eq_true, Bool.not_eq_true'] at hb
      obtain ⟨⟨hl, hs⟩, hn⟩ := hb
      have hs := Nat.eq_of_beq_eq_true hs
      have hR' : look S.st.O id = some R.row := by rw [st_lookO, hR]; rfl
      split at h
      · rename_i m k v ps hps
        split at h
        · rename_i α dd l f
          replace h := kif_spec h; obtain ⟨h2, h⟩ := h
          simp only [Bool.and_eq_true] at h2
          have hrows : R.row.rows = [.map (l.map fun a => rowD 2 0 fun j => (f a j).toD), .bool true] :: [k.toD, v.toD] :: rowsD R.sz ps := by
            show rowsD R.sz R.ps = _
            rw [hps]; simp [rowsD, KP.rows, KV.toDLL, KV.toDL, KV.toD]
          have := bar_entry (s := s) (R := R.row) hop (kop_st hc) hR' hs hn hl hrows (dstK_spec hd)
          refine ⟨_, _, ?_, h⟩
          rw [KSt.add_st, ← putS_k (rows := [.map (l.map fun a => rowD 2 0 fun j => (f a j).toD), .bool false] :: rowsD R.sz ps) (by simp [rowsD, KP.rows, KV.toDLL, KV.toDL, KV.toD])]
          simp only [KV.av, KV.avL, okDat_av h2.1, okDat_av h2.2, mapH, mapO]
          exact this
        · exact h.elim
      · exact h.elim
    · exact h.elim
  · rename_i x b hop
    exact absurd (.inr ⟨x, b, hop⟩) hbar
  · exact h.elim
theorem barK_spec {ops : Array Oper} {i : Nat} {rest : List Nat} {o : Oper} {S : KSt} {s : E.σ} {Q : Exit → St → E.σ → Prop} {nb : Nat} (hT : ∀ t i, tb t = some i → TIOk P t i) (ho : ops[i]? = some o) (hg : guardB ops S.st.T o = some true) {K : KSt → E.σ → Prop}
    (hK : ∀ S' s', K S' s' → AWO E base r ops rest S'.st s' Q) (hbar : isBarK o S = true) (h : barK (primK P E base r post) tb o S s nb K) : AWO E base r ops (i :: rest) S.st s Q := by
  by_cases hv : isVal o
  · rcases hv with ⟨f, args, ts, hop⟩ | ⟨x, b, hop⟩
    case inr => exact AWO_barN ho hg (barK_next hop h) (fun X s' ⟨S', e, hk⟩ => by subst e; exact hK S' s' hk)
    unfold barK at h
    rw [hop] at h
    simp only at h
    have hy : kop S.T f = some .yld := by
      simp only [isBarK, hop] at hbar
      split at hbar
      · rename_i hk; exact hk
      · cases hbar
    replace h := kif_spec h; obtain ⟨hd, h⟩ := h
    replace h := kk_spec h; obtain ⟨cs, hcs, h⟩ := h
    replace h := kk_spec h; obtain ⟨xs, hxs, h⟩ := h
    obtain ⟨hst, h⟩ := h
    exact AWO_yield ho hg hop (kop_st hy) (kopL_spec hcs) (snapL_spec' hxs) (dstK_spec hd) hst (fun s' b hb => by
      have := hK _ _ (h s' b hb)
      rwa [KSt.add_st] at this)
  · obtain ⟨S', s', hb, hk⟩ := barK_bar hT hv h
    exact AWO_bar ho hg hb (hK _ _ hk)
theorem seeT_other {id : Nat} {d : D} {t : Nat} {c : AV} {T : List (Nat × AV)} (h : c ≠ .osl id) : seeT id d ((t, c) :: T) = (t, c) :: seeT id d T := by
  cases c with
  | osl i => simp only [seeT]; rw [if_neg (fun e => h (by rw [e]))]
  | _ => rfl
theorem seeK_spec {id : Nat} {v : KV} {d : D} (hv : v.av = .d d) : ∀ {T : List (Nat × KV)}, mapT (seeK id v T) = seeT id d (mapT T)
  | [] => rfl
  | (t, c) :: q => by
    have ih := seeK_spec (id := id) hv (T := q)
    cases c with
    | osl i =>
      simp only [seeK]
      split
      · rename_i h
        have := Nat.eq_of_beq_eq_true h
        subst this
        simp [mapT, KV.av, ih, seeT, hv]
      · rename_i h
        have : i ≠ id := fun e => by subst e; rw [Nat.beq_refl] at h; cases h
        simp [mapT, KV.av, ih, seeT, this]
    | _ => simp only [seeK, mapT, ih, KV.av]; rw [seeT_other (fun e => by cases e)]
theorem look_keepT {id : Nat} {d : D} {t : Nat} {x : AV} (hx : x ≠ .osl id) : ∀ {T : List (Nat × AV)}, look T t = some x → look (seeT id d T) t = some x
  | [], h => by cases h
  | (u, c) :: q, h => by
    have ih := look_keepT (id := id) (d := d) (t := t) (x := x) hx (T := q)
    simp only [look] at h
    by_cases hc : c = .osl id
    · subst hc
      simp only [seeT, if_true, look]
      by_cases e : u = t
      · rw [if_pos e] at h; cases h; exact absurd rfl hx
      · rw [if_neg e] at h ⊢; exact ih h
    · rw [seeT_other hc]
      simp only [look]
      by_cases e : u = t
      · rw [if_pos e] at h ⊢; exact h
      · rw [if_neg e] at h ⊢; exact ih h
/-- What is kept where rows are frozen. -/
def Keeps (S S' : KSt) : Prop := Weak S.st S'.st ∧ ∀ t x, (∀ i, x ≠ .osl i) → look S.st.T t = some x → look S'.st.T t = some x
theorem Keeps.refl (S : KSt) : Keeps S S := ⟨Weak.refl _, fun _ _ _ h => h⟩
theorem Keeps.trans {S S' S'' : KSt} (h : Keeps S S') (k : Keeps S' S'') : Keeps S S'' := ⟨h.1.trans k.1, fun t x hx e => k.2 t x hx (h.2 t x hx e)⟩
theorem rowSn_av {R : KRow} {v : KV} (h : rowSn R = some v) : v.av = .d v.toD := by
  unfold rowSn at h
  split at h
  · cases h; rw [rowKV_toD]; exact rowKV_av R
  · split at h
    · cases h
      unfold mapKV
      split <;> rfl
    · cases h
theorem frzK_keeps (id : Nat) (S : KSt) : Keeps S (frzK id S) := by
  unfold frzK
  split
  · rename_i R hR
    split
    · exact Keeps.refl S
    · rename_i v hv
      have hR' : look S.st.O id = some R.row := by rw [st_lookO, hR]; rfl
      have e : frzS S.st id R.row v.toD = KSt.st ⟨S.n, seeK id v S.T, S.H, stA S.O id ⟨R.e, R.sz, R.ps, R.nn, false⟩, S.low⟩ := by
        simp only [frzS, KSt.st]
        rw [← setA_mapO, seeK_spec (rowSn_av hv)]; rfl
      refine ⟨?_, fun t x hx h => ?_⟩
      · rw [← e]; exact weak_frz hR' (rowSn_spec hv)
      · rw [← e]; exact look_keepT (hx _) h
  · exact Keeps.refl S
theorem frzI_keeps : ∀ (l : List Nat) (S : KSt), Keeps S (frzI l S)
  | [], S => Keeps.refl S
  | id :: q, S => (frzK_keeps id S).trans (frzI_keeps q _)
theorem frzL_keeps : ∀ (l : List Nat) (S : KSt), Keeps S (frzL l S)
  | [], S => Keeps.refl S
  | t :: q, S => by
    unfold frzL
    split
    · exact (frzI_keeps _ S).trans (frzL_keeps q _)
    · exact frzL_keeps q S
theorem preK_keeps (pz : List Nat) (o : Oper) (S : KSt) : Keeps S (preK pz o S) := by
  unfold preK
  split
  · split
    · exact frzL_keeps _ S
    · exact Keeps.refl S
  · exact Keeps.refl S
theorem guardB_keeps {ops : Array Oper} {S S' : KSt} {o : Oper} {b : Bool} (h : Keeps S S') (hg : guardB ops S.st.T o = some b) : guardB ops S'.st.T o = some b := by
  unfold guardB at hg ⊢
  split at hg
  · exact hg
  · rename_i j want hgd
    cases hq : (ops[j]?).bind (·.dst) with
    | none => simp only [hq] at hg; cases hg
    | some t =>
      simp only [hq] at hg ⊢
      cases hl : look S.st.T t with
      | none => rw [hl] at hg; cases hg
      | some v =>
        rw [hl] at hg
        cases v with
        | d x => rw [h.2 t _ (fun i e => by cases e) hl]; exact hg
        | tup l => rw [h.2 t _ (fun i e => by cases e) hl]; exact hg
        | _ => cases hg
theorem opsK_spec {ops : Array Oper} {pz : List Nat} {Q : Exit → St → E.σ → Prop} {K : KSt → E.σ → Prop} (hT : ∀ t i, tb t = some i → TIOk P t i) (hQ : ∀ S s, K S s → Q .normal S.st s) : ∀ (l : List Oper) (i : Nat) (S : KSt) (s : E.σ), (∀ (j : Nat) (o : Oper), l[j]? = some o → ops[i + j]? = some o) →
    opsK (primK P E base r post) tb pz ops.toList l S s K → AWO E base r ops (List.range' i l.length) S.st s Q
  | [], i, S, s, _, h => AWO_nil (hQ _ _ h)
  | o :: rest, i, S, s, hl, h => by
    have ho : ops[i]? = some o := by simpa using hl 0 o rfl
    have hrest : ∀ (j : Nat) (o : Oper), rest[j]? = some o → ops[i + 1 + j]? = some o := fun j o h => by
      have := hl (j + 1) o (by simpa using h)
      rwa [show i + (j + 1) = i + 1 + j from by omega] at this
    rw [List.length_cons, List.range'_succ]
    unfold opsK at h
    obtain ⟨S', hleq, h⟩ := wantK_spec h
    refine AWO_leq hleq ?_
    rcases h with ⟨hg, h⟩ | ⟨hg, h⟩
    · have hk := preK_keeps pz o S'
      refine AWO_weak hk.1 ?_
      replace hg := guardB_keeps hk hg
      generalize preK pz o S' = S' at h hg
      simp only at h
      split at h
      · rename_i hb
        exact barK_spec hT ho hg (fun S' s' hk => opsK_spec hT hQ rest (i + 1) S' s' hrest hk) hb h
      · obtain ⟨res, nh, no, hf, h⟩ := freeK_spec hT h
        replace h := kif_spec h; obtain ⟨h1, h⟩ := h
        simp only [Bool.and_eq_true] at h1
        have := opsK_spec hT hQ rest (i + 1) _ s hrest h
        rw [KSt.add_st] at this
        exact AWO_free _ _ _ ho hg hf (freshK_spec h1.1.1 h1.1.2) (dstK_spec h1.2) this
    · replace h := kif_spec h; obtain ⟨h1, h⟩ := h
      have := opsK_spec hT hQ rest (i + 1) _ s hrest h
      rw [KSt.add_st] at this
      exact AWO_notT ho hg (dstK_spec h1) this
theorem regK_spec {id : Nat} {ops : Array Oper} {pz : List Nat} {S : KSt} {s : E.σ} {Q : Exit → St → E.σ → Prop} {K : KSt → E.σ → Prop} (hT : ∀ t i, tb t = some i → TIOk P t i) (hQ : ∀ S s, K S s → Q .normal S.st s)
    (h : opsK (primK P E base r post) tb pz ops.toList ops.toList S s K) : AW E base r (.region id ops false) S.st s Q := by
  refine AW_region ?_
  have := opsK_spec (ops := ops) hT hQ ops.toList 0 S s (fun j o h => by simpa using h) h
  rwa [List.range_eq_range', ← Array.length_toList]
end Go.Proofs.Ytnekemldcjegaaa.Aw

/- The logic of abstract walks, part M5b: regions that draw, by evaluation. -/
namespace Go.Proofs.Ytnekemldcjegaaa.Aw
open Go Go.RowKit
set_option linter.unusedVariables false
set_option linter.unusedSimpArgs false
universe u
variable {P : Program} {E : Env P} {base : Nat} {r : Option Nat} {post : KV → List KRow → Prop} {tb : Nat → Option TI}
theorem key_look {α : Type} {l : List (Nat × α)} {b : Nat} (h : b ∈ keys l) : ∃ v, look l b = some v := by
  induction l with
  | nil => cases h
  | cons p q ih =>
    obtain ⟨k, v⟩ := p
    simp only [look]
    by_cases e : k = b
    · exact ⟨v, if_pos e⟩
    · rw [if_neg e]
      rcases List.mem_cons.1 h with h | h
      · exact absurd h.symm e
      · exact ih h
theorem freshH_not {S : KSt} : ∀ {nh : List (Nat × KBlk)}, freshKH S nh = true → ∀ b ∈ keys (mapH nh), b ∉ keys S.st.H := fun h b hb hh => by
  have := (freshKH_spec h b hb).1
  simp only [usesBox, memN_iff.2 hh, Bool.true_or] at this
  cases this
theorem freshO_not {S : KSt} : ∀ {no : List (Nat × KRow)}, freshKO S no = true → ∀ b ∈ keys (mapO no), b ∉ keys S.st.O := fun h b hb hh => by
  have := (freshKO_spec h b hb).1
  simp only [usesRow, memN_iff.2 hh, Bool.true_or] at this
  cases this
theorem segS_snoc {ops : Array Oper} {X : Nat → Bool} (l : List Sg) (g : Sg) (i : Nat) (S : St) : segS ops X i (l ++ [g]) S = if X (i + l.length) then (segS ops X i l S).add (dstAt ops (i + l.length)) g.res g.nh g.no else segS ops X i l S := by
  rw [segS_split]; rfl
theorem segS_keysH {ops : Array Oper} : ∀ (l : List Sg) (i : Nat) (S : St) (b : Nat), b ∈ keys (segS ops (fun _ => true) i l S).H ↔ b ∈ keys S.H ∨ ∃ g ∈ l, b ∈ keys g.nh
  | [], i, S, b => by simp [segS]
  | g :: q, i, S, b => by
    simp only [segS, if_true]
    rw [segS_keysH q (i + 1)]
    simp only [St.add, keys_append, List.mem_append, List.mem_cons, exists_eq_or_imp]
    exact ⟨fun h => h.elim (fun h => h.elim (fun h => .inr (.inl h)) .inl) (fun h => .inr (.inr h)), fun h => h.elim (fun h => .inl (.inr h)) (fun h => h.elim (fun h => .inl (.inl h)) .inr)⟩
theorem segS_keysO {ops : Array Oper} : ∀ (l : List Sg) (i : Nat) (S : St) (b : Nat), b ∈ keys (segS ops (fun _ => true) i l S).O ↔ b ∈ keys S.O ∨ ∃ g ∈ l, b ∈ keys g.no
  | [], i, S, b => by simp [segS]
  | g :: q, i, S, b => by
    simp only [segS, if_true]
    rw [segS_keysO q (i + 1)]
    simp only [St.add, keys_append, List.mem_append, List.mem_cons, exists_eq_or_imp]
    exact ⟨fun h => h.elim (fun h => h.elim (fun h => .inr (.inl h)) .inl) (fun h => .inr (.inr h)), fun h => h.elim (fun h => .inl (.inr h)) (fun h => h.elim (fun h => .inl (.inl h)) .inr)⟩
theorem dis_snoc {g : Sg} : ∀ {l : List Sg} {K K' : List Nat}, dis K K' l = true → (∀ b ∈ keys g.nh, b ∉ K ∧ ∀ g' ∈ l, b ∉ keys g'.nh) → (∀ b ∈ keys g.no, b ∉ K' ∧ ∀ g' ∈ l, b ∉ keys g'.no) → dis K K' (l ++ [g]) = true
  | [], K, K', h, h1, h2 => by
    simp only [List.nil_append, dis, Bool.and_true, Bool.and_eq_true, List.all_eq_true, Bool.not_eq_true']
    refine ⟨fun b hb => ?_, fun b hb => ?_⟩
    · cases hm : memN b K with
      | false => rfl
      | true => exact absurd (memN_iff.1 hm) (h1 b hb).1
    · cases hm : memN b K' with
      | false => rfl
      | true => exact absurd (memN_iff.1 hm) (h2 b hb).1
  | g' :: q, K, K', h, h1, h2 => by
    simp only [dis, Bool.and_eq_true] at h
    simp only [List.cons_append, dis, Bool.and_eq_true]
    refine ⟨h.1, dis_snoc h.2 (fun b hb => ⟨fun hm => ?_, fun g2 hg2 => (h1 b hb).2 g2 (List.mem_cons_of_mem _ hg2)⟩) (fun b hb => ⟨fun hm => ?_, fun g2 hg2 => (h2 b hb).2 g2 (List.mem_cons_of_mem _ hg2)⟩)⟩
    · rcases List.mem_append.1 hm with hm | hm
      · exact (h1 b hb).2 g' (by simp) hm
      · exact (h1 b hb).1 hm
    · rcases List.mem_append.1 hm with hm | hm
      · exact (h2 b hb).2 g' (by simp) hm
      · exact (h2 b hb).1 hm
/-- g' does not speak of what g makes. -/
def Apt (g g' : Sg) : Prop := (∀ b ∈ keys g.nh, sgBox b g' = false) ∧ ∀ b ∈ keys g.no, sgRow b g' = false
def sgOf (g : SgK) (run : Bool) : Sg := ⟨g.res.av, mapH g.nh, mapO g.no, run⟩
theorem mentB_spec {b : Nat} : ∀ {nh : List (Nat × KBlk)}, mentB b nh = false → memN b (keys (mapH nh)) = false ∧ (mapH nh).any (fun p => p.2.cells.any fun c => c.box b) = false
  | [], _ => ⟨rfl, rfl⟩
  | (k, B) :: q, h => by
    simp only [mentB] at h
    split at h
    · cases h
    · rename_i hk
      split at h
      · cases h
      · rename_i hc
        obtain ⟨h1, h2⟩ := mentB_spec h
        refine ⟨by simp only [mapH, keys, memN, nbeq, hk, h1, Bool.or_self], ?_⟩
        simp only [mapH, List.any_cons, h2, Bool.or_false]; exact boxesL_any hc
theorem mentRB_spec {b : Nat} : ∀ {nh : List (Nat × KBlk)}, mentRB b nh = false → (mapH nh).any (fun p => p.2.cells.any fun c => c.hasRow b) = false
  | [], _ => rfl
  | (k, B) :: q, h => by
    simp only [mentRB] at h
    split at h
    · cases h
    · rename_i hc
      simp only [mapH, List.any_cons, mentRB_spec h, Bool.or_false]; exact hasRowL_any hc
theorem mentRO_spec {b : Nat} : ∀ {no : List (Nat × KRow)}, mentRO b no = false → memN b (keys (mapO no)) = false
  | [], _ => rfl
  | (k, B) :: q, h => by
    simp only [mentRO] at h
    split at h
    · cases h
    · rename_i hk
      simp only [mapO, keys, memN, nbeq, hk, mentRO_spec h, Bool.or_self]
theorem apartH_spec {g' : SgK} {run : Bool} : ∀ {nh : List (Nat × KBlk)}, apartH g' nh = true → ∀ b ∈ keys (mapH nh), sgBox b (sgOf g' run) = false
  | [], _, b, hb => by cases hb
  | (k, B) :: q, h, b, hb => by
    simp only [apartH] at h
    split at h
    · cases h
    · rename_i h1
      split at h
      · cases h
      · rename_i h2
        rcases List.mem_cons.1 hb with e | hb
        · subst e
          obtain ⟨e1, e2⟩ := mentB_spec h2
          simp only [sgBox, sgOf, boxes_av, h1, e1, e2, Bool.or_self]
        · exact apartH_spec h b hb
theorem apartO_spec {g' : SgK} {run : Bool} : ∀ {no : List (Nat × KRow)}, apartO g' no = true → ∀ b ∈ keys (mapO no), sgRow b (sgOf g' run) = false
  | [], _, b, hb => by cases hb
  | (k, B) :: q, h, b, hb => by
    simp only [apartO] at h
    split at h
    · cases h
    · rename_i h1
      split at h
      · cases h
      · rename_i h2
        split at h
        · cases h
        · rename_i h3
          rcases List.mem_cons.1 hb with e | hb
          · subst e
            simp only [sgRow, sgOf, hasRow_av, h1, mentRO_spec h3, mentRB_spec h2, Bool.or_self]
          · exact apartO_spec h b hb
theorem apartG_spec {g g' : SgK} {x y : Bool} (h : apartG g g' = true) : Apt (sgOf g x) (sgOf g' y) := by
  unfold apartG at h
  split at h
  · rename_i h1; exact ⟨apartH_spec h1, apartO_spec h⟩
  · cases h
theorem okNew_spec {ops : List Oper} {i : Nat} {g : SgK} : ∀ {Rs : List (Nat × SgK)}, okNew ops i g Rs = true → ∀ p ∈ Rs, apartG g p.2 = true ∧ (apartG p.2 g = true ∨ ((depsK ops []).getD i 0).testBit p.1 = true)
  | [], _, p, hp => by cases hp
  | (j, g') :: q, h, p, hp => by
    simp only [okNew] at h
    split at h
    · rename_i h1
      split at h
      · rename_i h2
        rcases List.mem_cons.1 hp with e | hp
        · subst e; exact ⟨h1, .inl h2⟩
        · exact okNew_spec h p hp
      · split at h
        · rename_i h3
          rcases List.mem_cons.1 hp with e | hp
          · subst e; exact ⟨h1, .inr h3⟩
          · exact okNew_spec h p hp
        · cases h
    · cases h
theorem tmpsK_mem {t : Nat} : ∀ {l : List Operand}, t ∈ tmpsK l → t ∈ l.filterMap tmpOf
  | [], h => by cases h
  | .tmp u :: q, h => by
    simp only [tmpsK, List.mem_cons] at h
    simp only [List.filterMap_cons, tmpOf, List.mem_cons]
    exact h.imp id tmpsK_mem
  | .const v :: q, h => by simp only [List.filterMap_cons, tmpOf]; exact tmpsK_mem h
  | .func v :: q, h => by simp only [List.filterMap_cons, tmpOf]; exact tmpsK_mem h
  | .global v :: q, h => by simp only [List.filterMap_cons, tmpOf]; exact tmpsK_mem h
theorem namesK_mem {ops : Array Oper} {o : Oper} {t : Nat} (h : t ∈ namesK ops.toList o) : t ∈ names ops o := by
  unfold namesK at h
  unfold names gdst
  split at h
  · rename_i j w hg
    rw [hg]
    split at h
    · rename_i o' ho
      rw [nth_eq, Array.getElem?_toList] at ho
      split at h
      · rename_i u hu
        rcases List.mem_cons.1 h with e | h
        · subst e
          simp [dstAt, ho, hu]
        · exact List.mem_append_left _ (tmpsK_mem h)
      · exact List.mem_append_left _ (tmpsK_mem h)
    · exact List.mem_append_left _ (tmpsK_mem h)
  · exact List.mem_append_left _ (tmpsK_mem h)
theorem restrK_look {T : List (Nat × KV)} {t : Nat} {c : KV} : ∀ {l : List Nat}, lk (restrK T l) t = some c → t ∈ l ∧ lk T t = some c
  | [], h => by cases h
  | u :: q, h => by
    simp only [restrK] at h
    split at h
    · rename_i v hv
      rw [lk_cons] at h
      by_cases e : u = t
      · subst e; rw [if_pos rfl] at h; cases h; exact ⟨by simp, hv⟩
      · rw [if_neg e] at h
        obtain ⟨h1, h2⟩ := restrK_look h
        exact ⟨List.mem_cons_of_mem _ h1, h2⟩
    · obtain ⟨h1, h2⟩ := restrK_look h
      exact ⟨List.mem_cons_of_mem _ h1, h2⟩
theorem Free_sub {o : Oper} {S S' : St} {res : AV} {nh : List (Nat × Blk)} {no : List (Nat × Row)} (h : Free P o S' res nh no) (hs : Sub S S') : Free P o S res nh no :=
  fun r base M yl a w hr K Q hK => h r base M yl a w (hr.sub hs) K Q hK
/-- A segment as far as it has been evaluated. -/
structure SegInv (P : Program) (ops : Array Oper) (B : List Nat) (m : Nat) (L : List Sg) (S0 S : KSt) (Rs : List (Nat × SgK)) : Prop where
  leq : Leq (segS ops (fun _ => true) m L S0.st) S.st
  obl : ∀ (p : Nat) (g : Sg), L[p]? = some g → Obl P ops B m L S0.st (m + p) g
  dis : Aw.dis (keys S0.st.H) (keys S0.st.O) L = true
  fresh : ∀ (p : Nat) (g : Sg), L[p]? = some g → freshB S0.st g.nh g.no = true
  apt : ∀ (p : Nat) (g : Sg) (q : Nat) (g' : Sg), L[p]? = some g → L[q]? = some g' → p = q ∨ (B.getD (m + q) 0).testBit (m + p) = true ∨ Apt g g'
  rs : ∀ (p : Nat) (g : Sg), L[p]? = some g → ∃ gk run, (m + p, gk) ∈ Rs ∧ g = sgOf gk run
theorem segInv_nil (ops : Array Oper) (B : List Nat) (m : Nat) (S : KSt) : SegInv P ops B m [] S S [] :=
  ⟨Leq.refl _, fun p g h => by simp at h, rfl, fun p g h => by simp at h, fun p g q g' h => by simp at h, fun p g h => by simp at h⟩
theorem SegInv.leq' {ops : Array Oper} {B : List Nat} {m : Nat} {L : List Sg} {S0 S S' : KSt} {Rs : List (Nat × SgK)} (h : SegInv P ops B m L S0 S Rs) (k : Leq S.st S'.st) : SegInv P ops B m L S0 S' Rs := { h with leq := h.leq.trans k }
theorem getElem?_snoc {α : Type u} {l : List α} {a x : α} {p : Nat} (h : (l ++ [a])[p]? = some x) : l[p]? = some x ∨ (p = l.length ∧ x = a) := by
  by_cases hp : p < l.length
  · rw [List.getElem?_append_left hp] at h; exact .inl h
  · rw [List.getElem?_append_right (by omega)] at h
    have : p - l.length = 0 := by
      cases hh : p - l.length with
      | zero => rfl
      | succ n => rw [hh] at h; simp at h
    rw [this] at h
    simp only [List.getElem?_cons_zero, Option.some.injEq] at h
    exact .inr ⟨by omega, h.symm⟩
theorem preS_snoc {ops : Array Oper} {B : List Nat} (hB : depOk ops B = true) {m i : Nat} {L : List Sg} {g : Sg} {S : St} {o : Oper} (hi : i < ops.size) (h : i ≤ m + L.length) : preS ops B m (L ++ [g]) S i o = preS ops B m L S i o := by
  unfold preS
  rw [segS_snoc]
  have : (B.getD i 0).testBit (m + L.length) = false := by
    cases hh : (B.getD i 0).testBit (m + L.length) with
    | false => rfl
    | true => have := (depOk_sound hB i hi _ hh).lt hB; omega
  rw [this]; rfl
/-- One operation more. -/
theorem SegInv.snoc {ops : Array Oper} (hB : depOk ops (depsK ops.toList []) = true) {m : Nat} {L : List Sg} {S0 S : KSt} {Rs : List (Nat × SgK)} (h : SegInv P ops (depsK ops.toList []) m L S0 S Rs) {o : Oper} (ho : ops[m + L.length]? = some o) {gk : SgK} {run : Bool}
    (hg : guardB ops S.st.T o = some run) (hd : dstK S o.dst = true) (hf1 : freshKH S gk.nh = true) (hf2 : freshKO S gk.no = true) (hf3 : freshKH S0 gk.nh = true) (hf4 : freshKO S0 gk.no = true) (hok : okNew ops.toList (m + L.length) gk Rs = true)
    (hrun : run = true → Free P o (KSt.st ⟨S.n, restrK S.T (namesK ops.toList o), S0.H, S0.O, S.low⟩) gk.res.av (mapH gk.nh) (mapO gk.no)) (hskip : run = false → gk = ⟨.tup [], [], []⟩)
    {cnt : Nat} (hcnt : L.length < cnt) (hap : apartB ops (depsK ops.toList []) m cnt = true) :
    SegInv P ops (depsK ops.toList []) m (L ++ [sgOf gk run]) S0 (S.add o.dst gk.res gk.nh gk.no) ((m + L.length, gk) :: Rs) := by
  have hi : m + L.length < ops.size := (Array.getElem?_eq_some_iff.1 ho).1
  have hdst : dstAt ops (m + L.length) = o.dst := by simp [dstAt, ho]
  have hn : S.n = S0.n := by have := h.leq.n; rw [segS_n] at this; exact this
  have oblOld : ∀ (p : Nat) (g : Sg), L[p]? = some g → Obl P ops (depsK ops.toList []) m (L ++ [sgOf gk run]) S0.st (m + p) g := fun p g hp => by
    obtain ⟨o', h1, h2, h3, h4, h5⟩ := h.obl p g hp
    have hpl := (List.getElem?_eq_some_iff.1 hp).1
    have hpi := (Array.getElem?_eq_some_iff.1 h1).1
    refine ⟨o', h1, ?_, h3, ?_, h5⟩
    · rw [preS_snoc hB hpi (by omega)]; exact h2
    · rw [preS_snoc hB hpi (by omega)]; exact h4
  have hnotH : ∀ b ∈ keys (mapH gk.nh), b ∉ keys S0.st.H ∧ ∀ g' ∈ L, b ∉ keys g'.nh := fun b hb => by
    have h1 := freshH_not hf1 b hb
    have h2 : b ∉ keys (segS ops (fun _ => true) m L S0.st).H := fun hh => by
      obtain ⟨v, hv⟩ := key_look hh
      rw [← h.leq.H b] at hv
      exact h1 (look_key hv)
    rw [segS_keysH] at h2
    exact ⟨fun hh => h2 (.inl hh), fun g' hg' hh => h2 (.inr ⟨g', hg', hh⟩)⟩
  have hnotO : ∀ b ∈ keys (mapO gk.no), b ∉ keys S0.st.O ∧ ∀ g' ∈ L, b ∉ keys g'.no := fun b hb => by
    have h1 := freshO_not hf2 b hb
    have h2 : b ∉ keys (segS ops (fun _ => true) m L S0.st).O := fun hh => by
      obtain ⟨v, hv⟩ := key_look hh
      rw [← h.leq.O b] at hv
      exact h1 (look_key hv)
    rw [segS_keysO] at h2
    exact ⟨fun hh => h2 (.inl hh), fun g' hg' hh => h2 (.inr ⟨g', hg', hh⟩)⟩
  -- what the operation looks at is what it waits for
  have hlook : ∀ t, t ∈ names ops o → look (segS ops (fun j => ((depsK ops.toList []).getD (m + L.length) 0).testBit j) m L S0.st).T t = look S.st.T t := fun t ht => by
    rw [h.leq.T t]
    refine segS_look L m _ _ rfl (fun j g hj hdj => ?_)
    have hjl := (List.getElem?_eq_some_iff.1 hj).1
    simp only [apartB, List.all_eq_true, List.mem_range] at hap
    have := hap L.length hcnt j (by omega)
    simp only [Bool.or_eq_true, beq_iff_eq] at this
    rcases this with ((h1 | h1) | h1) | h1
    · omega
    · rw [ho, hdj] at h1
      simp only [Bool.not_eq_true', Bool.or_eq_false_iff] at h1
      rw [memN_iff.2 ht] at h1; cases h1.1
    · exact h1
    · have := (depOk_sound hB (m + j) (by omega) _ h1).lt hB; omega
  have hpre : ∀ t, look (preS ops (depsK ops.toList []) m L S0.st (m + L.length) o).T t = if memN t (names ops o) then look S.st.T t else none := fun t => by
    unfold preS restr
    simp only
    rw [look_filter (f := fun k => memN k (names ops o))]
    cases hm : memN t (names ops o) with
    | false => rfl
    | true => simp only [if_true]; exact hlook t (memN_iff.1 hm)
  have oblNew : Obl P ops (depsK ops.toList []) m (L ++ [sgOf gk run]) S0.st (m + L.length) (sgOf gk run) := by
    refine ⟨o, ho, ?_, ?_, fun hr => ?_, fun hr => ?_⟩
    · rw [preS_snoc hB hi (Nat.le_refl _), show (sgOf gk run).run = run from rfl, ← hg]
      unfold guardB
      cases hgd : o.guard with
      | none => rfl
      | some q =>
        obtain ⟨j, want⟩ := q
        simp only
        cases hb : (ops[j]?).bind (·.dst) with
        | none => rfl
        | some t =>
          simp only
          have ht : memN t (names ops o) = true := by
            rw [memN_iff]
            refine List.mem_append_right _ ?_
            simp only [gdst, hgd, dstAt]
            rw [hb]; simp
          rw [hpre t, if_pos ht]
    · cases hdd : o.dst with
      | none => rfl
      | some t =>
        rw [hdd] at hd
        have : Nat.blt t S.n = true := hd
        rw [hn] at this
        exact this
    · rw [preS_snoc hB hi (Nat.le_refl _)]
      refine Free_sub (hrun hr) ⟨?_, fun t c ht => ?_, fun b B' hb => ?_, fun b B' hb => ?_⟩
      · show S.n = _
        rw [hn]
        unfold preS restr
        simp only [segS_n]; rfl
      · rw [st_look] at ht
        cases hh : lk (restrK S.T (namesK ops.toList o)) t with
        | none => simp only [hh] at ht; cases ht
        | some v =>
          simp only [hh, Option.map_some, Option.some.injEq] at ht
          obtain ⟨h1, h2⟩ := restrK_look hh
          rw [hpre t, if_pos (memN_iff.2 (namesK_mem h1)), st_look, h2, ← ht]; rfl
      · have := (segS_lookH (ops := ops) (X := fun _ => false) (Y := fun j => ((depsK ops.toList []).getD (m + L.length) 0).testBit j) L m S0.st S0.st _ _ (fun _ _ x => x) (fun _ _ x => x) (fun _ x => x) (fun _ x => x) h.dis (fun _ x => by cases x)).1 b B'
        have e0 : segS ops (fun _ => false) m L S0.st = S0.st := by
          have : ∀ (l : List Sg) (i : Nat) (S : St), segS ops (fun _ => false) i l S = S := by
            intro l
            induction l with
            | nil => intro i S; rfl
            | cons g q ih => intro i S; simp only [segS, Bool.false_eq_true, if_false]; exact ih _ _
          exact this _ _ _
        rw [e0] at this
        exact this hb
      · have := (segS_lookH (ops := ops) (X := fun _ => false) (Y := fun j => ((depsK ops.toList []).getD (m + L.length) 0).testBit j) L m S0.st S0.st _ _ (fun _ _ x => x) (fun _ _ x => x) (fun _ x => x) (fun _ x => x) h.dis (fun _ x => by cases x)).2 b B'
        have e0 : segS ops (fun _ => false) m L S0.st = S0.st := by
          have : ∀ (l : List Sg) (i : Nat) (S : St), segS ops (fun _ => false) i l S = S := by
            intro l
            induction l with
            | nil => intro i S; rfl
            | cons g q ih => intro i S; simp only [segS, Bool.false_eq_true, if_false]; exact ih _ _
          exact this _ _ _
        rw [e0] at this
        exact this hb
    · rw [hskip hr]; exact ⟨rfl, rfl, rfl⟩
  have apt2 : ∀ (p : Nat) (g : Sg), L[p]? = some g → Apt (sgOf gk run) g ∧ (((depsK ops.toList []).getD (m + L.length) 0).testBit (m + p) = true ∨ Apt g (sgOf gk run)) := fun p g hp => by
    obtain ⟨g2, run2, h1, rfl⟩ := h.rs p g hp
    obtain ⟨h2, h3⟩ := okNew_spec hok _ h1
    exact ⟨apartG_spec h2, h3.elim (fun x => .inr (apartG_spec x)) .inl⟩
  refine ⟨?_, fun p g hp => ?_, ?_, fun p g hp => ?_, fun p g q g' hp hq => ?_, fun p g hp => ?_⟩
  · rw [segS_snoc, if_pos rfl, hdst, KSt.add_st]
    exact h.leq.add _ _ _ _
  · rcases getElem?_snoc hp with hp | ⟨rfl, rfl⟩
    · exact oblOld p g hp
    · exact oblNew
  · exact dis_snoc h.dis hnotH hnotO
  · rcases getElem?_snoc hp with hp | ⟨rfl, rfl⟩
    · exact h.fresh p g hp
    · exact freshKB_spec hf3 hf4
  · rcases getElem?_snoc hp with hp | ⟨rfl, rfl⟩ <;> rcases getElem?_snoc hq with hq | ⟨rfl, rfl⟩
    · exact h.apt p g q g' hp hq
    · exact (apt2 p g hp).2.elim (fun x => .inr (.inl x)) (fun x => .inr (.inr x))
    · exact .inr (.inr (apt2 q g' hq).1)
    · exact .inl rfl
  · rcases getElem?_snoc hp with hp | ⟨rfl, rfl⟩
    · obtain ⟨g2, run2, h1, h2⟩ := h.rs p g hp
      exact ⟨g2, run2, List.mem_cons_of_mem _ h1, h2⟩
    · exact ⟨gk, run, by simp, rfl⟩
theorem AWN_leq {ops : Array Oper} {m : Nat} {S S' : St} {s : E.σ} {Q : Exit → St → E.σ → Prop} (hl : Leq S S') (h : AWN E base r ops m S' s Q) : AWN E base r ops m S s Q := fun M a w hc fuel listed hf hp =>
  wpAnyIn_mono' (fun e a' w' k => k.later (hl.ext M w)) _ _ _ _ (h M a w (hc.leq hl) fuel listed hf hp)
theorem SegInv.done {ops : Array Oper} {B : List Nat} (hB : depOk ops B = true) {m : Nat} {L : List Sg} {S0 S : KSt} {Rs : List (Nat × SgK)} (h : SegInv P ops B m L S0 S Rs) (hap : apartB ops B m L.length = true) (hla : laterB ops B m L.length = true) (hsz : Nat.ble (m + L.length) ops.size = true)
    {s : E.σ} {Q : Exit → St → E.σ → Prop} (k : AWN E base r ops (m + L.length) S.st s Q) : AWN E base r ops m S0.st s Q := by
  refine AWN_seg B L hB hsz hap hla h.dis ?_ ?_ ?_
  · simp only [freshL, List.all_eq_true, List.mem_range]
    intro i hi
    obtain ⟨g, hg⟩ : ∃ g, L[i]? = some g := ⟨L[i], by simp [hi]⟩
    rw [hg]
    simp only [Bool.and_eq_true, List.all_eq_true, List.mem_range, Bool.or_eq_true, beq_iff_eq]
    refine ⟨h.fresh i g hg, fun j hj => ?_⟩
    obtain ⟨g', hg'⟩ : ∃ g, L[j]? = some g := ⟨L[j], by simp [hj]⟩
    rw [hg']
    rcases h.apt i g j g' hg hg' with e | e | e
    · exact .inl (.inl e)
    · exact .inl (.inr e)
    · refine .inr ?_
      simp only [Bool.and_eq_true, List.all_eq_true, Bool.not_eq_true']
      exact e
  · have : ∀ (l : List Sg) (p : Nat), (∀ (q : Nat) (g : Sg), l[q]? = some g → Obl P ops B m L S0.st (m + p + q) g) → Obls P ops B m L S0.st (m + p) l := by
      intro l
      induction l with
      | nil => intro p _; trivial
      | cons g q ih =>
        intro p hh
        refine ⟨by simpa using hh 0 g rfl, ?_⟩
        have := ih (p + 1) (fun q' g' hq => by have := hh (q' + 1) g' (by simpa using hq); rwa [show m + p + (q' + 1) = m + (p + 1) + q' from by omega] at this)
        rwa [show m + (p + 1) = m + p + 1 from by omega] at this
    simpa using this L 0 (fun q g hq => by simpa using h.obl q g hq)
  · exact AWN_leq h.leq k
theorem segsOk_end {ops : Array Oper} {B : List Nat} : ∀ {rest : List Oper} {m c : Nat}, segsOk ops B rest m c = true → ∃ cnt, c ≤ cnt ∧ apartB ops B m cnt = true
  | [], m, c, h => by simp only [segsOk, Bool.and_eq_true] at h; exact ⟨c, Nat.le_refl _, h.1.1⟩
  | o :: q, m, c, h => by
    simp only [segsOk] at h
    split at h
    · simp only [Bool.and_eq_true] at h; exact ⟨c, Nat.le_refl _, h.1.1.1.1.1⟩
    · obtain ⟨cnt, h1, h2⟩ := segsOk_end h; exact ⟨cnt, by omega, h2⟩
theorem isBarS_val {ops : List Oper} {o : Oper} (h : isBarS ops o = true) : ¬ isVal o := by
  rintro (⟨f, args, ts, hop⟩ | ⟨x, b, hop⟩)
  · simp only [isBarS, hop, isApp, isCopy] at h
    cases h
  · simp only [isBarS, hop, isApp, isCopy] at h
    cases h
theorem drawK_spec {ops : Array Oper} {pz : List Nat} {Q : Exit → St → E.σ → Prop} {K : KSt → E.σ → Prop} (hT : ∀ t i, tb t = some i → TIOk P t i) (hB : depOk ops (depsK ops.toList []) = true) (hQ : ∀ S s, K S s → Q .normal S.st s) :
    ∀ (rest : List Oper) (i m : Nat) (L : List Sg) (S0 S : KSt) (Rs : List (Nat × SgK)) (s : E.σ), (∀ (j : Nat) (o : Oper), rest[j]? = some o → ops[i + j]? = some o) → i + rest.length = ops.size → i = m + L.length → segsOk ops (depsK ops.toList []) rest m L.length = true →
    SegInv P ops (depsK ops.toList []) m L S0 S Rs → drawK (primK P E base r post) tb pz ops.toList rest i S0 Rs S s K → AWN E base r ops m S0.st s Q
  | [], i, m, L, S0, S, Rs, s, _, hsz, him, hok, hinv, h => by
    simp only [segsOk, Bool.and_eq_true] at hok
    refine hinv.done hB hok.1.1 hok.1.2 hok.2 (AWN_done ?_ (hQ _ _ h))
    simp only [List.length_nil] at hsz; omega
  | o :: rest, i, m, L, S0, S, Rs, s, hl, hsz, him, hok, hinv, h => by
    have ho : ops[i]? = some o := by simpa using hl 0 o rfl
    have hrest : ∀ (j : Nat) (o : Oper), rest[j]? = some o → ops[i + 1 + j]? = some o := fun j o h => by
      have := hl (j + 1) o (by simpa using h)
      rwa [show i + (j + 1) = i + 1 + j from by omega] at this
    have hsz' : i + 1 + rest.length = ops.size := by rw [List.length_cons] at hsz; omega
    unfold drawK at h
    simp only [segsOk] at hok
    split at h
    · rename_i hb
      rw [hb] at hok
      simp only [Bool.and_eq_true] at hok
      obtain ⟨⟨⟨⟨⟨o1, o2⟩, o3⟩, o4⟩, o5⟩, o6⟩ := hok
      obtain ⟨S', hleq, h⟩ := wantK_spec h
      have hinv := hinv.leq' hleq
      have o5' := Nat.le_of_ble_eq_true o5
      refine hinv.done hB o1 o2 (by rw [Nat.ble_eq]; omega) ?_
      rw [← him] at o3 o4 o6 ⊢
      rcases h with ⟨hg, h⟩ | ⟨hg, h⟩
      · replace h := kif_spec h; obtain ⟨_, h⟩ := h
        obtain ⟨S2, s2, hbar, h⟩ := barK_bar hT (isBarS_val hb) h
        refine AWN_bar _ hB o4 ho hg hbar ?_
        exact drawK_spec hT hB hQ rest (i + 1) (i + 1) [] S2 S2 [] s2 hrest hsz' rfl o6 (segInv_nil _ _ _ _) h
      · replace h := kif_spec h; obtain ⟨hd, h⟩ := h
        have one := SegInv.snoc (P := P) hB (segInv_nil ops (depsK ops.toList []) i S') (o := o) (by simpa using ho) (gk := ⟨.tup [], [], []⟩) (run := false) hg hd rfl rfl rfl rfl rfl (fun h => by cases h) (fun _ => rfl) (cnt := 1) (by simp) o3
        refine one.done hB o3 o4 (by rw [Nat.ble_eq]; simp only [List.nil_append, List.length_cons, List.length_nil]; omega) ?_
        exact drawK_spec hT hB hQ rest (i + 1) (i + 1) [] _ _ [] s hrest hsz' rfl o6 (segInv_nil _ _ _ _) h
    · rename_i hb
      rw [hb] at hok
      simp only at hok
      obtain ⟨S', hleq, h⟩ := wantK_spec h
      have hinv := hinv.leq' hleq
      obtain ⟨cnt, hc1, hc2⟩ := segsOk_end hok
      have step : ∀ (gk : SgK) (run : Bool), guardB ops S'.st.T o = some run → dstK S' o.dst = true → freshKH S' gk.nh = true → freshKO S' gk.no = true → freshKH S0 gk.nh = true → freshKO S0 gk.no = true → okNew ops.toList i gk Rs = true →
          (run = true → Free P o (KSt.st ⟨S'.n, restrK S'.T (namesK ops.toList o), S0.H, S0.O, S'.low⟩) gk.res.av (mapH gk.nh) (mapO gk.no)) → (run = false → gk = ⟨.tup [], [], []⟩) →
          drawK (primK P E base r post) tb pz ops.toList rest (i + 1) S0 ((i, gk) :: Rs) (S'.add o.dst gk.res gk.nh gk.no) s K → AWN E base r ops m S0.st s Q := fun gk run hg hd f1 f2 f3 f4 f5 hr hs h => by
        subst him
        have one := SegInv.snoc hB hinv ho hg hd f1 f2 f3 f4 f5 hr hs (cnt := cnt) (by omega) hc2
        exact drawK_spec hT hB hQ rest (m + L.length + 1) m (L ++ [sgOf gk run]) S0 _ _ s hrest hsz' (by simp; omega) (by simpa using hok) one h
      rcases h with ⟨hg, h⟩ | ⟨hg, h⟩
      · obtain ⟨res, nh, no, hf, h⟩ := freeK_spec hT h
        replace h := kif_spec h; obtain ⟨h1, h⟩ := h
        simp only [Bool.and_eq_true] at h1
        obtain ⟨⟨⟨⟨⟨f1, f2⟩, f3⟩, f4⟩, f5⟩, f6⟩ := h1
        exact step ⟨res, nh, no⟩ true hg f5 f1 f2 f3 f4 f6 (fun _ => hf) (fun h => by cases h) h
      · replace h := kif_spec h; obtain ⟨h1, h⟩ := h
        simp only [Bool.and_eq_true] at h1
        exact step ⟨.tup [], [], []⟩ false hg h1.1 rfl rfl rfl rfl h1.2 (fun h => by cases h) (fun _ => rfl) h
end Go.Proofs.Ytnekemldcjegaaa.Aw

/- The logic of abstract walks, part M11: regions that draw, all orders gone through. -/
namespace Go.Proofs.Ytnekemldcjegaaa.Aw
open Go Go.RowKit
set_option linter.unusedVariables false
set_option linter.unusedSimpArgs false
universe u
variable {P : Program} {E : Env P} {base : Nat} {r : Option Nat} {post : KV → List KRow → Prop} {tb : Nat → Option TI}
theorem bindsK_spec (e : Edge) : bindsK e.ground = Region.binds .any e := by
  unfold bindsK Region.binds
  cases e.ground <;> rfl
theorem undone_iff {U : List (Nat × Oper)} {j : Nat} : undone U j = true ↔ ∃ o, (j, o) ∈ U := by
  induction U with
  | nil => simp [undone]
  | cons p q ih =>
    obtain ⟨i, o⟩ := p
    unfold undone
    split
    · rename_i h
      have := Nat.eq_of_beq_eq_true h
      subst this
      exact ⟨fun _ => ⟨o, by simp⟩, fun _ => rfl⟩
    · rename_i h
      rw [ih]
      have hne : ¬ i = j := fun e => by subst e; rw [Nat.beq_refl] at h; cases h
      constructor
      · rintro ⟨o', ho'⟩; exact ⟨o', List.mem_cons_of_mem _ ho'⟩
      · rintro ⟨o', ho'⟩
        rcases List.mem_cons.1 ho' with e | e
        · cases e; exact absurd rfl hne
        · exact ⟨o', e⟩
theorem freeE_spec {U : List (Nat × Oper)} : ∀ {l : List Edge}, freeE U l = true ↔ ∀ e ∈ l, Region.binds .any e = true → undone U e.on = false
  | [] => by simp [freeE]
  | e :: q => by
    have ih := freeE_spec (U := U) (l := q)
    unfold freeE
    rw [bindsK_spec]
    split
    · rename_i hb
      split
      · rename_i hu
        refine ⟨fun h => (by cases h), fun h => ?_⟩
        have := h e (by simp) hb
        rw [hu] at this; cases this
      · rename_i hu
        rw [ih]
        exact ⟨fun h e' he' hb' => (List.mem_cons.1 he').elim (fun q => q ▸ hu) (fun q => h e' q hb'), fun h e' he' => h e' (List.mem_cons_of_mem _ he')⟩
    · rename_i hb
      rw [ih]
      exact ⟨fun h e' he' hb' => (List.mem_cons.1 he').elim (fun q => by rw [q] at hb'; rw [hb'] at hb; cases hb) (fun q => h e' q hb'), fun h e' he' => h e' (List.mem_cons_of_mem _ he')⟩
theorem anyR_false {U : List (Nat × Oper)} : ∀ {l : List (Nat × Oper)}, anyR U l = false → ∀ p ∈ l, freeE U p.2.after.toList = false
  | [], _, p, hp => by cases hp
  | (i, o) :: q, h, p, hp => by
    unfold anyR at h
    split at h
    · cases h
    · rename_i hf
      rcases List.mem_cons.1 hp with e | e
      · rw [e]; exact hf
      · exact anyR_false h p e
theorem allR_spec {f : Nat → Oper → Prop} {U : List (Nat × Oper)} : ∀ {l : List (Nat × Oper)}, allR (primK P E base r post) f U l → ∀ p ∈ l, freeE U p.2.after.toList = true → f p.1 p.2
  | [], h, p, hp, _ => by cases hp
  | (i, o) :: q, h, p, hp, hf => by
    unfold allR at h
    split at h
    · rename_i h1
      split at h
      · obtain ⟨h2, h3⟩ := (h : f i o ∧ allR (primK P E base r post) f U q)
        rcases List.mem_cons.1 hp with e | e
        · rw [e]; exact h2
        · exact allR_spec h3 p e hf
      · rename_i hn
        rcases List.mem_cons.1 hp with e | e
        · rw [e]; exact h
        · rw [anyR_false hn p e] at hf; cases hf
    · rename_i h1
      rcases List.mem_cons.1 hp with e | e
      · rw [e] at hf; rw [hf] at h1; cases h1
      · exact allR_spec h p e hf
theorem allR_some {f : Nat → Oper → Prop} {U : List (Nat × Oper)} : ∀ {l : List (Nat × Oper)}, allR (primK P E base r post) f U l → ∃ p ∈ l, freeE U p.2.after.toList = true
  | [], h => h.elim
  | (i, o) :: q, h => by
    unfold allR at h
    split at h
    · rename_i h1; exact ⟨(i, o), by simp, h1⟩
    · obtain ⟨p, hp, hf⟩ := allR_some h; exact ⟨p, List.mem_cons_of_mem _ hp, hf⟩
/-- What U lists is undone. -/
def AWX (E : Env P) (base : Nat) (r : Option Nat) (ops : Array Oper) (U : List (Nat × Oper)) (S : St) (s : E.σ) (Q : Exit → St → E.σ → Prop) : Prop :=
  ∀ M a w, Cfg E base S s M a w → ∀ (fuel : Nat) (listed : Array Bool), U.length ≤ fuel → Pre ops listed (fun j => !undone U j) →
    wpAnyIn (FW r) 0 P .any ops (Post E base Q S M w) fuel listed a w
theorem lessU_undone {i j : Nat} : ∀ {U : List (Nat × Oper)}, (U.map Prod.fst).Nodup → undone (lessU i U) j = (undone U j && !(j == i))
  | [], _ => rfl
  | (k, o) :: q, h => by
    have ih := lessU_undone (i := i) (j := j) (U := q) (List.nodup_cons.1 h).2
    have hk := (List.nodup_cons.1 h).1
    unfold lessU
    split
    · rename_i e
      have := Nat.eq_of_beq_eq_true e
      subst this
      by_cases hj : j = k
      · subst hj
        simp only [beq_self_eq_true, Bool.not_true, Bool.and_false]
        cases hu : undone q j with
        | false => rfl
        | true => obtain ⟨o', ho'⟩ := undone_iff.1 hu; exact absurd (List.mem_map.2 ⟨_, ho', rfl⟩) hk
      · have e1 : (j == k) = false := by simp [hj]
        have e2 : Nat.beq k j = false := by cases hb : Nat.beq k j with
          | false => rfl
          | true => exact absurd (Nat.eq_of_beq_eq_true hb).symm hj
        simp [undone, e1, e2]
    · rename_i e
      simp only [undone]
      split
      · rename_i e2
        have := Nat.eq_of_beq_eq_true e2
        subst this
        have : (k == i) = false := by
          cases hb : (k == i) with
          | false => rfl
          | true => rw [eq_of_beq hb, Nat.beq_refl] at e; cases e
        simp [this]
      · exact ih
theorem lessU_sub {i : Nat} : ∀ {U : List (Nat × Oper)} {p : Nat × Oper}, p ∈ lessU i U → p ∈ U
  | [], p, h => by cases h
  | (k, o) :: q, p, h => by
    unfold lessU at h
    split at h
    · exact List.mem_cons_of_mem _ h
    · rcases List.mem_cons.1 h with e | e
      · rw [e]; simp
      · exact List.mem_cons_of_mem _ (lessU_sub e)
theorem lessU_len {i : Nat} : ∀ {U : List (Nat × Oper)}, undone U i = true → (lessU i U).length + 1 = U.length
  | [], h => by cases h
  | (k, o) :: q, h => by
    unfold undone at h
    unfold lessU
    split
    · simp
    · rename_i e
      rw [e] at h
      simp only at h
      simp [lessU_len h]
theorem lessU_nodup {i : Nat} : ∀ {U : List (Nat × Oper)}, (U.map Prod.fst).Nodup → ((lessU i U).map Prod.fst).Nodup
  | [], h => h
  | (k, o) :: q, h => by
    obtain ⟨h1, h2⟩ := List.nodup_cons.1 h
    unfold lessU
    split
    · exact h2
    · refine List.nodup_cons.2 ⟨fun hm => ?_, lessU_nodup h2⟩
      obtain ⟨p, hp, he⟩ := List.mem_map.1 hm
      exact h1 (List.mem_map.2 ⟨p, lessU_sub hp, he⟩)
theorem exK_spec {ops : Array Oper} {pz : List Nat} {Q : Exit → St → E.σ → Prop} {K : KSt → E.σ → Prop} (hT : ∀ t i, tb t = some i → TIOk P t i) (hQ : ∀ S s, K S s → Q .normal S.st s) :
    ∀ (n : Nat) (U : List (Nat × Oper)) (S : KSt) (s : E.σ), (∀ p ∈ U, ops[p.1]? = some p.2) → (U.map Prod.fst).Nodup → (∀ (i : Nat) (o : Oper), ops[i]? = some o → ∀ e ∈ o.after, e.on < ops.size) → exK (primK P E base r post) tb pz ops.toList n U S s K → AWX E base r ops U S.st s Q
  | 0, U, S, s, _, _, _, h => h.elim
  | n + 1, U, S, s, hU, hnd, hlt, h => by
    unfold exK at h
    cases U with
    | nil =>
      intro M a w hc fuel listed _ hp
      refine wpAnyIn_done ?_ ⟨S.st, s, M, hQ _ _ h, hc, Ext.refl _ _ _⟩ fuel
      refine List.eq_nil_iff_forall_not_mem.2 (fun i hi => ?_)
      have := (hp.ready.1 hi).1
      simp [undone] at this
    | cons p0 U0 =>
      obtain ⟨U, hUe⟩ : ∃ U, U = p0 :: U0 := ⟨_, rfl⟩
      simp only [← hUe] at h hU hnd ⊢
      intro M a w hc fuel listed hfuel hp
      have hsome := allR_some h
      obtain ⟨fuel, rfl⟩ : ∃ f, fuel = f + 1 := ⟨fuel - 1, by
        obtain ⟨p, hp', _⟩ := hsome
        have := List.length_pos_of_mem hp'
        omega⟩
      have hready : ∀ p ∈ U, freeE U p.2.after.toList = true → p.1 ∈ Region.ready .any ops listed := fun p hp' hf => hp.ready.2 ⟨by
          have : undone U p.1 = true := undone_iff.2 ⟨p.2, hp'⟩
          simp [this], p.2, hU p hp', fun e he hb => ⟨hlt _ _ (hU p hp') e he, by
          have := freeE_spec.1 hf e (by simpa using he) hb
          simp [this]⟩⟩
      refine ⟨fun h0 => ?_, fun i hi => ?_⟩
      · obtain ⟨p, hp', hf⟩ := hsome
        have := hready p hp' hf
        rw [h0] at this; cases this
      obtain ⟨hXi, o, ho, hdeps⟩ := hp.ready.1 hi
      have hun : undone U i = true := by simpa using hXi
      obtain ⟨o', ho'⟩ := undone_iff.1 hun
      have heq := hU _ ho'
      simp only at heq
      rw [ho] at heq
      simp only [Option.some.injEq] at heq
      subst heq
      have hf : freeE U o.after.toList = true := freeE_spec.2 (fun e he hb => by simpa using (hdeps e (by simpa using he) hb).2)
      have hstep := allR_spec h (i, o) ho' hf
      simp only at hstep
      have hset : Pre ops (listed.setIfInBounds i true) (fun j => !undone (lessU i U) j) := by
        have h0 := hp.set i
        refine ⟨h0.1, fun j hj => ?_⟩
        rw [h0.2 j hj]
        simp only
        rw [lessU_undone hnd]
        congr 1
        cases undone U j <;> cases (j == i) <;> rfl
      have hlen := lessU_len hun
      have next : ∀ (S' : KSt) (s' : E.σ), exK (primK P E base r post) tb pz ops.toList n (lessU i U) S' s' K → AWX E base r ops (lessU i U) S'.st s' Q := fun S' s' h => exK_spec hT hQ n _ S' s' (fun p hp => hU p (lessU_sub hp)) (lessU_nodup hnd) hlt h
      have bar : ∀ (S1 S' : KSt) (s' : E.σ), Leq S.st S1.st → guardB ops S1.st.T o = some true → Bar E o S1.st s S'.st s' → AWX E base r ops (lessU i U) S'.st s' Q → wpOpIn (FW r) 0 P ops (Post E base Q S.st M w) i (wpAnyIn (FW r) 0 P .any ops (Post E base Q S.st M w) fuel (listed.setIfInBounds i true)) a w := by
        intro S1 S' s' hleq hg hb hn
        have hc1 := hc.leq hleq
        unfold wpOpIn
        simp only [ho]
        rw [guardB_spec hg hc1.rel, if_pos rfl]
        refine hb r base M a w hc1 _ _ (fun v w' M' hc' hx' => ?_)
        refine wpAnyIn_mono' (fun e a _ k => k.later ((hleq.ext M w).trans hx')) _ _ _ _ (hn M' _ w' hc' fuel _ (by omega) hset)
      obtain ⟨S1, hleq, hstep⟩ := wantK_spec hstep
      rcases hstep with ⟨hg, hstep⟩ | ⟨hg, hstep⟩
      · split at hstep
        · replace hstep := kif_spec hstep; obtain ⟨hv, hstep⟩ := hstep
          have hnv : ¬ isVal o := by
            rintro (⟨f, args, ts, hop⟩ | ⟨x, b, hop⟩)
            · simp [notV, hop] at hv
            · simp [notV, hop] at hv
          obtain ⟨S2, s2, hb, hk⟩ := barK_bar hT hnv hstep
          exact bar S1 S2 s2 hleq hg hb (next _ _ hk)
        · obtain ⟨res, nh, no, hfr, hk⟩ := freeK_spec hT hstep
          replace hk := kif_spec hk; obtain ⟨h1, hk⟩ := hk
          simp only [Bool.and_eq_true] at h1
          have hc1 := hc.leq hleq
          have hn := next _ _ hk
          rw [KSt.add_st] at hn
          unfold wpOpIn
          simp only [ho]
          rw [guardB_spec hg hc1.rel, if_pos rfl]
          refine hfr r base M E.l a w hc1.rel _ _ (fun v w' M' hnew => ?_)
          obtain ⟨c2, x2⟩ := hc1.new hnew (freshK_spec h1.1.1 h1.1.2) (dstK_spec h1.2)
          exact wpAnyIn_mono' (fun e a _ k => k.later ((hleq.ext M w).trans x2)) _ _ _ _ (hn M' _ w' c2 fuel _ (by omega) hset)
      · replace hstep := kif_spec hstep; obtain ⟨h1, hk⟩ := hstep
        have hc1 := hc.leq hleq
        have hn := next _ _ hk
        rw [KSt.add_st] at hn
        unfold wpOpIn
        simp only [ho]
        rw [guardB_spec hg hc1.rel, if_neg (by simp)]
        obtain ⟨c2, x2⟩ := hc1.new (dst := o.dst) (New.plain (v := undef) (.tup [] #[] rfl (fun i c v h => by simp at h))) (fresh_nil _) (dstK_spec h1)
        exact ⟨fun f hf => trivial, wpAnyIn_mono' (fun e a _ k => k.later ((hleq.ext M w).trans x2)) _ _ _ _ (hn M _ w c2 fuel _ (by omega) hset)⟩
theorem enumU_get {l : List Oper} : ∀ {i : Nat} {p : Nat × Oper}, p ∈ enumU i l → i ≤ p.1 ∧ l[p.1 - i]? = some p.2 := by
  induction l with
  | nil => intro i p h; cases h
  | cons o q ih =>
    intro i p h
    rcases List.mem_cons.1 h with e | e
    · rw [e]; simp
    · obtain ⟨h1, h2⟩ := ih e
      refine ⟨by omega, ?_⟩
      rw [show p.1 - i = (p.1 - (i + 1)) + 1 from by omega]; exact h2
theorem enumU_len {l : List Oper} : ∀ {i : Nat}, (enumU i l).length = l.length := by
  induction l with
  | nil => intro i; rfl
  | cons o q ih => intro i; simp [enumU, ih]
theorem enumU_mem' {l : List Oper} : ∀ {i j : Nat} {o : Oper}, l[j]? = some o → (i + j, o) ∈ enumU i l := by
  induction l with
  | nil => intro i j o h; simp at h
  | cons o' q ih =>
    intro i j o h
    cases j with
    | zero => simp at h; subst h; simp [enumU]
    | succ j =>
      refine List.mem_cons_of_mem _ ?_
      have := ih (i := i + 1) (j := j) (o := o) (by simpa using h)
      rwa [show i + 1 + j = i + (j + 1) from by omega] at this
theorem enumU_mem {l : List Oper} {j : Nat} {o : Oper} (h : l[j]? = some o) : (j, o) ∈ enumU 0 l := by
  have := enumU_mem' (i := 0) h
  rwa [Nat.zero_add] at this
theorem enumU_nodup {l : List Oper} : ∀ {i : Nat}, ((enumU i l).map Prod.fst).Nodup := by
  induction l with
  | nil => intro i; exact List.nodup_nil
  | cons o q ih =>
    intro i
    refine List.nodup_cons.2 ⟨fun hm => ?_, ih⟩
    obtain ⟨p, hp, he⟩ := List.mem_map.1 hm
    have := (enumU_get hp).1
    simp only at he; omega
end Go.Proofs.Ytnekemldcjegaaa.Aw

/- The logic of abstract walks, part M23: regions whose order is drawn, with stores into boxes that the region itself makes. -/
namespace Go.Proofs.Ytnekemldcjegaaa.Aw
open Go Go.RowKit
set_option linter.unusedVariables false
set_option linter.unusedSimpArgs false
universe u
variable {P : Program} {E : Env P} {base : Nat} {r : Option Nat} {post : KV → List KRow → Prop} {tb : Nat → Option TI}
theorem segS_Tnone {ops : Array Oper} {X : Nat → Bool} {t : Nat} : ∀ (l : List Sg) (i : Nat) (S : St), (∀ j, j < l.length → dstAt ops (i + j) = none) → look (segS ops X i l S).T t = look S.T t
  | [], _, _, _ => rfl
  | g :: rest, i, S, h => by
    simp only [segS]
    rw [segS_Tnone rest (i + 1) _ (fun j hj => by have := h (j + 1) (by simp; omega); rwa [show i + (j + 1) = i + 1 + j from by omega] at this)]
    have h0 := h 0 (by simp)
    rw [Nat.add_zero] at h0
    rw [h0]
    cases X i <;> rfl
theorem segS_Hother {ops : Array Oper} {X : Nat → Bool} {b : Nat} : ∀ (l : List Sg) (i : Nat) (S : St), (∀ (j : Nat) (g : Sg), l[j]? = some g → X (i + j) = true → b ∉ keys g.nh) → look (segS ops X i l S).H b = look S.H b
  | [], _, _, _ => rfl
  | g :: rest, i, S, h => by
    simp only [segS]
    rw [segS_Hother rest (i + 1) _ (fun j g' hg hX => h (j + 1) g' (by simpa using hg) (by rw [show i + (j + 1) = i + 1 + j from by omega]; exact hX))]
    cases hX : X i with
    | false => rfl
    | true =>
      simp only [if_true, St.add, look_append]
      rw [look_none_of_key (h 0 g rfl (by simpa using hX)), Option.none_or]
theorem segS_Oother {ops : Array Oper} {X : Nat → Bool} {b : Nat} : ∀ (l : List Sg) (i : Nat) (S : St), (∀ (j : Nat) (g : Sg), l[j]? = some g → X (i + j) = true → b ∉ keys g.no) → look (segS ops X i l S).O b = look S.O b
  | [], _, _, _ => rfl
  | g :: rest, i, S, h => by
    simp only [segS]
    rw [segS_Oother rest (i + 1) _ (fun j g' hg hX => h (j + 1) g' (by simpa using hg) (by rw [show i + (j + 1) = i + 1 + j from by omega]; exact hX))]
    cases hX : X i with
    | false => rfl
    | true =>
      simp only [if_true, St.add, look_append]
      rw [look_none_of_key (h 0 g rfl (by simpa using hX)), Option.none_or]
/-- What has been done: free operations, then stores. -/
def stW (ops : Array Oper) (X : Nat → Bool) (Lf Lw : List Sg) (S : St) : St := segS ops X Lf.length Lw (segS ops X 0 Lf S)
theorem stW_n {ops : Array Oper} {X : Nat → Bool} {Lf Lw : List Sg} {S : St} : (stW ops X Lf Lw S).n = S.n := by unfold stW; rw [segS_n, segS_n]
theorem AWN_segw {ops : Array Oper} {S : St} {s : E.σ} {Q : Exit → St → E.σ → Prop} (B : List Nat) (Lf Lw : List Sg) (hB : depOk ops B = true) (hsz : Lf.length + Lw.length = ops.size)
    (hap : apartB ops B 0 Lf.length = true) (hdis : dis (keys S.H) (keys S.O) Lf = true) (hfr : freshL ops B 0 Lf S = true) (hob : Obls P ops B 0 Lf S 0 Lf)
    (hdn : ∀ j, j < Lw.length → dstAt ops (Lf.length + j) = none)
    (hpt : ∀ (p : Nat) (g : Sg) (q : Nat) (g' : Sg), Lf[p]? = some g → Lw[q]? = some g' → (B.getD (Lf.length + q) 0).testBit p = true ∨ ((∀ b ∈ keys g.nh, sgBox b g' = false) ∧ ∀ b ∈ keys g.no, sgRow b g' = false))
    (hnoO : ∀ (q : Nat) (g' : Sg), Lw[q]? = some g' → g'.no = [])
    (hno : ∀ (p : Nat) (o : Oper) (q : Nat) (g' : Sg), p < Lf.length → ops[p]? = some o → Lw[q]? = some g' → (B.getD (Lf.length + q) 0).testBit p = true ∨ ∀ b ∈ keys g'.nh, look (preS ops B 0 Lf S p o).H b = none)
    (hwr : ∀ (q : Nat) (g' : Sg), Lw[q]? = some g' → ∃ o, ops[Lf.length + q]? = some o ∧ o.guard = none ∧ ∀ (X : Nat → Bool), (∀ k, Dep ops (Lf.length + q) k → X k = true) → X (Lf.length + q) = false →
      (∀ j k, j < ops.size → X j = true → Dep ops j k → X k = true) → ∃ S'', Bar E o (stW ops X Lf Lw S) s S'' s ∧ Leq S'' (stW ops (fun j => X j || j == Lf.length + q) Lf Lw S))
    {S2 : St} (hl2 : Leq (stW ops (fun _ => true) Lf Lw S) S2) (h : Q .normal S2 s) : AWN E base r ops 0 S s Q := by
  intro M a w hc fuel listed hfuel hp
  have key : ∀ (c : Nat) (X : Nat → Bool), missing X 0 ops.size = c → (∀ j k, j < ops.size → X j = true → Dep ops j k → X k = true) →
      ∀ (fuel : Nat) (listed : Array Bool) (M' : Mp) (a' : Act) (w' : World), c ≤ fuel → Pre ops listed X → Cfg E base (stW ops X Lf Lw S) s M' a' w' → Ext S M w (stW ops X Lf Lw S) M' w' →
      wpAnyIn (FW r) 0 P .any ops (Post E base Q S M w) fuel listed a' w' := by
    intro c
    induction c with
    | zero =>
      intro X hmis hcl fuel listed M' a' w' hfuel hp hc' hx'
      have hall := missing_zero hmis
      have e : stW ops X Lf Lw S = stW ops (fun _ => true) Lf Lw S := by
        unfold stW
        rw [segS_congr (X := X) (Y := fun _ => true) Lf 0 S (fun j h1 h2 => by have := hall j (by omega); simpa using this)]
        exact segS_congr Lw Lf.length _ (fun j h1 h2 => by have := hall j (by omega); simpa using this)
      rw [e] at hc' hx'
      refine wpAnyIn_done ?_ ⟨_, s, M', h, hc'.leq hl2, hx'.trans (hl2.ext M' w')⟩ fuel
      refine List.eq_nil_iff_forall_not_mem.2 (fun i hi => ?_)
      obtain ⟨h1, o, ho, _⟩ := hp.ready.1 hi
      have := (Array.getElem?_eq_some_iff.1 ho).1
      have := hall i this
      rw [Nat.zero_add, h1] at this; cases this
    | succ c ih =>
      intro X hmis hcl fuel listed M' a' w' hfuel hp hc' hx'
      have hmiss : ∃ p, p < ops.size ∧ X p = false := by
        apply Classical.byContradiction
        intro hh
        have : missing X 0 ops.size = 0 := missing_full (fun j hj => by
          rw [Nat.zero_add]
          cases hX : X j with
          | true => rfl
          | false => exact absurd ⟨j, hj, hX⟩ hh)
        omega
      obtain ⟨p0, ⟨hp0, hX0⟩, hmin⟩ := exists_least (fun p => p < ops.size ∧ X p = false) hmiss
      obtain ⟨o0, ho0⟩ : ∃ o, ops[p0]? = some o := ⟨ops[p0]'(by omega), by simp⟩
      have hready0 : p0 ∈ Region.ready .any ops listed := hp.ready.2 ⟨hX0, o0, ho0, fun e he hb => by
        have hlt := depOk_edge hB ho0 he hb
        refine ⟨by omega, ?_⟩
        cases hX : X e.on with
        | true => rfl
        | false => have := hmin e.on ⟨by omega, hX⟩; omega⟩
      obtain ⟨fuel, rfl⟩ : ∃ f, fuel = f + 1 := ⟨fuel - 1, by omega⟩
      refine ⟨fun h0 => (by rw [h0] at hready0; cases hready0), fun i hi => ?_⟩
      obtain ⟨hXi, o, ho, hdeps⟩ := hp.ready.1 hi
      have hisz := (Array.getElem?_eq_some_iff.1 ho).1
      have hdep : ∀ k, Dep ops i k → X k = true := by
        intro k hk
        cases hk with
        | one ho' he hb => rw [ho] at ho'; cases ho'; exact (hdeps _ he hb).2
        | step ho' he hb hd => rw [ho] at ho'; cases ho'; exact hcl _ k (hdeps _ he hb).1 (hdeps _ he hb).2 hd
      have hnw : ∀ j, j < ops.size → X j = true → (B.getD j 0).testBit i = false := by
        intro j hj hXj
        cases hb : (B.getD j 0).testBit i with
        | false => rfl
        | true => have := hcl j _ hj hXj (depOk_sound hB j hj _ hb); rw [hXi] at this; cases this
      have hXsub : ∀ j, (B.getD i 0).testBit j = true → X j = true := fun j hj => hdep j (depOk_sound hB _ hisz j hj)
      -- one more is done
      have hgo : ∀ (M2 : Mp) (a2 : Act) (w2 : World), Cfg E base (stW ops (fun j => X j || j == i) Lf Lw S) s M2 a2 w2 → Ext S M w (stW ops (fun j => X j || j == i) Lf Lw S) M2 w2 →
          wpAnyIn (FW r) 0 P .any ops (Post E base Q S M w) fuel (listed.setIfInBounds i true) a2 w2 := by
        intro M2 a2 w2 c2 x2
        refine ih (fun j => X j || j == i) ?_ ?_ fuel _ M2 a2 w2 (by omega) (hp.set _) c2 x2
        · have := missing_set (X := X) (m := 0) (p := i) (n := ops.size) (by simpa using hXi) hisz
          simp only [Nat.zero_add] at this; omega
        · intro j k hj hXj hd
          simp only [Bool.or_eq_true, beq_iff_eq] at hXj ⊢
          rcases hXj with hXj | rfl
          · exact .inl (hcl j k hj hXj hd)
          · exact .inl (hdep k hd)
      by_cases hil : i < Lf.length
      · -- a free operation
        obtain ⟨g, hg⟩ : ∃ g, Lf[i]? = some g := ⟨Lf[i], by simp [hil]⟩
        have hob' := hob.get i g hg
        rw [Nat.zero_add] at hob'
        obtain ⟨o', ho', hgd, hdst, hfree, hskip⟩ := hob'
        rw [ho] at ho'; cases ho'
        have hwdone : ∀ (q : Nat) (g' : Sg), Lw[q]? = some g' → X (Lf.length + q) = true → (B.getD (Lf.length + q) 0).testBit i = false := fun q g' hq hX => hnw _ (by have := (List.getElem?_eq_some_iff.1 hq).1; omega) hX
        have hwa : ∀ (q : Nat) (g' : Sg), Lw[q]? = some g' → X (Lf.length + q) = true → (∀ b ∈ keys g.nh, sgBox b g' = false) ∧ ∀ b ∈ keys g.no, sgRow b g' = false := fun q g' hq hX => (hpt i g q g' hg hq).resolve_left (by rw [hwdone q g' hq hX]; simp)
        have hsub0 : Sub (segS ops X 0 Lf S) (preS ops B 0 Lf S i o) := by
          have hHO := segS_lookH (ops := ops) (X := fun j => (B.getD i 0).testBit j) (Y := X) Lf 0 S S (keys S.H) (keys S.O) (fun _ _ x => x) (fun _ _ x => x) (fun _ x => x) (fun _ x => x) hdis hXsub
          refine ⟨by rw [segS_n]; show (segS ops _ 0 Lf S).n = S.n; exact segS_n _ _ _, fun t c ht => ?_, hHO.1, hHO.2⟩
          have ht' : look ((segS ops (fun j => (B.getD i 0).testBit j) 0 Lf S).T.filter fun q => memN q.1 (names ops o)) t = some c := ht
          rw [look_filter (f := fun k => memN k (names ops o))] at ht'
          by_cases hn : memN t (names ops o) = true
          · rw [if_pos hn] at ht'
            rw [← ht']
            refine segS_look Lf 0 S S rfl (fun j g' hg' hd => ?_)
            have hj : j < Lf.length := (List.getElem?_eq_some_iff.1 hg').1
            rw [Nat.zero_add] at hd ⊢
            cases hXj : X j with
            | false =>
              cases hb : (B.getD i 0).testBit j with
              | false => rfl
              | true => rw [hXsub _ hb] at hXj; cases hXj
            | true =>
              simp only [apartB, List.all_eq_true, List.mem_range, Bool.or_eq_true, Nat.zero_add] at hap
              have := hap i hil j hj
              rw [ho, hd] at this
              simp only [hn, Bool.true_or, Bool.not_true, Bool.false_eq_true, or_false] at this
              rcases this with (h1 | h1) | h1
              · have : i = j := by simpa using h1
                subst this; rw [hXi] at hXj; cases hXj
              · exact h1.symm
              · rw [hnw j (by omega) hXj] at h1; cases h1
          · rw [if_neg hn] at ht'; cases ht'
        have hsub : Sub (stW ops X Lf Lw S) (preS ops B 0 Lf S i o) := by
          refine ⟨by rw [stW_n, hsub0.n, segS_n], fun t c ht => ?_, fun b B' hb => ?_, fun b R' hb => ?_⟩
          · unfold stW; rw [segS_Tnone Lw _ _ hdn]; exact hsub0.T t c ht
          · unfold stW
            rw [segS_Hother Lw _ _ (fun q g' hq hX hk => ?_)]
            · exact hsub0.H b B' hb
            · rcases hno i o q g' hil ho hq with h1 | h1
              · rw [hwdone q g' hq hX] at h1; cases h1
              · rw [h1 b hk] at hb; cases hb
          · unfold stW
            rw [segS_Oother Lw _ _ (fun q g' hq hX hk => by rw [hnoO q g' hq] at hk; cases hk)]
            exact hsub0.O b R' hb
        have hrel := hc'.rel.sub hsub
        have hfree0 : Fresh (segS ops X 0 Lf S) g.nh g.no := by
          simp only [freshL, List.all_eq_true, List.mem_range] at hfr
          have h1 := hfr i hil
          rw [hg] at h1
          simp only [Bool.and_eq_true, List.all_eq_true, List.mem_range, Bool.or_eq_true, Nat.zero_add] at h1
          have h2 := fresh_of h1.1
          have h3 : ∀ (j : Nat) (g' : Sg), Lf[j]? = some g' → X (0 + j) = true → (∀ b ∈ keys g.nh, sgBox b g' = false) ∧ ∀ b ∈ keys g.no, sgRow b g' = false := by
            intro j g' hg' hXj
            rw [Nat.zero_add] at hXj
            have hj : j < Lf.length := (List.getElem?_eq_some_iff.1 hg').1
            rcases h1.2 j hj with (h4 | h4) | h4
            · have : i = j := by simpa using h4
              subst this; rw [hXi] at hXj; cases hXj
            · rw [hnw j (by omega) hXj] at h4; cases h4
            · rw [hg'] at h4
              simp only [Bool.and_eq_true, List.all_eq_true, Bool.not_eq_true'] at h4
              exact h4
          exact ⟨fun b hb => segS_uses Lf 0 S (h2.box b hb) (fun j g' hg' hXj => (h3 j g' hg' hXj).1 b hb), fun b hb => segS_usesRow Lf 0 S (h2.row b hb) (fun j g' hg' hXj => (h3 j g' hg' hXj).2 b hb), fun b hb => by rw [segS_low]; exact h2.bl b hb, fun b hb => by rw [segS_low]; exact h2.rl b hb⟩
        have hfree' : Fresh (stW ops X Lf Lw S) g.nh g.no :=
          ⟨fun b hb => segS_uses Lw _ _ (hfree0.box b hb) (fun q g' hq hX => (hwa q g' hq hX).1 b hb), fun b hb => segS_usesRow Lw _ _ (hfree0.row b hb) (fun q g' hq hX => (hwa q g' hq hX).2 b hb), fun b hb => by unfold stW; rw [segS_low]; exact hfree0.bl b hb, fun b hb => by unfold stW; rw [segS_low]; exact hfree0.rl b hb⟩
        have hdst' : dstOk (stW ops X Lf Lw S) o.dst = true := by
          cases hd : o.dst with
          | none => rfl
          | some t => rw [hd] at hdst; simp only [dstOk] at hdst ⊢; rw [stW_n]; exact hdst
        have hdAt : dstAt ops i = o.dst := by simp [dstAt, ho]
        have hmore0 : Leq ((segS ops X 0 Lf S).add (dstAt ops i) g.res g.nh g.no) (segS ops (fun j => X j || j == i) 0 Lf S) := by
          have := segS_more (ops := ops) (X := X) (m := 0) (S := S) hg (by rw [Nat.zero_add]; exact hXi) (fun j g' hg' hpj hXj => ⟨fun t ht hd => ?_, fun b hb hb' => ?_, fun b hb hb' => ?_⟩)
          · simpa using this
          all_goals rw [Nat.zero_add] at hXj
          all_goals have hj : j < Lf.length := (List.getElem?_eq_some_iff.1 hg').1
          · simp only [apartB, List.all_eq_true, List.mem_range, Bool.or_eq_true, Nat.zero_add] at hap
            have := hap i hil j hj
            rw [Nat.zero_add] at ht hd
            rw [hdAt] at ht
            rw [ho, hd] at this
            simp only [ht, beq_self_eq_true, Bool.or_true, Bool.not_true, Bool.false_eq_true, or_false] at this
            rcases this with (h1 | h1) | h1
            · have : i = j := by simpa using h1
              omega
            · have := (depOk_sound hB _ hisz _ h1).lt hB; omega
            · rw [hnw j (by omega) hXj] at h1; cases h1
          · simp only [freshL, List.all_eq_true, List.mem_range] at hfr
            have h1 := hfr i hil
            rw [hg] at h1
            simp only [Bool.and_eq_true, List.all_eq_true, List.mem_range, Bool.or_eq_true, Nat.zero_add] at h1
            rcases h1.2 j hj with (h4 | h4) | h4
            · have : i = j := by simpa using h4
              omega
            · rw [hnw j (by omega) hXj] at h4; cases h4
            · rw [hg'] at h4
              simp only [Bool.and_eq_true, List.all_eq_true, Bool.not_eq_true'] at h4
              have := h4.1 b hb
              simp [sgBox, memN_iff.2 hb'] at this
          · simp only [freshL, List.all_eq_true, List.mem_range] at hfr
            have h1 := hfr i hil
            rw [hg] at h1
            simp only [Bool.and_eq_true, List.all_eq_true, List.mem_range, Bool.or_eq_true, Nat.zero_add] at h1
            rcases h1.2 j hj with (h4 | h4) | h4
            · have : i = j := by simpa using h4
              omega
            · rw [hnw j (by omega) hXj] at h4; cases h4
            · rw [hg'] at h4
              simp only [Bool.and_eq_true, List.all_eq_true, Bool.not_eq_true'] at h4
              have := h4.2 b hb
              simp [sgRow, memN_iff.2 hb'] at this
        have hcongr : segS ops (fun j => X j || j == i) Lf.length Lw (segS ops (fun j => X j || j == i) 0 Lf S) = segS ops X Lf.length Lw (segS ops (fun j => X j || j == i) 0 Lf S) := segS_congr Lw Lf.length _ (fun j h1 h2 => by
          have : (j == i) = false := by simp; omega
          simp [this])
        have hmore : Leq ((stW ops X Lf Lw S).add (dstAt ops i) g.res g.nh g.no) (stW ops (fun j => X j || j == i) Lf Lw S) := by
          unfold stW
          rw [hcongr]
          refine (segS_late Lw Lf.length _ (fun q g' hq hX => ⟨fun t ht => ?_, fun b hb hb' => ?_, fun b hb hb' => ?_⟩)).trans (segS_leq Lw _ hmore0)
          · rw [hdn q (List.getElem?_eq_some_iff.1 hq).1]; simp
          · have := (hwa q g' hq hX).1 b hb
            simp [sgBox, memN_iff.2 hb'] at this
          · rw [hnoO q g' hq] at hb'; cases hb'
        have hnext : ∀ (v : Value) (M2 : Mp) (w2 : World), Cfg E base ((stW ops X Lf Lw S).add o.dst g.res g.nh g.no) s M2 (a'.put o.dst v) w2 → Ext (stW ops X Lf Lw S) M' w' ((stW ops X Lf Lw S).add o.dst g.res g.nh g.no) M2 w2 →
            wpAnyIn (FW r) 0 P .any ops (Post E base Q S M w) fuel (listed.setIfInBounds i true) (a'.put o.dst v) w2 := by
          intro v M2 w2 c2 x2
          rw [← hdAt] at c2 x2
          rw [hdAt] at c2
          rw [← hdAt] at c2
          rw [← hdAt]
          exact hgo M2 _ w2 (c2.leq hmore) ((hx'.trans x2).trans (hmore.ext M2 w2))
        unfold wpOpIn
        simp only [ho]
        cases hrun : g.run with
        | true =>
          rw [guardB_spec hgd hrel, hrun, if_pos rfl]
          refine hfree hrun r base M' E.l a' w' hrel _ _ (fun v w2 M2 hn => ?_)
          obtain ⟨c2, x2⟩ := hc'.new hn hfree' hdst'
          exact hnext v M2 w2 c2 x2
        | false =>
          rw [guardB_spec hgd hrel, hrun]
          simp only [Bool.false_eq_true, if_false]
          obtain ⟨e1, e2, e3⟩ := hskip hrun
          refine ⟨fun _ _ => trivial, ?_⟩
          have hn : New M' E.l w' g.nh g.no g.res undef M' w' := by rw [e1, e2, e3]; exact { New.skip with res := .tup [] #[] rfl (fun i c v h => by simp at h) }
          obtain ⟨c2, x2⟩ := hc'.new hn hfree' hdst'
          exact hnext undef M' w' c2 x2
      · -- a store
        obtain ⟨q, rfl⟩ : ∃ q, i = Lf.length + q := ⟨i - Lf.length, by omega⟩
        obtain ⟨g', hg'⟩ : ∃ g, Lw[q]? = some g := ⟨Lw[q]'(by omega), by simp⟩
        obtain ⟨o', ho', hgn, hbar⟩ := hwr q g' hg'
        rw [ho] at ho'; cases ho'
        obtain ⟨S'', hb, hl⟩ := hbar X hdep hXi hcl
        unfold wpOpIn
        simp only [ho]
        have hgd : guardB ops (stW ops X Lf Lw S).T o = some true := by unfold guardB; rw [hgn]
        rw [guardB_spec hgd hc'.rel, if_pos rfl]
        exact hb r base M' a' w' hc' _ _ (fun v w2 M2 c2 x2 => hgo M2 _ w2 (c2.leq hl) ((hx'.trans x2).trans (hl.ext M2 w2)))
  have hX0 : stW ops (fun j => Nat.blt j 0) Lf Lw S = S := by
    have : ∀ (l : List Sg) (i : Nat) (S : St), segS ops (fun j => Nat.blt j 0) i l S = S := by
      intro l
      induction l with
      | nil => intro _ _; rfl
      | cons g rest ih =>
        intro i S
        have hb : Nat.blt i 0 = false := by cases hh : Nat.blt i 0 with | false => rfl | true => rw [Nat.blt_eq] at hh; omega
        simp only [segS, hb, Bool.false_eq_true, if_false]
        exact ih (i + 1) S
    unfold stW
    rw [this, this]
  have hmis0 : missing (fun j => Nat.blt j 0) 0 ops.size = ops.size := by
    generalize ops.size = n
    induction n with
    | zero => rfl
    | succ n ih =>
      have hb : Nat.blt (0 + n) 0 = false := by cases hh : Nat.blt (0 + n) 0 with | false => rfl | true => rw [Nat.blt_eq] at hh; omega
      simp only [missing, ih, hb]; rfl
  refine key ops.size (fun j => Nat.blt j 0) hmis0 (fun j k hj hX hd => ?_) fuel listed M a w (by omega) hp (by rw [hX0]; exact hc) (by rw [hX0]; exact Ext.refl _ _ _)
  rw [Nat.blt_eq] at hX; omega
/-! Evaluation. -/
theorem drawFK_spec {ops : Array Oper} {pz : List Nat} (hT : ∀ t i, tb t = some i → TIOk P t i) (hB : depOk ops (depsK ops.toList []) = true) (hap : apartB ops (depsK ops.toList []) 0 ops.size = true) {K : KSt → List (Nat × SgK) → Prop} :
    ∀ (n : Nat) (rest : List Oper) (i : Nat) (L : List Sg) (S0 S : KSt) (Rs : List (Nat × SgK)) (s : E.σ), (∀ (j : Nat) (o : Oper), rest[j]? = some o → ops[i + j]? = some o) → i = L.length →
    SegInv P ops (depsK ops.toList []) 0 L S0 S Rs → (∀ p ∈ Rs, p.1 < i) → drawFK (primK P E base r post) tb pz ops.toList n rest i S0 Rs S s K → ∃ L' S' Rs', SegInv P ops (depsK ops.toList []) 0 L' S0 S' Rs' ∧ L'.length = i + n ∧ (∀ p ∈ Rs', p.1 < i + n) ∧ K S' Rs'
  | 0, rest, i, L, S0, S, Rs, s, hl, him, hinv, hR, h => ⟨L, S, Rs, hinv, by omega, fun p hp => hR p hp, by unfold drawFK at h; exact h⟩
  | n + 1, [], i, L, S0, S, Rs, s, hl, him, hinv, hR, h => by unfold drawFK at h; exact h.elim
  | n + 1, o :: rest, i, L, S0, S, Rs, s, hl, him, hinv, hR, h => by
    have ho : ops[i]? = some o := by simpa using hl 0 o rfl
    have hisz := (Array.getElem?_eq_some_iff.1 ho).1
    have hrest : ∀ (j : Nat) (o : Oper), rest[j]? = some o → ops[i + 1 + j]? = some o := fun j o h => by
      have := hl (j + 1) o (by simpa using h)
      rwa [show i + (j + 1) = i + 1 + j from by omega] at this
    unfold drawFK at h
    obtain ⟨S', hleq, h⟩ := wantK_spec h
    have hinv := hinv.leq' hleq
    have step : ∀ (gk : SgK) (run : Bool), guardB ops S'.st.T o = some run → dstK S' o.dst = true → freshKH S' gk.nh = true → freshKO S' gk.no = true → freshKH S0 gk.nh = true → freshKO S0 gk.no = true → okNew ops.toList i gk Rs = true →
        (run = true → Free P o (KSt.st ⟨S'.n, restrK S'.T (namesK ops.toList o), S0.H, S0.O, S'.low⟩) gk.res.av (mapH gk.nh) (mapO gk.no)) → (run = false → gk = ⟨.tup [], [], []⟩) →
        drawFK (primK P E base r post) tb pz ops.toList n rest (i + 1) S0 ((i, gk) :: Rs) (S'.add o.dst gk.res gk.nh gk.no) s K → ∃ L' S' Rs', SegInv P ops (depsK ops.toList []) 0 L' S0 S' Rs' ∧ L'.length = i + (n + 1) ∧ (∀ p ∈ Rs', p.1 < i + (n + 1)) ∧ K S' Rs' := fun gk run hg hd f1 f2 f3 f4 f5 hr hs h => by
      subst him
      have one := SegInv.snoc (m := 0) hB hinv (o := o) (by rw [Nat.zero_add]; exact ho) hg hd f1 f2 f3 f4 (by rw [Nat.zero_add]; exact f5) hr hs (cnt := ops.size) hisz hap
      rw [Nat.zero_add] at one
      have := drawFK_spec hT hB hap n rest (L.length + 1) (L ++ [sgOf gk run]) S0 _ _ s hrest (by simp) one (fun p hp => by
        rcases List.mem_cons.1 hp with rfl | hp
        · exact Nat.lt_succ_self _
        · have := hR p hp; omega) h
      rwa [show L.length + 1 + n = L.length + (n + 1) from by omega] at this
    rcases h with ⟨hg, h⟩ | ⟨hg, h⟩
    · obtain ⟨res, nh, no, hf, h⟩ := freeK_spec hT h
      replace h := kif_spec h; obtain ⟨h1, h⟩ := h
      simp only [Bool.and_eq_true] at h1
      obtain ⟨⟨⟨⟨⟨f1, f2⟩, f3⟩, f4⟩, f5⟩, f6⟩ := h1
      exact step ⟨res, nh, no⟩ true hg f5 f1 f2 f3 f4 f6 (fun _ => hf) (fun h => by cases h) h
    · replace h := kif_spec h; obtain ⟨h1, h⟩ := h
      simp only [Bool.and_eq_true] at h1
      exact step ⟨.tup [], [], []⟩ false hg h1.1 rfl rfl rfl rfl h1.2 (fun h => by cases h) (fun _ => rfl) h
theorem onlyBy_spec {b i : Nat} {D : List Nat} : ∀ {Rs : List (Nat × SgK)}, onlyBy b D i Rs = true → ∀ p ∈ Rs, b ∈ ks p.2.nh → (D.getD i 0).testBit p.1 = true
  | [], h, p, hp, _ => by cases hp
  | (j, g) :: r, h, p, hp, hb => by
    unfold onlyBy at h
    split at h
    · simp only [Bool.and_eq_true] at h
      rcases List.mem_cons.1 hp with rfl | hp
      · exact h.1
      · exact onlyBy_spec h.2 p hp hb
    · rename_i hm
      rcases List.mem_cons.1 hp with rfl | hp
      · rw [memN_iff.2 hb] at hm; cases hm
      · exact onlyBy_spec h p hp hb
theorem notIn_spec {b i : Nat} {D : List Nat} : ∀ {Rs : List (Nat × SgK)}, notIn b D i Rs = true → ∀ p ∈ Rs, b ∈ ks p.2.nh → (D.getD i 0).testBit p.1 = false
  | [], h, p, hp, _ => by cases hp
  | (j, g) :: r, h, p, hp, hb => by
    unfold notIn at h
    split at h
    · simp only [Bool.and_eq_true, Bool.not_eq_true'] at h
      rcases List.mem_cons.1 hp with rfl | hp
      · exact h.1
      · exact notIn_spec h.2 p hp hb
    · rename_i hm
      rcases List.mem_cons.1 hp with rfl | hp
      · rw [memN_iff.2 hb] at hm; cases hm
      · exact notIn_spec h p hp hb
theorem unreadW_spec {b i : Nat} {D : List Nat} {Rs : List (Nat × SgK)} : ∀ {n : Nat}, unreadW b D i Rs n = true → ∀ p, p < n → (D.getD i 0).testBit p = true ∨ ∀ q ∈ Rs, b ∈ ks q.2.nh → (D.getD p 0).testBit q.1 = false
  | 0, _, p, hp => by omega
  | n + 1, h, p, hp => by
    simp only [unreadW, Bool.and_eq_true, Bool.or_eq_true] at h
    by_cases e : p = n
    · subst e; exact h.1.imp id notIn_spec
    · exact unreadW_spec h.2 p (by omega)
theorem freeN_le : ∀ (l : List Oper), freeN l ≤ l.length
  | [] => Nat.le_refl _
  | o :: r => by
    simp only [freeN]
    split
    · simp
    · have := freeN_le r; simp; omega
theorem allWr_get : ∀ {l : List Oper}, allWr l = true → ∀ o ∈ l, isWr o = true
  | [], _, o, h => by cases h
  | x :: r, h, o, ho => by
    simp only [allWr] at h
    split at h
    · rename_i hx
      rcases List.mem_cons.1 ho with rfl | ho
      · exact hx
      · exact allWr_get h o ho
    · cases h
theorem isWr_spec {o : Oper} (h : isWr o = true) : o.guard = none ∧ o.dst = none := by
  unfold isWr at h
  split at h
  · split at h
    · rename_i hg
      split at h
      · rename_i hd; exact ⟨hg, hd⟩
      · cases h
    · cases h
  · cases h
/-- What a store owes. -/
structure WrI (tb : Nat → Option TI) (ops : Array Oper) (n : Nat) (H0 : List Nat) (Rs : List (Nat × SgK)) (Sf : KSt) (i b : Nat) (B : KBlk) : Prop where
  ex : ∃ o t p x off d cs ti B0, ops[i]? = some o ∧ o.op = .store t p x ∧ kop Sf.T p = some (.loc b off) ∧ kop Sf.T x = some d ∧ cellsK d = some cs ∧ tb t = some ti ∧ ti.sz = lenK cs ∧ lk Sf.H b = some B0 ∧ B0.live = true ∧ allD B0.cells = true ∧ allD cs = true ∧ Nat.ble (off + lenK cs) (lenK B0.cells) = true ∧ B = ⟨B0.e, putK B0.cells off cs, true⟩ ∧ b ∉ H0 ∧ ownW b (depsK ops.toList []) i n Rs = true
theorem putK_allD {cells cs : List KV} {off : Nat} (h : allD cells = true) (h1 : allD cs = true) : allD (putK cells off cs) = true := by
  have key : ∀ {l : List KV}, allD l = true ↔ ∀ c ∈ l, c.isD = true := fun {l} => ⟨allD_get, fun hh => by
    induction l with
    | nil => rfl
    | cons c r ih => simp only [allD, Bool.and_eq_true]; exact ⟨hh c (by simp), ih (fun c' hc => hh c' (by simp [hc]))⟩⟩
  rw [key] at h h1 ⊢
  intro c hc
  unfold putK at hc
  simp only [List.mem_append] at hc
  rcases hc with (hc | hc) | hc
  · rw [takeK_eq] at hc; exact h c (List.mem_of_mem_take hc)
  · exact h1 c hc
  · rw [dropK_eq] at hc; exact h c (List.mem_of_mem_drop hc)
theorem lk_stA {α : Type u} {b : Nat} {v u : α} : ∀ {l : List (Nat × α)}, lk l b = some u → ∀ b', lk (stA l b v) b' = if b = b' then some v else lk l b'
  | [], h, b' => by cases h
  | (k, w) :: r, h, b' => by
    rw [lk_cons] at h
    rw [stA_cons]
    by_cases e : k = b
    · subst e
      rw [if_pos rfl, lk_cons]
      by_cases e2 : k = b'
      · rw [if_pos e2, if_pos e2]
      · rw [if_neg e2, if_neg e2, lk_cons, if_neg e2]
    · rw [if_neg e] at h
      rw [if_neg e, lk_cons, lk_cons]
      by_cases e2 : k = b'
      · rw [if_pos e2, if_pos e2, if_neg (fun e3 => e (e2.trans e3.symm))]
      · rw [if_neg e2, if_neg e2, lk_stA h b']
theorem lk_mem {α : Type u} {b : Nat} {v : α} : ∀ {l : List (Nat × α)}, lk l b = some v → ∃ q : Nat, l[q]? = some (b, v)
  | [], h => by cases h
  | (k, w) :: r, h => by
    rw [lk_cons] at h
    by_cases e : k = b
    · subst e; rw [if_pos rfl] at h; cases h; exact ⟨0, rfl⟩
    · rw [if_neg e] at h
      obtain ⟨q, hq⟩ := lk_mem h
      exact ⟨q + 1, by simpa using hq⟩
theorem wrK_spec {ops : Array Oper} {n : Nat} {H0 : List Nat} {Rs : List (Nat × SgK)} {Sf : KSt} {s : E.σ} {K : KSt → Prop} : ∀ (l : List Oper) (i : Nat) (bs : List Nat) (S : KSt), (∀ (j : Nat) (o : Oper), l[j]? = some o → ops[i + j]? = some o) → S.n = Sf.n → S.T = Sf.T → S.O = Sf.O → S.low = Sf.low → (∀ b, b ∉ bs → lk S.H b = lk Sf.H b) →
    wrK tb (depsK ops.toList []) n H0 Rs l i bs S s K → ∃ (W : List (Nat × KBlk)) (S' : KSt), W.length = l.length ∧ (∀ (q b : Nat) (B : KBlk), W[q]? = some (b, B) → WrI tb ops n H0 Rs Sf (i + q) b B ∧ b ∉ bs) ∧ (W.map Prod.fst).Nodup ∧ K S' ∧ S'.n = Sf.n ∧ S'.T = Sf.T ∧ S'.O = Sf.O ∧ S'.low = Sf.low ∧
      ∀ b, lk S'.H b = match lk W b with | some B => some B | none => lk S.H b
  | [], i, bs, S, hl, hn, hT, hO, hlow, hH, h => ⟨[], S, rfl, fun q b B hq => by simp at hq, List.nodup_nil, by unfold wrK at h; exact h, hn, hT, hO, hlow, fun b => rfl⟩
  | o :: r, i, bs, S, hl, hn, hT, hO, hlow, hH, h => by
    have ho : ops[i]? = some o := by simpa using hl 0 o rfl
    unfold wrK at h
    split at h
    · rename_i t p x hop
      replace h := kk_spec h; obtain ⟨c, hc, h⟩ := h
      replace h := kk_spec h; obtain ⟨d, hd, h⟩ := h
      replace h := kk_spec h; obtain ⟨cs, hcs, h⟩ := h
      replace h := kk_spec h; obtain ⟨ti, hti, h⟩ := h
      replace h := kif_spec h; obtain ⟨h1, h⟩ := h
      have h1 := Nat.eq_of_beq_eq_true h1
      split at h
      · rename_i b off
        replace h := kk_spec h; obtain ⟨B0, hB0, h⟩ := h
        replace h := kif_spec h; obtain ⟨h2, h⟩ := h
        simp only [Bool.and_eq_true, Bool.not_eq_true'] at h2
        obtain ⟨⟨⟨⟨⟨⟨g1, g2⟩, g3⟩, g4⟩, g5⟩, g7⟩, g6⟩ := h2
        have hbs : b ∉ bs := fun hh => by rw [memN_iff.2 hh] at g5; cases g5
        have hlk : ∀ b', lk (stA S.H b ⟨B0.e, putK B0.cells off cs, true⟩) b' = if b = b' then some ⟨B0.e, putK B0.cells off cs, true⟩ else lk S.H b' := lk_stA hB0
        obtain ⟨W, S', e1, e2, e3, e4, e5, e6, e7, e8, e9⟩ := wrK_spec r (i + 1) (b :: bs) ⟨S.n, S.T, stA S.H b ⟨B0.e, putK B0.cells off cs, true⟩, S.O, S.low⟩ (fun j o' hj => by
          have := hl (j + 1) o' (by simpa using hj)
          rwa [show i + (j + 1) = i + 1 + j from by omega] at this) hn hT hO hlow (fun b' hb' => by
            simp only [List.mem_cons, not_or] at hb'
            exact (hlk b').trans ((if_neg (fun e => hb'.1 e.symm)).trans (hH b' hb'.2))) h
        refine ⟨(b, ⟨B0.e, putK B0.cells off cs, true⟩) :: W, S', by simp [e1], fun q b' B' hq => ?_, ?_, e4, e5, e6, e7, e8, fun b' => ?_⟩
        · cases q with
          | zero =>
            cases hq
            refine ⟨⟨o, t, p, x, off, d, cs, ti, B0, ho, hop, hT ▸ hc, hT ▸ hd, hcs, hti, h1, by rw [← hH b hbs]; exact hB0, g1, g2, g3, g4, rfl, (fun hh => by rw [memN_iff.2 hh] at g7; cases g7), g6⟩, hbs⟩
          | succ q =>
            obtain ⟨k1, k2⟩ := e2 q b' B' (by simpa using hq)
            rw [show i + (q + 1) = i + 1 + q from by omega]
            exact ⟨k1, fun hh => k2 (List.mem_cons_of_mem _ hh)⟩
        · simp only [List.map_cons, List.nodup_cons]
          refine ⟨fun hh => ?_, e3⟩
          obtain ⟨⟨b', B'⟩, hm, rfl⟩ := List.mem_map.1 hh
          obtain ⟨q, hq⟩ := List.mem_iff_getElem?.1 hm
          exact (e2 q _ B' hq).2 (by simp)
        · rw [e9 b', lk_cons]
          by_cases e : b = b'
          · subst e
            rw [if_pos rfl]
            have hnone : lk W b = none := by
              cases hh : lk W b with
              | none => rfl
              | some B' =>
                obtain ⟨q, hq⟩ := lk_mem hh
                exact absurd (by simp) (e2 q _ B' hq).2
            rw [hnone]
            exact (hlk b).trans (if_pos rfl)
          · rw [if_neg e]
            cases lk W b' with
            | some B' => rfl
            | none => simp only; rw [hlk, if_neg e]
      · exact h.elim
    · exact h.elim
def wrSg (p : Nat × KBlk) : Sg := ⟨.any, [(p.1, p.2.blk)], [], true⟩
theorem segS_has {ops : Array Oper} {X : Nat → Bool} {b : Nat} : ∀ (l : List Sg) (i : Nat) (S : St), (b ∈ keys S.H ∨ ∃ (j : Nat) (g : Sg), l[j]? = some g ∧ X (i + j) = true ∧ b ∈ keys g.nh) → b ∈ keys (segS ops X i l S).H
  | [], i, S, h => by
    rcases h with h | ⟨j, g, h, _⟩
    · exact h
    · simp at h
  | g :: rest, i, S, h => by
    simp only [segS]
    refine segS_has rest (i + 1) _ ?_
    rcases h with h | ⟨j, g', hg, hX, hb⟩
    · left
      cases X i with
      | false => exact h
      | true => simp only [if_true, St.add, keys_append, List.mem_append]; exact .inr h
    · cases j with
      | zero =>
        cases hg
        left
        rw [Nat.add_zero] at hX
        rw [hX]
        simp only [if_true, St.add, keys_append, List.mem_append]; exact .inl hb
      | succ j => exact .inr ⟨j, g', by simpa using hg, by rw [show i + 1 + j = i + (j + 1) from by omega]; exact hX, hb⟩
theorem segW_look {ops : Array Oper} {b : Nat} : ∀ (W : List (Nat × KBlk)) (i : Nat) (T : St), (W.map Prod.fst).Nodup → look (segS ops (fun _ => true) i (W.map wrSg) T).H b = match lk W b with | some B => some B.blk | none => look T.H b
  | [], i, T, h => rfl
  | (b', B') :: r, i, T, h => by
    simp only [List.map_cons, List.nodup_cons] at h
    simp only [List.map_cons, segS, if_true]
    rw [segW_look r (i + 1) _ h.2, lk_cons]
    by_cases e : b' = b
    · subst e
      have hn : lk r b' = none := by
        cases hh : lk r b' with
        | none => rfl
        | some B =>
          obtain ⟨q, hq⟩ := lk_mem hh
          exact absurd (List.mem_map_of_mem (f := Prod.fst) (List.mem_of_getElem? hq)) h.1
      rw [hn, if_pos rfl]
      simp [St.add, wrSg, look]
    · rw [if_neg e]
      cases lk r b with
      | some B => rfl
      | none => simp [St.add, wrSg, look, e]
theorem avL_box {b : Nat} : ∀ {l : List KV}, allD l = true → (KV.avL l).any (fun c => c.box b) = false ∧ (KV.avL l).any (fun c => c.hasRow b) = false
  | [], _ => ⟨rfl, rfl⟩
  | c :: r, h => by
    simp only [allD, Bool.and_eq_true] at h
    obtain ⟨h1, h2⟩ := avL_box (b := b) h.2
    simp only [KV.avL, List.any_cons, KV.isD_av h.1, h1, h2, Bool.or_false]
    exact ⟨rfl, rfl⟩
theorem opnd_congr {T T' : List (Nat × AV)} {p : Operand} (h : ∀ t, p = .tmp t → look T t = look T' t) : opnd T p = opnd T' p := by
  cases p with
  | tmp t => exact h t rfl
  | _ => rfl
theorem drawW_spec {ops : Array Oper} {pz : List Nat} (hT : ∀ t i, tb t = some i → TIOk P t i) {S : KSt} {s : E.σ} {Q : Exit → St → E.σ → Prop} {K : KSt → E.σ → Prop} (hQ : ∀ S s, K S s → Q .normal S.st s) (h : drawW (primK P E base r post) tb pz ops S s K) : AWN E base r ops 0 S.st s Q := by
  replace h := kif_spec h; obtain ⟨hok, h⟩ := h
  simp only [wOk, Bool.and_eq_true] at hok
  obtain ⟨⟨hB, hap⟩, haw⟩ := hok
  obtain ⟨L, Sf, Rs, hinv, hlen, hRlt, hk⟩ := drawFK_spec hT hB hap _ _ 0 [] S S [] s (fun j o h => by simpa using h) rfl (segInv_nil _ _ _ _) (fun p hp => by cases hp) h
  rw [Nat.zero_add] at hlen hRlt
  have hfn := freeN_le ops.toList
  rw [← hlen] at hk haw hfn
  have hdrop : ∀ (j : Nat) (o : Oper), (ops.toList.drop L.length)[j]? = some o → ops[L.length + j]? = some o := fun j o h => by rw [List.getElem?_drop] at h; simpa using h
  obtain ⟨W, S', w1, w2, w3, w4, w5, w6, w7, w8, w9⟩ := wrK_spec _ _ [] _ hdrop rfl rfl rfl rfl (fun _ _ => rfl) hk
  have hsz : L.length + W.length = ops.size := by
    rw [w1, List.length_drop]; simp only [Array.length_toList] at hfn ⊢; omega
  have hwq : ∀ (q : Nat) (g' : Sg), (W.map wrSg)[q]? = some g' → ∃ b B, W[q]? = some (b, B) ∧ g' = wrSg (b, B) ∧ WrI tb ops L.length (ks S.H) Rs Sf (L.length + q) b B := fun q g' hq => by
    rw [List.getElem?_map] at hq
    cases hh : W[q]? with
    | none => rw [hh] at hq; cases hq
    | some p =>
      obtain ⟨b, B⟩ := p
      rw [hh] at hq; cases hq
      exact ⟨b, B, rfl, rfl, (w2 q b B hh).1⟩
  have hisW : ∀ j, j < W.length → ∃ o, ops[L.length + j]? = some o ∧ isWr o = true := fun j hj => by
    have hlt : L.length + j < ops.size := by omega
    refine ⟨ops[L.length + j], by simp [hlt], allWr_get haw _ ?_⟩
    refine List.mem_of_getElem? (i := j) ?_
    rw [List.getElem?_drop]; simp [hlt]
  have hdn : ∀ j, j < (W.map wrSg).length → dstAt ops (L.length + j) = none := fun j hj => by
    obtain ⟨o, ho, hw⟩ := hisW j (by simpa using hj)
    simp [dstAt, ho, (isWr_spec hw).2]
  have hrs : ∀ (p : Nat) (g : Sg), L[p]? = some g → ∃ gk run, (p, gk) ∈ Rs ∧ g = sgOf gk run := fun p g hp => by
    have := hinv.rs p g hp; rwa [Nat.zero_add] at this
  have hap' : apartB ops (depsK ops.toList []) 0 L.length = true := by
    simp only [apartB, List.all_eq_true, List.mem_range] at hap ⊢
    exact fun i hi j hj => hap i (by omega) j (by omega)
  have hcells : ∀ {i b : Nat} {B : KBlk}, WrI tb ops L.length (ks S.H) Rs Sf i b B → allD B.cells = true := fun hw => by
    obtain ⟨o, t, p, x, off, d, cs, ti, B0, _, _, _, _, _, _, _, _, _, h1, h2, _, rfl, _⟩ := hw.ex
    exact putK_allD h1 h2
  have hwf : ∀ (q : Nat) (b : Nat) (B : KBlk), W[q]? = some (b, B) → ∀ b0, b0 ≠ b → WrI tb ops L.length (ks S.H) Rs Sf (L.length + q) b B → sgBox b0 (wrSg (b, B)) = false := fun q b B hq b0 hne hw => by
    have h1 := (avL_box (b := b0) (hcells hw)).1
    have h2 : (b == b0) = false := by simp; exact fun e => hne e.symm
    simp [sgBox, wrSg, AV.box, keys, memN, h2, KBlk.blk]
    simpa using h1
  have hmade : ∀ (q b : Nat) (B : KBlk), W[q]? = some (b, B) → WrI tb ops L.length (ks S.H) Rs Sf (L.length + q) b B → b ∉ keys S.st.H ∧ ∃ (j : Nat) (g : Sg), L[j]? = some g ∧ b ∈ keys g.nh ∧ ((depsK ops.toList []).getD (L.length + q) 0).testBit j = true := fun q b B hq hw => by
    obtain ⟨o, t, p, x, off, d, cs, ti, B0, _, _, _, _, _, _, _, g0, _, _, _, _, _, g1, g2⟩ := hw.ex
    have hb0 : b ∉ keys S.st.H := by
      show b ∉ keys (mapH S.H)
      rw [keys_mapH]; exact g1
    refine ⟨hb0, ?_⟩
    have h1 : b ∈ keys (segS ops (fun _ => true) 0 L S.st).H := by
      have h2 : look Sf.st.H b = some B0.blk := by rw [st_lookH, g0]; rfl
      rw [hinv.leq.H b] at h2
      exact look_key h2
    rw [segS_keysH] at h1
    rcases h1 with h1 | ⟨g, hg, hb⟩
    · exact absurd h1 hb0
    · obtain ⟨j, hj⟩ := List.mem_iff_getElem?.1 hg
      obtain ⟨gk, run, h2, rfl⟩ := hrs j g hj
      simp only [ownW, Bool.and_eq_true] at g2
      exact ⟨j, _, hj, hb, onlyBy_spec g2.1.2 _ h2 (by rw [← keys_mapH]; exact hb)⟩
  refine AWN_segw (depsK ops.toList []) L (W.map wrSg) hB (by simpa using hsz) hap' hinv.dis ?_ ?_ hdn ?_ (fun q g' hq => by obtain ⟨b, B, _, rfl, _⟩ := hwq q g' hq; rfl) ?_ ?_ (S2 := S'.st) ?_ (hQ _ _ w4)
  · simp only [freshL, List.all_eq_true, List.mem_range]
    intro i hi
    obtain ⟨g, hg⟩ : ∃ g, L[i]? = some g := ⟨L[i], by simp [hi]⟩
    rw [hg]
    simp only [Bool.and_eq_true, List.all_eq_true, List.mem_range, Bool.or_eq_true, beq_iff_eq]
    refine ⟨hinv.fresh i g hg, fun j hj => ?_⟩
    obtain ⟨g', hg'⟩ : ∃ g, L[j]? = some g := ⟨L[j], by simp [hj]⟩
    rw [hg']
    rcases hinv.apt i g j g' hg hg' with e | e | e
    · exact .inl (.inl e)
    · exact .inl (.inr e)
    · refine .inr ?_
      simp only [Bool.and_eq_true, List.all_eq_true, Bool.not_eq_true']
      exact e
  · have : ∀ (l : List Sg) (p : Nat), (∀ (q : Nat) (g : Sg), l[q]? = some g → Obl P ops (depsK ops.toList []) 0 L S.st (p + q) g) → Obls P ops (depsK ops.toList []) 0 L S.st p l := by
      intro l
      induction l with
      | nil => intro p _; trivial
      | cons g q ih =>
        intro p hh
        refine ⟨by simpa using hh 0 g rfl, ?_⟩
        exact ih (p + 1) (fun q' g' hq => by have := hh (q' + 1) g' (by simpa using hq); rwa [show p + (q' + 1) = p + 1 + q' from by omega] at this)
    exact this L 0 (fun q g hq => by have := hinv.obl q g hq; exact this)
  · intro p g q g' hp hq
    obtain ⟨b, B, hq', rfl, hw⟩ := hwq q g' hq
    obtain ⟨gk, run, h1, rfl⟩ := hrs p g hp
    by_cases hb : b ∈ ks gk.nh
    · left
      obtain ⟨o, t, p', x, off, d, cs, ti, B0, _, _, _, _, _, _, _, _, _, _, _, _, _, _, g2⟩ := hw.ex
      simp only [ownW, Bool.and_eq_true] at g2
      exact onlyBy_spec g2.1.2 _ h1 hb
    · right
      refine ⟨fun b0 hb0 => hwf q b B hq' b0 (fun e => hb ?_) hw, fun b0 hb0 => ?_⟩
      · subst e
        have : b0 ∈ keys (mapH gk.nh) := hb0
        rwa [keys_mapH] at this
      · have := (avL_box (b := b0) (hcells hw)).2
        simp [sgRow, wrSg, AV.hasRow, keys, memN, KBlk.blk]
        simpa using this
  · intro p o q g' hp ho hq
    obtain ⟨b, B, hq', rfl, hw⟩ := hwq q g' hq
    obtain ⟨o', t, p', x, off, d, cs, ti, B0, _, _, _, _, _, _, _, _, _, _, _, _, _, _, g2⟩ := hw.ex
    simp only [ownW, Bool.and_eq_true] at g2
    rcases unreadW_spec g2.2 p hp with h1 | h1
    · exact .inl h1
    · right
      intro b' hb'
      have : b' = b := by simpa [wrSg, keys] using hb'
      subst this
      show look (segS ops (fun j => ((depsK ops.toList []).getD p 0).testBit j) 0 L S.st).H b' = none
      rw [segS_Hother L 0 S.st (fun j g hj hX hb => ?_)]
      · exact look_none_of_key (hmade q b' B hq' hw).1
      · rw [Nat.zero_add] at hX
        obtain ⟨gk, run, h2, rfl⟩ := hrs j g hj
        rw [h1 _ h2 (by rw [← keys_mapH]; exact hb)] at hX; cases hX
  · intro q g' hq
    obtain ⟨b, B, hq', rfl, hw⟩ := hwq q g' hq
    have hqW : q < W.length := (List.getElem?_eq_some_iff.1 hq').1
    obtain ⟨o', ho', hwr'⟩ := hisW q hqW
    obtain ⟨hgn, hdst⟩ := isWr_spec hwr'
    obtain ⟨hb0, j0, g0, hj0, hbj, hbit⟩ := hmade q b B hq' hw
    obtain ⟨o, t, p, x, off, d, cs, ti, B0, ho, hop, hp, hx, hcs, hti, hsz', hB0, hlive, hd0, hdc, hfit, rfl, _, g2⟩ := hw.ex
    obtain rfl : o = o' := Option.some.inj (ho.symm.trans ho')
    refine ⟨o, ho, hgn, fun X hX hXq hcl => ?_⟩
    have hosz := (Array.getElem?_eq_some_iff.1 ho).1
    have hT' : ∀ t, t ∈ names ops o → look (stW ops X L (W.map wrSg) S.st).T t = look Sf.st.T t := fun t ht => by
      unfold stW
      rw [segS_Tnone _ _ _ hdn, hinv.leq.T t]
      refine segS_look L 0 _ _ rfl (fun j g hj hdj => ?_)
      have hjl := (List.getElem?_eq_some_iff.1 hj).1
      rw [Nat.zero_add] at hdj ⊢
      simp only [apartB, List.all_eq_true, List.mem_range] at hap
      have := hap (L.length + q) (by omega) j (by omega)
      simp only [Bool.or_eq_true, beq_iff_eq, Nat.zero_add] at this
      rcases this with ((h1 | h1) | h1) | h1
      · omega
      · rw [ho, hdj] at h1
        simp only [Bool.not_eq_true', Bool.or_eq_false_iff] at h1
        rw [memN_iff.2 ht] at h1; cases h1.1
      · exact hX j (depOk_sound hB _ hosz _ h1)
      · have := (depOk_sound hB j (by omega) _ h1).lt hB; omega
    have hopn : ∀ y : Operand, y ∈ o.op.operands.toList → opnd (stW ops X L (W.map wrSg) S.st).T y = opnd Sf.st.T y := fun y hy => opnd_congr (fun t e => hT' t (List.mem_append_left _ (List.mem_filterMap.2 ⟨y, hy, by rw [e]; rfl⟩)))
    have hlkX : look (stW ops X L (W.map wrSg) S.st).H b = some B0.blk := by
      unfold stW
      rw [segS_Hother _ _ _ (fun q2 g2 hq2 hX2 hb2 => ?_)]
      · obtain ⟨v, hv⟩ := key_look (segS_has (ops := ops) (X := X) L 0 S.st (.inr ⟨j0, g0, hj0, by rw [Nat.zero_add]; exact hX j0 (depOk_sound hB _ hosz _ hbit), hbj⟩))
        have := (segS_lookH (ops := ops) (X := X) (Y := fun _ => true) L 0 S.st S.st _ _ (fun _ _ x => x) (fun _ _ x => x) (fun _ x => x) (fun _ x => x) hinv.dis (fun _ _ => rfl)).1 b v hv
        rw [← hinv.leq.H b, st_lookH, hB0] at this
        rw [hv]; exact this.symm
      · obtain ⟨b2, B2, hq2', rfl, _⟩ := hwq q2 g2 hq2
        have : b = b2 := by simpa [wrSg, keys] using hb2
        subst this
        have hqq : q2 = q := by
          have e1 : (W.map Prod.fst)[q2]? = some b := by rw [List.getElem?_map, hq2']; rfl
          have e2 : (W.map Prod.fst)[q]? = some b := by rw [List.getElem?_map, hq']; rfl
          exact (List.getElem?_inj (List.getElem?_eq_some_iff.1 e1).1 w3).1 (e1.trans e2.symm)
        subst hqq
        rw [hXq] at hX2; cases hX2
    have hb := bar_store (s := s) (E := E) hop hdst (by rw [hopn p (by rw [hop]; simp [Op.operands])]; exact kop_st hp) hlkX hlive (by rw [hopn x (by rw [hop]; simp [Op.operands])]; exact kop_st hx) (cellsK_spec hcs) (by rw [(hT _ _ hti).sz, hsz', avL_len]) (by rw [avL_len, show B0.blk.cells = KV.avL B0.cells from rfl, avL_len]; exact hfit)
    refine ⟨_, hb, ?_⟩
    have hset : Leq (setBox (stW ops X L (W.map wrSg) S.st) b ⟨B0.blk.e, putL B0.blk.cells off (KV.avL cs), true⟩) ((stW ops X L (W.map wrSg) S.st).add none .any [(b, KBlk.blk ⟨B0.e, putK B0.cells off cs, true⟩)] []) := by
      refine ⟨rfl, rfl, fun t => rfl, fun b' => ?_, fun b' => rfl⟩
      simp only [setBox, St.add, List.singleton_append, look]
      rw [look_setA hlkX]
      simp only [KBlk.blk, putK_spec]
    refine hset.trans ?_
    have hcongr : segS ops (fun j => X j || j == L.length + q) 0 L S.st = segS ops X 0 L S.st := segS_congr L 0 _ (fun j h1 h2 => by
      have : (j == L.length + q) = false := by simp; omega
      simp [this])
    have hdisj : ∀ (j : Nat) (g'' : Sg), (W.map wrSg)[j]? = some g'' → q < j → ∀ b', b' ∈ keys (wrSg (b, ⟨B0.e, putK B0.cells off cs, true⟩)).nh → b' ∉ keys g''.nh := fun j g'' hg'' hpj b' hb' hb2 => by
      obtain ⟨b2, B2, hj', rfl, _⟩ := hwq j g'' hg''
      have e1 : b' = b := by simpa [wrSg, keys] using hb'
      have e2 : b' = b2 := by simpa [wrSg, keys] using hb2
      subst e1 e2
      have f1 : (W.map Prod.fst)[j]? = some b' := by rw [List.getElem?_map, hj']; rfl
      have f2 : (W.map Prod.fst)[q]? = some b' := by rw [List.getElem?_map, hq']; rfl
      have := (List.getElem?_inj (List.getElem?_eq_some_iff.1 f1).1 w3).1 (f1.trans f2.symm)
      omega
    have hdq : dstAt ops (L.length + q) = none := hdn q (by simpa using hqW)
    have hmore := segS_more (ops := ops) (X := X) (m := L.length) (p := q) (S := segS ops X 0 L S.st) hq hXq (fun j g'' hg'' hpj hXj => ⟨fun t ht => (by rw [hdq] at ht; cases ht), hdisj j g'' hg'' hpj, fun b' hb' => (by cases hb')⟩)
    rw [hdq] at hmore
    unfold stW
    rw [hcongr]
    exact hmore
  · refine ⟨?_, ?_, fun t => ?_, fun b => ?_, fun b => ?_⟩
    · rw [stW_n]; have := hinv.leq.n; rw [segS_n] at this; show S'.n = S.n; rw [w5]; exact this
    · unfold stW; rw [segS_low, segS_low]; have := hinv.leq.low; rw [segS_low] at this; show S'.low = S.low; rw [w8]; exact this
    · unfold stW
      rw [segS_Tnone _ _ _ hdn, ← hinv.leq.T t]
      show look (mapT S'.T) t = look (mapT Sf.T) t
      rw [w6]
    · unfold stW
      rw [segW_look W _ _ w3, st_lookH, w9 b, ← hinv.leq.H b, st_lookH]
      cases lk W b <;> rfl
    · unfold stW
      rw [segS_Oother _ _ _ (fun q g' hq _ hb => by obtain ⟨b2, B2, _, rfl, _⟩ := hwq q g' hq; cases hb), ← hinv.leq.O b]
      show look (mapO S'.O) b = look (mapO Sf.O) b
      rw [w7]
end Go.Proofs.Ytnekemldcjegaaa.Aw

/- The logic of abstract walks, part M5c: code by evaluation. -/
namespace Go.Proofs.Ytnekemldcjegaaa.Aw
open Go Go.RowKit
set_option linter.unusedVariables false
set_option linter.unusedSimpArgs false
universe u
variable {P : Program} {E : Env P} {base : Nat} {r : Option Nat} {post : KV → List KRow → Prop} {tb : Nat → Option TI}
theorem KQ_of {Q : Exit → KSt → E.σ → Prop} {e : Exit} {S : KSt} {s : E.σ} (h : Q e S s) : KQ Q e S.st s := ⟨S, Weak.refl _, h⟩
theorem wpK_aw {pz : List Nat} (hm : P.follows .mixedOrders = true) (hT : ∀ t i, tb t = some i → TIOk P t i) : ∀ {c : Code}, drawsOk c = true → ∀ {S : KSt} {s : E.σ} {Q : Exit → KSt → E.σ → Prop}, wpK (primK P E base r post) tb pz c S s Q → AW E base r c S.st s (KQ Q) := by
  intro c hdr
  induction c with
  | seq x y ihx ihy =>
    simp only [drawsOk, Bool.and_eq_true] at hdr
    replace ihx := @ihx hdr.1; replace ihy := @ihy hdr.2
    intro S s Q h
    refine AW_seq ((ihx h).mono ?_)
    rintro e S' s' ⟨S'', hw, hq⟩
    cases e with
    | normal => exact AW_weak hw (ihy hq)
    | _ => exact ⟨S'', hw, hq⟩
  | skip => exact fun h => AW_skip (KQ_of h)
  | label l => exact fun h => AW_label (KQ_of h)
  | exit id => exact fun h => AW_exit (KQ_of h)
  | goto l => exact fun h => AW_goto (KQ_of h)
  | ret => exact fun h => AW_ret (KQ_of h)
  | block id c ih =>
    replace ih := @ih hdr
    intro S s Q h
    refine AW_block ((ih h).mono ?_)
    rintro e S' s' ⟨S'', hw, hq⟩
    cases e with
    | exit j =>
      simp only [blkK] at hq
      by_cases hj : j = id
      · subst hj
        simp only [Nat.beq_refl] at hq
        simp only [blockQ, if_true]
        exact ⟨S'', hw, hq⟩
      · have : Nat.beq j id = false := by cases h : Nat.beq j id with
          | false => rfl
          | true => exact absurd (Nat.eq_of_beq_eq_true h) hj
        rw [this] at hq
        simp only [blockQ, if_neg hj]
        exact ⟨S'', hw, hq⟩
    | _ => exact ⟨S'', hw, hq⟩
  | scope c ih =>
    replace ih := @ih hdr
    intro S s Q h
    refine AW_scope ((ih h).mono ?_)
    rintro e S' s' ⟨S'', hw, hq⟩
    cases e with
    | goto l => exact hq.elim
    | _ => exact ⟨S'', hw, hq⟩
  | cond c x y ihx ihy =>
    simp only [drawsOk, Bool.and_eq_true] at hdr
    replace ihx := @ihx hdr.1; replace ihy := @ihy hdr.2
    intro S s Q h
    replace h := kk_spec h; obtain ⟨v, hv, h⟩ := h
    have hv' := kop_st hv
    split at h
    · exact AW_cond hv' (fun _ => ihx h) (fun hb => by cases hb)
    · exact AW_cond hv' (fun hb => by cases hb) (fun _ => ihy h)
    · rename_i b
      split at h
      · exact h
      have key : ∀ v : KV, v.av = .d (.bool b) → Leq S.st (S.lit c v).st := fun v hvv => by
        cases c with
        | tmp t => exact lit_leq hv rfl hvv
        | _ => exact Leq.refl _
      refine AW_cond hv' (fun hb => ?_) (fun hb => ?_)
      · subst hb
        exact AW_weak (key .tt rfl).less.weak (ihx (h.1 rfl))
      · subst hb
        exact AW_weak (key .ff rfl).less.weak (ihy (h.2 rfl))
    · exact h.elim
  | region id ops d =>
    intro S s Q h
    cases d with
    | false =>
      unfold wpK at h
      split at h
      · exact h
      · exact regK_spec hT (fun S s h => KQ_of h) h
    | true =>
      unfold wpK at h
      split at h
      · exact h
      refine AW_region_draw hm ?_
      unfold drawsOk at hdr
      split at h
      · rename_i hex
        rw [hex] at hdr
        simp only [List.all_eq_true, Nat.blt_eq] at hdr
        split at h
        · exact drawW_spec hT (fun S s h => KQ_of h) h
        have := exK_spec (ops := ops) hT (Q := KQ Q) (fun S s h => KQ_of h) _ (enumU 0 ops.toList) S s (fun p hp => by simpa using enumU_get hp) enumU_nodup (fun i o ho e he => hdr o (List.mem_of_getElem? (by rw [Array.getElem?_toList]; exact ho)) e (by simpa using he)) h
        intro M a w hc fuel listed hf hp
        refine this M a w hc fuel listed (by rw [enumU_len]; simpa using hf) ⟨hp.1, fun j hj => ?_⟩
        rw [hp.2 j hj]
        have hb : Nat.blt j 0 = false := rfl
        simp only
        rw [hb, (undone_iff (U := enumU 0 ops.toList) (j := j)).2 ⟨ops[j], enumU_mem (by simp [hj])⟩]; rfl
      rename_i hex
      rw [hex] at hdr
      simp only [drawOk, Bool.and_eq_true] at hdr
      exact drawK_spec hT hdr.1 (Q := KQ Q) (fun S s h => KQ_of h) ops.toList 0 0 [] S S [] s (fun j o h => by simpa using h) (by simp) rfl (by simpa using hdr.2) (segInv_nil _ _ _ _) h
  | _ => exact fun h => h
end Go.Proofs.Ytnekemldcjegaaa.Aw

/- The logic of abstract walks, part M6: contracts by evaluation; loops; calls. -/
namespace Go.Proofs.Ytnekemldcjegaaa.Aw
open Go Go.RowKit
set_option linter.unusedVariables false
set_option linter.unusedSimpArgs false
universe u
variable {P : Program} {E : Env P} {base : Nat} {r : Option Nat} {post : KV → List KRow → Prop} {tb : Nat → Option TI} {pz : List Nat}
/-- What is known of a seat's program. -/
structure SeatOk (P : Program) (tb : Nat → Option TI) : Prop where
  tab : ∀ t i, tb t = some i → TIOk P t i
  mix : P.follows .mixedOrders = true
def resK (tb : Nat → Option TI) (S : KSt) : ResultVar → Option KV
  | .tmp t => lk S.T t
  | .cell ad t => match lk S.T ad with
    | some (.loc b off) => match lk S.H b with
      | some B => match tb t with
        | some i => match i.ag with
          | false => nth B.cells off
          | true => match Nat.ble (off + i.sz) (lenK B.cells) with
            | true => some (.agg (takeK i.sz (dropK off B.cells)))
            | false => none
        | none => none
      | none => none
    | _ => none
def resKL (tb : Nat → Option TI) (S : KSt) : List ResultVar → Option (List KV)
  | [] => some []
  | x :: r => match resK tb S x with
    | some c => match resKL tb S r with
      | some l => some (c :: l)
      | none => none
    | none => none
theorem resK_spec (hT : ∀ t i, tb t = some i → TIOk P t i) {S : KSt} {x : ResultVar} {c : KV} (h : resK tb S x = some c) : resV P S.st x = some c.av := by
  cases x with
  | tmp t => simp only [resK] at h; simp only [resV, st_look, h, Option.map_some]
  | cell ad t =>
    simp only [resK] at h
    split at h
    · rename_i b off h1
      split at h
      · rename_i B h2
        split at h
        · rename_i i h3
          have hi := hT _ _ h3
          simp only [resV, st_look, h1, Option.map_some, KV.av, st_lookH, h2, hi.ag]
          cases hag : i.ag with
          | false =>
            rw [hag] at h
            simp only [show B.blk.cells = KV.avL B.cells from rfl, nth_avL, h, Option.map_some]
          | true =>
            rw [hag] at h
            simp only [hi.sz, show B.blk.cells = KV.avL B.cells from rfl, avL_len]
            simp only at h
            split at h
            · rename_i hb
              cases h
              rw [if_pos hb, avL_drop, avL_take]; rfl
            · cases h
        · cases h
      · cases h
    · cases h
theorem resKL_spec (hT : ∀ t i, tb t = some i → TIOk P t i) {S : KSt} : ∀ {l : List ResultVar} {cs : List KV}, resKL tb S l = some cs → resVL P S.st l = some (KV.avL cs)
  | [], cs, h => by simp [resKL] at h; subst h; rfl
  | x :: r, cs, h => by
    simp only [resKL] at h
    cases h1 : resK tb S x with
    | none => rw [h1] at h; cases h
    | some c =>
      cases h2 : resKL tb S r with
      | none => rw [h1, h2] at h; cases h
      | some l =>
        rw [h1, h2] at h
        simp only [Option.some.injEq] at h; subst h
        simp only [resVL, resK_spec hT h1, resKL_spec hT h2, KV.avL]
def oneK : List KV → KV
  | [c] => c
  | cs => .tup cs
theorem oneK_spec (cs : List KV) : (oneK cs).av = oneOf (KV.avL cs) := by
  cases cs with
  | nil => rfl
  | cons c r => cases r <;> rfl
def idxK' (n : Nat) : List Nat → Nat → Option Nat
  | [], _ => none
  | k :: r, i => match Nat.beq k n with
    | true => some i
    | false => idxK' n r (i + 1)
theorem idxK'_spec {n : Nat} : ∀ {l : List Nat} {i : Nat}, idxK' n l i = idxN n l i
  | [], _ => rfl
  | k :: r, i => by
    simp only [idxK', idxN]
    by_cases e : k = n
    · subst e; simp
    · have : Nat.beq k n = false := by cases h : Nat.beq k n with
        | false => rfl
        | true => exact absurd (Nat.eq_of_beq_eq_true h) e
      simp [this, e, idxK'_spec (l := r)]
def lessK (ids : List Nat) : List (Nat × KRow) → List (Nat × KRow)
  | [] => []
  | (k, R) :: r => match memN k ids with
    | true => lessK ids r
    | false => (k, R) :: lessK ids r
theorem lessK_spec (ids : List Nat) : ∀ (O : List (Nat × KRow)), mapO (lessK ids O) = (mapO O).filter fun p => !memN p.1 ids
  | [] => rfl
  | (k, R) :: r => by
    simp only [lessK, mapO, List.filter_cons]
    cases memN k ids <;> simp [mapO, lessK_spec ids r]
def KSt.less (S : KSt) (ids : List Nat) : KSt := ⟨S.n, S.T, S.H, lessK ids S.O, S.low⟩
theorem KSt.less_st (S : KSt) (ids : List Nat) : (S.less ids).st = lessO S.st ids := by simp only [KSt.less, KSt.st, lessO, lessK_spec]
def ret1K (ids : List Nat) (S : KSt) (c : KV) : Option KV := match c with
  | .osl id => match idxK' id ids 0 with
    | some i => some (.osl i)
    | none => snapK true (S.less ids) 8 (.osl id)
  | .agg _ => none
  | .fn f cs => snapK true (S.less ids) 8 (.fn f cs)
  | .loc b off => snapK true (S.less ids) 8 (.loc b off)
  | c => match c.isD with
    | true => some c
    | false => none
def snapped (c : KV) : Bool := c.isD
theorem snapped_av {v : KV} (h : snapped v = true) : v.av = .d v.toD := by
  exact KV.isD_av h
theorem rowKV_snapped (R : KRow) : snapped (rowKV R) = true := by
  unfold rowKV
  split <;> rfl
theorem rowSn_snapped {R : KRow} {v : KV} (h : rowSn R = some v) : snapped v = true := by
  unfold rowSn at h
  split at h
  · cases h; exact rowKV_snapped R
  · split at h
    · cases h
      unfold mapKV
      split <;> rfl
    · cases h
theorem snapK_noagg {lv : Bool} {S : KSt} {n : Nat} {c v : KV} (h : snapK lv S n c = some v) (hc : ∀ l, c ≠ .agg l) : snapped v = true := by
  cases n with
  | zero => simp [snapK] at h
  | succ n =>
    unfold snapK at h
    split at h
    · exact absurd rfl (hc _)
    · obtain ⟨vs, _, rfl⟩ := omap_spec h; rfl
    · split at h
      · split at h
        · obtain ⟨vs, _, rfl⟩ := omap_spec h; rfl
        · cases h
      · cases h
    · split at h
      · split at h
        · exact rowSn_snapped h
        · cases h
      · cases h
    · cases h; rfl
    · cases h; rfl
    · cases h; rfl
    · split at h
      · rename_i hd
        cases h
        exact hd
      · cases h
theorem ret1K_spec {ids : List Nat} {S : KSt} {c v : KV} (h : ret1K ids S c = some v) : ret1 ids S.st c.av = some v.av := by
  have main : ∀ c : KV, (∀ l, c ≠ .agg l) → snapK true (S.less ids) 8 c = some v → (snap true (lessO S.st ids) 8 c.av).map .d = some v.av := fun c hc h => by
    have := snapK_spec 8 c v h
    rw [KSt.less_st] at this
    rw [this, snapped_av (snapK_noagg h hc)]; rfl
  have dd : ∀ c : KV, c.isD = true → some c = some v → ret1 ids S.st c.av = some v.av := fun c hd e => by
    cases e
    have hav := KV.isD_av hd
    have hag := KV.isD_agg hd
    rw [hav]
    unfold ret1
    simp only
    have : snap true (lessO S.st ids) 8 (.d v.toD) = some v.toD := by
      cases hx : v.toD with
      | agg l => exact absurd hx (hag l)
      | _ => rfl
    rw [this]; rfl
  unfold ret1K at h
  split at h
  · rename_i id
    rw [idxK'_spec] at h
    simp only [KV.av, ret1]
    split at h
    · rename_i i hi
      rw [hi]
      cases h; rfl
    · rename_i hi
      rw [hi]
      exact main (.osl id) (fun l e => by cases e) h
  · cases h
  · exact main _ (fun l e => by cases e) h
  · exact main _ (fun l e => by cases e) h
  · split at h
    · rename_i hd; exact dd _ hd h
    · cases h
def ret1KL (ids : List Nat) (S : KSt) : List KV → Option (List KV)
  | [] => some []
  | c :: r => match ret1K ids S c with
    | some x => match ret1KL ids S r with
      | some l => some (x :: l)
      | none => none
    | none => none
theorem ret1KL_spec {ids : List Nat} {S : KSt} : ∀ {cs vs : List KV}, ret1KL ids S cs = some vs → ret1L ids S.st (KV.avL cs) = some (KV.avL vs)
  | [], vs, h => by simp [ret1KL] at h; subst h; rfl
  | c :: r, vs, h => by
    simp only [ret1KL] at h
    cases h1 : ret1K ids S c with
    | none => rw [h1] at h; cases h
    | some v =>
      cases h2 : ret1KL ids S r with
      | none => rw [h1, h2] at h; cases h
      | some l =>
        rw [h1, h2] at h
        simp only [Option.some.injEq] at h; subst h
        simp only [KV.avL, ret1L, ret1K_spec h1, ret1KL_spec h2]
def ret2K (ids : List Nat) (S : KSt) (c : KV) : Option KV := match c with
  | .agg cs => omap (ret1KL ids S cs) .agg
  | c => ret1K ids S c
theorem ret2K_spec {ids : List Nat} {S : KSt} {c v : KV} (h : ret2K ids S c = some v) : ret2 ids S.st c.av = some v.av := by
  unfold ret2K at h
  split at h
  · obtain ⟨l, h1, rfl⟩ := omap_spec h
    simp only [KV.av, ret2, ret1KL_spec h1, Option.map_some]
  · rename_i hc
    have := ret1K_spec h
    cases c <;> first | exact absurd rfl (hc _) | exact this
def ret2KL (ids : List Nat) (S : KSt) : List KV → Option (List KV)
  | [] => some []
  | c :: r => match ret2K ids S c with
    | some x => match ret2KL ids S r with
      | some l => some (x :: l)
      | none => none
    | none => none
theorem ret2KL_spec {ids : List Nat} {S : KSt} : ∀ {cs vs : List KV}, ret2KL ids S cs = some vs → ret2L ids S.st (KV.avL cs) = some (KV.avL vs)
  | [], vs, h => by simp [ret2KL] at h; subst h; rfl
  | c :: r, vs, h => by
    simp only [ret2KL] at h
    cases h1 : ret2K ids S c with
    | none => rw [h1] at h; cases h
    | some v =>
      cases h2 : ret2KL ids S r with
      | none => rw [h1, h2] at h; cases h
      | some l =>
        rw [h1, h2] at h
        simp only [Option.some.injEq] at h; subst h
        simp only [KV.avL, ret2L, ret2K_spec h1, ret2KL_spec h2]
def ret3K (ids : List Nat) (S : KSt) (c : KV) : Option KV := match c with
  | .tup cs => omap (ret2KL ids S cs) .tup
  | c => ret2K ids S c
theorem ret3K_spec {ids : List Nat} {S : KSt} {c v : KV} (h : ret3K ids S c = some v) : ret3 ids S.st c.av = some v.av := by
  unfold ret3K at h
  split at h
  · obtain ⟨l, h1, rfl⟩ := omap_spec h
    simp only [KV.av, ret3, ret2KL_spec h1, Option.map_some]
  · rename_i hc
    have := ret2K_spec h
    cases c <;> first | exact absurd rfl (hc _) | exact this
def rowsOfK (S : KSt) : List Nat → Option (List KRow)
  | [] => some []
  | id :: r => match lk S.O id with
    | some R => match R.live with
      | true => match rowsOfK S r with
        | some l => some (R :: l)
        | none => none
      | false => none
    | none => none
theorem rowsOfK_spec {S : KSt} : ∀ {ids : List Nat} {rows : List KRow}, rowsOfK S ids = some rows → rowsOf S.st ids = some (rows.map KRow.row)
  | [], rows, h => by simp [rowsOfK] at h; subst h; rfl
  | id :: r, rows, h => by
    simp only [rowsOfK] at h
    split at h
    · rename_i R hR
      split at h
      · rename_i hl
        split at h
        · rename_i l h2
          cases h
          have : R.row.live = true := hl
          simp only [rowsOf, st_lookO, hR, Option.map_some, rowsOfK_spec h2, this, if_true, List.map_cons]
        · cases h
      · cases h
    · cases h
/-- The end of a function. -/
def retKQ {σ : Type} (I : Prim σ) (tb : Nat → Option TI) (rs : List ResultVar) (ids : List Nat) (e : Exit) (S : KSt) (s : σ) : Prop :=
  match (match e with | .normal => true | .ret => true | _ => false) with
  | true => kk (resKL tb S rs) fun cs => kk (ret3K ids S (oneK cs)) fun v => kk (rowsOfK S ids) fun rows => I.post v rows
  | false => False
def okArg : KV → Bool
  | .agg cs => allD cs
  | c => c.isD
def okArgs : List KV → Bool
  | [] => true
  | c :: r => okArg c && okArgs r
theorem okArg_av {c : KV} (h : okArg c = true) : toAV c.toD = c.av := by
  unfold okArg at h
  split at h
  · simp only [KV.toD, toAV, KV.av, allD_av h]
  · rw [KV.isD_av h]
    have := KV.isD_agg h
    cases hx : c.toD with
    | agg l => exact absurd hx (this l)
    | _ => rfl
def argK : Nat → List KV → List (Nat × KV)
  | _, [] => []
  | i, c :: r => (i, c) :: argK (i + 1) r
theorem argK_spec : ∀ {args : List KV} {i : Nat}, okArgs args = true → mapT (argK i args) = argT i (KV.toDL args)
  | [], _, _ => rfl
  | c :: q, i, h => by
    simp only [okArgs, Bool.and_eq_true] at h
    simp only [argK, mapT, KV.toDL, argT, okArg_av h.1, argK_spec h.2]
def KS0 (n : Nat) (args : List KV) : KSt := ⟨n, argK 0 args, [], [], 0⟩
/-- A contract, for evaluation. -/
def KC (P : Program) (f : Nat) (args : List KV) (res : KV) (rows : List KRow) : Prop := Con P f (KV.toDL args) res.av (rows.map KRow.row)
def endK (res : KV) (rows : List KRow) : KV → List KRow → Prop := fun v rs => v.av = res.av ∧ rs.map KRow.row = rows.map KRow.row
theorem con_k {f : Nat} {fn : Func} {c : Code} {args : List KV} {res : KV} {rows : List KRow} (ids : List Nat) (pz : List Nat) (hT : SeatOk P tb) (hf : P.funcs[f]? = some fn) (hb : fn.body = some c) (hent : Ent P f)
    (hdr : drawsOk c = true) (hn : Nat.ble (lenK args) fn.ntmps = true) (ha : okArgs args = true) (hid : ids.Nodup)
    (h : ∀ base I, I = primK P (noEnv P) base none (endK res rows) → wpK I tb pz c (KS0 fn.ntmps args) () (retKQ I tb fn.results.toList ids)) : KC P f args res rows := by
  refine con_intro hf hb hent (by rw [toDL_len]; exact hn) fun base => ?_
  have := wpK_aw hT.mix hT.tab hdr (h base _ rfl)
  rw [show (KS0 fn.ntmps args).st = S0 fn.ntmps (KV.toDL args) from by simp only [KS0, KSt.st, S0, argK_spec ha]; rfl] at this
  refine AW_weakQ (this.mono ?_)
  rintro e S s ⟨S', hw, hq⟩
  refine ⟨S'.st, hw, ?_⟩
  unfold retKQ at hq
  split at hq
  · rename_i he
    replace hq := kk_spec hq; obtain ⟨cs, h1, hq⟩ := hq
    replace hq := kk_spec hq; obtain ⟨v, h2, hq⟩ := hq
    replace hq := kk_spec hq; obtain ⟨rs, h3, hq⟩ := hq
    obtain ⟨e1, e2⟩ := (hq : v.av = res.av ∧ rs.map KRow.row = rows.map KRow.row)
    refine ⟨?_, KV.avL cs, ids, resKL_spec hT.tab h1, ?_, ?_, hid⟩
    · cases e <;> first | exact .inl rfl | exact .inr rfl | cases he
    · rw [← oneK_spec, ret3K_spec h2, e1]
    · rw [rowsOfK_spec h3, e2]
  · exact hq.elim
/-! What one state says, the other one says, too. -/
def eqT (T : List (Nat × KV)) : List (Nat × KV) → Prop
  | [] => True
  | (t, c) :: r => (match lk T t with | some v => v.av = c.av | none => False) ∧ eqT T r
def eqH (T : List (Nat × KBlk)) : List (Nat × KBlk) → Prop
  | [] => True
  | (t, c) :: r => (match lk T t with | some v => v.blk = c.blk | none => False) ∧ eqH T r
def eqO (T : List (Nat × KRow)) : List (Nat × KRow) → Prop
  | [] => True
  | (t, c) :: r => (match lk T t with | some v => v.row = c.row | none => False) ∧ eqO T r
theorem eqT_spec {T : List (Nat × KV)} : ∀ {T' : List (Nat × KV)}, eqT T T' → subT (mapT T) (mapT T')
  | [], _ => trivial
  | (t, c) :: q, h => by
    refine ⟨?_, eqT_spec h.2⟩
    have := h.1
    split at this
    · rename_i v hv; rw [look_mapT, hv, Option.map_some, this]
    · exact this.elim
theorem eqH_spec {T : List (Nat × KBlk)} : ∀ {T' : List (Nat × KBlk)}, eqH T T' → subH (mapH T) (mapH T')
  | [], _ => trivial
  | (t, c) :: q, h => by
    refine ⟨?_, eqH_spec h.2⟩
    have := h.1
    split at this
    · rename_i v hv; rw [look_mapH, hv, Option.map_some, this]
    · exact this.elim
theorem eqO_spec {T : List (Nat × KRow)} : ∀ {T' : List (Nat × KRow)}, eqO T T' → subO (mapO T) (mapO T')
  | [], _ => trivial
  | (t, c) :: q, h => by
    refine ⟨?_, eqO_spec h.2⟩
    have := h.1
    split at this
    · rename_i v hv; rw [look_mapO, hv, Option.map_some, this]
    · exact this.elim
theorem weak_k {S S' : KSt} (hn : S'.n = S.n) (hl : S.low = S'.low) (hT : eqT S.T S'.T) (hH : eqH S.H S'.H) (hO : eqO S.O S'.O) : Weak S.st S'.st :=
  weak_of hn hl (eqT_spec hT) (eqH_spec hH) (eqO_spec hO)
/-- As weak_k, once some rows are frozen. -/
theorem weak_f (ids : List Nat) {S S' : KSt} (h : Weak ((ids.foldl (fun S id => frzK id S) S)).st S'.st) : Weak S.st S'.st := by
  refine Weak.trans ?_ h
  clear h
  induction ids generalizing S with
  | nil => exact Weak.refl _
  | cons i q ih => exact (frzK_keeps i S).1.trans ih
/-- A loop; at its head the state is 'st a' for some a with 'inv a s', and 'm a' falls. -/
theorem W_loop {A : Type u} {I : Prim E.σ} (hI : I = primK P E base r post) (hT : SeatOk P tb) (pz : List Nat) {c : Code} (hdr : drawsOk c = true) {S : KSt} {s : E.σ} {Q : Exit → KSt → E.σ → Prop} (m : A → Nat) (st : A → KSt) (inv : A → E.σ → Prop) (a0 : A)
    (hw : Weak S.st (st a0).st) (h0 : inv a0 s) (round : ∀ a s, inv a s → ∀ R : KSt → E.σ → Prop, (∀ S' s' a', m a' < m a → Weak S'.st (st a').st → inv a' s' → R S' s') → wpK I tb pz c (st a) s (thenK R Q)) : I.W (.loop c) S s Q := by
  subst hI
  refine AW_weak hw (AW_loop (fun k S s => ∃ a, S = (st a).st ∧ k = m a ∧ inv a s) (m a0) ⟨a0, rfl, rfl, h0⟩ ?_)
  rintro k S s ⟨a, rfl, rfl, h1⟩
  refine AW_weakQ ((wpK_aw hT.mix hT.tab hdr (round a s h1 (fun S' s' => ∃ a', m a' < m a ∧ Weak S'.st (st a').st ∧ inv a' s') (fun S' s' a' h1 h2 h3 => ⟨a', h1, h2, h3⟩))).mono ?_)
  rintro e S2 s2 ⟨S3, hw3, hq⟩
  refine ⟨S3.st, hw3, ?_⟩
  cases e with
  | normal =>
    obtain ⟨a', hk, hw4, h4⟩ := hq
    exact ⟨m a', (st a').st, hk, hw4, a', rfl, rfl, h4⟩
  | _ => exact KQ_of hq
theorem C_call {I : Prim E.σ} (hI : I = primK P E base r post) {g : Nat} {args args' : List KV} {res : KV} {rows : List KRow} {K : KV → List KRow → Prop} (h : KC P g args' res rows) (ha : KV.toDL args = KV.toDL args') (k : K res rows) : I.C g args K := by
  subst hI
  refine ⟨res, rows, ?_, k⟩
  rw [ha]; exact h
theorem C_call' {I : Prim E.σ} (hI : I = primK P E base r post) {g : Nat} {args : List KV} {res : KV} {rows : List KRow} {K : KV → List KRow → Prop} (h : KC P g args res rows) (k : K res rows) : I.C g args K := C_call hI h rfl k
/-- A call, whose result gets a name. -/
theorem C_val {α : Type u} {I : Prim E.σ} (hI : I = primK P E base r post) (f : α → KV) {g : Nat} {args args' : List KV} {a : α} {K : KV → List KRow → Prop} (h : KC P g args' (f a) []) (ha : KV.toDL args = KV.toDL args') (k : ∀ v, v = a → K (f v) []) : I.C g args K :=
  C_call hI h ha (k a rfl)
theorem C_bool {I : Prim E.σ} (hI : I = primK P E base r post) {g : Nat} {args args' : List KV} {a : Bool} {K : KV → List KRow → Prop} (h : KC P g args' (.bool a) []) (ha : KV.toDL args = KV.toDL args') (k : ∀ v, v = a → K (.bool v) []) : I.C g args K :=
  C_call hI h ha (k a rfl)
theorem C_int {I : Prim E.σ} (hI : I = primK P E base r post) {g : Nat} {args args' : List KV} {i : IntKind} {a : Int} {K : KV → List KRow → Prop} (h : KC P g args' (.int i a) []) (ha : KV.toDL args = KV.toDL args') (k : ∀ v, v = a → K (.int i v) []) : I.C g args K :=
  C_call hI h ha (k a rfl)
theorem CD_call {I : Prim E.σ} (hI : I = primK P E base r post) {g : Nat} {args : List KV} {ds xs : List D} {res : KV} {rows : List KRow} {K : KV → List KRow → Prop} (h : Con P g xs res.av (rows.map KRow.row)) (ha : KV.toDL args ++ ds = xs) (k : K res rows) : I.CD g args ds K := by
  subst hI
  subst ha
  exact ⟨res, rows, h, k⟩
theorem K_tst {I : Prim E.σ} (hI : I = primK P E base r post) {b : Bool} {A B : Prop} (h1 : b = true → A) (h2 : b = false → B) : I.tst b A B := by
  subst hI; exact ⟨h1, h2⟩
theorem K_conj {I : Prim E.σ} (hI : I = primK P E base r post) {A B : Prop} (h1 : A) (h2 : B) : I.conj A B := by
  subst hI; exact ⟨h1, h2⟩
theorem av_int {k : IntKind} {a b : Int} (h : a = b) : KV.av (.int k a) = KV.av (.int k b) := by rw [h]
theorem av_bool {a b : Bool} (h : a = b) : KV.av (.bool a) = KV.av (.bool b) := by rw [h]
/-- The small rules by which a test's condition is read. -/
theorem EVB : (∀ a b : D, (AV.d a = AV.d b) = (a = b)) ∧ (∀ a b : List AV, (AV.agg a = AV.agg b) = (a = b)) ∧ (∀ a b : List AV, (AV.tup a = AV.tup b) = (a = b)) ∧
    (∀ (k k' : IntKind) (n n' : Int), (D.int k n = D.int k' n') = (k = k' ∧ n = n')) ∧ (∀ a b : Bool, (D.bool a = D.bool b) = (a = b)) ∧
    (∀ (a b : AV) (r s : List AV), (a :: r = b :: s) = (a = b ∧ r = s)) ∧ (∀ n : Nat, n + 0 = n) ∧ (∀ p : Prop, (True ∧ p) = p) ∧ (∀ p : Prop, (p ∧ True) = p) ∧
    (∀ (p : Prop) [Decidable p], (decide p = true) = p) ∧ (∀ (p : Prop) [Decidable p], (decide p = false) = ¬ p) ∧ (∀ b : Bool, ((!b) = true) = (b = false)) ∧ (∀ b : Bool, ((!b) = false) = (b = true)) ∧
    (∀ p : Prop, (True → p) = p) ∧ (∀ p : Prop, (False → p) = True) ∧ (∀ n : Nat, Int.ofNat n = (n : Int)) ∧ (((0 : Nat) : Int) = 0) :=
  ⟨fun _ _ => by simp, fun _ _ => by simp, fun _ _ => by simp, fun _ _ _ _ => by simp, fun _ _ => by simp, fun _ _ _ _ => by simp, fun _ => rfl, fun _ => by simp, fun _ => by simp,
    fun _ _ => by simp, fun _ _ => by simp, fun _ => by simp, fun _ => by simp, fun _ => by simp, fun _ => by simp, fun _ => rfl, rfl⟩
end Go.Proofs.Ytnekemldcjegaaa.Aw

/- The logic of abstract walks, part M7: iterators and loops over them, by evaluation. -/
namespace Go.Proofs.Ytnekemldcjegaaa.Aw
open Go Go.RowKit
set_option linter.unusedVariables false
set_option linter.unusedSimpArgs false
universe u
variable {P : Program} {E : Env P} {base : Nat} {r : Option Nat} {post : KV → List KRow → Prop} {tb : Nat → Option TI}
def KSY (n : Nat) (caps : List KV) : KSt := ⟨n, (0, .yld) :: argK 1 caps, [], [], 0⟩
def finK {σ : Type} (Fin : σ → Prop) (e : Exit) (S : KSt) (s : σ) : Prop := match (match e with | .normal => true | .ret => true | _ => false) with
  | true => Fin s
  | false => False
/-- An iterator's contract, for evaluation. -/
def KI (P : Program) (f : Nat) (caps : List KV) (ys : List (List KV)) : Prop := IterCon P f (KV.toDL caps) (ys.map KV.toDL)
theorem iter_k {f : Nat} {fn : Func} {c : Code} {caps : List KV} {ys : List (List KV)} (pz : List Nat) (hT : SeatOk P tb) (hf : P.funcs[f]? = some fn) (hb : fn.body = some c) (hent : Ent P f) (hdr : drawsOk c = true) (hn : Nat.ble (lenK caps + 1) fn.ntmps = true) (ha : okArgs caps = true) (hres : fn.results = #[])
    (h : ∀ (E : Env P) (Inv : Nat → E.σ → Prop) (Fin : E.σ → Prop), Takes E (ys.map KV.toDL) Inv Fin → ∀ (base : Nat) (s : E.σ), Inv 0 s → ∀ I, I = primK P E base none (fun _ _ => False) → wpK I tb pz c (KSY fn.ntmps caps) s (finK Fin)) : KI P f caps ys := by
  refine iter_intro hf hb hent (by rw [toDL_len]; exact hn) hres fun E Inv Fin hT' base s h0 => ?_
  have := wpK_aw hT.mix hT.tab hdr (h E Inv Fin hT' base s h0 _ rfl)
  rw [show (KSY fn.ntmps caps).st = SY fn.ntmps (KV.toDL caps) from by simp only [KSY, KSt.st, SY, mapT, argK_spec ha]; rfl] at this
  refine this.mono ?_
  rintro e S s' ⟨S', hw, hq⟩
  unfold finK at hq
  split at hq
  · rename_i he
    refine ⟨?_, hq⟩
    cases e <;> first | exact .inl rfl | exact .inr rfl | cases he
  · exact hq.elim
theorem Y_take {I : Prim E.σ} (hI : I = primK P E base r post) {ys : List (List KV)} {Inv : Nat → E.σ → Prop} {Fin : E.σ → Prop} (hT : Takes E (ys.map KV.toDL) Inv Fin) {s : E.σ} {xs y : List KV} {K : Bool → E.σ → Prop} (i : Nat) (hi : ys[i]? = some y) (hy : KV.toDL xs = KV.toDL y) (h0 : Inv i s)
    (ht : ∀ s', Inv (i + 1) s' → K true s') (hf : ∀ s', Fin s' → K false s') : I.Y s xs K := by
  subst hI
  have hg : (ys.map KV.toDL)[i]? = some (KV.toDL xs) := by rw [List.getElem?_map, hi, hy]; rfl
  refine ⟨hT.next i _ s hg h0, fun s' b hb => ?_⟩
  obtain ⟨h1, h2⟩ := hT.out i _ s s' b hg h0 hb
  cases b with
  | true => exact ht s' (h1 rfl)
  | false => exact hf s' (h2 rfl)
def putPK : List Nat → List KV → List (Nat × KV) → List (Nat × KV)
  | p :: ps, x :: xs, T => putPK ps xs ((p, x) :: T)
  | _, _, T => T
theorem putPs_leq : ∀ {ps : List Nat} {xs : List D} {T T' : List (Nat × AV)}, (∀ t, look T t = look T' t) → ∀ t, look (putPs ps xs T) t = look (putPs ps xs T') t
  | [], _, T, T', h, t => by simpa [putPs] using h t
  | p :: ps, [], T, T', h, t => by simpa [putPs] using h t
  | p :: ps, x :: xs, T, T', h, t => by
    simp only [putPs]
    exact putPs_leq (fun u => by rw [look_setT, look_setT, h u]) t
theorem putPK_spec : ∀ {ps : List Nat} {xs : List KV} {T : List (Nat × KV)}, okArgs xs = true → ∀ t, look (mapT (putPK ps xs T)) t = look (putPs ps (KV.toDL xs) (mapT T)) t
  | [], xs, T, _, t => by cases xs <;> rfl
  | p :: ps, [], T, _, t => rfl
  | p :: ps, x :: xs, T, h, t => by
    simp only [okArgs, Bool.and_eq_true] at h
    simp only [putPK, KV.toDL, putPs]
    rw [putPK_spec h.2]
    refine putPs_leq (fun u => ?_) t
    simp only [mapT, look, look_setT, okArg_av h.1]
mutual
def KV.calm (N : Nat) : KV → Bool
  | .agg cs => KV.calmL N cs
  | .tup cs => KV.calmL N cs
  | .fn _ cs => KV.calmL N cs
  | .loc b _ => Nat.blt b N
  | .osl _ => false
  | .oloc _ _ _ _ => false
  | _ => true
def KV.calmL (N : Nat) : List KV → Bool
  | [] => true
  | c :: r => match c.calm N with
    | true => KV.calmL N r
    | false => false
end
mutual
theorem calm_av (N : Nat) : ∀ (c : KV), c.av.calm N = c.calm N
  | .agg cs => by simp only [KV.av, AV.calm, KV.calm, calmL_av N cs]
  | .tup cs => by simp only [KV.av, AV.calm, KV.calm, calmL_av N cs]
  | .fn _ cs => by simp only [KV.av, AV.calm, KV.calm, calmL_av N cs]
  | .loc _ _ => rfl
  | .osl _ => rfl
  | .oloc _ _ _ _ => rfl
  | .any | .int _ _ | .lit _ _ | .bool _ | .tt | .ff | .str _ | .dfn _ _ | .nilfn | .nilsl | .nilmap | .nilptr | .ptr _ | .sl _ _ _ _ _ _ | .slr _ _ _ | .mp _ _ _ _ | .d _ | .yld => by simp only [KV.av, AV.calm, KV.calm]
theorem calmL_av (N : Nat) : ∀ (cs : List KV), AV.calmL N (KV.avL cs) = KV.calmL N cs
  | [] => rfl
  | c :: r => by
    simp only [KV.avL, AV.calmL, KV.calmL, calm_av N c, calmL_av N r]
    cases c.calm N <;> simp
end
def calmTK (N : Nat) : List (Nat × KV) → Bool
  | [] => true
  | (_, c) :: r => match c.calm N with
    | true => calmTK N r
    | false => false
theorem calmTK_spec {N : Nat} : ∀ (T : List (Nat × KV)), calmT N (mapT T) = calmTK N T
  | [] => rfl
  | (t, c) :: r => by
    simp only [mapT, calmT, calmTK, calm_av, calmTK_spec r]
    cases c.calm N <;> simp
/-- The state with other boxes and rows. -/
def KSt.ho (S : KSt) (x : List (Nat × KBlk) × List (Nat × KRow)) : KSt := ⟨S.n, S.T, x.1, x.2, S.low⟩
def roundK {A : Type u} {σ : Type} (hs : A → List (Nat × KBlk) × List (Nat × KRow)) (inv : A → σ → Prop) (jx : Exit → A → σ → Prop) (e : Exit) (S : KSt) (s : σ) : Prop := match e with
  | .panic _ => False
  | .outgrown => False
  | .normal => ∃ a, eqH S.H (hs a).1 ∧ eqO S.O (hs a).2 ∧ inv a s
  | e => ∃ a, eqH S.H (hs a).1 ∧ eqO S.O (hs a).2 ∧ jx e a s
def assignK {σ : Type} (K : KSt → σ → Prop) (e : Exit) (S : KSt) (s : σ) : Prop := match e with
  | .normal => K S s
  | _ => False
/-- What is known to range over: the function and what it has captured. -/
def rangeArg (S : KSt) (g : Operand) : Option (Nat × List D) := match kop S.T g with
  | some (.d (.fn f ds)) => some (f, ds)
  | some fv => match fnK fv with
    | some (f, cs) => match mapK (snapK false S 8) cs with
      | some caps => some (f, KV.toDL caps)
      | none => none
    | none => none
  | none => none
theorem rangeArg_spec {S : KSt} {g : Operand} {f : Nat} {ds : List D} (h : rangeArg S g = some (f, ds)) (hna : noAggD ds = true) : ∃ fv caps, opnd S.st.T g = some fv ∧ fnOf fv = some (f, caps) ∧ snapL false S.st caps = some ds := by
  unfold rangeArg at h
  split at h
  · rename_i f' ds' h1
    simp only [Option.some.injEq, Prod.mk.injEq] at h
    obtain ⟨rfl, rfl⟩ := h
    exact ⟨_, _, kop_st h1, rfl, snapL_app (cs := []) (xs := []) rfl hna⟩
  · rename_i fv _ h1
    split at h
    · rename_i f' cs h2
      split at h
      · rename_i caps0 h3
        simp only [Option.some.injEq, Prod.mk.injEq] at h
        obtain ⟨rfl, rfl⟩ := h
        exact ⟨_, _, kop_st h1, fnK_spec h2, snapL_spec' h3⟩
      · cases h
    · cases h
  · cases h
theorem st_ho (S : KSt) (x : List (Nat × KBlk) × List (Nat × KRow)) : (S.ho x).st = S.st.ho (mapH x.1, mapO x.2) := rfl
theorem weak_ho {S : St} {x y : HO} (hH : subH x.1 y.1) (hO : subO x.2 y.2) : Weak (S.ho x) (S.ho y) :=
  Less.weak (S := S.ho x) (S' := S.ho y) (Less.mk rfl (Nat.le_refl _) (fun _ _ h => h) (fun b B h => ⟨B.live, subH_look hH h, id⟩) (fun b B h => ⟨B.live, subO_look hO h, id⟩))
theorem W_range {A : Type u} {I : Prim E.σ} (hI : I = primK P E base none post) (hT : SeatOk P tb) (pz : List Nat) {g : Operand} {ps : Array Tmp} {assign body : Code} {S : KSt} {s : E.σ} {Q : Exit → KSt → E.σ → Prop} {f : Nat} {ds : List D} {ys : List (List KV)} (hdr : (drawsOk assign && drawsOk body) = true)
    (hit : IterCon P f ds (ys.map KV.toDL)) (hna : noAggD ds = true) (hs : A → List (Nat × KBlk) × List (Nat × KRow)) (inv : Nat → A → E.σ → Prop) (jx : Exit → A → E.σ → Prop) (a0 : A) (hg : rangeArg (S.ho (hs a0)) g = some (f, ds))
    (hlen : ∀ y ∈ ys, lenK y = ps.size ∧ okArgs y = true) (N : Nat) (hps : (belowN S.n ps.toList && calmTK N S.T && Nat.ble S.low N) = true) (hH : eqH S.H (hs a0).1) (hO : eqO S.O (hs a0).2) (h0 : inv 0 a0 s)
    (round : ∀ (i : Nat) (y : List KV) (a : A) (s : E.σ), ys[i]? = some y → inv i a s → ∀ (l : Nat) (I : Prim E.σ), I = primK P E base (some l) post → ∀ (R : Exit → KSt → E.σ → Prop), (∀ S' s' a', eqH S'.H (hs a').1 → eqO S'.O (hs a').2 → inv (i + 1) a' s' → R .normal S' s') → (∀ e S' s' a', (match e with | .normal => false | .panic _ => false | .outgrown => false | _ => true) = true → eqH S'.H (hs a').1 → eqO S'.O (hs a').2 → jx e a' s' → R e S' s') →
      wpK I tb pz assign ⟨S.n, putPK ps.toList y S.T, (hs a).1, (hs a).2, N⟩ s (assignK fun S2 s2 => wpK I tb pz body S2 s2 R))
    (hend : ∀ a s', inv ys.length a s' → Q .normal (S.ho (hs a)) s') (hjmp : ∀ e a s', jx e a s' → Q e (S.ho (hs a)) s') : I.W (.rangeFunc g ps assign body) S s Q := by
  subst hI
  simp only [Bool.and_eq_true] at hdr hps
  obtain ⟨⟨hp1, hp2⟩, hp3⟩ := hps
  obtain ⟨fv, cs, h1, h2, h3⟩ := rangeArg_spec hg hna
  have hwk : Weak S.st (S.ho (hs a0)).st := by
    rw [st_ho]
    exact weak_ho (S := S.st) (x := (S.st.H, S.st.O)) (eqH_spec hH) (eqO_spec hO)
  refine AW_weak hwk ?_
  refine AW_rangeFunc (ys := ys.map KV.toDL) N h1 h2 h3 hit (fun y hy => ?_) hp1 (by rw [show (S.ho (hs a0)).st.T = mapT S.T from rfl, calmTK_spec]; exact hp2) (Nat.le_of_ble_eq_true hp3)
    (fun i x s => ∃ a, x = (mapH (hs a).1, mapO (hs a).2) ∧ inv i a s) (fun e x s => ∃ a, subH x.1 (mapH (hs a).1) ∧ subO x.2 (mapO (hs a).2) ∧ jx e a s) ⟨a0, rfl, h0⟩ ?_ ?_ ?_
  · obtain ⟨y', hy', rfl⟩ := List.mem_map.1 hy
    rw [toDL_len]; exact (hlen y' hy').1
  · rintro i y x s hi ⟨a, rfl, ha⟩ l
    rw [List.getElem?_map] at hi
    cases hy : ys[i]? with
    | none => rw [hy] at hi; cases hi
    | some y' =>
      rw [hy] at hi
      cases hi
      have hok := (hlen y' (List.mem_of_getElem? hy)).2
      have hrd := wpK_aw hT.mix hT.tab hdr.1 (round i y' a s hy ha l _ rfl (roundK hs (inv (i + 1)) jx) (fun S' s' a' h1 h2 h3 => ⟨a', h1, h2, h3⟩) (fun e S' s' a' he h1 h2 h3 => by cases e <;> first | exact ⟨a', h1, h2, h3⟩ | cases he))
      have hlq : Leq (SR (S.ho (hs a0)).st ps.toList (KV.toDL y') (mapH (hs a).1, mapO (hs a).2) N) (KSt.st ⟨S.n, putPK ps.toList y' S.T, (hs a).1, (hs a).2, N⟩) :=
        ⟨rfl, rfl, fun t => (putPK_spec hok t), fun _ => rfl, fun _ => rfl⟩
      refine AW_weak hlq.less.weak (AW_weakQ (hrd.mono ?_))
      rintro e S2 s2 ⟨S3, hw3, hq⟩
      refine ⟨S3.st, hw3, ?_⟩
      cases e with
      | normal =>
        refine ⟨rfl, ?_⟩
        have hb := wpK_aw hT.mix hT.tab hdr.2 (show wpK _ tb pz body S3 s2 _ from hq)
        refine AW_weakQ (hb.mono ?_)
        rintro e S4 s4 ⟨S5, hw5, hq⟩
        refine ⟨S5.st, hw5, ?_⟩
        cases e with
        | normal =>
          obtain ⟨a', e1, e2, e3⟩ := hq
          exact ⟨S5.st.ho (mapH (hs a').1, mapO (hs a').2), weak_ho (S := S5.st) (x := (S5.st.H, S5.st.O)) (eqH_spec e1) (eqO_spec e2), a', rfl, e3⟩
        | panic => exact hq.elim
        | outgrown => exact hq.elim
        | _ =>
          obtain ⟨a', e1, e2, e3⟩ := hq
          exact ⟨a', eqH_spec e1, eqO_spec e2, e3⟩
      | _ => exact hq.elim
  · rintro x s' ⟨a, rfl, ha⟩
    rw [List.length_map] at ha
    exact ⟨S.ho (hs a), Weak.refl _, hend a s' ha⟩
  · rintro e c x s' _ ⟨a, e1, e2, e3⟩
    exact ⟨S.ho (hs a), weak_ho (S := S.st) (x := x) (y := (mapH (hs a).1, mapO (hs a).2)) e1 e2, hjmp e a s' e3⟩
end Go.Proofs.Ytnekemldcjegaaa.Aw
