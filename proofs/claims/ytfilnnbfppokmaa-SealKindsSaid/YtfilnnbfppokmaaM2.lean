/- Part 2 of the proof: lemmas. -/
import Derived.Test.YtfilnnbfppokmaaM1
import Derived.ArgAppend
import Derived.Laws.StructEq
import Derived.Laws.Cover3
import Derived.MapKept
import Derived.Maps.RangeRun
import Derived.Laws.RangeString
import Derived.Laws.IdiomStrings
import Derived.Lib.ConvBytes
set_option linter.unusedVariables false
set_option linter.unusedSimpArgs false
set_option linter.unusedSectionVars false

namespace Go.Proofs.Ytfilnnbfppokmaa.Aw
open Go Go.RowKit
variable {P : Program}
structure Takes (E : Env P) (ys : List (List D)) (Inv : Nat -> E.σ -> Prop) (Fin : E.σ -> Prop) : Prop where
 next : ∀ i y s, ys[i]? = some y -> Inv i s -> E.step s y
 out : ∀ i y s s' b, ys[i]? = some y -> Inv i s -> E.out s y s' b -> (b = true -> Inv (i + 1) s') /\ (b = false -> Fin s')
 done : ∀ s, Inv ys.length s -> Fin s
def IterConB (P : Program) (f : Nat) (fs caps : List D) (ys : List (List D)) : Prop :=
 Ent P f /\ ∀ (E : Env P) (Inv : Nat -> E.σ -> Prop) (Fin : E.σ -> Prop), Takes E ys Inv Fin -> ∀ (w : World) (ok : Nat -> Prop) (us vs : Array Value) (lv rd : Nat -> Prop) (s : E.σ),
  (∀ k, ok k -> k < w.heap.size /\ ¬ lv k /\ E.dom k) -> (∀ k, w.heap.size <= k -> E.dom k) -> Rds w ok fs us -> Rds w ok caps vs -> E.J s lv rd w -> Inv 0 s ->
  CallsIn Fence.wide 0 P f (us ++ #[.func (.yield E.l) #[] #[]] ++ vs) w fun e w' => ∃ v s' lv' rd', e = .returned v /\ E.J s' lv' rd' w' /\ Fin s' /\ w'.os = w.os /\ w'.tape = w.tape /\ w'.output = w.output /\ w.heap.size <= w'.heap.size /\
   ∀ k, k < w.heap.size -> ¬ lv k -> w'.heap[k]? = w.heap[k]?
def IterCon (P : Program) (f : Nat) (caps : List D) (ys : List (List D)) : Prop := IterConB P f [] caps ys
theorem leaves_marks' {base yl : Nat} {S : St} {fn : Func} {R : Ending -> World -> Prop} : ∀ (ds : List Nat) (M : Mp) (a : Act) (w : World), M.ds = ds -> Rel base S M yl a w ->
  (∀ M' a' w', Rel base S M' yl a' w' -> M'.μ = M.μ -> M'.ν = M.ν -> M'.ok = M.ok -> a'.tmps = a.tmps -> w'.heap.size = w.heap.size -> w'.os = w.os -> w'.tape = w.tape -> w'.output = w.output -> (∀ k, k ∉ ds -> w'.heap[k]? = w.heap[k]?) -> ∃ v, (results fn a.tmps).run P w' = .ok v w' /\ R (.returned v) w') ->
  LeavesInM (FW none) 0 P fn a.tmps R (marks ds) .returning w
 | [], M, a, w, hd, hr, h => h M a w hr rfl rfl rfl rfl rfl rfl rfl rfl (fun _ _ => rfl)
 | D :: ds, M, a, w, hd, hr, h => by
  refine ⟨by simp, .inl ⟨D, w.putObj D (.deferred none), rfl, run_takeDeferred (hr.dsOk D (by rw [hd]; simp)).2.1, ?_⟩⟩
  have := leaves_marks' ds { M with ds := ds } { a with defers := marks ds } (w.putObj D (.deferred none)) rfl (hr.take hd)
   (fun M' a' w' h1 h3 h4 h5 h6 h7 h8 h9 h10 h11 => h M' a' w' h1 h3 h4 h5 h6 (h7.trans (by simp)) h8 h9 h10 (fun k hk => (h11 k (fun hh => hk (List.mem_cons_of_mem _ hh))).trans (World.putObj_heap_other (fun e => hk (by rw [e]; simp)))))
  exact this
def SYB (n : Nat) (fs caps : List D) : St := ⟨n, argT 0 fs ++ (fs.length, .yld) :: argT (fs.length + 1) caps, [], [], 0⟩
theorem argT_lt : ∀ {xs : List D} {i t : Nat} {c : AV}, look (argT i xs) t = some c -> t < i + xs.length := fun h => by
 obtain ⟨h1, x, h2, _⟩ := look_argT h
 have := (List.getElem?_eq_some_iff.1 h2).1
 omega
def SY (n : Nat) (caps : List D) : St := ⟨n, (0, .yld) :: argT 1 caps, [], [], 0⟩
theorem iter_introB {f : Nat} {fn : Func} {c : Code} (hf : P.funcs[f]? = some fn) (hb : fn.body = some c) (hent : Ent P f) {fs caps : List D} (hn : Nat.ble (fs.length + caps.length + 1) fn.ntmps = true) (hres : fn.results = #[]) {ys : List (List D)}
  (h : ∀ (E : Env P) (Inv : Nat -> E.σ -> Prop) (Fin : E.σ -> Prop), Takes E ys Inv Fin -> ∀ (base : Nat) (s : E.σ), Inv 0 s -> AW E base none c (SYB fn.ntmps fs caps) s (fun e S s' => (e = .normal \/ e = .ret) /\ Fin s')) : IterConB P f fs caps ys := by
 refine ⟨hent, fun E Inv Fin hT w ok us vs lv rd s hok hdom hus hvs hJ h0 => ?_⟩
 refine callsIn_of_wp_marks (F := FW none) (n := 0) hf hb trivial ?_
 let M0 : Mp := ⟨fun _ => none, fun _ => none, ok, lv, rd, []⟩
 have hn' := Nat.le_of_ble_eq_true hn
 have hsz1 : (#[Value.func (.yield E.l) #[] #[]] : Array Value).size = 1 := rfl
 have hsz2 : (us ++ #[Value.func (.yield E.l) #[] #[]] : Array Value).size = fs.length + 1 := by rw [Array.size_append, hus.1, hsz1]
 have hr0 : Rel w.heap.size (SYB fn.ntmps fs caps) M0 E.l { tmps := (us ++ #[.func (.yield E.l) #[] #[]] ++ vs) ++ Array.replicate (fn.ntmps - (us ++ #[Value.func (.yield E.l) #[] #[]] ++ vs).size) undef, defers := [] } w := by
  refine ⟨Nat.le_refl _, ?_, fun t c ht => ?_, ⟨fun b B hB => (by cases hB), fun b B hB => (by cases hB), fun x y k hx => by cases x <;> (obtain ⟨⟨_, h⟩, _⟩ := hx; cases h)⟩, fun k hk => (hok k hk).1, rfl, fun D hD => (by cases hD), List.nodup_nil⟩
  ·show ((us ++ #[Value.func (.yield E.l) #[] #[]] ++ vs) ++ Array.replicate (fn.ntmps - (us ++ #[Value.func (.yield E.l) #[] #[]] ++ vs).size) undef).size = fn.ntmps
   rw [Array.size_append, Array.size_replicate, Array.size_append, hvs.1, hsz2]
   omega
  ·simp only [SYB] at ht
   rw [look_append] at ht
   cases hq : look (argT 0 fs) t with
   | some c' =>
    rw [hq, Option.some_or] at ht; cases ht
    have hlt0 := argT_lt hq
    obtain ⟨_, x, h2, rfl⟩ := look_argT hq
    rw [Nat.sub_zero] at h2
    have hlt := (List.getElem?_eq_some_iff.1 h2).1
    obtain ⟨v, hv⟩ : ∃ v, us[t]? = some v := ⟨us[t]'(by rw [hus.1]; exact hlt), by simp⟩
    refine ⟨v, ?_, toAV_spec (hus.2 t x v h2 hv)⟩
    show ((us ++ #[Value.func (.yield E.l) #[] #[]] ++ vs) ++ _)[t]? = some v
    rw [Array.getElem?_append_left (by rw [Array.size_append, hsz2]; omega), Array.getElem?_append_left (by rw [hsz2]; omega), Array.getElem?_append_left (by rw [hus.1]; omega)]
    exact hv
   | none =>
    rw [hq, Option.none_or] at ht
    simp only [look] at ht
    by_cases e : fs.length = t
    ·subst e
     rw [if_pos rfl] at ht; cases ht
     refine ⟨.func (.yield E.l) #[] #[], ?_, .yld⟩
     show ((us ++ #[Value.func (.yield E.l) #[] #[]] ++ vs) ++ _)[fs.length]? = some _
     rw [Array.getElem?_append_left (by rw [Array.size_append, hsz2]; omega), Array.getElem?_append_left (by rw [hsz2]; omega), Array.getElem?_append_right (by rw [hus.1]; exact Nat.le_refl _), hus.1]
     simp
    ·rw [if_neg e] at ht
     obtain ⟨h1, x, h2, rfl⟩ := look_argT ht
     have hlt := (List.getElem?_eq_some_iff.1 h2).1
     obtain ⟨v, hv⟩ : ∃ v, vs[t - (fs.length + 1)]? = some v := ⟨vs[t - (fs.length + 1)]'(by rw [hvs.1]; exact hlt), by simp⟩
     refine ⟨v, ?_, toAV_spec (hvs.2 _ x v h2 hv)⟩
     show ((us ++ #[Value.func (.yield E.l) #[] #[]] ++ vs) ++ _)[t]? = some v
     rw [Array.getElem?_append_left (by rw [Array.size_append, hvs.1, hsz2]; omega), Array.getElem?_append_right (by rw [hsz2]; exact h1), hsz2]
     exact hv
 have hown0 : ∀ k, ¬ Own (SYB fn.ntmps fs caps) M0 k := by
  rintro k (⟨x, hx, _⟩ | hd)
  ·cases x <;> (obtain ⟨⟨_, h⟩, _⟩ := hx; cases h)
  ·cases hd
 have hc0 : Cfg E w.heap.size (SYB fn.ntmps fs caps) s M0 { tmps := (us ++ #[.func (.yield E.l) #[] #[]] ++ vs) ++ Array.replicate (fn.ntmps - (us ++ #[Value.func (.yield E.l) #[] #[]] ++ vs).size) undef, defers := [] } w :=
  ⟨hr0, hJ, fun k hk => (hok k hk).2.1, fun k hk => absurd hk (hown0 k), fun k hk => (hok k hk).2.2, hdom⟩
 refine wpIn_mono (h E Inv Fin hT w.heap.size s h0 M0 _ w hc0) ?_
 rintro e a' w' ⟨S', s', M', ⟨he, hfin⟩, hc', hx⟩
 have hgoal : LeavesInM (FW none) 0 P fn a'.tmps (fun e w' => ∃ v s' lv' rd', e = .returned v /\ E.J s' lv' rd' w' /\ Fin s' /\ w'.os = w.os /\ w'.tape = w.tape /\ w'.output = w.output /\ w.heap.size <= w'.heap.size /\
   ∀ k, k < w.heap.size -> ¬ lv k -> w'.heap[k]? = w.heap[k]?) a'.defers .returning w' := by
  rw [hc'.rel.dfr]
  refine leaves_marks' M'.ds M' a' w' rfl hc'.rel (fun M2 a2 w2 hr2 e1 e2 e3 e4 e5 e6 e7 e8 e9 => ?_)
  obtain ⟨v, h5, _⟩ := run_results (P := P) (fn := fn) (cs := []) hr2 (by rw [hres]; rfl)
  rw [<- e4]
  refine ⟨v, h5, v, s', M'.lv, M'.rd, rfl, E.frame _ _ _ _ _ hc'.j (fun k hk => e9 k (fun hd => ?_)) (by omega), hfin, e6.trans hx.os, e7.trans hx.tape, e8.trans hx.output, by have := hx.size; omega, fun k hk hl => ?_⟩
  ·have := hc'.own k (.inr hd)
   exact hk.elim this.1 this.2
  ·rw [e9 k (fun hd => ?_)]
   ·exact hx.keep k hk (hown0 k) hl
   ·have := (hc'.rel.dsOk k hd).1; omega
 rcases he with rfl | rfl
 ·exact hgoal
 ·exact hgoal
theorem iter_intro {f : Nat} {fn : Func} {c : Code} (hf : P.funcs[f]? = some fn) (hb : fn.body = some c) (hent : Ent P f) {caps : List D} (hn : Nat.ble (caps.length + 1) fn.ntmps = true) (hres : fn.results = #[]) {ys : List (List D)}
  (h : ∀ (E : Env P) (Inv : Nat -> E.σ -> Prop) (Fin : E.σ -> Prop), Takes E ys Inv Fin -> ∀ (base : Nat) (s : E.σ), Inv 0 s -> AW E base none c (SY fn.ntmps caps) s (fun e S s' => (e = .normal \/ e = .ret) /\ Fin s')) : IterCon P f caps ys :=
 iter_introB hf hb hent (fs := []) (by simpa using hn) hres h
end Go.Proofs.Ytfilnnbfppokmaa.Aw
namespace Go.Proofs.Ytfilnnbfppokmaa.Aw
open Go Go.RowKit
variable {P : Program} {E : Env P} {base : Nat} {r : Option Nat}
def setT : List (Nat × AV) -> Nat -> AV -> List (Nat × AV)
 | [], n, v => [(n, v)]
 | (k, u) :: r, n, v => if k = n then (k, v) :: r else (k, u) :: setT r n v
theorem look_setT {n t : Nat} {v : AV} : ∀ {T : List (Nat × AV)}, look (setT T n v) t = if n = t then some v else look T t
 | [] => by simp [setT, look]
 | (k, u) :: r => by
  simp only [setT]
  by_cases e : k = n
  ·subst e
   simp only [if_pos]
   simp only [look]
   by_cases e' : k = t <;> simp [e']
  ·rw [if_neg e]
   simp only [look, look_setT]
   by_cases e' : k = t
   ·subst e'; simp [Ne.symm e, show ¬ n = k from fun h => e h.symm]
   ·simp [e']
def setD (T : List (Nat × AV)) (dst : Option Nat) (v : AV) : List (Nat × AV) := match dst with
 | some t => setT T t v
 | none => T
theorem appS_leq (S : St) (dst : Option Nat) (id : Nat) (R : Row) : Leq (appS S dst id R) ⟨S.n, setD (forgetT id S.T) dst (.osl id), forgetH id S.H, setA S.O id R, S.low⟩ := by
 refine ⟨rfl, rfl, fun t => ?_, fun _ => rfl, fun _ => rfl⟩
 cases dst with
 | none => rfl
 | some d => simp only [appS, putO, setD, look_setT, look]
theorem AWO_leq {ops : Array Oper} {l : List Nat} {S S' : St} {s : E.σ} {Q : Exit -> St -> E.σ -> Prop} (hl : Leq S S') (h : AWO E base r ops l S' s Q) : AWO E base r ops l S s Q := AWO_weak hl.less.weak h
end Go.Proofs.Ytfilnnbfppokmaa.Aw
namespace Go.Proofs.Ytfilnnbfppokmaa.Aw
open Go Go.RowKit
variable {P : Program} {E : Env P} {base : Nat}
mutual
def AV.calm (N : Nat) : AV -> Bool
 | .agg cs | .tup cs | .fn _ cs => AV.calmL N cs
 | .loc b _ | .asl b _ _ _ => Nat.blt b N
 | .osl _ | .oloc _ _ _ _ => false
 | .any | .d _ | .yld => true
def AV.calmL (N : Nat) : List AV -> Bool
 | [] => true
 | c :: r => c.calm N && AV.calmL N r
end
mutual
theorem AV.calm_spec {N : Nat} : ∀ {c : AV}, c.calm N = true -> (∀ b, c.box b = true -> b < N) /\ ∀ b, c.hasRow b = false
 | .agg cs, h => by simp only [AV.calm] at h; simpa [AV.box, AV.hasRow] using AV.calmL_spec h
 | .tup cs, h => by simp only [AV.calm] at h; simpa [AV.box, AV.hasRow] using AV.calmL_spec h
 | .fn _ cs, h => by simp only [AV.calm] at h; simpa [AV.box, AV.hasRow] using AV.calmL_spec h
 | .loc b o, h => by simp only [AV.calm, Nat.blt_eq] at h; simp [AV.box, AV.hasRow]; omega
 | .asl b o l k, h => by simp only [AV.calm, Nat.blt_eq] at h; simp [AV.box, AV.hasRow]; omega
 | .osl _, h => by simp [AV.calm] at h
 | .oloc _ _ _ _, h => by simp [AV.calm] at h
 | .any, _ => by simp [AV.box, AV.hasRow]
 | .d _, _ => by simp [AV.box, AV.hasRow]
 | .yld, _ => by simp [AV.box, AV.hasRow]
theorem AV.calmL_spec {N : Nat} : ∀ {cs : List AV}, AV.calmL N cs = true -> (∀ b, AV.boxL b cs = true -> b < N) /\ ∀ b, AV.hasRowL b cs = false
 | [], _ => by simp [AV.boxL, AV.hasRowL]
 | c :: r, h => by
  simp only [AV.calmL, Bool.and_eq_true] at h
  obtain ⟨h1, h2⟩ := AV.calm_spec h.1
  obtain ⟨h3, h4⟩ := AV.calmL_spec h.2
  refine ⟨fun b hb => ?_, fun b => by simp [AV.hasRowL, h2 b, h4 b]⟩
  simp only [AV.boxL, Bool.or_eq_true] at hb
  exact hb.elim (h1 b) (h3 b)
end
def calmT (N : Nat) : List (Nat × AV) -> Bool
 | [] => true
 | (_, c) :: r => c.calm N && calmT N r
theorem calmT_look {N : Nat} : ∀ {T : List (Nat × AV)}, calmT N T = true -> ∀ {t : Nat} {c : AV}, look T t = some c -> c.calm N = true
 | [], _, t, c, h => by simp [look] at h
 | (k, u) :: r, hT, t, c, h => by
  simp only [calmT, Bool.and_eq_true] at hT
  simp only [look] at h
  by_cases e : k = t
  ·rw [if_pos e] at h; cases h; exact hT.1
  ·rw [if_neg e] at h; exact calmT_look hT.2 h
def putPs : List Nat -> List D -> List (Nat × AV) -> List (Nat × AV)
 | p :: ps, x :: xs, T => putPs ps xs (setT T p (toAV x))
 | _, _, T => T
def belowN (n : Nat) : List Nat -> Bool
 | [] => true
 | p :: r => Nat.blt p n && belowN n r
theorem putPs_spec {R : AV -> Value -> Prop} : ∀ (ps : List Nat) (xs : List D) (vs : List Value) (T : List (Nat × AV)) (tmps : Array Value), (∀ t c, look T t = some c -> ∃ v, tmps[t]? = some v /\ R c v) -> xs.length = ps.length -> vs.length = ps.length ->
  (∀ (i : Nat) (x : D) (v : Value), xs[i]? = some x -> vs[i]? = some v -> R (toAV x) v) -> belowN tmps.size ps = true ->
  ((ps.zip vs).foldl (fun t (q : Nat × Value) => t.setIfInBounds q.1 q.2) tmps).size = tmps.size /\
  ∀ t c, look (putPs ps xs T) t = some c -> ∃ v, ((ps.zip vs).foldl (fun t (q : Nat × Value) => t.setIfInBounds q.1 q.2) tmps)[t]? = some v /\ R c v
 | [], xs, vs, T, tmps, h, _, _, _, _ => ⟨rfl, by simpa [putPs] using h⟩
 | p :: ps, [], vs, T, tmps, h, hx, _, _, _ => by simp at hx
 | p :: ps, x :: xs, [], T, tmps, h, _, hv, _, _ => by simp at hv
 | p :: ps, x :: xs, v :: vs, T, tmps, h, hx, hv, hr, hb => by
  simp only [belowN, Bool.and_eq_true, Nat.blt_eq] at hb
  have ih := putPs_spec (R := R) ps xs vs (setT T p (toAV x)) (tmps.setIfInBounds p v) (fun t c ht => by
   rw [look_setT] at ht
   by_cases e : p = t
   ·subst e
    rw [if_pos rfl] at ht; cases ht
    exact ⟨v, by simp [hb.1], hr 0 x v rfl rfl⟩
   ·rw [if_neg e] at ht
    obtain ⟨u, h1, h2⟩ := h t c ht
    exact ⟨u, by rw [Array.getElem?_setIfInBounds_ne e]; exact h1, h2⟩) (by simpa using hx) (by simpa using hv) (fun i y u hy hu => hr (i + 1) y u (by simpa using hy) (by simpa using hu)) (by simpa using hb.2)
  simp only [List.zip_cons_cons, List.foldl_cons, putPs]
  exact ⟨ih.1.trans (by simp), ih.2⟩
abbrev HO := List (Nat × Blk) × List (Nat × Row)
def St.ho (S : St) (x : HO) : St := ⟨S.n, S.T, x.1, x.2, S.low⟩
def jumpOf : Exit -> Option Code
 | .ret => some .ret
 | .exit id => some (.exit id)
 | .goto t => some (.goto t)
 | _ => none
def roundQ (I : HO -> E.σ -> Prop) (Ix : Exit -> HO -> E.σ -> Prop) : Exit -> St -> E.σ -> Prop
 | .normal, S, s => ∃ S', Weak S S' /\ I (S'.H, S'.O) s
 | .panic _, _, _ => False
 | .outgrown, _, _ => False
 | e, S, s => Ix e (S.H, S.O) s
structure LoopJ (E : Env P) (base : Nat) (S : St) (M1 : Mp) (W1 : World) (a1 : Act) (l : Nat) (x : HO) (s : E.σ) (M : Mp) (lv rd : Nat -> Prop) (w : World) : Prop where
 cfg : Cfg E base (S.ho x) s M a1 w
 size : W1.heap.size <= w.heap.size
 own : ∀ k, k < W1.heap.size -> Own (S.ho x) M k -> Own S M1 k
 okm : ∀ k, M1.ok k -> M.ok k
 okn : ∀ k, k < W1.heap.size -> M.ok k -> M1.ok k \/ Own S M1 k
 lvn : ∀ k, k < W1.heap.size -> M.lv k -> M1.lv k
 rdn : ∀ k, k < W1.heap.size -> M.rd k -> M1.rd k \/ M1.lv k \/ M1.ok k \/ Own S M1 k
 μlow : ∀ b, b < S.low -> M.μ b = M1.μ b
 pin : ∀ id, 100 <= id -> M.ν id = M1.ν id
 lv : ∀ k, lv k ↔ Own (S.ho x) M k \/ M.lv k \/ k = l
 rd : ∀ k, rd k ↔ M.ok k \/ M.rd k
 nl : ¬ Own (S.ho x) M l /\ ¬ M.lv l /\ ¬ M.rd l /\ ¬ M.ok l
theorem LoopJ.frame {S : St} {M1 : Mp} {W1 : World} {a1 : Act} {l : Nat} {x : HO} {s : E.σ} {M : Mp} {lv rd : Nat -> Prop} {w w' : World} (h : LoopJ E base S M1 W1 a1 l x s M lv rd w) (hw : ∀ k, k ≠ l -> lv k \/ rd k -> w'.heap[k]? = w.heap[k]?) (hs : w.heap.size <= w'.heap.size) :
  LoopJ E base S M1 W1 a1 l x s M lv rd w' := by
 have hown : ∀ k, Own (S.ho x) M k -> w'.heap[k]? = w.heap[k]? := fun k hk => hw k (fun e => h.nl.1 (e ▸ hk)) (.inl ((h.lv k).2 (.inl hk)))
 have hok : ∀ k, M.ok k -> w'.heap[k]? = w.heap[k]? := fun k hk => hw k (fun e => h.nl.2.2.2 (e ▸ hk)) (.inr ((h.rd k).2 (.inl hk)))
 refine { h with cfg := ⟨h.cfg.rel.frame hs (fun x k hx => (h.cfg.at_or hx).elim (hown k) (hok k)) hok (fun D hD => hown D (.inr hD)) rfl rfl rfl rfl, E.frame _ _ _ _ _ h.cfg.j (fun k hk => ?_) hs, h.cfg.okLv, h.cfg.own, h.cfg.okDom, h.cfg.bDom⟩, size := Nat.le_trans h.size hs }
 rcases hk with hk | hk
 ·exact hw k (fun e => h.nl.2.1 (e ▸ hk)) (.inl ((h.lv k).2 (.inr (.inl hk))))
 ·exact hw k (fun e => h.nl.2.2.1 (e ▸ hk)) (.inr ((h.rd k).2 (.inr hk)))
end Go.Proofs.Ytfilnnbfppokmaa.Aw
namespace Go.Proofs.Ytfilnnbfppokmaa.Aw
open Go Go.RowKit
variable {P : Program} {E : Env P} {base : Nat}
structure Nl (S : St) (M : Mp) (l : Nat) : Prop where
 own : ¬ Own S M l
 lv : ¬ M.lv l
 rd : ¬ M.rd l
 ok : ¬ M.ok l
theorem Nl.step {S S' : St} {M M' : Mp} {w w' : World} {l : Nat} (h : Nl S M l) (hx : Ext S M w S' M' w') (hl : l < w.heap.size) : Nl S' M' l :=
 ⟨fun k => h.own (hx.own l hl k), fun k => h.lv (hx.lvn l hl k), fun k => (hx.rdn l hl k).elim h.rd (fun k => k.elim h.lv (fun k => k.elim h.ok h.own)), fun k => (hx.okn l hl k).elim h.ok h.own⟩
def plusM (M : Mp) (l : Nat) : Mp := { M with lv := fun k => M.lv k \/ k = l }
theorem Ext.plus {S S' : St} {M M' : Mp} {w w' : World} (h : Ext S M w S' M' w') (l : Nat) : Ext S (plusM M l) w S' (plusM M' l) w' :=
 ⟨h.os, h.tape, h.output, h.size, fun k hk ho hl => h.keep k hk (fun x => ho (by cases x with | inl x => (obtain ⟨x, hx, hlv⟩ := x; exact .inl ⟨x, by cases x <;> exact hx, hlv⟩) | inr x => exact .inr x)) (fun x => hl (.inl x)),
  fun k hk x => h.own k hk x, h.okm, fun k hk x => h.okn k hk x, fun k hk x => x.imp (h.lvn k hk) id, h.low, h.μlow, fun k hk x => (h.rdn k hk x).imp id (fun y => y.imp .inl id), h.pin⟩
theorem Cfg.other {S : St} {s : E.σ} {M : Mp} {a : Act} {w w' : World} {l : Nat} (h : Cfg E base S s M a w) (hn : Nl S M l) (hw : ∀ k, k ≠ l -> w'.heap[k]? = w.heap[k]?) (hs : w'.heap.size = w.heap.size) : Cfg E base S s M a w' :=
 ⟨h.rel.frame (by omega) (fun x k hx => hw k (fun e => by subst e; exact (h.at_or hx).elim hn.own hn.ok)) (fun k hk => hw k (fun e => hn.ok (e ▸ hk))) (fun D hD => hw D (fun e => hn.own (e ▸ .inr hD))) rfl rfl rfl rfl,
  E.frame _ _ _ _ _ h.j (fun k hk => hw k (fun e => by subst e; exact hk.elim hn.lv hn.rd)) (by omega), h.okLv, h.own, h.okDom, h.bDom⟩
theorem Ext.other {S : St} {M : Mp} {w : World} {l : Nat} (o : Obj) : Ext S (plusM M l) w S (plusM M l) (w.putObj l o) :=
 ⟨rfl, rfl, rfl, by simp, fun k _ _ hl => World.putObj_heap_other (fun e => hl (.inr e)), fun _ _ x => x, fun _ x => x, fun _ _ x => .inl x, fun _ _ x => x, Nat.le_refl _, fun _ _ => rfl, fun _ _ x => .inl x, fun _ _ => rfl⟩
def SR (S : St) (ps : List Nat) (xs : List D) (x : HO) (N : Nat) : St := ⟨S.n, putPs ps xs S.T, x.1, x.2, N⟩
def MR (M : Mp) (ok : Nat -> Prop) : Mp := { M with ok := fun k => M.ok k \/ ok k, ds := [] }
section
variable {S : St} {M1 : Mp} {W1 : World} {a1 : Act} {l N : Nat} {x : HO} {s : E.σ} {M : Mp} {lv rd ok : Nat -> Prop} {w : World} {ps : List Nat} {xs : List D} {vs : Array Value}
theorem atR {k : Nat} {y : Nat ⊕ Nat} : At (SR S ps xs x N).H (SR S ps xs x N).O (MR M ok) y k ↔ At (S.ho x).H (S.ho x).O M y k := by cases y <;> exact Iff.rfl
theorem ownR {k : Nat} (h : Own (SR S ps xs x N) (MR M ok) k) : Own (S.ho x) M k := by
 rcases h with ⟨y, hy, hl⟩ | hd
 ·exact .inl ⟨y, atR.1 hy, by cases y <;> exact hl⟩
 ·cases hd
theorem round_cfg (h : LoopJ E base S M1 W1 a1 l x s M lv rd w) (hok : ∀ k, ok k -> k < w.heap.size /\ ¬ lv k) (hd1 : ∀ k, ok k -> E.dom k) (hvs : Rds w ok xs vs) (hlen : xs.length = ps.length) (hps : belowN S.n ps = true) :
  Cfg E base (SR S ps xs x N) s (MR M ok) { tmps := (ps.toArray.zip vs).foldl (fun t (q : Nat × Value) => t.setIfInBounds q.1 q.2) a1.tmps, defers := [] } w := by
 have hr := h.cfg.rel
 have hnok : ∀ k, Own (S.ho x) M k -> ¬ ok k := fun k hk ho => (hok k ho).2 ((h.lv k).2 (.inl hk))
 have hsz : a1.tmps.size = S.n := hr.size
 have hput := putPs_spec (R := RdA w (MR M ok).ok (MR M ok).μ (MR M ok).ν E.l) ps xs vs.toList S.T a1.tmps
  (fun t c ht => by obtain ⟨v, h1, h2⟩ := hr.tmp t c ht; exact ⟨v, h1, h2.mono (fun _ x => .inl x) (fun _ _ => rfl) (fun _ _ => rfl) (fun _ _ => rfl)⟩)
  hlen (by rw [<- hlen, <- hvs.1]; simp) (fun i x v hx hv => toAV_spec ((hvs.2 i x v hx (by simpa using hv)).mono (fun _ x => .inr x) (fun _ _ => rfl))) (by rw [hsz]; exact hps)
 have hfold : (ps.toArray.zip vs).foldl (fun t (q : Nat × Value) => t.setIfInBounds q.1 q.2) a1.tmps = (ps.zip vs.toList).foldl (fun t (q : Nat × Value) => t.setIfInBounds q.1 q.2) a1.tmps := by
  rw [<- Array.foldl_toList]; congr 1; simp
 rw [hfold]
 refine ⟨⟨hr.lo, hput.1.trans hsz, hput.2, ⟨fun b B hB => ?_, fun id R hR => ?_, fun y z k hy hz => hr.heap.inj y z k (atR.1 hy) (atR.1 hz)⟩, fun k hk => hk.elim (hr.okLt k) (fun x => (hok k x).1), rfl, fun D hD => (by cases hD), List.nodup_nil⟩, h.cfg.j, fun k hk => hk.elim (h.cfg.okLv k) (fun x hl => (hok k x).2 ((h.lv k).2 (.inr (.inl hl)))),
  fun k hk => h.cfg.own k (ownR hk), fun k hk => hk.elim (h.cfg.okDom k) (hd1 k), h.cfg.bDom⟩
 ·obtain ⟨k, us, e1, e2, e3, e4, e5, e6, e7, e8⟩ := hr.heap.blk b B hB
  refine ⟨k, us, e1, e2, e3, e4, fun i c v hc hv => (e5 i c v hc hv).mono (fun _ x => .inl x) (fun _ _ => rfl) (fun _ _ => rfl) (fun _ _ => rfl), e6, fun hl hh => ?_, fun hl => .inl (e8 hl)⟩
  rcases hh with hh | hh
  ·exact e7 hl hh
  ·exact hnok k (.inl ⟨.inl b, ⟨⟨B, hB⟩, e1⟩, B, hB, hl⟩) hh
 ·obtain ⟨v, flat, e1, e2, e3, e4, e5⟩ := hr.heap.row id R hR
  refine ⟨v, flat, e1, e2, e3.mono (fun _ x => .inl x) (fun _ _ => rfl), e4, fun k hk => ⟨fun hl hh => ?_, fun hl => .inl ((e5 k hk).2 hl)⟩⟩
  rcases hh with hh | hh
  ·exact (e5 k hk).1 hl hh
  ·exact hnok k (.inl ⟨.inr id, ⟨⟨R, hR⟩, v, e1, hk⟩, R, hR, hl⟩) hh
theorem after_round (h : LoopJ E base S M1 W1 a1 l x s M lv rd w) (hok : ∀ k, ok k -> k < w.heap.size /\ ¬ lv k) (hd2 : ∀ k, ok k -> k < W1.heap.size -> M1.ok k) (hcalm : calmT N S.T = true) (hlow : S.low <= N) (hll : l < w.heap.size)
  {S' : St} {s' : E.σ} {M' : Mp} {a' : Act} {w' : World} (hc : Cfg E base S' s' M' a' w') (hn : Nl S' M' l) (hx : Ext (SR S ps xs x N) (plusM (MR M ok) l) w S' (plusM M' l) w') :
  ∃ M2 lv' rd', LoopJ E base S M1 W1 a1 l (S'.H, S'.O) s' M2 lv' rd' w' /\ (∀ k, k < w.heap.size -> ¬ lv k -> w'.heap[k]? = w.heap[k]?) /\ (∀ k, k < w.heap.size -> lv' k -> lv k) /\ (∀ k, k < w.heap.size -> rd' k -> rd k \/ lv k \/ ok k) := by
 have hr := h.cfg.rel
 have hdl : ∀ D ∈ M.ds, ¬ M.lv D /\ ¬ M.rd D /\ D ≠ l /\ ¬ M.ok D /\ ¬ ok D /\ ¬ Own (SR S ps xs x N) (plusM (MR M ok) l) D := fun D hD => by
  have ho : Own (S.ho x) M D := .inr hD
  refine ⟨(h.cfg.own D ho).1, (h.cfg.own D ho).2, fun e => h.nl.1 (e ▸ ho), (hr.dsOk D hD).2.2, fun hh => (hok D hh).2 ((h.lv D).2 (.inl ho)), ?_⟩
  rintro (⟨y, hy, _⟩ | hd)
  ·obtain ⟨_, _, ob, he, ho⟩ := hr.heap.at_lt (x := y) (k := D) (by cases y <;> exact hy)
   rw [(hr.dsOk D hD).2.1] at he; cases he; cases ho
  ·cases hd
 have hdlt : ∀ D ∈ M.ds, D < w.heap.size := fun D hD => (Array.getElem?_eq_some_iff.1 (hr.dsOk D hD).2.1).1
 have hownP : ∀ k, Own (SR S ps xs x N) (plusM (MR M ok) l) k -> Own (S.ho x) M k := fun k hk => by
  rcases hk with ⟨y, hy, hl⟩ | hd
  ·exact .inl ⟨y, by cases y <;> exact hy, by cases y <;> exact hl⟩
  ·cases hd
 let M2 : Mp := { M' with ds := M.ds }
 have hat2 : ∀ y k, At (S.ho (S'.H, S'.O)).H (S.ho (S'.H, S'.O)).O M2 y k -> At S'.H S'.O M' y k := fun y k hy => by cases y <;> exact hy
 have hown2 : ∀ k, Own (S.ho (S'.H, S'.O)) M2 k -> Own S' (plusM M' l) k \/ k ∈ M.ds := fun k hk => by
  rcases hk with ⟨y, hy, hl⟩ | hd
  ·exact .inl (.inl ⟨y, by cases y <;> exact hy, by cases y <;> exact hl⟩)
  ·exact .inr hd
 have hown2' : ∀ k, Own (S.ho (S'.H, S'.O)) M2 k -> Own S' M' k \/ k ∈ M.ds := fun k hk => by
  rcases hk with ⟨y, hy, hl⟩ | hd
  ·exact .inl (.inl ⟨y, hat2 y k hy, by cases y <;> exact hl⟩)
  ·exact .inr hd
 have hback : ∀ k, k < w.heap.size -> Own (S.ho (S'.H, S'.O)) M2 k -> Own (S.ho x) M k := fun k hk ho => by
  rcases hown2 k ho with ho | hd
  ·exact hownP k (hx.own k hk ho)
  ·exact .inr hd
 have hokb : ∀ k, k < w.heap.size -> M'.ok k -> M.ok k \/ ok k \/ Own (S.ho x) M k := fun k hk ho => by
  rcases hx.okn k hk ho with (ho | ho) | ho
  ·exact .inl ho
  ·exact .inr (.inl ho)
  ·exact .inr (.inr (hownP k ho))
 have hlvb : ∀ k, k < w.heap.size -> M'.lv k -> M.lv k := fun k hk hl => by
  rcases hx.lvn k hk (.inl hl) with h1 | h1
  ·exact h1
  ·subst h1; exact absurd hl hn.lv
 have hrdb : ∀ k, k < w.heap.size -> M'.rd k -> M.rd k \/ M.lv k \/ M.ok k \/ ok k \/ Own (S.ho x) M k := fun k hk hl => by
  rcases hx.rdn k hk hl with h1 | (h1 | h1) | (h1 | h1) | h1
  ·exact .inl h1
  ·exact .inr (.inl h1)
  ·subst h1; exact absurd hl hn.rd
  ·exact .inr (.inr (.inl h1))
  ·exact .inr (.inr (.inr (.inl h1)))
  ·exact .inr (.inr (.inr (.inr (hownP k h1))))
 have hkeepOk : ∀ k, M.ok k -> w'.heap[k]? = w.heap[k]? := fun k hk => hx.keep k (hr.okLt k hk) (fun ho => h.cfg.notOk (hownP k ho) hk) (fun hl => hl.elim (h.cfg.okLv k hk) (fun e => h.nl.2.2.2 (e ▸ hk)))
 have hkeepD : ∀ D ∈ M.ds, w'.heap[D]? = w.heap[D]? := fun D hD => hx.keep D (hdlt D hD) (hdl D hD).2.2.2.2.2 (fun hl => hl.elim (hdl D hD).1 (hdl D hD).2.2.1)
 have hcfg : Cfg E base (S.ho (S'.H, S'.O)) s' M2 a1 w' := by
  refine ⟨⟨hc.rel.lo, hr.size, fun t c ht => ?_, ⟨fun b B hB => hc.rel.heap.blk b B hB, fun b B hB => hc.rel.heap.row b B hB, fun y z k hy hz => hc.rel.heap.inj y z k (hat2 y k hy) (hat2 z k hz)⟩, hc.rel.okLt, hr.dfr, fun D hD => ?_, hr.dsN⟩, hc.j, hc.okLv, fun k hk => ?_, hc.okDom, hc.bDom⟩
  ·obtain ⟨v, h1, h2⟩ := hr.tmp t c ht
   have hcm := AV.calm_spec (calmT_look hcalm ht)
   exact ⟨v, h1, h2.mono (fun k hk => hx.okm k (.inl hk)) hkeepOk (fun b hb => hx.μlow b (hcm.1 b hb)) (fun b hb => by rw [hcm.2 b] at hb; cases hb)⟩
  ·obtain ⟨h1, h2, h3⟩ := hr.dsOk D hD
   refine ⟨h1, (hkeepD D hD).trans h2, fun ho => ?_⟩
   rcases hokb D (hdlt D hD) ho with h4 | h4 | h4
   ·exact h3 h4
   ·exact (hdl D hD).2.2.2.2.1 h4
   ·-- D is own; but in the round it was not
    rcases hx.okn D (hdlt D hD) ho with (h5 | h5) | h5
    ·exact h3 h5
    ·exact (hdl D hD).2.2.2.2.1 h5
    ·exact (hdl D hD).2.2.2.2.2 h5
  ·rcases hown2' k hk with ho | hd
   ·exact hc.own k ho
   ·refine ⟨fun hl => (hdl k hd).1 (hlvb k (hdlt k hd) hl), fun hl => ?_⟩
    rcases hx.rdn k (hdlt k hd) hl with h1 | (h1 | h1) | (h1 | h1) | h1
    ·exact (hdl k hd).2.1 h1
    ·exact (hdl k hd).1 h1
    ·exact (hdl k hd).2.2.1 h1
    ·exact (hdl k hd).2.2.2.1 h1
    ·exact (hdl k hd).2.2.2.2.1 h1
    ·exact (hdl k hd).2.2.2.2.2 h1
 refine ⟨M2, fun k => Own (S.ho (S'.H, S'.O)) M2 k \/ M2.lv k \/ k = l, fun k => M2.ok k \/ M2.rd k, ⟨hcfg, Nat.le_trans h.size hx.size, fun k hk ho => h.own k hk (hback k (Nat.lt_of_lt_of_le hk h.size) ho), fun k hk => hx.okm k (.inl (h.okm k hk)), fun k hk ho => ?_, fun k hk hl => h.lvn k hk (hlvb k (Nat.lt_of_lt_of_le hk h.size) hl), fun k hk hl => ?_,
  fun b hb => (hx.μlow b (Nat.lt_of_lt_of_le hb hlow)).trans (h.μlow b hb), fun id hid => (hx.pin id hid).trans (h.pin id hid), fun k => Iff.rfl, fun k => Iff.rfl, ⟨fun ho => ?_, hn.lv, hn.rd, hn.ok⟩⟩, fun k hk hl => ?_, fun k hk hl => ?_, fun k hk hl => ?_⟩
 ·rcases hokb k (Nat.lt_of_lt_of_le hk h.size) ho with h1 | h1 | h1
  ·exact h.okn k hk h1
  ·exact .inl (hd2 k h1 hk)
  ·exact .inr (h.own k hk h1)
 ·rcases hrdb k (Nat.lt_of_lt_of_le hk h.size) hl with h1 | h1 | h1 | h1 | h1
  ·exact h.rdn k hk h1
  ·exact .inr (.inl (h.lvn k hk h1))
  ·exact .inr (.inr (h.okn k hk h1))
  ·exact .inr (.inr (.inl (hd2 k h1 hk)))
  ·exact .inr (.inr (.inr (h.own k hk h1)))
 ·rcases hown2' l ho with ho | hd
  ·exact hn.own ho
  ·exact (hdl l hd).2.2.1 rfl
 ·refine hx.keep k hk (fun ho => hl ((h.lv k).2 (.inl (hownP k ho)))) (fun hh => hl ((h.lv k).2 (.inr hh)))
 ·rcases hl with hl | hl | hl
  ·exact (h.lv k).2 (.inl (hback k hk hl))
  ·exact (h.lv k).2 (.inr (.inl (hlvb k hk hl)))
  ·exact (h.lv k).2 (.inr (.inr hl))
 ·rcases hl with hl | hl
  ·rcases hokb k hk hl with h1 | h1 | h1
   ·exact .inl ((h.rd k).2 (.inl h1))
   ·exact .inr (.inr h1)
   ·exact .inr (.inl ((h.lv k).2 (.inl h1)))
  ·rcases hrdb k hk hl with h1 | h1 | h1 | h1 | h1
   ·exact .inl ((h.rd k).2 (.inr h1))
   ·exact .inr (.inl ((h.lv k).2 (.inr (.inl h1))))
   ·exact .inl ((h.rd k).2 (.inl h1))
   ·exact .inr (.inr h1)
   ·exact .inr (.inl ((h.lv k).2 (.inl h1)))
end
end Go.Proofs.Ytfilnnbfppokmaa.Aw
namespace Go.Proofs.Ytfilnnbfppokmaa.Aw
open Go Go.RowKit
variable {P : Program} {E : Env P} {base : Nat}
def recOf (fn : FuncId) (tmps : Array Value) (ps : Array Tmp) (assign body : Code) (D : Nat) (st : LoopState) (pe : Option Code) : Loop :=
 { state := st, pending := pe, fn := fn, tmps := tmps, params := ps, assign := assign, body := body, defers := D }
def Rounds (E : Env P) (base : Nat) (S : St) (ps : List Nat) (N : Nat) (assign body : Code) (ys : List (List D)) (I : Nat -> HO -> E.σ -> Prop) (Ix : Exit -> HO -> E.σ -> Prop) : Prop :=
 ∀ i y x s, ys[i]? = some y -> I i x s -> ∀ l, AW E base (some l) assign (SR S ps y x N) s (fun e S2 s2 => e = .normal /\ AW E base (some l) body S2 s2 (roundQ (I (i + 1)) Ix))
def Between (E : Env P) (base : Nat) (S : St) (M1 : Mp) (W1 : World) (a1 : Act) (l : Nat) (rec : LoopState -> Option Code -> Loop) (I : Nat -> HO -> E.σ -> Prop) (Ix : Exit -> HO -> E.σ -> Prop) (st : Option Nat) (lv rd : Nat -> Prop) (w : World) : Prop :=
 match st with
 | some i => ∃ x s M, I i x s /\ LoopJ E base S M1 W1 a1 l x s M lv rd w /\ w.heap[l]? = some (.loop (rec .ready none))
 | none => ∃ e c x s M, Ix e x s /\ jumpOf e = some c /\ LoopJ E base S M1 W1 a1 l x s M lv rd w /\ w.heap[l]? = some (.loop (rec .done (some c)))
section
variable {S : St} {M1 : Mp} {W1 : World} {a1 : Act} {l N : Nat} {x : HO} {s : E.σ} {M : Mp} {lv rd ok : Nat -> Prop} {w : World} {xs : List D} {vs : Array Value} {fn : FuncId} {tmps : Array Value} {ps : Array Tmp} {assign body : Code} {ys : List (List D)} {I : Nat -> HO -> E.σ -> Prop} {Ix : Exit -> HO -> E.σ -> Prop} {i : Nat}
theorem round_yield {dd : Nat} (h : LoopJ E base S M1 W1 a1 l x s M lv rd w) (hrec : w.heap[l]? = some (.loop (recOf fn a1.tmps ps assign body dd .ready none))) (hI : I i x s) (hy : ys[i]? = some xs) (hR : Rounds E base S ps.toList N assign body ys I Ix)
  (hok : ∀ k, ok k -> k < w.heap.size /\ ¬ lv k) (hd1 : ∀ k, ok k -> E.dom k) (hd2 : ∀ k, ok k -> k < W1.heap.size -> M1.ok k) (hvs : Rds w ok xs vs) (hlen : xs.length = ps.size) (hps : belowN S.n ps.toList = true) (hcalm : calmT N S.T = true) (hlow : S.low <= N) :
  YieldAt Fence.wide 0 P l vs w fun e w' => ∃ s' b, ((b = true /\ s' = some (i + 1)) \/ (b = false /\ s' = none)) /\ e = .returned (.bool b) /\ ∃ lv' rd', Between E base S M1 W1 a1 l (recOf fn a1.tmps ps assign body dd) I Ix s' lv' rd' w' /\ w'.os = w.os /\ w'.tape = w.tape /\ w'.output = w.output /\ w.heap.size <= w'.heap.size /\
   (∀ k, k < w.heap.size -> ¬ lv k -> w'.heap[k]? = w.heap[k]?) /\ (∀ k, k < w.heap.size -> lv' k -> lv k) /\ (∀ k, k < w.heap.size -> rd' k -> rd k \/ lv k \/ ok k) := by
 have hlt : l < w.heap.size := (Array.getElem?_eq_some_iff.1 hrec).1
 have hlen' : xs.length = ps.toList.length := by simpa using hlen
 have hc0 := round_cfg (N := N) (ps := ps.toList) h hok hd1 hvs hlen' hps
 refine ⟨fn, _, assign, body, run_yield hrec (by rw [hvs.1]; exact hlen), roundIn_of_wpIn (F := Fence.wide) trivial ?_⟩
 have hn0 : Nl (SR S ps.toList xs x N) (MR M ok) l := ⟨fun hh => h.nl.1 (ownR hh), h.nl.2.1, h.nl.2.2.1, fun hh => hh.elim h.nl.2.2.2 (fun hh => (hok l hh).2 ((h.lv l).2 (.inr (.inr rfl))))⟩
 refine wpIn_mono (hR i xs x s hy hI l (MR M ok) _ w hc0) ?_
 rintro e a2 w2 ⟨S2, s2, M2, ⟨rfl, hbody⟩, hc2, hx2⟩
 have hn2 := hn0.step hx2 hlt
 have hrec2 : w2.heap[l]? = some (.loop (recOf fn a1.tmps ps assign body dd .ready none)) := (hx2.keep l hlt hn0.own hn0.lv).trans hrec
 have hlt2 : l < w2.heap.size := (Array.getElem?_eq_some_iff.1 hrec2).1
 refine ⟨_, run_beginRound hrec2 rfl, ?_⟩
 have hsz3 : (w2.putObj l (.loop { recOf fn a1.tmps ps assign body dd .ready none with state := .busy })).heap.size = w2.heap.size := by simp
 have hc3 : Cfg E base S2 s2 M2 a2 (w2.putObj l (.loop { recOf fn a1.tmps ps assign body dd .ready none with state := .busy })) := hc2.other hn2 (fun k hk => World.putObj_heap_other hk) hsz3
 have hrec3 : (w2.putObj l (.loop { recOf fn a1.tmps ps assign body dd .ready none with state := .busy })).heap[l]? = some (.loop { recOf fn a1.tmps ps assign body dd .ready none with state := .busy }) := World.putObj_heap_same hlt2
 refine wpIn_mono (hbody M2 a2 _ hc3) ?_
 rintro e a3 w4 ⟨S3, s3, M3, hq, hc4, hx4⟩
 have hn4 := hn2.step hx4 (by rw [hsz3]; exact hlt2)
 have hlt4 : l < w4.heap.size := Nat.lt_of_lt_of_le (by rw [hsz3]; exact hlt2) hx4.size
 have hrec4 : w4.heap[l]? = some (.loop { recOf fn a1.tmps ps assign body dd .ready none with state := .busy }) := (hx4.keep l (by rw [hsz3]; exact hlt2) hn2.own hn2.lv).trans hrec3
 have fin : ∀ (jump : Option Code) (S5 : St) (M5 : Mp), Cfg E base S5 s3 M5 a3 w4 -> Ext S3 M3 w4 S5 M5 w4 -> ∃ w5 M6 lv' rd', (Instr.endRound l jump).run P w4 = .ok (.bool jump.isNone) w5 /\ w5.heap[l]? = some (.loop (recOf fn a1.tmps ps assign body dd (if jump.isNone then .ready else .done) jump)) /\
   LoopJ E base S M1 W1 a1 l (S5.H, S5.O) s3 M6 lv' rd' w5 /\ w5.os = w.os /\ w5.tape = w.tape /\ w5.output = w.output /\ w.heap.size <= w5.heap.size /\
   (∀ k, k < w.heap.size -> ¬ lv k -> w5.heap[k]? = w.heap[k]?) /\ (∀ k, k < w.heap.size -> lv' k -> lv k) /\ (∀ k, k < w.heap.size -> rd' k -> rd k \/ lv k \/ ok k) := by
  intro jump S5 M5 hc5 hx5
  have hn5 := hn4.step hx5 hlt4
  have hrun := run_endRound (P := P) jump hrec4
  have hsz5 : (w4.putObj l (.loop { recOf fn a1.tmps ps assign body dd .ready none with state := if jump.isNone then .ready else .done, pending := jump })).heap.size = w4.heap.size := by simp
  have hc6 := hc5.other (w' := w4.putObj l (.loop { recOf fn a1.tmps ps assign body dd .ready none with state := if jump.isNone then .ready else .done, pending := jump })) hn5 (fun k hk => World.putObj_heap_other hk) hsz5
  have hext := ((((hx2.plus l).trans (Ext.other (l := l) (.loop { recOf fn a1.tmps ps assign body dd .ready none with state := .busy }))).trans (hx4.plus l)).trans (hx5.plus l)).trans
   (Ext.other (l := l) (.loop { recOf fn a1.tmps ps assign body dd .ready none with state := if jump.isNone then .ready else .done, pending := jump }))
  obtain ⟨M6, lv', rd', g1, g2, g3, g4⟩ := after_round h hok hd2 hcalm hlow hlt hc6 hn5 hext
  exact ⟨_, M6, lv', rd', hrun, World.putObj_heap_same hlt4, g1, hext.os, hext.tape, hext.output, hext.size, g2, g3, g4⟩
 have jmp : ∀ (e : Exit) (c : Code), jumpOf e = some c -> Ix e (S3.H, S3.O) s3 -> ∃ v w', (Instr.endRound l (some c)).run P w4 = .ok v w' /\ ∃ s' b, ((b = true /\ s' = some (i + 1)) \/ (b = false /\ s' = none)) /\ Ending.returned v = .returned (.bool b) /\ ∃ lv' rd',
   Between E base S M1 W1 a1 l (recOf fn a1.tmps ps assign body dd) I Ix s' lv' rd' w' /\ w'.os = w.os /\ w'.tape = w.tape /\ w'.output = w.output /\ w.heap.size <= w'.heap.size /\
   (∀ k, k < w.heap.size -> ¬ lv k -> w'.heap[k]? = w.heap[k]?) /\ (∀ k, k < w.heap.size -> lv' k -> lv k) /\ (∀ k, k < w.heap.size -> rd' k -> rd k \/ lv k \/ ok k) := by
  intro e c hj hix
  obtain ⟨w5, M6, lv', rd', h1, h2, h3, h4, h5, h6, h7, h8, h9, h10⟩ := fin (some c) S3 M3 hc4 (Ext.refl _ _ _)
  exact ⟨_, w5, h1, none, false, .inr ⟨rfl, rfl⟩, rfl, lv', rd', ⟨e, c, _, s3, M6, hix, hj, h3, h2⟩, h4, h5, h6, h7, h8, h9, h10⟩
 cases e with
 | normal =>
  obtain ⟨S5, hweak, hI5⟩ := hq
  obtain ⟨M5, hc5, hx5⟩ := hweak P E base s3 M3 a3 w4 hc4
  obtain ⟨w5, M6, lv', rd', h1, h2, h3, h4, h5, h6, h7, h8, h9, h10⟩ := fin none S5 M5 hc5 hx5
  exact ⟨_, w5, h1, some (i + 1), true, .inl ⟨rfl, rfl⟩, rfl, lv', rd', ⟨_, s3, M6, hI5, h3, h2⟩, h4, h5, h6, h7, h8, h9, h10⟩
 | ret => exact jmp .ret .ret rfl hq
 | exit id => exact jmp (.exit id) (.exit id) rfl hq
 | goto t => exact jmp (.goto t) (.goto t) rfl hq
 | panic c => exact hq.elim
 | outgrown => exact hq.elim
end
end Go.Proofs.Ytfilnnbfppokmaa.Aw
namespace Go.Proofs.Ytfilnnbfppokmaa.Aw
open Go Go.RowKit
variable {P : Program} {E : Env P} {base : Nat}
theorem Between.frame {S : St} {M1 : Mp} {W1 : World} {a1 : Act} {l : Nat} {rec : LoopState -> Option Code -> Loop} {I : Nat -> HO -> E.σ -> Prop} {Ix : Exit -> HO -> E.σ -> Prop} {st : Option Nat} {lv rd : Nat -> Prop} {w w' : World} (h : Between E base S M1 W1 a1 l rec I Ix st lv rd w)
  (hw : ∀ k, lv k \/ rd k -> w'.heap[k]? = w.heap[k]?) (hs : w.heap.size <= w'.heap.size) : Between E base S M1 W1 a1 l rec I Ix st lv rd w' := by
 cases st with
 | some i =>
  obtain ⟨x, s, M, h1, h2, h3⟩ := h
  exact ⟨x, s, M, h1, h2.frame (fun k _ hk => hw k hk) hs, (hw l (.inl ((h2.lv l).2 (.inr (.inr rfl))))).trans h3⟩
 | none =>
  obtain ⟨e, c, x, s, M, h1, h1', h2, h3⟩ := h
  exact ⟨e, c, x, s, M, h1, h1', h2.frame (fun k _ hk => hw k hk) hs, (hw l (.inl ((h2.lv l).2 (.inr (.inr rfl))))).trans h3⟩
theorem LoopJ.lt {S : St} {M1 : Mp} {W1 : World} {a1 : Act} {l : Nat} {x : HO} {s : E.σ} {M : Mp} {lv rd : Nat -> Prop} {w : World} (h : LoopJ E base S M1 W1 a1 l x s M lv rd w) (hl : l < w.heap.size) : ∀ k, lv k \/ rd k -> k < w.heap.size := by
 intro k hk
 rcases hk with hk | hk
 ·rcases (h.lv k).1 hk with hk | hk | rfl
  ·exact h.cfg.own_lt hk
  ·exact E.lt _ _ _ _ h.cfg.j k (.inl hk)
  ·exact hl
 ·rcases (h.rd k).1 hk with hk | hk
  ·exact h.cfg.rel.okLt k hk
  ·exact E.lt _ _ _ _ h.cfg.j k (.inr hk)
theorem Between.lt {S : St} {M1 : Mp} {W1 : World} {a1 : Act} {l : Nat} {rec : LoopState -> Option Code -> Loop} {I : Nat -> HO -> E.σ -> Prop} {Ix : Exit -> HO -> E.σ -> Prop} {st : Option Nat} {lv rd : Nat -> Prop} {w : World} (h : Between E base S M1 W1 a1 l rec I Ix st lv rd w) :
  ∀ k, lv k \/ rd k -> k < w.heap.size := by
 cases st with
 | some i => obtain ⟨x, s, M, h1, h2, h3⟩ := h; exact h2.lt (Array.getElem?_eq_some_iff.1 h3).1
 | none => obtain ⟨e, c, x, s, M, h1, h1', h2, h3⟩ := h; exact h2.lt (Array.getElem?_eq_some_iff.1 h3).1
def loopEnv (E : Env P) (base : Nat) (S : St) (M1 : Mp) (W1 : World) (a1 : Act) (l N : Nat) (fn : FuncId) (ps : Array Tmp) (assign body : Code) (dd : Nat) (ys : List (List D)) (I : Nat -> HO -> E.σ -> Prop) (Ix : Exit -> HO -> E.σ -> Prop)
  (hR : Rounds E base S ps.toList N assign body ys I Ix) (hlen : ∀ y ∈ ys, y.length = ps.size) (hps : belowN S.n ps.toList = true) (hcalm : calmT N S.T = true) (hlow : S.low <= N) (hdom : ∀ k, M1.ok k \/ W1.heap.size <= k -> E.dom k) : Env P where
 σ := Option Nat
 l := l
 J st lv rd w := Between E base S M1 W1 a1 l (recOf fn a1.tmps ps assign body dd) I Ix st lv rd w
 frame st lv rd w w' h hw hs := Between.frame h hw hs
 lt st lv rd w h := Between.lt h
 dom k := M1.ok k \/ W1.heap.size <= k
 step st y := ∃ i, st = some i /\ ys[i]? = some y
 out st y st' b := ∃ i, st = some i /\ ((b = true /\ st' = some (i + 1)) \/ (b = false /\ st' = none))
 round := by
  rintro st xs vs lv rd ok w hJ ⟨i, rfl, hy⟩ hok hvs
  obtain ⟨x, s, M, h1, h2, h3⟩ := hJ
  have := round_yield (N := N) h2 h3 h1 hy hR (fun k hk => ⟨(hok k hk).1, (hok k hk).2.1⟩) (fun k hk => hdom k (hok k hk).2.2) (fun k hk hlt => (hok k hk).2.2.resolve_right (by omega)) hvs (hlen _ (List.mem_of_getElem? hy)) hps hcalm hlow
  obtain ⟨fn', tmps, asg, bd, hrun, hround⟩ := this
  refine ⟨fn', tmps, asg, bd, hrun, hround.mono ?_⟩
  rintro e w' ⟨s', b, hb, he, rest⟩
  exact ⟨s', b, ⟨i, rfl, hb⟩, he, rest⟩
def fnOfB : AV -> Option (Nat × List D × List AV)
 | .fn f cs => some (f, [], cs)
 | .d (.fn f cs) => some (f, [], cs.map .d)
 | .d (.bnd f fs cs) => some (f, fs, cs.map .d)
 | _ => none
theorem fnOfB_of {c : AV} {f : Nat} {cs : List AV} (h : fnOf c = some (f, cs)) : fnOfB c = some (f, [], cs) := by
 cases c with
 | fn f' l => cases h; rfl
 | d x =>
  cases x with
  | fn f' l => cases h; rfl
  | _ => cases h
 | _ => cases h
theorem fnOfB_spec {w : World} {ok : Nat -> Prop} {μ : Nat -> Option Nat} {ν : Nat -> Option Value} {yl : Nat} {c : AV} {v : Value} {f : Nat} {fs : List D} {caps : List AV} (h : RdA w ok μ ν yl c v) (hf : fnOfB c = some (f, fs, caps)) :
  ∃ us vs : Array Value, v = .func (.func f) us vs /\ Rds w ok fs us /\ vs.size = caps.length /\ ∀ (i : Nat) (c : AV) (v : Value), caps[i]? = some c -> vs[i]? = some v -> RdA w ok μ ν yl c v := by
 have fin : ∀ {f' : Nat} {l : List AV}, fnOf c = some (f', l) -> fnOfB c = some (f', [], l) -> ∃ us vs : Array Value, v = .func (.func f) us vs /\ Rds w ok fs us /\ vs.size = caps.length /\ ∀ (i : Nat) (c : AV) (v : Value), caps[i]? = some c -> vs[i]? = some v -> RdA w ok μ ν yl c v := by
  intro f' l h1 h2
  rw [h2] at hf
  simp only [Option.some.injEq, Prod.mk.injEq] at hf
  obtain ⟨rfl, rfl, rfl⟩ := hf
  obtain ⟨vs, e1, e2, e3⟩ := fnOf_spec h h1
  exact ⟨#[], vs, e1, ⟨rfl, fun i x v hx => by simp at hx⟩, e2, e3⟩
 cases c with
 | fn f' l => exact fin rfl rfl
 | d x =>
  cases x with
  | fn f' l => exact fin rfl rfl
  | bnd f' fs' l =>
   simp only [fnOfB, Option.some.injEq, Prod.mk.injEq] at hf
   obtain ⟨rfl, rfl, rfl⟩ := hf
   cases h with
   | d h =>
    cases h with
    | bnd _ _ _ us vs e1 e2 e3 e4 =>
     refine ⟨us, vs, rfl, ⟨e1, e2⟩, by simp [e3], fun i c v hc hv => ?_⟩
     rw [List.getElem?_map] at hc
     cases hh : l[i]? with
     | none => rw [hh] at hc; cases hc
     | some y => rw [hh] at hc; cases hc; exact .d (e4 i y v hh hv)
  | _ => cases hf
 | _ => cases hf
theorem AW_rangeFuncB {g : Operand} {ps : Array Tmp} {assign body : Code} {S : St} {s : E.σ} {Q : Exit -> St -> E.σ -> Prop} {fv : AV} {f : Nat} {fs : List D} {cs : List AV} {caps : List D} {ys : List (List D)} (N : Nat) (hg : opnd S.T g = some fv) (hfv : fnOfB fv = some (f, fs, cs)) (hsn : snapL false S cs = some caps)
  (hit : IterConB P f fs caps ys) (hlen : ∀ y ∈ ys, y.length = ps.size) (hps : belowN S.n ps.toList = true) (hcalm : calmT N S.T = true) (hlow : S.low <= N) (I : Nat -> HO -> E.σ -> Prop) (Ix : Exit -> HO -> E.σ -> Prop) (h0 : I 0 (S.H, S.O) s) (hR : Rounds E base S ps.toList N assign body ys I Ix)
  (hend : ∀ x s', I ys.length x s' -> Q .normal (S.ho x) s') (hjmp : ∀ e c x s', jumpOf e = some c -> Ix e x s' -> Q e (S.ho x) s') : AW E base none (.rangeFunc g ps assign body) S s Q := by
 intro M a w hc
 refine wpIn_rangeFunc ?_
 intro fn hfn
 have hr := hc.rel
 obtain ⟨rec, hrec⟩ : ∃ rec : LoopState -> Option Code -> Loop, rec = recOf fn a.tmps ps assign body w.heap.size := ⟨_, rfl⟩
 obtain ⟨W1, hW1⟩ : ∃ W1, (w.alloc (.deferred (some []))).alloc (.loop (rec .ready none)) = W1 := ⟨_, rfl⟩
 have hL1 : W1.heap[w.heap.size + 1]? = some (.loop (rec .ready none)) := by
  rw [<- hW1]; have := World.alloc_heap_new (w.alloc (.deferred (some []))) (.loop (rec .ready none)); rwa [World.size_alloc] at this
 have hK1 : W1.heap[w.heap.size]? = some (.deferred (some [])) := by
  rw [<- hW1]; exact (Below.heap_alloc _ _ _ (by simp)).trans (World.alloc_heap_new w _)
 have hbel : Below w.heap.size w W1 := by
  rw [<- hW1]; exact ((Below.refl _ w).alloc (Nat.le_refl _) _).alloc (by simp) _
 have hsz1 : W1.heap.size = w.heap.size + 2 := by rw [<- hW1]; simp
 have hnew : New M E.l w [] [] .any undef M W1 := ⟨hbel, rfl, rfl, rfl, fun _ _ => rfl, fun _ _ => rfl, fun _ x => x, fun _ x => .inl x, .any _,
  ⟨fun b B h => (by cases h), fun b B h => (by cases h), fun x y k hx => by cases x <;> (obtain ⟨⟨_, h⟩, _⟩ := hx; cases h)⟩⟩
 obtain ⟨c1, _⟩ := hc.new (dst := none) hnew (fresh_nil S) rfl
 have c1 : Cfg E base S s M a W1 := c1
 let M1 : Mp := { M with ds := w.heap.size :: M.ds }
 let a1 : Act := { a with defers := { target := .collected w.heap.size, args := #[] } :: a.defers }
 have hat1 : ∀ y k, At S.H S.O M1 y k ↔ At S.H S.O M y k := fun y k => by cases y <;> exact Iff.rfl
 have hown1 : ∀ k, Own S M1 k -> Own S M k \/ k = w.heap.size := fun k hk => by
  rcases hk with ⟨y, hy, hl⟩ | hd
  ·exact .inl (.inl ⟨y, (hat1 y k).1 hy, hl⟩)
  ·rcases List.mem_cons.1 hd with e | hd
   ·exact .inr e
   ·exact .inl (.inr hd)
 have hltE := E.lt _ _ _ _ hc.j
 have c2 : Cfg E base S s M1 a1 W1 := by
  refine ⟨⟨c1.rel.lo, c1.rel.size, c1.rel.tmp, ⟨fun b B hB => c1.rel.heap.blk b B hB, fun b B hB => c1.rel.heap.row b B hB, fun y z k hy hz => c1.rel.heap.inj y z k ((hat1 y k).1 hy) ((hat1 z k).1 hz)⟩, c1.rel.okLt, ?_, fun D hD => ?_, ?_⟩, c1.j, c1.okLv, fun k hk => ?_, c1.okDom, c1.bDom⟩
  ·show { target := .collected w.heap.size, args := #[] } :: a.defers = marks (w.heap.size :: M.ds)
   rw [hr.dfr]; rfl
  ·rcases List.mem_cons.1 hD with e | hD
   ·subst e; exact ⟨hr.lo, hK1, fun ho => by have := hr.okLt _ ho; omega⟩
   ·exact c1.rel.dsOk D hD
  ·refine List.nodup_cons.2 ⟨fun hm => ?_, hr.dsN⟩
   have := (Array.getElem?_eq_some_iff.1 (hr.dsOk _ hm).2.1).1; omega
  ·rcases hown1 k hk with hk | rfl
   ·exact c1.own k hk
   ·exact ⟨fun hl => by have := hltE _ (.inl hl); omega, fun hl => by have := hltE _ (.inr hl); omega⟩
 have hnl : Nl S M1 (w.heap.size + 1) := by
  refine ⟨fun ho => ?_, fun hl => ?_, fun hl => ?_, fun ho => ?_⟩
  ·rcases hown1 _ ho with ho | e
   ·have := hc.own_lt ho; omega
   ·omega
  ·have := hltE _ (.inl hl); omega
  ·have := hltE _ (.inr hl); omega
  ·have := hr.okLt _ ho; omega
 have hJ0 : LoopJ E base S M1 W1 a1 (w.heap.size + 1) (S.H, S.O) s M1 (fun k => Own S M1 k \/ M1.lv k \/ k = w.heap.size + 1) (fun k => M1.ok k \/ M1.rd k) W1 :=
  ⟨c2, Nat.le_refl _, fun _ _ x => x, fun _ x => x, fun _ _ x => .inl x, fun _ _ x => x, fun _ _ x => .inl x, fun _ _ => rfl, fun _ _ => rfl, fun _ => Iff.rfl, fun _ => Iff.rfl, ⟨hnl.own, hnl.lv, hnl.rd, hnl.ok⟩⟩
 obtain ⟨us, vcs, hfvv, hus, hcl, hcr⟩ := fnOfB_spec (hr.opnd hg) hfv
 obtain ⟨sl, sr⟩ := snapL_spec hr hsn
 have hok0 : ∀ k, okS false S M k -> M.ok k := fun k hk => hk.elim id (fun h => by cases h.1)
 have hokw : ∀ k, M.ok k -> W1.heap[k]? = w.heap[k]? := fun k hk => hbel.block k (hr.okLt k hk)
 have hcaps : Rds W1 M1.ok caps vcs := by
  refine ⟨by rw [<- sl, hcl], fun i x v hx hv => ?_⟩
  exact ((sr i x v hx (fun c hc' => hcr i c v hc' hv)).mono hok0 (fun _ _ => rfl)).mono (fun _ x => x) hokw
 refine ⟨w.heap.size + 1, [{ target := .collected w.heap.size, args := #[] }], W1, { target := .fn (.func f) vcs, args := us ++ #[.func (.yield (w.heap.size + 1)) #[] #[]] }, W1, f, us ++ #[.func (.yield (w.heap.size + 1)) #[] #[]] ++ vcs, W1, ?_, ?_, fun _ _ => trivial, ?_, fun h => (by cases h), ?_⟩
 ·rw [<- hW1, hrec]; exact run_enterLoop_outer _ _ _ _ _
 ·simp only [resolve, hfvv, Deferred.ofValue, Sem.run_bind, Sem.run_pure, Result.andThen]
  simp [go_sem]
 ·simp only [invoke]
  exact hit.1 _ _
 ·have hdom : ∀ k, M1.ok k \/ W1.heap.size <= k -> E.dom k := fun k hk => hk.elim (hc.okDom k) (fun h => hc.bDom k (by have := hr.lo; omega))
  have hB0 : Between E base S M1 W1 a1 (w.heap.size + 1) (recOf fn a1.tmps ps assign body w.heap.size) I Ix (some 0) _ _ W1 := ⟨(S.H, S.O), s, M1, h0, hJ0, by rw [hL1, hrec]⟩
  have hT : Takes (loopEnv E base S M1 W1 a1 (w.heap.size + 1) N fn ps assign body w.heap.size ys I Ix hR hlen hps hcalm hlow hdom) ys (fun i st => st = some i) (fun st => st = some ys.length \/ st = none) :=
   ⟨fun i y st hy hst => ⟨i, hst, hy⟩, fun i y st st' b hy hst ⟨j, hj, hb⟩ => by
    rw [hst] at hj; cases hj
    rcases hb with ⟨rfl, rfl⟩ | ⟨rfl, rfl⟩
    ·exact ⟨fun _ => rfl, fun h => (by cases h)⟩
    ·exact ⟨fun h => (by cases h), fun _ => .inr rfl⟩, fun st hst => .inl hst⟩
  have hcall := hit.2 _ _ _ hT W1 M1.ok us vcs _ _ (some 0) (fun k hk => ⟨c2.rel.okLt k hk, fun hl => ?_, .inl hk⟩) (fun k hk => .inr hk) (hus.mono (fun _ x => x) hokw) hcaps hB0 rfl
  ·refine CallsIn.mono (show CallsIn (FW none) (0 - 1) P f (us ++ #[Value.func (.yield (w.heap.size + 1)) #[] #[]] ++ vcs) W1 _ from hcall) ?_
   rintro e w' ⟨v, st', lv', rd', rfl, hJ', hfin, e1, e2, e3, e4, e5⟩
   have hext : ∀ {x : HO} {s' : E.σ} {M' : Mp} {w4 : World}, LoopJ E base S M1 W1 a1 (w.heap.size + 1) x s' M' lv' rd' w' -> w4.os = w'.os -> w4.tape = w'.tape -> w4.output = w'.output -> w4.heap.size = w'.heap.size -> (∀ k, k ≠ w.heap.size + 1 -> w4.heap[k]? = w'.heap[k]?) ->
     Ext S M w (S.ho x) M' w4 := by
    intro x s' M' w4 hL f1 f2 f3 f4 f5
    have back : ∀ k, k < w.heap.size -> Own S M1 k -> Own S M k := fun k hk ho => (hown1 k ho).resolve_right (by omega)
    refine ⟨f1.trans (e1.trans hbel.os), f2.trans (e2.trans hbel.tape), f3.trans (e3.trans hbel.output), by omega, fun k hk ho hl => ?_, fun k hk ho => back k hk (hL.own k (by omega) ho), hL.okm, fun k hk ho => (hL.okn k (by omega) ho).imp id (back k hk), fun k hk hl => hL.lvn k (by omega) hl, Nat.le_refl _, hL.μlow, fun k hk hl => ?_, hL.pin⟩
    ·rw [f5 k (by omega), e5 k (by omega) (fun hh => ?_), hbel.block k hk]
     rcases hh with hh | hh | hh
     ·exact ho (back k hk hh)
     ·exact hl hh
     ·omega
    ·rcases hL.rdn k (by omega) hl with h | h | h | h
     ·exact .inl h
     ·exact .inr (.inl h)
     ·exact .inr (.inr (.inl h))
     ·exact .inr (.inr (.inr (back k hk h)))
   cases st' with
   | some n =>
    obtain ⟨x, s', M', g1, g2, g3⟩ := hJ'
    have hn : n = ys.length := by
     rcases hfin with h | h
     ·cases h; rfl
     ·cases h
    subst hn
    have hend' := run_endLoop (P := P) g3 (by simp [recOf])
    have hnl' : Nl (S.ho x) M' (w.heap.size + 1) := ⟨g2.nl.1, g2.nl.2.1, g2.nl.2.2.1, g2.nl.2.2.2⟩
    refine ⟨none, _, hend', ?_⟩
    exact ⟨S.ho x, s', M', hend x s' g1, g2.cfg.other hnl' (fun k hk => World.putObj_heap_other hk) (by simp), hext g2 rfl rfl rfl (by simp) (fun k hk => World.putObj_heap_other hk)⟩
   | none =>
    obtain ⟨e, c, x, s', M', g1, gj, g2, g3⟩ := hJ'
    have hend' := run_endLoop (P := P) g3 (by simp [recOf])
    have hnl' : Nl (S.ho x) M' (w.heap.size + 1) := ⟨g2.nl.1, g2.nl.2.1, g2.nl.2.2.1, g2.nl.2.2.2⟩
    refine ⟨some c, _, hend', ?_⟩
    have hp : Post E base Q S M w e a1 (w'.putObj (w.heap.size + 1) (.loop { recOf fn a1.tmps ps assign body w.heap.size .done (some c) with state := .exhausted })) :=
     ⟨S.ho x, s', M', hjmp e c x s' gj g1, g2.cfg.other hnl' (fun k hk => World.putObj_heap_other hk) (by simp), hext g2 rfl rfl rfl (by simp) (fun k hk => World.putObj_heap_other hk)⟩
    cases e with
    | ret => cases gj; exact wpIn_ret hp
    | exit id => cases gj; exact wpIn_exit hp
    | goto t => cases gj; exact wpIn_goto hp
    | normal => cases gj
    | panic _ => cases gj
    | outgrown => cases gj
  ·rcases hl with hl | hl | hl
   ·exact c2.notOk hl hk
   ·exact c2.okLv k hk hl
   ·subst hl; exact hnl.ok hk
end Go.Proofs.Ytfilnnbfppokmaa.Aw
namespace Go.Proofs.Ytfilnnbfppokmaa.Aw
open Go Go.RowKit
variable {P : Program}
end Go.Proofs.Ytfilnnbfppokmaa.Aw
namespace Go.Proofs.Ytfilnnbfppokmaa.Aw
open Go Go.RowKit
universe u
inductive KV : Type 1 where
 | any
 | int (k : IntKind) (n : Int)
 | lit (k : IntKind) (n : Int)
 | bool (b : Bool)
 | tt
 | ff
 | str (s : ByteArray)
 | agg (cs : List KV)
 | tup (cs : List KV)
 | fn (f : Nat) (cs : List KV)
 | dfn (f : Nat) (cs : List KV)
 | bfn (f : Nat) (cs : List KV)
 | nilfn
 | nilsl
 | nilmap
 | nilptr
 | ptr (cs : List KV)
 | sl (clip : Bool) (sz : Nat) (α : Type) (d : α) (l : List α) (c : α -> Nat -> KV)
 | slr (clip : Bool) (sz : Nat) (rows : List (List KV))
 | mp (α : Type) (d : α) (l : List α) (c : α -> Nat -> KV)
 | d (x : D)
 | loc (b off : Nat)
 | osl (id : Nat)
 | oloc (id sz : Nat) (i : Int) (j : Nat)
 | yld
def rowD : Nat -> Nat -> (Nat -> D) -> List D
 | 0, _, _ => []
 | n + 1, j, f => f j :: rowD n (j + 1) f
def rowK : Nat -> Nat -> (Nat -> KV) -> List KV
 | 0, _, _ => []
 | n + 1, j, f => f j :: rowK n (j + 1) f
mutual
def KV.toD : KV -> D
 | .int k n => .int k n
 | .lit k n => .int k n
 | .bool b => .bool b
 | .tt => .bool true
 | .ff => .bool false
 | .str s => .str s
 | .agg cs => .agg (KV.toDL cs)
 | .dfn f cs => .fn f (KV.toDL cs)
 | .bfn f cs => .bnd f (KV.toDL cs) []
 | .nilfn => .nilfn
 | .nilsl => .nilsl
 | .nilmap => .nilmap
 | .nilptr => .nilptr
 | .ptr cs => .ptr (KV.toDL cs)
 | .sl clip sz _ _ l c => .sl clip sz (l.map fun a => rowD sz 0 fun j => (c a j).toD)
 | .slr clip sz rows => .sl clip sz (KV.toDLL rows)
 | .mp _ _ l c => .map (l.map fun a => rowD 2 0 fun j => (c a j).toD)
 | .d x => x
 | _ => .nilfn
def KV.toDL : List KV -> List D
 | [] => []
 | c :: r => c.toD :: KV.toDL r
def KV.toDLL : List (List KV) -> List (List D)
 | [] => []
 | c :: r => KV.toDL c :: KV.toDLL r
end
mutual
def KV.av : KV -> AV
 | .any => .any
 | .agg cs => .agg (KV.avL cs)
 | .tup cs => .tup (KV.avL cs)
 | .fn f cs => .fn f (KV.avL cs)
 | .loc b o => .loc b o
 | .osl id => .osl id
 | .oloc id sz i j => .oloc id sz i.toNat j
 | .yld => .yld
 | .int k n => .d (.int k n)
 | .lit k n => .d (.int k n)
 | .bool b => .d (.bool b)
 | .tt => .d (.bool true)
 | .ff => .d (.bool false)
 | .str s => .d (.str s)
 | .dfn f cs => .d (.fn f (KV.toDL cs))
 | .bfn f cs => .d (.bnd f (KV.toDL cs) [])
 | .nilfn => .d .nilfn
 | .nilsl => .d .nilsl
 | .nilmap => .d .nilmap
 | .nilptr => .d .nilptr
 | .ptr cs => .d (.ptr (KV.toDL cs))
 | .sl clip sz _ _ l c => .d (.sl clip sz (l.map fun a => rowD sz 0 fun j => (c a j).toD))
 | .slr clip sz rows => .d (.sl clip sz (KV.toDLL rows))
 | .mp _ _ l c => .d (.map (l.map fun a => rowD 2 0 fun j => (c a j).toD))
 | .d x => .d x
def KV.avL : List KV -> List AV
 | [] => []
 | c :: r => c.av :: KV.avL r
end
def KV.isD : KV -> Bool
 | .int _ _ | .lit _ _ | .bool _ | .tt | .ff | .str _ | .dfn _ _ | .bfn _ _ | .nilfn | .nilsl | .nilmap | .nilptr | .ptr _ | .sl _ _ _ _ _ _ | .slr _ _ _ | .mp _ _ _ _ => true
 | .d (.fn _ _) => true
 | .d (.bnd _ _ _) => true
 | .d (.sl _ _ _) => true
 | .d (.map _) => true
 | _ => false
def allD : List KV -> Bool
 | [] => true
 | c :: r => c.isD && allD r
theorem KV.isD_av {v : KV} (h : v.isD = true) : v.av = .d v.toD := by cases v <;> first | rfl | cases h
theorem KV.isD_agg {v : KV} (h : v.isD = true) (l : List D) : v.toD ≠ .agg l := by
 intro e
 cases v <;> first | (simp [KV.toD] at e; done) | (simp [KV.isD] at h; done) | skip
 simp only [KV.toD] at e
 subst e
 cases h
theorem avL_map : ∀ (l : List KV), KV.avL l = l.map KV.av
 | [] => rfl
 | c :: r => by simp [KV.avL, avL_map r]
theorem toDL_map : ∀ (l : List KV), KV.toDL l = l.map KV.toD
 | [] => rfl
 | c :: r => by simp [KV.toDL, toDL_map r]
theorem toDLL_map : ∀ (l : List (List KV)), KV.toDLL l = l.map KV.toDL
 | [] => rfl
 | c :: r => by simp [KV.toDLL, toDLL_map r]
theorem rowK_toD {f : Nat -> KV} : ∀ (n j : Nat), KV.toDL (rowK n j f) = rowD n j fun j => (f j).toD
 | 0, _ => rfl
 | n + 1, j => by simp [rowK, rowD, KV.toDL, rowK_toD n]
theorem rowK_len {f : Nat -> KV} : ∀ (n j : Nat), (rowK n j f).length = n
 | 0, _ => rfl
 | n + 1, j => by simp [rowK, rowK_len n]
theorem allD_get : ∀ {l : List KV}, allD l = true -> ∀ c ∈ l, c.isD = true
 | [], _, c, hc => by cases hc
 | x :: r, h, c, hc => by
  simp only [allD, Bool.and_eq_true] at h
  rcases List.mem_cons.1 hc with e | hc
  ·exact e ▸ h.1
  ·exact allD_get h.2 c hc
theorem allD_av {l : List KV} (h : allD l = true) : KV.avL l = (KV.toDL l).map .d := by
 rw [avL_map, toDL_map, List.map_map]
 exact List.map_congr_left fun c hc => KV.isD_av (allD_get h c hc)
theorem allD_noAgg : ∀ {l : List KV}, allD l = true -> noAggD (KV.toDL l) = true
 | [], _ => rfl
 | x :: r, h => by
  simp only [allD, Bool.and_eq_true] at h
  have hx := KV.isD_agg h.1
  simp only [KV.toDL]
  cases hh : x.toD with
  | agg l => exact absurd hh (hx l)
  | _ => exact allD_noAgg h.2
structure KBlk : Type 1 where
 e : TypeId
 cells : List KV
 live : Bool
inductive KP : Type 1 where
 | ls (α : Type) (d : α) (l : List α) (c : α -> Nat -> KV)
 | rw (rows : List (List KV))
 | raw (rows : List (List D))
 | mp (α : Type) (d : α) (l : List α) (c : α -> Nat -> KV)
def KP.rows (sz : Nat) : KP -> List (List D)
 | .ls _ _ l c => l.map fun a => rowD sz 0 fun j => (c a j).toD
 | .rw rows => KV.toDLL rows
 | .raw rows => rows
 | .mp _ _ l c => l.map fun a => rowD 2 0 fun j => (c a j).toD
def rowsD (sz : Nat) : List KP -> List (List D)
 | [] => []
 | p :: r => p.rows sz ++ rowsD sz r
structure KRow : Type 1 where
 e : TypeId
 sz : Nat
 ps : List KP
 nn : Bool
 live : Bool
structure KSt : Type 1 where
 n : Nat
 T : List (Nat × KV)
 H : List (Nat × KBlk)
 O : List (Nat × KRow)
 low : Nat
def KBlk.blk (B : KBlk) : Blk := ⟨B.e, KV.avL B.cells, B.live⟩
def KRow.row (R : KRow) : Row := ⟨R.e, R.sz, rowsD R.sz R.ps, R.nn, R.live⟩
def mapT : List (Nat × KV) -> List (Nat × AV)
 | [] => []
 | (t, c) :: r => (t, c.av) :: mapT r
def mapH : List (Nat × KBlk) -> List (Nat × Blk)
 | [] => []
 | (t, c) :: r => (t, c.blk) :: mapH r
def mapO : List (Nat × KRow) -> List (Nat × Row)
 | [] => []
 | (t, c) :: r => (t, c.row) :: mapO r
def KSt.st (S : KSt) : St := ⟨S.n, mapT S.T, mapH S.H, mapO S.O, S.low⟩
def lk {α : Type u} : List (Nat × α) -> Nat -> Option α
 | [], _ => none
 | (k, v) :: r, n => match Nat.beq k n with
  | true => some v
  | false => lk r n
theorem lk_cons {α : Type u} {k n : Nat} {v : α} {r : List (Nat × α)} : lk ((k, v) :: r) n = if k = n then some v else lk r n := by
 simp only [lk]
 by_cases e : k = n
 ·subst e; simp
 ·have : Nat.beq k n = false := by cases h : Nat.beq k n with
   | false => rfl
   | true => exact absurd (Nat.eq_of_beq_eq_true h) e
  simp [this, e]
def ks {α : Type u} : List (Nat × α) -> List Nat
 | [] => []
 | (k, _) :: r => k :: ks r
def stA {α : Type u} : List (Nat × α) -> Nat -> α -> List (Nat × α)
 | [], _, _ => []
 | (k, u) :: r, n, v => match Nat.beq k n with
  | true => (k, v) :: r
  | false => (k, u) :: stA r n v
theorem stA_cons {α : Type u} {k n : Nat} {u v : α} {r : List (Nat × α)} : stA ((k, u) :: r) n v = if k = n then (k, v) :: r else (k, u) :: stA r n v := by
 simp only [stA]
 by_cases e : k = n
 ·subst e; simp
 ·have : Nat.beq k n = false := by cases h : Nat.beq k n with
   | false => rfl
   | true => exact absurd (Nat.eq_of_beq_eq_true h) e
  simp [this, e]
theorem look_mapT {t : Nat} : ∀ {T : List (Nat × KV)}, look (mapT T) t = (lk T t).map KV.av
 | [] => rfl
 | (k, v) :: r => by
  simp only [mapT, look, lk_cons]
  by_cases e : k = t
  ·simp [e]
  ·simp [e, look_mapT (T := r)]
theorem look_mapH {t : Nat} : ∀ {T : List (Nat × KBlk)}, look (mapH T) t = (lk T t).map KBlk.blk
 | [] => rfl
 | (k, v) :: r => by
  simp only [mapH, look, lk_cons]
  by_cases e : k = t
  ·simp [e]
  ·simp [e, look_mapH (T := r)]
theorem look_mapO {t : Nat} : ∀ {T : List (Nat × KRow)}, look (mapO T) t = (lk T t).map KRow.row
 | [] => rfl
 | (k, v) :: r => by
  simp only [mapO, look, lk_cons]
  by_cases e : k = t
  ·simp [e]
  ·simp [e, look_mapO (T := r)]
theorem setA_mapH {b : Nat} {v : KBlk} : ∀ {T : List (Nat × KBlk)}, setA (mapH T) b v.blk = mapH (stA T b v)
 | [] => rfl
 | (k, u) :: r => by
  simp only [mapH, setA, stA_cons]
  by_cases e : k = b
  ·simp [e, mapH]
  ·simp [e, mapH, setA_mapH (T := r)]
theorem setA_mapO {b : Nat} {v : KRow} : ∀ {T : List (Nat × KRow)}, setA (mapO T) b v.row = mapO (stA T b v)
 | [] => rfl
 | (k, u) :: r => by
  simp only [mapO, setA, stA_cons]
  by_cases e : k = b
  ·simp [e, mapO]
  ·simp [e, mapO, setA_mapO (T := r)]
theorem mapT_app : ∀ (l m : List (Nat × KV)), mapT (l ++ m) = mapT l ++ mapT m
 | [], _ => rfl
 | (k, v) :: r, m => by simp [mapT, mapT_app r m]
theorem mapH_app : ∀ (l m : List (Nat × KBlk)), mapH (l ++ m) = mapH l ++ mapH m
 | [], _ => rfl
 | (k, v) :: r, m => by simp [mapH, mapH_app r m]
theorem mapO_app : ∀ (l m : List (Nat × KRow)), mapO (l ++ m) = mapO l ++ mapO m
 | [], _ => rfl
 | (k, v) :: r, m => by simp [mapO, mapO_app r m]
theorem keys_mapH : ∀ (l : List (Nat × KBlk)), keys (mapH l) = ks l
 | [] => rfl
 | (k, v) :: r => by simp [mapH, keys, ks, keys_mapH r]
theorem keys_mapO : ∀ (l : List (Nat × KRow)), keys (mapO l) = ks l
 | [] => rfl
 | (k, v) :: r => by simp [mapO, keys, ks, keys_mapO r]
def KSt.add (S : KSt) (dst : Option Nat) (res : KV) (nh : List (Nat × KBlk)) (no : List (Nat × KRow)) : KSt :=
 ⟨S.n, (match dst with | some t => (t, res) :: S.T | none => S.T), nh ++ S.H, no ++ S.O, S.low⟩
theorem KSt.add_st (S : KSt) (dst : Option Nat) (res : KV) (nh : List (Nat × KBlk)) (no : List (Nat × KRow)) : (S.add dst res nh no).st = S.st.add dst res.av (mapH nh) (mapO no) := by
 simp only [KSt.add, KSt.st, St.add, mapH_app, mapO_app]
 cases dst <;> rfl
def kk {α : Type u} (x : Option α) (K : α -> Prop) : Prop := match x with
 | some a => K a
 | none => False
theorem kk_spec {α : Type u} {x : Option α} {K : α -> Prop} (h : kk x K) : ∃ a, x = some a /\ K a := by
 cases x with
 | none => exact h.elim
 | some a => exact ⟨a, rfl, h⟩
def kif (b : Bool) (K : Prop) : Prop := match b with
 | true => K
 | false => False
theorem kif_spec {b : Bool} {K : Prop} (h : kif b K) : b = true /\ K := by
 cases b with
 | true => exact ⟨rfl, h⟩
 | false => exact h.elim
def nth {α : Type u} : List α -> Nat -> Option α
 | [], _ => none
 | a :: _, 0 => some a
 | _ :: r, n + 1 => nth r n
theorem nth_eq {α : Type u} : ∀ (l : List α) (n : Nat), nth l n = l[n]?
 | [], n => by simp [nth]
 | a :: r, 0 => by simp [nth]
 | a :: r, n + 1 => by simp [nth, nth_eq r n]
def dropK {α : Type u} : Nat -> List α -> List α
 | 0, l => l
 | _ + 1, [] => []
 | n + 1, _ :: r => dropK n r
theorem dropK_eq {α : Type u} : ∀ (n : Nat) (l : List α), dropK n l = l.drop n
 | 0, l => rfl
 | n + 1, [] => rfl
 | n + 1, a :: r => by simp [dropK, dropK_eq n r]
def takeK {α : Type u} : Nat -> List α -> List α
 | 0, _ => []
 | _ + 1, [] => []
 | n + 1, a :: r => a :: takeK n r
theorem takeK_eq {α : Type u} : ∀ (n : Nat) (l : List α), takeK n l = l.take n
 | 0, l => rfl
 | n + 1, [] => rfl
 | n + 1, a :: r => by simp [takeK, takeK_eq n r]
def lenK {α : Type u} : List α -> Nat
 | [] => 0
 | _ :: r => lenK r + 1
theorem lenK_eq {α : Type u} : ∀ (l : List α), lenK l = l.length
 | [] => rfl
 | a :: r => by simp [lenK, lenK_eq r]
theorem nth_avL {l : List KV} {i : Nat} : (KV.avL l)[i]? = (nth l i).map KV.av := by rw [avL_map, List.getElem?_map, nth_eq]
theorem avL_len (l : List KV) : (KV.avL l).length = lenK l := by rw [avL_map, List.length_map, lenK_eq]
theorem toDL_len (l : List KV) : (KV.toDL l).length = lenK l := by rw [toDL_map, List.length_map, lenK_eq]
theorem avL_drop (n : Nat) (l : List KV) : (KV.avL l).drop n = KV.avL (dropK n l) := by rw [avL_map, avL_map, dropK_eq, List.map_drop]
theorem avL_take (n : Nat) (l : List KV) : (KV.avL l).take n = KV.avL (takeK n l) := by rw [avL_map, avL_map, takeK_eq, List.map_take]
theorem toDL_drop (n : Nat) (l : List KV) : (KV.toDL l).drop n = KV.toDL (dropK n l) := by rw [toDL_map, toDL_map, dropK_eq, List.map_drop]
theorem toDL_take (n : Nat) (l : List KV) : (KV.toDL l).take n = KV.toDL (takeK n l) := by rw [toDL_map, toDL_map, takeK_eq, List.map_take]
theorem avL_app (l m : List KV) : KV.avL (l ++ m) = KV.avL l ++ KV.avL m := by rw [avL_map, avL_map, avL_map, List.map_append]
end Go.Proofs.Ytfilnnbfppokmaa.Aw
namespace Go.Proofs.Ytfilnnbfppokmaa.Aw
open Go Go.RowKit
universe u
variable {P : Program} {E : Env P} {base : Nat} {r : Option Nat}
theorem AWN_bar {ops : Array Oper} {m : Nat} {S S' : St} {s s' : E.σ} {Q : Exit -> St -> E.σ -> Prop} {o : Oper} (B : List Nat) (hB : depOk ops B = true) (hla : laterB ops B m 1 = true) (ho : ops[m]? = some o) (hg : guardB ops S.T o = some true)
  (hb : Bar E o S s S' s') (h : AWN E base r ops (m + 1) S' s' Q) : AWN E base r ops m S s Q := by
 intro M a w hc fuel listed hfuel hp
 have hm : m < ops.size := (Array.getElem?_eq_some_iff.1 ho).1
 obtain ⟨fuel, rfl⟩ : ∃ f, fuel = f + 1 := ⟨fuel - 1, by omega⟩
 have hmm : Nat.blt m m = false := by
  cases hh : Nat.blt m m with
  | false => rfl
  | true => rw [Nat.blt_eq] at hh; omega
 have hready : m ∈ Region.ready .any ops listed := hp.ready.2 ⟨hmm, o, ho, fun e he hb => by
  have hlt := depOk_edge hB ho he hb
  exact ⟨by omega, by rw [Nat.blt_eq]; exact hlt⟩⟩
 refine ⟨fun h0 => (by rw [h0] at hready; cases hready), fun i hi => ?_⟩
 obtain ⟨hXi, o', ho', hdeps⟩ := hp.ready.1 hi
 have hisz := (Array.getElem?_eq_some_iff.1 ho').1
 have him : i = m := by
  have h1 : ¬ i < m := fun hh => by
   have : Nat.blt i m = true := by rw [Nat.blt_eq]; exact hh
   rw [this] at hXi; cases hXi
  apply Classical.byContradiction
  intro hne
  simp only [laterB, List.all_eq_true, List.mem_range, Bool.or_eq_true] at hla
  rcases hla i hisz with h2 | h2
  ·rw [Nat.blt_eq] at h2; omega
  ·have hd := depOk_sound hB i hisz m (by simpa using h2 0 (by omega))
   have aux : ∀ {j k : Nat}, Dep ops j k -> k = m -> j < ops.size -> (∀ (o : Oper), ops[j]? = some o -> ∀ e ∈ o.after, Region.binds .any e = true -> e.on < ops.size /\ Nat.blt e.on m = true) -> False := by
    intro j k hd hk hj hall
    cases hd with
    | one hoj he hbd =>
     subst hk
     have := (hall _ hoj _ he hbd).2
     rw [hmm] at this; cases this
    | step hoj he hbd hd2 =>
     have h3 := (hall _ hoj _ he hbd).2
     have h4 := hd2.lt hB
     rw [Nat.blt_eq] at h3
     omega
   exact aux hd rfl hisz (fun o2 ho2 e he hb => by rw [ho'] at ho2; cases ho2; exact hdeps e he hb)
 subst him
 rw [ho] at ho'; cases ho'
 unfold wpOpIn
 simp only [ho]
 rw [guardB_spec hg hc.rel, if_pos rfl]
 refine hb r base M a w hc _ _ (fun v w' M' hc' hx' => ?_)
 refine wpAnyIn_mono' (fun e a w k => k.later hx') _ _ _ _ (h M' _ w' hc' fuel _ (by omega) ?_)
 have hset := hp.set i
 refine ⟨hset.1, fun j hj => ?_⟩
 rw [hset.2 j hj]
 congr 1
 show (Nat.blt j i || j == i) = Nat.blt j (i + 1)
 by_cases h1 : j < i
 ·have e1 : Nat.blt j i = true := by rw [Nat.blt_eq]; exact h1
  have e2 : Nat.blt j (i + 1) = true := by rw [Nat.blt_eq]; omega
  rw [e1, e2]; rfl
 ·by_cases h2 : j = i
  ·subst h2
   have e2 : Nat.blt j (j + 1) = true := by rw [Nat.blt_eq]; omega
   rw [e2]; simp
  ·have e1 : Nat.blt j i = false := by
    cases hh : Nat.blt j i with
    | false => rfl
    | true => rw [Nat.blt_eq] at hh; omega
   have e2 : Nat.blt j (i + 1) = false := by
    cases hh : Nat.blt j (i + 1) with
    | false => rfl
    | true => rw [Nat.blt_eq] at hh; omega
   have e3 : (j == i) = false := by simp [h2]
   rw [e1, e2, e3]; rfl
theorem RowCellsS.mono {w w' : World} {ok ok' : Nat -> Prop} {sz : Nat} {rows : List (List D)} {flat : List Value} (h : RowCellsS w ok sz rows flat) (hok : ∀ k, ok k -> ok' k)
  (hw : ∀ k, ok k -> w'.heap[k]? = w.heap[k]?) : RowCellsS w' ok' sz rows flat :=
 ⟨h.1, fun i row j c hi hj => let ⟨x, h1, h2, h3⟩ := h.2 i row j c hi hj; ⟨x, h1, h2.mono hok hw, h3⟩⟩
theorem rd_of_own {w : World} {ok : Nat -> Prop} {lo : Nat} {e : TypeId} {sz : Nat} {v : Value} {rows : List (List D)} {flat : List Value} (h : w.ownsRow lo e sz v rows.length flat) (hc : RowCellsS w ok sz rows flat) (hok : ∀ k, v.ownBlock = some k -> ok k) : Rd w ok (.sl false sz rows) v := by
 rcases h.2 with ⟨rfl, hz⟩ | ⟨g, cap, cur, rfl, h6, h7, h8, h9, h10, h11⟩
 ·have : rows = [] := List.eq_nil_of_length_eq_zero hz
  rw [this]; exact .sl0 _ _
 ·have hget : ∀ (i : Nat) (row : List D) (j : Nat) (c : D), rows[i]? = some row -> row[j]? = some c -> w.cell? ⟨g, 0 + i * sz + j, none⟩ = some (flat.getD (i * sz + j) undef) /\ Rd w ok c (flat.getD (i * sz + j) undef) /\ (flat.getD (i * sz + j) undef).oneCell' = true := by
   intro i row j c hi hj
   obtain ⟨x, e1, e2, e3⟩ := hc.2 i row j c hi hj
   have := h.cells rfl (i * sz + j) x e1
   have hadd : (⟨g, 0, none⟩ : Addr).add (i * sz + j) = ⟨g, i * sz + j, none⟩ := by unfold Addr.add; split <;> simp_all
   rw [hadd] at this
   rw [Nat.zero_add, List.getD_eq_getElem?_getD, e1]
   exact ⟨this, e2, e3⟩
  exact .sl false sz rows g 0 cap (fun i j => flat.getD (i * sz + j) undef) (hok g rfl) h8 h9 (fun h => by cases h) hc.1 (fun i row j c hi hj => (hget i row j c hi hj).1) (fun i row j c hi hj => (hget i row j c hi hj).2.2) (fun i row j c hi hj => (hget i row j c hi hj).2.1)
theorem free_append_clip {o : Oper} {S : St} {x y : Operand} {t e : TypeId} {sz bytes id : Nat} {c : AV} {zc : List AV} {news : List (List D)} (ho : o.op = .call { callee := .builtin .append, args := #[x, y], argTypes := #[t, t] }) (hx : opnd S.T x = some (.d (.sl true sz [])))
  (ht : eltT P t = some (e, sz)) (hz : zeroC P e = some zc) (hzs : zc.length = sz) (hpos : 0 < sz) (hby : (P.info? e).map (fun x : TypeInfo => x.bytes) = some bytes)
  (hy : opnd S.T y = some c) (hs : srcRows S id sz c = some news) (hbytes : news.length * bytes <= 140737488355328) (h63 : news.length <= 140737488355328) : Free P o S (.d (.sl false sz news)) [] [] :=
 free_run (by simp [ho]) fun base M yl a w hr => by
  have hxv := hr.opnd hx
  obtain ⟨n1, n2, n3⟩ := src_spec hr hpos hs (hr.opnd hy)
  obtain ⟨it, z, hi, hiz, hzrel⟩ := zeroC_rel hz
  have hzsz : z.cells.size = sz := by rw [(hzrel w M.ok M.μ M.ν yl).len]; exact hzs
  have hib : it.bytes = bytes := by rw [hi] at hby; simpa using hby
  obtain ⟨hu, his⟩ : P.underlying t = some (.slice e) /\ it.size = sz := by
   unfold eltT at ht
   split at ht
   ·rename_i e' he
    cases hq : szT P e' with
    | none => rw [hq] at ht; cases ht
    | some q =>
     rw [hq] at ht
     simp only [Option.map_some, Option.some.injEq, Prod.mk.injEq] at ht
     obtain ⟨rfl, rfl⟩ := ht
     refine ⟨he, ?_⟩
     unfold szT at hq
     rw [hi] at hq
     simpa using hq
   ·cases ht
  have hexec : ∀ {v' w'}, (Builtin.append_ #[t, t] o.type #[a.eval x, a.eval y]).run P w = .ok v' w' -> (execOp a.eval o).run P w = .ok (.value v') w' := fun {v' w'} h => by
   simp only [execOp, ho, resolve, invoke, builtin, Sem.run_bind, Sem.run_pure, Result.andThen, List.map_toArray, List.map_cons, List.map_nil, h]
  have same : news = [] -> (Builtin.append_ #[t, t] o.type #[a.eval x, a.eval y]).run P w = .ok (a.eval x) w -> ∃ v w' M', (execOp a.eval o).run P w = .ok (.value v) w' /\ New M yl w [] [] (.d (.sl false sz news)) v M' w' := fun hn hrun => by
   refine ⟨_, _, M, hexec hrun, New.plain ?_⟩
   subst hn
   cases hxv with
   | d h =>
    generalize a.eval x = xv at h
    cases h with
    | sl0 => exact .d (.sl0 _ _)
    | slE => exact .d (.slE _ _ _)
    | sl _ _ _ b off cap vs hok h1 h2 h3 h4 h5 h6 h7 => exact .d (.sl false sz [] b off cap vs hok h1 h2 (fun h => by cases h) h4 h5 h6 h7)
  have grown : ∀ {v' : Value} {w' : World} {xs : List Value}, (Builtin.append_ #[t, t] o.type #[a.eval x, a.eval y]).run P w = .ok v' w' -> w'.ownsRow w.heap.size e sz v' news.length xs -> w.grownBy w' none -> RowCellsS w M.ok sz news xs ->
    ∃ v w' M', (execOp a.eval o).run P w = .ok (.value v) w' /\ New M yl w [] [] (.d (.sl false sz news)) v M' w' := fun {v' w' xs} hrun hown hg hcells => by
   have hb : Below w.heap.size w w' := (Below.refl _ _).grown hg (Nat.le_refl _) (fun k h => by cases h)
   have hw : ∀ k, M.ok k -> w'.heap[k]? = w.heap[k]? := fun k hk => hb.block k (hr.okLt k hk)
   refine ⟨v', w', { M with ok := fun k => M.ok k \/ v'.ownBlock = some k }, hexec hrun, ⟨hb, rfl, rfl, rfl, fun _ _ => rfl, fun _ _ => rfl, fun k x => .inl x, fun k x => x.imp (fun y => y) (fun h => hown.lt k h), ?_, ⟨fun b B h => (by cases h), fun b B h => (by cases h), fun x y k hx => by cases x <;> (obtain ⟨⟨_, h⟩, _⟩ := hx; cases h)⟩⟩⟩
   exact .d (rd_of_own hown (hcells.mono (fun k x => .inl x) hw) (fun k hk => .inr hk))
  rcases n3 with ⟨hv0, hn0⟩ | ⟨ad, cap, hyv, xs, x1, x2, x3⟩
  ·refine same hn0 ?_
   rw [hv0]
   cases hxv with
   | d h =>
    generalize a.eval x = xv at h
    cases h with
    | sl0 => simp [Builtin.append_, run_underlying hu, sizeOf, typeInfo, hi, Builtin.lenOf, Builtin.firstCells]
    | slE => simp [Builtin.append_, run_underlying hu, sizeOf, typeInfo, hi, Builtin.lenOf, Builtin.firstCells, storeCells]
    | sl _ _ _ b off cap vs hok h1 h2 h3 h4 h5 h6 h7 => simp [Builtin.append_, run_underlying hu, sizeOf, typeInfo, hi, Builtin.lenOf, Builtin.firstCells, storeCells]
  ·have hnews := x2
   have hone := oneCells x1 n1 x3
   have hcells : RowCellsS w M.ok sz news xs := ⟨n1, x3⟩
   by_cases hn : news = []
   ·refine same hn ?_
    rw [hyv]
    subst hn
    have hx0 : xs = [] := List.eq_nil_of_length_eq_zero (by simpa using x1)
    subst hx0
    have hf := run_firstCells_some (P := P) w it.size 0 ad 0 cap [] (by simp) (by simp)
    cases hxv with
    | d h =>
     generalize a.eval x = xv at h
     cases h with
     | sl0 => simp [Builtin.append_, run_underlying hu, sizeOf, typeInfo, hi, Builtin.lenOf, hf]
     | slE => simp [Builtin.append_, run_underlying hu, sizeOf, typeInfo, hi, Builtin.lenOf, hf, storeCells]
     | sl _ _ _ b off cap vs hok h1 h2 h3 h4 h5 h6 h7 => simp [Builtin.append_, run_underlying hu, sizeOf, typeInfo, hi, Builtin.lenOf, hf, storeCells]
   ·have hpos' : 0 < news.length := List.length_pos_iff.2 hn
    cases hxv with
    | d h =>
     generalize hxe : a.eval x = xv at h
     cases h with
     | sl0 =>
      obtain ⟨v', w', hr1, h2, h3, _⟩ := run_append_own (P := P) w w.heap.size t o.type e it z sz bytes hu hi hiz his hib hzsz hpos (.slice none 0 0) 0 [] ⟨by simp, .inl ⟨rfl, rfl⟩⟩ ad news.length cap xs x1 hnews hone (by simpa using n2) (by simpa using hbytes) (Nat.le_refl _)
      refine grown (xs := xs) (by rw [hxe, hyv]; exact hr1) (by simpa using h2) h3 hcells
     | slE _ _ ad' =>
      obtain ⟨v', w', hr1, g2, g3⟩ := run_append_arg_grows (P := P) w t o.type e it z sz bytes hu hi hiz his hib hzsz hpos ad' 0 0 [] (by simp) (by simp) ad news.length cap xs x1 hnews (by omega) (by simpa using n2) (by simpa using hbytes)
      exact grown (xs := xs) (by rw [hxe, hyv]; exact hr1) (by simpa using g2) g3 hcells
     | sl _ _ _ b' off' cap' vs hok h1 h2 hclip h4 h5 h6 h7 =>
      have hc0 : cap' = 0 := by have := hclip rfl; simpa using this
      subst hc0
      obtain ⟨v', w', hr1, g2, g3⟩ := run_append_arg_grows (P := P) w t o.type e it z sz bytes hu hi hiz his hib hzsz hpos ⟨b', off', none⟩ 0 0 [] (by simp) (by simp) ad news.length cap xs x1 hnews (by omega) (by simpa using n2) (by simpa using hbytes)
      exact grown (xs := xs) (by rw [hxe, hyv]; exact hr1) (by simpa using g2) g3 hcells
def BoundIs (T : List (Nat × AV)) (x : Option Operand) (d n : Nat) : Prop := (x = none /\ n = d) \/ ∃ y k, x = some y /\ opnd T y = some (.d (.int k (n : Int)))
theorem free_slice {o : Oper} {S : St} {t e : TypeId} {x : Operand} {low high : Option Operand} {clip : Bool} {sz l h : Nat} {rows : List (List D)} (ho : o.op = .slice t x low high none) (hx : opnd S.T x = some (.d (.sl clip sz rows)))
  (ht : eltT P t = some (e, sz)) (hlo : BoundIs S.T low 0 l) (hhi : BoundIs S.T high rows.length h) (h2 : l <= h) (h3 : h <= rows.length) : Free P o S (.d (.sl false sz ((rows.take h).drop l))) [] [] :=
 free_val (by simp [ho]) fun base M yl a w hr => by
  have h1 := hr.opnd hx
  obtain ⟨hu, his⟩ : P.underlying t = some (.slice e) /\ szT P e = some sz := by
   unfold eltT at ht
   split at ht
   ·rename_i e' he
    cases hq : szT P e' with
    | none => rw [hq] at ht; cases ht
    | some q =>
     rw [hq] at ht
     simp only [Option.map_some, Option.some.injEq, Prod.mk.injEq] at ht
     obtain ⟨rfl, rfl⟩ := ht
     exact ⟨he, hq⟩
   ·cases ht
  have bnd : ∀ {y : Operand} {k : IntKind} {n m : Nat} {code : BoundsCode}, opnd S.T y = some (.d (.int k (n : Int))) -> n <= m -> (Instr.sliceBound (a.eval y) m code).run P w = .ok n w := fun hy hnm => by
   have := (hr.opnd hy).int
   rw [this]
   simp [Instr.sliceBound, asIntOf, hnm, Result.andThen]
  have bounds : ∀ cap : Nat, rows.length <= cap -> (Instr.sliceBounds true rows.length cap (low.map a.eval) (high.map a.eval) none).run P w = .ok (l, h, cap) w := fun cap hcap => by
   unfold Instr.sliceBounds
   rcases hhi with ⟨rfl, rfl⟩ | ⟨y, k, rfl, hy⟩ <;> rcases hlo with ⟨rfl, rfl⟩ | ⟨z, k', rfl, hz⟩
   ·simp [Result.andThen]
   ·simp [Result.andThen, bnd hz h2]
   ·simp [Result.andThen, bnd hy (Nat.le_trans h3 hcap)]
   ·simp [Result.andThen, bnd hy (Nat.le_trans h3 hcap), bnd hz h2]
  have run : ∀ (ad : Option Addr) (cap : Nat), a.eval x = .slice ad rows.length cap -> rows.length <= cap -> (execOp a.eval o).run P w = .ok (.value (.slice (if cap = l then ad else ad.map (·.add (l * sz))) (h - l) (cap - l))) w := fun ad cap hv hcap => by
   have e0 : (Instr.sliceAt t (.slice ad rows.length cap) (low.map a.eval) (high.map a.eval) none).run P w = .ok (.slice (if cap = l then ad else ad.map (·.add (l * sz))) (h - l) (cap - l)) w := by
    simp [Instr.sliceAt, Instr.slice, run_underlying hu, Result.andThen, bounds cap hcap, run_sizeOf his]
   simp [execOp, ho, hv, Result.andThen, e0]
  generalize hv : a.eval x = v at h1
  cases h1 with
  | d hd =>
   cases hd with
   | sl0 =>
    have e1 : l = 0 /\ h = 0 := by simp at h3; omega
    obtain ⟨rfl, rfl⟩ := e1
    refine ⟨_, run none 0 hv (Nat.le_refl _), ?_⟩
    exact .d (.sl0 _ _)
   | slE _ _ ad =>
    have e1 : l = 0 /\ h = 0 := by simp at h3; omega
    obtain ⟨rfl, rfl⟩ := e1
    refine ⟨_, run (some ad) 0 hv (Nat.le_refl _), ?_⟩
    exact .d (.slE _ _ _)
   | sl _ _ _ b off cap vs hok hcap hmax hclip hsz hc hone hh =>
    have hlen : ((rows.take h).drop l).length = h - l := by simp; omega
    have hget : ∀ (i : Nat) (row : List D), ((rows.take h).drop l)[i]? = some row -> rows[l + i]? = some row /\ i < h - l := fun i row hi => by
     have hlt := (List.getElem?_eq_some_iff.1 hi).1
     rw [hlen] at hlt
     rw [List.getElem?_drop, List.getElem?_take_of_lt (by omega)] at hi
     exact ⟨hi, hlt⟩
    refine ⟨_, run _ cap hv hcap, ?_⟩
    by_cases hcl : cap = l
    ·rw [if_pos hcl]
     have hnil : (rows.take h).drop l = [] := List.eq_nil_of_length_eq_zero (by rw [hlen]; omega)
     rw [hnil, show h - l = 0 from by omega]
     exact .d (.sl false sz [] b off (cap - l) vs hok (Nat.zero_le _) (by omega) (fun h => by cases h) (fun row hr => by cases hr) (fun i row j c hi => by simp at hi) (fun i row j c hi => by simp at hi) (fun i row j c hi => by simp at hi))
    ·rw [if_neg hcl]
     have hadd : (⟨b, off, none⟩ : Addr).add (l * sz) = ⟨b, off + l * sz, none⟩ := by unfold Addr.add; split <;> simp_all
     rw [Option.map_some, hadd, <- hlen]
     refine .d (.sl false sz _ b (off + l * sz) (cap - l) (fun i j => vs (l + i) j) hok (by rw [hlen]; omega) (by omega) (fun h => by cases h) (fun row hr => hsz row (List.mem_of_mem_take (List.mem_of_mem_drop hr))) (fun i row j c hi hj => ?_) (fun i row j c hi hj => hone (l + i) row j c (hget i row hi).1 hj) (fun i row j c hi hj => hh (l + i) row j c (hget i row hi).1 hj))
     have := hc (l + i) row j c (hget i row hi).1 hj
     rw [<- this]
     congr 2
     rw [Nat.add_mul]; omega
end Go.Proofs.Ytfilnnbfppokmaa.Aw
namespace Go.Proofs.Ytfilnnbfppokmaa.Aw
open Go Go.RowKit
universe u
variable {P : Program}
def flatF (P : Program) (rec : TypeId -> Option Nat) : List Field -> Nat -> Option Nat
 | [], n => some n
 | f :: r, n => match rec f.type with
  | some k => if f.name != "_" && Nat.beq f.offset n && szT P f.type == some k then flatF P rec r (n + k) else none
  | none => none
def flatN (P : Program) : Nat -> TypeId -> Option Nat
 | 0, _ => none
 | d + 1, t => match P.underlying t with
  | some (.int _) => if isAggT P t == some false then some 1 else none
  | some (.struct fs) => if P.stoodInHeld t then none else if isAggT P t == some true then (match flatF P (flatN P d) fs.toList 0 with
   | some n => if szT P t == some n then some n else none
   | none => none) else none
  | _ => none
def eqB (fx fy : Nat -> Int) : Nat -> Nat -> Bool
 | _, 0 => true
 | j, n + 1 => (fx j == fy j) && eqB fx fy (j + 1) n
theorem eqB_app (fx fy : Nat -> Int) : ∀ (n j m : Nat), eqB fx fy j (n + m) = (eqB fx fy j n && eqB fx fy (j + n) m)
 | 0, j, m => by simp [eqB]
 | n + 1, j, m => by
  rw [show n + 1 + m = (n + m) + 1 from by omega]
  simp only [eqB, eqB_app fx fy n (j + 1) m, Bool.and_assoc]
  rw [show j + 1 + n = j + (n + 1) from by omega]
def Ints (kd : Nat -> IntKind) (f : Nat -> Int) (vs : Array Value) (off n : Nat) : Prop := ∀ j, off <= j -> j < off + n -> vs[j]? = some (.int (kd j) (f j))
def EqT (P : Program) (dd : Nat) (t : TypeId) (n : Nat) : Prop := ∀ (w : World) (xs ys : Array Value) (off : Nat) (kd : Nat -> IntKind) (fx fy : Nat -> Int), Ints kd fx xs off n -> Ints kd fy ys off n ->
 ∃ a b, (part t xs off).run P w = .ok a w /\ (part t ys off).run P w = .ok b w /\ (Op.equalIn dd t a b).run P w = .ok (eqB fx fy off n) w
theorem eqB_shift (fx fy : Nat -> Int) (off : Nat) : ∀ (n j : Nat), eqB (fun i => fx (off + i)) (fun i => fy (off + i)) j n = eqB fx fy (off + j) n
 | 0, j => rfl
 | n + 1, j => by simp only [eqB, eqB_shift fx fy off n (j + 1)]; rw [show off + (j + 1) = off + j + 1 from by omega]
theorem flatF_le {rec : TypeId -> Option Nat} : ∀ {fs : List Field} {n m : Nat}, flatF P rec fs n = some m -> n <= m
 | [], n, m, h => by simp only [flatF, Option.some.injEq] at h; omega
 | f :: r, n, m, h => by
  unfold flatF at h
  split at h
  ·split at h
   ·have := flatF_le h; omega
   ·cases h
  ·cases h
theorem eqFields_flat {d dd : Nat} (ih : ∀ t n, flatN P d t = some n -> EqT P dd t n) : ∀ (fs : List Field) (n m : Nat), flatF P (flatN P d) fs n = some m -> ∀ (w : World) (xs ys : Array Value) (kd : Nat -> IntKind) (fx fy : Nat -> Int),
  Ints kd fx xs n (m - n) -> Ints kd fy ys n (m - n) -> (Op.eqFields dd xs ys fs).run P w = .ok (eqB fx fy n (m - n)) w
 | [], n, m, h, w, xs, ys, kd, fx, fy, h1, h2 => by
  simp only [flatF, Option.some.injEq] at h
  subst h
  simp [Op.eqFields, eqB]
 | f :: r, n, m, h, w, xs, ys, kd, fx, fy, h1, h2 => by
  unfold flatF at h
  split at h
  ·rename_i k hk
   split at h
   ·rename_i hb
    simp only [Bool.and_eq_true, Nat.beq_eq] at hb
    obtain ⟨⟨hb1, hb2⟩, hb3⟩ := hb
    have hle := flatF_le h
    obtain ⟨a, b, e1, e2, e3⟩ := ih f.type k hk w xs ys f.offset kd fx fy (fun j hj hj' => h1 j (by omega) (by omega)) (fun j hj hj' => h2 j (by omega) (by omega))
    have hr := eqFields_flat ih r (n + k) m h w xs ys kd fx fy (fun j hj hj' => h1 j (by omega) (by omega)) (fun j hj hj' => h2 j (by omega) (by omega))
    have hne : f.name ≠ "_" := by simpa using hb1
    simp only [Op.eqFields, if_pos hne, Sem.run_bind, e1, e2, e3, Result.andThen_ok]
    rw [show m - n = k + (m - (n + k)) from by omega, eqB_app, <- hb2]
    cases hq : eqB fx fy f.offset k
    ·simp
    ·simp only [Bool.not_true, Bool.false_eq_true, if_false, Bool.true_and]
     rw [hb2]; exact hr
   ·cases h
  ·cases h
theorem eqT_flat : ∀ (d dd : Nat), d <= dd -> ∀ t n, flatN P d t = some n -> EqT P dd t n
 | 0, _, _, t, n, h => by cases h
 | d + 1, 0, hd, _, _, _ => by omega
 | d + 1, dd + 1, hd, t, n, h => by
  intro w xs ys off kd fx fy h1 h2
  unfold flatN at h
  split at h
  ·rename_i k hu
   split at h
   ·rename_i hag
    have hag := eq_of_beq hag
    simp only [Option.some.injEq] at h
    subst h
    have e1 := h1 off (Nat.le_refl _) (by omega)
    have e2 := h2 off (Nat.le_refl _) (by omega)
    refine ⟨_, _, ?_, ?_, run_equalIn_int w dd t (kd off) k (fx off) (fy off) hu |>.trans (by simp [eqB])⟩
    ·simp [part, run_isAgg hag, Result.andThen, e1]
    ·simp [part, run_isAgg hag, Result.andThen, e2]
   ·cases h
  ·rename_i fs hu
   split at h
   ·cases h
   ·rename_i hs
    split at h
    ·rename_i hag
     have hag := eq_of_beq hag
     have hfs : P.fieldsOf t = fs := by unfold Program.fieldsOf; rw [hu]
     split at h
     ·rename_i n' hf
      split at h
      ·rename_i hsz
       have hsz := eq_of_beq hsz
       simp only [Option.some.injEq] at h
       subst h
       have hI : ∀ {f : Nat -> Int} {vs : Array Value}, Ints kd f vs off n' -> Ints (fun j => kd (off + j)) (fun j => f (off + j)) (vs.extract off (off + n')) 0 (n' - 0) := fun {f vs} h j _ hj => by
        have := h (off + j) (by omega) (by omega)
        rw [Array.getElem?_extract]
        have hlt := (Array.getElem?_eq_some_iff.1 this).1
        rw [if_pos (by omega)]
        exact this
       refine ⟨.agg (xs.extract off (off + n')), .agg (ys.extract off (off + n')), ?_, ?_, ?_⟩
       ·simp [part, run_isAgg hag, run_sizeOf hsz, Result.andThen]
       ·simp [part, run_isAgg hag, run_sizeOf hsz, Result.andThen]
       ·rw [run_equalIn_struct w dd t _ _ (by rw [hfs]; exact hu) (by simpa using hs), hfs]
        rw [eqFields_flat (fun t n => eqT_flat d dd (by omega) t n) fs.toList 0 n' hf w _ _ _ _ _ (hI h1) (hI h2), eqB_shift]
        rfl
      ·cases h
     ·cases h
    ·cases h
  ·cases h
def intsC : List (IntKind × Int) -> List AV
 | [] => []
 | (k, n) :: r => .d (.int k n) :: intsC r
def eqI : List (IntKind × Int) -> List (IntKind × Int) -> Bool
 | (_, a) :: r, (_, b) :: s => (a == b) && eqI r s
 | _, _ => true
def kindsEq : List (IntKind × Int) -> List (IntKind × Int) -> Bool
 | [], [] => true
 | (k, _) :: r, (k', _) :: s => (k == k') && kindsEq r s
 | _, _ => false
theorem intsC_len : ∀ {l : List (IntKind × Int)}, (intsC l).length = l.length
 | [] => rfl
 | (k, n) :: r => by simp [intsC, intsC_len (l := r)]
theorem intsC_get : ∀ {l : List (IntKind × Int)} {j : Nat}, (intsC l)[j]? = (l[j]?).map fun p => .d (.int p.1 p.2)
 | [], j => by simp [intsC]
 | (k, n) :: r, 0 => by simp [intsC]
 | (k, n) :: r, j + 1 => by simp [intsC, intsC_get (l := r) (j := j)]
theorem eqI_eqB : ∀ {l m : List (IntKind × Int)} {fx fy : Nat -> Int} {off : Nat}, kindsEq l m = true -> (∀ j p, l[j]? = some p -> fx (off + j) = p.2) -> (∀ j p, m[j]? = some p -> fy (off + j) = p.2) -> eqB fx fy off l.length = eqI l m
 | [], [], fx, fy, off, _, _, _ => rfl
 | (k, a) :: r, (k', b) :: s, fx, fy, off, hk, h1, h2 => by
  simp only [kindsEq, Bool.and_eq_true] at hk
  have e1 := h1 0 _ rfl
  have e2 := h2 0 _ rfl
  simp only [Nat.add_zero] at e1 e2
  simp only [eqI, List.length_cons, eqB, e1, e2]
  rw [eqI_eqB hk.2 (fun j p hp => by have := h1 (j + 1) p (by simpa using hp); rwa [show off + (j + 1) = off + 1 + j from by omega] at this) (fun j p hp => by have := h2 (j + 1) p (by simpa using hp); rwa [show off + (j + 1) = off + 1 + j from by omega] at this)]
 | [], _ :: _, _, _, _, hk, _, _ => by cases hk
 | _ :: _, [], _, _, _, hk, _, _ => by cases hk
theorem kindsEq_len : ∀ {l m : List (IntKind × Int)}, kindsEq l m = true -> l.length = m.length
 | [], [], _ => rfl
 | (k, a) :: r, (k', b) :: s, h => by simp only [kindsEq, Bool.and_eq_true] at h; simp [kindsEq_len h.2]
 | [], _ :: _, h => by cases h
 | _ :: _, [], h => by cases h
theorem kindsEq_get : ∀ {l m : List (IntKind × Int)} {j : Nat} {p q : IntKind × Int}, kindsEq l m = true -> l[j]? = some p -> m[j]? = some q -> p.1 = q.1
 | (k, a) :: r, (k', b) :: s, 0, p, q, h, h1, h2 => by
  simp only [kindsEq, Bool.and_eq_true] at h
  simp at h1 h2; subst h1 h2; simpa using h.1
 | (k, a) :: r, (k', b) :: s, j + 1, p, q, h, h1, h2 => by
  simp only [kindsEq, Bool.and_eq_true] at h
  exact kindsEq_get (j := j) h.2 (by simpa using h1) (by simpa using h2)
 | [], [], j, p, q, h, h1, h2 => by simp at h1
 | [], _ :: _, _, _, _, h, _, _ => by cases h
 | _ :: _, [], _, _, _, h, _, _ => by cases h
theorem free_eqAgg {o : Oper} {S : St} {t yt : TypeId} {x y : Operand} {d : Nat} {l m : List (IntKind × Int)} (neq : Bool) (ho : o.op = .binOp (if neq then .neq else .eql) t x y yt) (hx : opnd S.T x = some (.agg (intsC l))) (hy : opnd S.T y = some (.agg (intsC m)))
  (ht : flatN P d t = some l.length) (hag : isAggT P t = some true) (hd : d <= 10000) (hg : P.eqGuardType P.depth t = false) (hk : kindsEq l m = true) : Free P o S (.d (.bool (if neq then !(eqI l m) else eqI l m))) [] [] :=
 free_val (by simp [ho]) fun base M yl ac w hr => by
  obtain ⟨xs, hxv, hxl, _, hx'⟩ := (hr.opnd hx).agg'
  obtain ⟨ys, hyv, hyl, _, hy'⟩ := (hr.opnd hy).agg'
  have hlen := kindsEq_len hk
  rw [intsC_len] at hxl hyl
  have get : ∀ {vs : Array Value} {q : List (IntKind × Int)}, vs.size = q.length -> (∀ (i : Nat) (c : AV) (v : Value), (intsC q)[i]? = some c -> vs[i]? = some v -> RdA w M.ok M.μ M.ν yl c v) -> ∀ (j : Nat) (p : IntKind × Int), q[j]? = some p -> vs[j]? = some (Value.int p.1 p.2) := fun {vs q} hs h j p hp => by
   have hlt := (List.getElem?_eq_some_iff.1 hp).1
   have hv : vs[j]? = some (vs[j]'(by omega)) := by simp
   have := h j (.d (.int p.1 p.2)) _ (by rw [intsC_get, hp]; rfl) hv
   rw [hv, this.int]
  have gx := get hxl hx'
  have gy := get hyl hy'
  let kd : Nat -> IntKind := fun j => (l.getD j (.i64, 0)).1
  let fx : Nat -> Int := fun j => (l.getD j (.i64, 0)).2
  let fy : Nat -> Int := fun j => (m.getD j (.i64, 0)).2
  have i1 : Ints kd fx xs 0 l.length := fun j _ hj => by
   have hp : l[j]? = some (l[j]'(by omega)) := by simp [show j < l.length by omega]
   rw [gx j _ hp]
   show _ = some (Value.int (l.getD j (.i64, 0)).1 (l.getD j (.i64, 0)).2)
   rw [List.getD_eq_getElem?_getD, hp]; rfl
  have i2 : Ints kd fy ys 0 l.length := fun j _ hj => by
   have hp : l[j]? = some (l[j]'(by omega)) := by simp [show j < l.length by omega]
   have hq : m[j]? = some (m[j]'(by omega)) := by simp [show j < m.length by omega]
   rw [gy j _ hq]
   show _ = some (Value.int (l.getD j (.i64, 0)).1 (m.getD j (.i64, 0)).2)
   rw [List.getD_eq_getElem?_getD, hp, List.getD_eq_getElem?_getD, hq, <- kindsEq_get hk hp hq]; rfl
  obtain ⟨a, b, e1, e2, e3⟩ := eqT_flat d 10000 hd t _ ht w xs ys 0 kd fx fy i1 i2
  have hE : eqB fx fy 0 l.length = eqI l m := eqI_eqB hk (fun j p hp => by
    show (l.getD (0 + j) (.i64, 0)).2 = p.2
    rw [Nat.zero_add, List.getD_eq_getElem?_getD, hp]; rfl) (fun j p hp => by
    show (m.getD (0 + j) (.i64, 0)).2 = p.2
    rw [Nat.zero_add, List.getD_eq_getElem?_getD, hp]; rfl)
  have hsz : xs.size = l.length := hxl
  have hag2 : ∀ {vs : Array Value}, vs.size = l.length -> (part t vs 0).run P w = .ok (.agg vs) w := fun {vs} hvs => by
   have hsz : szT P t = some l.length := by
    cases d with
    | zero => cases ht
    | succ d =>
     unfold flatN at ht
     split at ht
     ·split at ht
      ·rename_i h; rw [hag] at h; cases h
      ·cases ht
     ·split at ht
      ·cases ht
      ·split at ht
       ·split at ht
        ·split at ht
         ·rename_i h; rw [eq_of_beq h]; exact ht
         ·cases ht
        ·cases ht
       ·cases ht
     ·cases ht
   simp [part, run_isAgg hag, run_sizeOf hsz, Result.andThen, <- hvs]
  rw [hag2 hxl] at e1; rw [hag2 (by rw [hyl, hlen])] at e2
  cases e1; cases e2
  rw [hE] at e3
  cases neq
  ·exact ⟨_, by simp only [execOp, ho, Bool.false_eq_true, if_false, hxv, hyv, Sem.run_bind, run_eqGuard_agg w .eql t x y xs ys hg, Result.andThen_ok, run_eql_struct, e3, Sem.run_pure], .d (.bool _)⟩
  ·exact ⟨_, by simp only [execOp, ho, if_true, hxv, hyv, Sem.run_bind, run_eqGuard_agg w .neq t x y xs ys hg, Result.andThen_ok, run_neq_struct, e3, Sem.run_pure], .d (.bool _)⟩
theorem free_index_agg {o : Oper} {S : St} {t : TypeId} {x ix : Operand} {k : IntKind} {i : Nat} {l sz : Nat} {e : TypeId} {cs : List AV} {c : AV} (ho : o.op = .index t x ix) (hx : opnd S.T x = some (.agg cs)) (hix : opnd S.T ix = some (.d (.int k i)))
  (ht : arrT P t = some (l, e, sz)) (hl : i < l) (hag : isAggT P e = some false) (hc : cs[i * sz]? = some c) : Free P o S c [] [] :=
 free_val (by simp [ho]) fun base M yl a w hr => by
  obtain ⟨vs, h1, h2, _, h3⟩ := (hr.opnd hx).agg'
  have h4 := (hr.opnd hix).int
  unfold arrT at ht
  split at ht
  ·rename_i l' e' hu
   cases hs : szT P e' with
   | none => rw [hs] at ht; cases ht
   | some n =>
    rw [hs] at ht
    simp only [Option.map_some, Option.some.injEq, Prod.mk.injEq] at ht
    obtain ⟨q1, q2, q3⟩ := ht
    subst q1 q2 q3
    obtain ⟨v, hv⟩ : ∃ v, vs[i * n]? = some v := ⟨vs[i * n]'(by rw [h2]; exact (List.getElem?_eq_some_iff.1 hc).1), by simp⟩
    exact ⟨v, by simp [execOp, ho, h1, h4, Instr.index, asIntOf, run_underlying hu, asAgg, part, run_isAgg hag, run_sizeOf hs, Result.andThen, hv, hl], h3 _ c v hc hv⟩
  ·cases ht
theorem free_index_agg2 {o : Oper} {S : St} {t : TypeId} {x ix : Operand} {k : IntKind} {i : Nat} {l sz : Nat} {e : TypeId} {cs : List AV} (ho : o.op = .index t x ix) (hx : opnd S.T x = some (.agg cs)) (hix : opnd S.T ix = some (.d (.int k i)))
  (ht : arrT P t = some (l, e, sz)) (hl : i < l) (hag : isAggT P e = some true) (hc : i * sz + sz <= cs.length) : Free P o S (.agg ((cs.drop (i * sz)).take sz)) [] [] :=
 free_val (by simp [ho]) fun base M yl a w hr => by
  obtain ⟨vs, h1, h2, h5, h3⟩ := (hr.opnd hx).agg'
  have h4 := (hr.opnd hix).int
  unfold arrT at ht
  split at ht
  ·rename_i l' e' hu
   cases hs : szT P e' with
   | none => rw [hs] at ht; cases ht
   | some n =>
    rw [hs] at ht
    simp only [Option.map_some, Option.some.injEq, Prod.mk.injEq] at ht
    obtain ⟨q1, q2, q3⟩ := ht
    subst q1 q2 q3
    refine ⟨.agg (vs.extract (i * n) (i * n + n)), by simp [execOp, ho, h1, h4, Instr.index, asIntOf, run_underlying hu, asAgg, part, run_isAgg hag, run_sizeOf hs, Result.andThen, hl], .agg _ _ (by simp; omega) ?_ ?_⟩
    ·intro j v hv
     rw [Array.getElem?_extract] at hv
     split at hv
     ·exact h5 _ v hv
     ·cases hv
    ·intro j c v hc hv
     rw [List.getElem?_take] at hc
     split at hc
     ·rw [List.getElem?_drop] at hc
      rw [Array.getElem?_extract] at hv
      split at hv
      ·exact h3 _ c v hc hv
      ·cases hv
     ·cases hc
  ·cases ht
theorem free_nilsl {o : Oper} {S : St} {t yt e : TypeId} {x y : Operand} {sz : Nat} {c : AV} (neq b : Bool) (ho : o.op = .binOp (if neq then .neq else .eql) t x y yt) (hx : opnd S.T x = some c) (hy : opnd S.T y = some (.d .nilsl)) (ht : eltT P t = some (e, sz))
  (hb : ∀ base M yl a w, Rel base S M yl a w -> ∃ ad l cap, a.eval x = .slice ad l cap /\ ad.isNone = b) : Free P o S (.d (.bool (if neq then !b else b))) [] [] :=
 free_val (by simp [ho]) fun base M yl ac w hr => by
  obtain ⟨ad, l, cap, hxv, hn⟩ := hb base M yl ac w hr
  have hyv := (hr.opnd hy).nilsl
  unfold eltT at ht
  split at ht
  ·rename_i e' hu
   cases neq
   ·exact ⟨_, by simp [execOp, ho, hxv, hyv, eqGuard, binOp, run_equal_slice_nil w t e' ad l cap hu, hn], .d (.bool _)⟩
   ·exact ⟨_, by simp [execOp, ho, hxv, hyv, eqGuard, binOp, run_equal_slice_nil w t e' ad l cap hu, hn], .d (.bool _)⟩
  ·cases ht
end Go.Proofs.Ytfilnnbfppokmaa.Aw
namespace Go.Proofs.Ytfilnnbfppokmaa.Aw
open Go Go.RowKit
universe u
variable {P : Program} {E : Env P} {base : Nat} {r : Option Nat}
def putG {α : Type u} (cells : List α) (off : Nat) (cs : List α) : List α := cells.take off ++ cs ++ cells.drop (off + cs.length)
theorem putG_get {α : Type u} {cells cs : List α} {off i : Nat} (h : off + cs.length <= cells.length) : (putG cells off cs)[i]? = if i < off then cells[i]? else if i < off + cs.length then cs[i - off]? else cells[i]? := by
 unfold putG
 have hto : (cells.take off).length = off := by rw [List.length_take]; omega
 by_cases h1 : i < off
 ·rw [if_pos h1, List.append_assoc, List.getElem?_append_left (by omega), List.getElem?_take, if_pos h1]
 ·rw [if_neg h1]
  by_cases h2 : i < off + cs.length
  ·rw [if_pos h2, List.append_assoc, List.getElem?_append_right (by omega), hto, List.getElem?_append_left (by omega)]
  ·rw [if_neg h2, List.getElem?_append_right (by rw [List.length_append]; omega), List.getElem?_drop, List.length_append, hto]
   congr 1; omega
theorem putG_len {α : Type u} {cells cs : List α} {off : Nat} (h : off + cs.length <= cells.length) : (putG cells off cs).length = cells.length := by
 unfold putG; simp only [List.length_append, List.length_take, List.length_drop]; omega
def putS (S : St) (id : Nat) (R : Row) (rows : List (List D)) : St := { S with O := setA S.O id ⟨R.e, R.sz, rows, R.nn, true⟩ }
theorem Cfg.putRow {S : St} {s : E.σ} {M : Mp} {a : Act} {w : World} {id g l cap : Nat} {R : Row} {rows : List (List D)} {p : Nat} {us : List Value} (h : Cfg E base S s M a w) (hR : look S.O id = some R) (hl : R.live = true)
  (hv : M.ν id = some (.slice (some ⟨g, 0, none⟩) l cap)) (hp : p + us.length <= R.rows.length * R.sz) (hlen : rows.length = R.rows.length) (hc : ∀ flat, RowCellsS w M.ok R.sz R.rows flat -> flat.length = R.rows.length * R.sz -> RowCellsS w M.ok R.sz rows (putG flat p us)) :
  ∃ cur, w.heap[g]? = some (.cells cur R.e (0, 0)) /\ p + us.length <= cur.size /\ Cfg E base (putS S id R rows) s M a (w.setRow g (putG cur.toList p us).toArray) /\ Ext S M w (putS S id R rows) M (w.setRow g (putG cur.toList p us).toArray) := by
 have hr := h.rel
 obtain ⟨v0, flat, r1, r2, r3, r4, r5⟩ := (hr.heap.row id R hR).sl ((hr.heap.row id R hR).blk hv rfl)
 rw [hv] at r1; cases r1
 obtain ⟨hfl, h2⟩ := r2
 rcases h2 with ⟨h2, _⟩ | ⟨g', cap', cur, h2, hb, hg, hn, hcm, hcs, htake⟩
 ·cases h2
 cases h2
 have hle : R.rows.length * R.sz <= cap * R.sz := Nat.mul_le_mul_right _ hn
 have hcurl : cur.toList.length = cap * R.sz := by simpa using hcs
 have hpc : p + us.length <= cur.toList.length := by omega
 let w' := w.setRow g (putG cur.toList p us).toArray
 have hheap : w'.heap[g]? = some (.cells (putG cur.toList p us).toArray R.e (0, 0)) := setRow_heap w g cur _ _ _ hg
 have hoth : ∀ k, k ≠ g -> w'.heap[k]? = w.heap[k]? := fun k hk => setRow_other w g k _ hk
 have hsz : w'.heap.size = w.heap.size := size_setRow w g _
 have hgv : (Value.slice (some ⟨g, 0, none⟩) R.rows.length cap).ownBlock = some g := rfl
 have hs0 := (hr.heap.row id R hR).blk hv (k := g) rfl
 have hat : At S.H S.O M (.inr id) g := ⟨⟨R, hR⟩, _, hv, rfl⟩
 have hown : Own S M g := .inl ⟨.inr id, hat, R, hR, hl⟩
 have hnok : ¬ M.ok g := (r5 g hgv).1 hl
 have hokw : ∀ k, M.ok k -> w'.heap[k]? = w.heap[k]? := fun k hk => hoth k (fun e => hnok (e ▸ hk))
 have hmono : ∀ {c u}, RdA w M.ok M.μ M.ν E.l c u -> RdA w' M.ok M.μ M.ν E.l c u := fun hu => hu.mono (fun _ x => x) hokw (fun _ _ => rfl) (fun _ _ => rfl)
 have hlk : ∀ b', look (putS S id R rows).O b' = if id = b' then some ⟨R.e, R.sz, rows, R.nn, true⟩ else look S.O b' := look_setA hR
 have hatS : ∀ x k, At (putS S id R rows).H (putS S id R rows).O M x k -> At S.H S.O M x k := by
  intro x k hx
  cases x with
  | inl b => exact hx
  | inr b =>
   obtain ⟨⟨B, hB⟩, u, hu, hk⟩ := hx
   rw [hlk] at hB
   by_cases e : id = b
   ·subst e; exact ⟨⟨R, hR⟩, u, hu, hk⟩
   ·rw [if_neg e] at hB; exact ⟨⟨B, hB⟩, u, hu, hk⟩
 have hlivS : ∀ x, Liv (putS S id R rows).H (putS S id R rows).O x -> Liv S.H S.O x := by
  intro x hx
  cases x with
  | inl b => exact hx
  | inr b =>
   obtain ⟨B, hB, hl'⟩ := hx
   rw [hlk] at hB
   by_cases e : id = b
   ·subst e; exact ⟨R, hR, hl⟩
   ·rw [if_neg e] at hB; exact ⟨B, hB, hl'⟩
 have hownS : ∀ k, Own (putS S id R rows) M k -> Own S M k := by
  rintro k (⟨x, hx, hl'⟩ | hd)
  ·exact .inl ⟨x, hatS x k hx, hlivS x hl'⟩
  ·exact .inr hd
 have hrows : RowCellsS w M.ok R.sz rows (putG flat p us) := hc flat r3 hfl
 refine ⟨cur, hg, by simpa using hpc, ⟨⟨by rw [hsz]; exact hr.lo, hr.size, ?_, ⟨?_, ?_, ?_⟩, ?_, hr.dfr, ?_, hr.dsN⟩, ?_, h.okLv, fun k hk => h.own k (hownS k hk), h.okDom, h.bDom⟩,
  ⟨rfl, rfl, rfl, Nat.le_of_eq hsz.symm, ?_, fun k _ hk => hownS k hk, fun _ x => x, fun _ _ x => .inl x, fun _ _ x => x, Nat.le_refl _, fun _ _ => rfl, fun _ _ x => .inl x, fun _ _ => rfl⟩⟩
 ·intro t c ht
  obtain ⟨u, h1, h2⟩ := hr.tmp t c ht
  exact ⟨u, h1, hmono h2⟩
 ·intro b B hB
  obtain ⟨k, vs, e1, e2, e3, e4, e5, e6, e7, e8⟩ := hr.heap.blk b B hB
  have hk : k ≠ g := fun e => by
   subst e
   have := hr.heap.inj (.inl b) (.inr id) k ⟨⟨B, hB⟩, e1⟩ hat
   cases this
  exact ⟨k, vs, e1, e2, (hoth k hk).trans e3, e4, fun i c u hc hu => hmono (e5 i c u hc hu), e6, e7, e8⟩
 ·intro id' R' hR'
  rw [hlk] at hR'
  by_cases e : id = id'
  ·subst e
   rw [if_pos rfl] at hR'; cases hR'
   refine RowOk.mk' hs0 ⟨_, putG flat p us, hv, ⟨by rw [putG_len (by omega), hlen, hfl], .inr ⟨g, cap, _, by rw [hlen], hb, hheap, by rw [hlen]; exact hn, hcm, by simp [putG_len hpc, hcurl], ?_⟩⟩, hrows.mono (fun _ x => x) hokw, r4, fun k hk => ⟨fun _ hok => ?_, fun hf => by cases hf⟩⟩
   ·rw [hlen]
    simp only
    apply List.ext_getElem?
    intro i
    rw [List.getElem?_take, putG_get (by omega)]
    split
    ·rename_i hi
     have hfi : flat[i]? = cur.toList[i]? := by rw [<- htake, List.getElem?_take, if_pos hi]
     rw [putG_get (cells := flat) (by omega), hfi]
    ·rename_i hi
     rw [putG_get (cells := flat) (by omega), if_neg (by omega), if_neg (by omega), List.getElem?_eq_none (by omega)]
   ·cases hk; exact hnok hok
  ·rw [if_neg e] at hR'
   obtain ⟨u, fl, e1, e2, e3, e4, e5⟩ := hr.heap.row id' R' hR'
   refine ⟨u, fl, e1, ownsR_same e2 e3 hokw (fun k hk => hoth k (fun ek => ?_)), e3.mono (fun _ x => x) hokw, e4, e5⟩
   subst ek
   have := hr.heap.inj (.inr id') (.inr id) k ⟨⟨R', hR'⟩, u, e1, hk⟩ hat
   simp only [Sum.inr.injEq] at this; exact e this.symm
 ·intro x y k hx hy
  exact hr.heap.inj x y k (hatS x k hx) (hatS y k hy)
 ·intro k hk; rw [hsz]; exact hr.okLt k hk
 ·intro D hD
  obtain ⟨h1, h2, h3⟩ := hr.dsOk D hD
  refine ⟨h1, (hoth D (fun e => ?_)).trans h2, h3⟩
  subst e; rw [hg] at h2; cases h2
 ·refine E.frame _ _ _ _ _ h.j (fun k hk => hoth k (fun e => ?_)) (Nat.le_of_eq hsz.symm)
  subst e
  exact hk.elim (h.own k hown).1 (h.own k hown).2
 ·exact fun k _ hno _ => hoth k (fun e => hno (e ▸ hown))
theorem rowCells_put {w : World} {ok : Nat -> Prop} {sz i j : Nat} {rows : List (List D)} {flat us : List Value} {row ds : List D} (h : RowCellsS w ok sz rows flat) (hl : flat.length = rows.length * sz) (hi : rows[i]? = some row) (hj : j + ds.length <= sz) (hu : us.length = ds.length)
  (hd : ∀ (q : Nat) (d : D), ds[q]? = some d -> ∃ x, us[q]? = some x /\ Rd w ok d x /\ x.oneCell' = true) : RowCellsS w ok sz (rows.set i (putG row j ds)) (putG flat (i * sz + j) us) := by
 have hil := (List.getElem?_eq_some_iff.1 hi).1
 have hrl := h.1 row (List.mem_of_getElem? hi)
 have hle : i * sz + sz <= rows.length * sz := by
  calc i * sz + sz = (i + 1) * sz := by rw [Nat.add_mul]; omega
   _ <= _ := Nat.mul_le_mul_right _ hil
 refine ⟨fun q hq => ?_, fun i' row' j' c hi' hj' => ?_⟩
 ·rcases List.mem_or_eq_of_mem_set hq with hm | rfl
  ·exact h.1 q hm
  ·rw [putG_len (by omega)]; exact hrl
 ·rw [putG_get (by omega)]
  rw [List.getElem?_set] at hi'
  by_cases e : i = i'
  ·subst e
   rw [if_pos rfl, if_pos hil] at hi'
   cases hi'
   rw [putG_get (by omega)] at hj'
   by_cases h1 : j' < j
   ·rw [if_pos h1] at hj'
    rw [if_pos (by omega)]
    exact h.2 i row j' c hi hj'
   ·rw [if_neg h1] at hj'
    by_cases h2 : j' < j + ds.length
    ·rw [if_pos h2] at hj'
     rw [if_neg (by omega), if_pos (by omega)]
     obtain ⟨x, e1, e2, e3⟩ := hd _ c hj'
     exact ⟨x, by rw [<- e1]; congr 1; omega, e2, e3⟩
    ·rw [if_neg h2] at hj'
     rw [if_neg (by omega), if_neg (by omega)]
     exact h.2 i row j' c hi hj'
  ·rw [if_neg e] at hi'
   have hj2 : j' < sz := by rw [<- h.1 row' (List.mem_of_getElem? hi')]; exact (List.getElem?_eq_some_iff.1 hj').1
   have hne : i' * sz + j' < i * sz + j \/ i * sz + j + us.length <= i' * sz + j' := by
    rcases Nat.lt_or_gt_of_ne e with hlt | hlt
    ·right
     have : i * sz + sz <= i' * sz := by
      calc i * sz + sz = (i + 1) * sz := by rw [Nat.add_mul]; omega
       _ <= _ := Nat.mul_le_mul_right _ hlt
     omega
    ·left
     have : i' * sz + sz <= i * sz := by
      calc i' * sz + sz = (i' + 1) * sz := by rw [Nat.add_mul]; omega
       _ <= _ := Nat.mul_le_mul_right _ hlt
     omega
   rcases hne with hne | hne
   ·rw [if_pos hne]; exact h.2 i' row' j' c hi' hj'
   ·rw [if_neg (by omega), if_neg (by omega)]; exact h.2 i' row' j' c hi' hj'
theorem bar_storeRow {o : Oper} {S : St} {s : E.σ} {t : TypeId} {p x : Operand} {id i j : Nat} {R : Row} {c : AV} {ds row : List D} (ho : o.op = .store t p x) (hdst : o.dst = none) (hp : opnd S.T p = some (.oloc id R.sz i j)) (hR : look S.O id = some R) (hl : R.live = true)
  (hx : opnd S.T x = some c) (hc : avCells c = some (ds.map .d)) (hs : szT P t = some ds.length) (hi : R.rows[i]? = some row) (hfit : j + ds.length <= R.sz) : Bar E o S s (putS S id R (R.rows.set i (putG row j ds))) s :=
 bar_run (by simp [ho]) hdst fun base M a w hcfg => by
  have hr := hcfg.rel
  obtain ⟨g1, g2, g3⟩ := avCells_spec (hr.opnd hx) hc
  rw [List.length_map] at g1
  have hh := hr.opnd hp
  generalize hav : a.eval p = pv at hh
  cases hh with
  | @oloc _ _ _ _ v k h2 hk =>
  obtain ⟨v', flat, r1, r2, r3, r4, r5⟩ := (hr.heap.row id R hR).sl ((hr.heap.row id R hR).blk h2 hk)
  rw [h2] at r1; cases r1
  obtain ⟨hfl, hsl⟩ := r2
  rcases hsl with ⟨rfl, _⟩ | ⟨g, cap, cur, rfl, _⟩
  ·simp [Value.ownBlock] at hk
  have hkg : k = g := by simp [Value.ownBlock] at hk; exact hk.symm
  subst hkg
  have hil := (List.getElem?_eq_some_iff.1 hi).1
  have hus : (a.eval x).cells.toList.length = ds.length := by simp [g1]
  have hle : i * R.sz + R.sz <= R.rows.length * R.sz := by
   calc i * R.sz + R.sz = (i + 1) * R.sz := by rw [Nat.add_mul]; omega
    _ <= _ := Nat.mul_le_mul_right _ hil
  obtain ⟨cur, hg, hpc, c1, c2⟩ := hcfg.putRow (rows := R.rows.set i (putG row j ds)) (p := i * R.sz + j) (us := (a.eval x).cells.toList) hR hl h2 (by omega) (by simp) (fun flat hf hfl => rowCells_put hf hfl hi hfit hus (fun q d hq => by
   have hql := (List.getElem?_eq_some_iff.1 hq).1
   have hv : (a.eval x).cells[q]? = some ((a.eval x).cells[q]'(by omega)) := by simp
   refine ⟨_, by rw [Array.getElem?_toList]; exact hv, ?_, g2 q _ hv⟩
   have := g3 q (.d d) _ (by rw [List.getElem?_map, hq]; rfl) hv
   cases this with | d h => exact h))
  refine ⟨_, M, ?_, c1, c2⟩
  have hst := run_storeCells_at P k (i * R.sz + j) R.e (a.eval x).cells.toList 0 cur w hg (by simpa using hpc) (fun u hu => by
   obtain ⟨i, hi⟩ := List.getElem?_of_mem hu
   exact g2 i u (by simpa using hi))
  simp only [Nat.add_zero] at hst
  have hne : ¬ ((a.eval x).cells.size ≠ ds.length) := by simp [g1]
  simp only [execOp, ho, Instr.storeAt, Instr.sureAddr, hav, storeVar, Sem.run_bind, Sem.run_pure, Result.andThen, run_sizeOf hs]
  rw [if_neg hne]
  simp only [Sem.run_bind, Sem.run_pure, Result.andThen, hst, putG]
theorem bar_of_free {o : Oper} {S : St} {s : E.σ} {res : AV} (h : Free P o S res [] []) (hd : dstOk S o.dst = true) : Bar E o S s (S.add o.dst res [] []) s := fun r base M a w hc K Q hK =>
 h r base M E.l a w hc.rel K Q fun v w' M' hn => let ⟨c1, c2⟩ := hc.new hn (fresh_nil S) hd; hK v w' M' c1 c2
theorem bar_copy {o : Oper} {S : St} {s : E.σ} {x y : Operand} {t : TypeId} {id : Nat} {R : Row} {c : AV} {news : List (List D)} (ho : o.op = .call { callee := .builtin .copy, args := #[x, y], argTypes := #[t, t] }) (hx : opnd S.T x = some (.osl id)) (hR : look S.O id = some R) (hl : R.live = true)
  (hs0 : 0 < R.sz) (ht : eltT P t = some (R.e, R.sz)) (hy : opnd S.T y = some c) (hs : srcRows S id R.sz c = some news) (hlen : news.length = R.rows.length) (hpos : 0 < news.length) (hd : dstOk S o.dst = true) :
  Bar E o S s ((putS S id R news).add o.dst (.d (.int .i64 news.length)) [] []) s :=
 bar_val (by simp [ho]) fun base M a w hcfg => by
  have hr := hcfg.rel
  obtain ⟨v, flat, r1, r2, r3, r4, r5⟩ := (hr.heap.row id R hR).sl hs0
  have hxv := (hr.opnd hx).osl'
  rw [r1] at hxv
  simp only [Option.some.injEq] at hxv
  obtain ⟨s1, s2, s3⟩ := src_spec hr hs0 hs (hr.opnd hy)
  obtain ⟨hfl, hsl⟩ := r2
  rcases hsl with ⟨_, h0⟩ | ⟨g, cap, cur0, hv, _⟩
  ·omega
  rcases s3 with ⟨_, hn0⟩ | ⟨ad, cap', hyv, xs, x1, x2, x3⟩
  ·subst hn0; simp at hpos
  rw [hv] at r1
  have hcells : RowCellsS w M.ok R.sz news xs := ⟨s1, x3⟩
  obtain ⟨cur, hg, hpc, c1, c2⟩ := hcfg.putRow (rows := news) (p := 0) (us := xs) hR hl r1 (by rw [x1, hlen, Nat.zero_add]; exact Nat.le_refl _) hlen (fun flat hf hfl' => by
   have : putG flat 0 xs = xs := by unfold putG; rw [List.take_zero, List.nil_append, List.drop_eq_nil_of_le (by rw [hfl', x1, hlen, Nat.zero_add]; exact Nat.le_refl _), List.append_nil]
   rw [this]; exact hcells)
  have hu : P.underlying t = some (.slice R.e) /\ szT P R.e = some R.sz := by
   unfold eltT at ht
   split at ht
   ·rename_i e' hu
    cases hq : szT P e' with
    | none => rw [hq] at ht; cases ht
    | some m => rw [hq] at ht; simp only [Option.map_some, Option.some.injEq, Prod.mk.injEq] at ht; obtain ⟨rfl, rfl⟩ := ht; exact ⟨hu, hq⟩
   ·cases ht
  have hone := oneCells x1 s1 x3
  have hst := run_storeCells_at P g 0 R.e xs 0 cur w hg (by simpa using hpc) hone
  have hfc := run_firstCells_some (P := P) w R.sz news.length ad news.length cap' xs x1 x2
  have hmin : Nat.min news.length R.rows.length = news.length := by rw [hlen]; exact Nat.min_self _
  obtain ⟨d1, d2⟩ := c1.new (res := .d (.int .i64 news.length)) (v := .int .i64 news.length) (New.plain (.d (.int _ _))) (fresh_nil _) (dst := o.dst) hd
  refine ⟨_, _, _, ?_, d1, c2.trans d2⟩
  simp only [execOp, ho, resolve, invoke, builtin, Sem.run_bind, Sem.run_pure, Result.andThen, List.map_toArray, List.map_cons, List.map_nil, <- hxv, hv, hyv]
  simp only [Nat.zero_add, Nat.add_zero] at hst
  simp [Builtin.copy_, run_underlying hu.1, Builtin.lenOf, run_sizeOf hu.2, hmin, hfc, hst, Result.andThen, putG, goInt]
theorem free_append_full {o : Oper} {S : St} {x y : Operand} {t e : TypeId} {sz bytes id : Nat} {c : AV} {zc : List AV} {rows news : List (List D)} (ho : o.op = .call { callee := .builtin .append, args := #[x, y], argTypes := #[t, t] }) (hx : opnd S.T x = some (.d (.sl true sz rows)))
  (ht : eltT P t = some (e, sz)) (hz : zeroC P e = some zc) (hzs : zc.length = sz) (hpos : 0 < sz) (hby : (P.info? e).map (fun x : TypeInfo => x.bytes) = some bytes) (hr0 : 0 < rows.length) (hn0 : 0 < news.length)
  (hy : opnd S.T y = some c) (hs : srcRows S id sz c = some news) (hbytes : (rows.length + news.length) * bytes <= 140737488355328) (h63 : rows.length + news.length <= 140737488355328) : Free P o S (.d (.sl false sz (rows ++ news))) [] [] :=
 free_run (by simp [ho]) fun base M yl a w hr => by
  have hxv := hr.opnd hx
  obtain ⟨n1, n2, n3⟩ := src_spec hr hpos hs (hr.opnd hy)
  obtain ⟨it, z, hi, hiz, hzrel⟩ := zeroC_rel hz
  have hzsz : z.cells.size = sz := by rw [(hzrel w M.ok M.μ M.ν yl).len]; exact hzs
  have hib : it.bytes = bytes := by rw [hi] at hby; simpa using hby
  obtain ⟨hu, his⟩ : P.underlying t = some (.slice e) /\ it.size = sz := by
   unfold eltT at ht
   split at ht
   ·rename_i e' he
    cases hq : szT P e' with
    | none => rw [hq] at ht; cases ht
    | some q =>
     rw [hq] at ht
     simp only [Option.map_some, Option.some.injEq, Prod.mk.injEq] at ht
     obtain ⟨rfl, rfl⟩ := ht
     refine ⟨he, ?_⟩
     unfold szT at hq
     rw [hi] at hq
     simpa using hq
   ·cases ht
  have hexec : ∀ {v' w'}, (Builtin.append_ #[t, t] o.type #[a.eval x, a.eval y]).run P w = .ok v' w' -> (execOp a.eval o).run P w = .ok (.value v') w' := fun {v' w'} h => by
   simp only [execOp, ho, resolve, invoke, builtin, Sem.run_bind, Sem.run_pure, Result.andThen, List.map_toArray, List.map_cons, List.map_nil, h]
  rcases n3 with ⟨_, hn⟩ | ⟨ad, cap, hyv, xs, x1, x2, x3⟩
  ·subst hn; simp at hn0
  have hold := src_spec (id := 0) (news := rows) (sz := sz) hr hpos (by simp [srcRows]) hxv
  have hxv' := hxv
  cases hxv with
  | d h =>
   generalize hxe : a.eval x = xv at h
   cases h with
   | sl0 => simp at hr0
   | slE => simp at hr0
   | sl _ _ _ b' off' cap' vs hok h1 h2 hclip h4 h5 h6 h7 =>
    obtain ⟨o1, o2, o3⟩ := hold
    rcases o3 with ⟨_, ho0⟩ | ⟨ad2, cap2, hxv2, ys, y1, y2, y3⟩
    ·subst ho0; simp at hr0
    rw [hxe] at hxv2
    cases hxv2
    have hc : cap' = rows.length := hclip rfl
    subst hc
    obtain ⟨v', w', hr1, g2, g3⟩ := run_append_arg_grows (P := P) w t o.type e it z sz bytes hu hi hiz his hib hzsz hpos ⟨b', off', none⟩ rows.length rows.length ys y1 y2 ad news.length cap xs x1 x2 (by omega) (by simp only [maxLen]; omega) hbytes
    have hb : Below w.heap.size w w' := (Below.refl _ _).grown g3 (Nat.le_refl _) (fun k h => by cases h)
    have hw : ∀ k, M.ok k -> w'.heap[k]? = w.heap[k]? := fun k hk => hb.block k (hr.okLt k hk)
    have hrc : RowCellsS w M.ok sz (rows ++ news) (ys ++ xs) := rowCells_append ⟨o1, y3⟩ y1 n1 x3
    have g2' : w'.ownsRow w.heap.size e sz v' (rows ++ news).length (ys ++ xs) := by rw [List.length_append]; exact g2
    refine ⟨v', w', { M with ok := fun k => M.ok k \/ v'.ownBlock = some k }, hexec (by rw [hxe, hyv]; exact hr1), ⟨hb, rfl, rfl, rfl, fun _ _ => rfl, fun _ _ => rfl, fun k x => .inl x, fun k x => x.imp (fun y => y) (fun h => g2.lt k h), ?_, ⟨fun b B h => (by cases h), fun b B h => (by cases h), fun x y k hx => by cases x <;> (obtain ⟨⟨_, h⟩, _⟩ := hx; cases h)⟩⟩⟩
    exact .d (rd_of_own g2' (hrc.mono (fun k x => .inl x) hw) (fun k hk => .inr hk))
theorem free_append_own {o : Oper} {S : St} {x y : Operand} {t e : TypeId} {sz bytes id : Nat} {c : AV} {zc : List AV} {news : List (List D)} (ho : o.op = .call { callee := .builtin .append, args := #[x, y], argTypes := #[t, t] }) (hx : opnd S.T x = some (.d (.sl true sz [])))
  (ht : eltT P t = some (e, sz)) (hz : zeroC P e = some zc) (hzs : zc.length = sz) (hpos : 0 < sz) (hby : (P.info? e).map (fun x : TypeInfo => x.bytes) = some bytes)
  (hy : opnd S.T y = some c) (hs : srcRows S id sz c = some news) (hbytes : news.length * bytes <= 140737488355328) (h63 : news.length <= 140737488355328) (hn0 : 0 < news.length) : Free P o S (.osl id) [] [(id, ⟨e, sz, news, true, true⟩)] :=
 free_run (by simp [ho]) fun base M yl a w hr => by
  have hxv := hr.opnd hx
  obtain ⟨n1, n2, n3⟩ := src_spec hr hpos hs (hr.opnd hy)
  obtain ⟨it, z, hi, hiz, hzrel⟩ := zeroC_rel hz
  have hzsz : z.cells.size = sz := by rw [(hzrel w M.ok M.μ M.ν yl).len]; exact hzs
  have hib : it.bytes = bytes := by rw [hi] at hby; simpa using hby
  obtain ⟨hu, his⟩ : P.underlying t = some (.slice e) /\ it.size = sz := by
   unfold eltT at ht
   split at ht
   ·rename_i e' he
    cases hq : szT P e' with
    | none => rw [hq] at ht; cases ht
    | some q =>
     rw [hq] at ht
     simp only [Option.map_some, Option.some.injEq, Prod.mk.injEq] at ht
     obtain ⟨rfl, rfl⟩ := ht
     refine ⟨he, ?_⟩
     unfold szT at hq
     rw [hi] at hq
     simpa using hq
   ·cases ht
  have hexec : ∀ {v' w'}, (Builtin.append_ #[t, t] o.type #[a.eval x, a.eval y]).run P w = .ok v' w' -> (execOp a.eval o).run P w = .ok (.value v') w' := fun {v' w'} h => by
   simp only [execOp, ho, resolve, invoke, builtin, Sem.run_bind, Sem.run_pure, Result.andThen, List.map_toArray, List.map_cons, List.map_nil, h]
  have grown : ∀ {v' : Value} {w' : World} {xs : List Value}, (Builtin.append_ #[t, t] o.type #[a.eval x, a.eval y]).run P w = .ok v' w' -> w'.ownsRow w.heap.size e sz v' news.length xs -> w.grownBy w' none -> RowCellsS w M.ok sz news xs ->
    ∃ v w' M', (execOp a.eval o).run P w = .ok (.value v) w' /\ New M yl w [] [(id, ⟨e, sz, news, true, true⟩)] (.osl id) v M' w' := fun {v' w' xs} hrun hown hg hcells => by
   have hb : Below w.heap.size w w' := (Below.refl _ _).grown hg (Nat.le_refl _) (fun k h => by cases h)
   have hw : ∀ k, M.ok k -> w'.heap[k]? = w.heap[k]? := fun k hk => hb.block k (hr.okLt k hk)
   have hns : v' ≠ .slice none 0 0 /\ ∀ k, v'.ownBlock = some k -> w.heap.size <= k := by
    rcases hown.2 with ⟨_, h0⟩ | ⟨g, cap, cur, rfl, h6, _⟩
    ·omega
    ·exact ⟨by simp, fun k hk => by simp [Value.ownBlock] at hk; omega⟩
   refine ⟨v', w', setν M id v', hexec hrun, ⟨hb, rfl, rfl, rfl, fun _ _ => rfl, fun b hb => ?_, fun k x => x, fun k x => .inl x, .osl (by simp [setν]) (nil_block hown), ⟨fun b B h => (by cases h), fun id' R hR => ?_, fun x y k hx hy => ?_⟩⟩⟩
   ·have : ¬ b = id := fun e => hb (by simp [keys, e])
    simp [setν, this]
   ·simp only [look] at hR
    by_cases hbb : id = id'
    ·rw [if_pos hbb] at hR; cases hR; subst hbb
     exact RowOk.mk' hpos ⟨v', xs, by simp [setν], hown, hcells.mono (fun k x => x) hw, fun _ => hns.1, fun k hk => ⟨fun _ hok => by have := hns.2 k hk; have := hr.okLt k hok; omega, fun hf => by cases hf⟩⟩
    ·rw [if_neg hbb] at hR; cases hR
   ·cases x with
    | inl b => obtain ⟨⟨_, h⟩, _⟩ := hx; cases h
    | inr x =>
     cases y with
     | inl b => obtain ⟨⟨_, h⟩, _⟩ := hy; cases h
     | inr y =>
      obtain ⟨⟨_, hx⟩, _⟩ := hx
      obtain ⟨⟨_, hy⟩, _⟩ := hy
      simp only [look] at hx hy
      by_cases h1 : id = x
      ·by_cases h2 : id = y
       ·rw [<- h1, <- h2]
       ·rw [if_neg h2] at hy; cases hy
      ·rw [if_neg h1] at hx; cases hx
  rcases n3 with ⟨hv0, hn1⟩ | ⟨ad, cap, hyv, xs, x1, x2, x3⟩
  ·subst hn1; simp at hn0
  ·have hnews := x2
   have hone := oneCells x1 n1 x3
   have hcells : RowCellsS w M.ok sz news xs := ⟨n1, x3⟩
   cases hxv with
   | d h =>
    generalize hxe : a.eval x = xv at h
    cases h with
    | sl0 =>
     obtain ⟨v', w', hr1, h2, h3, _⟩ := run_append_own (P := P) w w.heap.size t o.type e it z sz bytes hu hi hiz his hib hzsz hpos (.slice none 0 0) 0 [] ⟨by simp, .inl ⟨rfl, rfl⟩⟩ ad news.length cap xs x1 hnews hone (by simpa using n2) (by simpa using hbytes) (Nat.le_refl _)
     refine grown (xs := xs) (by rw [hxe, hyv]; exact hr1) (by simpa using h2) h3 hcells
    | slE _ _ ad' =>
     obtain ⟨v', w', hr1, g2, g3⟩ := run_append_arg_grows (P := P) w t o.type e it z sz bytes hu hi hiz his hib hzsz hpos ad' 0 0 [] (by simp) (by simp) ad news.length cap xs x1 hnews (by omega) (by simpa using n2) (by simpa using hbytes)
     exact grown (xs := xs) (by rw [hxe, hyv]; exact hr1) (by simpa using g2) g3 hcells
    | sl _ _ _ b' off' cap' vs hok h1 h2 hclip h4 h5 h6 h7 =>
     have hc0 : cap' = 0 := by have := hclip rfl; simpa using this
     subst hc0
     obtain ⟨v', w', hr1, g2, g3⟩ := run_append_arg_grows (P := P) w t o.type e it z sz bytes hu hi hiz his hib hzsz hpos ⟨b', off', none⟩ 0 0 [] (by simp) (by simp) ad news.length cap xs x1 hnews (by omega) (by simpa using n2) (by simpa using hbytes)
     exact grown (xs := xs) (by rw [hxe, hyv]; exact hr1) (by simpa using g2) g3 hcells
theorem free_append_none {o : Oper} {S : St} {x y : Operand} {t e : TypeId} {sz bytes id : Nat} {c : AV} {zc : List AV} {news : List (List D)} (ho : o.op = .call { callee := .builtin .append, args := #[x, y], argTypes := #[t, t] }) (hx : opnd S.T x = some (.d (.sl true sz [])))
  (ht : eltT P t = some (e, sz)) (hz : zeroC P e = some zc) (hzs : zc.length = sz) (hpos : 0 < sz) (hby : (P.info? e).map (fun x : TypeInfo => x.bytes) = some bytes)
  (hy : opnd S.T y = some c) (hs : srcRows S id sz c = some news) (hbytes : news.length * bytes <= 140737488355328) (h63 : news.length <= 140737488355328) (hn0 : news = []) : Free P o S (.d (.sl true sz [])) [] [] :=
 free_run (by simp [ho]) fun base M yl a w hr => by
  have hxv := hr.opnd hx
  obtain ⟨n1, n2, n3⟩ := src_spec hr hpos hs (hr.opnd hy)
  obtain ⟨it, z, hi, hiz, hzrel⟩ := zeroC_rel hz
  have hzsz : z.cells.size = sz := by rw [(hzrel w M.ok M.μ M.ν yl).len]; exact hzs
  have hib : it.bytes = bytes := by rw [hi] at hby; simpa using hby
  obtain ⟨hu, his⟩ : P.underlying t = some (.slice e) /\ it.size = sz := by
   unfold eltT at ht
   split at ht
   ·rename_i e' he
    cases hq : szT P e' with
    | none => rw [hq] at ht; cases ht
    | some q =>
     rw [hq] at ht
     simp only [Option.map_some, Option.some.injEq, Prod.mk.injEq] at ht
     obtain ⟨rfl, rfl⟩ := ht
     refine ⟨he, ?_⟩
     unfold szT at hq
     rw [hi] at hq
     simpa using hq
   ·cases ht
  have hexec : ∀ {v' w'}, (Builtin.append_ #[t, t] o.type #[a.eval x, a.eval y]).run P w = .ok v' w' -> (execOp a.eval o).run P w = .ok (.value v') w' := fun {v' w'} h => by
   simp only [execOp, ho, resolve, invoke, builtin, Sem.run_bind, Sem.run_pure, Result.andThen, List.map_toArray, List.map_cons, List.map_nil, h]
  have same : (Builtin.append_ #[t, t] o.type #[a.eval x, a.eval y]).run P w = .ok (a.eval x) w -> ∃ v w' M', (execOp a.eval o).run P w = .ok (.value v) w' /\ New M yl w [] [] (.d (.sl true sz [])) v M' w' := fun hrun => ⟨_, _, M, hexec hrun, New.plain hxv⟩
  subst hn0
  refine same ?_
  rcases n3 with ⟨hv0, _⟩ | ⟨ad, cap, hyv, xs, x1, x2, x3⟩
  ·rw [hv0]
   cases hxv with
   | d h =>
    generalize a.eval x = xv at h
    cases h with
    | sl0 => simp [Builtin.append_, run_underlying hu, sizeOf, typeInfo, hi, Builtin.lenOf, Builtin.firstCells]
    | slE => simp [Builtin.append_, run_underlying hu, sizeOf, typeInfo, hi, Builtin.lenOf, Builtin.firstCells, storeCells]
    | sl _ _ _ b off cap vs hok h1 h2 h3 h4 h5 h6 h7 => simp [Builtin.append_, run_underlying hu, sizeOf, typeInfo, hi, Builtin.lenOf, Builtin.firstCells, storeCells]
  ·rw [hyv]
   have hx0 : xs = [] := List.eq_nil_of_length_eq_zero (by simpa using x1)
   subst hx0
   have hf := run_firstCells_some (P := P) w it.size 0 ad 0 cap [] (by simp) (by simp)
   cases hxv with
   | d h =>
    generalize a.eval x = xv at h
    cases h with
    | sl0 => simp [Builtin.append_, run_underlying hu, sizeOf, typeInfo, hi, Builtin.lenOf, hf]
    | slE => simp [Builtin.append_, run_underlying hu, sizeOf, typeInfo, hi, Builtin.lenOf, hf, storeCells]
    | sl _ _ _ b off cap vs hok h1 h2 h3 h4 h5 h6 h7 => simp [Builtin.append_, run_underlying hu, sizeOf, typeInfo, hi, Builtin.lenOf, hf, storeCells]
theorem weak_vals {S S' : St} (hn : S'.n = S.n) (hl : S.low = S'.low) (hH : S'.H = S.H) (hO : S'.O = S.O) (hT : ∀ base M yl a w, Rel base S M yl a w -> ∀ t c, look S'.T t = some c -> ∃ v, a.tmps[t]? = some v /\ RdA w M.ok M.μ M.ν yl c v) : Weak S S' := by
 intro P E base s M a w hc
 have hr := hc.rel
 have hown : ∀ k, Own S' M k ↔ Own S M k := fun k => by unfold Own; rw [hH, hO]
 refine ⟨M, ⟨⟨hr.lo, hr.size.trans hn.symm, hT base M E.l a w hr, by rw [hH, hO]; exact hr.heap, hr.okLt, hr.dfr, hr.dsOk, hr.dsN⟩, hc.j, hc.okLv, fun k hk => hc.own k ((hown k).1 hk), hc.okDom, hc.bDom⟩,
  ⟨rfl, rfl, rfl, Nat.le_refl _, fun _ _ _ _ => rfl, fun k _ hk => (hown k).1 hk, fun _ x => x, fun _ _ x => .inl x, fun _ _ x => x, Nat.le_of_eq hl, fun _ _ => rfl, fun _ _ x => .inl x, fun _ _ => rfl⟩⟩
def seeT (id : Nat) (d : D) : List (Nat × AV) -> List (Nat × AV)
 | [] => []
 | (t, .osl i) :: r => if i = id then (t, .d d) :: seeT id d r else (t, .osl i) :: seeT id d r
 | p :: r => p :: seeT id d r
theorem look_seeT {id : Nat} {d : D} {t : Nat} {c : AV} : ∀ {T : List (Nat × AV)}, look (seeT id d T) t = some c -> look T t = some c \/ (look T t = some (.osl id) /\ c = .d d)
 | [], h => by cases h
 | (u, x) :: r, h => by
  have ih := look_seeT (id := id) (d := d) (t := t) (c := c) (T := r)
  by_cases hx : x = .osl id
  ·subst hx
   simp only [seeT, if_true, look] at h ⊢
   by_cases e : u = t
   ·rw [if_pos e] at h ⊢; cases h; exact .inr ⟨rfl, rfl⟩
   ·rw [if_neg e] at h ⊢; exact ih h
  ·have hs : seeT id d ((u, x) :: r) = (u, x) :: seeT id d r := by
    cases x <;> first | rfl | (rename_i i; simp only [seeT]; rw [if_neg (fun e => hx (by rw [e]))])
   rw [hs] at h
   simp only [look] at h ⊢
   by_cases e : u = t
   ·rw [if_pos e] at h ⊢; exact .inl h
   ·rw [if_neg e] at h ⊢; exact ih h
def frzS (S : St) (id : Nat) (R : Row) (d : D) : St := { S with T := seeT id d S.T, O := setA S.O id { R with live := false } }
theorem weak_frz {S : St} {id : Nat} {R : Row} {d : D} (hR : look S.O id = some R) (hd : rowDt R = some d) : Weak S (frzS S id R d) := by
 have hlk := fun b => look_setA (v := { R with live := false }) hR b
 refine Weak.trans (S' := { S with O := setA S.O id { R with live := false } }) (Less.weak ⟨rfl, Nat.le_refl _, fun t c h => h, fun b B hB => ⟨B.live, hB, fun x => x⟩, fun b B hB => ?_⟩) (weak_vals rfl rfl rfl rfl ?_)
 ·simp only at hB
  rw [hlk] at hB
  by_cases e : id = b
  ·subst e; rw [if_pos rfl] at hB; cases hB; exact ⟨R.live, hR, fun h => by cases h⟩
  ·rw [if_neg e] at hB; exact ⟨B.live, hB, fun x => x⟩
 ·intro base M yl a w hr t c ht
  rcases look_seeT ht with h | ⟨h, rfl⟩
  ·exact hr.tmp t c h
  ·obtain ⟨v, h1, h2⟩ := hr.tmp t _ h
   refine ⟨v, h1, ?_⟩
   have hv := h2.osl'
   have hd' : rowDt { R with live := false } = some d := hd
   exact .d ((row_dt (lv := false) hr (R := { R with live := false }) (by show look (setA S.O id _) id = _; rw [hlk, if_pos rfl]) rfl hv hd').1.mono (fun k hk => hk.resolve_right (fun x => by cases x.1)) (fun _ _ => rfl))
theorem stepR_scope {b : Frame} {a : Act} {k : List Item} {cs : List Frame} {w : World} {c : Code} : step P (lone (b.atR a (.code (.scope c) :: k)) cs w) = .next (lone (b.atR a (.code c :: .inScope c :: k)) cs w) :=
 step_lone_go (by simp [stepG, stepG.exec, Frame.atR])
theorem stepR_inScope {b : Frame} {a : Act} {k : List Item} {cs : List Frame} {w : World} {c : Code} : step P (lone (b.atR a (.inScope c :: k)) cs w) = .next (lone (b.atR a k) cs w) :=
 step_lone_go (by simp [stepG, stepG.exec, Frame.atR])
theorem wpIn_scope {F : Fence} {n : Nat} {c : Code} {Q : Exit -> Act -> World -> Prop} {a : Act} {w : World} (h : c.wpIn F n P (fun e a w => (match e with | .goto _ => False | _ => True) /\ Q e a w) a w) : (Code.scope c).wpIn F n P Q a w := by
 intro b k cs hro hb hr
 have h0 : (lone (b.atR a (.code (.scope c) :: k)) cs w).fenced P F := fenced_calm hb hr rfl
 obtain ⟨e, a₁, w₁, ⟨hg, hq⟩, harr⟩ := h b (.inScope c :: k) cs hro hb hr
 cases e with
 | normal => exact ⟨.normal, a₁, w₁, hq, .head h0 stepR_scope (StepsIn.trans harr (.one (fenced_calm hb hr rfl) stepR_inScope))⟩
 | exit id' =>
  have hx : exitTo id' (.inScope c :: k) = exitTo id' k := by simp [exitTo]
  exact ⟨.exit id', a₁, w₁, hq, fun k' hk => .head h0 stepR_scope (harr.1 k' (by rw [hx]; exact hk)),
   fun hr' hk => let ⟨k₁, h1, h2⟩ := harr.2 hr' (by rw [hx]; exact hk); ⟨k₁, h1, .head h0 stepR_scope h2⟩⟩
 | goto l => exact hg.elim
 | ret => exact ⟨_, a₁, w₁, hq, .of_steps (.one h0 stepR_scope) harr⟩
 | panic ch => exact ⟨_, a₁, w₁, hq, .of_steps (.one h0 stepR_scope) harr⟩
 | outgrown => exact ⟨_, a₁, w₁, hq, .of_steps (.one h0 stepR_scope) harr⟩
def noGotoQ (Q : Exit -> St -> E.σ -> Prop) (e : Exit) (S : St) (s : E.σ) : Prop := match e with
 | .goto _ => False
 | e => Q e S s
theorem AW_scope {c : Code} {S : St} {s : E.σ} {Q : Exit -> St -> E.σ -> Prop} (h : AW E base r c S s (noGotoQ Q)) : AW E base r (.scope c) S s Q := by
 intro M a w hc
 refine wpIn_scope (wpIn_mono (h M a w hc) ?_)
 rintro e a' w' ⟨S', s', M', q, hc', hx⟩
 cases e with
 | goto l => exact q.elim
 | _ => exact ⟨trivial, S', s', M', q, hc', hx⟩
end Go.Proofs.Ytfilnnbfppokmaa.Aw
namespace Go.Proofs.Ytfilnnbfppokmaa.Aw
open Go Go.RowKit Go.MapKept
universe u
variable {P : Program} {E : Env P} {base : Nat} {r : Option Nat}
inductive KeyT where
 | sc (d : TypeDesc)
 | ag (ks : List IntKind)
def KeyOk (P : Program) (t : TypeId) : KeyT -> Prop
 | .sc d => P.underlying t = some d
 | .ag ks => flatN P 8 t = some ks.length /\ isAggT P t = some true
def kindsD : List IntKind -> List D -> Prop
 | [], [] => True
 | k :: r, .int k' _ :: s => k' = k /\ kindsD r s
 | _, _ => False
def isKeyD0 : TypeDesc -> D -> Prop
 | .bool, .bool _ => True
 | .int k, .int k' _ => k' = k
 | .string, .str _ => True
 | _, _ => False
def isKeyD : KeyT -> D -> Prop
 | .sc d, x => isKeyD0 d x
 | .ag ks, .agg ds => kindsD ks ds
 | .ag _, _ => False
theorem isKey_of {d : TypeDesc} {w : World} {ok : Nat -> Prop} {x : D} {v : Value} (h : Rd w ok x v) (hk : isKeyD0 d x) : IsKey d v := by
 cases h <;> cases d <;> simp_all [isKeyD0, IsKey]
theorem key_val0 {d : TypeDesc} {w : World} {ok : Nat -> Prop} {x : D} {v u : Value} (kx : isKeyD0 d x) (h1 : Rd w ok x v) (h2 : Rd w ok x u) : v = u := by
 cases d <;> cases x <;> simp [isKeyD0] at kx <;> (cases h1; cases h2; rfl)
def numD : D -> Int
 | .int _ n => n
 | _ => 0
theorem kindsD_len : ∀ {ks : List IntKind} {ds : List D}, kindsD ks ds -> ds.length = ks.length
 | [], [], _ => rfl
 | k :: r, .int k' n :: s, h => by simp [kindsD_len h.2]
 | [], _ :: _, h => h.elim
 | _ :: _, [], h => h.elim
theorem kindsD_get : ∀ {ks : List IntKind} {ds : List D} {j : Nat} {k : IntKind}, kindsD ks ds -> ks[j]? = some k -> ∃ n, ds[j]? = some (.int k n)
 | k :: r, .int k' n :: s, 0, _, h, hj => by cases hj; exact ⟨n, by rw [h.1]; rfl⟩
 | k :: r, .int k' n :: s, j + 1, _, h, hj => by
  obtain ⟨m, hm⟩ := kindsD_get (j := j) h.2 (by simpa using hj)
  exact ⟨m, by simpa using hm⟩
 | [], [], j, _, _, hj => by simp at hj
 | [], _ :: _, _, _, h, _ => h.elim
 | _ :: _, [], _, _, h, _ => h.elim
theorem rd_ints {w : World} {ok : Nat -> Prop} {ks : List IntKind} {ds : List D} {v : Value} (h : kindsD ks ds) (hv : Rd w ok (.agg ds) v) : ∃ xs, v = .agg xs /\ xs.size = ks.length /\ Ints (fun j => ks.getD j .i64) (fun j => numD (ds.getD j .nilfn)) xs 0 ks.length := by
 cases hv with
 | agg _ vs hl h1 hh =>
  refine ⟨vs, rfl, hl.trans (kindsD_len h), fun j _ hj => ?_⟩
  have hk : ks[j]? = some ks[j] := by simp [show j < ks.length by omega]
  obtain ⟨n, hn⟩ := kindsD_get h hk
  have hvv : vs[j]? = some (vs[j]'(by have := kindsD_len h; omega)) := by simp
  have := hh j _ _ hn hvv
  generalize vs[j]'(by have := kindsD_len h; omega) = u at this hvv
  cases this
  rw [hvv]
  show _ = some (Value.int (ks.getD j .i64) (numD (ds.getD j .nilfn)))
  rw [List.getD_eq_getElem?_getD, hk, List.getD_eq_getElem?_getD, hn]; rfl
theorem key_val {d : KeyT} {w : World} {ok : Nat -> Prop} {x : D} {v u : Value} (kx : isKeyD d x) (h1 : Rd w ok x v) (h2 : Rd w ok x u) : v = u := by
 cases d with
 | sc d => exact key_val0 kx h1 h2
 | ag ks =>
  cases x with
  | agg ds =>
   obtain ⟨xs, rfl, e1, f1⟩ := rd_ints (kx : kindsD ks ds) h1
   obtain ⟨ys, rfl, e2, f2⟩ := rd_ints (kx : kindsD ks ds) h2
   congr 1
   apply Array.ext_getElem?
   intro i
   by_cases hi : i < ks.length
   ·rw [f1 i (Nat.zero_le _) (by omega), f2 i (Nat.zero_le _) (by omega)]
   ·rw [Array.getElem?_eq_none (by omega), Array.getElem?_eq_none (by omega)]
  | _ => exact (show False from kx).elim
def dsame0 : D -> D -> Bool
 | .int _ a, .int _ b => a == b
 | .str a, .str b => a == b
 | .bool a, .bool b => a == b
 | _, _ => false
def dsameL : List D -> List D -> Bool
 | [], [] => true
 | a :: r, b :: s => dsame0 a b && dsameL r s
 | _, _ => false
def dsame : D -> D -> Bool
 | .agg a, .agg b => dsameL a b
 | a, b => dsame0 a b
theorem sameNow_D {d : TypeDesc} {w : World} {ok : Nat -> Prop} {x y : D} {v u : Value} (hx : Rd w ok x v) (hy : Rd w ok y u) (kx : isKeyD0 d x) (ky : isKeyD0 d y) : Instr.sameNow d v u = some (dsame x y) := by
 cases hx <;> cases d <;> simp_all [isKeyD0] <;> cases hy <;> simp_all [isKeyD0, Instr.sameNow, dsame, dsame0]
theorem dsameL_iff : ∀ {ks : List IntKind} {ds es : List D}, kindsD ks ds -> kindsD ks es -> (dsameL ds es = true ↔ ds = es)
 | [], [], [], _, _ => by simp [dsameL]
 | k :: r, .int k1 n :: s, .int k2 m :: t, h1, h2 => by
  have ih := dsameL_iff h1.2 h2.2
  have e1 := h1.1
  have e2 := h2.1
  subst e1
  subst e2
  simp [dsameL, dsame0, ih]
 | [], [], _ :: _, _, h => h.elim
 | [], _ :: _, _, h, _ => h.elim
 | _ :: _, [], _, h, _ => h.elim
 | _ :: _, .int _ _ :: _, [], _, h => h.elim
theorem dsame_iff {d : KeyT} {x y : D} (kx : isKeyD d x) (ky : isKeyD d y) : dsame x y = true ↔ x = y := by
 cases d with
 | sc d =>
  have kx : isKeyD0 d x := kx
  have ky : isKeyD0 d y := ky
  cases d <;> cases x <;> simp_all [isKeyD0] <;> cases y <;> simp_all [isKeyD0, dsame, dsame0, bytes_beq]
 | ag ks =>
  cases x with
  | agg ds =>
   cases y with
   | agg es => simp only [dsame, dsameL_iff (show kindsD ks ds from kx) (show kindsD ks es from ky), D.agg.injEq]
   | _ => exact (show False from ky).elim
  | _ => exact (show False from kx).elim
theorem dsameL_eqB : ∀ {ks : List IntKind} {ds es : List D} {fx fy : Nat -> Int} {off : Nat}, kindsD ks ds -> kindsD ks es -> (∀ j c, ds[j]? = some c -> fx (off + j) = numD c) -> (∀ j c, es[j]? = some c -> fy (off + j) = numD c) -> eqB fx fy off ks.length = dsameL ds es
 | [], [], [], _, _, _, _, _, _, _ => rfl
 | k :: r, .int k1 n :: s, .int k2 m :: t, fx, fy, off, h1, h2, g1, g2 => by
  have a1 := g1 0 _ rfl
  have a2 := g2 0 _ rfl
  simp only [Nat.add_zero, numD] at a1 a2
  have ih := dsameL_eqB (fx := fx) (fy := fy) (off := off + 1) h1.2 h2.2 (fun j c hc => by have := g1 (j + 1) c (by simpa using hc); rwa [show off + (j + 1) = off + 1 + j from by omega] at this) (fun j c hc => by have := g2 (j + 1) c (by simpa using hc); rwa [show off + (j + 1) = off + 1 + j from by omega] at this)
  simp only [List.length_cons, eqB, a1, a2, ih, dsameL, dsame0]
 | [], [], _ :: _, _, _, _, _, h, _, _ => h.elim
 | [], _ :: _, _, _, _, _, h, _, _, _ => h.elim
 | _ :: _, [], _, _, _, _, h, _, _, _ => h.elim
 | _ :: _, .int _ _ :: _, [], _, _, _, _, h, _, _ => h.elim
theorem part_flat {d n : Nat} {t : TypeId} {w : World} (ht : flatN P d t = some n) (hag : isAggT P t = some true) {vs : Array Value} (hvs : vs.size = n) : (part t vs 0).run P w = .ok (.agg vs) w := by
 have hsz : szT P t = some n := by
  cases d with
  | zero => cases ht
  | succ d =>
   unfold flatN at ht
   split at ht
   ·split at ht
    ·rename_i h; rw [hag] at h; cases h
    ·cases ht
   ·split at ht
    ·cases ht
    ·split at ht
     ·split at ht
      ·split at ht
       ·rename_i h; rw [eq_of_beq h]; exact ht
       ·cases ht
      ·cases ht
     ·cases ht
   ·cases ht
 simp [part, run_isAgg hag, run_sizeOf hsz, Result.andThen, <- hvs]
theorem under_flat {d n : Nat} {t : TypeId} (ht : flatN P d t = some n) (hag : isAggT P t = some true) : ∃ fs, P.underlying t = some (.struct fs) := by
 cases d with
 | zero => cases ht
 | succ d =>
  unfold flatN at ht
  split at ht
  ·split at ht
   ·rename_i h; rw [hag] at h; cases h
   ·cases ht
  ·rename_i fs hu; exact ⟨fs, hu⟩
  ·cases ht
def CheckT (P : Program) (em : Bool) (dd : Nat) (t : TypeId) (n : Nat) : Prop := ∀ (w : World) (xs : Array Value) (off : Nat) (kd : Nat -> IntKind) (fx : Nat -> Int), Ints kd fx xs off n ->
 ∃ a, (part t xs off).run P w = .ok a w /\ (Instr.checkKey em dd t a).run P w = .ok () w
theorem checkT_flat (em : Bool) : ∀ (d dd : Nat), d <= dd -> ∀ t n, flatN P d t = some n -> CheckT P em dd t n
 | 0, _, _, t, n, h => by cases h
 | d + 1, 0, hd, _, _, _ => by omega
 | d + 1, dd + 1, hd, t, n, h => by
  intro w xs off kd fx h1
  unfold flatN at h
  split at h
  ·rename_i k hu
   split at h
   ·rename_i hag
    have hag := eq_of_beq hag
    simp only [Option.some.injEq] at h
    subst h
    have e1 := h1 off (Nat.le_refl _) (by omega)
    refine ⟨.int (kd off) (fx off), by simp [part, run_isAgg hag, Result.andThen, e1], ?_⟩
    simp [Instr.checkKey, run_underlying hu, Result.andThen]
   ·cases h
  ·rename_i fs hu
   split at h
   ·cases h
   ·split at h
    ·rename_i hag
     have hag := eq_of_beq hag
     split at h
     ·rename_i n' hf
      split at h
      ·rename_i hsz
       have hsz := eq_of_beq hsz
       simp only [Option.some.injEq] at h
       subst h
       have hI : Ints (fun j => kd (off + j)) (fun j => fx (off + j)) (xs.extract off (off + n')) 0 (n' - 0) := fun j _ hj => by
        have := h1 (off + j) (by omega) (by omega)
        rw [Array.getElem?_extract]
        have hlt := (Array.getElem?_eq_some_iff.1 this).1
        rw [if_pos (by omega)]
        exact this
       refine ⟨.agg (xs.extract off (off + n')), by simp [part, run_isAgg hag, run_sizeOf hsz, Result.andThen], ?_⟩
       rw [Instr.checkKey]
       simp only [Sem.run_bind, run_underlying hu, Result.andThen_ok]
       rw [<- Array.forIn_toList]
       revert hf hI
       generalize xs.extract off (off + n') = ys
       generalize (fun j => kd (off + j)) = K
       generalize (fun j => fx (off + j)) = F
       generalize fs.toList = L
       generalize (0 : Nat) = n0
       induction L generalizing n0 with
       | nil => intro hf hI; simp
       | cons f L ih =>
        intro hf hI
        unfold flatF at hf
        split at hf
        ·rename_i k hk
         split at hf
         ·rename_i hb
          simp only [Bool.and_eq_true, Nat.beq_eq] at hb
          obtain ⟨⟨hb1, hb2⟩, hb3⟩ := hb
          have hle := flatF_le hf
          have hne : f.name ≠ "_" := by simpa using hb1
          obtain ⟨a, p1, p2⟩ := checkT_flat em d dd (by omega) f.type k hk w ys f.offset K F (fun j hj hj' => hI j (by omega) (by omega))
          simp only [List.forIn_cons, Sem.run_bind, hne, ne_eq, not_false_eq_true, if_true, Result.andThen_ok, p1, p2, Sem.run_pure]
          exact ih (n0 + k) hf (fun j hj hj' => hI j (by omega) (by omega))
         ·cases hf
        ·cases hf
      ·cases h
     ·cases h
    ·cases h
  ·cases h
theorem run_checkKeyD {kt : TypeId} {d : KeyT} {w : World} {ok : Nat -> Prop} {kD : D} {k : Value} (hd : KeyOk P kt d) (hkD : isKeyD d kD) (hk : Rd w ok kD k) (e : Bool) : (Instr.checkKey e 10000 kt k).run P w = .ok () w := by
 cases d with
 | sc d => exact run_checkKey hd (isKey_of hk hkD) e 9999
 | ag ks =>
  cases kD with
  | agg ds =>
   obtain ⟨xs, rfl, hl, hI⟩ := rd_ints (show kindsD ks ds from hkD) hk
   obtain ⟨a, p1, p2⟩ := checkT_flat e 8 10000 (by omega) kt _ hd.1 w xs 0 _ _ hI
   rw [part_flat hd.1 hd.2 hl] at p1
   cases p1
   exact p2
  | _ => exact (show False from hkD).elim
theorem run_keyStaysD {d : KeyT} {w : World} {ok : Nat -> Prop} {kD : D} {k : Value} (hkD : isKeyD d kD) (hk : Rd w ok kD k) : (Instr.keyThatStays k k).run P w = .ok k w := by
 cases d with
 | sc d => exact run_keyThatStays (isKey_of hk hkD)
 | ag ks =>
  cases kD with
  | agg ds =>
   obtain ⟨xs, rfl, hl, hI⟩ := rd_ints (show kindsD ks ds from hkD) hk
   have hs : Instr.sameBits 10000 (.agg xs) (.agg xs) = true := by
    show Instr.sameBits (9999 + 1) (.agg xs) (.agg xs) = true
    simp only [Instr.sameBits, beq_self_eq_true, Bool.true_and, List.all_eq_true]
    intro p hp
    obtain ⟨i, hi, e⟩ := List.getElem_of_mem hp
    rw [List.getElem_zip] at e
    simp only [List.length_zip, Nat.min_self, Array.length_toList] at hi
    have hx := hI i (Nat.zero_le _) (by omega)
    rw [Array.getElem?_eq_getElem hi] at hx
    simp only [Option.some.injEq] at hx
    rw [<- e]
    simp only [Array.getElem_toList, hx, Instr.sameBits, beq_self_eq_true, Bool.and_self]
   simp [Instr.keyThatStays, hs]
  | _ => exact (show False from hkD).elim
def mpos (k : D) : List (List D) -> Option Nat
 | [] => none
 | row :: r => match dsame k (row.headD .nilfn) with
  | true => some 0
  | false => (mpos k r).map (· + 1)
theorem mpos_lt {k : D} : ∀ {rows : List (List D)} {i : Nat}, mpos k rows = some i -> i < rows.length
 | [], i, h => by cases h
 | row :: r, i, h => by
  simp only [mpos] at h
  split at h
  ·cases h; simp
  ·cases hh : mpos k r with
   | none => rw [hh] at h; cases h
   | some j => rw [hh] at h; cases h; have := mpos_lt hh; simp; omega
theorem mpos_same {k : D} : ∀ {rows : List (List D)} {i : Nat} {row : List D}, mpos k rows = some i -> rows[i]? = some row -> dsame k (row.headD .nilfn) = true
 | [], i, row, h, _ => by cases h
 | row' :: r, i, row, h, hr => by
  simp only [mpos] at h
  split at h
  ·rename_i hd; cases h; cases hr; exact hd
  ·cases hh : mpos k r with
   | none => rw [hh] at h; cases h
   | some j => rw [hh] at h; cases h; exact mpos_same hh (by simpa using hr)
def mgetD (rows : List (List D)) (k : D) : Option D := (mpos k rows).bind fun i => (rows[i]?).bind fun row => row[1]?
def msetD (rows : List (List D)) (k v : D) : List (List D) := match mpos k rows with
 | some i => rows.set i [k, v]
 | none => rows ++ [[k, v]]
def mdelD (rows : List (List D)) (k : D) : List (List D) := match mpos k rows with
 | some i => rows.eraseIdx i
 | none => rows
def keysD (d : KeyT) (rows : List (List D)) : Prop := ∀ row ∈ rows, ∃ k v, row = [k, v] /\ isKeyD d k
def EntsRel (w : World) (ok : Nat -> Prop) (es : List MapEntry) (rows : List (List D)) : Prop :=
 es.length = rows.length /\ (∀ row ∈ rows, row.length = 2) /\ ∀ (i : Nat) (e : MapEntry) (k v : D), es[i]? = some e -> rows[i]? = some [k, v] -> Rd w ok k e.key /\ Rd w ok v e.val
theorem findNow_rows {d : TypeDesc} {w : World} {ok : Nat -> Prop} {key : D} {kv : Value} (hk : isKeyD0 d key) (hv : Rd w ok key kv) : ∀ (es : List MapEntry) (rows : List (List D)) (i : Nat), EntsRel w ok es rows -> keysD (.sc d) rows ->
  Instr.findNow d kv es i = some ((mpos key rows).bind fun j => (es[j]?).map fun e => (i + j, e.val))
 | [], rows, i, h, hd => by
  have : rows = [] := List.eq_nil_of_length_eq_zero h.1.symm
  subst this; rfl
 | e :: es, [], i, h, hd => by have := h.1; cases this
 | e :: es, row :: rows, i, h, hd => by
  obtain ⟨k, v, rfl, hkk⟩ := hd row (by simp)
  have he := (h.2.2 0 e k v rfl rfl).1
  have hs := sameNow_D hv he hk hkk
  have hrest : EntsRel w ok es rows := ⟨by have := h.1; simpa using this, fun q hq => h.2.1 q (by simp [hq]), fun j e' k' v' h1 h2 => h.2.2 (j + 1) e' k' v' (by simpa using h1) (by simpa using h2)⟩
  have ih := findNow_rows hk hv es rows (i + 1) hrest (fun q hq => hd q (by simp [hq]))
  simp only [Instr.findNow, hs, mpos, List.headD_cons]
  cases hb : dsame key k with
  | true => simp
  | false =>
   simp only [ih]
   cases mpos key rows with
   | none => rfl
   | some j =>
    simp only [Option.map_some, Option.bind_some, List.getElem?_cons_succ]
    rw [show i + 1 + j = i + (j + 1) from by omega]
theorem run_equalD {kt : TypeId} {ks : List IntKind} {w : World} {ok : Nat -> Prop} {x y : D} {v u : Value} (hd : KeyOk P kt (.ag ks)) (kx : isKeyD (.ag ks) x) (ky : isKeyD (.ag ks) y) (hx : Rd w ok x v) (hy : Rd w ok y u) : (Op.equal kt v u).run P w = .ok (dsame x y) w := by
 cases x with
 | agg ds =>
  cases y with
  | agg es =>
   have kx : kindsD ks ds := kx
   have ky : kindsD ks es := ky
   obtain ⟨xs, rfl, e1, f1⟩ := rd_ints kx hx
   obtain ⟨ys, rfl, e2, f2⟩ := rd_ints ky hy
   obtain ⟨a, b, p1, p2, p3⟩ := eqT_flat 8 10000 (by omega) kt _ hd.1 w xs ys 0 _ _ _ f1 f2
   rw [part_flat hd.1 hd.2 e1] at p1
   rw [part_flat hd.1 hd.2 e2] at p2
   cases p1
   cases p2
   show (Op.equalIn 10000 kt _ _).run P w = _
   rw [p3]
   congr 1
   exact dsameL_eqB kx ky (fun j c hc => by rw [Nat.zero_add, List.getD_eq_getElem?_getD, hc]; rfl) (fun j c hc => by rw [Nat.zero_add, List.getD_eq_getElem?_getD, hc]; rfl)
  | _ => exact (show False from ky).elim
 | _ => exact (show False from kx).elim
theorem findAsking_rows {kt : TypeId} {ks : List IntKind} {w : World} {ok : Nat -> Prop} {key : D} {kv : Value} (hd : KeyOk P kt (.ag ks)) (hk : isKeyD (.ag ks) key) (hv : Rd w ok key kv) : ∀ (es : List MapEntry) (rows : List (List D)) (i : Nat), EntsRel w ok es rows -> keysD (.ag ks) rows ->
  (Instr.findAsking kt kv es i).run P w = .ok ((mpos key rows).bind fun j => (es[j]?).map fun e => (i + j, e.val)) w
 | [], rows, i, h, hd' => by
  have : rows = [] := List.eq_nil_of_length_eq_zero h.1.symm
  subst this; simp [Instr.findAsking, mpos]
 | e :: es, [], i, h, hd' => by have := h.1; cases this
 | e :: es, row :: rows, i, h, hd' => by
  obtain ⟨k, v, rfl, hkk⟩ := hd' row (by simp)
  have he := (h.2.2 0 e k v rfl rfl).1
  have hs := run_equalD hd hk hkk hv he
  have hrest : EntsRel w ok es rows := ⟨by have := h.1; simpa using this, fun q hq => h.2.1 q (by simp [hq]), fun j e' k' v' h1 h2 => h.2.2 (j + 1) e' k' v' (by simpa using h1) (by simpa using h2)⟩
  have ih := findAsking_rows hd hk hv es rows (i + 1) hrest (fun q hq => hd' q (by simp [hq]))
  simp only [Instr.findAsking, Sem.run_bind, hs, Result.andThen_ok, mpos, List.headD_cons]
  cases hb : dsame key k with
  | true => simp
  | false =>
   simp only [Bool.false_eq_true, if_false, ih]
   cases mpos key rows with
   | none => rfl
   | some j =>
    simp only [Option.map_some, Option.bind_some, List.getElem?_cons_succ]
    rw [show i + 1 + j = i + (j + 1) from by omega]
theorem run_findKeyD {kt : TypeId} {d : KeyT} {w : World} {ok : Nat -> Prop} {key : D} {kv : Value} {es : List MapEntry} {rows : List (List D)} (hd : KeyOk P kt d) (hk : isKeyD d key) (hv : Rd w ok key kv) (hr : EntsRel w ok es rows) (hks : keysD d rows) :
  (Instr.findKey kt kv es).run P w = .ok ((mpos key rows).bind fun j => (es[j]?).map fun e => (0 + j, e.val)) w := by
 cases d with
 | sc d => exact run_findKey hd (findNow_rows hk hv es rows 0 hr hks)
 | ag ks =>
  obtain ⟨fs, hu⟩ := under_flat hd.1 hd.2
  cases es with
  | nil =>
   have : rows = [] := List.eq_nil_of_length_eq_zero hr.1.symm
   subst this
   simp [Instr.findKey, run_underlying hu, Result.andThen, Instr.findNow, mpos]
  | cons e es =>
   have := findAsking_rows hd hk hv (e :: es) rows 0 hr hks
   simpa [Instr.findKey, run_underlying hu, Result.andThen, Instr.findNow, Instr.sameNow] using this
def MapRel (w : World) (ok : Nat -> Prop) (v : Value) (rows : List (List D)) : Prop :=
 (v = .map none /\ rows = []) \/ ∃ k es clock, v = .map (some k) /\ w.heap[k]? = some (.map es clock) /\ Stamps es clock /\ EntsRel w ok es.toList rows
theorem mapRel_d {w : World} {ok : Nat -> Prop} {μ : Nat -> Option Nat} {ν : Nat -> Option Value} {yl : Nat} {rows : List (List D)} {v : Value} (h : RdA w ok μ ν yl (.d (.map rows)) v) : MapRel w ok v rows := by
 cases h with
 | d h =>
  cases h with
  | map _ k clock es vs hok hh hn hst hsz hv h =>
   refine .inr ⟨k, es, clock, rfl, hh, hst, by simpa using hn, hsz, fun i e kk vv he hr => ?_⟩
   have he' : es[i]? = some e := by simpa using he
   obtain ⟨h1, h2⟩ := hv i e he'
   exact ⟨h1 ▸ h i _ 0 kk hr rfl, h2 ▸ h i _ 1 vv hr rfl⟩
theorem mapRel_own {w : World} {lo : Nat} {M : Mp} {id : Nat} {R : Row} (h : RowOk lo M w id R) (hs : R.sz = 0) (hn : R.nn = true) : ∃ k es clock, M.ν id = some (.map (some k)) /\ lo <= k /\ w.heap[k]? = some (.map es clock) /\ Stamps es clock /\ EntsRel w M.ok es.toList R.rows := by
 obtain ⟨v, flat, h1, h2, h3, h4, h5⟩ := h
 rcases h2 with ⟨h2, _⟩ | ⟨_, _, k, es, clock, rfl, g1, g2, g3, g4, g5⟩ | ⟨_, h2, _⟩
 ·omega
 ·refine ⟨k, es, clock, h1, g1, g2, g4, by simpa using g3, fun row hr => by have := h3.1 row hr; rw [hs] at this; exact this, fun i e kk vv he hr => ?_⟩
  have he' : es[i]? = some e := by simpa using he
  obtain ⟨e1, e2⟩ := g5 i e he'
  obtain ⟨x, x1, x2, _⟩ := h3.2 i _ 0 kk hr rfl
  obtain ⟨y, y1, y2, _⟩ := h3.2 i _ 1 vv hr rfl
  rw [hs] at x1 y1
  simp only [wd, Nat.add_zero] at x1 y1
  rw [e1] at x1; rw [e2] at y1
  cases x1; cases y1
  exact ⟨x2, y2⟩
 ·rw [hn] at h2; cases h2
def mapRowsA (S : St) : AV -> Option (List (List D))
 | .d (.map rows) => some rows
 | .d .nilmap => some []
 | .osl id => match look S.O id with
  | some R => if Nat.beq R.sz 0 && R.nn then some R.rows else none
  | none => none
 | _ => none
theorem mapRowsA_spec {S : St} {M : Mp} {yl : Nat} {a : Act} {w : World} {c : AV} {rows : List (List D)} {v : Value} (hr : Rel base S M yl a w) (h : mapRowsA S c = some rows) (hv : RdA w M.ok M.μ M.ν yl c v) : MapRel w M.ok v rows := by
 unfold mapRowsA at h
 split at h
 ·cases h; exact mapRel_d hv
 ·cases h
  cases hv with
  | d hv => cases hv; exact .inl ⟨rfl, rfl⟩
 ·split at h
  ·rename_i id R hR
   split at h
   ·rename_i hb
    cases h
    simp only [Bool.and_eq_true] at hb
    obtain ⟨k, es, clock, h1, _, h2, h3, h4⟩ := mapRel_own (hr.heap.row _ R hR) (Nat.eq_of_beq_eq_true hb.1) hb.2
    rw [hv.osl'] at h1; cases h1
    exact .inr ⟨k, es, clock, rfl, h2, h3, h4⟩
   ·cases h
  ·cases h
 ·cases h
def mapT' (P : Program) (t : TypeId) : Option (Nat × Nat) := match P.underlying t with
 | some (.map k e) => some (k, e)
 | _ => none
theorem mapT'_spec {t : TypeId} {k e : Nat} (h : mapT' P t = some (k, e)) : P.underlying t = some (.map k e) := by
 unfold mapT' at h
 split at h
 ·rename_i h1; cases h; exact h1
 ·cases h
def val1 : Value -> Option D
 | .int k n => some (.int k n)
 | .bool b => some (.bool b)
 | .string s => some (.str s)
 | .nilFunc => some .nilfn
 | .slice none 0 0 => some .nilsl
 | .map none => some .nilmap
 | .pointer none => some .nilptr
 | _ => none
def valL : List Value -> Option (List D)
 | [] => some []
 | v :: r => match val1 v, valL r with
  | some x, some l => some (x :: l)
  | _, _ => none
def valD : Value -> Option D
 | .agg cs => (valL cs.toList).map D.agg
 | v => val1 v
def zeroV (P : Program) (t : TypeId) : Option D := ((P.info? t).bind (·.zero)).bind valD
theorem val1_spec {w : World} {ok : Nat -> Prop} {v : Value} {x : D} (h : val1 v = some x) : Rd w ok x v /\ v.oneCell' = true := by
 unfold val1 at h
 split at h <;> first | (cases h; exact ⟨.int _ _, rfl⟩) | (cases h; exact ⟨.bool _, rfl⟩) | (cases h; exact ⟨.str _, rfl⟩) | (cases h; exact ⟨.nilfn, rfl⟩) | (cases h; exact ⟨.nilsl, rfl⟩) | (cases h; exact ⟨.nilmap, rfl⟩) | (cases h; exact ⟨.nilptr, rfl⟩) | cases h
theorem valL_spec {w : World} {ok : Nat -> Prop} : ∀ {vs : List Value} {xs : List D}, valL vs = some xs -> vs.length = xs.length /\ ∀ (i : Nat) (x : D) (v : Value), xs[i]? = some x -> vs[i]? = some v -> Rd w ok x v /\ v.oneCell' = true
 | [], xs, h => by cases h; exact ⟨rfl, fun i x v h => by simp at h⟩
 | v :: r, xs, h => by
  simp only [valL] at h
  cases h1 : val1 v with
  | none => rw [h1] at h; cases h
  | some x =>
   cases h2 : valL r with
   | none => rw [h1, h2] at h; cases h
   | some l =>
    rw [h1, h2] at h; cases h
    obtain ⟨g1, g2⟩ := valL_spec (w := w) (ok := ok) h2
    refine ⟨by simp [g1], fun i y u hy hu => ?_⟩
    match i, hy, hu with
    | 0, hy, hu => cases hy; cases hu; exact val1_spec h1
    | i + 1, hy, hu => exact g2 i y u (by simpa using hy) (by simpa using hu)
theorem valD_spec {w : World} {ok : Nat -> Prop} {v : Value} {x : D} (h : valD v = some x) : Rd w ok x v := by
 unfold valD at h
 split at h
 ·rename_i cs
  cases hl : valL cs.toList with
  | none => rw [hl] at h; cases h
  | some l =>
   rw [hl] at h; cases h
   obtain ⟨g1, g2⟩ := valL_spec (w := w) (ok := ok) hl
   refine .agg l cs (by simpa using g1) (fun i u hu => ?_) (fun i c u hc hu => (g2 i c u hc (by simpa using hu)).1)
   have hlt : i < l.length := by rw [<- g1]; have := (Array.getElem?_eq_some_iff.1 hu).1; simpa using this
   exact (g2 i l[i] u (by simp) (by simpa using hu)).2
 ·exact (val1_spec h).1
theorem run_zero {t : TypeId} {x : D} {w : World} (h : zeroV P t = some x) : ∃ z, (zeroValue t).run P w = .ok z w /\ ∀ ok, Rd w ok x z := by
 unfold zeroV at h
 cases hi : P.info? t with
 | none => rw [hi] at h; cases h
 | some it =>
  rw [hi] at h
  simp only [Option.bind_some] at h
  cases hz : it.zero with
  | none => rw [hz] at h; cases h
  | some z =>
   rw [hz] at h
   exact ⟨z, by simp [zeroValue, typeInfo, hi, hz, Result.andThen], fun ok => valD_spec h⟩
theorem New.obj {S : St} {M : Mp} {yl : Nat} {a : Act} {w : World} {id : Nat} {R : Row} {v : Value} {ob : Obj} {flat : List Value} (hr : Rel base S M yl a w) (hlive : R.live = true) (hb : ownB v = some w.heap.size) (h1 : v.oneCell' = true)
  (hown : ownsR (w.alloc ob) w.heap.size R.e R.sz R.nn v R.rows.length flat) (hc : RowCells (w.alloc ob) M.ok R.sz R.rows flat) : New M yl w [] [(id, R)] (.osl id) v (setν M id v) (w.alloc ob) where
 below := (Below.refl _ _).alloc (Nat.le_refl _) _
 lv := rfl
 rd := rfl
 ds := rfl
 μ _ _ := rfl
 ν x hx := by
  have : ¬ x = id := fun e => hx (by simp [keys, e])
  simp [setν, this]
 okm _ x := x
 okn _ x := .inl x
 res := .osl (by simp [setν]) h1
 heap := by
  refine ⟨fun b' B hB => (by cases hB), fun id' R' hR' => ?_, fun x y k hx hy => ?_⟩
  ·simp only [look] at hR'
   by_cases hbb : id = id'
   ·rw [if_pos hbb] at hR'; cases hR'; subst hbb
    refine ⟨v, flat, by simp [setν], hown, hc, fun _ e => (by rw [e] at hb; cases hb), fun k hk => ⟨fun _ hok => ?_, fun hf => by rw [hlive] at hf; cases hf⟩⟩
    rw [hb] at hk; cases hk
    exact absurd (hr.okLt _ hok) (Nat.lt_irrefl _)
   ·rw [if_neg hbb] at hR'; cases hR'
  ·cases x with
   | inl b => obtain ⟨⟨_, h⟩, _⟩ := hx; cases h
   | inr x =>
    cases y with
    | inl b => obtain ⟨⟨_, h⟩, _⟩ := hy; cases h
    | inr y =>
     obtain ⟨⟨_, hx⟩, _⟩ := hx
     obtain ⟨⟨_, hy⟩, _⟩ := hy
     simp only [look] at hx hy
     by_cases h1 : id = x
     ·by_cases h2 : id = y
      ·rw [<- h1, <- h2]
      ·rw [if_neg h2] at hy; cases hy
     ·rw [if_neg h1] at hx; cases hx
theorem free_makeMap {o : Oper} {S : St} {t : TypeId} {id : Nat} (ho : o.op = .makeMap t none) : Free P o S (.osl id) [] [(id, ⟨0, 0, [], true, true⟩)] :=
 free_run (by simp [ho]) fun base M yl a w hr => by
  refine ⟨.map (some w.heap.size), w.alloc (.map #[] 0), _, by simp [execOp, ho, Instr.makeMap, Result.andThen], New.obj (flat := []) hr rfl rfl rfl (.inr (.inl ⟨rfl, rfl, w.heap.size, #[], 0, rfl, Nat.le_refl _, (heap_alloc w _).1, rfl, ⟨fun i e h => by simp at h, fun i j e f h => by simp at h⟩, fun i e h => by simp at h⟩)) ⟨fun row h => (by cases h), fun i row j c h => by simp at h⟩⟩
def lkD (rows : List (List D)) (k z : D) : D := (mgetD rows k).getD z
def lkOk (rows : List (List D)) (k : D) : Bool := (mgetD rows k).isSome
def lkRes (comma : Bool) (x : D) (b : Bool) : AV := if comma then .tup [toAV x, .d (.bool b)] else toAV x
theorem run_lookup {t kt et : TypeId} {d : KeyT} {w : World} {ok : Nat -> Prop} {x k : Value} {rows : List (List D)} {kD z : D} {comma : Bool} (ht : mapT' P t = some (kt, et)) (hd : KeyOk P kt d) (hz : zeroV P et = some z) (hm : MapRel w ok x rows)
  (hkD : isKeyD d kD) (hk : Rd w ok kD k) (hks : keysD d rows) : ∃ u, (Instr.lookup t x k comma).run P w = .ok (if comma then .tuple #[u, .bool (lkOk rows kD)] else u) w /\ Rd w ok (lkD rows kD z) u := by
 obtain ⟨zv, hzr, hzd⟩ := run_zero (w := w) hz
 have hck := run_checkKeyD (P := P) hd hkD hk
 rcases hm with ⟨rfl, rfl⟩ | ⟨b, es, clock, rfl, hb, hst, hrel⟩
 ·have hf0 := run_findKeyD (P := P) (w := w) (es := []) (rows := []) hd hkD hk ⟨rfl, (fun _ h => by cases h), (fun _ _ _ _ h => by cases h)⟩ (fun _ h => by cases h)
  simp only [mpos, Option.bind_none] at hf0
  refine ⟨zv, ?_, hzd ok⟩
  simp [Instr.lookup, run_underlying (mapT'_spec ht), Result.andThen, hck, hf0, hzr, lkOk, mgetD, mpos]
 ·have hf := run_findKeyD (P := P) (w := w) hd hkD hk hrel hks
  cases hp : mpos kD rows with
  | none =>
   rw [hp] at hf
   refine ⟨zv, ?_, by simp only [lkD, mgetD, hp, Option.bind_none, Option.getD_none]; exact hzd ok⟩
   simp [Instr.lookup, run_underlying (mapT'_spec ht), Result.andThen, MapKept.run_getObj_map hb, hck, hf, hzr, lkOk, mgetD, hp]
  | some i =>
   rw [hp] at hf
   have hlt := mpos_lt hp
   have hrow : rows[i]? = some rows[i] := by simp [hlt]
   obtain ⟨kk, vv, hr2, _⟩ := hks rows[i] (List.getElem_mem hlt)
   rw [hr2] at hrow
   have hes : es.toList[i]? = some (es.toList[i]'(by rw [hrel.1]; exact hlt)) := List.getElem?_eq_getElem _
   generalize es.toList[i]'(by rw [hrel.1]; exact hlt) = e at hes
   simp only [Option.bind_some, hes, Option.map_some] at hf
   have hg : mgetD rows kD = some vv := by simp [mgetD, hp, hrow]
   refine ⟨e.val, ?_, by simp only [lkD, hg, Option.getD_some]; exact (hrel.2.2 i e kk vv hes hrow).2⟩
   simp [Instr.lookup, run_underlying (mapT'_spec ht), Result.andThen, MapKept.run_getObj_map hb, hck, hf, lkOk, hg]
theorem free_lookup {o : Oper} {S : St} {t kt et : TypeId} {d : KeyT} {x k : Operand} {c : AV} {rows : List (List D)} {kD z : D} {comma : Bool} (ho : o.op = .lookup t x k comma) (ht : mapT' P t = some (kt, et)) (hd : KeyOk P kt d) (hz : zeroV P et = some z)
  (hx : opnd S.T x = some c) (hm : mapRowsA S c = some rows) (hk : opnd S.T k = some (toAV kD)) (hrd : ∀ w ok μ ν yl v, RdA w ok μ ν yl (toAV kD) v -> Rd w ok kD v) (hkD : isKeyD d kD) (hks : keysD d rows) : Free P o S (lkRes comma (lkD rows kD z) (lkOk rows kD)) [] [] :=
 free_val (by simp [ho]) fun base M yl a w hr => by
  have h1 := mapRowsA_spec hr hm (hr.opnd hx)
  have h2 : Rd w M.ok kD (a.eval k) := hrd _ _ _ _ _ _ (hr.opnd hk)
  obtain ⟨u, g1, g2⟩ := run_lookup (comma := comma) ht hd hz h1 hkD h2 hks
  refine ⟨_, by simp only [execOp, ho, Sem.run_bind, g1, Result.andThen]; rfl, ?_⟩
  unfold lkRes
  cases comma with
  | false => exact toAV_spec g2
  | true =>
   refine .tup _ _ (by simp) (fun i c v hc hv => ?_)
   match i, hc, hv with
   | 0, hc, hv => cases hc; cases hv; exact toAV_spec g2
   | 1, hc, hv => cases hc; cases hv; exact .d (.bool _)
theorem free_lenMap {o : Oper} {S : St} {x : Operand} {t kt et : TypeId} {c : AV} {rows : List (List D)} {n : Int} (ho : o.op = .call { callee := .builtin .len, args := #[x], argTypes := #[t] }) (ht : mapT' P t = some (kt, et)) (hx : opnd S.T x = some c) (hm : mapRowsA S c = some rows)
  (hn : (rows.length : Int) = n) : Free P o S (.d (.int .i64 n)) [] [] :=
 free_val (by simp [ho]) fun base M yl a w hr => by
  subst hn
  rcases mapRowsA_spec hr hm (hr.opnd hx) with ⟨h1, rfl⟩ | ⟨b, es, clock, h1, hb, hst, hrel⟩
  ·exact ⟨_, by simp [execOp, ho, resolve, invoke, builtin, Builtin.len_, h1, run_underlying (mapT'_spec ht), Result.andThen, goInt], .d (.int _ _)⟩
  ·refine ⟨.int .i64 (es.size : Nat), by simp [execOp, ho, resolve, invoke, builtin, Builtin.len_, h1, run_underlying (mapT'_spec ht), Result.andThen, goInt, MapKept.run_getObj_map hb], ?_⟩
   have : es.size = rows.length := by simpa using hrel.1
   rw [this]; exact .d (.int _ _)
theorem Cfg.updRow {S : St} {s : E.σ} {M : Mp} {a : Act} {w w' : World} {id g : Nat} {R : Row} {v : Value} {rows : List (List D)} {flat : List Value} (h : Cfg E base S s M a w) (hR : look S.O id = some R) (hl : R.live = true) (hv : M.ν id = some v) (hg : ownB v = some g)
  (hos : w'.os = w.os) (htape : w'.tape = w.tape) (hout : w'.output = w.output) (hsz : w'.heap.size = w.heap.size) (hoth : ∀ k, k ≠ g -> w'.heap[k]? = w.heap[k]?)
  (hown : ownsR w' base R.e R.sz R.nn v rows.length flat) (hc : RowCells w' M.ok R.sz rows flat) : Cfg E base (putS S id R rows) s M a w' /\ Ext S M w (putS S id R rows) M w' := by
 have hr := h.rel
 obtain ⟨v0, flat0, r1, r2, r3, r4, r5⟩ := hr.heap.row id R hR
 rw [hv] at r1; cases r1
 have hat : At S.H S.O M (.inr id) g := ⟨⟨R, hR⟩, _, hv, hg⟩
 have hown0 : Own S M g := .inl ⟨.inr id, hat, R, hR, hl⟩
 have hnok : ¬ M.ok g := (r5 g hg).1 hl
 have hokw : ∀ k, M.ok k -> w'.heap[k]? = w.heap[k]? := fun k hk => hoth k (fun e => hnok (e ▸ hk))
 have hmono : ∀ {c u}, RdA w M.ok M.μ M.ν E.l c u -> RdA w' M.ok M.μ M.ν E.l c u := fun hu => hu.mono (fun _ x => x) hokw (fun _ _ => rfl) (fun _ _ => rfl)
 have hlk : ∀ b', look (putS S id R rows).O b' = if id = b' then some ⟨R.e, R.sz, rows, R.nn, true⟩ else look S.O b' := look_setA hR
 have hatS : ∀ x k, At (putS S id R rows).H (putS S id R rows).O M x k -> At S.H S.O M x k := by
  intro x k hx
  cases x with
  | inl b => exact hx
  | inr b =>
   obtain ⟨⟨B, hB⟩, u, hu, hk⟩ := hx
   rw [hlk] at hB
   by_cases e : id = b
   ·subst e; exact ⟨⟨R, hR⟩, u, hu, hk⟩
   ·rw [if_neg e] at hB; exact ⟨⟨B, hB⟩, u, hu, hk⟩
 have hlivS : ∀ x, Liv (putS S id R rows).H (putS S id R rows).O x -> Liv S.H S.O x := by
  intro x hx
  cases x with
  | inl b => exact hx
  | inr b =>
   obtain ⟨B, hB, hl'⟩ := hx
   rw [hlk] at hB
   by_cases e : id = b
   ·subst e; exact ⟨R, hR, hl⟩
   ·rw [if_neg e] at hB; exact ⟨B, hB, hl'⟩
 have hownS : ∀ k, Own (putS S id R rows) M k -> Own S M k := by
  rintro k (⟨x, hx, hl'⟩ | hd)
  ·exact .inl ⟨x, hatS x k hx, hlivS x hl'⟩
  ·exact .inr hd
 refine ⟨⟨⟨by rw [hsz]; exact hr.lo, hr.size, ?_, ⟨?_, ?_, ?_⟩, ?_, hr.dfr, ?_, hr.dsN⟩, ?_, h.okLv, fun k hk => h.own k (hownS k hk), h.okDom, h.bDom⟩,
  ⟨hos, htape, hout, Nat.le_of_eq hsz.symm, ?_, fun k _ hk => hownS k hk, fun _ x => x, fun _ _ x => .inl x, fun _ _ x => x, Nat.le_refl _, fun _ _ => rfl, fun _ _ x => .inl x, fun _ _ => rfl⟩⟩
 ·intro t c ht
  obtain ⟨u, h1, h2⟩ := hr.tmp t c ht
  exact ⟨u, h1, hmono h2⟩
 ·intro b B hB
  obtain ⟨k, vs, e1, e2, e3, e4, e5, e6, e7, e8⟩ := hr.heap.blk b B hB
  have hk : k ≠ g := fun e => by
   subst e
   have := hr.heap.inj (.inl b) (.inr id) k ⟨⟨B, hB⟩, e1⟩ hat
   cases this
  exact ⟨k, vs, e1, e2, (hoth k hk).trans e3, e4, fun i c u hc hu => hmono (e5 i c u hc hu), e6, e7, e8⟩
 ·intro id' R' hR'
  rw [hlk] at hR'
  by_cases e : id = id'
  ·subst e
   rw [if_pos rfl] at hR'; cases hR'
   exact ⟨v, flat, hv, hown, hc, r4, fun k hk => ⟨fun _ hok => by rw [hg] at hk; cases hk; exact hnok hok, fun hf => by cases hf⟩⟩
  ·rw [if_neg e] at hR'
   obtain ⟨u, fl, e1, e2, e3, e4, e5⟩ := hr.heap.row id' R' hR'
   refine ⟨u, fl, e1, ownsR_same e2 e3 hokw (fun k hk => hoth k (fun ek => ?_)), e3.mono (fun _ x => x) hokw, e4, e5⟩
   subst ek
   have := hr.heap.inj (.inr id') (.inr id) k ⟨⟨R', hR'⟩, u, e1, hk⟩ hat
   simp only [Sum.inr.injEq] at this; exact e this.symm
 ·intro x y k hx hy
  exact hr.heap.inj x y k (hatS x k hx) (hatS y k hy)
 ·intro k hk; rw [hsz]; exact hr.okLt k hk
 ·intro D hD
  obtain ⟨h1, h2, h3⟩ := hr.dsOk D hD
  refine ⟨h1, (hoth D (fun e => ?_)).trans h2, h3⟩
  subst e
  obtain ⟨_, _, ob, he, ho⟩ := hr.heap.at_lt hat
  rw [h2] at he; cases he; cases ho
 ·refine E.frame _ _ _ _ _ h.j (fun k hk => hoth k (fun e => ?_)) (Nat.le_of_eq hsz.symm)
  subst e
  exact hk.elim (h.own k hown0).1 (h.own k hown0).2
 ·exact fun k _ hno _ => hoth k (fun e => hno (e ▸ hown0))
theorem flatE_get : ∀ {l : List MapEntry} {i : Nat} {e : MapEntry}, l[i]? = some e -> (flatE l)[i * 2]? = some e.key /\ (flatE l)[i * 2 + 1]? = some e.val
 | [], i, e, h => by simp at h
 | x :: r, 0, e, h => by cases h; exact ⟨rfl, rfl⟩
 | x :: r, i + 1, e, h => by
  have := flatE_get (l := r) (i := i) (e := e) (by simpa using h)
  rw [show (i + 1) * 2 = i * 2 + 2 from by omega, show i * 2 + 2 + 1 = (i * 2 + 1) + 2 from by omega]
  simpa [flatE] using this
theorem rowCells_ents {w : World} {ok : Nat -> Prop} {es : List MapEntry} {rows : List (List D)} (h : EntsRel w ok es rows) : RowCells w ok 0 rows (flatE es) := by
 refine ⟨h.2.1, fun i row j c hi hj => ?_⟩
 have h2 := h.2.1 row (List.mem_of_getElem? hi)
 have hil := (List.getElem?_eq_some_iff.1 hi).1
 have he : es[i]? = some (es[i]'(by rw [h.1]; exact hil)) := List.getElem?_eq_getElem _
 generalize es[i]'(by rw [h.1]; exact hil) = e at he
 obtain ⟨f1, f2⟩ := flatE_get he
 match row, h2, hi, hj with
 | [k, v], _, hi, hj =>
  obtain ⟨r1, r2⟩ := h.2.2 i e k v he hi
  match j, hj with
  | 0, hj => cases hj; exact ⟨_, f1, r1, fun h => by omega⟩
  | 1, hj => cases hj; exact ⟨_, f2, r2, fun h => by omega⟩
theorem EntsRel.mono {w w' : World} {ok : Nat -> Prop} {es : List MapEntry} {rows : List (List D)} (h : EntsRel w ok es rows) (hw : ∀ k, ok k -> w'.heap[k]? = w.heap[k]?) : EntsRel w' ok es rows :=
 ⟨h.1, h.2.1, fun i e k v he hr => let ⟨a, b⟩ := h.2.2 i e k v he hr; ⟨a.mono (fun _ x => x) hw, b.mono (fun _ x => x) hw⟩⟩
theorem EntsRel.set {w : World} {ok : Nat -> Prop} {es : List MapEntry} {rows : List (List D)} {i : Nat} {e : MapEntry} {k v : D} (h : EntsRel w ok es rows) (hk : Rd w ok k e.key) (hv : Rd w ok v e.val) : EntsRel w ok (es.set i e) (rows.set i [k, v]) := by
 refine ⟨by simp [h.1], fun row hr => ?_, fun j e' k' v' h1 h2 => ?_⟩
 ·rcases List.mem_or_eq_of_mem_set hr with hm | rfl
  ·exact h.2.1 row hm
  ·rfl
 ·rw [List.getElem?_set] at h1 h2
  by_cases hij : i = j
  ·subst hij
   rw [if_pos rfl] at h1 h2
   split at h1
   ·rename_i hlt
    rw [if_pos (by rw [<- h.1]; exact hlt)] at h2
    cases h1; cases h2; exact ⟨hk, hv⟩
   ·cases h1
  ·rw [if_neg hij] at h1 h2; exact h.2.2 j e' k' v' h1 h2
theorem EntsRel.push {w : World} {ok : Nat -> Prop} {es : List MapEntry} {rows : List (List D)} {e : MapEntry} {k v : D} (h : EntsRel w ok es rows) (hk : Rd w ok k e.key) (hv : Rd w ok v e.val) : EntsRel w ok (es ++ [e]) (rows ++ [[k, v]]) := by
 refine ⟨by simp [h.1], fun row hr => ?_, fun j e' k' v' h1 h2 => ?_⟩
 ·rcases List.mem_append.1 hr with hm | hm
  ·exact h.2.1 row hm
  ·simp at hm; subst hm; rfl
 ·by_cases hj : j < es.length
  ·rw [List.getElem?_append_left hj] at h1
   rw [List.getElem?_append_left (by rw [<- h.1]; exact hj)] at h2
   exact h.2.2 j e' k' v' h1 h2
  ·rw [List.getElem?_append_right (by omega)] at h1
   rw [List.getElem?_append_right (by rw [<- h.1]; omega), <- h.1] at h2
   cases hq : j - es.length with
   | zero => rw [hq] at h1 h2; cases h1; cases h2; exact ⟨hk, hv⟩
   | succ n => rw [hq] at h1; simp at h1
theorem EntsRel.erase {w : World} {ok : Nat -> Prop} {es : List MapEntry} {rows : List (List D)} {i : Nat} (h : EntsRel w ok es rows) : EntsRel w ok (es.eraseIdx i) (rows.eraseIdx i) := by
 refine ⟨by simp [List.length_eraseIdx, h.1], fun row hr => h.2.1 row (List.mem_of_mem_eraseIdx hr), fun j e' k' v' h1 h2 => ?_⟩
 rw [List.getElem?_eraseIdx] at h1 h2
 split at h1
 ·rename_i hlt; rw [if_pos hlt] at h2; exact h.2.2 _ e' k' v' h1 h2
 ·rename_i hlt; rw [if_neg hlt] at h2; exact h.2.2 _ e' k' v' h1 h2
theorem Cfg.updMap {S : St} {s : E.σ} {M : Mp} {a : Act} {w : World} {id g : Nat} {R : Row} {es es' : Array MapEntry} {clock clock' : Nat} {rows : List (List D)} (h : Cfg E base S s M a w) (hR : look S.O id = some R) (hs : R.sz = 0) (hn : R.nn = true) (hl : R.live = true)
  (hv : M.ν id = some (.map (some g))) (hb : w.heap[g]? = some (.map es clock)) (hst : Stamps es' clock') (hrel : EntsRel w M.ok es'.toList rows) :
  let w' : World := { w with heap := w.heap.setIfInBounds g (.map es' clock') }
  Cfg E base (putS S id R rows) s M a w' /\ Ext S M w (putS S id R rows) M w' := by
 intro w'
 have hlt := (Array.getElem?_eq_some_iff.1 hb).1
 obtain ⟨hset, hoth⟩ := heap_set (o' := .map es' clock') hb
 obtain ⟨v0, flat0, r1, r2, r3, r4, r5⟩ := h.rel.heap.row id R hR
 rw [hv] at r1; cases r1
 have hnok : ¬ M.ok g := (r5 g rfl).1 hl
 have hok : ∀ k, M.ok k -> w'.heap[k]? = w.heap[k]? := fun k hk => hoth k (fun e => hnok (e ▸ hk))
 have hlo : base <= g := (r2.at rfl).1
 refine h.updRow (flat := flatE es'.toList) hR hl hv rfl rfl rfl rfl (by show (w.heap.setIfInBounds g _).size = _; simp) hoth ?_ ?_
 ·rw [hs, hn]
  refine .inr (.inl ⟨rfl, rfl, g, es', clock', rfl, hlo, hset, by have := hrel.1; simpa using this, hst, fun i e he => ?_⟩)
  exact flatE_get (by simpa using he)
 ·rw [hs]; exact rowCells_ents (hrel.mono hok)
theorem stamps_push {es : Array MapEntry} {clock : Nat} {k v : Value} (h : Stamps es clock) : Stamps (es.push { key := k, val := v, born := clock }) (clock + 1) := by
 refine ⟨fun i e hi => ?_, fun i j e f hi hj he => ?_⟩
 ·rw [Array.getElem?_push] at hi
  split at hi
  ·cases hi; exact Nat.lt_succ_self _
  ·have := h.1 i e hi; omega
 ·rw [Array.getElem?_push] at hi hj
  split at hi <;> split at hj
  ·omega
  ·cases hi; have := h.1 j f hj; simp only at he; omega
  ·cases hj; have := h.1 i e hi; simp only at he; omega
  ·exact h.2 i j e f hi hj he
theorem stamps_modify {es : Array MapEntry} {clock i : Nat} {f : MapEntry -> MapEntry} (h : Stamps es clock) (hf : ∀ e, (f e).born = e.born) : Stamps (es.modify i f) clock := by
 have key : ∀ (j : Nat) (e : MapEntry), (es.modify i f)[j]? = some e -> ∃ e0, es[j]? = some e0 /\ e.born = e0.born := by
  intro j e hj
  rw [Array.getElem?_modify] at hj
  split at hj
  ·cases hh : es[j]? with
   | none => rw [hh] at hj; cases hj
   | some e0 => rw [hh] at hj; cases hj; exact ⟨e0, rfl, hf e0⟩
  ·exact ⟨e, hj, rfl⟩
 refine ⟨fun j e hj => ?_, fun j j' e e' hj hj' he => ?_⟩
 ·obtain ⟨e0, h1, h2⟩ := key j e hj; rw [h2]; exact h.1 j e0 h1
 ·obtain ⟨e0, h1, h2⟩ := key j e hj
  obtain ⟨e1, h3, h4⟩ := key j' e' hj'
  exact h.2 j j' e0 e1 h1 h3 (by rw [<- h2, <- h4]; exact he)
theorem bar_mapUpdate {o : Oper} {S : St} {s : E.σ} {t kt et : TypeId} {d : KeyT} {m k x : Operand} {id : Nat} {R : Row} {kD vD : D} (ho : o.op = .mapUpdate t m k x) (hdst : o.dst = none) (ht : mapT' P t = some (kt, et)) (hd : KeyOk P kt d)
  (hm : opnd S.T m = some (.osl id)) (hR : look S.O id = some R) (hs : R.sz = 0) (hn : R.nn = true) (hl : R.live = true) (hk : ∀ w ok μ ν yl v, RdA w ok μ ν yl (toAV kD) v -> Rd w ok kD v) (hk' : opnd S.T k = some (toAV kD)) (hkD : isKeyD d kD) (hks : keysD d R.rows)
  {c : AV} (hx : opnd S.T x = some c) (hc : ∀ w ok μ ν yl v, RdA w ok μ ν yl c v -> Rd w ok vD v) : Bar E o S s (putS S id R (msetD R.rows kD vD)) s :=
 bar_run (by simp [ho]) hdst fun base M a w hcfg => by
  have hr := hcfg.rel
  have h1 := (hr.opnd hm).osl'
  have hkr := hk _ _ _ _ _ _ (hr.opnd hk')
  have hvr := hc _ _ _ _ _ _ (hr.opnd hx)
  have hck := run_checkKeyD (P := P) hd hkD hkr
  obtain ⟨b, es, clock, hv, hlo, hb, hst, hrel⟩ := mapRel_own (hr.heap.row id R hR) hs hn
  rw [hv] at h1
  have hem : a.eval m = .map (some b) := (Option.some.inj h1).symm
  have hf := run_findKeyD (P := P) (w := w) hd hkD hkr hrel hks
  cases hp : mpos kD R.rows with
  | none =>
   rw [hp] at hf
   have hrel' : EntsRel w M.ok (es.push { key := a.eval k, val := a.eval x, born := clock }).toList (R.rows ++ [[kD, vD]]) := by
    rw [Array.toList_push]; exact hrel.push hkr hvr
   have := hcfg.updMap hR hs hn hl hv hb (stamps_push hst) hrel'
   refine ⟨_, M, ?_, by simp only [msetD, hp]; exact this.1, by simp only [msetD, hp]; exact this.2⟩
   simp [execOp, ho, Instr.mapUpdate, hem, run_underlying (mapT'_spec ht), Result.andThen, MapKept.run_getObj_map hb, hck, hf, run_setObj_map _ hb]
  | some i =>
   rw [hp] at hf
   have hlt := mpos_lt hp
   obtain ⟨kk, vv, hr2, hkk⟩ := hks R.rows[i] (List.getElem_mem hlt)
   have hrow : R.rows[i]? = some [kk, vv] := by rw [<- hr2]; simp [hlt]
   have hes : es.toList[i]? = some (es.toList[i]'(by rw [hrel.1]; exact hlt)) := List.getElem?_eq_getElem _
   generalize es.toList[i]'(by rw [hrel.1]; exact hlt) = e at hes
   simp only [Option.bind_some, hes, Option.map_some] at hf
   have hsame := mpos_same hp hrow
   have hke : kD = kk := (dsame_iff hkD hkk).1 hsame
   have hkey : e.key = a.eval k := by
    have r1 := (hrel.2.2 i e kk vv hes hrow).1
    rw [<- hke] at r1
    exact key_val hkD r1 hkr
   have hes' : es[i]? = some e := by simpa using hes
   have hst' : Stamps (es.modify i fun e => { e with key := a.eval k, val := a.eval x }) clock := stamps_modify hst (fun e => rfl)
   have hmod : (es.modify i fun e => { e with key := a.eval k, val := a.eval x }).toList = es.toList.set i { e with key := a.eval k, val := a.eval x } := by
    apply List.ext_getElem?
    intro j
    rw [Array.getElem?_toList, Array.getElem?_modify, List.getElem?_set]
    by_cases hij : i = j
    ·subst hij
     have hl2 : i < es.size := (Array.getElem?_eq_some_iff.1 hes').1
     rw [if_pos rfl, if_pos rfl, hes', if_pos (by simpa using hl2)]; rfl
    ·rw [if_neg hij, if_neg hij, Array.getElem?_toList]
   have hrel' : EntsRel w M.ok (es.modify i fun e => { e with key := a.eval k, val := a.eval x }).toList (R.rows.set i [kD, vD]) := by
    rw [hmod]; exact hrel.set hkr hvr
   have := hcfg.updMap hR hs hn hl hv hb hst' hrel'
   refine ⟨_, M, ?_, by simp only [msetD, hp]; exact this.1, by simp only [msetD, hp]; exact this.2⟩
   simp [execOp, ho, Instr.mapUpdate, hem, run_underlying (mapT'_spec ht), Result.andThen, MapKept.run_getObj_map hb, hck, hf, run_setObj_map _ hb, hes', hkey, run_keyStaysD hkD hkr]
theorem stamps_nodup {es : Array MapEntry} {clock : Nat} (h : Stamps es clock) : (es.toList.map (·.born)).Nodup := by
 rw [List.Nodup, List.pairwise_iff_getElem]
 intro i j hi hj hij he
 simp only [List.length_map, Array.length_toList] at hi hj
 simp only [List.getElem_map, Array.getElem_toList] at he
 have := h.2 i j es[i] es[j] (by simp [hi]) (by simp [hj]) he
 omega
theorem filter_born : ∀ {L : List MapEntry} {i : Nat} {e : MapEntry}, (L.map (·.born)).Nodup -> L[i]? = some e -> L.filter (fun x => !(x.born == e.born)) = L.eraseIdx i
 | [], i, e, hn, h => by simp at h
 | x :: r, 0, e, hn, h => by
  simp only [List.getElem?_cons_zero, Option.some.injEq] at h
  subst h
  rw [List.map_cons, List.nodup_cons] at hn
  rw [List.filter_cons, if_neg (by simp)]
  simp only [List.eraseIdx_cons_zero]
  rw [List.filter_eq_self]
  intro y hy
  have : y.born ≠ x.born := fun e => hn.1 (by rw [<- e]; exact List.mem_map_of_mem hy)
  simpa using this
 | x :: r, i + 1, e, hn, h => by
  rw [List.map_cons, List.nodup_cons] at hn
  have he : r[i]? = some e := by simpa using h
  have : x.born ≠ e.born := fun hh => hn.1 (by rw [hh]; exact List.mem_map_of_mem (List.mem_of_getElem? he))
  rw [List.filter_cons, if_pos (by simpa using this), filter_born hn.2 he]
  rfl
theorem left_push {es : List MapEntry} {seen : Array Nat} {i : Nat} {e : MapEntry} (hn : (es.map (·.born)).Nodup) (h : (es.filter fun x => !seen.contains x.born)[i]? = some e) :
  (es.filter fun x => !(seen.push e.born).contains x.born) = (es.filter fun x => !seen.contains x.born).eraseIdx i := by
 rw [<- filter_born (List.Nodup.sublist (List.filter_sublist.map _) hn) h, List.filter_filter]
 apply List.filter_congr
 intro x hx
 simp only [Array.contains_push]
 cases seen.contains x.born <;> cases h : x.born == e.born <;> simp_all
theorem iter_own {w : World} {lo : Nat} {M : Mp} {id : Nat} {R : Row} {m rest : List (List D)} {b : Bool} (h : RowOk lo M w id R) (hs : R.sz = 0) (hn : R.nn = false) (hrows : R.rows = [.map m, .bool b] :: rest) :
  ∃ k km es clock seen last, M.ν id = some (.pointer (some ⟨k, 0, none⟩)) /\ lo <= k /\ w.heap[k]? = some (.mapIter (some km) clock seen clock) /\ w.heap[km]? = some (.map es clock) /\ M.ok km /\ Stamps es clock /\ Rd w M.ok (.map m) (.map (some km)) /\ b = (!last.isEmpty) /\
   EntsRel w M.ok (last ++ es.toList.filter fun e => !seen.contains e.born) rest /\ last.length <= 1 /\ ∀ e ∈ last, seen.back? = some e.born /\ e ∈ es.toList := by
 obtain ⟨v, flat, h1, h2, h3, h4, h5⟩ := h
 rcases h2 with ⟨h2, _⟩ | ⟨_, h2, _⟩ | ⟨_, _, h2⟩
 ·omega
 ·rw [hn] at h2; cases h2
 rw [hs, hrows] at h3
 rw [hrows] at h2
 rcases h2 with ⟨k, s, p, rfl, g1, g2, g3, rfl⟩ | ⟨k, km, es, clock, seen, last, rfl, g1, g2, g3, rfl, g4, g5, g6, g7⟩
 ·exfalso
  obtain ⟨x, x1, x2, _⟩ := h3.2 0 _ 0 (.map m) rfl rfl
  simp [wd] at x1; subst x1; cases x2
 ·have hok := iter_ok (n := rest.length) h3 rfl
  obtain ⟨x, x1, x2, _⟩ := h3.2 0 _ 0 (.map m) rfl rfl
  obtain ⟨y, y1, y2, _⟩ := h3.2 0 _ 1 (.bool b) rfl rfl
  simp [wd] at x1 y1
  subst x1 y1
  have hb : b = (!last.isEmpty) := by cases y2; simp
  refine ⟨k, km, es, clock, seen, last, h1, g1, g2, g4, hok, g5, x2, hb, ⟨?_, fun row hr => h3.1 row (by simp [hr]), fun i e kk vv he hr => ?_⟩, g6, g7⟩
  ·simp only [List.length_cons] at g3; omega
  ·obtain ⟨f1, f2⟩ := flatE_get he
   obtain ⟨x, x1, x2, _⟩ := h3.2 (i + 1) _ 0 kk (by simpa using hr) rfl
   obtain ⟨y, y1, y2, _⟩ := h3.2 (i + 1) _ 1 vv (by simpa using hr) rfl
   simp only [wd] at x1 y1
   rw [show (i + 1) * 2 + 0 = i * 2 + 2 from by omega] at x1
   rw [show (i + 1) * 2 + 1 = i * 2 + 1 + 2 from by omega] at y1
   simp only [List.getElem?_cons_succ] at x1 y1
   rw [f1] at x1; rw [f2] at y1
   cases x1; cases y1
   exact ⟨x2, y2⟩
theorem free_range {o : Oper} {S : St} {t kt et : TypeId} {x : Operand} {rows : List (List D)} {id : Nat} (ho : o.op = .range t x) (ht : mapT' P t = some (kt, et)) (hx : opnd S.T x = some (.d (.map rows))) :
  Free P o S (.osl id) [] [(id, ⟨0, 0, [.map rows, .bool false] :: rows, false, true⟩)] :=
 free_run (by simp [ho]) fun base M yl a w hr => by
  have hv := hr.opnd hx
  have hrd : Rd w M.ok (.map rows) (a.eval x) := by cases hv with | d h => exact h
  rcases mapRel_d hv with ⟨h1, _⟩ | ⟨b, es, clock, h1, hb, hst, hrel⟩
  ·rw [h1] at hrd; cases hrd
  have hok : M.ok b := by rw [h1] at hrd; cases hrd with | map _ _ _ _ _ hok => exact hok
  have hblt : b < w.heap.size := hr.okLt b hok
  have hw : ∀ k, M.ok k -> (w.alloc (.mapIter (some b) clock #[] clock)).heap[k]? = w.heap[k]? := fun k hk => (heap_alloc w _).2 k (hr.okLt k hk)
  have hfil : (es.toList.filter fun e => !(#[] : Array Nat).contains e.born) = es.toList := by rw [List.filter_eq_self]; simp
  refine ⟨.pointer (some ⟨w.heap.size, 0, none⟩), w.alloc (.mapIter (some b) clock #[] clock), _, by simp [execOp, ho, Instr.range, run_underlying (mapT'_spec ht), h1, MapKept.run_getObj_map hb, Result.andThen],
   New.obj (flat := .map (some b) :: .bool false :: flatE es.toList) hr rfl rfl rfl (.inr (.inr ⟨rfl, rfl, .inr ⟨w.heap.size, b, es, clock, #[], [], rfl, Nat.le_refl _, (heap_alloc w _).1, ?_, ?_, ?_, hst, by simp, fun e h => (by cases h)⟩⟩)) ⟨?_, ?_⟩⟩
  ·rw [hfil]; have := hrel.1; simp at this ⊢; omega
  ·rw [hfil]; rfl
  ·exact ((heap_alloc w _).2 b hblt).trans hb
  ·intro row hr'
   rcases List.mem_cons.1 hr' with rfl | hr'
   ·rfl
   ·exact hrel.2.1 row hr'
  ·intro i row j c hi hj
   cases i with
   | zero =>
    cases hi
    match j, hj with
    | 0, hj => cases hj; exact ⟨_, rfl, by rw [<- h1]; exact hrd.mono (fun _ x => x) hw, fun h => by simp at h⟩
    | 1, hj => cases hj; exact ⟨_, rfl, .bool _, fun h => by simp at h⟩
   | succ i =>
    obtain ⟨y, y1, y2, y3⟩ := (rowCells_ents (hrel.mono hw)).2 i row j c (by simpa using hi) hj
    refine ⟨y, ?_, y2, y3⟩
    simp only [wd] at y1 ⊢
    rw [show (i + 1) * 2 + j = i * 2 + j + 2 from by omega]
    simpa using y1
theorem bar_entry {o : Oper} {S : St} {s : E.σ} {x : Operand} {id : Nat} {R : Row} {m rest : List (List D)} {k v : D} (ho : o.op = .entry x) (hx : opnd S.T x = some (.osl id)) (hR : look S.O id = some R) (hs : R.sz = 0) (hn : R.nn = false) (hl : R.live = true) (hrows : R.rows = [.map m, .bool true] :: [k, v] :: rest)
  (hd : dstOk S o.dst = true) : Bar E o S s ((putS S id R ([.map m, .bool false] :: rest)).add o.dst (.tup [toAV k, toAV v]) [] []) s :=
 bar_val (by simp [ho]) fun base M a w hc => by
  have hr := hc.rel
  obtain ⟨kb, km, es, clock, seen, last, h1, h2, h3, h4, h5, h6, h7, h8, h9, h10, h11⟩ := iter_own (hr.heap.row id R hR) hs hn hrows
  have hx' := (hr.opnd hx).osl'
  rw [h1] at hx'
  have he : a.eval x = .pointer (some ⟨kb, 0, none⟩) := (Option.some.inj hx').symm
  match last, h8, h9, h10, h11 with
  | [e], _, h9, _, h11 =>
   obtain ⟨hb, hmem⟩ := h11 e (by simp)
   obtain ⟨s', hs'⟩ := Array.back?_eq_some_iff.1 hb
   have hrun := run_entry_at (P := P) w kb km clock s' es clock e (by rw [<- hs']; exact h3) h4 hmem (stamps_nodup h6)
   obtain ⟨r1, r2⟩ := h9.2.2 0 e k v rfl rfl
   have hrel : EntsRel w M.ok (es.toList.filter fun x => !seen.contains x.born) rest := by
    refine ⟨by have := h9.1; simp only [List.singleton_append, List.length_cons] at this; omega, fun row hr => h9.2.1 row (by simp [hr]), fun i e' k' v' hi hr => h9.2.2 (i + 1) e' k' v' (by simpa using hi) (by simpa using hr)⟩
   have hcr := rowCells_ents hrel
   obtain ⟨c1, x1⟩ := hc.updRow (w' := w) (rows := [.map m, .bool false] :: rest) (flat := .map (some km) :: .bool false :: flatE (es.toList.filter fun x => !seen.contains x.born)) hR hl h1 rfl rfl rfl rfl rfl (fun _ _ => rfl)
    (by
     rw [hs, hn]
     refine .inr (.inr ⟨rfl, rfl, .inr ⟨kb, km, es, clock, seen, [], rfl, h2, h3, ?_, rfl, h4, h6, by simp, fun e' he' => (by cases he')⟩⟩)
     have := hrel.1; simp only [List.nil_append, List.length_cons] at this ⊢; omega)
    (by
     rw [hs]
     refine ⟨fun row hr => ?_, fun i' row j c hi' hj => ?_⟩
     ·rcases List.mem_cons.1 hr with rfl | hr
      ·rfl
      ·exact hcr.1 row hr
     ·cases i' with
      | zero =>
       cases hi'
       match j, hj with
       | 0, hj => cases hj; exact ⟨_, rfl, h7, fun h => by simp at h⟩
       | 1, hj => cases hj; exact ⟨_, rfl, .bool _, fun h => by simp at h⟩
      | succ i' =>
       obtain ⟨y, y1, y2, y3⟩ := hcr.2 i' row j c (by simpa using hi') hj
       refine ⟨y, ?_, y2, y3⟩
       simp only [wd] at y1 ⊢
       rw [show (i' + 1) * 2 + j = i' * 2 + j + 2 from by omega]
       simpa using y1)
   have hnew : New M E.l w [] [] (.tup [toAV k, toAV v]) (.tuple #[e.key, e.val]) M w := New.plain (.tup _ _ (by simp) (fun i c u hc hu => by
    match i, hc, hu with
    | 0, hc, hu => cases hc; cases hu; exact toAV_spec r1
    | 1, hc, hu => cases hc; cases hu; exact toAV_spec r2))
   obtain ⟨c2, x2⟩ := c1.new (dst := o.dst) hnew (fresh_nil _) (by cases hdd : o.dst with | none => rfl | some t => rw [hdd] at hd; exact hd)
   exact ⟨_, _, _, by simp only [execOp, ho, Sem.run_bind, he, hrun, Result.andThen]; rfl, c2, x1.trans x2⟩
theorem stamps_erase {es : Array MapEntry} {clock i : Nat} (h : Stamps es clock) (hi : i < es.size) : Stamps (es.eraseIdx i hi) clock := by
 refine ⟨fun j e hj => ?_, fun j j' e e' hj hj' he => ?_⟩
 ·rw [Array.getElem?_eraseIdx] at hj
  split at hj <;> exact h.1 _ e hj
 ·rw [Array.getElem?_eraseIdx] at hj hj'
  split at hj <;> split at hj'
  ·exact h.2 _ _ e e' hj hj' he
  ·have := h.2 _ _ e e' hj hj' he; omega
  ·have := h.2 _ _ e e' hj hj' he; omega
  ·have := h.2 _ _ e e' hj hj' he; omega
theorem bar_delete {o : Oper} {S : St} {s : E.σ} {t t' kt et : TypeId} {d : KeyT} {m k : Operand} {id : Nat} {R : Row} {kD : D} (ho : o.op = .call { callee := .builtin .delete, args := #[m, k], argTypes := #[t, t'] }) (ht : mapT' P t = some (kt, et)) (hd : KeyOk P kt d)
  (hm : opnd S.T m = some (.osl id)) (hR : look S.O id = some R) (hs : R.sz = 0) (hn : R.nn = true) (hl : R.live = true) (hk' : opnd S.T k = some (.d kD)) (hkD : isKeyD d kD) (hks : keysD d R.rows) (hdst : dstOk S o.dst = true) :
  Bar E o S s ((putS S id R (mdelD R.rows kD)).add o.dst (.tup []) [] []) s :=
 bar_val (by simp [ho]) fun base M a w hcfg => by
  have hr := hcfg.rel
  have h1 := (hr.opnd hm).osl'
  have hkr : Rd w M.ok kD (a.eval k) := by cases hr.opnd hk' with | d h => exact h
  have hck := run_checkKeyD (P := P) hd hkD hkr
  obtain ⟨b, es, clock, hv, hlo, hb, hst, hrel⟩ := mapRel_own (hr.heap.row id R hR) hs hn
  rw [hv] at h1
  have hem : a.eval m = .map (some b) := (Option.some.inj h1).symm
  have hf := run_findKeyD (P := P) (w := w) hd hkD hkr hrel hks
  have fin : ∀ (rows : List (List D)) (w' : World), Cfg E base (putS S id R rows) s M a w' -> Ext S M w (putS S id R rows) M w' -> ∃ M', Cfg E base ((putS S id R rows).add o.dst (.tup []) [] []) s M' (a.put o.dst (.tuple #[])) w' /\ Ext S M w ((putS S id R rows).add o.dst (.tup []) [] []) M' w' := fun rows w' c1 x1 => by
   have hnew : New M E.l w' [] [] (.tup []) (.tuple #[]) M w' := New.plain (.tup _ _ rfl (fun i c u hc hu => by simp at hc))
   obtain ⟨c2, x2⟩ := c1.new (dst := o.dst) hnew (fresh_nil _) (by cases hdd : o.dst with | none => rfl | some t => rw [hdd] at hdst; exact hdst)
   exact ⟨M, c2, x1.trans x2⟩
  cases hp : mpos kD R.rows with
  | none =>
   rw [hp] at hf
   have := hcfg.updMap hR hs hn hl hv hb hst hrel
   obtain ⟨M', c1, x1⟩ := fin _ _ this.1 this.2
   simp only [mdelD, hp]
   refine ⟨_, _, M', ?_, c1, x1⟩
   simp [execOp, ho, resolve, invoke, builtin, Builtin.delete_, hem, run_underlying (mapT'_spec ht), Result.andThen, MapKept.run_getObj_map hb, hck, hf, run_setObj_map _ hb]
  | some i =>
   rw [hp] at hf
   have hlt := mpos_lt hp
   have hes : es.toList[i]? = some (es.toList[i]'(by rw [hrel.1]; exact hlt)) := List.getElem?_eq_getElem _
   generalize es.toList[i]'(by rw [hrel.1]; exact hlt) = e at hes
   simp only [Option.bind_some, hes, Option.map_some] at hf
   have hi : i < es.size := by have := hrel.1; simp at this; omega
   have hrel' : EntsRel w M.ok (es.eraseIdx i hi).toList (R.rows.eraseIdx i) := by
    rw [Array.toList_eraseIdx]; exact hrel.erase
   have := hcfg.updMap hR hs hn hl hv hb (stamps_erase hst hi) hrel'
   obtain ⟨M', c1, x1⟩ := fin _ _ this.1 this.2
   simp only [mdelD, hp]
   refine ⟨_, _, M', ?_, c1, x1⟩
   simp [execOp, ho, resolve, invoke, builtin, Builtin.delete_, hem, run_underlying (mapT'_spec ht), Result.andThen, MapKept.run_getObj_map hb, hck, hf, run_setObj_map _ hb, Array.eraseIdxIfInBounds, hi]
def BarN (E : Env P) (o : Oper) (S : St) (s : E.σ) (G : St -> E.σ -> Prop) : Prop :=
 ∀ (r : Option Nat) (base : Nat) (M : Mp) (a : Act) (w : World), Cfg E base S s M a w -> ∀ (K : Act -> World -> Prop) (Q : Exit -> Act -> World -> Prop),
  (∀ v w' M' S' s', G S' s' -> Cfg E base S' s' M' (a.put o.dst v) w' -> Ext S M w S' M' w' -> K (a.put o.dst v) w') -> o.wpIn (FW r) 0 P a w K Q
theorem AWO_barN {ops : Array Oper} {i : Nat} {rest : List Nat} {S : St} {s : E.σ} {G : St -> E.σ -> Prop} {Q : Exit -> St -> E.σ -> Prop} {o : Oper} (ho : ops[i]? = some o) (hg : guardB ops S.T o = some true) (hb : BarN E o S s G)
  (h : ∀ S' s', G S' s' -> AWO E base r ops rest S' s' Q) : AWO E base r ops (i :: rest) S s Q := by
 intro M a w hc
 simp only [wpOpsIn, ho, guardB_spec hg hc.rel, if_true]
 exact hb r base M a w hc _ _ (fun v w' M' S' s' hG hc' hx => wpOpsIn_mono' (fun e a w k => k.later hx) rest _ _ (h S' s' hG M' _ w' hc'))
theorem barN_next {o : Oper} {S : St} {s : E.σ} {t : TypeId} {x : Operand} {id : Nat} {R : Row} {m last rem : List (List D)} {b : Bool} {G : St -> E.σ -> Prop} (ho : o.op = .next x false) (hx : opnd S.T x = some (.osl id)) (hR : look S.O id = some R) (hs : R.sz = 0) (hn : R.nn = false) (hl : R.live = true)
  (hrows : R.rows = [.map m, .bool b] :: (last ++ rem)) (hlast : last.length = if b then 1 else 0) (hd : dstOk S o.dst = true) (he : rem = [] -> G (S.add o.dst (.tup [.d (.bool false)]) [] []) s)
  (hk : ∀ i k v, rem[i]? = some [k, v] -> G ((putS S id R ([.map m, .bool true] :: [k, v] :: rem.eraseIdx i)).add o.dst (.tup [.d (.bool true), toAV k, toAV v]) [] []) s) : BarN E o S s G := by
 intro r base M a w hc K Q hK
 have hr := hc.rel
 obtain ⟨kb, km, es, clock, seen, last', h1, h2, h3, h4, h5, h6, h7, h8, h9, h10, h11⟩ := iter_own (hr.heap.row id R hR) hs hn hrows
 have hx' := (hr.opnd hx).osl'
 rw [h1] at hx'
 have hex : a.eval x = .pointer (some ⟨kb, 0, none⟩) := (Option.some.inj hx').symm
 have hll : last'.length = last.length := by
  rw [hlast]
  cases last' with
  | nil => rw [h8]; rfl
  | cons e q =>
   rw [h8]
   simp at h10 ⊢; exact h10
 have hrem : EntsRel w M.ok (es.toList.filter fun e => !seen.contains e.born) rem := by
  refine ⟨by have := h9.1; simp only [List.length_append] at this; omega, fun row hr => h9.2.1 row (by simp [hr]), fun i e k v hi hr => h9.2.2 (last'.length + i) e k v ?_ ?_⟩
  ·rw [List.getElem?_append_right (by omega), Nat.add_sub_cancel_left]; exact hi
  ·rw [hll, List.getElem?_append_right (by omega), Nat.add_sub_cancel_left]; exact hr
 have hnd : ∀ c, o.op ≠ .defer c := by simp [ho]
 have hleft : (leftOf es seen).toList = es.toList.filter fun e => !seen.contains e.born := by simp [leftOf]
 unfold Oper.wpIn
 rw [Oper.semAt_eq _ _ _ hnd]
 rcases run_next_at (P := P) w o.type kb km clock clock seen es clock h3 h4 (fun e he => by
  obtain ⟨i, hi⟩ := List.mem_iff_getElem?.1 he
  exact h6.1 i e (by simpa using hi)) (Nat.le_refl _) with ⟨h0, hrun⟩ | ⟨e, hmem, w1, hw1, hrun⟩
 ·have : (execOp a.eval o).run P w = .ok (.value (.tuple #[.bool false])) w := by simp only [execOp, ho, Sem.run_bind, hex, hrun, Result.andThen]; rfl
  rw [this]
  refine ⟨fun _ _ => trivial, ?_⟩
  have hr0 : rem = [] := by
   apply List.eq_nil_of_length_eq_zero
   rw [<- hrem.1, <- hleft]; simpa using h0
  have hnew : New M E.l w [] [] (.tup [.d (.bool false)]) (.tuple #[.bool false]) M w := New.plain (.tup _ _ (by simp) (fun i c u hc hu => by
   match i, hc, hu with
   | 0, hc, hu => cases hc; cases hu; exact .d (.bool _)))
  obtain ⟨c1, c2⟩ := hc.new hnew (fresh_nil S) hd
  exact hK _ _ _ _ _ (he hr0) c1 c2
 ·have : (execOp a.eval o).run P w = .ok (.value (.tuple #[.bool true, e.key, e.val])) (ChangeMaps.setBlock w1 kb (.mapIter (some km) clock (seen.push e.born) clock)) := by simp only [execOp, ho, Sem.run_bind, hex, hrun, Result.andThen]; rfl
  rw [this]
  refine ⟨fun _ _ => trivial, ?_⟩
  rw [hleft] at hmem
  obtain ⟨i, hi⟩ := List.mem_iff_getElem?.1 hmem
  have hil : i < rem.length := by rw [<- hrem.1]; exact (List.getElem?_eq_some_iff.1 hi).1
  have h2l := hrem.2.1 rem[i] (List.getElem_mem hil)
  obtain ⟨k, v, hkv⟩ : ∃ k v, rem[i] = [k, v] := by
   match rem[i], h2l with
   | [k, v], _ => exact ⟨k, v, rfl⟩
  have hri : rem[i]? = some [k, v] := by rw [<- hkv]; simp [hil]
  obtain ⟨r1, r2⟩ := hrem.2.2 i e k v hi hri
  have hmem' : e ∈ es.toList := (List.mem_filter.1 hmem).1
  let w' := ChangeMaps.setBlock w1 kb (.mapIter (some km) clock (seen.push e.born) clock)
  have hkb := (Array.getElem?_eq_some_iff.1 h3).1
  have hheap : w1.heap = w.heap := by rcases hw1 with rfl | rfl <;> rfl
  have hset : w'.heap[kb]? = some (.mapIter (some km) clock (seen.push e.born) clock) := by
   show (w1.heap.setIfInBounds kb _)[kb]? = _
   rw [hheap]; simp [hkb]
  have hoth : ∀ k, k ≠ kb -> w'.heap[k]? = w.heap[k]? := fun k hk => by
   show (w1.heap.setIfInBounds kb _)[k]? = _
   rw [hheap]; simp [Ne.symm hk]
  obtain ⟨v0, flat0, q1, q2, q3, q4, q5⟩ := hr.heap.row id R hR
  rw [h1] at q1; cases q1
  have hnok : ¬ M.ok kb := (q5 kb rfl).1 hl
  have hok : ∀ k, M.ok k -> w'.heap[k]? = w.heap[k]? := fun k hk => hoth k (fun e => hnok (e ▸ hk))
  have hpush := left_push (stamps_nodup h6) hi
  have hnewrel : EntsRel w' M.ok ([e] ++ es.toList.filter fun x => !(seen.push e.born).contains x.born) ([k, v] :: rem.eraseIdx i) := by
   rw [hpush]
   have h0 := (hrem.erase (i := i)).mono hok
   refine ⟨by have := h0.1; simp only [List.singleton_append, List.length_cons]; omega, fun row hr => ?_, fun j e' k' v' hj hj' => ?_⟩
   ·rcases List.mem_cons.1 hr with rfl | hr
    ·rfl
    ·exact h0.2.1 row hr
   ·cases j with
    | zero => cases hj; cases hj'; exact ⟨r1.mono (fun _ x => x) hok, r2.mono (fun _ x => x) hok⟩
    | succ j => exact h0.2.2 j e' k' v' (by simpa using hj) (by simpa using hj')
  have hcr := rowCells_ents hnewrel
  obtain ⟨c1, x1⟩ := hc.updRow (w' := w') (rows := [.map m, .bool true] :: [k, v] :: rem.eraseIdx i) (flat := .map (some km) :: .bool true :: flatE ([e] ++ es.toList.filter fun x => !(seen.push e.born).contains x.born)) hR hl h1 rfl
   (by rcases hw1 with rfl | rfl <;> rfl) (by rcases hw1 with rfl | rfl <;> rfl) (by rcases hw1 with rfl | rfl <;> rfl) (by show (w1.heap.setIfInBounds kb _).size = _; rw [hheap]; simp) hoth
   (by
    rw [hs, hn]
    refine .inr (.inr ⟨rfl, rfl, .inr ⟨kb, km, es, clock, seen.push e.born, [e], rfl, h2, hset, ?_, rfl, ?_, h6, by simp, fun e' he' => ?_⟩⟩)
    ·have := hnewrel.1; simp only [List.length_cons] at this ⊢; omega
    ·exact (hok km h5).trans h4
    ·simp at he'; subst he'; exact ⟨by simp, hmem'⟩)
   (by
    rw [hs]
    refine ⟨fun row hr => ?_, fun i' row j c hi' hj => ?_⟩
    ·rcases List.mem_cons.1 hr with rfl | hr
     ·rfl
     ·exact hcr.1 row hr
    ·cases i' with
     | zero =>
      cases hi'
      match j, hj with
      | 0, hj => cases hj; exact ⟨_, rfl, h7.mono (fun _ x => x) hok, fun h => by simp at h⟩
      | 1, hj => cases hj; exact ⟨_, rfl, .bool _, fun h => by simp at h⟩
     | succ i' =>
      obtain ⟨y, y1, y2, y3⟩ := hcr.2 i' row j c (by simpa using hi') hj
      refine ⟨y, ?_, y2, y3⟩
      simp only [wd] at y1 ⊢
      rw [show (i' + 1) * 2 + j = i' * 2 + j + 2 from by omega]
      simpa using y1)
  have hnew : New M E.l w' [] [] (.tup [.d (.bool true), toAV k, toAV v]) (.tuple #[.bool true, e.key, e.val]) M w' := New.plain (.tup _ _ (by simp) (fun i c u hc hu => by
   match i, hc, hu with
   | 0, hc, hu => cases hc; cases hu; exact .d (.bool _)
   | 1, hc, hu => cases hc; cases hu; exact toAV_spec (r1.mono (fun _ x => x) hok)
   | 2, hc, hu => cases hc; cases hu; exact toAV_spec (r2.mono (fun _ x => x) hok)))
  obtain ⟨c2, x2⟩ := c1.new (dst := o.dst) hnew (fresh_nil _) (by cases hdd : o.dst with | none => rfl | some t => rw [hdd] at hd; exact hd)
  exact hK _ _ _ _ _ (hk i k v hri) c2 (x1.trans x2)
end Go.Proofs.Ytfilnnbfppokmaa.Aw
namespace Go.Proofs.Ytfilnnbfppokmaa.Aw
open Go Go.RowKit
variable {P : Program} {E : Env P} {base : Nat} {r : Option Nat}
def strC (s : ByteArray) (p : Int) : Int := ((Utf8.decode s p.toNat).1 : Nat)
def strN (s : ByteArray) (p : Int) : Int := p + ((Utf8.decode s p.toNat).2 : Nat)
theorem free_rangeS {o : Oper} {S : St} {t : TypeId} {x : Operand} {sv : ByteArray} {id : Nat} (ho : o.op = .range t x) (ht : P.underlying t = some .string) (hx : opnd S.T x = some (.d (.str sv))) :
  Free P o S (.osl id) [] [(id, ⟨0, 0, [[.str sv, .int .i64 0]], false, true⟩)] :=
 free_run (by simp [ho]) fun base M yl a w hr => by
  have h1 := (hr.opnd hx).str
  refine ⟨.pointer (some ⟨w.heap.size, 0, none⟩), w.alloc (.stringIter sv 0), _, by simp [execOp, ho, Instr.range, run_underlying ht, h1, Result.andThen],
   New.obj (flat := [.string sv, .int .i64 0]) hr rfl rfl rfl (.inr (.inr ⟨rfl, rfl, .inl ⟨w.heap.size, sv, 0, rfl, Nat.le_refl _, World.iter_heap w sv 0, rfl, rfl⟩⟩)) ⟨?_, ?_⟩⟩
  ·intro row hr'
   rcases List.mem_cons.1 hr' with rfl | hr'
   ·rfl
   ·cases hr'
  ·intro i row j c hi hj
   cases i with
   | zero =>
    cases hi
    match j, hj with
    | 0, hj => cases hj; exact ⟨_, rfl, .str _, fun h => by simp at h⟩
    | 1, hj => cases hj; exact ⟨_, rfl, .int _ _, fun h => by simp at h⟩
   | succ i => simp at hi
theorem siter_own {w : World} {lo : Nat} {M : Mp} {id : Nat} {R : Row} {sv : ByteArray} {p : Int} (h : RowOk lo M w id R) (hs : R.sz = 0) (hn : R.nn = false) (hrows : R.rows = [[.str sv, .int .i64 p]]) :
  ∃ k q, M.ν id = some (.pointer (some ⟨k, 0, none⟩)) /\ lo <= k /\ w.heap[k]? = some (.stringIter sv q) /\ p = (q : Nat) := by
 obtain ⟨v, flat, h1, h2, h3, h4, h5⟩ := h
 rcases h2 with ⟨h2, _⟩ | ⟨_, h2, _⟩ | ⟨_, _, h2⟩
 ·omega
 ·rw [hn] at h2; cases h2
 rw [hs, hrows] at h3
 obtain ⟨x, x1, x2, _⟩ := h3.2 0 _ 0 (.str sv) rfl rfl
 obtain ⟨y, y1, y2, _⟩ := h3.2 0 _ 1 (.int .i64 p) rfl rfl
 simp only [wd, Nat.zero_mul, Nat.zero_add] at x1 y1
 rcases h2 with ⟨k, s, q, rfl, g1, g2, g3, rfl⟩ | ⟨k, km, es, clock, seen, last, rfl, g1, g2, g3, rfl, g4, g5, g6, g7⟩
 ·cases x1
  cases y1
  cases x2
  cases y2
  exact ⟨k, q, h1, g1, g2, rfl⟩
 ·cases x1
  cases x2
theorem run_nextS {w : World} {k : Nat} {sv : ByteArray} {q : Nat} (ty : TypeId) (h : w.heap[k]? = some (.stringIter sv q)) :
  (Instr.next (.pointer (some ⟨k, 0, none⟩)) true ty).run P w = if q < sv.size then .ok (.tuple #[.bool true, .int .i64 q, .int .i32 (Utf8.decode sv q).1]) (ChangeMaps.setBlock w k (.stringIter sv (q + (Utf8.decode sv q).2))) else .ok (.tuple #[.bool false]) w := by
 by_cases hc : q < sv.size
 ·rw [if_pos hc]
  simp [Instr.next, getObj, setObj, Sem.run_bind, Sem.run, h, Result.andThen, hc, goInt, ChangeMaps.setBlock]
 ·rw [if_neg hc]
  simp [Instr.next, getObj, Sem.run_bind, Sem.run, h, Result.andThen, hc]
theorem barN_nextS {o : Oper} {S : St} {s : E.σ} {x : Operand} {id : Nat} {R : Row} {sv : ByteArray} {p : Int} {G : St -> E.σ -> Prop} (ho : o.op = .next x true) (hx : opnd S.T x = some (.osl id)) (hR : look S.O id = some R) (hs : R.sz = 0) (hn : R.nn = false) (hl : R.live = true)
  (hrows : R.rows = [[.str sv, .int .i64 p]]) (hd : dstOk S o.dst = true) (he : ¬ p < (sv.size : Nat) -> G (S.add o.dst (.tup [.d (.bool false)]) [] []) s)
  (hk : p < (sv.size : Nat) -> G ((putS S id R [[.str sv, .int .i64 (strN sv p)]]).add o.dst (.tup [.d (.bool true), .d (.int .i64 p), .d (.int .i32 (strC sv p))]) [] []) s) : BarN E o S s G := by
 intro r base M a w hc K Q hK
 have hr := hc.rel
 obtain ⟨kb, q, h1, h2, h3, rfl⟩ := siter_own (hr.heap.row id R hR) hs hn hrows
 have hx' := (hr.opnd hx).osl'
 rw [h1] at hx'
 have hex : a.eval x = .pointer (some ⟨kb, 0, none⟩) := (Option.some.inj hx').symm
 have hnd : ∀ c, o.op ≠ .defer c := by simp [ho]
 have hrun := run_nextS (P := P) o.type h3
 unfold Oper.wpIn
 rw [Oper.semAt_eq _ _ _ hnd]
 by_cases hc' : q < sv.size
 ·rw [if_pos hc'] at hrun
  have : (execOp a.eval o).run P w = .ok (.value (.tuple #[.bool true, .int .i64 q, .int .i32 (Utf8.decode sv q).1])) (ChangeMaps.setBlock w kb (.stringIter sv (q + (Utf8.decode sv q).2))) := by simp only [execOp, ho, Sem.run_bind, hex, hrun, Result.andThen]; rfl
  rw [this]
  refine ⟨fun _ _ => trivial, ?_⟩
  let w' := ChangeMaps.setBlock w kb (.stringIter sv (q + (Utf8.decode sv q).2))
  have hkb := (Array.getElem?_eq_some_iff.1 h3).1
  have hset : w'.heap[kb]? = some (.stringIter sv (q + (Utf8.decode sv q).2)) := by
   show (w.heap.setIfInBounds kb _)[kb]? = _
   simp [hkb]
  have hoth : ∀ k, k ≠ kb -> w'.heap[k]? = w.heap[k]? := fun k hk => by
   show (w.heap.setIfInBounds kb _)[k]? = _
   simp [Ne.symm hk]
  obtain ⟨c1, x1⟩ := hc.updRow (w' := w') (rows := [[.str sv, .int .i64 (strN sv q)]]) (flat := [.string sv, .int .i64 ((q + (Utf8.decode sv q).2 : Nat) : Int)]) hR hl h1 rfl rfl rfl rfl (by show (w.heap.setIfInBounds kb _).size = _; simp) hoth
   (by
    rw [hs, hn]
    exact .inr (.inr ⟨rfl, rfl, .inl ⟨kb, sv, _, rfl, h2, hset, rfl, rfl⟩⟩))
   (by
    rw [hs]
    refine ⟨fun row hr => ?_, fun i' row j c hi' hj => ?_⟩
    ·rcases List.mem_cons.1 hr with rfl | hr
     ·rfl
     ·cases hr
    ·cases i' with
     | zero =>
      cases hi'
      match j, hj with
      | 0, hj => cases hj; exact ⟨_, rfl, .str _, fun h => by simp at h⟩
      | 1, hj =>
       cases hj
       refine ⟨_, rfl, ?_, fun h => by simp at h⟩
       have e : strN sv (q : Int) = ((q + (Utf8.decode sv q).2 : Nat) : Int) := by unfold strN; simp
       rw [e]
       exact .int _ _
     | succ i' => simp at hi')
  have hnew : New M E.l w' [] [] (.tup [.d (.bool true), .d (.int .i64 (q : Int)), .d (.int .i32 (strC sv q))]) (.tuple #[.bool true, .int .i64 q, .int .i32 (Utf8.decode sv q).1]) M w' := New.plain (.tup _ _ (by simp) (fun i c u hc hu => by
   match i, hc, hu with
   | 0, hc, hu => cases hc; cases hu; exact .d (.bool _)
   | 1, hc, hu => cases hc; cases hu; exact .d (.int _ _)
   | 2, hc, hu =>
    cases hc; cases hu
    have e : strC sv (q : Int) = ((Utf8.decode sv q).1 : Nat) := by unfold strC; simp
    rw [e]
    exact .d (.int _ _)))
  obtain ⟨c2, x2⟩ := c1.new (dst := o.dst) hnew (fresh_nil _) (by cases hdd : o.dst with | none => rfl | some t => rw [hdd] at hd; exact hd)
  exact hK _ _ _ _ _ (hk (by omega)) c2 (x1.trans x2)
 ·rw [if_neg hc'] at hrun
  have : (execOp a.eval o).run P w = .ok (.value (.tuple #[.bool false])) w := by simp only [execOp, ho, Sem.run_bind, hex, hrun, Result.andThen]; rfl
  rw [this]
  refine ⟨fun _ _ => trivial, ?_⟩
  have hnew : New M E.l w [] [] (.tup [.d (.bool false)]) (.tuple #[.bool false]) M w := New.plain (.tup _ _ (by simp) (fun i c u hc hu => by
   match i, hc, hu with
   | 0, hc, hu => cases hc; cases hu; exact .d (.bool _)))
  obtain ⟨c1, c2⟩ := hc.new hnew (fresh_nil S) hd
  exact hK _ _ _ _ _ (he (by omega)) c1 c2
def bytesL (s : ByteArray) : List Int := s.data.toList.map fun b => (b.toNat : Int)
def strL (l : List Int) : ByteArray := l.foldl (fun r n => r.push (UInt8.ofNat n.toNat)) ByteArray.empty
theorem free_str_bytes {o : Oper} {S : St} {s d e : TypeId} {x : Operand} {sv : ByteArray} {u : TypeDesc} (ho : o.op = .convert s d x) (hs : P.underlying s = some u) (hd : P.underlying d = some (.slice e)) (he : P.underlying e = some (.int .u8))
  (hx : opnd S.T x = some (.d (.str sv))) (hm : sv.size <= maxLen) : Free P o S (.d (.sl false 1 ((bytesL sv).map fun n => [.int .u8 n]))) [] [] :=
 free_run (by simp [ho]) fun base M yl a w hr => by
  have h1 := (hr.opnd hx).str
  have hrun := Lib.run_convert_string_bytes w s d e sv hs hd he
  refine ⟨_, _, moreOk M w.heap.size, by simp only [execOp, ho, h1, Sem.run_bind, hrun]; rfl, ?_⟩
  have hsz := Lib.bytesWorld_size w e sv
  have hlen : ((bytesL sv).map fun n => [D.int .u8 n]).length = sv.size := by simp [bytesL]
  have hold : ∀ k, k < w.heap.size -> (Lib.bytesWorld w e sv).heap[k]? = w.heap[k]? := fun k hk => Lib.bytesWorld_at_old w e sv k hk
  refine ⟨⟨?_, ?_, ?_, by omega, hold⟩, rfl, rfl, rfl, fun _ _ => rfl, fun _ _ => rfl, fun _ x => .inl x, fun k x => x.elim .inl (fun e => .inr ⟨by omega, by omega⟩), ?_, ⟨fun b B h => (by cases h), fun b B h => (by cases h), fun x y k hx => by cases x <;> (obtain ⟨⟨_, h⟩, _⟩ := hx; cases h)⟩⟩
  ·simp [Lib.bytesWorld, World.freeze]; rfl
  ·simp [Lib.bytesWorld, World.freeze]
  ·simp [Lib.bytesWorld, World.freeze]; rfl
  ·obtain ⟨cap, hcap⟩ : ∃ c, c = grownCap w sv.size 0 e := ⟨_, rfl⟩
   have hc1 : sv.size <= cap := hcap ▸ grownCap_ge w _ _ _
   have hc2 : cap <= maxLen := hcap ▸ grownCap_le_maxLen w _ _ _ hm
   rw [<- hcap, <- hlen]
   have hget : ∀ (i : Nat) (row : List D) (j : Nat) (c : D), ((bytesL sv).map fun n => [D.int .u8 n])[i]? = some row -> row[j]? = some c -> j = 0 /\ i < sv.size /\ c = .int .u8 ((sv.data.toList.getD i 0).toNat : Int) := by
    intro i row j c hi hj
    have hil := (List.getElem?_eq_some_iff.1 hi).1
    rw [hlen] at hil
    rw [List.getElem?_map] at hi
    unfold bytesL at hi
    rw [List.getElem?_map] at hi
    have hd' : sv.data.toList[i]? = some (sv.data.toList[i]'hil) := List.getElem?_eq_getElem hil
    rw [hd'] at hi
    simp only [Option.map_some, Option.some.injEq] at hi
    subst hi
    cases j with
    | zero =>
     simp only [List.getElem?_cons_zero, Option.some.injEq] at hj
     exact ⟨rfl, hil, by rw [<- hj, List.getD_eq_getElem?_getD, hd']; rfl⟩
    | succ j => simp at hj
   refine .d (.sl false 1 _ w.heap.size 0 cap (fun i _ => .int .u8 ((sv.data.toList.getD i 0).toNat : Int)) (Or.inr rfl) (by rw [hlen]; exact hc1) hc2 (fun h => by cases h) (fun row hr => ?_) (fun i row j c hi hj => ?_) (fun i row j c hi hj => rfl) (fun i row j c hi hj => ?_))
   ·obtain ⟨n, _, rfl⟩ := List.mem_map.1 hr
    rfl
   ·obtain ⟨rfl, hil, _⟩ := hget i row j c hi hj
    have := Lib.bytesWorld_cell w e sv i hil
    simpa using this
   ·obtain ⟨rfl, hil, rfl⟩ := hget i row j c hi hj
    exact .int _ _
theorem free_bytes_str {o : Oper} {S : St} {s d e : TypeId} {x : Operand} {clip : Bool} {l : List Int} (ho : o.op = .convert s d x) (hs : P.underlying s = some (.slice e)) (hd : P.underlying d = some .string) (he : P.underlying e = some (.int .u8))
  (hx : opnd S.T x = some (.d (.sl clip 1 (l.map fun n => [.int .u8 n])))) : Free P o S (.d (.str (strL l))) [] [] :=
 free_val (by simp [ho]) fun base M yl a w hr => by
  have hv := hr.opnd hx
  refine ⟨.string (strL l), ?_, .d (.str _)⟩
  have key : ∃ ad len cap, a.eval x = .slice ad len cap /\ ((ad = none /\ l = []) \/ ∃ b, ad = some b /\ len = l.length /\ ∀ (j : Nat) (v : Value), (l.map (Value.int .u8))[j]? = some v -> w.cell? (b.add j) = some v) := by
   cases hv with
   | d h =>
    generalize hg : l.map (fun n => [D.int .u8 n]) = rows at h
    generalize a.eval x = v at h
    cases h with
    | sl0 => exact ⟨_, _, _, rfl, .inl ⟨rfl, by simpa using hg⟩⟩
    | slE _ _ ad =>
     have : l = [] := by simpa using hg
     subst this
     exact ⟨_, _, _, rfl, .inr ⟨ad, rfl, rfl, fun j v h => by simp at h⟩⟩
    | sl _ _ _ b off cap vs hok hcap hmax hclip hsz hc ho' h' =>
     subst hg
     refine ⟨_, _, _, rfl, .inr ⟨⟨b, off, none⟩, rfl, by simp, fun j v hj => ?_⟩⟩
     rw [List.getElem?_map] at hj
     cases hl : l[j]? with
     | none => rw [hl] at hj; cases hj
     | some n =>
      rw [hl] at hj
      simp only [Option.map_some, Option.some.injEq] at hj
      subst hj
      have h1 := hc j [.int .u8 n] 0 (.int .u8 n) (by rw [List.getElem?_map, hl]; rfl) rfl
      have h2 := h' j [.int .u8 n] 0 (.int .u8 n) (by rw [List.getElem?_map, hl]; rfl) rfl
      have h3 : vs j 0 = .int .u8 n := by
       generalize vs j 0 = u at h2
       cases h2
       rfl
      rw [h3] at h1
      have e : (⟨b, off, none⟩ : Addr).add j = ⟨b, off + j, none⟩ := by unfold Addr.add; split <;> simp_all
      rw [e]
      simpa using h1
  obtain ⟨ad, len, cap, h1, h2⟩ := key
  simp only [execOp, ho, h1, Sem.run_bind]
  rw [run_convert_bytes_string w s d e ad len cap hs he hd]
  rcases h2 with ⟨rfl, rfl⟩ | ⟨b, rfl, rfl, hc⟩
  ·simp [Conv.bytesToString, strL, Result.andThen]
  ·have hl := run_loadCells_list (P := P) w b (l.map (Value.int .u8)) hc
   simp only [List.length_map] at hl
   rw [run_bytesToString w b l.length cap _ hl]
   rfl
end Go.Proofs.Ytfilnnbfppokmaa.Aw
namespace Go.Proofs.Ytfilnnbfppokmaa.Aw
open Go Go.RowKit
variable {P : Program}
def noEnvL (P : Program) (l : Nat) : Env P := { noEnv P with l := l, round := fun _ _ _ _ _ _ _ _ h => h.elim }
def ArgsA (w : World) (ok : Nat -> Prop) (μ : Nat -> Option Nat) (ν : Nat -> Option Value) (yl : Nat) (args : List AV) (vs : Array Value) : Prop :=
 vs.size = args.length /\ ∀ (i : Nat) (c : AV) (v : Value), args[i]? = some c -> vs[i]? = some v -> RdA w ok μ ν yl c v
def ConW (P : Program) (f : Nat) (args : List AV) (H : List (Nat × Blk)) (O : List (Nat × Row)) (res : AV) (H' : List (Nat × Blk)) (O' : List (Nat × Row)) : Prop :=
 Ent P f /\ ∀ (w : World) (M : Mp) (yl : Nat) (vs : Array Value), HeapOk 0 H O M yl w -> (∀ k, M.ok k -> k < w.heap.size) -> ArgsA w M.ok M.μ M.ν yl args vs ->
  Calls P f vs w fun e w' => ∃ v ok', e = .returned v /\ w'.os = w.os /\ w'.tape = w.tape /\ w'.output = w.output /\ w.heap.size <= w'.heap.size /\
   (∀ k, k < w.heap.size -> (¬ ∃ x, At H O M x k) -> w'.heap[k]? = w.heap[k]?) /\ RdA w' ok' M.μ M.ν yl res v /\ HeapOk 0 H' O' { M with ok := ok' } yl w'
def argA : Nat -> List AV -> List (Nat × AV)
 | _, [] => []
 | i, x :: r => (i, x) :: argA (i + 1) r
theorem look_argA : ∀ {xs : List AV} {i t : Nat} {c : AV}, look (argA i xs) t = some c -> i <= t /\ xs[t - i]? = some c
 | [], i, t, c, h => by simp [argA, look] at h
 | x :: r, i, t, c, h => by
  simp only [argA, look] at h
  by_cases e : i = t
  ·rw [if_pos e] at h; cases h; subst e; exact ⟨Nat.le_refl _, by simp⟩
  ·rw [if_neg e] at h
   obtain ⟨h1, h2⟩ := look_argA h
   exact ⟨by omega, by rw [show t - i = (t - (i + 1)) + 1 from by omega, List.getElem?_cons_succ]; exact h2⟩
def SW (n : Nat) (args : List AV) (H : List (Nat × Blk)) (O : List (Nat × Row)) (low : Nat) : St := ⟨n, argA 0 args, H, O, low⟩
def RetW (P : Program) (fn : Func) (S : St) (res : AV) (H' : List (Nat × Blk)) (O' : List (Nat × Row)) : Prop :=
 ∃ cs, resVL P S fn.results.toList = some cs /\ oneOf cs = res /\ (∀ b B, look H' b = some B -> look S.H b = some B) /\ ∀ id R, look O' id = some R -> look S.O id = some R
def KeepW (X : Nat -> Prop) (n0 : Nat) (w0 w : World) : Prop := w.os = w0.os /\ w.tape = w0.tape /\ w.output = w0.output /\ n0 <= w.heap.size /\ ∀ k, k < n0 -> ¬ X k -> w.heap[k]? = w0.heap[k]?
theorem leaves_marksW {base yl : Nat} {S : St} {fn : Func} {R : Ending -> World -> Prop} {w0 : World} (X : Nat -> Prop) (n0 : Nat) : ∀ (ds : List Nat) (M : Mp) (a : Act) (w : World), M.ds = ds -> Rel base S M yl a w -> (∀ D ∈ ds, D < n0 -> X D) -> KeepW X n0 w0 w ->
  (∀ M' a' w', Rel base S M' yl a' w' -> KeepW X n0 w0 w' -> M'.μ = M.μ -> M'.ν = M.ν -> M'.ok = M.ok -> a'.tmps = a.tmps -> ∃ v, (results fn a.tmps).run P w' = .ok v w' /\ R (.returned v) w') ->
  LeavesInM (FW none) 0 P fn a.tmps R (marks ds) .returning w
 | [], M, a, w, hd, hr, hX, hb, h => h M a w hr hb rfl rfl rfl rfl
 | D :: ds, M, a, w, hd, hr, hX, hb, h => by
  refine ⟨by simp, .inl ⟨D, w.putObj D (.deferred none), rfl, run_takeDeferred (hr.dsOk D (by rw [hd]; simp)).2.1, ?_⟩⟩
  obtain ⟨b1, b2, b3, b4, b5⟩ := hb
  have := leaves_marksW X n0 ds { M with ds := ds } { a with defers := marks ds } (w.putObj D (.deferred none)) rfl (hr.take hd) (fun D' h' => hX D' (List.mem_cons_of_mem _ h'))
   ⟨b1, b2, b3, by simpa using b4, fun k hk hx => by rw [World.putObj_heap_other (fun e => hx (by subst e; exact hX _ (by simp) hk))]; exact b5 k hk hx⟩ (fun M' a' w' h1 h2 h3 h4 h5 h6 => h M' a' w' h1 h2 h3 h4 h5 h6)
  exact this
theorem conW_intro {f : Nat} {fn : Func} {c : Code} (hf : P.funcs[f]? = some fn) (hb : fn.body = some c) (hent : Ent P f) {args : List AV} {H H' : List (Nat × Blk)} {O O' : List (Nat × Row)} {res : AV} (low : Nat) (hn : Nat.ble args.length fn.ntmps = true)
  (hs : res.scalar = true) (hH' : ∀ b B, look H' b = some B -> b < low /\ ∀ c ∈ B.cells, ∃ x, c = .d x) (hO' : ∀ id R, look O' id = some R -> 100 <= id)
  (h : ∀ yl, AW (noEnvL P yl) 0 none c (SW fn.ntmps args H O low) () (fun e S _ => (e = .normal \/ e = .ret) /\ RetW P fn S res H' O')) : ConW P f args H O res H' O' := by
 refine ⟨hent, fun w M yl vs hheap hok hvs => (callsIn_wide (n := 0)).1 ?_⟩
 refine callsIn_of_wp_marks (F := FW none) (n := 0) hf hb trivial ?_
 let M0 : Mp := ⟨M.μ, M.ν, M.ok, fun _ => False, fun _ => False, []⟩
 have hn' := Nat.le_of_ble_eq_true hn
 have hat0 : ∀ x k, At H O M0 x k -> At H O M x k := fun x k hx => by cases x <;> exact hx
 have hheap0 : HeapOk 0 H O M0 yl w := ⟨hheap.blk, hheap.row, fun x y k hx hy => hheap.inj x y k (hat0 x k hx) (hat0 y k hy)⟩
 have hr0 : Rel 0 (SW fn.ntmps args H O low) M0 (noEnvL P yl).l { tmps := vs ++ Array.replicate (fn.ntmps - vs.size) undef, defers := [] } w := by
  refine ⟨Nat.zero_le _, ?_, fun t c ht => ?_, hheap0, hok, rfl, fun D hD => (by cases hD), List.nodup_nil⟩
  ·show (vs ++ Array.replicate (fn.ntmps - vs.size) undef).size = fn.ntmps
   rw [Array.size_append, Array.size_replicate, hvs.1]; omega
  ·obtain ⟨_, h1⟩ := look_argA ht
   rw [Nat.sub_zero] at h1
   have hlt := (List.getElem?_eq_some_iff.1 h1).1
   obtain ⟨v, hv⟩ : ∃ v, vs[t]? = some v := ⟨vs[t]'(by rw [hvs.1]; exact hlt), by simp⟩
   exact ⟨v, by show (vs ++ _)[t]? = some v; rw [Array.getElem?_append_left (by rw [hvs.1]; exact hlt)]; exact hv, hvs.2 t c v h1 hv⟩
 have hown0 : ∀ k, Own (SW fn.ntmps args H O low) M0 k -> ∃ x, At H O M x k := by
  rintro k (⟨x, hx, _⟩ | hd)
  ·exact ⟨x, hat0 x k hx⟩
  ·cases hd
 have hc0 : Cfg (noEnvL P yl) 0 (SW fn.ntmps args H O low) () M0 { tmps := vs ++ Array.replicate (fn.ntmps - vs.size) undef, defers := [] } w :=
  ⟨hr0, ⟨fun _ h => h, fun _ h => h⟩, fun _ _ h => h, fun k hk => ⟨fun h => h, fun h => h⟩, fun _ _ => trivial, fun _ _ => trivial⟩
 refine wpIn_mono (h yl M0 _ w hc0) ?_
 rintro e a' w' ⟨S', s', M', ⟨he, hret⟩, hc', hx⟩
 have hgoal : LeavesInM (FW none) 0 P fn a'.tmps (fun e w' => ∃ v ok', e = .returned v /\ w'.os = w.os /\ w'.tape = w.tape /\ w'.output = w.output /\ w.heap.size <= w'.heap.size /\
   (∀ k, k < w.heap.size -> (¬ ∃ x, At H O M x k) -> w'.heap[k]? = w.heap[k]?) /\ RdA w' ok' M.μ M.ν yl res v /\ HeapOk 0 H' O' { M with ok := ok' } yl w') a'.defers .returning w' := by
  rw [hc'.rel.dfr]
  refine leaves_marksW (S := S') (base := 0) (w0 := w) (fun k => ∃ x, At H O M x k) w.heap.size M'.ds M' a' w' rfl hc'.rel (fun D hD hlt => hown0 D (hx.own D hlt (.inr hD)))
   ⟨hx.os, hx.tape, hx.output, hx.size, fun k hk hX => hx.keep k hk (fun ho => hX (hown0 k ho)) (fun h => h)⟩ (fun M2 a2 w2 hr2 hb2 e1 e2 e3 e4 => ?_)
  obtain ⟨cs, h1, h2, h3, h4⟩ := hret
  obtain ⟨v, h5, h6⟩ := run_results (P := P) (fn := fn) hr2 h1
  rw [<- e4]
  obtain ⟨b1, b2, b3, b4, b5⟩ := hb2
  rw [h2] at h6
  have hμ : ∀ b B, look H' b = some B -> M2.μ b = M.μ b := fun b B hB => by rw [e1]; exact hx.μlow b (hH' b B hB).1
  have hν : ∀ id R, look O' id = some R -> M2.ν id = M.ν id := fun id R hR => by rw [e2]; exact hx.pin id (hO' id R hR)
  have hat : ∀ x k, At H' O' { M with ok := M2.ok } x k -> At S'.H S'.O M2 x k := by
   intro x k hx'
   cases x with
   | inl b => obtain ⟨⟨B, hB⟩, hk⟩ := hx'; exact ⟨⟨B, h3 b B hB⟩, (hμ b B hB).trans hk⟩
   | inr b => obtain ⟨⟨R, hR⟩, u, hu, hk⟩ := hx'; exact ⟨⟨R, h4 b R hR⟩, u, (hν b R hR).trans hu, hk⟩
  refine ⟨v, h5, v, M2.ok, rfl, b1, b2, b3, b4, b5, h6.anyOk hs, fun b B hB => ?_, fun id R hR => ?_, fun x y k hx' hy' => hr2.heap.inj x y k (hat x k hx') (hat y k hy')⟩
  ·obtain ⟨k, us, g1, g2, g3, g4, g5, g6, g7, g8⟩ := hr2.heap.blk b B (h3 b B hB)
   refine ⟨k, us, (hμ b B hB).symm.trans g1, g2, g3, g4, fun i c u hc hu => ?_, g6, g7, g8⟩
   obtain ⟨x, rfl⟩ := (hH' b B hB).2 c (List.mem_of_getElem? hc)
   have := g5 i _ u hc hu
   cases this with | d h => exact .d h
  ·obtain ⟨u, flat, g1, g2, g3, g4, g5⟩ := hr2.heap.row id R (h4 id R hR)
   exact ⟨u, flat, (hν id R hR).symm.trans g1, g2, g3, g4, g5⟩
 rcases he with rfl | rfl
 ·exact hgoal
 ·exact hgoal
def enumB (q : Nat) : List Blk -> List (Nat × Blk)
 | [] => []
 | R :: r => (q, R) :: enumB (q + 1) r
theorem look_enumB : ∀ {rows : List Blk} {q : Nat} {id : Nat} {R : Blk}, look (enumB q rows) id = some R ↔ q <= id /\ rows[id - q]? = some R
 | [], q, id, R => by simp [enumB, look]
 | R0 :: r, q, id, R => by
  simp only [enumB, look]
  by_cases e : q = id
  ·subst e; simp
  ·rw [if_neg e, look_enumB]
   constructor
   ·rintro ⟨h1, h2⟩
    refine ⟨by omega, ?_⟩
    rw [show id - q = (id - (q + 1)) + 1 from by omega, List.getElem?_cons_succ]; exact h2
   ·rintro ⟨h1, h2⟩
    refine ⟨by omega, ?_⟩
    rw [show id - q = (id - (q + 1)) + 1 from by omega, List.getElem?_cons_succ] at h2; exact h2
def setAs {α : Type} : List (Nat × α) -> List Nat -> List α -> List (Nat × α)
 | T, b :: bs, B :: Bs => setAs (setA T b B) bs Bs
 | T, _, _ => T
theorem setA_some {α : Type} {l : List (Nat × α)} {b b' : Nat} {v : α} : (look (setA l b v) b').isSome = (look l b').isSome := by
 cases hb : look l b with
 | some u => rw [look_setA hb]; by_cases e : b = b' <;> simp [e] ; subst e; simp [hb]
 | none =>
  congr 1
  induction l with
  | nil => rfl
  | cons p r ih =>
   obtain ⟨k, u⟩ := p
   simp only [look] at hb
   by_cases e : k = b
   ·rw [if_pos e] at hb; cases hb
   ·rw [if_neg e] at hb
    simp only [setA, if_neg e, look, ih hb]
theorem setAs_some {α : Type} : ∀ {bs : List Nat} {Bs : List α} {l : List (Nat × α)} {b' : Nat}, (look (setAs l bs Bs) b').isSome = (look l b').isSome
 | [], Bs, l, b' => by simp [setAs]
 | b :: bs, [], l, b' => by simp [setAs]
 | b :: bs, B :: Bs, l, b' => by simp only [setAs]; rw [setAs_some, setA_some]
theorem setA_other {α : Type} {l : List (Nat × α)} {b b' : Nat} {v : α} (h : b ≠ b') : look (setA l b v) b' = look l b' := by
 induction l with
 | nil => rfl
 | cons p r ih =>
  obtain ⟨k, u⟩ := p
  by_cases e : k = b
  ·subst e; simp only [setA, if_true, look, if_neg h]
  ·simp only [setA, if_neg e, look, ih]
theorem setAs_other {α : Type} : ∀ {bs : List Nat} {Bs : List α} {l : List (Nat × α)} {b' : Nat}, b' ∉ bs -> look (setAs l bs Bs) b' = look l b'
 | [], Bs, l, b', _ => by simp [setAs]
 | b :: bs, [], l, b', _ => by simp [setAs]
 | b :: bs, B :: Bs, l, b', h => by
  simp only [List.mem_cons, not_or] at h
  simp only [setAs]; rw [setAs_other h.2, setA_other (fun e => h.1 e.symm)]
theorem setAs_get {α : Type} : ∀ {bs : List Nat} {Bs : List α} {l : List (Nat × α)} {i b : Nat} {B : α}, bs.Nodup -> bs[i]? = some b -> Bs[i]? = some B -> (look l b).isSome = true -> look (setAs l bs Bs) b = some B
 | [], Bs, l, i, b, B, _, h, _, _ => by simp at h
 | b0 :: bs, [], l, i, b, B, _, _, h, _ => by simp at h
 | b0 :: bs, B0 :: Bs, l, 0, b, B, hn, h, h', hl => by
  simp at h h'; subst h h'
  simp only [setAs]
  rw [setAs_other (List.nodup_cons.1 hn).1]
  obtain ⟨u, hu⟩ := Option.isSome_iff_exists.1 hl
  rw [look_setA hu, if_pos rfl]
 | b0 :: bs, B0 :: Bs, l, i + 1, b, B, hn, h, h', hl => by
  simp at h h'
  simp only [setAs]
  exact setAs_get (List.nodup_cons.1 hn).2 h h' (by rw [setA_some]; exact hl)
def blksOf (S : St) : List Nat -> Option (List Blk)
 | [] => some []
 | id :: r => match look S.H id, blksOf S r with
  | some R, some l => if R.live then some (R :: l) else none
  | _, _ => none
theorem blksOf_get {S : St} : ∀ {ids : List Nat} {rows : List Blk}, blksOf S ids = some rows -> ids.length = rows.length /\ ∀ (i : Nat) (R : Blk), rows[i]? = some R -> ∃ id, ids[i]? = some id /\ look S.H id = some R /\ R.live = true
 | [], rows, h => by simp [blksOf] at h; subst h; simp
 | id :: r, rows, h => by
  simp only [blksOf] at h
  cases h1 : look S.H id with
  | none => rw [h1] at h; cases h
  | some R =>
   cases h2 : blksOf S r with
   | none => rw [h1, h2] at h; cases h
   | some l =>
    rw [h1, h2] at h
    simp only at h
    cases hl : R.live with
    | false => rw [hl] at h; cases h
    | true =>
     rw [hl] at h
     simp only [if_true, Option.some.injEq] at h; subst h
     obtain ⟨e1, e2⟩ := blksOf_get h2
     refine ⟨by simp [e1], fun i R' hR => ?_⟩
     cases i with
     | zero => simp at hR; subst hR; exact ⟨id, rfl, h1, hl⟩
     | succ i => simp at hR ⊢; exact e2 i R' hR
def lessW (S : St) (hb hr : List Nat) : St := { S with H := S.H.filter (fun p => !memN p.1 hb), O := S.O.filter (fun p => !memN p.1 hr) }
theorem lessW_H {S : St} {hb hr : List Nat} {b : Nat} : look (lessW S hb hr).H b = if memN b hb then none else look S.H b := by
 have := look_filter (f := fun k => !memN k hb) (l := S.H) (t := b)
 simp only [lessW]; rw [this]; cases memN b hb <;> rfl
theorem lessW_O {S : St} {hb hr : List Nat} {b : Nat} : look (lessW S hb hr).O b = if memN b hr then none else look S.O b := by
 have := look_filter (f := fun k => !memN k hr) (l := S.O) (t := b)
 simp only [lessW]; rw [this]; cases memN b hr <;> rfl
theorem lessW_sub (S : St) (hb hr : List Nat) : Sub S (lessW S hb hr) := by
 refine ⟨rfl, fun _ _ h => h, fun b B h => ?_, fun b R h => ?_⟩
 ·rw [lessW_H] at h; split at h
  ·cases h
  ·exact h
 ·rw [lessW_O] at h; split at h
  ·cases h
  ·exact h
def snapW (S : St) (hb hr : List Nat) : Nat -> AV -> Option AV
 | 0, _ => none
 | n + 1, c => match c with
  | .agg cs => (cs.mapM (snapW S hb hr n)).map AV.agg
  | .osl id => match idxN id hr 0 with
   | some i => some (.osl (100 + i))
   | none => (snap true (lessW S hb hr) 8 (.osl id)).map .d
  | .loc b off => match idxN b hb 0 with
   | some i => some (.loc i off)
   | none => (snap true (lessW S hb hr) 8 (.loc b off)).map .d
  | c => (snap true (lessW S hb hr) 8 c).map .d
def mpW (S : St) (M : Mp) (hb hr : List Nat) : Mp := ⟨fun i => (hb[i]?).bind M.μ, fun i => if 100 <= i then (hr[i - 100]?).bind M.ν else none, okS true (lessW S hb hr) M, fun _ => False, fun _ => False, []⟩
theorem snapW_spec {S : St} {M : Mp} {base yl : Nat} {a : Act} {w : World} {hb hr : List Nat} (hrel : Rel base S M yl a w) : ∀ (n : Nat) (c x : AV) (v : Value), snapW S hb hr n c = some x -> RdA w M.ok M.μ M.ν yl c v -> RdA w (mpW S M hb hr).ok (mpW S M hb hr).μ (mpW S M hb hr).ν yl x v := by
 intro n
 have hsub := hrel.sub (lessW_sub S hb hr)
 have main : ∀ (c : AV) (x : AV) (v : Value), (snap true (lessW S hb hr) 8 c).map .d = some x -> RdA w M.ok M.μ M.ν yl c v -> RdA w (mpW S M hb hr).ok (mpW S M hb hr).μ (mpW S M hb hr).ν yl x v := by
  intro c x v h hv
  cases hs : snap true (lessW S hb hr) 8 c with
  | none => rw [hs] at h; cases h
  | some d =>
   rw [hs] at h; cases h
   exact .d (snap_spec hsub 8 c d v hs hv).1
 induction n with
 | zero => intro c x v h; cases h
 | succ n ih =>
  intro c x v h hv
  cases c with
  | agg cs =>
   simp only [snapW] at h
   cases hm : cs.mapM (snapW S hb hr n) with
   | none => rw [hm] at h; cases h
   | some l =>
    rw [hm] at h; simp only [Option.map_some, Option.some.injEq] at h; subst h
    obtain ⟨vs, rfl, h1, h2, h3⟩ := hv.agg'
    obtain ⟨e1, e2⟩ := mapM_get hm
    refine .agg l vs (by rw [h1, e1]) h2 (fun i c v hc hv => ?_)
    obtain ⟨y, hy, hys⟩ := e2 i c hc
    exact ih y c v hys (h3 i y v hy hv)
  | osl id =>
   simp only [snapW] at h
   cases hi : idxN id hr 0 with
   | some i =>
    rw [hi] at h; cases h
    obtain ⟨_, hi'⟩ := idxN_spec hi
    rw [Nat.sub_zero] at hi'
    cases hv with
    | osl h1 h2 => exact .osl (by simp [mpW, hi', h1]) h2
   | none => rw [hi] at h; exact main _ x v h hv
  | loc b off =>
   simp only [snapW] at h
   cases hi : idxN b hb 0 with
   | some i =>
    rw [hi] at h; cases h
    obtain ⟨_, hi'⟩ := idxN_spec hi
    rw [Nat.sub_zero] at hi'
    cases hv with
    | loc h1 => exact .loc (by simp [mpW, hi', h1])
   | none => rw [hi] at h; exact main _ x v h hv
  | any => exact main .any x v h hv
  | d y => exact main (.d y) x v h hv
  | tup l => exact main (.tup l) x v h hv
  | fn f l => exact main (.fn f l) x v h hv
  | asl p q r t => exact main (.asl p q r t) x v h hv
  | oloc p q r t => exact main (.oloc p q r t) x v h hv
  | yld => exact main .yld x v h hv
def snapWL (S : St) (hb hr : List Nat) : List AV -> Option (List AV)
 | [] => some []
 | c :: r => match snapW S hb hr 8 c, snapWL S hb hr r with
  | some x, some l => some (x :: l)
  | _, _ => none
theorem snapWL_get {S : St} {hb hr : List Nat} : ∀ {cs : List AV} {xs : List AV}, snapWL S hb hr cs = some xs -> cs.length = xs.length /\ ∀ (i : Nat) (x : AV), xs[i]? = some x -> ∃ c, cs[i]? = some c /\ snapW S hb hr 8 c = some x
 | [], xs, h => by simp [snapWL] at h; subst h; simp
 | c :: r, xs, h => by
  simp only [snapWL] at h
  cases h1 : snapW S hb hr 8 c with
  | none => rw [h1] at h; cases h
  | some x =>
   cases h2 : snapWL S hb hr r with
   | none => rw [h1, h2] at h; cases h
   | some l =>
    rw [h1, h2] at h
    simp only [Option.some.injEq] at h; subst h
    obtain ⟨e1, e2⟩ := snapWL_get h2
    refine ⟨by simp [e1], fun i y hy => ?_⟩
    cases i with
    | zero => simp at hy; subst hy; exact ⟨c, rfl, h1⟩
    | succ i => simp at hy ⊢; exact e2 i y hy
def AV.isd : AV -> Bool
 | .d _ => true
 | _ => false
def writS (S : St) (dst : Option Nat) (res : AV) (hb : List Nat) (Bs : List Blk) (hr : List Nat) (Rs : List Row) : St :=
 ⟨S.n, (match dst with | some t => (t, res) :: S.T | none => S.T), setAs S.H hb Bs, setAs S.O hr Rs, S.low⟩
def nnS (R : Row) : Row := if R.sz = 0 then R else { R with nn := false }
theorem nnS_get {O : List Row} {i : Nat} {R : Row} (h : (O.map nnS)[i]? = some R) : ∃ R0, O[i]? = some R0 /\ R = nnS R0 := by
 rw [List.getElem?_map] at h
 cases hh : O[i]? with
 | none => rw [hh] at h; cases h
 | some R0 => rw [hh] at h; cases h; exact ⟨R0, rfl, rfl⟩
def backR : List Row -> List Row -> List Row
 | R0 :: r, R :: q => { R with nn := R0.nn } :: backR r q
 | _, _ => []
theorem backR_get : ∀ {O Rs : List Row} {i : Nat} {R : Row}, (backR O Rs)[i]? = some R -> ∃ R0 R2, O[i]? = some R0 /\ Rs[i]? = some R2 /\ R = { R2 with nn := R0.nn }
 | [], Rs, i, R, h => by cases Rs <;> simp [backR] at h
 | R0 :: r, [], i, R, h => by simp [backR] at h
 | R0 :: r, R2 :: q, 0, R, h => by simp [backR] at h; exact ⟨R0, R2, rfl, rfl, h.symm⟩
 | R0 :: r, R2 :: q, i + 1, R, h => by simp [backR] at h; obtain ⟨a, b, h1, h2, h3⟩ := backR_get h; exact ⟨a, b, by simpa using h1, by simpa using h2, h3⟩
theorem backR_len : ∀ {O Rs : List Row}, Rs.length = O.length -> (backR O Rs).length = O.length
 | [], [], _ => rfl
 | [], _ :: _, h => by cases h
 | _ :: _, [], h => by cases h
 | R0 :: r, R2 :: q, h => by simp only [List.length_cons] at h; simp only [backR, List.length_cons]; rw [backR_len (by omega)]
def WrOk (Bs : List Blk) (Rs : List Row) : Prop := (∀ B ∈ Bs, B.live = true /\ ∀ c ∈ B.cells, c.scalar = true) /\ numRows Rs
theorem cfg_callW {E : Env P} {base : Nat} {S : St} {s : E.σ} {M : Mp} {a : Act} {w w' : World} {dst : Option Nat} {hb hr : List Nat} {H Bs : List Blk} {O Rs : List Row} {res : AV} {v : Value} {ok' : Nat -> Prop} (hc : Cfg E base S s M a w)
  (hbN : hb.Nodup) (hrN : hr.Nodup) (hH : blksOf S hb = some H) (hO : rowsOf S hr = some O) (hBl : Bs.length = H.length) (hRl : Rs.length = O.length) (hnn : ∀ (i : Nat) (R0 R2 : Row), O[i]? = some R0 -> Rs[i]? = some R2 -> R2.sz = 0 -> R2.nn = R0.nn) (hwr : WrOk Bs Rs) (hs : res.scalar = true) (hd : dstOk S dst = true)
  (hos : w'.os = w.os) (htape : w'.tape = w.tape) (hout : w'.output = w.output) (hsz : w.heap.size <= w'.heap.size)
  (hkeep : ∀ k, k < w.heap.size -> (¬ ∃ x, At (enumB 0 H) (enumR 100 (O.map nnS)) (mpW S M hb hr) x k) -> w'.heap[k]? = w.heap[k]?) (hres : RdA w' ok' (mpW S M hb hr).μ (mpW S M hb hr).ν E.l res v)
  (hheap : HeapOk 0 (enumB 0 Bs) (enumR 100 Rs) { mpW S M hb hr with ok := ok' } E.l w') :
  Cfg E base (writS S dst res hb Bs hr (backR O Rs)) s M (a.put dst v) w' /\ Ext S M w (writS S dst res hb Bs hr (backR O Rs)) M w' := by
 have hr0 := hc.rel
 obtain ⟨bl, bg⟩ := blksOf_get hH
 obtain ⟨rl, rg⟩ := rowsOf_get hO
 have hX : ∀ k, (∃ x, At (enumB 0 H) (enumR 100 (O.map nnS)) (mpW S M hb hr) x k) -> ∃ x, (match x with | .inl b => b ∈ hb | .inr r => r ∈ hr) /\ At S.H S.O M x k /\ Liv S.H S.O x := by
  rintro k ⟨x, hx⟩
  cases x with
  | inl i =>
   obtain ⟨⟨B, hB⟩, hk⟩ := hx
   rw [look_enumB] at hB
   obtain ⟨b, h1, h2, h3⟩ := bg i B (by simpa using hB.2)
   have hk' : (hb[i]?).bind M.μ = some k := hk
   rw [h1] at hk'
   exact ⟨.inl b, List.mem_of_getElem? h1, ⟨⟨B, h2⟩, hk'⟩, B, h2, h3⟩
  | inr i =>
   obtain ⟨⟨R, hR⟩, u, hu, hk⟩ := hx
   rw [look_enumR] at hR
   obtain ⟨R0, hR0, rfl⟩ := nnS_get hR.2
   obtain ⟨b, h1, h2, h3⟩ := rg _ R0 hR0
   have hu' : (if 100 <= i then (hr[i - 100]?).bind M.ν else none) = some u := hu
   rw [if_pos hR.1, h1] at hu'
   exact ⟨.inr b, List.mem_of_getElem? h1, ⟨⟨R0, h2⟩, u, hu', hk⟩, R0, h2, h3⟩
 have hXown : ∀ k, (∃ x, At (enumB 0 H) (enumR 100 (O.map nnS)) (mpW S M hb hr) x k) -> Own S M k := fun k hk => let ⟨x, _, h1, h2⟩ := hX k hk; .inl ⟨x, h1, h2⟩
 have hliveOk : ∀ x k, At S.H S.O M x k -> Liv S.H S.O x -> ¬ M.ok k := by
  intro x k hx hl
  cases x with
  | inl b =>
   obtain ⟨B, hB, hl⟩ := hl
   obtain ⟨k', us, g1, g2, g3, g4, g5, g6, g7, g8⟩ := hr0.heap.blk b B hB
   obtain ⟨_, hk⟩ := hx
   rw [hk] at g1; cases g1
   exact g7 hl
  | inr b =>
   obtain ⟨R, hR, hl⟩ := hl
   obtain ⟨u, flat, g1, g2, g3, g4, g5⟩ := hr0.heap.row b R hR
   obtain ⟨_, u', hu, hk⟩ := hx
   rw [hu] at g1; cases g1
   exact (g5 k hk).1 hl
 have hokX : ∀ k, M.ok k -> w'.heap[k]? = w.heap[k]? := fun k hk => hkeep k (hr0.okLt k hk) (fun hx => by
  obtain ⟨x, _, h1, h2⟩ := hX k hx
  exact hliveOk x k h1 h2 hk)
 have hother : ∀ x k, At S.H S.O M x k -> (match x with | .inl b => b ∉ hb | .inr r => r ∉ hr) -> w'.heap[k]? = w.heap[k]? := fun x k hx hn => hkeep k (hr0.heap.at_lt hx).2.1 (fun hx' => by
  obtain ⟨y, hy, h1, h2⟩ := hX k hx'
  have := hr0.heap.inj x y k hx h1
  subst this
  cases x <;> exact hn hy)
 have hat : ∀ x k, At (writS S dst res hb Bs hr (backR O Rs)).H (writS S dst res hb Bs hr (backR O Rs)).O M x k -> At S.H S.O M x k := by
  intro x k hx
  cases x with
  | inl b =>
   obtain ⟨⟨B, hB⟩, hk⟩ := hx
   have : (look (setAs S.H hb Bs) b).isSome = true := by rw [show look (setAs S.H hb Bs) b = some B from hB]; rfl
   rw [setAs_some] at this
   exact ⟨Option.isSome_iff_exists.1 this, hk⟩
  | inr b =>
   obtain ⟨⟨B, hB⟩, hk⟩ := hx
   have : (look (setAs S.O hr (backR O Rs)) b).isSome = true := by rw [show look (setAs S.O hr (backR O Rs)) b = some B from hB]; rfl
   rw [setAs_some] at this
   exact ⟨Option.isSome_iff_exists.1 this, hk⟩
 have hlivB : ∀ (b : Nat) (B : Blk), look (setAs S.H hb Bs) b = some B -> (b ∈ hb /\ ∃ i : Nat, hb[i]? = some b /\ Bs[i]? = some B /\ ∃ B0, H[i]? = some B0 /\ look S.H b = some B0 /\ B0.live = true) \/ (b ∉ hb /\ look S.H b = some B) := by
  intro b B hB
  by_cases hm : b ∈ hb
  ·obtain ⟨i, hi⟩ := List.mem_iff_getElem?.1 hm
   have hlt := (List.getElem?_eq_some_iff.1 hi).1
   obtain ⟨B0, hB0⟩ : ∃ B0, H[i]? = some B0 := ⟨_, List.getElem?_eq_getElem (by omega)⟩
   obtain ⟨b', h1, h2, h3⟩ := bg i B0 hB0
   rw [hi] at h1; cases h1
   obtain ⟨B1, hB1⟩ : ∃ B1, Bs[i]? = some B1 := ⟨_, List.getElem?_eq_getElem (by omega)⟩
   have := setAs_get (l := S.H) hbN hi hB1 (by rw [h2]; rfl)
   rw [this] at hB; cases hB
   exact .inl ⟨hm, i, hi, hB1, B0, hB0, h2, h3⟩
  ·rw [setAs_other hm] at hB; exact .inr ⟨hm, hB⟩
 have hlivR : ∀ (b : Nat) (B : Row), look (setAs S.O hr (backR O Rs)) b = some B -> (b ∈ hr /\ ∃ i : Nat, hr[i]? = some b /\ (backR O Rs)[i]? = some B /\ ∃ B0, O[i]? = some B0 /\ look S.O b = some B0 /\ B0.live = true) \/ (b ∉ hr /\ look S.O b = some B) := by
  intro b B hB
  by_cases hm : b ∈ hr
  ·obtain ⟨i, hi⟩ := List.mem_iff_getElem?.1 hm
   have hlt := (List.getElem?_eq_some_iff.1 hi).1
   obtain ⟨B0, hB0⟩ : ∃ B0, O[i]? = some B0 := ⟨_, List.getElem?_eq_getElem (by omega)⟩
   obtain ⟨b', h1, h2, h3⟩ := rg i B0 hB0
   rw [hi] at h1; cases h1
   obtain ⟨B1, hB1⟩ : ∃ B1, (backR O Rs)[i]? = some B1 := ⟨_, List.getElem?_eq_getElem (by rw [backR_len hRl]; omega)⟩
   have := setAs_get (l := S.O) hrN hi hB1 (by rw [h2]; rfl)
   rw [this] at hB; cases hB
   exact .inl ⟨hm, i, hi, hB1, B0, hB0, h2, h3⟩
  ·rw [setAs_other hm] at hB; exact .inr ⟨hm, hB⟩
 have hliv : ∀ x, Liv (writS S dst res hb Bs hr (backR O Rs)).H (writS S dst res hb Bs hr (backR O Rs)).O x -> Liv S.H S.O x := by
  intro x hx
  cases x with
  | inl b =>
   obtain ⟨B, hB, hl⟩ := hx
   rcases hlivB b B hB with ⟨_, i, _, _, B0, _, h2, h3⟩ | ⟨_, h⟩
   ·exact ⟨B0, h2, h3⟩
   ·exact ⟨B, h, hl⟩
  | inr b =>
   obtain ⟨B, hB, hl⟩ := hx
   rcases hlivR b B hB with ⟨_, i, _, _, B0, _, h2, h3⟩ | ⟨_, h⟩
   ·exact ⟨B0, h2, h3⟩
   ·exact ⟨B, h, hl⟩
 have hown : ∀ k, Own (writS S dst res hb Bs hr (backR O Rs)) M k -> Own S M k := by
  rintro k (⟨x, hx, hl⟩ | hd')
  ·exact .inl ⟨x, hat x k hx, hliv x hl⟩
  ·exact .inr hd'
 have hmono : ∀ {c u}, RdA w M.ok M.μ M.ν E.l c u -> RdA w' M.ok M.μ M.ν E.l c u := fun h => h.mono (fun _ x => x) hokX (fun _ _ => rfl) (fun _ _ => rfl)
 have hput : (a.put dst v).defers = a.defers := by cases dst <;> rfl
 have hlt := E.lt _ _ _ _ hc.j
 refine ⟨⟨⟨Nat.le_trans hr0.lo hsz, ?_, ?_, ⟨?_, ?_, fun x y k hx hy => hr0.heap.inj x y k (hat x k hx) (hat y k hy)⟩, fun k hk => Nat.lt_of_lt_of_le (hr0.okLt k hk) hsz, by rw [hput]; exact hr0.dfr, ?_, hr0.dsN⟩, ?_, hc.okLv, fun k hk => hc.own k (hown k hk), hc.okDom, hc.bDom⟩,
  ⟨hos, htape, hout, hsz, fun k hk ho _ => hkeep k hk (fun hx => ho (hXown k hx)), fun k _ hk => hown k hk, fun _ x => x, fun _ _ x => .inl x, fun _ _ x => x, Nat.le_refl _, fun _ _ => rfl, fun _ _ x => .inl x, fun _ _ => rfl⟩⟩
 ·cases dst with
  | none => exact hr0.size
  | some t => simp only [Act.put, Array.size_setIfInBounds]; exact hr0.size
 ·intro t c ht
  cases dst with
  | none =>
   obtain ⟨u, h1, h2⟩ := hr0.tmp t c ht
   exact ⟨u, h1, hmono h2⟩
  | some t' =>
   simp only [writS, look] at ht
   by_cases he : t' = t
   ·rw [if_pos he] at ht; cases ht; subst he
    have hlt : t' < a.tmps.size := by rw [hr0.size]; exact Nat.le_of_ble_eq_true hd
    exact ⟨v, by simp [Act.put, hlt], hres.anyOk hs⟩
   ·rw [if_neg he] at ht
    obtain ⟨u, h1, h2⟩ := hr0.tmp t c ht
    exact ⟨u, by simp only [Act.put]; rw [Array.getElem?_setIfInBounds_ne he]; exact h1, hmono h2⟩
 ·intro b B hB
  rcases hlivB b B hB with ⟨_, i, hi, hBi, B0, _, h2, h3⟩ | ⟨hm, h⟩
  ·obtain ⟨k, us, g1, g2, g3, g4, g5, g6, g7, g8⟩ := hheap.blk i B (look_enumB.2 ⟨Nat.zero_le _, by simpa using hBi⟩)
   obtain ⟨k', us', f1, f2, f3, f4, f5, f6, f7, f8⟩ := hr0.heap.blk b B0 h2
   have hk : (hb[i]?).bind M.μ = some k := g1
   rw [hi] at hk
   have hk' : M.μ b = some k := hk
   rw [f1] at hk'; cases hk'
   obtain ⟨hl, hsc⟩ := hwr.1 B (List.mem_of_getElem? hBi)
   exact ⟨k, us, f1, f2, g3, g4, fun j c u hc hu => (g5 j c u hc hu).anyOk (hsc c (List.mem_of_getElem? hc)), g6, fun _ => f7 h3, fun hf => by rw [hl] at hf; cases hf⟩
  ·obtain ⟨k, us, f1, f2, f3, f4, f5, f6, f7, f8⟩ := hr0.heap.blk b B h
   exact ⟨k, us, f1, f2, (hother (.inl b) k ⟨⟨B, h⟩, f1⟩ hm).trans f3, f4, fun j c u hc hu => hmono (f5 j c u hc hu), f6, f7, f8⟩
 ·intro b R hR
  rcases hlivR b R hR with ⟨_, i, hi, hRi, R0, hR0, h2, h3⟩ | ⟨hm, h⟩
  ·obtain ⟨R0', R2, e1, hR2i, rfl⟩ := backR_get hRi
   rw [hR0] at e1; cases e1
   obtain ⟨u, flat, g1, g2, g3, g4, g5⟩ := hheap.row (100 + i) R2 (look_enumR.2 ⟨by omega, by rw [Nat.add_sub_cancel_left]; exact hR2i⟩)
   obtain ⟨u', flat', f1, f2, f3, f4, f5⟩ := hr0.heap.row b R0 h2
   have hu : (if 100 <= 100 + i then (hr[100 + i - 100]?).bind M.ν else none) = some u := g1
   rw [if_pos (by omega), Nat.add_sub_cancel_left, hi] at hu
   have hu' : M.ν b = some u := hu
   rw [f1] at hu'; cases hu'
   obtain ⟨hl, hn⟩ := hwr.2 R2 (List.mem_of_getElem? hR2i)
   have hnn0 := hnn i R0 R2 hR0 hR2i
   refine ⟨u, flat, f1, ?_, g3.nums hn, f4, fun k hk => ⟨fun _ => (f5 k hk).1 h3, fun hf => by rw [hl] at hf; cases hf⟩⟩
   have hge : ∀ k, ownB u = some k -> base <= k := fun k hk => (f2.at hk).1
   rcases g2 with ⟨a1, a2⟩ | ⟨a1, a2, k, es, clock, a3, a4, a5⟩ | ⟨a1, a2, a3⟩
   ·refine .inl ⟨a1, a2.1, ?_⟩
    rcases a2.2 with a | ⟨g, cap, cur, c1, c2, c3⟩
    ·exact .inl a
    ·exact .inr ⟨g, cap, cur, c1, hge g (by rw [c1]; rfl), c3⟩
   ·exact .inr (.inl ⟨a1, (hnn0 a1).symm.trans a2, k, es, clock, a3, hge k (by rw [a3]; rfl), a5⟩)
   ·refine .inr (.inr ⟨a1, (hnn0 a1).symm.trans a2, ?_⟩)
    rcases a3 with ⟨k, st, p, c1, c2, c3⟩ | ⟨k, km, es, clock, seen, last, c1, c2, c3⟩
    ·exact .inl ⟨k, st, p, c1, hge k (by rw [c1]; rfl), c3⟩
    ·exact .inr ⟨k, km, es, clock, seen, last, c1, hge k (by rw [c1]; rfl), c3⟩
  ·obtain ⟨u, flat, f1, f2, f3, f4, f5⟩ := hr0.heap.row b R h
   exact ⟨u, flat, f1, ownsR_same f2 f3 hokX (fun k hk => hother (.inr b) k ⟨⟨R, h⟩, u, f1, hk⟩ hm), f3.mono (fun _ x => x) hokX, f4, f5⟩
 ·intro D hD
  obtain ⟨h1, h2, h3⟩ := hr0.dsOk D hD
  have hDlt := (Array.getElem?_eq_some_iff.1 h2).1
  refine ⟨h1, (hkeep D hDlt (fun hx => ?_)).trans h2, h3⟩
  obtain ⟨x, _, g1, _⟩ := hX D hx
  obtain ⟨_, _, ob, he, ho⟩ := hr0.heap.at_lt g1
  rw [h2] at he; cases he; cases ho
 ·exact E.frame _ _ _ _ _ hc.j (fun k hk => hkeep k (hlt k hk) (fun hx => by
   have := hc.own k (hXown k hx)
   exact hk.elim this.1 this.2)) hsz
theorem bar_callW {E : Env P} {o : Oper} {S : St} {s : E.σ} {f : Operand} {args : Array Operand} {ts : Array TypeId} {fv : AV} {g : Nat} {caps cs xs : List AV} {hb hr : List Nat} {H Bs : List Blk} {O Rs : List Row} {res : AV}
  (ho : o.op = .call { callee := .value f, args := args, argTypes := ts }) (hf : opnd S.T f = some fv) (hg : fnOf fv = some (g, caps)) (ha : opndL S.T args.toList = some cs) (hbN : hb.Nodup) (hrN : hr.Nodup) (hH : blksOf S hb = some H) (hO : rowsOf S hr = some O)
  (hHd : ∀ B ∈ H, ∀ c ∈ B.cells, c.isd = true) (hx : snapWL S hb hr (cs ++ caps) = some xs) (hBl : Bs.length = H.length) (hRl : Rs.length = O.length) (hnn : ∀ (i : Nat) (R0 R2 : Row), O[i]? = some R0 -> Rs[i]? = some R2 -> R2.sz = 0 -> R2.nn = R0.nn) (hwr : WrOk Bs Rs) (hs : res.scalar = true) (hd : dstOk S o.dst = true)
  (hc : ConW P g xs (enumB 0 H) (enumR 100 (O.map nnS)) res (enumB 0 Bs) (enumR 100 Rs)) : Bar E o S s (writS S o.dst res hb Bs hr (backR O Rs)) s := by
 intro r base M a w hcfg K Q hK
 have hr0 := hcfg.rel
 obtain ⟨bl, bg⟩ := blksOf_get hH
 obtain ⟨rl, rg⟩ := rowsOf_get hO
 obtain ⟨vcs, hfv, hcl, hcr⟩ := fnOf_spec (hr0.opnd hf) hg
 obtain ⟨al, ar⟩ := opndL_get ha
 obtain ⟨sl, sr⟩ := snapWL_get hx
 have hargs : ArgsA w (mpW S M hb hr).ok (mpW S M hb hr).μ (mpW S M hb hr).ν E.l xs (args.map a.eval ++ vcs) := by
  refine ⟨by rw [<- sl, List.length_append, <- al, <- hcl]; simp, fun i x v hxi hv => ?_⟩
  obtain ⟨c, hc, hcx⟩ := sr i x hxi
  refine snapW_spec hr0 8 c x v hcx ?_
  by_cases hi : i < cs.length
  ·rw [List.getElem?_append_left hi] at hc
   obtain ⟨y, hy, hyc⟩ := ar i c hc
   rw [Array.getElem?_append_left (by simp; rw [<- Array.length_toList, al]; exact hi), Array.getElem?_map, <- Array.getElem?_toList, hy] at hv
   simp only [Option.map_some, Option.some.injEq] at hv
   subst hv
   exact hr0.opnd hyc
  ·rw [List.getElem?_append_right (by omega)] at hc
   have hsz : (args.map a.eval).size = cs.length := by simp; rw [<- Array.length_toList, al]
   rw [Array.getElem?_append_right (by rw [hsz]; omega), hsz] at hv
   exact hcr _ c v hc hv
 have hsubAt : ∀ x k, At (lessW S hb hr).H (lessW S hb hr).O M x k -> At S.H S.O M x k := fun x k hx => (lessW_sub S hb hr).at hx
 have hokLt : ∀ k, (mpW S M hb hr).ok k -> k < w.heap.size := by
  rintro k (hk | ⟨_, x, hx, _⟩)
  ·exact hr0.okLt k hk
  ·exact (hr0.heap.at_lt (hsubAt x k hx)).2.1
 have hnotB : ∀ b k, b ∈ hb -> At S.H S.O M (.inl b) k -> ¬ M.ok k -> ¬ (mpW S M hb hr).ok k := by
  rintro b k hm hx hno (hk | ⟨_, x, hx', _⟩)
  ·exact hno hk
  ·have := hr0.heap.inj _ _ k (hsubAt x k hx') hx
   subst this
   obtain ⟨⟨B, hB⟩, _⟩ := hx'
   rw [lessW_H, if_pos (memN_iff.2 hm)] at hB; cases hB
 have hnotR : ∀ b k, b ∈ hr -> At S.H S.O M (.inr b) k -> ¬ M.ok k -> ¬ (mpW S M hb hr).ok k := by
  rintro b k hm hx hno (hk | ⟨_, x, hx', _⟩)
  ·exact hno hk
  ·have := hr0.heap.inj _ _ k (hsubAt x k hx') hx
   subst this
   obtain ⟨⟨B, hB⟩, _⟩ := hx'
   rw [lessW_O, if_pos (memN_iff.2 hm)] at hB; cases hB
 have hheap : HeapOk 0 (enumB 0 H) (enumR 100 (O.map nnS)) (mpW S M hb hr) E.l w := by
  refine ⟨fun i B hB => ?_, fun i R hR => ?_, fun x y k hx hy => ?_⟩
  ·rw [look_enumB] at hB
   obtain ⟨b, h1, h2, h3⟩ := bg i B (by simpa using hB.2)
   obtain ⟨k, us, f1, f2, f3, f4, f5, f6, f7, f8⟩ := hr0.heap.blk b B h2
   refine ⟨k, us, by show (hb[i]?).bind M.μ = some k; rw [h1]; exact f1, Nat.zero_le _, f3, f4, fun j c u hc hu => ?_, f6, fun hl => hnotB b k (List.mem_of_getElem? h1) ⟨⟨B, h2⟩, f1⟩ (f7 hl), fun hl => by rw [h3] at hl; cases hl⟩
   have hcd := hHd B (List.mem_of_getElem? hB.2) c (List.mem_of_getElem? hc)
   have := f5 j c u hc hu
   cases c with
   | d x => cases this with | d h => exact .d (h.mono (fun k x => .inl x) (fun _ _ => rfl))
   | _ => cases hcd
  ·rw [look_enumR] at hR
   obtain ⟨R0, hR0, rfl⟩ := nnS_get hR.2
   obtain ⟨b, h1, h2, h3⟩ := rg _ R0 hR0
   obtain ⟨u, flat, f1, f2, f3, f4, f5⟩ := hr0.heap.row b R0 h2
   have hlv : (nnS R0).live = R0.live := by unfold nnS; split <;> rfl
   have hsz : (nnS R0).sz = R0.sz := by unfold nnS; split <;> rfl
   have hrw : (nnS R0).rows = R0.rows := by unfold nnS; split <;> rfl
   have he : (nnS R0).e = R0.e := by unfold nnS; split <;> rfl
   refine ⟨u, flat, by show (if 100 <= i then (hr[i - 100]?).bind M.ν else none) = some u; rw [if_pos hR.1, h1]; exact f1, ?_, by rw [hsz, hrw]; exact f3.mono (fun k x => .inl x) (fun _ _ => rfl), fun hn => f4 ?_, fun k hk => ⟨fun hl => hnotR b k (List.mem_of_getElem? h1) ⟨⟨R0, h2⟩, u, f1, hk⟩ ((f5 k hk).1 (hlv ▸ hl)), fun hl => by rw [hlv, h3] at hl; cases hl⟩⟩
   ·have := ownsR_lo f2 (Nat.zero_le _)
    rw [he, hsz, hrw]
    by_cases h0 : R0.sz = 0
    ·have : nnS R0 = R0 := by unfold nnS; rw [if_pos h0]
     rw [this]; exact ownsR_lo f2 (Nat.zero_le _)
    ·exact .inl ⟨by omega, this.sl (by omega)⟩
   ·by_cases h0 : R0.sz = 0
    ·have : nnS R0 = R0 := by unfold nnS; rw [if_pos h0]
     rwa [this] at hn
    ·have : (nnS R0).nn = false := by unfold nnS; rw [if_neg h0]
     rw [this] at hn; cases hn
  ·have aux : ∀ x, At (enumB 0 H) (enumR 100 (O.map nnS)) (mpW S M hb hr) x k -> (∃ i b, x = .inl i /\ hb[i]? = some b /\ At S.H S.O M (.inl b) k) \/ (∃ i b, x = .inr (100 + i) /\ hr[i]? = some b /\ At S.H S.O M (.inr b) k) := by
    intro x hx
    cases x with
    | inl i =>
     obtain ⟨⟨B, hB⟩, hk⟩ := hx
     rw [look_enumB] at hB
     obtain ⟨b, h1, h2, h3⟩ := bg i B (by simpa using hB.2)
     have hk' : (hb[i]?).bind M.μ = some k := hk
     rw [h1] at hk'
     exact .inl ⟨i, b, rfl, h1, ⟨B, h2⟩, hk'⟩
    | inr i =>
     obtain ⟨⟨R, hR⟩, u, hu, hk⟩ := hx
     rw [look_enumR] at hR
     obtain ⟨R0, hR0, rfl⟩ := nnS_get hR.2
     obtain ⟨b, h1, h2, h3⟩ := rg _ R0 hR0
     have hu' : (if 100 <= i then (hr[i - 100]?).bind M.ν else none) = some u := hu
     rw [if_pos hR.1, h1] at hu'
     have hi : i = 100 + (i - 100) := by omega
     exact .inr ⟨i - 100, b, congrArg Sum.inr hi, h1, ⟨R0, h2⟩, u, hu', hk⟩
   rcases aux x hx with ⟨i, b, rfl, h1, h2⟩ | ⟨i, b, rfl, h1, h2⟩ <;> rcases aux y hy with ⟨j, d, rfl, g1, g2⟩ | ⟨j, d, rfl, g1, g2⟩
   ·have := hr0.heap.inj _ _ k h2 g2
    simp only [Sum.inl.injEq] at this; subst this
    congr 1
    exact (List.getElem?_inj (List.getElem?_eq_some_iff.1 h1).1 hbN).1 (h1.trans g1.symm)
   ·have := hr0.heap.inj _ _ k h2 g2; cases this
   ·have := hr0.heap.inj _ _ k h2 g2; cases this
   ·have := hr0.heap.inj _ _ k h2 g2
    simp only [Sum.inr.injEq] at this; subst this
    refine congrArg (fun z => Sum.inr (100 + z)) ?_
    exact (List.getElem?_inj (List.getElem?_eq_some_iff.1 h1).1 hrN).1 (h1.trans g1.symm)
 have hcall := hc.2 w (mpW S M hb hr) E.l _ hheap hokLt hargs
 have hrun : (execOp a.eval o).run P w = .ok (.enter g (args.map a.eval ++ vcs)) w := by
  simp only [execOp, ho, resolve, Deferred.ofValue, hfv, Sem.run_bind, Sem.run_pure, Result.andThen, invoke]
  have : (#[] : Array Value) ++ args.map a.eval = args.map a.eval := by simp
  rw [this]; exact hc.1 _ w
 unfold Oper.wpIn
 rw [Oper.semAt_eq _ _ _ (by simp [ho]), hrun]
 refine ⟨fun _ _ => trivial, fun h => (by cases h), ?_⟩
 have hcallsIn : CallsIn (FW r) 0 P g (args.map a.eval ++ vcs) w _ := (callsIn_wide (n := 0)).2 hcall
 refine hcallsIn.mono ?_
 rintro e w' ⟨v, ok', rfl, k1, k2, k3, k4, k5, k6, k7⟩
 obtain ⟨c1, c2⟩ := cfg_callW (dst := o.dst) hcfg hbN hrN hH hO hBl hRl hnn hwr hs hd k1 k2 k3 k4 k5 k6 k7
 exact hK v w' M c1 c2
end Go.Proofs.Ytfilnnbfppokmaa.Aw
namespace Go.Proofs.Ytfilnnbfppokmaa.Aw
open Go Go.RowKit
variable {P : Program}
def ConN (P : Program) (f : Nat) (args : List D) (res : AV) (n : Nat) (RR : List Row -> Prop) : Prop :=
 Ent P f /\ ∀ (w : World) (ok : Nat -> Prop) (vs : Array Value), (∀ k, ok k -> k < w.heap.size) -> Rds w ok args vs ->
  Calls P f vs w fun e w' => ∃ rows, RR rows /\ rows.length = n /\ ∃ v ok' ν', e = .returned v /\ Below w.heap.size w w' /\ (∀ k, ok k -> ok' k) /\ (∀ k, ok' k -> ok k \/ (w.heap.size <= k /\ k < w'.heap.size)) /\
   (∀ μ yl, RdA w' ok' μ ν' yl res v) /\ HeapOk w.heap.size [] (enumR 0 rows) ⟨fun _ => none, ν', ok', fun _ => False, fun _ => False, []⟩ 0 w'
theorem free_callN {o : Oper} {S : St} {f : Operand} {args : Array Operand} {ts : Array TypeId} {fv : AV} {g : Nat} {caps cs : List AV} {xs : List D} {res : AV} {n : Nat} {RR : List Row -> Prop} (q : Nat) (lv : Bool) (ho : o.op = .call { callee := .value f, args := args, argTypes := ts })
  (hf : opnd S.T f = some fv) (hg : fnOf fv = some (g, caps)) (ha : opndL S.T args.toList = some cs) (hx : snapL lv S (cs ++ caps) = some xs) (hlv : lv = true -> res.ownly = true /\ ∀ rows, RR rows -> numRows rows) (hb : res.rowsBelow n = true)
  (hc : ConN P g xs res n RR) {r : Option Nat} {base : Nat} {M : Mp} {yl : Nat} {a : Act} {w : World} (hr : Rel base S M yl a w) {K : Act -> World -> Prop} {Q : Exit -> Act -> World -> Prop}
  (hK : ∀ rows, RR rows -> ∀ v w' M', New M yl w [] (enumR q rows) (res.sh q) v M' w' -> K (a.put o.dst v) w') : o.wpIn (FW r) 0 P a w K Q := by
 obtain ⟨vcs, hfv, hcl, hcr⟩ := fnOf_spec (hr.opnd hf) hg
 obtain ⟨al, ar⟩ := opndL_get ha
 obtain ⟨sl, sr⟩ := snapL_spec hr hx
 have hargs : Rds w (okS lv S M) xs (args.map a.eval ++ vcs) := by
  refine ⟨by rw [<- sl, List.length_append, <- al, <- hcl]; simp, fun i x v hxi hv => sr i x v hxi (fun c hc => ?_)⟩
  by_cases hi : i < cs.length
  ·rw [List.getElem?_append_left hi] at hc
   obtain ⟨y, hy, hyc⟩ := ar i c hc
   rw [Array.getElem?_append_left (by simp; rw [<- Array.length_toList, al]; exact hi), Array.getElem?_map, <- Array.getElem?_toList, hy] at hv
   simp only [Option.map_some, Option.some.injEq] at hv
   subst hv
   exact hr.opnd hyc
  ·rw [List.getElem?_append_right (by omega)] at hc
   have hsz : (args.map a.eval).size = cs.length := by simp; rw [<- Array.length_toList, al]
   rw [Array.getElem?_append_right (by rw [hsz]; omega), hsz] at hv
   exact hcr _ c v hc hv
 have hokLt : ∀ k, okS lv S M k -> k < w.heap.size := by
  rintro k (hk | ⟨_, x, hx, _⟩)
  ·exact hr.okLt k hk
  ·exact (hr.heap.at_lt hx).2.1
 have hcall := hc.2 w _ _ hokLt hargs
 have hrun : (execOp a.eval o).run P w = .ok (.enter g (args.map a.eval ++ vcs)) w := by
  simp only [execOp, ho, resolve, Deferred.ofValue, hfv, Sem.run_bind, Sem.run_pure, Result.andThen, invoke]
  have : (#[] : Array Value) ++ args.map a.eval = args.map a.eval := by simp
  rw [this]; exact hc.1 _ w
 unfold Oper.wpIn
 rw [Oper.semAt_eq _ _ _ (by simp [ho]), hrun]
 refine ⟨fun _ _ => trivial, fun h => (by cases h), ?_⟩
 have hcallsIn : CallsIn (FW r) 0 P g (args.map a.eval ++ vcs) w _ := (callsIn_wide (n := 0)).2 hcall
 refine hcallsIn.mono ?_
 rintro e w' ⟨rows, hRR, hlen, v, ok', ν', rfl, hbel, hokm, hokn, hres, hheap⟩
 have hb : res.rowsBelow rows.length = true := by rw [hlen]; exact hb
 obtain ⟨okN, hN⟩ : ∃ okN : Nat -> Prop, okN = fun k => if lv then M.ok k else ok' k := ⟨_, rfl⟩
 refine hK rows hRR v w' { M with ok := okN, ν := unsh q ν' M.ν rows.length } ⟨hbel, rfl, rfl, rfl, fun _ _ => rfl, fun id hid => ?_, fun k hk => ?_, fun k hk => ?_, ?_, ?_⟩
 ·rw [keys_enumR] at hid
  show unsh q ν' M.ν rows.length id = M.ν id
  unfold unsh; rw [if_neg hid]
 ·subst hN; show (if lv then M.ok k else ok' k)
  cases lv with
  | true => exact hk
  | false => exact hokm k (.inl hk)
 ·subst hN
  have hk' : if lv then M.ok k else ok' k := hk
  cases lv with
  | true => exact .inl hk'
  | false =>
   rcases hokn k hk' with (h | ⟨h, _⟩) | h
   ·exact .inl h
   ·cases h
   ·exact .inr h
 ·subst hN
  cases hlv' : lv with
  | true =>
   obtain ⟨h1, _⟩ := hlv hlv'
   exact ((hres M.μ yl).anyOkR (w' := w') (ok' := fun k => if true = true then M.ok k else ok' k) (μ' := M.μ) (yl' := yl) h1).shift (q := q) (ν := M.ν) hb
  | false =>
   have := (hres M.μ yl).shift (q := q) (ν := M.ν) hb
   refine this.mono (fun k hk => ?_) (fun _ _ => rfl) (fun _ _ => rfl) (fun _ _ => rfl)
   show (if false = true then M.ok k else ok' k)
   simpa using hk
 ·have hrow : ∀ id R, look (enumR q rows) id = some R -> RowOk w.heap.size ⟨fun _ => none, ν', ok', fun _ => False, fun _ => False, []⟩ w' (id - q) R := by
   intro id R hR
   rw [look_enumR] at hR
   exact hheap.row (id - q) R (look_enumR.2 ⟨Nat.zero_le _, by simpa using hR.2⟩)
  refine ⟨fun b B hB => (by cases hB), fun id R hR => ?_, fun x y k hx hy => ?_⟩
  ·obtain ⟨v', flat, h1, h2⟩ := hrow id R hR
   rw [look_enumR] at hR
   have hlt := (List.getElem?_eq_some_iff.1 hR.2).1
   refine ⟨v', flat, ?_, ?_⟩
   ·show unsh q ν' M.ν rows.length id = some v'
    unfold unsh; rw [if_pos (by omega)]; exact h1
   ·subst hN
    cases hlv' : lv with
    | false =>
     have e : (fun k => if false = true then M.ok k else ok' k) = ok' := by funext k; simp
     show ownsR w' _ _ _ _ _ _ _ /\ RowCells w' (fun k => if false = true then M.ok k else ok' k) R.sz R.rows flat /\ _ /\ ∀ k, ownB v' = some k -> (R.live = true -> ¬ (if false = true then M.ok k else ok' k)) /\ (R.live = false -> (if false = true then M.ok k else ok' k))
     rw [e]
     simpa using h2
    | true =>
     obtain ⟨_, hnum⟩ := hlv hlv'
     have hnum := hnum rows hRR
     obtain ⟨hlive, hcells⟩ := hnum R (List.mem_of_getElem? hR.2)
     obtain ⟨g1, g2, g3, g4⟩ := h2
     refine ⟨g1, g2.nums hcells, g3, fun k hk => ⟨fun _ hok => ?_, fun hf => by rw [hlive] at hf; cases hf⟩⟩
     have hok' : M.ok k := by simpa using hok
     have h5 := hr.okLt k hok'
     have h6 := (g1.at hk).1
     omega
  ·have aux : ∀ (x : Nat ⊕ Nat), At [] (enumR q rows) { M with ok := okN, ν := unsh q ν' M.ν rows.length } x k -> ∃ id, x = .inr id /\ q <= id /\ At [] (enumR 0 rows) ⟨fun _ => none, ν', ok', fun _ => False, fun _ => False, []⟩ (.inr (id - q)) k := by
    intro x hx
    cases x with
    | inl b => obtain ⟨⟨_, h⟩, _⟩ := hx; cases h
    | inr id =>
     obtain ⟨⟨R, hR⟩, v', hv, hk⟩ := hx
     rw [look_enumR] at hR
     have hlt := (List.getElem?_eq_some_iff.1 hR.2).1
     refine ⟨id, rfl, hR.1, ⟨R, look_enumR.2 ⟨Nat.zero_le _, by simpa using hR.2⟩⟩, v', ?_, hk⟩
     have hv' : unsh q ν' M.ν rows.length id = some v' := hv
     unfold unsh at hv'; rw [if_pos (by omega)] at hv'; exact hv'
   obtain ⟨i, rfl, hi, h1⟩ := aux x hx
   obtain ⟨j, rfl, hj, h2⟩ := aux y hy
   have := hheap.inj _ _ k h1 h2
   simp only [Sum.inr.injEq] at this
   congr 1; omega
theorem barN_callN {E : Env P} {o : Oper} {S : St} {s : E.σ} {f : Operand} {args : Array Operand} {ts : Array TypeId} {fv : AV} {g : Nat} {caps cs : List AV} {xs : List D} {RR : Row -> Prop} (q : Nat) (ho : o.op = .call { callee := .value f, args := args, argTypes := ts })
  (hf : opnd S.T f = some fv) (hg : fnOf fv = some (g, caps)) (ha : opndL S.T args.toList = some cs) (hx : snapL true S (cs ++ caps) = some xs) (hn : ∀ R, RR R -> numRows [R]) (hfr : ∀ R, RR R -> Fresh S [] [(q, R)]) (hd : dstOk S o.dst = true)
  (hc : ConN P g xs (.osl 0) 1 (fun rows => ∃ R, RR R /\ rows = [R])) : BarN E o S s (fun S' s' => ∃ R, RR R /\ S' = S.add o.dst (.osl q) [] [(q, R)] /\ s' = s) := by
 intro r base M a w hcfg K Q hK
 refine free_callN q true ho hf hg ha hx (fun _ => ⟨rfl, ?_⟩) rfl hc hcfg.rel (fun rows hrows v w' M' hnew => ?_)
 ·rintro rows ⟨R, hR, rfl⟩
  exact hn R hR
 ·obtain ⟨R, hR, rfl⟩ := hrows
  have e : enumR q [R] = [(q, R)] := rfl
  rw [e] at hnew
  have hnew : New M E.l w [] [(q, R)] (.osl q) v M' w' := by simpa [AV.sh] using hnew
  obtain ⟨c1, c2⟩ := hcfg.new hnew (hfr R hR) hd
  exact hK _ _ _ _ _ ⟨R, hR, rfl, rfl⟩ c1 c2
end Go.Proofs.Ytfilnnbfppokmaa.Aw
