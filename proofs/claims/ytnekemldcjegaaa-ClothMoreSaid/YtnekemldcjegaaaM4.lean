/- Part 4 of the proof: lemmas. -/
import Derived.Test.YtnekemldcjegaaaM3
import Derived.Deep.Slices
import Derived.ProofKit

/- The logic of abstract walks, part N3: walks beside a plain model. -/
namespace Go.Proofs.Ytnekemldcjegaaa.Aw
open Go Go.RowKit
set_option linter.unusedVariables false
set_option linter.unusedSimpArgs false
universe u
variable {P : Program} {E : Env P} {base : Nat} {r : Option Nat} {post : KV → List KRow → Prop} {tb : Nat → Option TI}

/-! States that say less, by value. -/
theorem weak_v {S S' : St} (hn : S'.n = S.n) (hl : S.low = S'.low) (hT : ∀ t c, look S'.T t = some c → ∃ c0, look S.T t = some c0 ∧ leA c0 c)
    (hH : ∀ b B, look S'.H b = some B → ∃ cs l, look S.H b = some ⟨B.e, cs, l⟩ ∧ leAL cs B.cells ∧ (B.live = true → l = true))
    (hO : ∀ b R, look S'.O b = some R → ∃ nn l, look S.O b = some ⟨R.e, R.sz, R.rows, nn, l⟩ ∧ (R.nn = true → nn = true) ∧ (R.live = true → l = true)) : Weak S S' := by
  intro P E base s M a w hc
  have hr := hc.rel
  have hmu : ∀ x k, At S'.H S'.O M x k → At S.H S.O M x k := by
    intro x k hx
    cases x with
    | inl b => obtain ⟨⟨B, hB⟩, hk⟩ := hx; obtain ⟨_, l, h1, _⟩ := hH b B hB; exact ⟨⟨_, h1⟩, hk⟩
    | inr b => obtain ⟨⟨B, hB⟩, hk⟩ := hx; obtain ⟨_, l, h1, _⟩ := hO b B hB; exact ⟨⟨_, h1⟩, hk⟩
  let fz : Nat → Prop := fun k => (∃ x, At S'.H S'.O M x k ∧ ¬ Liv S'.H S'.O x) ∧ ∃ x, At S.H S.O M x k ∧ Liv S.H S.O x
  let M' : Mp := { M with ok := fun k => M.ok k ∨ fz k }
  have hfz : ∀ k, fz k → Own S M k := fun k hk => .inl hk.2
  have hat : ∀ (H : List (Nat × Blk)) (O : List (Nat × Row)) x k, At H O M' x k ↔ At H O M x k := fun H O x k => by cases x <;> exact Iff.rfl
  have hlive : ∀ x, Liv S'.H S'.O x → Liv S.H S.O x := by
    intro x hx
    cases x with
    | inl b => obtain ⟨B, hB, hl⟩ := hx; obtain ⟨_, l, h1, _, h2⟩ := hH b B hB; exact ⟨_, h1, h2 hl⟩
    | inr b => obtain ⟨B, hB, hl⟩ := hx; obtain ⟨_, l, h1, _, h2⟩ := hO b B hB; exact ⟨_, h1, h2 hl⟩
  have hown : ∀ k, Own S' M' k → Own S M k := by
    rintro k (⟨x, hx, hl⟩ | hd)
    · exact .inl ⟨x, hmu x k ((hat _ _ x k).1 hx), hlive x hl⟩
    · exact .inr hd
  have hmono : ∀ {c v}, RdA w M.ok M.μ M.ν E.l c v → RdA w M'.ok M'.μ M'.ν E.l c v := fun hv => hv.mono (fun k x => .inl x) (fun _ _ => rfl) (fun _ _ => rfl) (fun _ _ => rfl)
  refine ⟨M', ⟨⟨hr.lo, hr.size.trans hn.symm, ?_, ⟨?_, ?_, ?_⟩, ?_, hr.dfr, ?_, hr.dsN⟩, hc.j, ?_, fun k hk => hc.own k (hown k hk), ?_, hc.bDom⟩,
    ⟨rfl, rfl, rfl, Nat.le_refl _, fun _ _ _ _ => rfl, fun k _ hk => hown k hk, fun k x => .inl x, ?_, fun _ _ x => x, Nat.le_of_eq hl, fun _ _ => rfl, fun _ _ x => .inl x⟩⟩
  · intro t c ht
    obtain ⟨c0, h1, hle⟩ := hT t c ht
    obtain ⟨v, h2, h3⟩ := hr.tmp t c0 h1
    exact ⟨v, h2, (hmono h3).le hle⟩
  · intro b B hB
    obtain ⟨cs, l, h1, hcs, h2⟩ := hH b B hB
    obtain ⟨k, vs, e1, e2, e3, e4, e5, e6, e7, e8⟩ := hr.heap.blk b _ h1
    obtain ⟨g1, g2⟩ := leAL_get hcs
    refine ⟨k, vs, e1, e2, e3, e4.trans g1, fun i c v hi hv => ?_, e6, ?_, ?_⟩
    · obtain ⟨x, hx1, hx2⟩ := g2 i c hi
      exact (hmono (e5 i x v hx1 hv)).le hx2
    · rintro hl (hk | ⟨⟨x, hx, hnl⟩, _⟩)
      · exact e7 (h2 hl) hk
      · have : x = .inl b := hr.heap.inj x (.inl b) k (hmu x k hx) ⟨⟨_, h1⟩, e1⟩
        subst this; exact hnl ⟨B, hB, hl⟩
    · intro hl
      cases l with
      | false => exact .inl (e8 rfl)
      | true => exact .inr ⟨⟨.inl b, ⟨⟨B, hB⟩, e1⟩, fun ⟨B2, hB2, hl2⟩ => by rw [hB] at hB2; cases hB2; rw [hl] at hl2; cases hl2⟩, .inl b, ⟨⟨_, h1⟩, e1⟩, ⟨_, h1, rfl⟩⟩
  · intro b R hR
    obtain ⟨nn, l, h1, hnn, h2⟩ := hO b R hR
    obtain ⟨v, flat, e1, e2, e3, e4, e5⟩ := hr.heap.row b _ h1
    refine ⟨v, flat, e1, e2, e3.mono (fun k x => .inl x) (fun _ _ => rfl), fun h => e4 (hnn h), fun k hk => ⟨?_, ?_⟩⟩
    · rintro hl (hk' | ⟨⟨x, hx, hnl⟩, _⟩)
      · exact (e5 k hk).1 (h2 hl) hk'
      · have : x = .inr b := hr.heap.inj x (.inr b) k (hmu x k hx) ⟨⟨_, h1⟩, v, e1, hk⟩
        subst this; exact hnl ⟨R, hR, hl⟩
    · intro hl
      cases l with
      | false => exact .inl ((e5 k hk).2 rfl)
      | true => exact .inr ⟨⟨.inr b, ⟨⟨R, hR⟩, v, e1, hk⟩, fun ⟨B2, hB2, hl2⟩ => by rw [hR] at hB2; cases hB2; rw [hl] at hl2; cases hl2⟩, .inr b, ⟨⟨_, h1⟩, v, e1, hk⟩, ⟨_, h1, rfl⟩⟩
  · intro x y k hx hy
    exact hr.heap.inj x y k (hmu x k ((hat _ _ x k).1 hx)) (hmu y k ((hat _ _ y k).1 hy))
  · rintro k (hk | hk)
    · exact hr.okLt k hk
    · obtain ⟨x, hx, _⟩ := hk.2; exact (hr.heap.at_lt hx).2.1
  · intro D hD
    obtain ⟨h1, h2, h3⟩ := hr.dsOk D hD
    refine ⟨h1, h2, ?_⟩
    rintro (hk | hk)
    · exact h3 hk
    · obtain ⟨x, hx, _⟩ := hk.2
      obtain ⟨_, _, vs, e, he⟩ := hr.heap.at_lt hx
      rw [h2] at he; cases he
  · rintro k (hk | hk)
    · exact hc.okLv k hk
    · exact (hc.own k (hfz k hk)).1
  · rintro k (hk | hk)
    · exact hc.okDom k hk
    · obtain ⟨x, hx, _⟩ := hk.2; exact hc.bDom k (hr.heap.at_lt hx).1
  · rintro k _ (hk | hk)
    · exact .inl hk
    · exact .inr (hfz k hk)
/-- c says what d says, or more. -/
def LV (c d : KV) : Prop := leA c.av d.av
def LVL : List KV → List KV → Prop
  | [], q => q = []
  | c :: r, q => match q with
    | [] => False
    | d :: q => LV c d ∧ LVL r q
def LBl (B C : KBlk) : Prop := B.e = C.e ∧ LVL B.cells C.cells ∧ (C.live = true → B.live = true)
def LRo (B C : KRow) : Prop := B.e = C.e ∧ B.sz = C.sz ∧ rowsD B.sz B.ps = rowsD B.sz C.ps ∧ (C.nn = true → B.nn = true) ∧ (C.live = true → B.live = true)
mutual
theorem leA_refl : ∀ (c : AV), leA c c
  | .d x => leD_refl x
  | .agg l => leAL_refl l
  | .tup l => leAL_refl l
  | .any => rfl
  | .fn f cs => rfl
  | .loc b o => rfl
  | .asl a b c d => rfl
  | .osl i => rfl
  | .oloc a b c d => rfl
  | .yld => rfl
theorem leAL_refl : ∀ (l : List AV), leAL l l
  | [] => rfl
  | c :: r => ⟨leA_refl c, leAL_refl r⟩
end
theorem LV_refl (c : KV) : LV c c := leA_refl _
theorem LV_eq {c d : KV} (h : c.av = d.av) : LV c d := by unfold LV; rw [h]; exact leA_refl _
theorem LVL_refl : ∀ (l : List KV), LVL l l
  | [] => rfl
  | c :: r => ⟨LV_refl c, LVL_refl r⟩
theorem LVL_spec : ∀ {l q : List KV}, LVL l q → leAL (KV.avL l) (KV.avL q)
  | [], q, h => by cases (h : q = []); exact rfl
  | c :: r, [], h => h.elim
  | c :: r, d :: q, h => ⟨h.1, LVL_spec h.2⟩
theorem LV_agg {l q : List KV} (h : LVL l q) : LV (.agg l) (.agg q) := LVL_spec h
theorem LV_tup {l q : List KV} (h : LVL l q) : LV (.tup l) (.tup q) := LVL_spec h
/-- A slice of one's own cells, or of others. -/
theorem LV_sl {c : Bool} {sz : Nat} {α : Type} {d : α} {l : List α} {f : α → Nat → KV} : LV (.sl c sz α d l f) (.sl false sz α d l f) := ⟨.inl rfl, rfl, leDLL_refl _⟩
theorem LV_slr {c : Bool} {sz : Nat} {rows : List (List KV)} {α : Type} {d : α} {l : List α} {f : α → Nat → KV} (h : KV.toDLL rows = l.map fun a => rowD sz 0 fun j => (f a j).toD) : LV (.slr c sz rows) (.sl false sz α d l f) :=
  ⟨.inl rfl, rfl, by rw [h]; exact leDLL_refl _⟩
theorem LV_slr_le {c : Bool} {sz : Nat} {rows : List (List KV)} {α : Type} {d : α} {l : List α} {f : α → Nat → KV} (h : leDLL (KV.toDLL rows) (l.map fun a => rowD sz 0 fun j => (f a j).toD)) : LV (.slr c sz rows) (.sl false sz α d l f) :=
  ⟨.inl rfl, rfl, h⟩
theorem LV_nil {c : Bool} {sz : Nat} {α : Type} {d : α} {f : α → Nat → KV} : LV .nilsl (.sl c sz α d [] f) := (rfl : ([] : List (List D)) = [])
theorem LV_raw {c : Bool} {sz : Nat} {rows : List (List D)} {α : Type} {d : α} {l : List α} {f : α → Nat → KV} (h : rows = l.map fun a => rowD sz 0 fun j => (f a j).toD) : LV (.d (.sl c sz rows)) (.sl false sz α d l f) :=
  ⟨.inl rfl, rfl, by rw [h]; exact leDLL_refl _⟩
def lvT (T : List (Nat × KV)) : List (Nat × KV) → Prop
  | [] => True
  | (t, c) :: r => (match lk T t with | some v => LV v c | none => False) ∧ lvT T r
def lvH (T : List (Nat × KBlk)) : List (Nat × KBlk) → Prop
  | [] => True
  | (t, c) :: r => (match lk T t with | some v => LBl v c | none => False) ∧ lvH T r
def lvO (T : List (Nat × KRow)) : List (Nat × KRow) → Prop
  | [] => True
  | (t, c) :: r => (match lk T t with | some v => LRo v c | none => False) ∧ lvO T r
theorem lvT_spec {T : List (Nat × KV)} : ∀ {T' : List (Nat × KV)}, lvT T T' → ∀ t c, look (mapT T') t = some c → ∃ c0, look (mapT T) t = some c0 ∧ leA c0 c
  | [], _, t, c, h => by cases h
  | (k, v) :: q, h, t, c, hc => by
    rw [look_mapT, lk_cons] at hc
    by_cases e : k = t
    · subst e
      rw [if_pos rfl] at hc
      cases hc
      have := h.1
      split at this
      · rename_i v0 hv; exact ⟨_, by rw [look_mapT, hv]; rfl, this⟩
      · exact this.elim
    · rw [if_neg e, ← look_mapT] at hc
      exact lvT_spec h.2 t c hc
theorem lvH_spec {T : List (Nat × KBlk)} : ∀ {T' : List (Nat × KBlk)}, lvH T T' → ∀ b B, look (mapH T') b = some B → ∃ cs l, look (mapH T) b = some ⟨B.e, cs, l⟩ ∧ leAL cs B.cells ∧ (B.live = true → l = true)
  | [], _, t, c, h => by cases h
  | (k, v) :: q, h, t, c, hc => by
    rw [look_mapH, lk_cons] at hc
    by_cases e : k = t
    · subst e
      rw [if_pos rfl] at hc
      cases hc
      have := h.1
      split at this
      · rename_i v0 hv
        obtain ⟨e1, e2, e3⟩ := this
        exact ⟨_, _, by rw [look_mapH, hv]; simp only [Option.map_some, KBlk.blk, e1], LVL_spec e2, e3⟩
      · exact this.elim
    · rw [if_neg e, ← look_mapH] at hc
      exact lvH_spec h.2 t c hc
theorem lvO_spec {T : List (Nat × KRow)} : ∀ {T' : List (Nat × KRow)}, lvO T T' → ∀ b R, look (mapO T') b = some R → ∃ nn l, look (mapO T) b = some ⟨R.e, R.sz, R.rows, nn, l⟩ ∧ (R.nn = true → nn = true) ∧ (R.live = true → l = true)
  | [], _, t, c, h => by cases h
  | (k, v) :: q, h, t, c, hc => by
    rw [look_mapO, lk_cons] at hc
    by_cases e : k = t
    · subst e
      rw [if_pos rfl] at hc
      cases hc
      have := h.1
      split at this
      · rename_i v0 hv
        obtain ⟨e1, e2, e3, e4, e5⟩ := this
        refine ⟨_, _, by rw [look_mapO, hv]; simp only [Option.map_some, KRow.row, e1, e2, e3]; rw [← e2, e3], e4, e5⟩
      · exact this.elim
    · rw [if_neg e, ← look_mapO] at hc
      exact lvO_spec h.2 t c hc
theorem weak_l {S S' : KSt} (hn : S'.n = S.n) (hl : S.low = S'.low) (hT : lvT S.T S'.T) (hH : lvH S.H S'.H) (hO : lvO S.O S'.O) : Weak S.st S'.st :=
  weak_v hn hl (lvT_spec hT) (lvH_spec hH) (lvO_spec hO)
/-! Rows: pieces put together. -/
theorem LRo_of {e sz : Nat} {ps qs : List KP} {nn nn' live live' : Bool} (h : rowsD sz ps = rowsD sz qs) (h1 : nn' = true → nn = true) (h2 : live' = true → live = true) : LRo ⟨e, sz, ps, nn, live⟩ ⟨e, sz, qs, nn', live'⟩ := ⟨rfl, rfl, h, h1, h2⟩
/-- A slice that is nil, as an empty row of one's own. -/
theorem weak_nil {S : KSt} (t id e sz : Nat) (ht : lk S.T t = some .nilsl) (hsz : Nat.blt 0 sz = true) (hf : freshKO S [(id, ⟨e, sz, [], false, true⟩)] = true) (hd : dstK S (some t) = true) : Weak S.st (S.add (some t) (.osl id) [] [(id, ⟨e, sz, [], false, true⟩)]).st := by
  intro P E base s M a w hc
  have hr := hc.rel
  have hlk : look S.st.T t = some (.d .nilsl) := by rw [st_look, ht]; rfl
  obtain ⟨v, hv1, hv2⟩ := hr.tmp t _ hlk
  have hvn : v = .slice none 0 0 := by cases hv2 with | d h => cases h; rfl
  subst hvn
  have hput : a.put (some t) (.slice none 0 0) = a := by
    obtain ⟨tmps, defers⟩ := a
    have hv1 : tmps[t]? = some (.slice none 0 0) := hv1
    obtain ⟨hlt, hg⟩ := Array.getElem?_eq_some_iff.1 hv1
    simp only [Act.put]
    congr 1
    apply Array.ext
    · simp
    · intro i h1 h2
      rw [Array.getElem_setIfInBounds]
      split
      · rename_i e; subst e; exact hg.symm
      · rfl
  have hnew : New M E.l w [] [(id, ⟨e, sz, [], false, true⟩)] (.osl id) (.slice none 0 0) (setν M id (.slice none 0 0)) w := by
    refine ⟨Below.refl _ _, rfl, rfl, rfl, fun _ _ => rfl, fun b hb => ?_, fun k x => x, fun k x => .inl x, .osl (by simp [setν]) rfl, ⟨fun b B h => (by cases h), fun id' R hR => ?_, fun x y k hx hy => ?_⟩⟩
    · have : ¬ b = id := fun e => hb (by simp [keys, e])
      simp [setν, this]
    · simp only [look] at hR
      by_cases hbb : id = id'
      · rw [if_pos hbb] at hR; cases hR; subst hbb
        exact ⟨.slice none 0 0, [], by simp [setν], ⟨by simp, .inl ⟨rfl, rfl⟩⟩, ⟨fun row h => (by cases h), fun i row j c h => by simp at h⟩, fun h => (by cases h), fun k hk => by cases hk⟩
      · rw [if_neg hbb] at hR; cases hR
    · cases x with
      | inl b => obtain ⟨⟨_, h⟩, _⟩ := hx; cases h
      | inr x =>
        obtain ⟨⟨_, hx1⟩, v, hx2, hx3⟩ := hx
        simp only [look] at hx1
        by_cases h1 : id = x
        · subst h1
          have : v = .slice none 0 0 := by simpa [setν] using hx2.symm
          subst this; cases hx3
        · rw [if_neg h1] at hx1; cases hx1
  have := hc.new hnew (dst := some t) (freshK_spec (S := S) (nh := []) (no := [(id, ⟨e, sz, [], false, true⟩)]) rfl hf) (dstK_spec hd)
  rw [hput] at this
  rw [KSt.add_st]
  exact ⟨_, this⟩

theorem leDLL_eq {a b : List (List D)} (h : a = b) : leDLL a b := h ▸ leDLL_refl a
/-! Short names for what is printed. -/
theorem lR {c : KV} : LV c c := leA_refl _
theorem lE {c d : KV} (h : c.av = d.av := by rfl) : LV c d := LV_eq h
theorem lB {B C : KBlk} (h : LVL B.cells C.cells) (h1 : B.e = C.e := by rfl) (h2 : C.live = true → B.live = true := by exact fun _ => rfl) : LBl B C := ⟨h1, h, h2⟩
theorem lO {B C : KRow} (h : rowsD B.sz B.ps = rowsD B.sz C.ps := by first | rfl | (simp only [rowsD, KP.rows, KV.toDLL, List.map_append, List.map_cons, List.map_nil, List.append_nil, List.nil_append, List.append_assoc, List.singleton_append, List.cons_append, List.map_replicate]; rfl) | (simp only [primK, rowsD, KP.rows, KV.toDLL, List.map_append, List.map_cons, List.map_nil, List.append_nil, List.map_replicate]; rfl))
    (h1 : B.e = C.e := by rfl) (h2 : B.sz = C.sz := by rfl) (h3 : C.nn = true → B.nn = true := by first | exact fun _ => rfl | exact fun h => (by cases h)) (h4 : C.live = true → B.live = true := by first | exact fun _ => rfl | exact fun h => (by cases h)) : LRo B C := ⟨h1, h2, h, h3, h4⟩
def cel (l : List KV) (j : Nat) : KV := match nth l j with
  | some c => c
  | none => .any
/-! Contracts whose result says more. -/
theorem con_introL {f : Nat} {fn : Func} {c : Code} (hf : P.funcs[f]? = some fn) (hb : fn.body = some c) (hent : Ent P f) {args : List D} (hn : Nat.ble args.length fn.ntmps = true) {res : AV} {rows : List Row}
    (h : ∀ base, AW (noEnv P) base none c (S0 fn.ntmps args) () (fun e S _ => (e = .normal ∨ e = .ret) ∧ ∃ rv, leA rv res ∧ RetOk P fn S rv rows)) : Con P f args res rows := by
  refine ⟨hent, fun w ok vs hok hvs => (callsIn_wide (n := 0)).1 ?_⟩
  refine callsIn_of_wp_marks (F := FW none) (n := 0) hf hb trivial ?_
  let M0 : Mp := ⟨fun _ => none, fun _ => none, ok, fun _ => False, fun _ => False, []⟩
  have hn' := Nat.le_of_ble_eq_true hn
  have hr0 : Rel w.heap.size (S0 fn.ntmps args) M0 (noEnv P).l { tmps := vs ++ Array.replicate (fn.ntmps - vs.size) undef, defers := [] } w := by
    refine ⟨Nat.le_refl _, ?_, fun t c ht => ?_, ⟨fun b B hB => (by cases hB), fun b B hB => (by cases hB), fun x y k hx => by cases x <;> (obtain ⟨⟨_, h⟩, _⟩ := hx; cases h)⟩, hok, rfl, fun D hD => (by cases hD), List.nodup_nil⟩
    · show (vs ++ Array.replicate (fn.ntmps - vs.size) undef).size = fn.ntmps
      rw [Array.size_append, Array.size_replicate, hvs.1]; omega
    · obtain ⟨_, x, h1, rfl⟩ := look_argT ht
      rw [Nat.sub_zero] at h1
      have hlt := (List.getElem?_eq_some_iff.1 h1).1
      obtain ⟨v, hv⟩ : ∃ v, vs[t]? = some v := ⟨vs[t]'(by rw [hvs.1]; exact hlt), by simp⟩
      exact ⟨v, by show (vs ++ _)[t]? = some v; rw [Array.getElem?_append_left (by rw [hvs.1]; exact hlt)]; exact hv, toAV_spec (hvs.2 t x v h1 hv)⟩
  have hown0 : ∀ k, ¬ Own (S0 fn.ntmps args) M0 k := by
    rintro k (⟨x, hx, _⟩ | hd)
    · cases x <;> (obtain ⟨⟨_, h⟩, _⟩ := hx; cases h)
    · cases hd
  have hc0 : Cfg (noEnv P) w.heap.size (S0 fn.ntmps args) () M0 { tmps := vs ++ Array.replicate (fn.ntmps - vs.size) undef, defers := [] } w :=
    ⟨hr0, ⟨fun _ h => h, fun _ h => h⟩, fun _ _ h => h, fun k hk => absurd hk (hown0 k), fun _ _ => trivial, fun _ _ => trivial⟩
  refine wpIn_mono (h w.heap.size M0 _ w hc0) ?_
  rintro e a' w' ⟨S', s', M', ⟨he, hret⟩, hc', hx⟩
  have hgoal : LeavesInM (FW none) 0 P fn a'.tmps (fun e w' => ∃ v ok' ν', e = .returned v ∧ Below w.heap.size w w' ∧ (∀ k, ok k → ok' k) ∧ (∀ k, ok' k → ok k ∨ (w.heap.size ≤ k ∧ k < w'.heap.size)) ∧
      (∀ μ yl, RdA w' ok' μ ν' yl res v) ∧ HeapOk w.heap.size [] (enumR 0 rows) ⟨fun _ => none, ν', ok', fun _ => False, fun _ => False, []⟩ 0 w') a'.defers .returning w' := by
    rw [hc'.rel.dfr]
    have hbel : Below w.heap.size w w' := ⟨hx.os, hx.tape, hx.output, hx.size, fun k hk => hx.keep k hk (hown0 k) (fun h => h)⟩
    refine leaves_marks (S := S') (base := w.heap.size) (w0 := w) (Nat.le_refl _) M'.ds M' a' w' rfl hc'.rel hbel (fun M2 a2 w2 hr2 hb2 e1 e2 e3 e4 e5 => ?_)
    obtain ⟨rv, hle, cs, ids, h1, h2, h3, h4⟩ := hret
    obtain ⟨v, h5, h6⟩ := run_results (P := P) (fn := fn) hr2 h1
    rw [← e4]
    obtain ⟨r1, r2⟩ := rowsOf_get h3
    have hsub := lessO_sub S' ids
    refine ⟨v, h5, v, okS true (lessO S' ids) M2, fun i => (ids[i]?).bind M2.ν, rfl, hb2, fun k hk => .inl (e3 ▸ hx.okm k hk), fun k hk => ?_, fun μ yl => (ret3_spec hr2 (fun i id hi => by simp [hi]) h2 h6 μ yl).le hle, ⟨fun b B hB => (by cases hB), fun i R hR => ?_, fun x y k hx' hy' => ?_⟩⟩
    · rcases hk with hk | ⟨_, x, hx', _⟩
      · rw [e3] at hk
        by_cases hlt : k < w.heap.size
        · rcases hx.okn k hlt hk with h | h
          · exact .inl h
          · exact absurd h (hown0 k)
        · exact .inr ⟨by omega, by rw [e5]; exact hc'.rel.okLt k hk⟩
      · obtain ⟨g1, g2, _⟩ := hr2.heap.at_lt (hsub.at hx')
        exact .inr ⟨g1, g2⟩
    · rw [look_enumR] at hR
      obtain ⟨id, i1, i2, i3⟩ := r2 i R (by simpa using hR.2)
      obtain ⟨v', flat, f1, f2, f3, f4, f5⟩ := hr2.heap.row id R i2
      refine ⟨v', flat, by simp [i1, f1], f2, f3.mono (fun k x => .inl x) (fun _ _ => rfl), f4, fun k hk => ⟨fun hl hh => ?_, fun hl => by rw [i3] at hl; cases hl⟩⟩
      rcases hh with hh | ⟨_, x, hx', _⟩
      · exact (f5 k hk).1 hl hh
      · have := hr2.heap.inj x (.inr id) k (hsub.at hx') ⟨⟨R, i2⟩, v', f1, hk⟩
        subst this
        obtain ⟨⟨R', hR'⟩, _⟩ := hx'
        rw [lessO_not (List.mem_of_getElem? i1)] at hR'; cases hR'
    · have aux : ∀ x : Nat ⊕ Nat, At [] (enumR 0 rows) ⟨fun _ => none, fun i => (ids[i]?).bind M2.ν, okS true (lessO S' ids) M2, fun _ => False, fun _ => False, []⟩ x k → ∃ i id, x = .inr i ∧ ids[i]? = some id ∧ At S'.H S'.O M2 (.inr id) k := by
        intro x hx'
        cases x with
        | inl b => obtain ⟨⟨_, h⟩, _⟩ := hx'; cases h
        | inr i =>
          obtain ⟨⟨R, hR⟩, v', hv, hk⟩ := hx'
          rw [look_enumR] at hR
          obtain ⟨id, i1, i2, i3⟩ := r2 i R (by simpa using hR.2)
          have hv' : (ids[i]?).bind M2.ν = some v' := hv
          rw [i1] at hv'
          exact ⟨i, id, rfl, i1, ⟨R, i2⟩, v', hv', hk⟩
      obtain ⟨i, id, rfl, hi, g1⟩ := aux x hx'
      obtain ⟨j, jd, rfl, hj, g2⟩ := aux y hy'
      have := hr2.heap.inj _ _ k g1 g2
      simp only [Sum.inr.injEq] at this
      subst this
      congr 1
      exact (List.getElem?_inj (List.getElem?_eq_some_iff.1 hi).1 h4).1 (hi.trans hj.symm)
  rcases he with rfl | rfl
  · exact hgoal
  · exact hgoal
def endL (res : KV) (rows : List KRow) : KV → List KRow → Prop := fun v rs => LV v res ∧ rs.map KRow.row = rows.map KRow.row
theorem con_l {f : Nat} {fn : Func} {c : Code} {args : List KV} {res : KV} {rows : List KRow} (ids : List Nat) (pz : List Nat) (hT : SeatOk P tb) (hf : P.funcs[f]? = some fn) (hb : fn.body = some c) (hent : Ent P f)
    (hdr : drawsOk c = true) (hn : Nat.ble (lenK args) fn.ntmps = true) (ha : okArgs args = true) (hid : ids.Nodup)
    (h : ∀ base I, I = primK P (noEnv P) base none (endL res rows) → wpK I tb pz c (KS0 fn.ntmps args) () (retKQ I tb fn.results.toList ids)) : KC P f args res rows := by
  refine con_introL hf hb hent (by rw [toDL_len]; exact hn) fun base => ?_
  have := wpK_aw hT.mix hT.tab hdr (h base _ rfl)
  rw [show (KS0 fn.ntmps args).st = S0 fn.ntmps (KV.toDL args) from by simp only [KS0, KSt.st, S0, argK_spec ha]; rfl] at this
  refine AW_weakQ (this.mono ?_)
  rintro e S s ⟨S', hw, hq⟩
  refine ⟨S'.st, hw, ?_⟩
  unfold retKQ at hq
  split at hq
  · rename_i he
    replace hq := kk_spec hq; obtain ⟨cs, h1, hq⟩ := hq
    replace hq := kk_spec hq; obtain ⟨v, h2, hq⟩ := hq
    replace hq := kk_spec hq; obtain ⟨rs, h3, hq⟩ := hq
    obtain ⟨e1, e2⟩ := (hq : leA v.av res.av ∧ rs.map KRow.row = rows.map KRow.row)
    refine ⟨?_, v.av, e1, KV.avL cs, ids, resKL_spec hT.tab h1, ?_, ?_, hid⟩
    · cases e <;> first | exact .inl rfl | exact .inr rfl | cases he
    · rw [← oneK_spec, ret3K_spec h2]
    · rw [rowsOfK_spec h3, e2]
  · exact hq.elim

/-! Plain models. -/
def fitsN (n bytes : Nat) : Prop := n * bytes ≤ 140737488355328 ∧ n ≤ 140737488355328
instance {n bytes : Nat} : Decidable (fitsN n bytes) := inferInstanceAs (Decidable (_ ∧ _))
def mkOk (n : Int) (bytes : Nat) : Prop := 0 ≤ n ∧ (bytes : Int) * n ≤ 281474976710656 ∧ n ≤ 9223372036854775807
instance {n : Int} {bytes : Nat} : Decidable (mkOk n bytes) := inferInstanceAs (Decidable (_ ∧ _ ∧ _))
def getO {α : Type} (d : α) (l : List α) (i : Int) : Option α := if 0 ≤ i ∧ i < ((l.length : Nat) : Int) then some (l.getD i.toNat d) else none
def loopO {σ ρ : Type} (step : σ → Option (σ ⊕ ρ)) : Nat → σ → Option ρ
  | 0, _ => none
  | n + 1, s => match step s with
    | none => none
    | some (.inl s') => loopO step n s'
    | some (.inr q) => some q
def rangeO {υ σ ρ : Type} (step : υ → σ → Option (σ ⊕ ρ)) : List υ → σ → Option (σ ⊕ ρ)
  | [], s => some (.inl s)
  | y :: ys, s => match step y s with
    | none => none
    | some (.inl s') => rangeO step ys s'
    | some (.inr q) => some (.inr q)

theorem L_tst {I : Prim E.σ} (hI : I = primK P E base r post) {α : Type} {b b' : Bool} {X Y : Option α} {o : α} {A B : Prop} (h : (if b = true then X else Y) = some o) (e : b' = b) (k1 : X = some o → A) (k2 : Y = some o → B) : I.tst b' A B := by
  subst hI; subst e
  cases b' with
  | true => exact ⟨fun _ => k1 h, fun e => by cases e⟩
  | false => exact ⟨fun e => by (cases e), fun _ => k2 h⟩
theorem L_conj {I : Prim E.σ} (hI : I = primK P E base r post) {α : Type} {C C' : Prop} [Decidable C] {X : Option α} {o : α} {B : Prop} (h : (if C then X else none) = some o) (e : C → C') (k : C → X = some o → B) : I.conj C' B := by
  subst hI
  by_cases hc : C
  · rw [if_pos hc] at h; exact ⟨e hc, k hc h⟩
  · rw [if_neg hc] at h; cases h
theorem L_get {I : Prim E.σ} (hI : I = primK P E base r post) {α β : Type} {d : α} {l : List α} {i : Int} {k : α → Option β} {o : β} {C' B : Prop} (h : (getO d l i).bind k = some o) (e : (0 ≤ i ∧ i < ((l.length : Nat) : Int)) → C') (kk : (0 ≤ i ∧ i < ((l.length : Nat) : Int)) → ∀ x, x = l.getD i.toNat d → k x = some o → B) : I.conj C' B := by
  subst hI
  unfold getO at h
  by_cases hc : 0 ≤ i ∧ i < ((l.length : Nat) : Int)
  · rw [if_pos hc] at h; exact ⟨e hc, kk hc _ rfl h⟩
  · rw [if_neg hc] at h; cases h
theorem L_mk {I : Prim E.σ} (hI : I = primK P E base r post) {α : Type} {n n' : Int} {bytes : Nat} {X : Option α} {o : α} {A B : Prop} (h : (if mkOk n bytes then X else none) = some o) (ea : A) (en : n' = n) (k : X = some o → B) : I.conj A (I.conj (I.mkok n' bytes) B) := by
  subst hI; subst en
  by_cases hc : mkOk n' bytes
  · rw [if_pos hc] at h; exact ⟨ea, hc, k h⟩
  · rw [if_neg hc] at h; cases h
theorem K_setl2 {I : Prim E.σ} (hI : I = primK P E base r post) {ps : List KP} {sz : Nat} {ix : Int} {j : Nat} {cs : List KV} {α : Type} {d : α} {f : α → Nat → KV} {K : List KP → Prop} (l0 : List α) (v : α) (l1 : List α) {i : Int} (hl1 : l1 = l0.set i.toNat v) (hps : rowsD sz ps = rowsD sz [.ls α d l0 f])
    (hi : 0 ≤ i ∧ i < ((l0.length : Nat) : Int)) (hix : ix = i) (hv : rowD sz 0 (fun q => (f v q).toD) = putG (rowD sz 0 fun q => (f (l0.getD i.toNat d) q).toD) j (KV.toDL cs)) (k : K [.ls α d l1 f]) : I.setl ps sz ix j cs K := by
  subst hI; subst hix; subst hl1
  refine ⟨_, ?_, k⟩
  rw [hps]
  have hlt : ix.toNat < l0.length := by omega
  simp only [rowsD, KP.rows, List.append_nil]
  rw [List.map_set, hv]
  congr 1
  simp [List.getD_eq_getElem?_getD, hlt]
def letO {α β : Type} (x : α) (k : α → Option β) : Option β := k x
theorem letO_of {α β : Type} {x : α} {k : α → Option β} {o : β} (h : letO x k = some o) : ∃ y, y = x ∧ k y = some o := ⟨x, rfl, h⟩
theorem bind_of {α β : Type} {m : Option α} {k : α → Option β} {o : β} (h : m.bind k = some o) : ∃ v, m = some v ∧ k v = some o := by
  cases m with
  | none => cases h
  | some v => exact ⟨v, rfl, h⟩
theorem guard_of {α : Type} {C : Prop} [Decidable C] {X : Option α} {o : α} (h : (if C then X else none) = some o) : C ∧ X = some o := by
  by_cases hc : C
  · rw [if_pos hc] at h; exact ⟨hc, h⟩
  · rw [if_neg hc] at h; cases h
theorem get_of {α β : Type} {d : α} {l : List α} {i : Int} {k : α → Option β} {o : β} (h : (getO d l i).bind k = some o) : (0 ≤ i ∧ i < ((l.length : Nat) : Int)) ∧ ∃ x, x = l.getD i.toNat d ∧ k x = some o := by
  unfold getO at h
  by_cases hc : 0 ≤ i ∧ i < ((l.length : Nat) : Int)
  · rw [if_pos hc] at h; exact ⟨hc, _, rfl, h⟩
  · rw [if_neg hc] at h; cases h
theorem L_call {I : Prim E.σ} (hI : I = primK P E base r post) {α β : Type} {m : Option α} {k : α → Option β} {o : β} {g : Nat} {args args' : List KV} {res : α → KV} {rows : α → List KRow} {K : KV → List KRow → Prop} (h : m.bind k = some o)
    (hc : ∀ v, m = some v → KC P g args' (res v) (rows v)) (ha : leDL (KV.toDL args) (KV.toDL args')) (kk : ∀ v, k v = some o → K (res v) (rows v)) : I.C g args K := by
  obtain ⟨v, h1, h2⟩ := bind_of h
  exact C_le hI (hc v h1) ha (kk v h2)
theorem L_calleq {I : Prim E.σ} (hI : I = primK P E base r post) {α β : Type} {m : Option α} {k : α → Option β} {o : β} {g : Nat} {args args' : List KV} {res : α → KV} {rows : α → List KRow} {K : KV → List KRow → Prop} (h : m.bind k = some o)
    (hc : ∀ v, m = some v → KC P g args' (res v) (rows v)) (ha : KV.toDL args = KV.toDL args') (kk : ∀ v, k v = some o → K (res v) (rows v)) : I.C g args K := by
  obtain ⟨v, h1, h2⟩ := bind_of h
  exact C_call hI (hc v h1) ha (kk v h2)
/-- A contract of a function value: the captured data come behind the arguments. -/
def KD (P : Program) (g : Nat) (args : List KV) (ds : List D) (res : KV) : Prop := Con P g (KV.toDL args ++ ds) res.av []
theorem L_callD {I : Prim E.σ} (hI : I = primK P E base r post) {α β : Type} {m : Option α} {k : α → Option β} {o : β} {g : Nat} {args args' : List KV} {ds : List D} {res : α → KV} {K : KV → List KRow → Prop} (h : m.bind k = some o)
    (hc : ∀ v, m = some v → KD P g args' ds (res v)) (ha : KV.toDL args = KV.toDL args') (kk : ∀ v, k v = some o → K (res v) []) : I.CD g args ds K := by
  obtain ⟨v, h1, h2⟩ := bind_of h
  exact CD_call hI (res := res v) (rows := []) (hc v h1) (by rw [ha]) (kk v h2)
theorem KD_of {g : Nat} {args caps : List KV} {res : KV} (h : KC P g (args ++ caps) res []) : KD P g args (KV.toDL caps) res := by
  unfold KD; unfold KC at h
  rwa [show KV.toDL (args ++ caps) = KV.toDL args ++ KV.toDL caps from by simp [toDL_map]] at h
theorem L_loop {σ ρ : Type} {I : Prim E.σ} (hI : I = primK P E base r post) (hT : SeatOk P tb) (pz : List Nat) {c : Code} (hdr : drawsOk c = true) {S : KSt} {s : E.σ} {Q : Exit → KSt → E.σ → Prop} {β : Type} {o : β}
    {step : σ → Option (σ ⊕ ρ)} {n : Nat} {s0 : σ} {k : ρ → Option β} (h : (loopO step n s0).bind k = some o) (st : σ → KSt) (ex : ρ → Exit) (sx : ρ → KSt) (hw : Weak S.st (st s0).st) (hx : ∀ q, ex q ≠ .normal)
    (round : ∀ (a : σ) (x : σ ⊕ ρ), step a = some x → ∀ R : Exit → KSt → E.σ → Prop, (∀ S' a', x = .inl a' → Weak S'.st (st a').st → R .normal S' s) → (∀ S' q, x = .inr q → Weak S'.st (sx q).st → R (ex q) S' s) → wpK I tb pz c (st a) s R)
    (hQ : ∀ q, k q = some o → Q (ex q) (sx q) s) : I.W (.loop c) S s Q := by
  subst hI
  obtain ⟨q, h1, h2⟩ := bind_of h
  refine AW_weak hw (AW_loop (fun n S' s' => ∃ a, S' = (st a).st ∧ s' = s ∧ loopO step n a = some q) n ⟨s0, rfl, rfl, h1⟩ ?_)
  rintro n S' s' ⟨a, rfl, rfl, hl⟩
  cases n with
  | zero => cases hl
  | succ n =>
    obtain ⟨x, hxs⟩ : ∃ x, step a = some x := by
      cases hs : step a with
      | none => rw [loopO, hs] at hl; cases hl
      | some x => exact ⟨x, rfl⟩
    rw [loopO, hxs] at hl
    refine AW_weakQ ((wpK_aw hT.mix hT.tab hdr (round a x hxs (fun e S2 s2 => s2 = s' ∧ ((e = .normal ∧ ∃ a', x = .inl a' ∧ Weak S2.st (st a').st) ∨ (∃ q', x = .inr q' ∧ e = ex q' ∧ Weak S2.st (sx q').st)))
      (fun S' a' e1 e2 => ⟨rfl, .inl ⟨rfl, a', e1, e2⟩⟩) (fun S' q' e1 e2 => ⟨rfl, .inr ⟨q', e1, rfl, e2⟩⟩))).mono ?_)
    rintro e S2 s2 ⟨S3, hw3, rfl, hq | ⟨q', rfl, rfl, hw4⟩⟩
    · obtain ⟨rfl, a', rfl, hw4⟩ := hq
      exact ⟨(st a').st, hw3.trans hw4, n, (st a').st, Nat.lt_succ_self n, Weak.refl _, a', rfl, rfl, hl⟩
    · cases hl
      refine ⟨(sx q).st, hw3.trans hw4, ?_⟩
      have := KQ_of (Q := Q) (hQ q h2)
      cases he : ex q with
      | normal => exact absurd he (hx q)
      | _ => rw [he] at this; exact this
/-- A piece of code whose end is said once. -/
theorem L_cut {ρ : Type} {I : Prim E.σ} (hI : I = primK P E base r post) (hT : SeatOk P tb) (pz : List Nat) {c : Code} (hdr : drawsOk c = true) {S : KSt} {s : E.σ} {Q : Exit → KSt → E.σ → Prop} {β : Type} {o : β}
    {m : Option ρ} {k : ρ → Option β} (h : m.bind k = some o) (ex : ρ → Exit) (sx : ρ → KSt)
    (body : ∀ x, m = some x → ∀ R : Exit → KSt → E.σ → Prop, (∀ S' q, x = q → Weak S'.st (sx q).st → R (ex q) S' s) → wpK I tb pz c S s R)
    (hQ : ∀ q, k q = some o → Q (ex q) (sx q) s) : I.W c S s Q := by
  subst hI
  obtain ⟨q, h1, h2⟩ := bind_of h
  refine AW_weakQ ((wpK_aw hT.mix hT.tab hdr (body q h1 (fun e S2 s2 => s2 = s ∧ e = ex q ∧ Weak S2.st (sx q).st) (fun S' q' e1 e2 => by subst e1; exact ⟨rfl, rfl, e2⟩))).mono ?_)
  rintro e S2 s2 ⟨S3, hw3, rfl, rfl, hw4⟩
  exact ⟨(sx q).st, hw3.trans hw4, KQ_of (hQ q h2)⟩
/-- A loop, round after round. -/
def unrK {σ : Type} (I : Prim σ) (tb : Nat → Option TI) (pz : List Nat) (c : Code) (Q : Exit → KSt → σ → Prop) : Nat → KSt → σ → Prop
  | 0, _, _ => False
  | n + 1, S, s => wpK I tb pz c S s (thenK (fun S' s' => unrK I tb pz c Q n S' s') Q)
theorem W_unroll {I : Prim E.σ} (hI : I = primK P E base r post) (hT : SeatOk P tb) (pz : List Nat) {c : Code} (hdr : drawsOk c = true) {S : KSt} {s : E.σ} {Q : Exit → KSt → E.σ → Prop} (n : Nat) (h : unrK I tb pz c Q n S s) : I.W (.loop c) S s Q := by
  subst hI
  refine AW_loop (fun n S' s' => ∃ S2 : KSt, S' = S2.st ∧ unrK (primK P E base r post) tb pz c Q n S2 s') n ⟨S, rfl, h⟩ ?_
  rintro n S' s' ⟨S2, rfl, hu⟩
  cases n with
  | zero => exact hu.elim
  | succ n =>
    refine AW_weakQ ((wpK_aw hT.mix hT.tab hdr hu).mono ?_)
    rintro e S3 s3 ⟨S4, hw, hq⟩
    cases e with
    | normal => exact ⟨S4.st, hw, n, S4.st, Nat.lt_succ_self n, Weak.refl _, S4, rfl, hq⟩
    | _ => exact ⟨S4.st, hw, KQ_of hq⟩
def roundL {A : Type u} {σ : Type} (hs : A → List (Nat × KBlk) × List (Nat × KRow)) (inv : A → σ → Prop) (jx : Exit → A → σ → Prop) (e : Exit) (S : KSt) (s : σ) : Prop := match e with
  | .panic _ => False
  | .outgrown => False
  | .normal => ∃ a, lvH S.H (hs a).1 ∧ lvO S.O (hs a).2 ∧ inv a s
  | e => ∃ a, lvH S.H (hs a).1 ∧ lvO S.O (hs a).2 ∧ jx e a s
theorem weak_hv {S : St} {H : List (Nat × KBlk)} {O : List (Nat × KRow)} {y : List (Nat × KBlk) × List (Nat × KRow)} (hH : lvH H y.1) (hO : lvO O y.2) : Weak (S.ho (mapH H, mapO O)) (S.ho (mapH y.1, mapO y.2)) :=
  weak_v (S := S.ho (mapH H, mapO O)) (S' := S.ho (mapH y.1, mapO y.2)) rfl rfl (fun t c h => ⟨c, h, leA_refl c⟩) (lvH_spec hH) (lvO_spec hO)
theorem W_weak {I : Prim E.σ} (hI : I = primK P E base r post) {c : Code} {S S' : KSt} {s : E.σ} {Q : Exit → KSt → E.σ → Prop} (hw : Weak S.st S'.st) (h : I.W c S' s Q) : I.W c S s Q := by
  subst hI; exact AW_weak hw h
theorem W_rangeL {A : Type u} {I : Prim E.σ} (hI : I = primK P E base none post) (hT : SeatOk P tb) (pz : List Nat) {g : Operand} {ps : Array Tmp} {assign body : Code} {S : KSt} {s : E.σ} {Q : Exit → KSt → E.σ → Prop} {f : Nat} {ds : List D} {ys : List (List KV)} (hdr : (drawsOk assign && drawsOk body) = true)
    (hit : IterCon P f ds (ys.map KV.toDL)) (hna : noAggD ds = true) (hs : A → List (Nat × KBlk) × List (Nat × KRow)) (inv : Nat → A → E.σ → Prop) (jx : Exit → A → E.σ → Prop) (a0 : A) (hg : rangeArg (S.ho (hs a0)) g = some (f, ds))
    (hlen : ∀ y ∈ ys, lenK y = ps.size ∧ okArgs y = true) (N : Nat) (hps : (belowN S.n ps.toList && calmTK N S.T && Nat.ble S.low N) = true) (hH : lvH S.H (hs a0).1) (hO : lvO S.O (hs a0).2) (h0 : inv 0 a0 s)
    (round : ∀ (i : Nat) (y : List KV) (a : A) (s : E.σ), ys[i]? = some y → inv i a s → ∀ (l : Nat) (I : Prim E.σ), I = primK P E base (some l) post → ∀ (R : Exit → KSt → E.σ → Prop), (∀ S' s' a', lvH S'.H (hs a').1 → lvO S'.O (hs a').2 → inv (i + 1) a' s' → R .normal S' s') → (∀ e S' s' a', (match e with | .normal => false | .panic _ => false | .outgrown => false | _ => true) = true → lvH S'.H (hs a').1 → lvO S'.O (hs a').2 → jx e a' s' → R e S' s') →
      wpK I tb pz assign ⟨S.n, putPK ps.toList y S.T, (hs a).1, (hs a).2, N⟩ s (assignK fun S2 s2 => wpK I tb pz body S2 s2 R))
    (hend : ∀ a s', inv ys.length a s' → Q .normal (S.ho (hs a)) s') (hjmp : ∀ e a s', jx e a s' → Q e (S.ho (hs a)) s') : I.W (.rangeFunc g ps assign body) S s Q := by
  subst hI
  simp only [Bool.and_eq_true] at hdr hps
  obtain ⟨⟨hp1, hp2⟩, hp3⟩ := hps
  obtain ⟨fv, cs, h1, h2, h3⟩ := rangeArg_spec hg hna
  have hwk : Weak S.st (S.ho (hs a0)).st := by
    rw [st_ho]
    exact weak_hv (S := S.st) (H := S.H) (O := S.O) hH hO
  refine AW_weak hwk ?_
  refine AW_rangeFunc (ys := ys.map KV.toDL) N h1 h2 h3 hit (fun y hy => ?_) hp1 (by rw [show (S.ho (hs a0)).st.T = mapT S.T from rfl, calmTK_spec]; exact hp2) (Nat.le_of_ble_eq_true hp3)
    (fun i x s => ∃ a, x = (mapH (hs a).1, mapO (hs a).2) ∧ inv i a s) (fun e x s => ∃ a H O, x = (mapH H, mapO O) ∧ lvH H (hs a).1 ∧ lvO O (hs a).2 ∧ jx e a s) ⟨a0, rfl, h0⟩ ?_ ?_ ?_
  · obtain ⟨y', hy', rfl⟩ := List.mem_map.1 hy
    rw [toDL_len]; exact (hlen y' hy').1
  · rintro i y x s hi ⟨a, rfl, ha⟩ l
    rw [List.getElem?_map] at hi
    cases hy : ys[i]? with
    | none => rw [hy] at hi; cases hi
    | some y' =>
      rw [hy] at hi
      cases hi
      have hok := (hlen y' (List.mem_of_getElem? hy)).2
      have hrd := wpK_aw hT.mix hT.tab hdr.1 (round i y' a s hy ha l _ rfl (roundL hs (inv (i + 1)) jx) (fun S' s' a' h1 h2 h3 => ⟨a', h1, h2, h3⟩) (fun e S' s' a' he h1 h2 h3 => by cases e <;> first | exact ⟨a', h1, h2, h3⟩ | cases he))
      have hlq : Leq (SR (S.ho (hs a0)).st ps.toList (KV.toDL y') (mapH (hs a).1, mapO (hs a).2) N) (KSt.st ⟨S.n, putPK ps.toList y' S.T, (hs a).1, (hs a).2, N⟩) :=
        ⟨rfl, rfl, fun t => (putPK_spec hok t), fun _ => rfl, fun _ => rfl⟩
      refine AW_weak hlq.less.weak (AW_weakQ (hrd.mono ?_))
      rintro e S2 s2 ⟨S3, hw3, hq⟩
      refine ⟨S3.st, hw3, ?_⟩
      cases e with
      | normal =>
        refine ⟨rfl, ?_⟩
        have hb := wpK_aw hT.mix hT.tab hdr.2 (show wpK _ tb pz body S3 s2 _ from hq)
        refine AW_weakQ (hb.mono ?_)
        rintro e S4 s4 ⟨S5, hw5, hq⟩
        refine ⟨S5.st, hw5, ?_⟩
        cases e with
        | normal =>
          obtain ⟨a', e1, e2, e3⟩ := hq
          exact ⟨S5.st.ho (mapH (hs a').1, mapO (hs a').2), weak_hv (S := S5.st) (H := S5.H) (O := S5.O) e1 e2, a', rfl, e3⟩
        | panic => exact hq.elim
        | outgrown => exact hq.elim
        | _ =>
          obtain ⟨a', e1, e2, e3⟩ := hq
          exact ⟨a', S5.H, S5.O, rfl, e1, e2, e3⟩
      | _ => exact hq.elim
  · rintro x s' ⟨a, rfl, ha⟩
    rw [List.length_map] at ha
    exact ⟨S.ho (hs a), Weak.refl _, hend a s' ha⟩
  · rintro e c x s' _ ⟨a, H, O, rfl, e1, e2, e3⟩
    exact ⟨S.ho (hs a), weak_hv (S := S.st) (H := H) (O := O) e1 e2, hjmp e a s' e3⟩
/-- A loop over an iterator. -/
theorem L_range {υ σ ρ : Type} {I : Prim E.σ} (hI : I = primK P E base none post) (hT : SeatOk P tb) (pz : List Nat) {g : Operand} {ps : Array Tmp} {assign body : Code} (hdr : (drawsOk assign && drawsOk body) = true) {S : KSt} {s : E.σ} {Q : Exit → KSt → E.σ → Prop} {β : Type} {o : β}
    {ys : List υ} {kY : υ → List KV} {f : Nat} {ds : List D} (hit : IterCon P f ds ((ys.map kY).map KV.toDL)) (hna : noAggD ds = true)
    {step : υ → σ → Option (σ ⊕ ρ)} {s0 : σ} {k : σ ⊕ ρ → Option β} (h : (rangeO step ys s0).bind k = some o) (st : σ → List (Nat × KBlk) × List (Nat × KRow)) (ex : ρ → Exit) (sx : ρ → List (Nat × KBlk) × List (Nat × KRow))
    (hg : rangeArg (S.ho (st s0)) g = some (f, ds)) (hlen : ∀ y, lenK (kY y) = ps.size ∧ okArgs (kY y) = true) (N : Nat) (hps : (belowN S.n ps.toList && calmTK N S.T && Nat.ble S.low N) = true)
    (hH : lvH S.H (st s0).1) (hO : lvO S.O (st s0).2) (hx : ∀ q, ex q ≠ .normal) (hx2 : ∀ q ch, ex q ≠ .panic ch) (hx3 : ∀ q, ex q ≠ .outgrown)
    (round : ∀ (y : υ) (a : σ) (x : σ ⊕ ρ), step y a = some x → ∀ (l : Nat) (I : Prim E.σ), I = primK P E base (some l) post → ∀ R : Exit → KSt → E.σ → Prop,
      (∀ S' a', x = .inl a' → lvH S'.H (st a').1 → lvO S'.O (st a').2 → R .normal S' s) → (∀ S' q, x = .inr q → lvH S'.H (sx q).1 → lvO S'.O (sx q).2 → R (ex q) S' s) →
      wpK I tb pz assign ⟨S.n, putPK ps.toList (kY y) S.T, (st a).1, (st a).2, N⟩ s (assignK fun S2 s2 => wpK I tb pz body S2 s2 R))
    (hend : ∀ a, k (.inl a) = some o → Q .normal (S.ho (st a)) s) (hjmp : ∀ q, k (.inr q) = some o → Q (ex q) (S.ho (sx q)) s) : I.W (.rangeFunc g ps assign body) S s Q := by
  obtain ⟨fin, h1, h2⟩ := bind_of h
  let hs : σ ⊕ ρ → List (Nat × KBlk) × List (Nat × KRow) := fun x => match x with | .inl a => st a | .inr q => sx q
  refine W_rangeL (A := σ ⊕ ρ) hI hT pz hdr hit hna hs (fun i x s' => s' = s ∧ ∃ a, x = .inl a ∧ rangeO step (ys.drop i) a = some fin) (fun e x s' => s' = s ∧ ∃ q, x = .inr q ∧ fin = .inr q ∧ e = ex q) (.inl s0) hg ?_ N hps hH hO ⟨rfl, s0, rfl, by simpa using h1⟩ ?_ ?_ ?_
  · intro y hy
    obtain ⟨u, _, rfl⟩ := List.mem_map.1 hy
    exact hlen u
  · rintro i y x s' hy ⟨rfl, a, rfl, hr⟩ l J hJ R hR hX
    rw [List.getElem?_map] at hy
    cases hyi : ys[i]? with
    | none => rw [hyi] at hy; cases hy
    | some u =>
      rw [hyi] at hy
      cases hy
      have hi := (List.getElem?_eq_some_iff.1 hyi).1
      have hd : ys.drop i = u :: ys.drop (i + 1) := by
        rw [List.drop_eq_getElem_cons hi]
        congr 1
        exact (List.getElem?_eq_some_iff.1 hyi).2
      rw [hd, rangeO] at hr
      cases hst : step u a with
      | none => rw [hst] at hr; cases hr
      | some x =>
        rw [hst] at hr
        refine round u a x hst l J hJ R (fun S' a' e1 e2 e3 => ?_) (fun S' q e1 e2 e3 => ?_)
        · subst e1
          exact hR S' _ (.inl a') e2 e3 ⟨rfl, a', rfl, hr⟩
        · subst e1
          cases hr
          exact hX (ex q) S' _ (.inr q) (by cases he : ex q <;> first | exact absurd he (hx q) | exact absurd he (hx2 q _) | exact absurd he (hx3 q) | (simp)) e2 e3 ⟨rfl, q, rfl, rfl, rfl⟩
  · rintro x s' ⟨rfl, a, rfl, hr⟩
    rw [List.length_map, List.drop_length, rangeO] at hr
    cases hr
    exact hend a h2
  · rintro e x s' ⟨rfl, q, rfl, rfl, rfl⟩
    exact hjmp q h2
end Go.Proofs.Ytnekemldcjegaaa.Aw

/- The logic of abstract walks, part N4: reckoning with plain models. -/
namespace Go.Proofs.Ytnekemldcjegaaa.Aw
open Go Go.RowKit
set_option linter.unusedVariables false
set_option linter.unusedSimpArgs false

/-- A loop, by what holds at its head. -/
theorem loopO_of {σ ρ : Type} {step : σ → Option (σ ⊕ ρ)} (inv : σ → Prop) (m : σ → Nat) (post : ρ → Prop)
    (hstep : ∀ s, inv s → (∃ s', step s = some (.inl s') ∧ inv s' ∧ m s' < m s) ∨ (∃ q, step s = some (.inr q) ∧ post q)) : ∀ (n : Nat) (s : σ), inv s → m s < n → ∃ q, loopO step n s = some q ∧ post q
  | 0, s, _, h => by omega
  | n + 1, s, hi, hm => by
    rcases hstep s hi with ⟨s', e, hi', hm'⟩ | ⟨q, e, hp⟩
    · obtain ⟨q, e2, hp⟩ := loopO_of inv m post hstep n s' hi' (by omega)
      exact ⟨q, by rw [loopO, e]; exact e2, hp⟩
    · exact ⟨q, by rw [loopO, e], hp⟩
theorem loopO_inl {σ ρ : Type} {step : σ → Option (σ ⊕ ρ)} {n : Nat} {s s' : σ} (h : step s = some (.inl s')) : loopO step (n + 1) s = loopO step n s' := by rw [loopO, h]
theorem loopO_inr {σ ρ : Type} {step : σ → Option (σ ⊕ ρ)} {n : Nat} {s : σ} {q : ρ} (h : step s = some (.inr q)) : loopO step (n + 1) s = some q := by rw [loopO, h]
theorem rangeO_of {υ σ ρ : Type} {step : υ → σ → Option (σ ⊕ ρ)} (inv : List υ → σ → Prop) (post : σ ⊕ ρ → Prop) (hend : ∀ s, inv [] s → post (.inl s))
    (hstep : ∀ y ys s, inv (y :: ys) s → (∃ s', step y s = some (.inl s') ∧ inv ys s') ∨ (∃ q, step y s = some (.inr q) ∧ post (.inr q))) : ∀ (ys : List υ) (s : σ), inv ys s → ∃ q, rangeO step ys s = some q ∧ post q
  | [], s, h => ⟨_, rfl, hend s h⟩
  | y :: ys, s, h => by
    rcases hstep y ys s h with ⟨s', e, hi⟩ | ⟨q, e, hp⟩
    · obtain ⟨q, e2, hp⟩ := rangeO_of inv post hend hstep ys s' hi
      exact ⟨q, by rw [rangeO, e]; exact e2, hp⟩
    · exact ⟨_, by rw [rangeO, e], hp⟩
theorem getO_of {α : Type} {d : α} {l : List α} {i : Int} (h0 : 0 ≤ i) (h1 : i < l.length) : getO d l i = some (l.getD i.toNat d) := by
  unfold getO; rw [if_pos ⟨h0, h1⟩]
theorem some_bind' {α β : Type} {x : Option α} {a : α} {k : α → Option β} (h : x = some a) : x.bind k = k a := by rw [h]; rfl
theorem icmp_lss {a b : Int} : icmpR .lss a b = decide (a < b) := by simp only [icmpR]
theorem icmp_leq {a b : Int} : icmpR .leq a b = decide (a ≤ b) := by simp only [icmpR]
theorem icmp_gtr {a b : Int} : icmpR .gtr a b = decide (a > b) := by simp only [icmpR]
theorem icmp_geq {a b : Int} : icmpR .geq a b = decide (a ≥ b) := by simp only [icmpR]
theorem icmp_eql {a b : Int} : icmpR .eql a b = decide (a = b) := by
  show (a == b) = decide (a = b)
  by_cases h : a = b <;> simp [h]
theorem icmp_neq {a b : Int} : icmpR .neq a b = decide (a ≠ b) := by
  show (a != b) = decide (a ≠ b)
  by_cases h : a = b <;> simp [h]
theorem addW {a b : Int} (h : -9223372036854775808 ≤ a + b ∧ a + b ≤ 9223372036854775807) : iopR .add .i64 a b = a + b := wrap_i64 h
theorem subW {a b : Int} (h : -9223372036854775808 ≤ a - b ∧ a - b ≤ 9223372036854775807) : iopR .sub .i64 a b = a - b := wrap_i64 h
theorem mulW {a b : Int} (h : -9223372036854775808 ≤ a * b ∧ a * b ≤ 9223372036854775807) : iopR .mul .i64 a b = a * b := wrap_i64 h
theorem remW {k : IntKind} {a b : Int} (ha : 0 ≤ a) : iopR .rem k a b = a % b := Int.tmod_eq_emod_of_nonneg ha
theorem quoW {a b : Int} (ha : 0 ≤ a ∧ a ≤ 9223372036854775807) (hb : 0 < b) : iopR .quo .i64 a b = a / b := by
  show IntKind.i64.wrap (a.tdiv b) = a / b
  have h1 := Int.ediv_nonneg ha.1 (show 0 ≤ b by omega)
  have h2 := Int.ediv_le_self b ha.1
  rw [Int.tdiv_eq_ediv_of_nonneg ha.1, wrap_i64 (by omega)]
theorem letO_eq {α β : Type} (x : α) (k : α → Option β) : letO x k = k x := rfl
theorem bindS {α β : Type} (a : α) (k : α → Option β) : (some a).bind k = k a := rfl
end Go.Proofs.Ytnekemldcjegaaa.Aw

/- The logic of abstract walks, part N: from a contract to a row. What comes in, read as data. -/
namespace Go.Proofs.Ytnekemldcjegaaa.Aw
open Go Go.RowKit Go.ChangeShapes Go.WideShapes
set_option linter.unusedVariables false
set_option linter.unusedSimpArgs false

/-- The shape of a type's data. -/
inductive Sh where
  | int (k : IntKind)
  | bool
  | str
  | agg (l : List Sh)
  | sl (e : Sh)
mutual
def Sh.n : Sh → Nat
  | .int _ => 1
  | .bool => 1
  | .str => 1
  | .agg l => Sh.nL l
  | .sl _ => 1
def Sh.nL : List Sh → Nat
  | [] => 0
  | s :: r => s.n + Sh.nL r
end
mutual
def Sh.Fit : Sh → List D → Prop
  | .int k, xs => ∃ n, xs = [.int k n] ∧ k.min ≤ n ∧ n ≤ k.max
  | .bool, xs => ∃ b, xs = [.bool b]
  | .str, xs => ∃ s, xs = [.str s] ∧ s.size ≤ maxLen
  | .agg l, xs => Sh.FitL l xs
  | .sl e, xs => ∃ rows : List (List D), xs = [.sl false e.n rows] ∧ rows.length ≤ maxLen ∧ ∀ row ∈ rows, e.Fit row
def Sh.FitL : List Sh → List D → Prop
  | [], xs => xs = []
  | s :: r, xs => ∃ a b, xs = a ++ b ∧ s.Fit a ∧ Sh.FitL r b
end
def shF (P : Program) (g : TypeId → Option Sh) : List (TypeId × Nat) → Nat → Option (List Sh)
  | [], _ => some []
  | (t, o) :: r, off => if o = off then match g t with
    | some s => if s.n = P.cellsOf t then match shF P g r (off + s.n) with
      | some l => some (s :: l)
      | none => none
      else none
    | none => none
    else none
/-- The shape of a type. -/
def shT (P : Program) : Nat → TypeId → Option Sh
  | 0, _ => none
  | f + 1, t => match P.underlying t with
    | some .bool => some .bool
    | some (.int k) => some (.int k)
    | some .string => some .str
    | some (.slice e) => match shT P f e with
      | some s => if s.n = P.cellsOf e ∧ 0 < s.n then some (.sl s) else none
      | none => none
    | some (.struct fs) => (shF P (shT P f) (fs.toList.map fun x => (x.type, x.offset)) 0).map .agg
    | some (.array n e) => (shF P (shT P f) ((List.range n).map fun i => (e, i * P.cellsOf e)) 0).map .agg
    | _ => none

/-- A list of cells read as data. -/
def RdC (w : World) (xs : List D) (cs : List Value) : Prop :=
  xs.length = cs.length ∧ ∀ (i : Nat) (c : D) (v : Value), xs[i]? = some c → cs[i]? = some v → Rd w (fun k => k < w.heap.size) c v ∧ v.oneCell' = true
theorem RdC.append {w : World} {xs ys : List D} {cs ds : List Value} (h : RdC w xs cs) (k : RdC w ys ds) : RdC w (xs ++ ys) (cs ++ ds) := by
  refine ⟨by simp [h.1, k.1], fun i c v hc hv => ?_⟩
  by_cases hi : i < xs.length
  · rw [List.getElem?_append_left hi] at hc
    rw [List.getElem?_append_left (by rw [← h.1]; exact hi)] at hv
    exact h.2 i c v hc hv
  · rw [List.getElem?_append_right (by omega)] at hc
    rw [List.getElem?_append_right (by rw [← h.1]; omega), ← h.1] at hv
    exact k.2 _ c v hc hv
theorem RdC.one {w : World} {x : D} {v : Value} (h : Rd w (fun k => k < w.heap.size) x v) (h1 : v.oneCell' = true) : RdC w [x] [v] := by
  refine ⟨rfl, fun i c u hc hu => ?_⟩
  match i, hc, hu with
  | 0, hc, hu => cases hc; cases hu; exact ⟨h, h1⟩
  | i + 1, hc, hu => simp at hc

section
variable {H : Type} {enc : TypeId × Value → H} {P : Program} {w : World} {held : Bool}
/-- A row of parts. -/
theorem open_parts {g : TypeId → Option Sh} {rd : TypeId → List Value → Option (DataW H × List MemPlace)} {cs : List Value}
    (ih : ∀ t s, g t = some s → ∀ cs x, rd t cs = some x → cs.length = s.n → ∃ xs, s.Fit xs ∧ RdC w xs cs) :
    ∀ {l : List (TypeId × Nat)} {off : Nat} {shs : List Sh} {ys : List (DataW H × List MemPlace)}, shF P g l off = some shs →
      (l.mapM fun f => rd f.1 ((cs.drop f.2).take (P.cellsOf f.1))) = some ys → off + Sh.nL shs = cs.length → ∃ xs, Sh.FitL shs xs ∧ RdC w xs (cs.drop off)
  | [], off, shs, ys, h1, _, h3 => by
    simp only [shF, Option.some.injEq] at h1
    subst h1
    refine ⟨[], rfl, ?_, fun i c v hc => by simp at hc⟩
    simp only [Sh.nL] at h3
    simp only [List.length_drop, List.length_nil]; omega
  | (t, o) :: r, off, shs, ys, h1, h2, h3 => by
    simp only [shF] at h1
    split at h1
    · rename_i ho
      subst ho
      cases hg : g t with
      | none => rw [hg] at h1; cases h1
      | some s =>
        rw [hg] at h1
        simp only at h1
        split at h1
        · rename_i hn
          cases hr : shF P g r (o + s.n) with
          | none => rw [hr] at h1; cases h1
          | some l =>
            rw [hr] at h1
            simp only [Option.some.injEq] at h1
            subst h1
            rw [List.mapM_cons] at h2
            cases hy : rd t ((cs.drop o).take (P.cellsOf t)) with
            | none => simp [hy] at h2
            | some y =>
              cases hz : (r.mapM fun f => rd f.1 ((cs.drop f.2).take (P.cellsOf f.1))) with
              | none => simp [hy, hz] at h2
              | some zs =>
                simp only [Sh.nL] at h3
                obtain ⟨a, a1, a2⟩ := ih t s hg _ y hy (by rw [List.length_take, List.length_drop, hn]; omega)
                obtain ⟨b, b1, b2⟩ := open_parts ih hr hz (by omega)
                refine ⟨a ++ b, ⟨a, b, rfl, a1, b1⟩, ?_⟩
                have := a2.append b2
                rw [← hn] at this
                have e : List.take s.n (List.drop o cs) ++ List.drop (o + s.n) cs = List.drop o cs := by
                  rw [← List.drop_drop]; exact List.take_append_drop _ _
                rwa [e] at this
        · cases h1
    · cases h1
theorem cells?_spec {a : Addr} {n : Nat} {cs : List Value} (h : w.cells? 0 a n = some cs) : cs.length = n ∧ ∀ j v, cs[j]? = some v → w.cell? (a.add j) = some v := by
  unfold World.cells? at h
  rw [if_pos (Nat.zero_le _)] at h
  obtain ⟨h1, h2⟩ := mapM_get h
  rw [List.length_range] at h1
  refine ⟨h1.symm, fun j v hj => ?_⟩
  obtain ⟨x, e1, e2⟩ := h2 j v hj
  have hlt := (List.getElem?_eq_some_iff.1 hj).1
  rw [List.getElem?_range (by omega)] at e1
  cases e1
  exact e2
theorem cell_plain {a : Addr} {v : Value} (h : w.cell? a = some v) : a.spot = none ∧ a.block < w.heap.size := by
  unfold World.cell? at h
  split at h
  · rename_i c x y hb
    split at h
    · cases h
    · rename_i hs
      refine ⟨?_, (Array.getElem?_eq_some_iff.1 hb).1⟩
      cases hq : a.spot with
      | none => rfl
      | some z => rw [hq] at hs; simp at hs
  · cases h
/-- What comes in, as data. -/
theorem open_sh : ∀ (f : Nat) (t : TypeId) (sh : Sh), shT P f t = some sh → ∀ (fuel : Nat) (cs : List Value) (x : DataW H × List MemPlace), DataW.trod enc P w 0 (fun _ => true) held fuel t cs = some x → cs.length = sh.n →
    ∃ xs, sh.Fit xs ∧ RdC w xs cs
  | 0, t, sh, h => by simp [shT] at h
  | f + 1, t, sh, h => by
    intro fuel cs x hx hlen
    have hx0 := hx
    cases fuel with
    | zero => simp [DataW.trod] at hx
    | succ fuel =>
      unfold shT at h
      unfold DataW.trod at hx
      split at h <;> rename_i hu
      · cases h
        rw [hu] at hx
        split at hx <;> simp_all
        rename_i b
        exact ⟨[.bool b], ⟨b, rfl⟩, RdC.one (.bool b) rfl⟩
      · cases h
        rw [hu] at hx
        split at hx <;> simp_all
        rename_i k' n e
        subst e
        obtain ⟨⟨rfl, hw⟩, _⟩ := hx
        simp only [Lit.wf, Bool.and_eq_true, decide_eq_true_eq] at hw
        exact ⟨[.int k' n], ⟨n, rfl, hw⟩, RdC.one (.int k' n) rfl⟩
      · cases h
        rw [hu] at hx
        split at hx <;> simp_all
        rename_i s
        exact ⟨[.str s], ⟨s, rfl, hx.1⟩, RdC.one (.str s) rfl⟩
      · rename_i e
        cases he : shT P f e with
        | none => rw [he] at h; cases h
        | some s =>
          rw [he] at h
          simp only at h
          split at h
          · rename_i hc
            cases h
            obtain ⟨hc1, hc2⟩ := hc
            rcases Go.Deep.open_slice hu hx0 with ⟨rfl, _⟩ | ⟨a, len, cap, m, n, Dd, Pl, rfl, _, hl, hm, hmm, _, hel⟩
            · exact ⟨[.sl false s.n []], ⟨[], rfl, Nat.zero_le _, fun row hr => by cases hr⟩, RdC.one (.sl0 _ _) rfl⟩
            · simp only [if_true] at hmm
              subst hmm
              by_cases h0 : m = 0
              · subst h0
                have : len = 0 := by omega
                subst this
                exact ⟨[.sl false s.n []], ⟨[], rfl, Nat.zero_le _, fun row hr => by cases hr⟩, RdC.one (.slE _ _ a) rfl⟩
              · have hread : ∀ i, i < m → ∃ z : List D × List Value, w.cells? 0 (a.add (i * P.cellsOf e)) (P.cellsOf e) = some z.2 ∧ s.Fit z.1 ∧ RdC w z.1 z.2 := fun i hi => by
                  obtain ⟨cs', c1, c2⟩ := hel i hi
                  obtain ⟨xs, f1, f2⟩ := open_sh f e s he n cs' _ c2 (by rw [(cells?_spec c1).1, hc1])
                  exact ⟨(xs, cs'), c1, f1, f2⟩
                obtain ⟨Z, hZ⟩ := Go.Deep.choose_lt (α := List D × List Value) hread
                obtain ⟨z1, z2, z3⟩ := hZ 0 (by omega)
                obtain ⟨y1, y2⟩ := cells?_spec z1
                have hcell0 : w.cell? (a.add (0 * P.cellsOf e)) = some ((Z 0).2[0]'(by rw [y1]; omega)) := by
                  have := y2 0 ((Z 0).2[0]'(by rw [y1]; omega)) (by simp)
                  simpa [Addr.add] using this
                rw [Nat.zero_mul] at hcell0
                have e0 : a.add 0 = a := rfl
                rw [e0] at hcell0
                obtain ⟨hsp, hblk⟩ := cell_plain hcell0
                obtain ⟨b, off, spot⟩ := a
                simp only at hsp hblk
                subst hsp
                have hadd : ∀ j, (⟨b, off, none⟩ : Addr).add j = ⟨b, off + j, none⟩ := fun j => by unfold Addr.add; split <;> simp_all
                have hadd2 : ∀ o j, (⟨b, o, none⟩ : Addr).add j = ⟨b, o + j, none⟩ := fun o j => by unfold Addr.add; split <;> simp_all
                have hrows : ∀ (i : Nat) (row : List D), ((List.range len).map fun i => (Z i).1)[i]? = some row → i < len ∧ row = (Z i).1 := fun i row hi => by
                  have hlt := (List.getElem?_eq_some_iff.1 hi).1
                  simp only [List.length_map, List.length_range] at hlt
                  rw [List.getElem?_map, List.getElem?_range hlt] at hi
                  exact ⟨hlt, by simpa using hi.symm⟩
                have key : ∀ (i : Nat) (row : List D) (j : Nat) (c : D), ((List.range len).map fun i => (Z i).1)[i]? = some row → row[j]? = some c →
                    w.cell? ⟨b, off + i * s.n + j, none⟩ = some ((Z i).2.getD j undef) ∧ ((Z i).2.getD j undef).oneCell' = true ∧ Rd w (fun k => k < w.heap.size) c ((Z i).2.getD j undef) := fun i row j c hi hj => by
                  obtain ⟨hlt, rfl⟩ := hrows i row hi
                  obtain ⟨q1, q2, q3⟩ := hZ i (by omega)
                  obtain ⟨r1, r2⟩ := cells?_spec q1
                  have hj' := (List.getElem?_eq_some_iff.1 hj).1
                  have hlen2 := q3.1
                  have hv : (Z i).2[j]? = some ((Z i).2.getD j undef) := by
                    rw [List.getD_eq_getElem?_getD, List.getElem?_eq_getElem (by omega)]; rfl
                  have t1 := r2 j _ hv
                  obtain ⟨t2, t3⟩ := q3.2 j c _ hj hv
                  refine ⟨?_, t3, t2⟩
                  rw [hadd, hadd2, ← hc1] at t1
                  exact t1
                refine ⟨[.sl false s.n ((List.range len).map fun i => (Z i).1)], ⟨_, rfl, by simp only [List.length_map, List.length_range]; omega, fun row hr => ?_⟩, RdC.one ?_ rfl⟩
                · obtain ⟨i, hi, rfl⟩ := List.mem_map.1 hr
                  exact (hZ i (by have := List.mem_range.1 hi; omega)).2.1
                · have := Rd.sl (w := w) (ok := fun k => k < w.heap.size) false s.n ((List.range len).map fun i => (Z i).1) b off m (fun i j => (Z i).2.getD j undef) hblk (by simpa using hl) hm (fun h => by cases h)
                    (fun row hr => by
                      obtain ⟨i, hi, rfl⟩ := List.mem_map.1 hr
                      obtain ⟨q1, q2, q3⟩ := hZ i (by have := List.mem_range.1 hi; omega)
                      rw [q3.1, (cells?_spec q1).1, hc1])
                    (fun i row j c hi hj => (key i row j c hi hj).1) (fun i row j c hi hj => (key i row j c hi hj).2.1) (fun i row j c hi hj => (key i row j c hi hj).2.2)
                  simpa using this
          · cases h
      · rename_i fs
        rw [hu] at hx
        cases hl : shF P (shT P f) (fs.toList.map fun x => (x.type, x.offset)) 0 with
        | none => rw [hl] at h; cases h
        | some l =>
          rw [hl] at h; cases h
          simp only at hx
          split at hx
          · rename_i ys hq
            cases hys : (fs.toList.mapM fun f => DataW.trod enc P w 0 (fun _ => true) held fuel f.type ((cs.drop f.offset).take (P.cellsOf f.type))) with
            | none => rw [hys] at hx; cases hx
            | some ys =>
              have := open_parts (P := P) (w := w) (g := shT P f) (rd := fun t cs => DataW.trod enc P w 0 (fun _ => true) held fuel t cs) (cs := cs) (fun t s hs cs x hx hn => open_sh f t s hs fuel cs x hx hn) (l := fs.toList.map fun x => (x.type, x.offset)) (ys := ys) hl
                (by rw [List.mapM_map]; exact hys) (by simpa [Sh.n] using hlen.symm)
              rw [List.drop_zero] at this
              obtain ⟨xs, a1, a2⟩ := this
              exact ⟨xs, by unfold Sh.Fit; exact a1, a2⟩
          · cases hx
      · rename_i n e
        rw [hu] at hx
        cases hl : shF P (shT P f) ((List.range n).map fun i => (e, i * P.cellsOf e)) 0 with
        | none => rw [hl] at h; cases h
        | some l =>
          rw [hl] at h; cases h
          simp only at hx
          split at hx
          · cases hys : ((List.range n).mapM fun i => DataW.trod enc P w 0 (fun _ => true) held fuel e ((cs.drop (i * P.cellsOf e)).take (P.cellsOf e))) with
            | none => rw [hys] at hx; cases hx
            | some ys =>
              have := open_parts (P := P) (w := w) (g := shT P f) (rd := fun t cs => DataW.trod enc P w 0 (fun _ => true) held fuel t cs) (cs := cs) (fun t s hs cs x hx hn => open_sh f t s hs fuel cs x hx hn) (l := (List.range n).map fun i => (e, i * P.cellsOf e)) (ys := ys) hl
                (by rw [List.mapM_map]; exact hys) (by simpa [Sh.n] using hlen.symm)
              rw [List.drop_zero] at this
              obtain ⟨xs, a1, a2⟩ := this
              exact ⟨xs, by unfold Sh.Fit; exact a1, a2⟩
          · cases hx
      · cases h

def Sh.isAgg : Sh → Bool
  | .agg _ => true
  | _ => false
/-- An argument as data. -/
def Sh.arg : Sh → List D → D
  | .agg _, xs => .agg xs
  | _, xs => xs.headD .nilptr
theorem Rd.aggOf {xs : List D} {vs : Array Value} (h : RdC w xs vs.toList) : Rd w (fun k => k < w.heap.size) (.agg xs) (.agg vs) := by
  have hl : vs.size = xs.length := by rw [h.1]; simp
  refine .agg xs vs hl (fun i v hv => ?_) (fun i c v hc hv => (h.2 i c v hc (by simpa using hv)).1)
  have hlt := (Array.getElem?_eq_some_iff.1 hv).1
  have hx : xs[i]? = some (xs[i]'(by omega)) := List.getElem?_eq_getElem (by omega)
  exact (h.2 i _ v hx (by simpa using hv)).2
theorem open_arg {f : Nat} {t : TypeId} {sh : Sh} {v : Value} {d : DataW H} {p : List MemPlace} {r : Reach} {b : Nat} (hs : shT P f t = some sh) (hn : sh.n = P.cellsOf t) (hval : Value.okWide P w r b t v)
    (hd : DataW.Trod enc P w 0 (fun _ => true) held t v d p) : ∃ xs, sh.Fit xs ∧ Rd w (fun k => k < w.heap.size) (sh.arg xs) v := by
  obtain ⟨fuel, hd⟩ := hd
  have one : ∀ {s : Sh}, s.isAgg = false → s.n = 1 := fun {s} h => by cases s <;> first | rfl | cases h
  have fin : sh.isAgg = false → v.cells.toList = [v] → ∃ xs, sh.Fit xs ∧ Rd w (fun k => k < w.heap.size) (sh.arg xs) v := fun ha hv => by
    rw [hv] at hd
    obtain ⟨xs, a1, a2⟩ := open_sh f t sh hs fuel [v] _ hd (by rw [one ha]; rfl)
    refine ⟨xs, a1, ?_⟩
    obtain ⟨l1, l2⟩ := a2
    match xs, l1 with
    | [x], _ =>
      have := (l2 0 x v rfl rfl).1
      cases sh <;> first | exact this | cases ha
  have fin2 : ∀ l, sh = .agg l → (∃ cs, v = .agg cs ∧ cs.size = P.cellsOf t) → ∃ xs, sh.Fit xs ∧ Rd w (fun k => k < w.heap.size) (sh.arg xs) v := fun l hl ⟨cs, hv, hc⟩ => by
    subst hl; subst hv
    obtain ⟨xs, a1, a2⟩ := open_sh f t _ hs fuel cs.toList _ hd (by simp only [Array.length_toList]; rw [hc, hn])
    exact ⟨xs, a1, Rd.aggOf a2⟩
  have hs0 := hs
  cases f with
  | zero => simp [shT] at hs
  | succ f =>
    unfold shT at hs
    split at hs <;> rename_i hu
    · cases hs; obtain ⟨b, rfl⟩ := okWide_bool hu hval; exact fin rfl rfl
    · cases hs; obtain ⟨n, rfl⟩ := okWide_int hu hval; exact fin rfl rfl
    · cases hs; obtain ⟨n, rfl⟩ := okWide_string hu hval; exact fin rfl rfl
    · rename_i e
      cases he : shT P f e with
      | none => rw [he] at hs; cases hs
      | some s =>
        rw [he] at hs
        simp only at hs
        split at hs
        · cases hs; obtain ⟨a, len, cap, rfl⟩ := okWide_slice hu hval; exact fin rfl rfl
        · cases hs
    · rename_i fs
      cases hl : shF P (shT P f) (fs.toList.map fun x => (x.type, x.offset)) 0 with
      | none => rw [hl] at hs; cases hs
      | some l => rw [hl] at hs; cases hs; exact fin2 l rfl (okWide_struct hu hval)
    · rename_i n e
      cases hl : shF P (shT P f) ((List.range n).map fun i => (e, i * P.cellsOf e)) 0 with
      | none => rw [hl] at hs; cases hs
      | some l =>
        rw [hl] at hs; cases hs
        refine fin2 l rfl ?_
        simp only [Value.okWide, hu] at hval
        obtain ⟨cs, h1, h2, _⟩ := hval
        exact ⟨cs, h1, h2⟩
    · cases hs
/-- All arguments. -/
def FitA : List Sh → List D → Prop
  | [], xs => xs = []
  | s :: r, xs => ∃ a q, xs = s.arg a :: q ∧ s.Fit a ∧ FitA r q
def shA (P : Program) (f : Nat) : List TypeId → Option (List Sh)
  | [] => some []
  | t :: r => match shT P f t with
    | some s => if s.n = P.cellsOf t then match shA P f r with
      | some l => some (s :: l)
      | none => none
      else none
    | none => none
theorem open_args {f : Nat} {r : Reach} {b : Nat} : ∀ {ts : List TypeId} {shs : List Sh} {vs : List Value} {ds : List (DataW H)} {p : List MemPlace}, shA P f ts = some shs → DataW.TrodAll enc P w 0 (fun _ => true) held ts vs ds p →
    (∀ (j : Nat) t v, ts[j]? = some t → vs[j]? = some v → Value.okWide P w r b t v) → ∃ xs : List D, FitA shs xs ∧ vs.length = xs.length ∧ ∀ (i : Nat) (x : D) (v : Value), xs[i]? = some x → vs[i]? = some v → Rd w (fun k => k < w.heap.size) x v
  | [], shs, vs, ds, p, h1, h2, _ => by
    simp only [shA, Option.some.injEq] at h1
    subst h1
    obtain ⟨rfl, _, _⟩ := trodAll_nil h2
    exact ⟨[], rfl, rfl, fun i x v h => by simp at h⟩
  | t :: ts, shs, vs, ds, p, h1, h2, h3 => by
    simp only [shA] at h1
    cases hs : shT P f t with
    | none => rw [hs] at h1; cases h1
    | some s =>
      rw [hs] at h1
      simp only at h1
      split at h1
      · rename_i hn
        cases hl : shA P f ts with
        | none => rw [hl] at h1; cases h1
        | some l =>
          rw [hl] at h1
          simp only [Option.some.injEq] at h1
          subst h1
          obtain ⟨v, vs', d, ds', p', q', rfl, rfl, rfl, hd, hr⟩ := trodAll_cons h2
          obtain ⟨xs, a1, a2⟩ := open_arg hs hn (h3 0 t v rfl rfl) hd
          obtain ⟨ys, b1, b2, b3⟩ := open_args hl hr (fun j t v e1 e2 => h3 (j + 1) t v (by simpa using e1) (by simpa using e2))
          refine ⟨s.arg xs :: ys, ⟨xs, ys, rfl, a1, b1⟩, by simp [b2], fun i x u hx hu => ?_⟩
          match i, hx, hu with
          | 0, hx, hu => cases hx; cases hu; exact a2
          | i + 1, hx, hu => exact b3 i x u (by simpa using hx) (by simpa using hu)
      · cases h1
theorem trodAll_below (hl : laidOutB P = true) {W' : World} (hb : Below w.heap.size w W') : ∀ {ts : List TypeId} {vs : List Value} {ds : List (DataW H)} {p : List MemPlace}, (ts.all fun t => P.readableRec t && decide (t < P.types.size)) = true →
    DataW.TrodAll enc P w 0 (fun _ => true) true ts vs ds p → (∀ x ∈ p, x.block < w.heap.size) → DataW.TrodAll enc P W' 0 (fun b => decide (b < w.heap.size)) true ts vs ds p
  | [], vs, ds, p, _, h, _ => by
    obtain ⟨rfl, rfl, rfl⟩ := trodAll_nil h
    exact rfl
  | t :: ts, vs, ds, p, ht, h, hlt => by
    simp only [List.all_cons, Bool.and_eq_true, decide_eq_true_eq] at ht
    obtain ⟨v, vs', d, ds', p', q', rfl, rfl, rfl, hd, hr⟩ := trodAll_cons h
    refine ⟨p', q', Below.trod hl ht.1.1 ht.1.2 hd hb (fun x hx => hlt x (List.mem_append_left _ hx)), ?_, rfl⟩
    exact trodAll_below hl hb (by simpa using ht.2) hr (fun x hx => hlt x (List.mem_append_right _ hx))
theorem trodAll_below' (hl : laidOutB P = true) {W' : World} (hb : Below w.heap.size w W') : ∀ {ts : List TypeId} {vs : List Value} {ds : List (DataW H)} {p : List MemPlace}, (ts.all fun t => P.readableRec t && decide (t < P.types.size)) = true →
    DataW.TrodAll enc P w 0 (fun _ => true) true ts vs ds p → (∀ x ∈ p, x.block < w.heap.size) → DataW.TrodAll enc P W' 0 (fun _ => true) true ts vs ds p
  | [], vs, ds, p, _, h, _ => by
    obtain ⟨rfl, rfl, rfl⟩ := trodAll_nil h
    exact rfl
  | t :: ts, vs, ds, p, ht, h, hlt => by
    simp only [List.all_cons, Bool.and_eq_true, decide_eq_true_eq] at ht
    obtain ⟨v, vs', d, ds', p', q', rfl, rfl, rfl, hd, hr⟩ := trodAll_cons h
    refine ⟨p', q', WideElems.Trod_stays hl ht.1.1 ht.1.2 hd (fun x hx => hb.same (hlt x (List.mem_append_left _ hx))) (fun x hx => rfl), ?_, rfl⟩
    exact trodAll_below' hl hb (by simpa using ht.2) hr (fun x hx => hlt x (List.mem_append_right _ hx))
theorem trodAll_len {base : Nat} {sp : Nat → Bool} : ∀ {ts : List TypeId} {vs : List Value} {ds : List (DataW H)} {p : List MemPlace}, DataW.TrodAll enc P w base sp held ts vs ds p → ds.length = ts.length
  | [], vs, ds, p, h => by
    obtain ⟨rfl, rfl, rfl⟩ := trodAll_nil h
    rfl
  | t :: ts, vs, ds, p, h => by
    obtain ⟨v, vs', d, ds', p', q', rfl, rfl, rfl, hd, hr⟩ := trodAll_cons h
    simp only [List.length_cons, trodAll_len hr]
/-- The row of a law that only reads, and returns true. -/
theorem lifted {C : Checked} {os : Os} {f : FuncId} {fn : Func} {s : ChangeSpec} {apart fresh handsOn again : Bool} {tb : TypeId} {shs : List Sh} {fl : Nat}
    (own : ownKnob C.prog.godebug = none) (started : os.Started) (noInit : C.prog.inits.idxOf? f = none) (hfn : C.prog.funcs[f]? = some fn)
    (witness : ∃ (w : World) (tape : Tape) (i : Input), w.os = os ∧ (w.forCall tape i).Shaped C.prog ∧ i.vars = [] ∧ Input.okWide C.prog (w.forCall tape i) .any w.heap.size f i ∧
      s.pre6 enc C.prog fn [] apart (w.forCall tape i).memory i.args ∧ ({} : Assume).holds C.prog (lone (Frame.enter C.prog f i.args .normal) [] (w.forCall tape i)))
    (hl : laidOutB C.prog = true) (hv : s.vars = []) (hres : fn.resultTypes = #[tb]) (htb : C.prog.underlying tb = some .bool)
    (hsp : ∀ ds : List (DataW H), ds.length = fn.params.toList.length → s.fn H ds = { results := [.lit (.bool true)], args := ds })
    (hsh : shA C.prog fl fn.params.toList = some shs) (hrd : (fn.params.toList.all fun t => C.prog.readableRec t && decide (t < C.prog.types.size)) = true)
    (con : ∀ xs, FitA shs xs → Con C.prog f xs (.d (.bool true)) []) :
    ReturnsInHanded {} C os f .any (s.pre6 enc C.prog fn [] apart) (s.post enc C.prog fn apart fresh handsOn again) := by
  refine returnsInHanded_of_change own started noInit hfn witness ?_
  intro W base args ds gs before hval hW hcnd _
  have hW' := hW
  have hlt : ∀ p ∈ before, p.block < W.heap.size := fun p hp => by simpa using hW.lt p hp
  obtain ⟨p, q, hA, hV, hpq, hfz, hnd⟩ := hW
  rw [hv] at hV
  obtain ⟨rfl, rfl⟩ := trodVars_none hV
  have hpq : before = p := by simpa using hpq
  subst hpq
  obtain ⟨xs, x1, x2, x3⟩ := open_args hsh hA (fun j t v e1 e2 => hval j t v (by simpa using e1) (by simpa using e2))
  have hlen : ds.length = fn.params.toList.length := trodAll_len hA
  have hcon := con xs x1
  refine (hcon.2 W (fun k => k < W.heap.size) args (fun k h => h) ⟨by simpa using x2, fun i x v e1 e2 => x3 i x v e1 (by simpa using e2)⟩).mono ?_
  rintro e W' ⟨v, ok', ν', rfl, hb, _, _, hv', _⟩
  have hvv : v = .bool true := (hv' (fun _ => none) 0).bool
  subst hvv
  refine ⟨_, rfl, ?_⟩
  have hfz' : ∀ b off, MemPlace.cell b off ∈ before → W'.frozen? ⟨b, off, none⟩ = false := fun b off hp => by
    rw [hb.frozen (p := ⟨b, off, none⟩) (hlt _ hp)]; exact hfz b off hp
  have hok := ok_one (P := C.prog) (W' := W') hres rfl (okWide_bool_mk htb true)
  have e1 : (s.fn H (ds ++ [])).results = [.lit (.bool true)] := by rw [List.append_nil, hsp ds hlen]
  have e2 : (s.fn H (ds ++ [])).args = ds := by rw [List.append_nil, hsp ds hlen]
  have e3 : (s.fn H (ds ++ [])).vars = [] := by rw [List.append_nil, hsp ds hlen]
  have r1 : ∀ (b : Nat) (sp : Nat → Bool) (hd : Bool), DataW.TrodAll enc C.prog W' b sp hd fn.resultTypes.toList ((Value.bool true).resultList fn.resultTypes.size) [.lit (.bool true)] [] := fun b sp hd => by
    rw [hres]
    exact trodAll_mk1 (shut_bool htb true)
  have hv2 : ∀ sp : Nat → Bool, DataW.TrodVars enc C.prog W' sp s.vars (s.fn H (ds ++ [])).vars [] := fun sp => by rw [hv, e3]; exact rfl
  have a2 := trodAll_below' hl hb hrd hA hlt
  refine ⟨ds, [], before, [], before, [], hW', ?_, ?_, hv2 _, hb.frame _, fun _ => ⟨hok, [.lit (.bool true)] ++ ds, (s.fn H (ds ++ [])).vars, before, ⟨[] ++ before, [], ?_, hv2 _, by simp, hfz', hnd⟩, fun p hp _ => hp⟩⟩
  · rw [e1]; exact r1 _ _ _
  · rw [e2]; exact trodAll_below hl hb hrd hA hlt
  · exact trodAll_append a2 (r1 _ _ _)
end
end Go.Proofs.Ytnekemldcjegaaa.Aw
