/- Part 4 of the proof: lemmas. -/
import Derived.Test.YtgefdljjhmjdaaaM3

/- The logic of abstract walks, part M6: contracts by evaluation; loops; calls. -/
namespace Go.Proofs.Ytgefdljjhmjdaaa.Aw
open Go Go.RowKit
set_option linter.unusedVariables false
set_option linter.unusedSimpArgs false
universe u
variable {P : Program} {E : Env P} {base : Nat} {r : Option Nat} {post : KV → List KRow → Prop} {tb : Nat → Option TI} {pz : List Nat}

/-- What is known of a seat's program. -/
structure SeatOk (P : Program) (tb : Nat → Option TI) : Prop where
  tab : ∀ t i, tb t = some i → TIOk P t i
  mix : P.follows .mixedOrders = true
def resK (tb : Nat → Option TI) (S : KSt) : ResultVar → Option KV
  | .tmp t => lk S.T t
  | .cell ad t => match lk S.T ad with
    | some (.loc b off) => match lk S.H b with
      | some B => match tb t with
        | some i => match i.ag with
          | false => nth B.cells off
          | true => match Nat.ble (off + i.sz) (lenK B.cells) with
            | true => some (.agg (takeK i.sz (dropK off B.cells)))
            | false => none
        | none => none
      | none => none
    | _ => none
def resKL (tb : Nat → Option TI) (S : KSt) : List ResultVar → Option (List KV)
  | [] => some []
  | x :: r => match resK tb S x with
    | some c => match resKL tb S r with
      | some l => some (c :: l)
      | none => none
    | none => none
theorem resK_spec (hT : ∀ t i, tb t = some i → TIOk P t i) {S : KSt} {x : ResultVar} {c : KV} (h : resK tb S x = some c) : resV P S.st x = some c.av := by
  cases x with
  | tmp t => simp only [resK] at h; simp only [resV, st_look, h, Option.map_some]
  | cell ad t =>
    simp only [resK] at h
    split at h
    · rename_i b off h1
      split at h
      · rename_i B h2
        split at h
        · rename_i i h3
          have hi := hT _ _ h3
          simp only [resV, st_look, h1, Option.map_some, KV.av, st_lookH, h2, hi.ag]
          cases hag : i.ag with
          | false =>
            rw [hag] at h
            simp only [show B.blk.cells = KV.avL B.cells from rfl, nth_avL, h, Option.map_some]
          | true =>
            rw [hag] at h
            simp only [hi.sz, show B.blk.cells = KV.avL B.cells from rfl, avL_len]
            simp only at h
            split at h
            · rename_i hb
              cases h
              rw [if_pos hb, avL_drop, avL_take]; rfl
            · cases h
        · cases h
      · cases h
    · cases h
theorem resKL_spec (hT : ∀ t i, tb t = some i → TIOk P t i) {S : KSt} : ∀ {l : List ResultVar} {cs : List KV}, resKL tb S l = some cs → resVL P S.st l = some (KV.avL cs)
  | [], cs, h => by simp [resKL] at h; subst h; rfl
  | x :: r, cs, h => by
    simp only [resKL] at h
    cases h1 : resK tb S x with
    | none => rw [h1] at h; cases h
    | some c =>
      cases h2 : resKL tb S r with
      | none => rw [h1, h2] at h; cases h
      | some l =>
        rw [h1, h2] at h
        simp only [Option.some.injEq] at h; subst h
        simp only [resVL, resK_spec hT h1, resKL_spec hT h2, KV.avL]
def oneK : List KV → KV
  | [c] => c
  | cs => .tup cs
theorem oneK_spec (cs : List KV) : (oneK cs).av = oneOf (KV.avL cs) := by
  cases cs with
  | nil => rfl
  | cons c r => cases r <;> rfl
def idxK' (n : Nat) : List Nat → Nat → Option Nat
  | [], _ => none
  | k :: r, i => match Nat.beq k n with
    | true => some i
    | false => idxK' n r (i + 1)
theorem idxK'_spec {n : Nat} : ∀ {l : List Nat} {i : Nat}, idxK' n l i = idxN n l i
  | [], _ => rfl
  | k :: r, i => by
    simp only [idxK', idxN]
    by_cases e : k = n
    · subst e; simp
    · have : Nat.beq k n = false := by cases h : Nat.beq k n with
        | false => rfl
        | true => exact absurd (Nat.eq_of_beq_eq_true h) e
      simp [this, e, idxK'_spec (l := r)]
def lessK (ids : List Nat) : List (Nat × KRow) → List (Nat × KRow)
  | [] => []
  | (k, R) :: r => match memN k ids with
    | true => lessK ids r
    | false => (k, R) :: lessK ids r
theorem lessK_spec (ids : List Nat) : ∀ (O : List (Nat × KRow)), mapO (lessK ids O) = (mapO O).filter fun p => !memN p.1 ids
  | [] => rfl
  | (k, R) :: r => by
    simp only [lessK, mapO, List.filter_cons]
    cases memN k ids <;> simp [mapO, lessK_spec ids r]
def KSt.less (S : KSt) (ids : List Nat) : KSt := ⟨S.n, S.T, S.H, lessK ids S.O, S.low⟩
theorem KSt.less_st (S : KSt) (ids : List Nat) : (S.less ids).st = lessO S.st ids := by simp only [KSt.less, KSt.st, lessO, lessK_spec]
def ret1K (ids : List Nat) (S : KSt) (c : KV) : Option KV := match c with
  | .osl id => match idxK' id ids 0 with
    | some i => some (.osl i)
    | none => snapK true (S.less ids) 8 (.osl id)
  | .agg _ => none
  | .fn f cs => snapK true (S.less ids) 8 (.fn f cs)
  | .loc b off => snapK true (S.less ids) 8 (.loc b off)
  | c => match c.isD with
    | true => some c
    | false => none
def snapped (c : KV) : Bool := c.isD
theorem snapped_av {v : KV} (h : snapped v = true) : v.av = .d v.toD := by
  exact KV.isD_av h
theorem rowKV_snapped (R : KRow) : snapped (rowKV R) = true := by
  unfold rowKV
  split <;> rfl
theorem rowSn_snapped {R : KRow} {v : KV} (h : rowSn R = some v) : snapped v = true := by
  unfold rowSn at h
  split at h
  · cases h; exact rowKV_snapped R
  · split at h
    · cases h
      unfold mapKV
      split <;> rfl
    · cases h
theorem snapK_noagg {lv : Bool} {S : KSt} {n : Nat} {c v : KV} (h : snapK lv S n c = some v) (hc : ∀ l, c ≠ .agg l) : snapped v = true := by
  cases n with
  | zero => simp [snapK] at h
  | succ n =>
    unfold snapK at h
    split at h
    · exact absurd rfl (hc _)
    · obtain ⟨vs, _, rfl⟩ := omap_spec h; rfl
    · split at h
      · split at h
        · obtain ⟨vs, _, rfl⟩ := omap_spec h; rfl
        · cases h
      · cases h
    · split at h
      · split at h
        · exact rowSn_snapped h
        · cases h
      · cases h
    · cases h; rfl
    · cases h; rfl
    · cases h; rfl
    · split at h
      · rename_i hd
        cases h
        exact hd
      · cases h
theorem ret1K_spec {ids : List Nat} {S : KSt} {c v : KV} (h : ret1K ids S c = some v) : ret1 ids S.st c.av = some v.av := by
  have main : ∀ c : KV, (∀ l, c ≠ .agg l) → snapK true (S.less ids) 8 c = some v → (snap true (lessO S.st ids) 8 c.av).map .d = some v.av := fun c hc h => by
    have := snapK_spec 8 c v h
    rw [KSt.less_st] at this
    rw [this, snapped_av (snapK_noagg h hc)]; rfl
  have dd : ∀ c : KV, c.isD = true → some c = some v → ret1 ids S.st c.av = some v.av := fun c hd e => by
    cases e
    have hav := KV.isD_av hd
    have hag := KV.isD_agg hd
    rw [hav]
    unfold ret1
    simp only
    have : snap true (lessO S.st ids) 8 (.d v.toD) = some v.toD := by
      cases hx : v.toD with
      | agg l => exact absurd hx (hag l)
      | _ => rfl
    rw [this]; rfl
  unfold ret1K at h
  split at h
  · rename_i id
    rw [idxK'_spec] at h
    simp only [KV.av, ret1]
    split at h
    · rename_i i hi
      rw [hi]
      cases h; rfl
    · rename_i hi
      rw [hi]
      exact main (.osl id) (fun l e => by cases e) h
  · cases h
  · exact main _ (fun l e => by cases e) h
  · exact main _ (fun l e => by cases e) h
  · split at h
    · rename_i hd; exact dd _ hd h
    · cases h
def ret1KL (ids : List Nat) (S : KSt) : List KV → Option (List KV)
  | [] => some []
  | c :: r => match ret1K ids S c with
    | some x => match ret1KL ids S r with
      | some l => some (x :: l)
      | none => none
    | none => none
theorem ret1KL_spec {ids : List Nat} {S : KSt} : ∀ {cs vs : List KV}, ret1KL ids S cs = some vs → ret1L ids S.st (KV.avL cs) = some (KV.avL vs)
  | [], vs, h => by simp [ret1KL] at h; subst h; rfl
  | c :: r, vs, h => by
    simp only [ret1KL] at h
    cases h1 : ret1K ids S c with
    | none => rw [h1] at h; cases h
    | some v =>
      cases h2 : ret1KL ids S r with
      | none => rw [h1, h2] at h; cases h
      | some l =>
        rw [h1, h2] at h
        simp only [Option.some.injEq] at h; subst h
        simp only [KV.avL, ret1L, ret1K_spec h1, ret1KL_spec h2]
def ret2K (ids : List Nat) (S : KSt) (c : KV) : Option KV := match c with
  | .agg cs => omap (ret1KL ids S cs) .agg
  | c => ret1K ids S c
theorem ret2K_spec {ids : List Nat} {S : KSt} {c v : KV} (h : ret2K ids S c = some v) : ret2 ids S.st c.av = some v.av := by
  unfold ret2K at h
  split at h
  · obtain ⟨l, h1, rfl⟩ := omap_spec h
    simp only [KV.av, ret2, ret1KL_spec h1, Option.map_some]
  · rename_i hc
    have := ret1K_spec h
    cases c <;> first | exact absurd rfl (hc _) | exact this
def ret2KL (ids : List Nat) (S : KSt) : List KV → Option (List KV)
  | [] => some []
  | c :: r => match ret2K ids S c with
    | some x => match ret2KL ids S r with
      | some l => some (x :: l)
      | none => none
    | none => none
theorem ret2KL_spec {ids : List Nat} {S : KSt} : ∀ {cs vs : List KV}, ret2KL ids S cs = some vs → ret2L ids S.st (KV.avL cs) = some (KV.avL vs)
  | [], vs, h => by simp [ret2KL] at h; subst h; rfl
  | c :: r, vs, h => by
    simp only [ret2KL] at h
    cases h1 : ret2K ids S c with
    | none => rw [h1] at h; cases h
    | some v =>
      cases h2 : ret2KL ids S r with
      | none => rw [h1, h2] at h; cases h
      | some l =>
        rw [h1, h2] at h
        simp only [Option.some.injEq] at h; subst h
        simp only [KV.avL, ret2L, ret2K_spec h1, ret2KL_spec h2]
def ret3K (ids : List Nat) (S : KSt) (c : KV) : Option KV := match c with
  | .tup cs => omap (ret2KL ids S cs) .tup
  | c => ret2K ids S c
theorem ret3K_spec {ids : List Nat} {S : KSt} {c v : KV} (h : ret3K ids S c = some v) : ret3 ids S.st c.av = some v.av := by
  unfold ret3K at h
  split at h
  · obtain ⟨l, h1, rfl⟩ := omap_spec h
    simp only [KV.av, ret3, ret2KL_spec h1, Option.map_some]
  · rename_i hc
    have := ret2K_spec h
    cases c <;> first | exact absurd rfl (hc _) | exact this
def rowsOfK (S : KSt) : List Nat → Option (List KRow)
  | [] => some []
  | id :: r => match lk S.O id with
    | some R => match R.live with
      | true => match rowsOfK S r with
        | some l => some (R :: l)
        | none => none
      | false => none
    | none => none
theorem rowsOfK_spec {S : KSt} : ∀ {ids : List Nat} {rows : List KRow}, rowsOfK S ids = some rows → rowsOf S.st ids = some (rows.map KRow.row)
  | [], rows, h => by simp [rowsOfK] at h; subst h; rfl
  | id :: r, rows, h => by
    simp only [rowsOfK] at h
    split at h
    · rename_i R hR
      split at h
      · rename_i hl
        split at h
        · rename_i l h2
          cases h
          have : R.row.live = true := hl
          simp only [rowsOf, st_lookO, hR, Option.map_some, rowsOfK_spec h2, this, if_true, List.map_cons]
        · cases h
      · cases h
    · cases h
/-- The end of a function. -/
def retKQ {σ : Type} (I : Prim σ) (tb : Nat → Option TI) (rs : List ResultVar) (ids : List Nat) (e : Exit) (S : KSt) (s : σ) : Prop :=
  match (match e with | .normal => true | .ret => true | _ => false) with
  | true => kk (resKL tb S rs) fun cs => kk (ret3K ids S (oneK cs)) fun v => kk (rowsOfK S ids) fun rows => I.post v rows
  | false => False
def okArg : KV → Bool
  | .agg cs => allD cs
  | c => c.isD
def okArgs : List KV → Bool
  | [] => true
  | c :: r => okArg c && okArgs r
theorem okArg_av {c : KV} (h : okArg c = true) : toAV c.toD = c.av := by
  unfold okArg at h
  split at h
  · simp only [KV.toD, toAV, KV.av, allD_av h]
  · rw [KV.isD_av h]
    have := KV.isD_agg h
    cases hx : c.toD with
    | agg l => exact absurd hx (this l)
    | _ => rfl
def argK : Nat → List KV → List (Nat × KV)
  | _, [] => []
  | i, c :: r => (i, c) :: argK (i + 1) r
theorem argK_spec : ∀ {args : List KV} {i : Nat}, okArgs args = true → mapT (argK i args) = argT i (KV.toDL args)
  | [], _, _ => rfl
  | c :: q, i, h => by
    simp only [okArgs, Bool.and_eq_true] at h
    simp only [argK, mapT, KV.toDL, argT, okArg_av h.1, argK_spec h.2]
def KS0 (n : Nat) (args : List KV) : KSt := ⟨n, argK 0 args, [], [], 0⟩
/-- A contract, for evaluation. -/
def KC (P : Program) (f : Nat) (args : List KV) (res : KV) (rows : List KRow) : Prop := Con P f (KV.toDL args) res.av (rows.map KRow.row)
def endK (res : KV) (rows : List KRow) : KV → List KRow → Prop := fun v rs => v.av = res.av ∧ rs.map KRow.row = rows.map KRow.row
theorem con_k {f : Nat} {fn : Func} {c : Code} {args : List KV} {res : KV} {rows : List KRow} (ids : List Nat) (pz : List Nat) (hT : SeatOk P tb) (hf : P.funcs[f]? = some fn) (hb : fn.body = some c) (hent : Ent P f)
    (hdr : drawsOk c = true) (hn : Nat.ble (lenK args) fn.ntmps = true) (ha : okArgs args = true) (hid : ids.Nodup)
    (h : ∀ base I, I = primK P (noEnv P) base none (endK res rows) → wpK I tb pz c (KS0 fn.ntmps args) () (retKQ I tb fn.results.toList ids)) : KC P f args res rows := by
  refine con_intro hf hb hent (by rw [toDL_len]; exact hn) fun base => ?_
  have := wpK_aw hT.mix hT.tab hdr (h base _ rfl)
  rw [show (KS0 fn.ntmps args).st = S0 fn.ntmps (KV.toDL args) from by simp only [KS0, KSt.st, S0, argK_spec ha]; rfl] at this
  refine AW_weakQ (this.mono ?_)
  rintro e S s ⟨S', hw, hq⟩
  refine ⟨S'.st, hw, ?_⟩
  unfold retKQ at hq
  split at hq
  · rename_i he
    replace hq := kk_spec hq; obtain ⟨cs, h1, hq⟩ := hq
    replace hq := kk_spec hq; obtain ⟨v, h2, hq⟩ := hq
    replace hq := kk_spec hq; obtain ⟨rs, h3, hq⟩ := hq
    obtain ⟨e1, e2⟩ := (hq : v.av = res.av ∧ rs.map KRow.row = rows.map KRow.row)
    refine ⟨?_, KV.avL cs, ids, resKL_spec hT.tab h1, ?_, ?_, hid⟩
    · cases e <;> first | exact .inl rfl | exact .inr rfl | cases he
    · rw [← oneK_spec, ret3K_spec h2, e1]
    · rw [rowsOfK_spec h3, e2]
  · exact hq.elim

/-! What one state says, the other one says, too. -/
def eqT (T : List (Nat × KV)) : List (Nat × KV) → Prop
  | [] => True
  | (t, c) :: r => (match lk T t with | some v => v.av = c.av | none => False) ∧ eqT T r
def eqH (T : List (Nat × KBlk)) : List (Nat × KBlk) → Prop
  | [] => True
  | (t, c) :: r => (match lk T t with | some v => v.blk = c.blk | none => False) ∧ eqH T r
def eqO (T : List (Nat × KRow)) : List (Nat × KRow) → Prop
  | [] => True
  | (t, c) :: r => (match lk T t with | some v => v.row = c.row | none => False) ∧ eqO T r
theorem eqT_spec {T : List (Nat × KV)} : ∀ {T' : List (Nat × KV)}, eqT T T' → subT (mapT T) (mapT T')
  | [], _ => trivial
  | (t, c) :: q, h => by
    refine ⟨?_, eqT_spec h.2⟩
    have := h.1
    split at this
    · rename_i v hv; rw [look_mapT, hv, Option.map_some, this]
    · exact this.elim
theorem eqH_spec {T : List (Nat × KBlk)} : ∀ {T' : List (Nat × KBlk)}, eqH T T' → subH (mapH T) (mapH T')
  | [], _ => trivial
  | (t, c) :: q, h => by
    refine ⟨?_, eqH_spec h.2⟩
    have := h.1
    split at this
    · rename_i v hv; rw [look_mapH, hv, Option.map_some, this]
    · exact this.elim
theorem eqO_spec {T : List (Nat × KRow)} : ∀ {T' : List (Nat × KRow)}, eqO T T' → subO (mapO T) (mapO T')
  | [], _ => trivial
  | (t, c) :: q, h => by
    refine ⟨?_, eqO_spec h.2⟩
    have := h.1
    split at this
    · rename_i v hv; rw [look_mapO, hv, Option.map_some, this]
    · exact this.elim
theorem weak_k {S S' : KSt} (hn : S'.n = S.n) (hl : S.low = S'.low) (hT : eqT S.T S'.T) (hH : eqH S.H S'.H) (hO : eqO S.O S'.O) : Weak S.st S'.st :=
  weak_of hn hl (eqT_spec hT) (eqH_spec hH) (eqO_spec hO)
/-- As weak_k, once some rows are frozen. -/
theorem weak_f (ids : List Nat) {S S' : KSt} (h : Weak ((ids.foldl (fun S id => frzK id S) S)).st S'.st) : Weak S.st S'.st := by
  refine Weak.trans ?_ h
  clear h
  induction ids generalizing S with
  | nil => exact Weak.refl _
  | cons i q ih => exact (frzK_keeps i S).1.trans ih
theorem AW_WK {c : Code} {S : KSt} {s : E.σ} {Q : Exit → KSt → E.σ → Prop} (h : AW E base r c S.st s (KQ Q)) : (primK P E base r post).W c S s Q := h
/-- A loop; at its head the state is 'st a' for some a with 'inv a s', and 'm a' falls. -/
theorem W_loop {A : Type u} {I : Prim E.σ} (hI : I = primK P E base r post) (hT : SeatOk P tb) (pz : List Nat) {c : Code} (hdr : drawsOk c = true) {S : KSt} {s : E.σ} {Q : Exit → KSt → E.σ → Prop} (m : A → Nat) (st : A → KSt) (inv : A → E.σ → Prop) (a0 : A)
    (hw : Weak S.st (st a0).st) (h0 : inv a0 s) (round : ∀ a s, inv a s → ∀ R : KSt → E.σ → Prop, (∀ S' s' a', m a' < m a → Weak S'.st (st a').st → inv a' s' → R S' s') → wpK I tb pz c (st a) s (thenK R Q)) : I.W (.loop c) S s Q := by
  subst hI
  refine AW_weak hw (AW_loop (fun k S s => ∃ a, S = (st a).st ∧ k = m a ∧ inv a s) (m a0) ⟨a0, rfl, rfl, h0⟩ ?_)
  rintro k S s ⟨a, rfl, rfl, h1⟩
  refine AW_weakQ ((wpK_aw hT.mix hT.tab hdr (round a s h1 (fun S' s' => ∃ a', m a' < m a ∧ Weak S'.st (st a').st ∧ inv a' s') (fun S' s' a' h1 h2 h3 => ⟨a', h1, h2, h3⟩))).mono ?_)
  rintro e S2 s2 ⟨S3, hw3, hq⟩
  refine ⟨S3.st, hw3, ?_⟩
  cases e with
  | normal =>
    obtain ⟨a', hk, hw4, h4⟩ := hq
    exact ⟨m a', (st a').st, hk, hw4, a', rfl, rfl, h4⟩
  | _ => exact KQ_of hq
/-- A region that draws its order: whatever the order, it ends in the state 'st', or in one that says more. -/
theorem W_region {I : Prim E.σ} (hI : I = primK P E base r post) (hT : SeatOk P tb) (pz : List Nat) {c : Code} (hdr : drawsOk c = true) {S : KSt} {s : E.σ} {Q : Exit → KSt → E.σ → Prop} (st : KSt)
    (h1 : ∀ R : KSt → E.σ → Prop, (∀ S', Weak S'.st st.st → R S' s) → wpK I tb pz c S s (thenK R (fun _ _ _ => False))) (h2 : Q .normal st s) : I.W c S s Q := by
  subst hI
  refine AW_weakQ ((wpK_aw hT.mix hT.tab hdr (h1 (fun S' s' => Weak S'.st st.st ∧ s' = s) (fun S' h => ⟨h, rfl⟩))).mono ?_)
  rintro e S2 s2 ⟨S3, hw3, hq⟩
  cases e with
  | normal =>
    obtain ⟨hw4, rfl⟩ := hq
    exact ⟨st.st, hw3.trans hw4, KQ_of h2⟩
  | _ => exact hq.elim
theorem C_call {I : Prim E.σ} (hI : I = primK P E base r post) {g : Nat} {args args' : List KV} {res : KV} {rows : List KRow} {K : KV → List KRow → Prop} (h : KC P g args' res rows) (ha : KV.toDL args = KV.toDL args') (k : K res rows) : I.C g args K := by
  subst hI
  refine ⟨res, rows, ?_, k⟩
  rw [ha]; exact h
theorem C_call' {I : Prim E.σ} (hI : I = primK P E base r post) {g : Nat} {args : List KV} {res : KV} {rows : List KRow} {K : KV → List KRow → Prop} (h : KC P g args res rows) (k : K res rows) : I.C g args K := C_call hI h rfl k
/-- A call, whose result gets a name. -/
theorem C_val {α : Type u} {I : Prim E.σ} (hI : I = primK P E base r post) (f : α → KV) {g : Nat} {args args' : List KV} {a : α} {K : KV → List KRow → Prop} (h : KC P g args' (f a) []) (ha : KV.toDL args = KV.toDL args') (k : ∀ v, v = a → K (f v) []) : I.C g args K :=
  C_call hI h ha (k a rfl)
theorem C_bool {I : Prim E.σ} (hI : I = primK P E base r post) {g : Nat} {args args' : List KV} {a : Bool} {K : KV → List KRow → Prop} (h : KC P g args' (.bool a) []) (ha : KV.toDL args = KV.toDL args') (k : ∀ v, v = a → K (.bool v) []) : I.C g args K :=
  C_call hI h ha (k a rfl)
theorem C_int {I : Prim E.σ} (hI : I = primK P E base r post) {g : Nat} {args args' : List KV} {i : IntKind} {a : Int} {K : KV → List KRow → Prop} (h : KC P g args' (.int i a) []) (ha : KV.toDL args = KV.toDL args') (k : ∀ v, v = a → K (.int i v) []) : I.C g args K :=
  C_call hI h ha (k a rfl)
theorem CD_call {I : Prim E.σ} (hI : I = primK P E base r post) {g : Nat} {args : List KV} {ds xs : List D} {res : KV} {rows : List KRow} {K : KV → List KRow → Prop} (h : Con P g xs res.av (rows.map KRow.row)) (ha : KV.toDL args ++ ds = xs) (k : K res rows) : I.CD g args ds K := by
  subst hI
  subst ha
  exact ⟨res, rows, h, k⟩
theorem K_tst {I : Prim E.σ} (hI : I = primK P E base r post) {b : Bool} {A B : Prop} (h1 : b = true → A) (h2 : b = false → B) : I.tst b A B := by
  subst hI; exact ⟨h1, h2⟩
theorem K_conj {I : Prim E.σ} (hI : I = primK P E base r post) {A B : Prop} (h1 : A) (h2 : B) : I.conj A B := by
  subst hI; exact ⟨h1, h2⟩
theorem av_int {k : IntKind} {a b : Int} (h : a = b) : KV.av (.int k a) = KV.av (.int k b) := by rw [h]
theorem av_bool {a b : Bool} (h : a = b) : KV.av (.bool a) = KV.av (.bool b) := by rw [h]
/-- The pieces of a row, put together anew. -/
theorem K_norm {I : Prim E.σ} (hI : I = primK P E base r post) {ps : List KP} {sz : Nat} {K : List KP → Prop} (ps' : List KP) (h : rowsD sz ps' = rowsD sz ps) (k : K ps') : I.norm ps sz K := by
  subst hI; exact ⟨ps', h, k⟩
/-- The small rules by which a test's condition is read. -/
theorem EVB : (∀ a b : D, (AV.d a = AV.d b) = (a = b)) ∧ (∀ a b : List AV, (AV.agg a = AV.agg b) = (a = b)) ∧ (∀ a b : List AV, (AV.tup a = AV.tup b) = (a = b)) ∧
    (∀ (k k' : IntKind) (n n' : Int), (D.int k n = D.int k' n') = (k = k' ∧ n = n')) ∧ (∀ a b : Bool, (D.bool a = D.bool b) = (a = b)) ∧
    (∀ (a b : AV) (r s : List AV), (a :: r = b :: s) = (a = b ∧ r = s)) ∧ (∀ n : Nat, n + 0 = n) ∧ (∀ p : Prop, (True ∧ p) = p) ∧ (∀ p : Prop, (p ∧ True) = p) ∧
    (∀ (p : Prop) [Decidable p], (decide p = true) = p) ∧ (∀ (p : Prop) [Decidable p], (decide p = false) = ¬ p) ∧ (∀ b : Bool, ((!b) = true) = (b = false)) ∧ (∀ b : Bool, ((!b) = false) = (b = true)) ∧
    (∀ p : Prop, (True → p) = p) ∧ (∀ p : Prop, (False → p) = True) ∧ (∀ n : Nat, Int.ofNat n = (n : Int)) ∧ (((0 : Nat) : Int) = 0) :=
  ⟨fun _ _ => by simp, fun _ _ => by simp, fun _ _ => by simp, fun _ _ _ _ => by simp, fun _ _ => by simp, fun _ _ _ _ => by simp, fun _ => rfl, fun _ => by simp, fun _ => by simp,
    fun _ _ => by simp, fun _ _ => by simp, fun _ => by simp, fun _ => by simp, fun _ => by simp, fun _ => by simp, fun _ => rfl, rfl⟩
theorem wp_again {I : Prim E.σ} (hI : I = primK P E base r post) {X : Prop} (h : X) : X := h
end Go.Proofs.Ytgefdljjhmjdaaa.Aw

/- The logic of abstract walks, part N2: arguments of which more is known. -/
namespace Go.Proofs.Ytgefdljjhmjdaaa.Aw
open Go Go.RowKit
set_option linter.unusedVariables false
set_option linter.unusedSimpArgs false

mutual
/-- x says all that y says. -/
def leD : D → D → Prop
  | .sl c sz rows, y => match y with
    | .sl c' sz' rows' => (c' = false ∨ c = c') ∧ sz = sz' ∧ leDLL rows rows'
    | _ => False
  | .agg l, y => match y with
    | .agg l' => leDL l l'
    | _ => False
  | .int k n, y => D.int k n = y
  | .bool b, y => D.bool b = y
  | .str s, y => D.str s = y
  | .fn f cs, y => match y with
    | .fn f' cs' => f = f' ∧ leDL cs cs'
    | _ => False
  | .nilfn, y => D.nilfn = y
  | .ptr cs, y => match y with
    | .ptr cs' => leDL cs cs'
    | _ => False
  | .nilsl, y => match y with
    | .nilsl => True
    | .sl _ _ rows => rows = []
    | _ => False
  | .nilmap, y => D.nilmap = y
  | .nilptr, y => D.nilptr = y
  | .map rows, y => D.map rows = y
def leDL : List D → List D → Prop
  | [], q => q = []
  | x :: r, q => match q with
    | [] => False
    | y :: q => leD x y ∧ leDL r q
def leDLL : List (List D) → List (List D) → Prop
  | [], q => q = []
  | x :: r, q => match q with
    | [] => False
    | y :: q => leDL x y ∧ leDLL r q
end
mutual
theorem leD_refl : ∀ (x : D), leD x x
  | .sl c sz rows => ⟨.inr rfl, rfl, leDLL_refl rows⟩
  | .agg l => leDL_refl l
  | .int k n => rfl
  | .bool b => rfl
  | .str s => rfl
  | .fn f cs => ⟨rfl, leDL_refl cs⟩
  | .nilfn => rfl
  | .ptr cs => leDL_refl cs
  | .nilsl => trivial
  | .nilmap => rfl
  | .nilptr => rfl
  | .map _ => rfl
theorem leDL_refl : ∀ (l : List D), leDL l l
  | [] => rfl
  | x :: r => ⟨leD_refl x, leDL_refl r⟩
theorem leDLL_refl : ∀ (l : List (List D)), leDLL l l
  | [] => rfl
  | x :: r => ⟨leDL_refl x, leDLL_refl r⟩
end
theorem leDL_get : ∀ {l q : List D}, leDL l q → l.length = q.length ∧ ∀ (i : Nat) (y : D), q[i]? = some y → ∃ x, l[i]? = some x ∧ leD x y
  | [], q, h => by
    have h : q = [] := h
    subst h
    exact ⟨rfl, fun i y hy => by simp at hy⟩
  | x :: r, [], h => h.elim
  | x :: r, y :: q, h => by
    obtain ⟨h1, h2⟩ := (h : leD x y ∧ leDL r q)
    obtain ⟨g1, g2⟩ := leDL_get h2
    refine ⟨by simp [g1], fun i z hz => ?_⟩
    match i, hz with
    | 0, hz => cases hz; exact ⟨x, rfl, h1⟩
    | i + 1, hz => exact g2 i z (by simpa using hz)
theorem leDLL_get : ∀ {l q : List (List D)}, leDLL l q → l.length = q.length ∧ ∀ (i : Nat) (y : List D), q[i]? = some y → ∃ x, l[i]? = some x ∧ leDL x y
  | [], q, h => by
    have h : q = [] := h
    subst h
    exact ⟨rfl, fun i y hy => by simp at hy⟩
  | x :: r, [], h => h.elim
  | x :: r, y :: q, h => by
    obtain ⟨h1, h2⟩ := (h : leDL x y ∧ leDLL r q)
    obtain ⟨g1, g2⟩ := leDLL_get h2
    refine ⟨by simp [g1], fun i z hz => ?_⟩
    match i, hz with
    | 0, hz => cases hz; exact ⟨x, rfl, h1⟩
    | i + 1, hz => exact g2 i z (by simpa using hz)
theorem Rd.le {w : World} {ok : Nat → Prop} {x : D} {v : Value} (h : Rd w ok x v) : ∀ {y : D}, leD x y → Rd w ok y v := by
  induction h with
  | int k n => intro y e; cases (e : D.int k n = y); exact .int k n
  | bool b => intro y e; cases (e : D.bool b = y); exact .bool b
  | str s => intro y e; cases (e : D.str s = y); exact .str s
  | agg cs vs hl h1 h ih =>
    intro y e
    cases y with
    | agg l =>
      obtain ⟨g1, g2⟩ := leDL_get (e : leDL cs l)
      refine .agg l vs (by rw [hl, g1]) h1 (fun i c v hc hv => ?_)
      obtain ⟨x, e1, e2⟩ := g2 i c hc
      exact ih i x v e1 hv e2
    | _ => exact e.elim
  | fn f cs vs hl h ih =>
    intro y e
    cases y with
    | fn f' l =>
      obtain ⟨rfl, e⟩ := (e : f = f' ∧ leDL cs l)
      obtain ⟨g1, g2⟩ := leDL_get e
      refine .fn f l vs (by rw [hl, g1]) (fun i c v hc hv => ?_)
      obtain ⟨x, e1, e2⟩ := g2 i c hc
      exact ih i x v e1 hv e2
    | _ => exact e.elim
  | nilfn => intro y e; cases (e : D.nilfn = y); exact .nilfn
  | map rows k clock es vs hok hh hn hst hsz hv h ih => intro y e; cases (e : D.map rows = y); exact .map rows k clock es vs hok hh hn hst hsz hv h
  | ptr cs b off vs hok hc h ih =>
    intro y e
    cases y with
    | ptr l =>
      obtain ⟨g1, g2⟩ := leDL_get (e : leDL cs l)
      refine .ptr l b off vs hok (fun i c hi => ?_) (fun i c hi => ?_)
      · obtain ⟨x, e1, e2⟩ := g2 i c hi
        exact hc i x e1
      · obtain ⟨x, e1, e2⟩ := g2 i c hi
        exact ih i x e1 e2
    | _ => exact e.elim
  | sl0 clip sz =>
    intro y e
    cases y with
    | sl c' sz' rows' =>
      obtain ⟨_, rfl, h3⟩ := (e : (c' = false ∨ clip = c') ∧ sz = sz' ∧ rows' = [])
      subst h3
      exact .sl0 _ _
    | _ => exact e.elim
  | slE clip sz ad =>
    intro y e
    cases y with
    | sl c' sz' rows' =>
      obtain ⟨_, rfl, h3⟩ := (e : (c' = false ∨ clip = c') ∧ sz = sz' ∧ rows' = [])
      subst h3
      exact .slE _ _ _
    | _ => exact e.elim
  | sl clip sz rows b off cap vs hok h1 h2 h3 h4 h5 h6 h7 ih =>
    intro y e
    cases y with
    | sl c' sz' rows' =>
      obtain ⟨g1, rfl, g3⟩ := (e : (c' = false ∨ clip = c') ∧ sz = sz' ∧ leDLL rows rows')
      obtain ⟨l1, l2⟩ := leDLL_get g3
      have key : ∀ (i : Nat) (row : List D) (j : Nat) (c : D), rows'[i]? = some row → row[j]? = some c → ∃ row0 c0, rows[i]? = some row0 ∧ row0[j]? = some c0 ∧ leD c0 c := fun i row j c hi hj => by
        obtain ⟨row0, e1, e2⟩ := l2 i row hi
        obtain ⟨c0, e3, e4⟩ := (leDL_get e2).2 j c hj
        exact ⟨row0, c0, e1, e3, e4⟩
      rw [l1]
      refine .sl c' sz rows' b off cap vs hok (by rw [← l1]; exact h1) h2 (fun hc => ?_) (fun row hr => ?_) (fun i row j c hi hj => ?_) (fun i row j c hi hj => ?_) (fun i row j c hi hj => ?_)
      · rcases g1 with g1 | g1
        · rw [g1] at hc; cases hc
        · rw [← l1]; exact h3 (g1.trans hc)
      · obtain ⟨i, hi⟩ := List.mem_iff_getElem?.1 hr
        obtain ⟨row0, e1, e2⟩ := l2 i row hi
        rw [← (leDL_get e2).1]
        exact h4 row0 (List.mem_iff_getElem?.2 ⟨i, e1⟩)
      · obtain ⟨row0, c0, e1, e2, e3⟩ := key i row j c hi hj
        exact h5 i row0 j c0 e1 e2
      · obtain ⟨row0, c0, e1, e2, e3⟩ := key i row j c hi hj
        exact h6 i row0 j c0 e1 e2
      · obtain ⟨row0, c0, e1, e2, e3⟩ := key i row j c hi hj
        exact ih i row0 j c0 e1 e2 e3
    | _ => exact e.elim
  | nilsl =>
    intro y e
    cases y with
    | nilsl => exact .nilsl
    | sl c sz rows =>
      cases (e : rows = [])
      exact .sl0 _ _
    | _ => exact e.elim
  | nilmap => intro y e; cases (e : D.nilmap = y); exact .nilmap
  | nilptr => intro y e; cases (e : D.nilptr = y); exact .nilptr
theorem Con.le {P : Program} {f : Nat} {args args' : List D} {res : AV} {rows : List Row} (h : Con P f args' res rows) (ha : leDL args args') : Con P f args res rows := by
  obtain ⟨g1, g2⟩ := leDL_get ha
  refine ⟨h.1, fun w ok vs hok hvs => h.2 w ok vs hok ⟨by rw [hvs.1, g1], fun i x v hx hv => ?_⟩⟩
  obtain ⟨y, e1, e2⟩ := g2 i x hx
  exact (hvs.2 i y v e1 hv).le e2
variable {P : Program} {E : Env P} {base : Nat} {r : Option Nat} {post : KV → List KRow → Prop}
/-- A call with arguments of which more is known. -/
theorem C_le {I : Prim E.σ} (hI : I = primK P E base r post) {g : Nat} {args args' : List KV} {res : KV} {rows : List KRow} {K : KV → List KRow → Prop} (h : KC P g args' res rows) (ha : leDL (KV.toDL args) (KV.toDL args')) (k : K res rows) : I.C g args K := by
  subst hI
  exact ⟨res, rows, Con.le h ha, k⟩
theorem KC_le {g : Nat} {args args' : List KV} {res : KV} {rows : List KRow} (h : KC P g args' res rows) (ha : leDL (KV.toDL args) (KV.toDL args')) : KC P g args res rows := Con.le h ha
mutual
/-- A result that says more. -/
def leA : AV → AV → Prop
  | .d x, y => match y with
    | .d x' => leD x x'
    | _ => False
  | .agg l, y => match y with
    | .agg l' => leAL l l'
    | _ => False
  | .tup l, y => match y with
    | .tup l' => leAL l l'
    | _ => False
  | .any, y => AV.any = y
  | .fn f cs, y => AV.fn f cs = y
  | .loc b o, y => AV.loc b o = y
  | .asl a b c d, y => AV.asl a b c d = y
  | .osl i, y => AV.osl i = y
  | .oloc a b c d, y => AV.oloc a b c d = y
  | .yld, y => AV.yld = y
def leAL : List AV → List AV → Prop
  | [], q => q = []
  | x :: r, q => match q with
    | [] => False
    | y :: q => leA x y ∧ leAL r q
end
theorem leAL_get : ∀ {l q : List AV}, leAL l q → l.length = q.length ∧ ∀ (i : Nat) (y : AV), q[i]? = some y → ∃ x, l[i]? = some x ∧ leA x y
  | [], q, h => by
    have h : q = [] := h
    subst h
    exact ⟨rfl, fun i y hy => by simp at hy⟩
  | x :: r, [], h => h.elim
  | x :: r, y :: q, h => by
    obtain ⟨h1, h2⟩ := (h : leA x y ∧ leAL r q)
    obtain ⟨g1, g2⟩ := leAL_get h2
    refine ⟨by simp [g1], fun i z hz => ?_⟩
    match i, hz with
    | 0, hz => cases hz; exact ⟨x, rfl, h1⟩
    | i + 1, hz => exact g2 i z (by simpa using hz)
theorem RdA.le {w : World} {ok : Nat → Prop} {μ : Nat → Option Nat} {ν : Nat → Option Value} {yl : Nat} {x : AV} {v : Value} (h : RdA w ok μ ν yl x v) : ∀ {y : AV}, leA x y → RdA w ok μ ν yl y v := by
  induction h with
  | d hd =>
    intro y e
    cases y with
    | d x' => exact .d (hd.le e)
    | _ => exact e.elim
  | agg cs vs hl h1 h ih =>
    intro y e
    cases y with
    | agg l =>
      obtain ⟨g1, g2⟩ := leAL_get (e : leAL cs l)
      refine .agg l vs (by rw [hl, g1]) h1 (fun i c v hc hv => ?_)
      obtain ⟨x, e1, e2⟩ := g2 i c hc
      exact ih i x v e1 hv e2
    | _ => exact e.elim
  | tup cs vs hl h ih =>
    intro y e
    cases y with
    | tup l =>
      obtain ⟨g1, g2⟩ := leAL_get (e : leAL cs l)
      refine .tup l vs (by rw [hl, g1]) (fun i c v hc hv => ?_)
      obtain ⟨x, e1, e2⟩ := g2 i c hc
      exact ih i x v e1 hv e2
    | _ => exact e.elim
  | any v => intro y e; cases (e : AV.any = y); exact .any v
  | fn f cs vs hl h ih => intro y e; cases (e : AV.fn f cs = y); exact .fn f cs vs hl h
  | loc h => intro y e; cases (e : AV.loc _ _ = y); exact .loc h
  | osl h h1 => intro y e; cases (e : AV.osl _ = y); exact .osl h h1
  | _ => intro y e; first | (cases (e : _ = y); constructor <;> assumption) | skip
theorem Con.res_le {P : Program} {f : Nat} {args : List D} {res res' : AV} {rows : List Row} (h : Con P f args res rows) (hr : leA res res') : Con P f args res' rows := by
  refine ⟨h.1, fun w ok vs hok hvs => (h.2 w ok vs hok hvs).mono ?_⟩
  rintro e w' ⟨v, ok', ν', e1, e2, e3, e4, e5, e6⟩
  exact ⟨v, ok', ν', e1, e2, e3, e4, fun μ yl => (e5 μ yl).le hr, e6⟩
theorem KC_res {P : Program} {g : Nat} {args : List KV} {res res' : KV} {rows : List KRow} (h : KC P g args res rows) (hr : leA res.av res'.av) : KC P g args res' rows := Con.res_le h hr
end Go.Proofs.Ytgefdljjhmjdaaa.Aw

/- The logic of abstract walks, part M7: iterators and loops over them, by evaluation. -/
namespace Go.Proofs.Ytgefdljjhmjdaaa.Aw
open Go Go.RowKit
set_option linter.unusedVariables false
set_option linter.unusedSimpArgs false
universe u
variable {P : Program} {E : Env P} {base : Nat} {r : Option Nat} {post : KV → List KRow → Prop} {tb : Nat → Option TI}

def KSY (n : Nat) (caps : List KV) : KSt := ⟨n, (0, .yld) :: argK 1 caps, [], [], 0⟩
def finK {σ : Type} (Fin : σ → Prop) (e : Exit) (S : KSt) (s : σ) : Prop := match (match e with | .normal => true | .ret => true | _ => false) with
  | true => Fin s
  | false => False
/-- An iterator's contract, for evaluation. -/
def KI (P : Program) (f : Nat) (caps : List KV) (ys : List (List KV)) : Prop := IterCon P f (KV.toDL caps) (ys.map KV.toDL)
theorem iter_k {f : Nat} {fn : Func} {c : Code} {caps : List KV} {ys : List (List KV)} (pz : List Nat) (hT : SeatOk P tb) (hf : P.funcs[f]? = some fn) (hb : fn.body = some c) (hent : Ent P f) (hdr : drawsOk c = true) (hn : Nat.ble (lenK caps + 1) fn.ntmps = true) (ha : okArgs caps = true) (hres : fn.results = #[])
    (h : ∀ (E : Env P) (Inv : Nat → E.σ → Prop) (Fin : E.σ → Prop), Takes E (ys.map KV.toDL) Inv Fin → ∀ (base : Nat) (s : E.σ), Inv 0 s → ∀ I, I = primK P E base none (fun _ _ => False) → wpK I tb pz c (KSY fn.ntmps caps) s (finK Fin)) : KI P f caps ys := by
  refine iter_intro hf hb hent (by rw [toDL_len]; exact hn) hres fun E Inv Fin hT' base s h0 => ?_
  have := wpK_aw hT.mix hT.tab hdr (h E Inv Fin hT' base s h0 _ rfl)
  rw [show (KSY fn.ntmps caps).st = SY fn.ntmps (KV.toDL caps) from by simp only [KSY, KSt.st, SY, mapT, argK_spec ha]; rfl] at this
  refine this.mono ?_
  rintro e S s' ⟨S', hw, hq⟩
  unfold finK at hq
  split at hq
  · rename_i he
    refine ⟨?_, hq⟩
    cases e <;> first | exact .inl rfl | exact .inr rfl | cases he
  · exact hq.elim
theorem Y_take {I : Prim E.σ} (hI : I = primK P E base r post) {ys : List (List KV)} {Inv : Nat → E.σ → Prop} {Fin : E.σ → Prop} (hT : Takes E (ys.map KV.toDL) Inv Fin) {s : E.σ} {xs y : List KV} {K : Bool → E.σ → Prop} (i : Nat) (hi : ys[i]? = some y) (hy : KV.toDL xs = KV.toDL y) (h0 : Inv i s)
    (ht : ∀ s', Inv (i + 1) s' → K true s') (hf : ∀ s', Fin s' → K false s') : I.Y s xs K := by
  subst hI
  have hg : (ys.map KV.toDL)[i]? = some (KV.toDL xs) := by rw [List.getElem?_map, hi, hy]; rfl
  refine ⟨hT.next i _ s hg h0, fun s' b hb => ?_⟩
  obtain ⟨h1, h2⟩ := hT.out i _ s s' b hg h0 hb
  cases b with
  | true => exact ht s' (h1 rfl)
  | false => exact hf s' (h2 rfl)

def putPK : List Nat → List KV → List (Nat × KV) → List (Nat × KV)
  | p :: ps, x :: xs, T => putPK ps xs ((p, x) :: T)
  | _, _, T => T
theorem putPs_leq : ∀ {ps : List Nat} {xs : List D} {T T' : List (Nat × AV)}, (∀ t, look T t = look T' t) → ∀ t, look (putPs ps xs T) t = look (putPs ps xs T') t
  | [], _, T, T', h, t => by simpa [putPs] using h t
  | p :: ps, [], T, T', h, t => by simpa [putPs] using h t
  | p :: ps, x :: xs, T, T', h, t => by
    simp only [putPs]
    exact putPs_leq (fun u => by rw [look_setT, look_setT, h u]) t
theorem putPK_spec : ∀ {ps : List Nat} {xs : List KV} {T : List (Nat × KV)}, okArgs xs = true → ∀ t, look (mapT (putPK ps xs T)) t = look (putPs ps (KV.toDL xs) (mapT T)) t
  | [], xs, T, _, t => by cases xs <;> rfl
  | p :: ps, [], T, _, t => rfl
  | p :: ps, x :: xs, T, h, t => by
    simp only [okArgs, Bool.and_eq_true] at h
    simp only [putPK, KV.toDL, putPs]
    rw [putPK_spec h.2]
    refine putPs_leq (fun u => ?_) t
    simp only [mapT, look, look_setT, okArg_av h.1]
mutual
def KV.calm (N : Nat) : KV → Bool
  | .agg cs => KV.calmL N cs
  | .tup cs => KV.calmL N cs
  | .fn _ cs => KV.calmL N cs
  | .loc b _ => Nat.blt b N
  | .osl _ => false
  | .oloc _ _ _ _ => false
  | _ => true
def KV.calmL (N : Nat) : List KV → Bool
  | [] => true
  | c :: r => match c.calm N with
    | true => KV.calmL N r
    | false => false
end
mutual
theorem calm_av (N : Nat) : ∀ (c : KV), c.av.calm N = c.calm N
  | .agg cs => by simp only [KV.av, AV.calm, KV.calm, calmL_av N cs]
  | .tup cs => by simp only [KV.av, AV.calm, KV.calm, calmL_av N cs]
  | .fn _ cs => by simp only [KV.av, AV.calm, KV.calm, calmL_av N cs]
  | .loc _ _ => rfl
  | .osl _ => rfl
  | .oloc _ _ _ _ => rfl
  | .any | .int _ _ | .lit _ _ | .bool _ | .tt | .ff | .str _ | .dfn _ _ | .nilfn | .nilsl | .nilmap | .nilptr | .ptr _ | .sl _ _ _ _ _ _ | .slr _ _ _ | .mp _ _ _ _ | .d _ | .yld => by simp only [KV.av, AV.calm, KV.calm]
theorem calmL_av (N : Nat) : ∀ (cs : List KV), AV.calmL N (KV.avL cs) = KV.calmL N cs
  | [] => rfl
  | c :: r => by
    simp only [KV.avL, AV.calmL, KV.calmL, calm_av N c, calmL_av N r]
    cases c.calm N <;> simp
end
def calmTK (N : Nat) : List (Nat × KV) → Bool
  | [] => true
  | (_, c) :: r => match c.calm N with
    | true => calmTK N r
    | false => false
theorem calmTK_spec {N : Nat} : ∀ (T : List (Nat × KV)), calmT N (mapT T) = calmTK N T
  | [] => rfl
  | (t, c) :: r => by
    simp only [mapT, calmT, calmTK, calm_av, calmTK_spec r]
    cases c.calm N <;> simp
/-- The state with other boxes and rows. -/
def KSt.ho (S : KSt) (x : List (Nat × KBlk) × List (Nat × KRow)) : KSt := ⟨S.n, S.T, x.1, x.2, S.low⟩
def roundK {A : Type u} {σ : Type} (hs : A → List (Nat × KBlk) × List (Nat × KRow)) (inv : A → σ → Prop) (jx : Exit → A → σ → Prop) (e : Exit) (S : KSt) (s : σ) : Prop := match e with
  | .panic _ => False
  | .outgrown => False
  | .normal => ∃ a, eqH S.H (hs a).1 ∧ eqO S.O (hs a).2 ∧ inv a s
  | e => ∃ a, eqH S.H (hs a).1 ∧ eqO S.O (hs a).2 ∧ jx e a s
def assignK {σ : Type} (K : KSt → σ → Prop) (e : Exit) (S : KSt) (s : σ) : Prop := match e with
  | .normal => K S s
  | _ => False
/-- What is known to range over: the function and what it has captured. -/
def rangeArg (S : KSt) (g : Operand) : Option (Nat × List D) := match kop S.T g with
  | some (.d (.fn f ds)) => some (f, ds)
  | some fv => match fnK fv with
    | some (f, cs) => match mapK (snapK false S 8) cs with
      | some caps => some (f, KV.toDL caps)
      | none => none
    | none => none
  | none => none
theorem rangeArg_spec {S : KSt} {g : Operand} {f : Nat} {ds : List D} (h : rangeArg S g = some (f, ds)) (hna : noAggD ds = true) : ∃ fv caps, opnd S.st.T g = some fv ∧ fnOf fv = some (f, caps) ∧ snapL false S.st caps = some ds := by
  unfold rangeArg at h
  split at h
  · rename_i f' ds' h1
    simp only [Option.some.injEq, Prod.mk.injEq] at h
    obtain ⟨rfl, rfl⟩ := h
    exact ⟨_, _, kop_st h1, rfl, snapL_app (cs := []) (xs := []) rfl hna⟩
  · rename_i fv _ h1
    split at h
    · rename_i f' cs h2
      split at h
      · rename_i caps0 h3
        simp only [Option.some.injEq, Prod.mk.injEq] at h
        obtain ⟨rfl, rfl⟩ := h
        exact ⟨_, _, kop_st h1, fnK_spec h2, snapL_spec' h3⟩
      · cases h
    · cases h
  · cases h
theorem st_ho (S : KSt) (x : List (Nat × KBlk) × List (Nat × KRow)) : (S.ho x).st = S.st.ho (mapH x.1, mapO x.2) := rfl
theorem weak_ho {S : St} {x y : HO} (hH : subH x.1 y.1) (hO : subO x.2 y.2) : Weak (S.ho x) (S.ho y) :=
  Less.weak (S := S.ho x) (S' := S.ho y) (Less.mk rfl (Nat.le_refl _) (fun _ _ h => h) (fun b B h => ⟨B.live, subH_look hH h, id⟩) (fun b B h => ⟨B.live, subO_look hO h, id⟩))
theorem W_range {A : Type u} {I : Prim E.σ} (hI : I = primK P E base none post) (hT : SeatOk P tb) (pz : List Nat) {g : Operand} {ps : Array Tmp} {assign body : Code} {S : KSt} {s : E.σ} {Q : Exit → KSt → E.σ → Prop} {f : Nat} {ds : List D} {ys : List (List KV)} (hdr : (drawsOk assign && drawsOk body) = true)
    (hit : IterCon P f ds (ys.map KV.toDL)) (hna : noAggD ds = true) (hs : A → List (Nat × KBlk) × List (Nat × KRow)) (inv : Nat → A → E.σ → Prop) (jx : Exit → A → E.σ → Prop) (a0 : A) (hg : rangeArg (S.ho (hs a0)) g = some (f, ds))
    (hlen : ∀ y ∈ ys, lenK y = ps.size ∧ okArgs y = true) (N : Nat) (hps : (belowN S.n ps.toList && calmTK N S.T && Nat.ble S.low N) = true) (hH : eqH S.H (hs a0).1) (hO : eqO S.O (hs a0).2) (h0 : inv 0 a0 s)
    (round : ∀ (i : Nat) (y : List KV) (a : A) (s : E.σ), ys[i]? = some y → inv i a s → ∀ (l : Nat) (I : Prim E.σ), I = primK P E base (some l) post → ∀ (R : Exit → KSt → E.σ → Prop), (∀ S' s' a', eqH S'.H (hs a').1 → eqO S'.O (hs a').2 → inv (i + 1) a' s' → R .normal S' s') → (∀ e S' s' a', (match e with | .normal => false | .panic _ => false | .outgrown => false | _ => true) = true → eqH S'.H (hs a').1 → eqO S'.O (hs a').2 → jx e a' s' → R e S' s') →
      wpK I tb pz assign ⟨S.n, putPK ps.toList y S.T, (hs a).1, (hs a).2, N⟩ s (assignK fun S2 s2 => wpK I tb pz body S2 s2 R))
    (hend : ∀ a s', inv ys.length a s' → Q .normal (S.ho (hs a)) s') (hjmp : ∀ e a s', jx e a s' → Q e (S.ho (hs a)) s') : I.W (.rangeFunc g ps assign body) S s Q := by
  subst hI
  simp only [Bool.and_eq_true] at hdr hps
  obtain ⟨⟨hp1, hp2⟩, hp3⟩ := hps
  obtain ⟨fv, cs, h1, h2, h3⟩ := rangeArg_spec hg hna
  have hwk : Weak S.st (S.ho (hs a0)).st := by
    rw [st_ho]
    exact weak_ho (S := S.st) (x := (S.st.H, S.st.O)) (eqH_spec hH) (eqO_spec hO)
  refine AW_weak hwk ?_
  refine AW_rangeFunc (ys := ys.map KV.toDL) N h1 h2 h3 hit (fun y hy => ?_) hp1 (by rw [show (S.ho (hs a0)).st.T = mapT S.T from rfl, calmTK_spec]; exact hp2) (Nat.le_of_ble_eq_true hp3)
    (fun i x s => ∃ a, x = (mapH (hs a).1, mapO (hs a).2) ∧ inv i a s) (fun e x s => ∃ a, subH x.1 (mapH (hs a).1) ∧ subO x.2 (mapO (hs a).2) ∧ jx e a s) ⟨a0, rfl, h0⟩ ?_ ?_ ?_
  · obtain ⟨y', hy', rfl⟩ := List.mem_map.1 hy
    rw [toDL_len]; exact (hlen y' hy').1
  · rintro i y x s hi ⟨a, rfl, ha⟩ l
    rw [List.getElem?_map] at hi
    cases hy : ys[i]? with
    | none => rw [hy] at hi; cases hi
    | some y' =>
      rw [hy] at hi
      cases hi
      have hok := (hlen y' (List.mem_of_getElem? hy)).2
      have hrd := wpK_aw hT.mix hT.tab hdr.1 (round i y' a s hy ha l _ rfl (roundK hs (inv (i + 1)) jx) (fun S' s' a' h1 h2 h3 => ⟨a', h1, h2, h3⟩) (fun e S' s' a' he h1 h2 h3 => by cases e <;> first | exact ⟨a', h1, h2, h3⟩ | cases he))
      have hlq : Leq (SR (S.ho (hs a0)).st ps.toList (KV.toDL y') (mapH (hs a).1, mapO (hs a).2) N) (KSt.st ⟨S.n, putPK ps.toList y' S.T, (hs a).1, (hs a).2, N⟩) :=
        ⟨rfl, rfl, fun t => (putPK_spec hok t), fun _ => rfl, fun _ => rfl⟩
      refine AW_weak hlq.less.weak (AW_weakQ (hrd.mono ?_))
      rintro e S2 s2 ⟨S3, hw3, hq⟩
      refine ⟨S3.st, hw3, ?_⟩
      cases e with
      | normal =>
        refine ⟨rfl, ?_⟩
        have hb := wpK_aw hT.mix hT.tab hdr.2 (show wpK _ tb pz body S3 s2 _ from hq)
        refine AW_weakQ (hb.mono ?_)
        rintro e S4 s4 ⟨S5, hw5, hq⟩
        refine ⟨S5.st, hw5, ?_⟩
        cases e with
        | normal =>
          obtain ⟨a', e1, e2, e3⟩ := hq
          exact ⟨S5.st.ho (mapH (hs a').1, mapO (hs a').2), weak_ho (S := S5.st) (x := (S5.st.H, S5.st.O)) (eqH_spec e1) (eqO_spec e2), a', rfl, e3⟩
        | panic => exact hq.elim
        | outgrown => exact hq.elim
        | _ =>
          obtain ⟨a', e1, e2, e3⟩ := hq
          exact ⟨a', eqH_spec e1, eqO_spec e2, e3⟩
      | _ => exact hq.elim
  · rintro x s' ⟨a, rfl, ha⟩
    rw [List.length_map] at ha
    exact ⟨S.ho (hs a), Weak.refl _, hend a s' ha⟩
  · rintro e c x s' _ ⟨a, e1, e2, e3⟩
    exact ⟨S.ho (hs a), weak_ho (S := S.st) (x := x) (y := (mapH (hs a).1, mapO (hs a).2)) e1 e2, hjmp e a s' e3⟩
end Go.Proofs.Ytgefdljjhmjdaaa.Aw

/- The logic of abstract walks, part N3: walks beside a plain model. -/
namespace Go.Proofs.Ytgefdljjhmjdaaa.Aw
open Go Go.RowKit
set_option linter.unusedVariables false
set_option linter.unusedSimpArgs false
universe u
variable {P : Program} {E : Env P} {base : Nat} {r : Option Nat} {post : KV → List KRow → Prop} {tb : Nat → Option TI}

/-! States that say less, by value. -/
/-- Of a row of which less is said: a slice may be called nil. -/
def NNle (sz : Nat) (nn' nn : Bool) : Prop := (nn' = true → nn = true) ∧ (sz = 0 → nn' = nn)
theorem ownsR_nn {w : World} {lo : Nat} {e : TypeId} {sz : Nat} {nn nn' : Bool} {v : Value} {n : Nat} {flat : List Value} (hn : NNle sz nn' nn) (h : ownsR w lo e sz nn v n flat) : ownsR w lo e sz nn' v n flat := by
  by_cases h0 : sz = 0
  · rw [hn.2 h0]; exact h
  · exact .inl ⟨by omega, h.sl (by omega)⟩
theorem weak_v {S S' : St} (hn : S'.n = S.n) (hl : S.low = S'.low) (hT : ∀ t c, look S'.T t = some c → ∃ c0, look S.T t = some c0 ∧ leA c0 c)
    (hH : ∀ b B, look S'.H b = some B → ∃ cs l, look S.H b = some ⟨B.e, cs, l⟩ ∧ leAL cs B.cells ∧ (B.live = true → l = true))
    (hO : ∀ b R, look S'.O b = some R → ∃ nn l, look S.O b = some ⟨R.e, R.sz, R.rows, nn, l⟩ ∧ NNle R.sz R.nn nn ∧ (R.live = true → l = true)) : Weak S S' := by
  intro P E base s M a w hc
  have hr := hc.rel
  have hmu : ∀ x k, At S'.H S'.O M x k → At S.H S.O M x k := by
    intro x k hx
    cases x with
    | inl b => obtain ⟨⟨B, hB⟩, hk⟩ := hx; obtain ⟨_, l, h1, _⟩ := hH b B hB; exact ⟨⟨_, h1⟩, hk⟩
    | inr b => obtain ⟨⟨B, hB⟩, hk⟩ := hx; obtain ⟨_, l, h1, _⟩ := hO b B hB; exact ⟨⟨_, h1⟩, hk⟩
  let fz : Nat → Prop := fun k => (∃ x, At S'.H S'.O M x k ∧ ¬ Liv S'.H S'.O x) ∧ ∃ x, At S.H S.O M x k ∧ Liv S.H S.O x
  let M' : Mp := { M with ok := fun k => M.ok k ∨ fz k }
  have hfz : ∀ k, fz k → Own S M k := fun k hk => .inl hk.2
  have hat : ∀ (H : List (Nat × Blk)) (O : List (Nat × Row)) x k, At H O M' x k ↔ At H O M x k := fun H O x k => by cases x <;> exact Iff.rfl
  have hlive : ∀ x, Liv S'.H S'.O x → Liv S.H S.O x := by
    intro x hx
    cases x with
    | inl b => obtain ⟨B, hB, hl⟩ := hx; obtain ⟨_, l, h1, _, h2⟩ := hH b B hB; exact ⟨_, h1, h2 hl⟩
    | inr b => obtain ⟨B, hB, hl⟩ := hx; obtain ⟨_, l, h1, _, h2⟩ := hO b B hB; exact ⟨_, h1, h2 hl⟩
  have hown : ∀ k, Own S' M' k → Own S M k := by
    rintro k (⟨x, hx, hl⟩ | hd)
    · exact .inl ⟨x, hmu x k ((hat _ _ x k).1 hx), hlive x hl⟩
    · exact .inr hd
  have hmono : ∀ {c v}, RdA w M.ok M.μ M.ν E.l c v → RdA w M'.ok M'.μ M'.ν E.l c v := fun hv => hv.mono (fun k x => .inl x) (fun _ _ => rfl) (fun _ _ => rfl) (fun _ _ => rfl)
  refine ⟨M', ⟨⟨hr.lo, hr.size.trans hn.symm, ?_, ⟨?_, ?_, ?_⟩, ?_, hr.dfr, ?_, hr.dsN⟩, hc.j, ?_, fun k hk => hc.own k (hown k hk), ?_, hc.bDom⟩,
    ⟨rfl, rfl, rfl, Nat.le_refl _, fun _ _ _ _ => rfl, fun k _ hk => hown k hk, fun k x => .inl x, ?_, fun _ _ x => x, Nat.le_of_eq hl, fun _ _ => rfl, fun _ _ x => .inl x⟩⟩
  · intro t c ht
    obtain ⟨c0, h1, hle⟩ := hT t c ht
    obtain ⟨v, h2, h3⟩ := hr.tmp t c0 h1
    exact ⟨v, h2, (hmono h3).le hle⟩
  · intro b B hB
    obtain ⟨cs, l, h1, hcs, h2⟩ := hH b B hB
    obtain ⟨k, vs, e1, e2, e3, e4, e5, e6, e7, e8⟩ := hr.heap.blk b _ h1
    obtain ⟨g1, g2⟩ := leAL_get hcs
    refine ⟨k, vs, e1, e2, e3, e4.trans g1, fun i c v hi hv => ?_, e6, ?_, ?_⟩
    · obtain ⟨x, hx1, hx2⟩ := g2 i c hi
      exact (hmono (e5 i x v hx1 hv)).le hx2
    · rintro hl (hk | ⟨⟨x, hx, hnl⟩, _⟩)
      · exact e7 (h2 hl) hk
      · have : x = .inl b := hr.heap.inj x (.inl b) k (hmu x k hx) ⟨⟨_, h1⟩, e1⟩
        subst this; exact hnl ⟨B, hB, hl⟩
    · intro hl
      cases l with
      | false => exact .inl (e8 rfl)
      | true => exact .inr ⟨⟨.inl b, ⟨⟨B, hB⟩, e1⟩, fun ⟨B2, hB2, hl2⟩ => by rw [hB] at hB2; cases hB2; rw [hl] at hl2; cases hl2⟩, .inl b, ⟨⟨_, h1⟩, e1⟩, ⟨_, h1, rfl⟩⟩
  · intro b R hR
    obtain ⟨nn, l, h1, hnn, h2⟩ := hO b R hR
    obtain ⟨v, flat, e1, e2, e3, e4, e5⟩ := hr.heap.row b _ h1
    refine ⟨v, flat, e1, ownsR_nn hnn e2, e3.mono (fun k x => .inl x) (fun _ _ => rfl), fun h => e4 (hnn.1 h), fun k hk => ⟨?_, ?_⟩⟩
    · rintro hl (hk' | ⟨⟨x, hx, hnl⟩, _⟩)
      · exact (e5 k hk).1 (h2 hl) hk'
      · have : x = .inr b := hr.heap.inj x (.inr b) k (hmu x k hx) ⟨⟨_, h1⟩, v, e1, hk⟩
        subst this; exact hnl ⟨R, hR, hl⟩
    · intro hl
      cases l with
      | false => exact .inl ((e5 k hk).2 rfl)
      | true => exact .inr ⟨⟨.inr b, ⟨⟨R, hR⟩, v, e1, hk⟩, fun ⟨B2, hB2, hl2⟩ => by rw [hR] at hB2; cases hB2; rw [hl] at hl2; cases hl2⟩, .inr b, ⟨⟨_, h1⟩, v, e1, hk⟩, ⟨_, h1, rfl⟩⟩
  · intro x y k hx hy
    exact hr.heap.inj x y k (hmu x k ((hat _ _ x k).1 hx)) (hmu y k ((hat _ _ y k).1 hy))
  · rintro k (hk | hk)
    · exact hr.okLt k hk
    · obtain ⟨x, hx, _⟩ := hk.2; exact (hr.heap.at_lt hx).2.1
  · intro D hD
    obtain ⟨h1, h2, h3⟩ := hr.dsOk D hD
    refine ⟨h1, h2, ?_⟩
    rintro (hk | hk)
    · exact h3 hk
    · obtain ⟨x, hx, _⟩ := hk.2
      obtain ⟨_, _, ob, he, ho⟩ := hr.heap.at_lt hx
      rw [h2] at he; cases he; cases ho
  · rintro k (hk | hk)
    · exact hc.okLv k hk
    · exact (hc.own k (hfz k hk)).1
  · rintro k (hk | hk)
    · exact hc.okDom k hk
    · obtain ⟨x, hx, _⟩ := hk.2; exact hc.bDom k (hr.heap.at_lt hx).1
  · rintro k _ (hk | hk)
    · exact .inl hk
    · exact .inr (hfz k hk)
/-- c says what d says, or more. -/
def LV (c d : KV) : Prop := leA c.av d.av
def LVL : List KV → List KV → Prop
  | [], q => q = []
  | c :: r, q => match q with
    | [] => False
    | d :: q => LV c d ∧ LVL r q
def LBl (B C : KBlk) : Prop := B.e = C.e ∧ LVL B.cells C.cells ∧ (C.live = true → B.live = true)
def LRo (B C : KRow) : Prop := B.e = C.e ∧ B.sz = C.sz ∧ rowsD B.sz B.ps = rowsD B.sz C.ps ∧ NNle B.sz C.nn B.nn ∧ (C.live = true → B.live = true)
mutual
theorem leA_refl : ∀ (c : AV), leA c c
  | .d x => leD_refl x
  | .agg l => leAL_refl l
  | .tup l => leAL_refl l
  | .any => rfl
  | .fn f cs => rfl
  | .loc b o => rfl
  | .asl a b c d => rfl
  | .osl i => rfl
  | .oloc a b c d => rfl
  | .yld => rfl
theorem leAL_refl : ∀ (l : List AV), leAL l l
  | [] => rfl
  | c :: r => ⟨leA_refl c, leAL_refl r⟩
end
theorem LV_refl (c : KV) : LV c c := leA_refl _
theorem LV_eq {c d : KV} (h : c.av = d.av) : LV c d := by unfold LV; rw [h]; exact leA_refl _
theorem LVL_refl : ∀ (l : List KV), LVL l l
  | [] => rfl
  | c :: r => ⟨LV_refl c, LVL_refl r⟩
theorem LVL_spec : ∀ {l q : List KV}, LVL l q → leAL (KV.avL l) (KV.avL q)
  | [], q, h => by cases (h : q = []); exact rfl
  | c :: r, [], h => h.elim
  | c :: r, d :: q, h => ⟨h.1, LVL_spec h.2⟩
theorem LV_agg {l q : List KV} (h : LVL l q) : LV (.agg l) (.agg q) := LVL_spec h
theorem LV_tup {l q : List KV} (h : LVL l q) : LV (.tup l) (.tup q) := LVL_spec h
/-- A slice of one's own cells, or of others. -/
theorem LV_sl {c : Bool} {sz : Nat} {α : Type} {d : α} {l : List α} {f : α → Nat → KV} : LV (.sl c sz α d l f) (.sl false sz α d l f) := ⟨.inl rfl, rfl, leDLL_refl _⟩
theorem LV_slr {c : Bool} {sz : Nat} {rows : List (List KV)} {α : Type} {d : α} {l : List α} {f : α → Nat → KV} (h : KV.toDLL rows = l.map fun a => rowD sz 0 fun j => (f a j).toD) : LV (.slr c sz rows) (.sl false sz α d l f) :=
  ⟨.inl rfl, rfl, by rw [h]; exact leDLL_refl _⟩
theorem LV_slr_le {c : Bool} {sz : Nat} {rows : List (List KV)} {α : Type} {d : α} {l : List α} {f : α → Nat → KV} (h : leDLL (KV.toDLL rows) (l.map fun a => rowD sz 0 fun j => (f a j).toD)) : LV (.slr c sz rows) (.sl false sz α d l f) :=
  ⟨.inl rfl, rfl, h⟩
theorem LV_nil {c : Bool} {sz : Nat} {α : Type} {d : α} {f : α → Nat → KV} : LV .nilsl (.sl c sz α d [] f) := (rfl : ([] : List (List D)) = [])
theorem LV_raw {c : Bool} {sz : Nat} {rows : List (List D)} {α : Type} {d : α} {l : List α} {f : α → Nat → KV} (h : rows = l.map fun a => rowD sz 0 fun j => (f a j).toD) : LV (.d (.sl c sz rows)) (.sl false sz α d l f) :=
  ⟨.inl rfl, rfl, by rw [h]; exact leDLL_refl _⟩
def lvT (T : List (Nat × KV)) : List (Nat × KV) → Prop
  | [] => True
  | (t, c) :: r => (match lk T t with | some v => LV v c | none => False) ∧ lvT T r
def lvH (T : List (Nat × KBlk)) : List (Nat × KBlk) → Prop
  | [] => True
  | (t, c) :: r => (match lk T t with | some v => LBl v c | none => False) ∧ lvH T r
def lvO (T : List (Nat × KRow)) : List (Nat × KRow) → Prop
  | [] => True
  | (t, c) :: r => (match lk T t with | some v => LRo v c | none => False) ∧ lvO T r
theorem lvT_spec {T : List (Nat × KV)} : ∀ {T' : List (Nat × KV)}, lvT T T' → ∀ t c, look (mapT T') t = some c → ∃ c0, look (mapT T) t = some c0 ∧ leA c0 c
  | [], _, t, c, h => by cases h
  | (k, v) :: q, h, t, c, hc => by
    rw [look_mapT, lk_cons] at hc
    by_cases e : k = t
    · subst e
      rw [if_pos rfl] at hc
      cases hc
      have := h.1
      split at this
      · rename_i v0 hv; exact ⟨_, by rw [look_mapT, hv]; rfl, this⟩
      · exact this.elim
    · rw [if_neg e, ← look_mapT] at hc
      exact lvT_spec h.2 t c hc
theorem lvH_spec {T : List (Nat × KBlk)} : ∀ {T' : List (Nat × KBlk)}, lvH T T' → ∀ b B, look (mapH T') b = some B → ∃ cs l, look (mapH T) b = some ⟨B.e, cs, l⟩ ∧ leAL cs B.cells ∧ (B.live = true → l = true)
  | [], _, t, c, h => by cases h
  | (k, v) :: q, h, t, c, hc => by
    rw [look_mapH, lk_cons] at hc
    by_cases e : k = t
    · subst e
      rw [if_pos rfl] at hc
      cases hc
      have := h.1
      split at this
      · rename_i v0 hv
        obtain ⟨e1, e2, e3⟩ := this
        exact ⟨_, _, by rw [look_mapH, hv]; simp only [Option.map_some, KBlk.blk, e1], LVL_spec e2, e3⟩
      · exact this.elim
    · rw [if_neg e, ← look_mapH] at hc
      exact lvH_spec h.2 t c hc
theorem lvO_spec {T : List (Nat × KRow)} : ∀ {T' : List (Nat × KRow)}, lvO T T' → ∀ b R, look (mapO T') b = some R → ∃ nn l, look (mapO T) b = some ⟨R.e, R.sz, R.rows, nn, l⟩ ∧ NNle R.sz R.nn nn ∧ (R.live = true → l = true)
  | [], _, t, c, h => by cases h
  | (k, v) :: q, h, t, c, hc => by
    rw [look_mapO, lk_cons] at hc
    by_cases e : k = t
    · subst e
      rw [if_pos rfl] at hc
      cases hc
      have := h.1
      split at this
      · rename_i v0 hv
        obtain ⟨e1, e2, e3, e4, e5⟩ := this
        refine ⟨_, _, by rw [look_mapO, hv]; simp only [Option.map_some, KRow.row, e1, e2, e3]; rw [← e2, e3], e2 ▸ e4, e5⟩
      · exact this.elim
    · rw [if_neg e, ← look_mapO] at hc
      exact lvO_spec h.2 t c hc
theorem weak_l {S S' : KSt} (hn : S'.n = S.n) (hl : S.low = S'.low) (hT : lvT S.T S'.T) (hH : lvH S.H S'.H) (hO : lvO S.O S'.O) : Weak S.st S'.st :=
  weak_v hn hl (lvT_spec hT) (lvH_spec hH) (lvO_spec hO)
/-! Rows: pieces put together. -/
theorem LRo_of {e sz : Nat} {ps qs : List KP} {nn nn' live live' : Bool} (h : rowsD sz ps = rowsD sz qs) (h1 : NNle sz nn' nn) (h2 : live' = true → live = true) : LRo ⟨e, sz, ps, nn, live⟩ ⟨e, sz, qs, nn', live'⟩ := ⟨rfl, rfl, h, h1, h2⟩
/-- A slice that is nil, as an empty row of one's own. -/
theorem weak_nil {S : KSt} (t id e sz : Nat) (ht : lk S.T t = some .nilsl) (hsz : Nat.blt 0 sz = true) (hf : freshKO S [(id, ⟨e, sz, [], false, true⟩)] = true) (hd : dstK S (some t) = true) : Weak S.st (S.add (some t) (.osl id) [] [(id, ⟨e, sz, [], false, true⟩)]).st := by
  intro P E base s M a w hc
  have hr := hc.rel
  have hsz0 : 0 < sz := by rw [Nat.blt_eq] at hsz; exact hsz
  have hlk : look S.st.T t = some (.d .nilsl) := by rw [st_look, ht]; rfl
  obtain ⟨v, hv1, hv2⟩ := hr.tmp t _ hlk
  have hvn : v = .slice none 0 0 := by cases hv2 with | d h => cases h; rfl
  subst hvn
  have hput : a.put (some t) (.slice none 0 0) = a := by
    obtain ⟨tmps, defers⟩ := a
    have hv1 : tmps[t]? = some (.slice none 0 0) := hv1
    obtain ⟨hlt, hg⟩ := Array.getElem?_eq_some_iff.1 hv1
    simp only [Act.put]
    congr 1
    apply Array.ext
    · simp
    · intro i h1 h2
      rw [Array.getElem_setIfInBounds]
      split
      · rename_i e; subst e; exact hg.symm
      · rfl
  have hnew : New M E.l w [] [(id, ⟨e, sz, [], false, true⟩)] (.osl id) (.slice none 0 0) (setν M id (.slice none 0 0)) w := by
    refine ⟨Below.refl _ _, rfl, rfl, rfl, fun _ _ => rfl, fun b hb => ?_, fun k x => x, fun k x => .inl x, .osl (by simp [setν]) rfl, ⟨fun b B h => (by cases h), fun id' R hR => ?_, fun x y k hx hy => ?_⟩⟩
    · have : ¬ b = id := fun e => hb (by simp [keys, e])
      simp [setν, this]
    · simp only [look] at hR
      by_cases hbb : id = id'
      · rw [if_pos hbb] at hR; cases hR; subst hbb
        exact ⟨.slice none 0 0, [], by simp [setν], .inl ⟨hsz0, ⟨by simp, .inl ⟨rfl, rfl⟩⟩⟩, ⟨fun row h => (by cases h), fun i row j c h => by simp at h⟩, fun h => (by cases h), fun k hk => by cases hk⟩
      · rw [if_neg hbb] at hR; cases hR
    · cases x with
      | inl b => obtain ⟨⟨_, h⟩, _⟩ := hx; cases h
      | inr x =>
        obtain ⟨⟨_, hx1⟩, v, hx2, hx3⟩ := hx
        simp only [look] at hx1
        by_cases h1 : id = x
        · subst h1
          have : v = .slice none 0 0 := by simpa [setν] using hx2.symm
          subst this; cases hx3
        · rw [if_neg h1] at hx1; cases hx1
  have := hc.new hnew (dst := some t) (freshK_spec (S := S) (nh := []) (no := [(id, ⟨e, sz, [], false, true⟩)]) rfl hf) (dstK_spec hd)
  rw [hput] at this
  rw [KSt.add_st]
  exact ⟨_, this⟩

theorem leDLL_eq {a b : List (List D)} (h : a = b) : leDLL a b := h ▸ leDLL_refl a
/-! Short names for what is printed. -/
theorem lR {c : KV} : LV c c := leA_refl _
theorem lE {c d : KV} (h : c.av = d.av := by rfl) : LV c d := LV_eq h
theorem lB {B C : KBlk} (h : LVL B.cells C.cells) (h1 : B.e = C.e := by rfl) (h2 : C.live = true → B.live = true := by exact fun _ => rfl) : LBl B C := ⟨h1, h, h2⟩
theorem lO {B C : KRow} (h : rowsD B.sz B.ps = rowsD B.sz C.ps := by first | rfl | (simp only [rowsD, KP.rows, KV.toDLL, List.map_append, List.map_cons, List.map_nil, List.append_nil, List.nil_append, List.append_assoc, List.singleton_append, List.cons_append, List.map_replicate]; rfl) | (simp only [primK, rowsD, KP.rows, KV.toDLL, List.map_append, List.map_cons, List.map_nil, List.append_nil, List.map_replicate]; rfl))
    (h1 : B.e = C.e := by rfl) (h2 : B.sz = C.sz := by rfl) (h3 : NNle B.sz C.nn B.nn := by first | exact ⟨fun _ => rfl, fun _ => rfl⟩ | exact ⟨fun h => (by cases h), fun _ => rfl⟩ | exact ⟨fun h => (by cases h), fun h => (by cases h)⟩) (h4 : C.live = true → B.live = true := by first | exact fun _ => rfl | exact fun h => (by cases h)) : LRo B C := ⟨h1, h2, h, h3, h4⟩
def cel (l : List KV) (j : Nat) : KV := match nth l j with
  | some c => c
  | none => .any
/-! Contracts whose result says more. -/
theorem con_introL {f : Nat} {fn : Func} {c : Code} (hf : P.funcs[f]? = some fn) (hb : fn.body = some c) (hent : Ent P f) {args : List D} (hn : Nat.ble args.length fn.ntmps = true) {res : AV} {rows : List Row}
    (h : ∀ base, AW (noEnv P) base none c (S0 fn.ntmps args) () (fun e S _ => (e = .normal ∨ e = .ret) ∧ ∃ rv, leA rv res ∧ RetOk P fn S rv rows)) : Con P f args res rows := by
  refine ⟨hent, fun w ok vs hok hvs => (callsIn_wide (n := 0)).1 ?_⟩
  refine callsIn_of_wp_marks (F := FW none) (n := 0) hf hb trivial ?_
  let M0 : Mp := ⟨fun _ => none, fun _ => none, ok, fun _ => False, fun _ => False, []⟩
  have hn' := Nat.le_of_ble_eq_true hn
  have hr0 : Rel w.heap.size (S0 fn.ntmps args) M0 (noEnv P).l { tmps := vs ++ Array.replicate (fn.ntmps - vs.size) undef, defers := [] } w := by
    refine ⟨Nat.le_refl _, ?_, fun t c ht => ?_, ⟨fun b B hB => (by cases hB), fun b B hB => (by cases hB), fun x y k hx => by cases x <;> (obtain ⟨⟨_, h⟩, _⟩ := hx; cases h)⟩, hok, rfl, fun D hD => (by cases hD), List.nodup_nil⟩
    · show (vs ++ Array.replicate (fn.ntmps - vs.size) undef).size = fn.ntmps
      rw [Array.size_append, Array.size_replicate, hvs.1]; omega
    · obtain ⟨_, x, h1, rfl⟩ := look_argT ht
      rw [Nat.sub_zero] at h1
      have hlt := (List.getElem?_eq_some_iff.1 h1).1
      obtain ⟨v, hv⟩ : ∃ v, vs[t]? = some v := ⟨vs[t]'(by rw [hvs.1]; exact hlt), by simp⟩
      exact ⟨v, by show (vs ++ _)[t]? = some v; rw [Array.getElem?_append_left (by rw [hvs.1]; exact hlt)]; exact hv, toAV_spec (hvs.2 t x v h1 hv)⟩
  have hown0 : ∀ k, ¬ Own (S0 fn.ntmps args) M0 k := by
    rintro k (⟨x, hx, _⟩ | hd)
    · cases x <;> (obtain ⟨⟨_, h⟩, _⟩ := hx; cases h)
    · cases hd
  have hc0 : Cfg (noEnv P) w.heap.size (S0 fn.ntmps args) () M0 { tmps := vs ++ Array.replicate (fn.ntmps - vs.size) undef, defers := [] } w :=
    ⟨hr0, ⟨fun _ h => h, fun _ h => h⟩, fun _ _ h => h, fun k hk => absurd hk (hown0 k), fun _ _ => trivial, fun _ _ => trivial⟩
  refine wpIn_mono (h w.heap.size M0 _ w hc0) ?_
  rintro e a' w' ⟨S', s', M', ⟨he, hret⟩, hc', hx⟩
  have hgoal : LeavesInM (FW none) 0 P fn a'.tmps (fun e w' => ∃ v ok' ν', e = .returned v ∧ Below w.heap.size w w' ∧ (∀ k, ok k → ok' k) ∧ (∀ k, ok' k → ok k ∨ (w.heap.size ≤ k ∧ k < w'.heap.size)) ∧
      (∀ μ yl, RdA w' ok' μ ν' yl res v) ∧ HeapOk w.heap.size [] (enumR 0 rows) ⟨fun _ => none, ν', ok', fun _ => False, fun _ => False, []⟩ 0 w') a'.defers .returning w' := by
    rw [hc'.rel.dfr]
    have hbel : Below w.heap.size w w' := ⟨hx.os, hx.tape, hx.output, hx.size, fun k hk => hx.keep k hk (hown0 k) (fun h => h)⟩
    refine leaves_marks (S := S') (base := w.heap.size) (w0 := w) (Nat.le_refl _) M'.ds M' a' w' rfl hc'.rel hbel (fun M2 a2 w2 hr2 hb2 e1 e2 e3 e4 e5 => ?_)
    obtain ⟨rv, hle, cs, ids, h1, h2, h3, h4⟩ := hret
    obtain ⟨v, h5, h6⟩ := run_results (P := P) (fn := fn) hr2 h1
    rw [← e4]
    obtain ⟨r1, r2⟩ := rowsOf_get h3
    have hsub := lessO_sub S' ids
    refine ⟨v, h5, v, okS true (lessO S' ids) M2, fun i => (ids[i]?).bind M2.ν, rfl, hb2, fun k hk => .inl (e3 ▸ hx.okm k hk), fun k hk => ?_, fun μ yl => (ret3_spec hr2 (fun i id hi => by simp [hi]) h2 h6 μ yl).le hle, ⟨fun b B hB => (by cases hB), fun i R hR => ?_, fun x y k hx' hy' => ?_⟩⟩
    · rcases hk with hk | ⟨_, x, hx', _⟩
      · rw [e3] at hk
        by_cases hlt : k < w.heap.size
        · rcases hx.okn k hlt hk with h | h
          · exact .inl h
          · exact absurd h (hown0 k)
        · exact .inr ⟨by omega, by rw [e5]; exact hc'.rel.okLt k hk⟩
      · obtain ⟨g1, g2, _⟩ := hr2.heap.at_lt (hsub.at hx')
        exact .inr ⟨g1, g2⟩
    · rw [look_enumR] at hR
      obtain ⟨id, i1, i2, i3⟩ := r2 i R (by simpa using hR.2)
      obtain ⟨v', flat, f1, f2, f3, f4, f5⟩ := hr2.heap.row id R i2
      refine ⟨v', flat, by simp [i1, f1], f2, f3.mono (fun k x => .inl x) (fun _ _ => rfl), f4, fun k hk => ⟨fun hl hh => ?_, fun hl => by rw [i3] at hl; cases hl⟩⟩
      rcases hh with hh | ⟨_, x, hx', _⟩
      · exact (f5 k hk).1 hl hh
      · have := hr2.heap.inj x (.inr id) k (hsub.at hx') ⟨⟨R, i2⟩, v', f1, hk⟩
        subst this
        obtain ⟨⟨R', hR'⟩, _⟩ := hx'
        rw [lessO_not (List.mem_of_getElem? i1)] at hR'; cases hR'
    · have aux : ∀ x : Nat ⊕ Nat, At [] (enumR 0 rows) ⟨fun _ => none, fun i => (ids[i]?).bind M2.ν, okS true (lessO S' ids) M2, fun _ => False, fun _ => False, []⟩ x k → ∃ i id, x = .inr i ∧ ids[i]? = some id ∧ At S'.H S'.O M2 (.inr id) k := by
        intro x hx'
        cases x with
        | inl b => obtain ⟨⟨_, h⟩, _⟩ := hx'; cases h
        | inr i =>
          obtain ⟨⟨R, hR⟩, v', hv, hk⟩ := hx'
          rw [look_enumR] at hR
          obtain ⟨id, i1, i2, i3⟩ := r2 i R (by simpa using hR.2)
          have hv' : (ids[i]?).bind M2.ν = some v' := hv
          rw [i1] at hv'
          exact ⟨i, id, rfl, i1, ⟨R, i2⟩, v', hv', hk⟩
      obtain ⟨i, id, rfl, hi, g1⟩ := aux x hx'
      obtain ⟨j, jd, rfl, hj, g2⟩ := aux y hy'
      have := hr2.heap.inj _ _ k g1 g2
      simp only [Sum.inr.injEq] at this
      subst this
      congr 1
      exact (List.getElem?_inj (List.getElem?_eq_some_iff.1 hi).1 h4).1 (hi.trans hj.symm)
  rcases he with rfl | rfl
  · exact hgoal
  · exact hgoal
def endL (res : KV) (rows : List KRow) : KV → List KRow → Prop := fun v rs => LV v res ∧ rs.map KRow.row = rows.map KRow.row
theorem con_l {f : Nat} {fn : Func} {c : Code} {args : List KV} {res : KV} {rows : List KRow} (ids : List Nat) (pz : List Nat) (hT : SeatOk P tb) (hf : P.funcs[f]? = some fn) (hb : fn.body = some c) (hent : Ent P f)
    (hdr : drawsOk c = true) (hn : Nat.ble (lenK args) fn.ntmps = true) (ha : okArgs args = true) (hid : ids.Nodup)
    (h : ∀ base I, I = primK P (noEnv P) base none (endL res rows) → wpK I tb pz c (KS0 fn.ntmps args) () (retKQ I tb fn.results.toList ids)) : KC P f args res rows := by
  refine con_introL hf hb hent (by rw [toDL_len]; exact hn) fun base => ?_
  have := wpK_aw hT.mix hT.tab hdr (h base _ rfl)
  rw [show (KS0 fn.ntmps args).st = S0 fn.ntmps (KV.toDL args) from by simp only [KS0, KSt.st, S0, argK_spec ha]; rfl] at this
  refine AW_weakQ (this.mono ?_)
  rintro e S s ⟨S', hw, hq⟩
  refine ⟨S'.st, hw, ?_⟩
  unfold retKQ at hq
  split at hq
  · rename_i he
    replace hq := kk_spec hq; obtain ⟨cs, h1, hq⟩ := hq
    replace hq := kk_spec hq; obtain ⟨v, h2, hq⟩ := hq
    replace hq := kk_spec hq; obtain ⟨rs, h3, hq⟩ := hq
    obtain ⟨e1, e2⟩ := (hq : leA v.av res.av ∧ rs.map KRow.row = rows.map KRow.row)
    refine ⟨?_, v.av, e1, KV.avL cs, ids, resKL_spec hT.tab h1, ?_, ?_, hid⟩
    · cases e <;> first | exact .inl rfl | exact .inr rfl | cases he
    · rw [← oneK_spec, ret3K_spec h2]
    · rw [rowsOfK_spec h3, e2]
  · exact hq.elim

/-! Plain models. -/
def fitsN (n bytes : Nat) : Prop := n * bytes ≤ 140737488355328 ∧ n ≤ 140737488355328
instance {n bytes : Nat} : Decidable (fitsN n bytes) := inferInstanceAs (Decidable (_ ∧ _))
def mkOk (n : Int) (bytes : Nat) : Prop := 0 ≤ n ∧ (bytes : Int) * n ≤ 281474976710656 ∧ n ≤ 9223372036854775807
instance {n : Int} {bytes : Nat} : Decidable (mkOk n bytes) := inferInstanceAs (Decidable (_ ∧ _ ∧ _))
def getO {α : Type} (d : α) (l : List α) (i : Int) : Option α := if 0 ≤ i ∧ i < ((l.length : Nat) : Int) then some (l.getD i.toNat d) else none
def loopO {σ ρ : Type} (step : σ → Option (σ ⊕ ρ)) : Nat → σ → Option ρ
  | 0, _ => none
  | n + 1, s => match step s with
    | none => none
    | some (.inl s') => loopO step n s'
    | some (.inr q) => some q
def rangeO {υ σ ρ : Type} (step : υ → σ → Option (σ ⊕ ρ)) : List υ → σ → Option (σ ⊕ ρ)
  | [], s => some (.inl s)
  | y :: ys, s => match step y s with
    | none => none
    | some (.inl s') => rangeO step ys s'
    | some (.inr q) => some (.inr q)

theorem L_tst {I : Prim E.σ} (hI : I = primK P E base r post) {α : Type} {b b' : Bool} {X Y : Option α} {o : α} {A B : Prop} (h : (if b = true then X else Y) = some o) (e : b' = b) (k1 : X = some o → A) (k2 : Y = some o → B) : I.tst b' A B := by
  subst hI; subst e
  cases b' with
  | true => exact ⟨fun _ => k1 h, fun e => by cases e⟩
  | false => exact ⟨fun e => by (cases e), fun _ => k2 h⟩
theorem L_conj {I : Prim E.σ} (hI : I = primK P E base r post) {α : Type} {C C' : Prop} [Decidable C] {X : Option α} {o : α} {B : Prop} (h : (if C then X else none) = some o) (e : C → C') (k : C → X = some o → B) : I.conj C' B := by
  subst hI
  by_cases hc : C
  · rw [if_pos hc] at h; exact ⟨e hc, k hc h⟩
  · rw [if_neg hc] at h; cases h
theorem L_get {I : Prim E.σ} (hI : I = primK P E base r post) {α β : Type} {d : α} {l : List α} {i : Int} {k : α → Option β} {o : β} {C' B : Prop} (h : (getO d l i).bind k = some o) (e : (0 ≤ i ∧ i < ((l.length : Nat) : Int)) → C') (kk : (0 ≤ i ∧ i < ((l.length : Nat) : Int)) → ∀ x, x = l.getD i.toNat d → k x = some o → B) : I.conj C' B := by
  subst hI
  unfold getO at h
  by_cases hc : 0 ≤ i ∧ i < ((l.length : Nat) : Int)
  · rw [if_pos hc] at h; exact ⟨e hc, kk hc _ rfl h⟩
  · rw [if_neg hc] at h; cases h
theorem L_mk {I : Prim E.σ} (hI : I = primK P E base r post) {α : Type} {n n' : Int} {bytes : Nat} {X : Option α} {o : α} {A B : Prop} (h : (if mkOk n bytes then X else none) = some o) (ea : A) (en : n' = n) (k : X = some o → B) : I.conj A (I.conj (I.mkok n' bytes) B) := by
  subst hI; subst en
  by_cases hc : mkOk n' bytes
  · rw [if_pos hc] at h; exact ⟨ea, hc, k h⟩
  · rw [if_neg hc] at h; cases h
theorem K_setl2 {I : Prim E.σ} (hI : I = primK P E base r post) {ps : List KP} {sz : Nat} {ix : Int} {j : Nat} {cs : List KV} {α : Type} {d : α} {f : α → Nat → KV} {K : List KP → Prop} (l0 : List α) (v : α) (l1 : List α) {i : Int} (hl1 : l1 = l0.set i.toNat v) (hps : rowsD sz ps = rowsD sz [.ls α d l0 f])
    (hi : 0 ≤ i ∧ i < ((l0.length : Nat) : Int)) (hix : ix = i) (hv : rowD sz 0 (fun q => (f v q).toD) = putG (rowD sz 0 fun q => (f (l0.getD i.toNat d) q).toD) j (KV.toDL cs)) (k : K [.ls α d l1 f]) : I.setl ps sz ix j cs K := by
  subst hI; subst hix; subst hl1
  refine ⟨_, ?_, k⟩
  rw [hps]
  have hlt : ix.toNat < l0.length := by omega
  simp only [rowsD, KP.rows, List.append_nil]
  rw [List.map_set, hv]
  congr 1
  simp [List.getD_eq_getElem?_getD, hlt]
def letO {α β : Type} (x : α) (k : α → Option β) : Option β := k x
theorem letO_of {α β : Type} {x : α} {k : α → Option β} {o : β} (h : letO x k = some o) : ∃ y, y = x ∧ k y = some o := ⟨x, rfl, h⟩
theorem bind_of {α β : Type} {m : Option α} {k : α → Option β} {o : β} (h : m.bind k = some o) : ∃ v, m = some v ∧ k v = some o := by
  cases m with
  | none => cases h
  | some v => exact ⟨v, rfl, h⟩
theorem guard_of {α : Type} {C : Prop} [Decidable C] {X : Option α} {o : α} (h : (if C then X else none) = some o) : C ∧ X = some o := by
  by_cases hc : C
  · rw [if_pos hc] at h; exact ⟨hc, h⟩
  · rw [if_neg hc] at h; cases h
theorem get_of {α β : Type} {d : α} {l : List α} {i : Int} {k : α → Option β} {o : β} (h : (getO d l i).bind k = some o) : (0 ≤ i ∧ i < ((l.length : Nat) : Int)) ∧ ∃ x, x = l.getD i.toNat d ∧ k x = some o := by
  unfold getO at h
  by_cases hc : 0 ≤ i ∧ i < ((l.length : Nat) : Int)
  · rw [if_pos hc] at h; exact ⟨hc, _, rfl, h⟩
  · rw [if_neg hc] at h; cases h
theorem L_call {I : Prim E.σ} (hI : I = primK P E base r post) {α β : Type} {m : Option α} {k : α → Option β} {o : β} {g : Nat} {args args' : List KV} {res : α → KV} {rows : α → List KRow} {K : KV → List KRow → Prop} (h : m.bind k = some o)
    (hc : ∀ v, m = some v → KC P g args' (res v) (rows v)) (ha : leDL (KV.toDL args) (KV.toDL args')) (kk : ∀ v, k v = some o → K (res v) (rows v)) : I.C g args K := by
  obtain ⟨v, h1, h2⟩ := bind_of h
  exact C_le hI (hc v h1) ha (kk v h2)
theorem L_calleq {I : Prim E.σ} (hI : I = primK P E base r post) {α β : Type} {m : Option α} {k : α → Option β} {o : β} {g : Nat} {args args' : List KV} {res : α → KV} {rows : α → List KRow} {K : KV → List KRow → Prop} (h : m.bind k = some o)
    (hc : ∀ v, m = some v → KC P g args' (res v) (rows v)) (ha : KV.toDL args = KV.toDL args') (kk : ∀ v, k v = some o → K (res v) (rows v)) : I.C g args K := by
  obtain ⟨v, h1, h2⟩ := bind_of h
  exact C_call hI (hc v h1) ha (kk v h2)
/-- A contract of a function value: the captured data come behind the arguments. -/
def KD (P : Program) (g : Nat) (args : List KV) (ds : List D) (res : KV) : Prop := Con P g (KV.toDL args ++ ds) res.av []
theorem L_callD {I : Prim E.σ} (hI : I = primK P E base r post) {α β : Type} {m : Option α} {k : α → Option β} {o : β} {g : Nat} {args args' : List KV} {ds : List D} {res : α → KV} {K : KV → List KRow → Prop} (h : m.bind k = some o)
    (hc : ∀ v, m = some v → KD P g args' ds (res v)) (ha : KV.toDL args = KV.toDL args') (kk : ∀ v, k v = some o → K (res v) []) : I.CD g args ds K := by
  obtain ⟨v, h1, h2⟩ := bind_of h
  exact CD_call hI (res := res v) (rows := []) (hc v h1) (by rw [ha]) (kk v h2)
theorem KD_of {g : Nat} {args caps : List KV} {res : KV} (h : KC P g (args ++ caps) res []) : KD P g args (KV.toDL caps) res := by
  unfold KD; unfold KC at h
  rwa [show KV.toDL (args ++ caps) = KV.toDL args ++ KV.toDL caps from by simp [toDL_map]] at h
theorem L_loop {σ ρ : Type} {I : Prim E.σ} (hI : I = primK P E base r post) (hT : SeatOk P tb) (pz : List Nat) {c : Code} (hdr : drawsOk c = true) {S : KSt} {s : E.σ} {Q : Exit → KSt → E.σ → Prop} {β : Type} {o : β}
    {step : σ → Option (σ ⊕ ρ)} {n : Nat} {s0 : σ} {k : ρ → Option β} (h : (loopO step n s0).bind k = some o) (st : σ → KSt) (ex : ρ → Exit) (sx : ρ → KSt) (hw : Weak S.st (st s0).st) (hx : ∀ q, ex q ≠ .normal)
    (round : ∀ (a : σ) (x : σ ⊕ ρ), step a = some x → ∀ R : Exit → KSt → E.σ → Prop, (∀ S' a', x = .inl a' → Weak S'.st (st a').st → R .normal S' s) → (∀ S' q, x = .inr q → Weak S'.st (sx q).st → R (ex q) S' s) → wpK I tb pz c (st a) s R)
    (hQ : ∀ q, k q = some o → Q (ex q) (sx q) s) : I.W (.loop c) S s Q := by
  subst hI
  obtain ⟨q, h1, h2⟩ := bind_of h
  refine AW_weak hw (AW_loop (fun n S' s' => ∃ a, S' = (st a).st ∧ s' = s ∧ loopO step n a = some q) n ⟨s0, rfl, rfl, h1⟩ ?_)
  rintro n S' s' ⟨a, rfl, rfl, hl⟩
  cases n with
  | zero => cases hl
  | succ n =>
    obtain ⟨x, hxs⟩ : ∃ x, step a = some x := by
      cases hs : step a with
      | none => rw [loopO, hs] at hl; cases hl
      | some x => exact ⟨x, rfl⟩
    rw [loopO, hxs] at hl
    refine AW_weakQ ((wpK_aw hT.mix hT.tab hdr (round a x hxs (fun e S2 s2 => s2 = s' ∧ ((e = .normal ∧ ∃ a', x = .inl a' ∧ Weak S2.st (st a').st) ∨ (∃ q', x = .inr q' ∧ e = ex q' ∧ Weak S2.st (sx q').st)))
      (fun S' a' e1 e2 => ⟨rfl, .inl ⟨rfl, a', e1, e2⟩⟩) (fun S' q' e1 e2 => ⟨rfl, .inr ⟨q', e1, rfl, e2⟩⟩))).mono ?_)
    rintro e S2 s2 ⟨S3, hw3, rfl, hq | ⟨q', rfl, rfl, hw4⟩⟩
    · obtain ⟨rfl, a', rfl, hw4⟩ := hq
      exact ⟨(st a').st, hw3.trans hw4, n, (st a').st, Nat.lt_succ_self n, Weak.refl _, a', rfl, rfl, hl⟩
    · cases hl
      refine ⟨(sx q).st, hw3.trans hw4, ?_⟩
      have := KQ_of (Q := Q) (hQ q h2)
      cases he : ex q with
      | normal => exact absurd he (hx q)
      | _ => rw [he] at this; exact this
/-- A piece of code whose end is said once. -/
theorem L_cut {ρ : Type} {I : Prim E.σ} (hI : I = primK P E base r post) (hT : SeatOk P tb) (pz : List Nat) {c : Code} (hdr : drawsOk c = true) {S : KSt} {s : E.σ} {Q : Exit → KSt → E.σ → Prop} {β : Type} {o : β}
    {m : Option ρ} {k : ρ → Option β} (h : m.bind k = some o) (ex : ρ → Exit) (sx : ρ → KSt)
    (body : ∀ x, m = some x → ∀ R : Exit → KSt → E.σ → Prop, (∀ S' q, x = q → Weak S'.st (sx q).st → R (ex q) S' s) → wpK I tb pz c S s R)
    (hQ : ∀ q, k q = some o → Q (ex q) (sx q) s) : I.W c S s Q := by
  subst hI
  obtain ⟨q, h1, h2⟩ := bind_of h
  refine AW_weakQ ((wpK_aw hT.mix hT.tab hdr (body q h1 (fun e S2 s2 => s2 = s ∧ e = ex q ∧ Weak S2.st (sx q).st) (fun S' q' e1 e2 => by subst e1; exact ⟨rfl, rfl, e2⟩))).mono ?_)
  rintro e S2 s2 ⟨S3, hw3, rfl, rfl, hw4⟩
  exact ⟨(sx q).st, hw3.trans hw4, KQ_of (hQ q h2)⟩
/-- A loop, round after round. -/
def unrK {σ : Type} (I : Prim σ) (tb : Nat → Option TI) (pz : List Nat) (c : Code) (Q : Exit → KSt → σ → Prop) : Nat → KSt → σ → Prop
  | 0, _, _ => False
  | n + 1, S, s => wpK I tb pz c S s (thenK (fun S' s' => unrK I tb pz c Q n S' s') Q)
theorem W_unroll {I : Prim E.σ} (hI : I = primK P E base r post) (hT : SeatOk P tb) (pz : List Nat) {c : Code} (hdr : drawsOk c = true) {S : KSt} {s : E.σ} {Q : Exit → KSt → E.σ → Prop} (n : Nat) (h : unrK I tb pz c Q n S s) : I.W (.loop c) S s Q := by
  subst hI
  refine AW_loop (fun n S' s' => ∃ S2 : KSt, S' = S2.st ∧ unrK (primK P E base r post) tb pz c Q n S2 s') n ⟨S, rfl, h⟩ ?_
  rintro n S' s' ⟨S2, rfl, hu⟩
  cases n with
  | zero => exact hu.elim
  | succ n =>
    refine AW_weakQ ((wpK_aw hT.mix hT.tab hdr hu).mono ?_)
    rintro e S3 s3 ⟨S4, hw, hq⟩
    cases e with
    | normal => exact ⟨S4.st, hw, n, S4.st, Nat.lt_succ_self n, Weak.refl _, S4, rfl, hq⟩
    | _ => exact ⟨S4.st, hw, KQ_of hq⟩
def roundL {A : Type u} {σ : Type} (hs : A → List (Nat × KBlk) × List (Nat × KRow)) (inv : A → σ → Prop) (jx : Exit → A → σ → Prop) (e : Exit) (S : KSt) (s : σ) : Prop := match e with
  | .panic _ => False
  | .outgrown => False
  | .normal => ∃ a, lvH S.H (hs a).1 ∧ lvO S.O (hs a).2 ∧ inv a s
  | e => ∃ a, lvH S.H (hs a).1 ∧ lvO S.O (hs a).2 ∧ jx e a s
theorem weak_hv {S : St} {H : List (Nat × KBlk)} {O : List (Nat × KRow)} {y : List (Nat × KBlk) × List (Nat × KRow)} (hH : lvH H y.1) (hO : lvO O y.2) : Weak (S.ho (mapH H, mapO O)) (S.ho (mapH y.1, mapO y.2)) :=
  weak_v (S := S.ho (mapH H, mapO O)) (S' := S.ho (mapH y.1, mapO y.2)) rfl rfl (fun t c h => ⟨c, h, leA_refl c⟩) (lvH_spec hH) (lvO_spec hO)
theorem W_weak {I : Prim E.σ} (hI : I = primK P E base r post) {c : Code} {S S' : KSt} {s : E.σ} {Q : Exit → KSt → E.σ → Prop} (hw : Weak S.st S'.st) (h : I.W c S' s Q) : I.W c S s Q := by
  subst hI; exact AW_weak hw h
theorem W_rangeL {A : Type u} {I : Prim E.σ} (hI : I = primK P E base none post) (hT : SeatOk P tb) (pz : List Nat) {g : Operand} {ps : Array Tmp} {assign body : Code} {S : KSt} {s : E.σ} {Q : Exit → KSt → E.σ → Prop} {f : Nat} {ds : List D} {ys : List (List KV)} (hdr : (drawsOk assign && drawsOk body) = true)
    (hit : IterCon P f ds (ys.map KV.toDL)) (hna : noAggD ds = true) (hs : A → List (Nat × KBlk) × List (Nat × KRow)) (inv : Nat → A → E.σ → Prop) (jx : Exit → A → E.σ → Prop) (a0 : A) (hg : rangeArg (S.ho (hs a0)) g = some (f, ds))
    (hlen : ∀ y ∈ ys, lenK y = ps.size ∧ okArgs y = true) (N : Nat) (hps : (belowN S.n ps.toList && calmTK N S.T && Nat.ble S.low N) = true) (hH : lvH S.H (hs a0).1) (hO : lvO S.O (hs a0).2) (h0 : inv 0 a0 s)
    (round : ∀ (i : Nat) (y : List KV) (a : A) (s : E.σ), ys[i]? = some y → inv i a s → ∀ (l : Nat) (I : Prim E.σ), I = primK P E base (some l) post → ∀ (R : Exit → KSt → E.σ → Prop), (∀ S' s' a', lvH S'.H (hs a').1 → lvO S'.O (hs a').2 → inv (i + 1) a' s' → R .normal S' s') → (∀ e S' s' a', (match e with | .normal => false | .panic _ => false | .outgrown => false | _ => true) = true → lvH S'.H (hs a').1 → lvO S'.O (hs a').2 → jx e a' s' → R e S' s') →
      wpK I tb pz assign ⟨S.n, putPK ps.toList y S.T, (hs a).1, (hs a).2, N⟩ s (assignK fun S2 s2 => wpK I tb pz body S2 s2 R))
    (hend : ∀ a s', inv ys.length a s' → Q .normal (S.ho (hs a)) s') (hjmp : ∀ e a s', jx e a s' → Q e (S.ho (hs a)) s') : I.W (.rangeFunc g ps assign body) S s Q := by
  subst hI
  simp only [Bool.and_eq_true] at hdr hps
  obtain ⟨⟨hp1, hp2⟩, hp3⟩ := hps
  obtain ⟨fv, cs, h1, h2, h3⟩ := rangeArg_spec hg hna
  have hwk : Weak S.st (S.ho (hs a0)).st := by
    rw [st_ho]
    exact weak_hv (S := S.st) (H := S.H) (O := S.O) hH hO
  refine AW_weak hwk ?_
  refine AW_rangeFunc (ys := ys.map KV.toDL) N h1 h2 h3 hit (fun y hy => ?_) hp1 (by rw [show (S.ho (hs a0)).st.T = mapT S.T from rfl, calmTK_spec]; exact hp2) (Nat.le_of_ble_eq_true hp3)
    (fun i x s => ∃ a, x = (mapH (hs a).1, mapO (hs a).2) ∧ inv i a s) (fun e x s => ∃ a H O, x = (mapH H, mapO O) ∧ lvH H (hs a).1 ∧ lvO O (hs a).2 ∧ jx e a s) ⟨a0, rfl, h0⟩ ?_ ?_ ?_
  · obtain ⟨y', hy', rfl⟩ := List.mem_map.1 hy
    rw [toDL_len]; exact (hlen y' hy').1
  · rintro i y x s hi ⟨a, rfl, ha⟩ l
    rw [List.getElem?_map] at hi
    cases hy : ys[i]? with
    | none => rw [hy] at hi; cases hi
    | some y' =>
      rw [hy] at hi
      cases hi
      have hok := (hlen y' (List.mem_of_getElem? hy)).2
      have hrd := wpK_aw hT.mix hT.tab hdr.1 (round i y' a s hy ha l _ rfl (roundL hs (inv (i + 1)) jx) (fun S' s' a' h1 h2 h3 => ⟨a', h1, h2, h3⟩) (fun e S' s' a' he h1 h2 h3 => by cases e <;> first | exact ⟨a', h1, h2, h3⟩ | cases he))
      have hlq : Leq (SR (S.ho (hs a0)).st ps.toList (KV.toDL y') (mapH (hs a).1, mapO (hs a).2) N) (KSt.st ⟨S.n, putPK ps.toList y' S.T, (hs a).1, (hs a).2, N⟩) :=
        ⟨rfl, rfl, fun t => (putPK_spec hok t), fun _ => rfl, fun _ => rfl⟩
      refine AW_weak hlq.less.weak (AW_weakQ (hrd.mono ?_))
      rintro e S2 s2 ⟨S3, hw3, hq⟩
      refine ⟨S3.st, hw3, ?_⟩
      cases e with
      | normal =>
        refine ⟨rfl, ?_⟩
        have hb := wpK_aw hT.mix hT.tab hdr.2 (show wpK _ tb pz body S3 s2 _ from hq)
        refine AW_weakQ (hb.mono ?_)
        rintro e S4 s4 ⟨S5, hw5, hq⟩
        refine ⟨S5.st, hw5, ?_⟩
        cases e with
        | normal =>
          obtain ⟨a', e1, e2, e3⟩ := hq
          exact ⟨S5.st.ho (mapH (hs a').1, mapO (hs a').2), weak_hv (S := S5.st) (H := S5.H) (O := S5.O) e1 e2, a', rfl, e3⟩
        | panic => exact hq.elim
        | outgrown => exact hq.elim
        | _ =>
          obtain ⟨a', e1, e2, e3⟩ := hq
          exact ⟨a', S5.H, S5.O, rfl, e1, e2, e3⟩
      | _ => exact hq.elim
  · rintro x s' ⟨a, rfl, ha⟩
    rw [List.length_map] at ha
    exact ⟨S.ho (hs a), Weak.refl _, hend a s' ha⟩
  · rintro e c x s' _ ⟨a, H, O, rfl, e1, e2, e3⟩
    exact ⟨S.ho (hs a), weak_hv (S := S.st) (H := H) (O := O) e1 e2, hjmp e a s' e3⟩
/-- A loop over an iterator. -/
theorem L_range {υ σ ρ : Type} {I : Prim E.σ} (hI : I = primK P E base none post) (hT : SeatOk P tb) (pz : List Nat) {g : Operand} {ps : Array Tmp} {assign body : Code} (hdr : (drawsOk assign && drawsOk body) = true) {S : KSt} {s : E.σ} {Q : Exit → KSt → E.σ → Prop} {β : Type} {o : β}
    {ys : List υ} {kY : υ → List KV} {f : Nat} {ds : List D} (hit : IterCon P f ds ((ys.map kY).map KV.toDL)) (hna : noAggD ds = true)
    {step : υ → σ → Option (σ ⊕ ρ)} {s0 : σ} {k : σ ⊕ ρ → Option β} (h : (rangeO step ys s0).bind k = some o) (st : σ → List (Nat × KBlk) × List (Nat × KRow)) (ex : ρ → Exit) (sx : ρ → List (Nat × KBlk) × List (Nat × KRow))
    (hg : rangeArg (S.ho (st s0)) g = some (f, ds)) (hlen : ∀ y, lenK (kY y) = ps.size ∧ okArgs (kY y) = true) (N : Nat) (hps : (belowN S.n ps.toList && calmTK N S.T && Nat.ble S.low N) = true)
    (hH : lvH S.H (st s0).1) (hO : lvO S.O (st s0).2) (hx : ∀ q, ex q ≠ .normal) (hx2 : ∀ q ch, ex q ≠ .panic ch) (hx3 : ∀ q, ex q ≠ .outgrown)
    (round : ∀ (y : υ) (a : σ) (x : σ ⊕ ρ), step y a = some x → ∀ (l : Nat) (I : Prim E.σ), I = primK P E base (some l) post → ∀ R : Exit → KSt → E.σ → Prop,
      (∀ S' a', x = .inl a' → lvH S'.H (st a').1 → lvO S'.O (st a').2 → R .normal S' s) → (∀ S' q, x = .inr q → lvH S'.H (sx q).1 → lvO S'.O (sx q).2 → R (ex q) S' s) →
      wpK I tb pz assign ⟨S.n, putPK ps.toList (kY y) S.T, (st a).1, (st a).2, N⟩ s (assignK fun S2 s2 => wpK I tb pz body S2 s2 R))
    (hend : ∀ a, k (.inl a) = some o → Q .normal (S.ho (st a)) s) (hjmp : ∀ q, k (.inr q) = some o → Q (ex q) (S.ho (sx q)) s) : I.W (.rangeFunc g ps assign body) S s Q := by
  obtain ⟨fin, h1, h2⟩ := bind_of h
  let hs : σ ⊕ ρ → List (Nat × KBlk) × List (Nat × KRow) := fun x => match x with | .inl a => st a | .inr q => sx q
  refine W_rangeL (A := σ ⊕ ρ) hI hT pz hdr hit hna hs (fun i x s' => s' = s ∧ ∃ a, x = .inl a ∧ rangeO step (ys.drop i) a = some fin) (fun e x s' => s' = s ∧ ∃ q, x = .inr q ∧ fin = .inr q ∧ e = ex q) (.inl s0) hg ?_ N hps hH hO ⟨rfl, s0, rfl, by simpa using h1⟩ ?_ ?_ ?_
  · intro y hy
    obtain ⟨u, _, rfl⟩ := List.mem_map.1 hy
    exact hlen u
  · rintro i y x s' hy ⟨rfl, a, rfl, hr⟩ l J hJ R hR hX
    rw [List.getElem?_map] at hy
    cases hyi : ys[i]? with
    | none => rw [hyi] at hy; cases hy
    | some u =>
      rw [hyi] at hy
      cases hy
      have hi := (List.getElem?_eq_some_iff.1 hyi).1
      have hd : ys.drop i = u :: ys.drop (i + 1) := by
        rw [List.drop_eq_getElem_cons hi]
        congr 1
        exact (List.getElem?_eq_some_iff.1 hyi).2
      rw [hd, rangeO] at hr
      cases hst : step u a with
      | none => rw [hst] at hr; cases hr
      | some x =>
        rw [hst] at hr
        refine round u a x hst l J hJ R (fun S' a' e1 e2 e3 => ?_) (fun S' q e1 e2 e3 => ?_)
        · subst e1
          exact hR S' _ (.inl a') e2 e3 ⟨rfl, a', rfl, hr⟩
        · subst e1
          cases hr
          exact hX (ex q) S' _ (.inr q) (by cases he : ex q <;> first | exact absurd he (hx q) | exact absurd he (hx2 q _) | exact absurd he (hx3 q) | (simp)) e2 e3 ⟨rfl, q, rfl, rfl, rfl⟩
  · rintro x s' ⟨rfl, a, rfl, hr⟩
    rw [List.length_map, List.drop_length, rangeO] at hr
    cases hr
    exact hend a h2
  · rintro e x s' ⟨rfl, q, rfl, rfl, rfl⟩
    exact hjmp q h2
end Go.Proofs.Ytgefdljjhmjdaaa.Aw

/- The logic of abstract walks, part N4: reckoning with plain models. -/
namespace Go.Proofs.Ytgefdljjhmjdaaa.Aw
open Go Go.RowKit
set_option linter.unusedVariables false
set_option linter.unusedSimpArgs false

/-- A loop, by what holds at its head. -/
theorem loopO_of {σ ρ : Type} {step : σ → Option (σ ⊕ ρ)} (inv : σ → Prop) (m : σ → Nat) (post : ρ → Prop)
    (hstep : ∀ s, inv s → (∃ s', step s = some (.inl s') ∧ inv s' ∧ m s' < m s) ∨ (∃ q, step s = some (.inr q) ∧ post q)) : ∀ (n : Nat) (s : σ), inv s → m s < n → ∃ q, loopO step n s = some q ∧ post q
  | 0, s, _, h => by omega
  | n + 1, s, hi, hm => by
    rcases hstep s hi with ⟨s', e, hi', hm'⟩ | ⟨q, e, hp⟩
    · obtain ⟨q, e2, hp⟩ := loopO_of inv m post hstep n s' hi' (by omega)
      exact ⟨q, by rw [loopO, e]; exact e2, hp⟩
    · exact ⟨q, by rw [loopO, e], hp⟩
theorem loopO_inl {σ ρ : Type} {step : σ → Option (σ ⊕ ρ)} {n : Nat} {s s' : σ} (h : step s = some (.inl s')) : loopO step (n + 1) s = loopO step n s' := by rw [loopO, h]
theorem loopO_inr {σ ρ : Type} {step : σ → Option (σ ⊕ ρ)} {n : Nat} {s : σ} {q : ρ} (h : step s = some (.inr q)) : loopO step (n + 1) s = some q := by rw [loopO, h]
theorem rangeO_of {υ σ ρ : Type} {step : υ → σ → Option (σ ⊕ ρ)} (inv : List υ → σ → Prop) (post : σ ⊕ ρ → Prop) (hend : ∀ s, inv [] s → post (.inl s))
    (hstep : ∀ y ys s, inv (y :: ys) s → (∃ s', step y s = some (.inl s') ∧ inv ys s') ∨ (∃ q, step y s = some (.inr q) ∧ post (.inr q))) : ∀ (ys : List υ) (s : σ), inv ys s → ∃ q, rangeO step ys s = some q ∧ post q
  | [], s, h => ⟨_, rfl, hend s h⟩
  | y :: ys, s, h => by
    rcases hstep y ys s h with ⟨s', e, hi⟩ | ⟨q, e, hp⟩
    · obtain ⟨q, e2, hp⟩ := rangeO_of inv post hend hstep ys s' hi
      exact ⟨q, by rw [rangeO, e]; exact e2, hp⟩
    · exact ⟨_, by rw [rangeO, e], hp⟩
theorem getO_of {α : Type} {d : α} {l : List α} {i : Int} (h0 : 0 ≤ i) (h1 : i < l.length) : getO d l i = some (l.getD i.toNat d) := by
  unfold getO; rw [if_pos ⟨h0, h1⟩]
theorem some_bind' {α β : Type} {x : Option α} {a : α} {k : α → Option β} (h : x = some a) : x.bind k = k a := by rw [h]; rfl
theorem icmp_lss {a b : Int} : icmpR .lss a b = decide (a < b) := by simp only [icmpR]
theorem icmp_leq {a b : Int} : icmpR .leq a b = decide (a ≤ b) := by simp only [icmpR]
theorem icmp_gtr {a b : Int} : icmpR .gtr a b = decide (a > b) := by simp only [icmpR]
theorem icmp_geq {a b : Int} : icmpR .geq a b = decide (a ≥ b) := by simp only [icmpR]
theorem icmp_eql {a b : Int} : icmpR .eql a b = decide (a = b) := by
  show (a == b) = decide (a = b)
  by_cases h : a = b <;> simp [h]
theorem icmp_neq {a b : Int} : icmpR .neq a b = decide (a ≠ b) := by
  show (a != b) = decide (a ≠ b)
  by_cases h : a = b <;> simp [h]
theorem addW {a b : Int} (h : -9223372036854775808 ≤ a + b ∧ a + b ≤ 9223372036854775807) : iopR .add .i64 a b = a + b := wrap_i64 h
theorem subW {a b : Int} (h : -9223372036854775808 ≤ a - b ∧ a - b ≤ 9223372036854775807) : iopR .sub .i64 a b = a - b := wrap_i64 h
theorem mulW {a b : Int} (h : -9223372036854775808 ≤ a * b ∧ a * b ≤ 9223372036854775807) : iopR .mul .i64 a b = a * b := wrap_i64 h
theorem remW {k : IntKind} {a b : Int} (ha : 0 ≤ a) : iopR .rem k a b = a % b := Int.tmod_eq_emod_of_nonneg ha
theorem quoW {a b : Int} (ha : 0 ≤ a ∧ a ≤ 9223372036854775807) (hb : 0 < b) : iopR .quo .i64 a b = a / b := by
  show IntKind.i64.wrap (a.tdiv b) = a / b
  have h1 := Int.ediv_nonneg ha.1 (show 0 ≤ b by omega)
  have h2 := Int.ediv_le_self b ha.1
  rw [Int.tdiv_eq_ediv_of_nonneg ha.1, wrap_i64 (by omega)]
theorem letO_eq {α β : Type} (x : α) (k : α → Option β) : letO x k = k x := rfl
theorem bindS {α β : Type} (a : α) (k : α → Option β) : (some a).bind k = k a := rfl
end Go.Proofs.Ytgefdljjhmjdaaa.Aw

/- The logic of abstract walks, part N5: maps beside a plain model. -/
namespace Go.Proofs.Ytgefdljjhmjdaaa.Aw
open Go Go.RowKit
set_option linter.unusedVariables false
set_option linter.unusedSimpArgs false
set_option linter.unusedSectionVars false
universe u
variable {P : Program} {E : Env P} {base : Nat} {r : Option Nat} {post : KV → List KRow → Prop} {tb : Nat → Option TI}

/-! Maps as lists of keys and values. -/
section
variable {κ ν : Type} [BEq κ]
def mfind (l : List (κ × ν)) (k : κ) : Option ν := match l with
  | [] => none
  | p :: r => if k == p.1 then some p.2 else mfind r k
def mget (l : List (κ × ν)) (k : κ) (z : ν) : ν := (mfind l k).getD z
def mhas (l : List (κ × ν)) (k : κ) : Bool := (mfind l k).isSome
def mset (l : List (κ × ν)) (k : κ) (v : ν) : List (κ × ν) := match l with
  | [] => [(k, v)]
  | p :: r => if k == p.1 then (k, v) :: r else p :: mset r k v
def mdel (l : List (κ × ν)) (k : κ) : List (κ × ν) := match l with
  | [] => []
  | p :: r => if k == p.1 then r else p :: mdel r k
end
theorem mgetD_cons (row : List D) (r : List (List D)) (k : D) : mgetD (row :: r) k = if dsame k (row.headD .nilfn) = true then row[1]? else mgetD r k := by
  simp only [mgetD, mpos]
  cases dsame k (row.headD .nilfn) with
  | true => simp
  | false =>
    cases mpos k r with
    | none => simp
    | some i => simp
theorem msetD_cons (row : List D) (r : List (List D)) (k v : D) : msetD (row :: r) k v = if dsame k (row.headD .nilfn) = true then [k, v] :: r else row :: msetD r k v := by
  simp only [msetD, mpos]
  cases dsame k (row.headD .nilfn) with
  | true => simp
  | false =>
    cases mpos k r with
    | none => simp
    | some i => simp
theorem mdelD_cons (row : List D) (r : List (List D)) (k : D) : mdelD (row :: r) k = if dsame k (row.headD .nilfn) = true then r else row :: mdelD r k := by
  simp only [mdelD, mpos]
  cases dsame k (row.headD .nilfn) with
  | true => simp
  | false =>
    cases mpos k r with
    | none => simp
    | some i => simp
/-- How a map's entries are laid. -/
structure MapEnc {κ ν : Type} [BEq κ] (u : Un) (f : κ × ν → Nat → KV) (fk : κ → KV) (fv : ν → KV) : Prop where
  t : ∃ d, unT u = some d ∧ ∀ a, isKeyD d (fk a).toD
  f0 : ∀ a, f a 0 = fk a.1
  f1 : ∀ a, f a 1 = fv a.2
  same : ∀ a b, dsame (fk a).toD (fk b).toD = (a == b)
  dat : ∀ a, okDat (fv a) = true
section
variable {κ ν : Type} [BEq κ] {u : Un} {f : κ × ν → Nat → KV} {fk : κ → KV} {fv : ν → KV}
def mrows (fk : κ → KV) (fv : ν → KV) (l : List (κ × ν)) : List (List D) := l.map fun p => [(fk p.1).toD, (fv p.2).toD]
theorem mrows_eq (h : MapEnc u f fk fv) (d : κ × ν) (l : List (κ × ν)) : rowsD 0 [.mp (κ × ν) d l f] = mrows fk fv l := by
  simp [rowsD, KP.rows, mrows, rowD, h.f0, h.f1]
theorem mrows_keys {d : TypeDesc} (h : ∀ a, isKeyD d (fk a).toD) (l : List (κ × ν)) : keysD d (mrows fk fv l) := by
  intro row hr
  obtain ⟨p, _, rfl⟩ := List.mem_map.1 hr
  exact ⟨_, _, rfl, h p.1⟩
theorem mgetD_rows (h : MapEnc u f fk fv) (k : κ) : ∀ (l : List (κ × ν)), mgetD (mrows fk fv l) (fk k).toD = (mfind l k).map fun x => (fv x).toD
  | [] => rfl
  | p :: r => by
    have ih := mgetD_rows h k r
    simp only [mrows, List.map_cons, mgetD_cons, List.headD_cons, h.same, mfind] at ih ⊢
    by_cases hb : (k == p.1) = true
    · simp [hb]
    · simp only [hb, if_false, Bool.false_eq_true]; exact ih
theorem msetD_rows (h : MapEnc u f fk fv) (k : κ) (v : ν) : ∀ (l : List (κ × ν)), msetD (mrows fk fv l) (fk k).toD (fv v).toD = mrows fk fv (mset l k v)
  | [] => rfl
  | p :: r => by
    have ih := msetD_rows h k v r
    simp only [mrows, List.map_cons, msetD_cons, List.headD_cons, h.same, mset] at ih ⊢
    by_cases hb : (k == p.1) = true
    · simp [hb]
    · simp only [hb, if_false, Bool.false_eq_true, List.map_cons]; rw [ih]
theorem mdelD_rows (h : MapEnc u f fk fv) (k : κ) : ∀ (l : List (κ × ν)), mdelD (mrows fk fv l) (fk k).toD = mrows fk fv (mdel l k)
  | [] => rfl
  | p :: r => by
    have ih := mdelD_rows h k r
    simp only [mrows, List.map_cons, mdelD_cons, List.headD_cons, h.same, mdel] at ih ⊢
    by_cases hb : (k == p.1) = true
    · simp [hb]
    · simp only [hb, if_false, Bool.false_eq_true, List.map_cons]; rw [ih]
theorem K_mget {I : Prim E.σ} (hI : I = primK P E base r post) {ps : List KP} {kc z : KV} {K : KV → Bool → Prop} (h : MapEnc u f fk fv) {d : κ × ν} (l : List (κ × ν)) (key : κ) (zv : ν) {x : ν} {b : Bool} (hx : x = mget l key zv) (hb : b = mhas l key)
    (hps : rowsD 0 ps = rowsD 0 [.mp (κ × ν) d l f]) (hk : kc.toD = (fk key).toD) (hz : z.toD = (fv zv).toD) (k : K (fv x) b) : I.mget u ps kc z K := by
  subst hI hx hb
  obtain ⟨d', h1, h2⟩ := h.t
  refine ⟨d', h1, by rw [hk]; exact h2 key, by rw [hps, mrows_eq h]; exact mrows_keys h2 l, fv (mget l key zv), _, ?_, ?_, k⟩
  · rw [okDat_av (h.dat _), hps, mrows_eq h, lkD, hk, mgetD_rows h, hz, mget]
    cases mfind l key <;> rfl
  · rw [hps, mrows_eq h, lkOk, hk, mgetD_rows h, mhas]
    cases mfind l key <;> rfl
theorem K_mset {I : Prim E.σ} (hI : I = primK P E base r post) {ps : List KP} {kc v : KV} {K : List KP → Prop} (h : MapEnc u f fk fv) {d : κ × ν} (l : List (κ × ν)) (key : κ) (x : ν) (l1 : List (κ × ν)) (hl : l1 = mset l key x)
    (hps : rowsD 0 ps = rowsD 0 [.mp (κ × ν) d l f]) (hk : kc.toD = (fk key).toD) (hv : v.toD = (fv x).toD) (k : K [.mp (κ × ν) d l1 f]) : I.mset u ps kc v K := by
  subst hI hl
  obtain ⟨d', h1, h2⟩ := h.t
  refine ⟨d', h1, by rw [hk]; exact h2 key, by rw [hps, mrows_eq h]; exact mrows_keys h2 l, _, ?_, k⟩
  rw [hps, mrows_eq h, mrows_eq h, hk, hv, msetD_rows h]
theorem K_mdel {I : Prim E.σ} (hI : I = primK P E base r post) {ps : List KP} {kc : KV} {K : List KP → Prop} (h : MapEnc u f fk fv) {d : κ × ν} (l : List (κ × ν)) (key : κ) (l1 : List (κ × ν)) (hl : l1 = mdel l key)
    (hps : rowsD 0 ps = rowsD 0 [.mp (κ × ν) d l f]) (hk : kc.toD = (fk key).toD) (k : K [.mp (κ × ν) d l1 f]) : I.mdel u ps kc K := by
  subst hI hl
  obtain ⟨d', h1, h2⟩ := h.t
  refine ⟨d', h1, by rw [hk]; exact h2 key, by rw [hps, mrows_eq h]; exact mrows_keys h2 l, _, ?_, k⟩
  rw [hps, mrows_eq h, mrows_eq h, hk, mdelD_rows h]
end
theorem K_mnext {I : Prim E.σ} (hI : I = primK P E base r post) {α : Type} {l : List α} {Ks : α → List α → Prop} {Ke : Prop} (h1 : l = [] → Ke) (h2 : ∀ i x rem, rem = l.eraseIdx i → l[i]? = some x → Ks x rem) : I.mnext α l Ks Ke := by
  subst hI; exact ⟨h1, fun i x h => h2 i x _ rfl h⟩
/-! Loops over a map: all orders. -/
noncomputable def rangeAll {υ σ ρ : Type} (step : υ → σ → Option (σ ⊕ ρ)) (ys : List υ) (s : σ) : Option (σ ⊕ ρ) :=
  open Classical in if h : ∃ q, ∀ l : List υ, l.Perm ys → rangeO step l s = some q then some (Classical.choose h) else none
theorem rangeAll_spec {υ σ ρ : Type} {step : υ → σ → Option (σ ⊕ ρ)} {ys : List υ} {s : σ} {q : σ ⊕ ρ} : rangeAll step ys s = some q ↔ ∀ l : List υ, l.Perm ys → rangeO step l s = some q := by
  unfold rangeAll
  constructor
  · intro h
    split at h
    · rename_i hh; cases h; exact Classical.choose_spec hh
    · cases h
  · intro h
    have hh : ∃ q, ∀ l : List υ, l.Perm ys → rangeO step l s = some q := ⟨q, h⟩
    rw [dif_pos hh]
    have := Classical.choose_spec hh ys (List.Perm.refl _)
    rw [h ys (List.Perm.refl _)] at this
    exact congrArg some (Option.some.inj this).symm
theorem perm_erase {υ : Type} : ∀ {l : List υ} {i : Nat} {y : υ}, l[i]? = some y → (y :: l.eraseIdx i).Perm l
  | [], i, y, h => by simp at h
  | x :: r, 0, y, h => by cases h; exact List.Perm.refl _
  | x :: r, i + 1, y, h => by
    have := perm_erase (l := r) (i := i) (y := y) (by simpa using h)
    exact (List.Perm.swap x y _).trans (this.cons x)
theorem perm_pick {υ : Type} {rem l : List υ} {i : Nat} {y : υ} (hy : rem[i]? = some y) (h : l.Perm (rem.eraseIdx i)) : (y :: l).Perm rem := (h.cons y).trans (perm_erase hy)
theorem L_mloop {υ σ ρ : Type} {I : Prim E.σ} (hI : I = primK P E base r post) (hT : SeatOk P tb) (pz : List Nat) {c : Code} (hdr : drawsOk c = true) {S : KSt} {s : E.σ} {Q : Exit → KSt → E.σ → Prop} {β : Type} {o : β}
    {step : υ → σ → Option (σ ⊕ ρ)} {ys : List υ} {s0 : σ} {k : σ ⊕ ρ → Option β} (h : (rangeAll step ys s0).bind k = some o) (st : List υ → σ → KSt) (ee : Exit) (se : σ → KSt) (ex : ρ → Exit) (sx : ρ → KSt) (hw : Weak S.st (st ys s0).st) (hee : ee ≠ .normal) (hx : ∀ q, ex q ≠ .normal)
    (round : ∀ (rem : List υ) (a : σ) (R : Exit → KSt → E.σ → Prop), (rem = [] → ∀ S', Weak S'.st (se a).st → R ee S' s) →
      (∀ i y rem', rem' = rem.eraseIdx i → rem[i]? = some y → ∃ x, step y a = some x ∧ (∀ S' a', x = .inl a' → Weak S'.st (st rem' a').st → R .normal S' s) ∧ ∀ S' q, x = .inr q → Weak S'.st (sx q).st → R (ex q) S' s) → wpK I tb pz c (st rem a) s R)
    (hend : ∀ a, k (.inl a) = some o → Q ee (se a) s) (hjmp : ∀ q, k (.inr q) = some o → Q (ex q) (sx q) s) : I.W (.loop c) S s Q := by
  subst hI
  obtain ⟨q, h1, h2⟩ := bind_of h
  have h1 := rangeAll_spec.1 h1
  refine AW_weak hw (AW_loop (fun n S' s' => ∃ rem a, S' = (st rem a).st ∧ s' = s ∧ rem.length = n ∧ ∀ l : List υ, l.Perm rem → rangeO step l a = some q) ys.length ⟨ys, s0, rfl, rfl, rfl, h1⟩ ?_)
  rintro n S' s' ⟨rem, a, rfl, rfl, hn, hl⟩
  refine AW_weakQ ((wpK_aw hT.mix hT.tab hdr (round rem a (fun e S2 s2 => s2 = s' ∧ ((rem = [] ∧ e = ee ∧ Weak S2.st (se a).st) ∨ ∃ i y x, rem[i]? = some y ∧ step y a = some x ∧ ((e = .normal ∧ ∃ a', x = .inl a' ∧ Weak S2.st (st (rem.eraseIdx i) a').st) ∨ (∃ q', x = .inr q' ∧ e = ex q' ∧ Weak S2.st (sx q').st))))
    (fun h0 S' hw' => ⟨rfl, .inl ⟨h0, rfl, hw'⟩⟩) (fun i y rem' hrem hy => ?_))).mono ?_)
  · have h0 := hl (y :: rem.eraseIdx i) (perm_pick hy (List.Perm.refl _))
    cases hs : step y a with
    | none => rw [rangeO, hs] at h0; cases h0
    | some x => exact ⟨x, rfl, fun S' a' e1 e2 => ⟨rfl, .inr ⟨i, y, x, hy, hs, .inl ⟨rfl, a', e1, hrem ▸ e2⟩⟩⟩, fun S' q' e1 e2 => ⟨rfl, .inr ⟨i, y, x, hy, hs, .inr ⟨q', e1, rfl, e2⟩⟩⟩⟩
  rintro e S2 s2 ⟨S3, hw3, rfl, ⟨h0, rfl, hw4⟩ | ⟨i, y, x, hy, hs, hq | ⟨q', rfl, rfl, hw4⟩⟩⟩
  · subst h0
    have hq := hl [] (List.Perm.refl _)
    rw [rangeO] at hq
    cases hq
    refine ⟨(se a).st, hw3.trans hw4, ?_⟩
    have := KQ_of (Q := Q) (hend a h2)
    cases he : e with
    | normal => exact absurd he hee
    | _ => rw [he] at this; exact this
  · obtain ⟨rfl, a', rfl, hw4⟩ := hq
    have hi := (List.getElem?_eq_some_iff.1 hy).1
    refine ⟨(st (rem.eraseIdx i) a').st, hw3.trans hw4, (rem.eraseIdx i).length, _, by rw [List.length_eraseIdx, if_pos hi]; omega, Weak.refl _, rem.eraseIdx i, a', rfl, rfl, rfl, fun l hp => ?_⟩
    have h0 := hl (y :: l) (perm_pick hy hp)
    rw [rangeO, hs] at h0
    exact h0
  · have h0 := hl (y :: rem.eraseIdx i) (perm_pick hy (List.Perm.refl _))
    rw [rangeO, hs] at h0
    cases h0
    refine ⟨(sx q').st, hw3.trans hw4, ?_⟩
    have := KQ_of (Q := Q) (hjmp q' h2)
    cases he : ex q' with
    | normal => exact absurd he (hx q')
    | _ => rw [he] at this; exact this
end Go.Proofs.Ytgefdljjhmjdaaa.Aw

/- A cell of a box that holds a nil slice, as an empty row of one's own. -/
namespace Go.Proofs.Ytgefdljjhmjdaaa.Aw
open Go Go.RowKit Go.Proofs
set_option maxRecDepth 100000
theorem weak_cell {P : Program} {E : Env P} {base : Nat} {s : E.σ} {M : Mp} {a : Act} {w : World} {S S' : St} (hc : Cfg E base S s M a w) (hn : S'.n = S.n) (hT : S'.T = S.T) (hO : S'.O = S.O) (hl : S'.low = S.low)
    (hH : ∀ b B', look S'.H b = some B' → ∃ B, look S.H b = some B ∧ B'.e = B.e ∧ B'.live = B.live ∧ B'.cells.length = B.cells.length ∧
      ∀ (i : Nat) (c' : AV) (v : Value), B'.cells[i]? = some c' → ∃ c, B.cells[i]? = some c ∧ (RdA w M.ok M.μ M.ν E.l c v → RdA w M.ok M.μ M.ν E.l c' v)) : Cfg E base S' s M a w ∧ Ext S M w S' M w := by
  have hr := hc.rel
  have hmu : ∀ x k, At S'.H S'.O M x k → At S.H S.O M x k := by
    intro x k hx
    cases x with
    | inl b => obtain ⟨⟨B, hB⟩, hk⟩ := hx; obtain ⟨B0, h1, _⟩ := hH b B hB; exact ⟨⟨_, h1⟩, hk⟩
    | inr b => obtain ⟨⟨B, hB⟩, hk⟩ := hx; rw [hO] at hB; exact ⟨⟨_, hB⟩, hk⟩
  have hlive : ∀ x, Liv S'.H S'.O x → Liv S.H S.O x := by
    intro x hx
    cases x with
    | inl b => obtain ⟨B, hB, hl⟩ := hx; obtain ⟨B0, h1, _, h2, _⟩ := hH b B hB; exact ⟨_, h1, h2 ▸ hl⟩
    | inr b => obtain ⟨B, hB, hl⟩ := hx; rw [hO] at hB; exact ⟨_, hB, hl⟩
  have hown : ∀ k, Own S' M k → Own S M k := by
    rintro k (⟨x, hx, hl⟩ | hd)
    · exact .inl ⟨x, hmu x k hx, hlive x hl⟩
    · exact .inr hd
  refine ⟨⟨⟨hr.lo, hr.size.trans hn.symm, fun t c ht => hr.tmp t c (hT ▸ ht), ⟨?_, ?_, ?_⟩, hr.okLt, hr.dfr, hr.dsOk, hr.dsN⟩, hc.j, hc.okLv, fun k hk => hc.own k (hown k hk), hc.okDom, hc.bDom⟩,
    ⟨rfl, rfl, rfl, Nat.le_refl _, fun _ _ _ _ => rfl, fun k _ hk => hown k hk, fun k x => x, fun k _ x => .inl x, fun _ _ x => x, Nat.le_of_eq hl.symm, fun _ _ => rfl, fun _ _ x => .inl x⟩⟩
  · intro b B' hB'
    obtain ⟨B, h1, h2, h3, h4, h5⟩ := hH b B' hB'
    obtain ⟨k, vs, e1, e2, e3, e4, e5, e6, e7, e8⟩ := hr.heap.blk b _ h1
    refine ⟨k, vs, e1, e2, h2 ▸ e3, e4.trans h4.symm, fun i c v hi hv => ?_, e6, fun h => e7 (h3 ▸ h), fun h => e8 (h3 ▸ h)⟩
    obtain ⟨c0, g1, g2⟩ := h5 i c v hi
    exact g2 (e5 i c0 v g1 hv)
  · intro b R hR
    exact hr.heap.row b R (hO ▸ hR)
  · intro x y k hx hy
    exact hr.heap.inj x y k (hmu x k hx) (hmu y k hy)
/-- A box's cell that is nil, as an empty row of one's own. -/
theorem weak_nilH {S : KSt} (b i id e sz : Nat) (B : KBlk) (hb : lk S.H b = some B) (hci : nth B.cells i = some .nilsl) (hsz : Nat.blt 0 sz = true) (hf : freshKO S [(id, ⟨e, sz, [], false, true⟩)] = true) :
    Weak S.st (KSt.st ⟨S.n, S.T, stA S.H b ⟨B.e, B.cells.set i (.osl id), B.live⟩, (id, ⟨e, sz, [], false, true⟩) :: S.O, S.low⟩) := by
  intro P E base s M a w hc
  have hsz0 : 0 < sz := by rw [Nat.blt_eq] at hsz; exact hsz
  have hnew : New M E.l w [] [(id, ⟨e, sz, [], false, true⟩)] (.osl id) (.slice none 0 0) (setν M id (.slice none 0 0)) w := by
    refine ⟨Below.refl _ _, rfl, rfl, rfl, fun _ _ => rfl, fun b hb => ?_, fun k x => x, fun k x => .inl x, .osl (by simp [setν]) rfl, ⟨fun b B h => (by cases h), fun id' R hR => ?_, fun x y k hx hy => ?_⟩⟩
    · have : ¬ b = id := fun e => hb (by simp [keys, e])
      simp [setν, this]
    · simp only [look] at hR
      by_cases hbb : id = id'
      · rw [if_pos hbb] at hR; cases hR; subst hbb
        exact ⟨.slice none 0 0, [], by simp [setν], .inl ⟨hsz0, ⟨by simp, .inl ⟨rfl, rfl⟩⟩⟩, ⟨fun row h => (by cases h), fun i row j c h => by simp at h⟩, fun h => (by cases h), fun k hk => by cases hk⟩
      · rw [if_neg hbb] at hR; cases hR
    · cases x with
      | inl b => obtain ⟨⟨_, h⟩, _⟩ := hx; cases h
      | inr x =>
        obtain ⟨⟨_, hx1⟩, v, hx2, hx3⟩ := hx
        simp only [look] at hx1
        by_cases h1 : id = x
        · subst h1
          have : v = .slice none 0 0 := by simpa [setν] using hx2.symm
          subst this; cases hx3
        · rw [if_neg h1] at hx1; cases hx1
  have h1 := hc.new hnew (dst := none) (freshK_spec (S := S) (nh := []) (no := [(id, ⟨e, sz, [], false, true⟩)]) rfl hf) rfl
  have h2 := weak_cell (S' := KSt.st ⟨S.n, S.T, stA S.H b ⟨B.e, B.cells.set i (.osl id), B.live⟩, (id, ⟨e, sz, [], false, true⟩) :: S.O, S.low⟩) h1.1 rfl rfl rfl rfl (fun b' B' hB' => by
    rw [st_lookH] at hB'
    simp only at hB'
    rw [lk_stA hb] at hB'
    by_cases e1 : b = b'
    · subst e1
      rw [if_pos rfl] at hB'
      cases hB'
      refine ⟨B.blk, ?_, rfl, rfl, ?_, fun j c' v hj => ?_⟩
      · show look (S.st.add _ _ [] _).H b = _
        rw [St.add]; show look S.st.H b = _
        rw [st_lookH, hb]; rfl
      · show (KV.avL (B.cells.set i (.osl id))).length = (KV.avL B.cells).length
        rw [avL_map, avL_map, List.length_map, List.length_map, List.length_set]
      · have hj : (KV.avL (B.cells.set i (.osl id)))[j]? = some c' := hj
        show ∃ c, (KV.avL B.cells)[j]? = some c ∧ _
        rw [avL_map, List.map_set] at hj
        rw [nth_eq] at hci
        by_cases e2 : i = j
        · subst e2
          have hlt := (List.getElem?_eq_some_iff.1 hci).1
          rw [List.getElem?_set_self (by rw [List.length_map]; exact hlt)] at hj
          cases hj
          refine ⟨(KV.nilsl).av, by rw [avL_map, List.getElem?_map, hci]; rfl, fun hv => ?_⟩
          have hvn : v = .slice none 0 0 := by cases hv with | d h => cases h; rfl
          subst hvn
          exact .osl (by simp [setν]) rfl
        · rw [List.getElem?_set_ne e2] at hj
          exact ⟨c', by rw [avL_map]; exact hj, fun h => h⟩
    · rw [if_neg e1] at hB'
      exact ⟨B', by show look S.st.H b' = _; rw [st_lookH]; exact hB', rfl, rfl, rfl, fun j c' v hj => ⟨c', hj, fun h => h⟩⟩)
  exact ⟨_, h2.1, h1.2.trans h2.2⟩
end Go.Proofs.Ytgefdljjhmjdaaa.Aw

/- The logic of abstract walks, part N8: iterators beside a plain model. -/
namespace Go.Proofs.Ytgefdljjhmjdaaa.Aw
open Go Go.RowKit
set_option linter.unusedVariables false
set_option linter.unusedSimpArgs false
set_option linter.unusedSectionVars false
universe u
variable {P : Program} {E : Env P} {base : Nat} {r : Option Nat} {post : KV → List KRow → Prop} {tb : Nat → Option TI}

/-! Models that say what is yielded, and what comes out. -/
def yieldO {Y ρ : Type} (y : Y) (m : Option (List Y × ρ)) : Option (List Y × ρ) := m.bind fun q => some (y :: q.1, q.2)
def thenY {Y ρ τ : Type} (m : Option (List Y × ρ)) (k : ρ → Option (List Y × τ)) : Option (List Y × τ) := m.bind fun q => (k q.2).bind fun t => some (q.1 ++ t.1, t.2)
def loopY {Y σ ρ : Type} (step : σ → Option (List Y × (σ ⊕ ρ))) : Nat → σ → Option (List Y × ρ)
  | 0, _ => none
  | n + 1, s => match step s with
    | none => none
    | some (ys, .inr q) => some (ys, q)
    | some (ys, .inl s') => (loopY step n s').bind fun t => some (ys ++ t.1, t.2)
/-- What is still to be yielded: first zs, then ps. -/
def YS {σ : Type} {Y : Type} (V : List Y) (Inv : Nat → σ → Prop) (zs ps : List Y) (s : σ) : Prop := ∃ pre, V = pre ++ (zs ++ ps) ∧ Inv pre.length s
theorem thenY_of {Y ρ τ : Type} {m : Option (List Y × ρ)} {k : ρ → Option (List Y × τ)} {zs : List Y} {o : τ} (h : thenY m k = some (zs, o)) : ∃ ys q ts, m = some (ys, q) ∧ k q = some (ts, o) ∧ zs = ys ++ ts := by
  unfold thenY at h
  obtain ⟨⟨ys, q⟩, h1, h2⟩ := bind_of h
  obtain ⟨⟨ts, t⟩, h3, h4⟩ := bind_of h2
  cases h4
  exact ⟨ys, q, ts, h1, h3, rfl⟩
theorem Y_end {Y : Type} {en : Y → List KV} {V : List Y} {Inv : Nat → E.σ → Prop} {Fin : E.σ → Prop} (hTk : Takes E ((V.map en).map KV.toDL) Inv Fin) {ρ : Type} {x o : ρ} {zs : List Y} {s : E.σ} (h : some (([] : List Y), x) = some (zs, o)) (hy : YS V Inv zs [] s) : Fin s := by
  cases h
  obtain ⟨pre, h1, h2⟩ := hy
  refine hTk.done s ?_
  rw [List.length_map, List.length_map, h1]
  simpa using h2
theorem L_leafY {Y ρ : Type} {x o : ρ} {zs : List Y} (h : some (([] : List Y), x) = some (zs, o)) : zs = [] ∧ o = x := by cases h; exact ⟨rfl, rfl⟩
theorem L_yield {I : Prim E.σ} (hI : I = primK P E base r post) {Y β : Type} {en : Y → List KV} {V : List Y} {Inv : Nat → E.σ → Prop} {Fin : E.σ → Prop} (hTk : Takes E ((V.map en).map KV.toDL) Inv Fin) {y : Y} {m : Option (List Y × β)} {zs ps : List Y} {o : β} {s : E.σ} {xs : List KV} {K : Bool → E.σ → Prop}
    (h : yieldO y m = some (zs, o)) (hy : YS V Inv zs ps s) (he : KV.toDL xs = KV.toDL (en y)) (ht : ∀ zs' s', m = some (zs', o) → YS V Inv zs' ps s' → K true s') (hf : ∀ s', Fin s' → K false s') : I.Y s xs K := by
  unfold yieldO at h
  obtain ⟨⟨zs', o'⟩, h1, h2⟩ := bind_of h
  cases h2
  obtain ⟨pre, h3, h4⟩ := hy
  refine Y_take hI hTk pre.length (y := en y) ?_ he h4 (fun s' hs' => ht zs' s' h1 ⟨pre ++ [y], by rw [h3]; simp, by simpa using hs'⟩) hf
  rw [h3, List.getElem?_map]; simp
theorem L_loopY {Y σ ρ : Type} {I : Prim E.σ} (hI : I = primK P E base r post) (hT : SeatOk P tb) (pz : List Nat) {c : Code} (hdr : drawsOk c = true) {S : KSt} {s : E.σ} {Q : Exit → KSt → E.σ → Prop} {β : Type} {o : β} {zs ps V : List Y} {Inv : Nat → E.σ → Prop} {Fin : E.σ → Prop}
    {step : σ → Option (List Y × (σ ⊕ ρ))} {n : Nat} {s0 : σ} {k : ρ → Option (List Y × β)} (h : thenY (loopY step n s0) k = some (zs, o)) (hy : YS V Inv zs ps s) (st : σ → KSt) (ex : ρ → Exit) (sx : ρ → KSt) (eF : Exit) (hw : Weak S.st (st s0).st) (hx : ∀ q, ex q ≠ .normal) (hF : eF ≠ .normal)
    (round : ∀ (a : σ) (x : σ ⊕ ρ) (ys ps' : List Y) (s' : E.σ), step a = some (ys, x) → YS V Inv ys ps' s' → ∀ R : Exit → KSt → E.σ → Prop,
      (∀ S' a' s'', x = .inl a' → YS V Inv [] ps' s'' → Weak S'.st (st a').st → R .normal S' s'') → (∀ S' q s'', x = .inr q → YS V Inv [] ps' s'' → Weak S'.st (sx q).st → R (ex q) S' s'') → (∀ S' s'', Fin s'' → R eF S' s'') → wpK I tb pz c (st a) s' R)
    (hQ : ∀ q zs' s', k q = some (zs', o) → YS V Inv zs' ps s' → Q (ex q) (sx q) s') (hQF : ∀ S' s', Fin s' → Q eF S' s') : I.W (.loop c) S s Q := by
  subst hI
  obtain ⟨ys, q, ts, h1, h2, rfl⟩ := thenY_of h
  refine AW_weak hw (AW_loop (fun n S' s' => ∃ a ys, S' = (st a).st ∧ loopY step n a = some (ys, q) ∧ YS V Inv (ys ++ ts) ps s') n ⟨s0, ys, rfl, h1, hy⟩ ?_)
  rintro n S' s' ⟨a, ys, rfl, hl, hy⟩
  cases n with
  | zero => cases hl
  | succ n =>
    obtain ⟨y1, x, hxs⟩ : ∃ y1 x, step a = some (y1, x) := by
      cases hs : step a with
      | none => rw [loopY, hs] at hl; cases hl
      | some x => exact ⟨x.1, x.2, rfl⟩
    rw [loopY, hxs] at hl
    obtain ⟨y2, hy2, hyx⟩ : ∃ y2, ys = y1 ++ y2 ∧ (match x with | .inr q' => q' = q ∧ y2 = [] | .inl a' => loopY step n a' = some (y2, q)) := by
      cases x with
      | inr q' => cases hl; exact ⟨[], by simp, rfl, rfl⟩
      | inl a' =>
        obtain ⟨⟨y2, q2⟩, g1, g2⟩ := bind_of hl
        cases g2
        exact ⟨y2, rfl, g1⟩
    subst hy2
    rw [List.append_assoc] at hy
    have hy' : YS V Inv y1 (y2 ++ ts ++ ps) s' := by
      obtain ⟨pre, e1, e2⟩ := hy
      exact ⟨pre, by rw [e1]; simp, e2⟩
    refine AW_weakQ ((wpK_aw hT.mix hT.tab hdr (round a x y1 _ s' hxs hy' (fun e S2 s2 => (e = .normal ∧ ∃ a', x = .inl a' ∧ YS V Inv [] (y2 ++ ts ++ ps) s2 ∧ Weak S2.st (st a').st) ∨ (∃ q', x = .inr q' ∧ YS V Inv [] (y2 ++ ts ++ ps) s2 ∧ e = ex q' ∧ Weak S2.st (sx q').st) ∨ (e = eF ∧ Fin s2))
      (fun S' a' s'' e1 e2 e3 => .inl ⟨rfl, a', e1, e2, e3⟩) (fun S' q' s'' e1 e2 e3 => .inr (.inl ⟨q', e1, e2, rfl, e3⟩)) (fun S' s'' e1 => .inr (.inr ⟨rfl, e1⟩)))).mono ?_)
    rintro e S2 s2 ⟨S3, hw3, ⟨rfl, a', rfl, g1, hw4⟩ | ⟨q', rfl, g1, rfl, hw4⟩ | ⟨rfl, g1⟩⟩
    · refine ⟨(st a').st, hw3.trans hw4, n, (st a').st, Nat.lt_succ_self n, Weak.refl _, a', y2, rfl, hyx, ?_⟩
      obtain ⟨pre, e1, e2⟩ := g1
      exact ⟨pre, by rw [e1]; simp, e2⟩
    · obtain ⟨rfl, rfl⟩ := hyx
      refine ⟨(sx q').st, hw3.trans hw4, ?_⟩
      have := KQ_of (Q := Q) (hQ q' ts s2 h2 (by
        obtain ⟨pre, e1, e2⟩ := g1
        exact ⟨pre, by rw [e1]; simp, e2⟩))
      cases he : ex q' with
      | normal => exact absurd he (hx q')
      | _ => rw [he] at this; exact this
    · refine ⟨S3.st, hw3, ?_⟩
      have := KQ_of (Q := Q) (hQF S3 s2 g1)
      cases he : e with
      | normal => exact absurd he hF
      | _ => rw [he] at this; exact this
/-- An iterator, beside its model. -/
theorem iter_l {f : Nat} {fn : Func} {c : Code} {caps : List KV} {Y : Type} {en : Y → List KV} {V : List Y} (pz : List Nat) (hT : SeatOk P tb) (hf : P.funcs[f]? = some fn) (hb : fn.body = some c) (hent : Ent P f) (hdr : drawsOk c = true) (hn : Nat.ble (lenK caps + 1) fn.ntmps = true) (ha : okArgs caps = true) (hres : fn.results = #[])
    (h : ∀ (E : Env P) (Inv : Nat → E.σ → Prop) (Fin : E.σ → Prop), Takes E ((V.map en).map KV.toDL) Inv Fin → ∀ (base : Nat) (s : E.σ), YS V Inv V [] s → ∀ I, I = primK P E base none (fun _ _ => False) → wpK I tb pz c (KSY fn.ntmps caps) s (finK Fin)) : IterCon P f (KV.toDL caps) ((V.map en).map KV.toDL) :=
  iter_k pz hT hf hb hent hdr hn ha hres fun E Inv Fin hTk base s h0 I hI => h E Inv Fin hTk base s ⟨[], by simp, h0⟩ I hI
end Go.Proofs.Ytgefdljjhmjdaaa.Aw
