/- Part 4 of the proof: lemmas. -/
import Derived.Test.YtnekemldcjegaaaM3
import Derived.Test.YtnekemldcjegaaaProg
import Derived.KernelRfl
import Derived.Deep.Slices
import Derived.ProofKit

/- The logic of abstract walks, part M6: contracts by evaluation; loops; calls. -/
namespace Go.Proofs.Ytnekemldcjegaaa.Aw
open Go Go.RowKit
set_option linter.unusedVariables false
set_option linter.unusedSimpArgs false
universe u
variable {P : Program} {E : Env P} {base : Nat} {r : Option Nat} {post : KV → List KRow → Prop} {tb : Nat → Option TI} {pz : List Nat}
/-- What is known of a seat's program. -/
structure SeatOk (P : Program) (tb : Nat → Option TI) : Prop where
  tab : ∀ t i, tb t = some i → TIOk P t i
  mix : P.follows .mixedOrders = true
def resK (tb : Nat → Option TI) (S : KSt) : ResultVar → Option KV
  | .tmp t => lk S.T t
  | .cell ad t => match lk S.T ad with
    | some (.loc b off) => match lk S.H b with
      | some B => match tb t with
        | some i => match i.ag with
          | false => nth B.cells off
          | true => match Nat.ble (off + i.sz) (lenK B.cells) with
            | true => some (.agg (takeK i.sz (dropK off B.cells)))
            | false => none
        | none => none
      | none => none
    | _ => none
def resKL (tb : Nat → Option TI) (S : KSt) : List ResultVar → Option (List KV)
  | [] => some []
  | x :: r => match resK tb S x with
    | some c => match resKL tb S r with
      | some l => some (c :: l)
      | none => none
    | none => none
theorem resK_spec (hT : ∀ t i, tb t = some i → TIOk P t i) {S : KSt} {x : ResultVar} {c : KV} (h : resK tb S x = some c) : resV P S.st x = some c.av := by
  cases x with
  | tmp t => simp only [resK] at h; simp only [resV, st_look, h, Option.map_some]
  | cell ad t =>
    simp only [resK] at h
    split at h
    · rename_i b off h1
      split at h
      · rename_i B h2
        split at h
        · rename_i i h3
          have hi := hT _ _ h3
          simp only [resV, st_look, h1, Option.map_some, KV.av, st_lookH, h2, hi.ag]
          cases hag : i.ag with
          | false =>
            rw [hag] at h
            simp only [show B.blk.cells = KV.avL B.cells from rfl, nth_avL, h, Option.map_some]
          | true =>
            rw [hag] at h
            simp only [hi.sz, show B.blk.cells = KV.avL B.cells from rfl, avL_len]
            simp only at h
            split at h
            · rename_i hb
              cases h
              rw [if_pos hb, avL_drop, avL_take]; rfl
            · cases h
        · cases h
      · cases h
    · cases h
theorem resKL_spec (hT : ∀ t i, tb t = some i → TIOk P t i) {S : KSt} : ∀ {l : List ResultVar} {cs : List KV}, resKL tb S l = some cs → resVL P S.st l = some (KV.avL cs)
  | [], cs, h => by simp [resKL] at h; subst h; rfl
  | x :: r, cs, h => by
    simp only [resKL] at h
    cases h1 : resK tb S x with
    | none => rw [h1] at h; cases h
    | some c =>
      cases h2 : resKL tb S r with
      | none => rw [h1, h2] at h; cases h
      | some l =>
        rw [h1, h2] at h
        simp only [Option.some.injEq] at h; subst h
        simp only [resVL, resK_spec hT h1, resKL_spec hT h2, KV.avL]
def oneK : List KV → KV
  | [c] => c
  | cs => .tup cs
theorem oneK_spec (cs : List KV) : (oneK cs).av = oneOf (KV.avL cs) := by
  cases cs with
  | nil => rfl
  | cons c r => cases r <;> rfl
def idxK' (n : Nat) : List Nat → Nat → Option Nat
  | [], _ => none
  | k :: r, i => match Nat.beq k n with
    | true => some i
    | false => idxK' n r (i + 1)
theorem idxK'_spec {n : Nat} : ∀ {l : List Nat} {i : Nat}, idxK' n l i = idxN n l i
  | [], _ => rfl
  | k :: r, i => by
    simp only [idxK', idxN]
    by_cases e : k = n
    · subst e; simp
    · have : Nat.beq k n = false := by cases h : Nat.beq k n with
        | false => rfl
        | true => exact absurd (Nat.eq_of_beq_eq_true h) e
      simp [this, e, idxK'_spec (l := r)]
def lessK (ids : List Nat) : List (Nat × KRow) → List (Nat × KRow)
  | [] => []
  | (k, R) :: r => match memN k ids with
    | true => lessK ids r
    | false => (k, R) :: lessK ids r
theorem lessK_spec (ids : List Nat) : ∀ (O : List (Nat × KRow)), mapO (lessK ids O) = (mapO O).filter fun p => !memN p.1 ids
  | [] => rfl
  | (k, R) :: r => by
    simp only [lessK, mapO, List.filter_cons]
    cases memN k ids <;> simp [mapO, lessK_spec ids r]
def KSt.less (S : KSt) (ids : List Nat) : KSt := ⟨S.n, S.T, S.H, lessK ids S.O, S.low⟩
theorem KSt.less_st (S : KSt) (ids : List Nat) : (S.less ids).st = lessO S.st ids := by simp only [KSt.less, KSt.st, lessO, lessK_spec]
def ret1K (ids : List Nat) (S : KSt) (c : KV) : Option KV := match c with
  | .osl id => match idxK' id ids 0 with
    | some i => some (.osl i)
    | none => snapK true (S.less ids) 8 (.osl id)
  | .agg _ => none
  | .fn f cs => snapK true (S.less ids) 8 (.fn f cs)
  | .loc b off => snapK true (S.less ids) 8 (.loc b off)
  | c => match c.isD with
    | true => some c
    | false => none
def snapped (c : KV) : Bool := c.isD
theorem snapped_av {v : KV} (h : snapped v = true) : v.av = .d v.toD := by
  exact KV.isD_av h
theorem rowKV_snapped (R : KRow) : snapped (rowKV R) = true := by
  unfold rowKV
  split <;> rfl
theorem rowSn_snapped {R : KRow} {v : KV} (h : rowSn R = some v) : snapped v = true := by
  unfold rowSn at h
  split at h
  · cases h; exact rowKV_snapped R
  · split at h
    · cases h
      unfold mapKV
      split <;> rfl
    · cases h
theorem snapK_noagg {lv : Bool} {S : KSt} {n : Nat} {c v : KV} (h : snapK lv S n c = some v) (hc : ∀ l, c ≠ .agg l) : snapped v = true := by
  cases n with
  | zero => simp [snapK] at h
  | succ n =>
    unfold snapK at h
    split at h
    · exact absurd rfl (hc _)
    · obtain ⟨vs, _, rfl⟩ := omap_spec h; rfl
    · split at h
      · split at h
        · obtain ⟨vs, _, rfl⟩ := omap_spec h; rfl
        · cases h
      · cases h
    · split at h
      · split at h
        · exact rowSn_snapped h
        · cases h
      · cases h
    · cases h; rfl
    · cases h; rfl
    · cases h; rfl
    · split at h
      · rename_i hd
        cases h
        exact hd
      · cases h
theorem ret1K_spec {ids : List Nat} {S : KSt} {c v : KV} (h : ret1K ids S c = some v) : ret1 ids S.st c.av = some v.av := by
  have main : ∀ c : KV, (∀ l, c ≠ .agg l) → snapK true (S.less ids) 8 c = some v → (snap true (lessO S.st ids) 8 c.av).map .d = some v.av := fun c hc h => by
    have := snapK_spec 8 c v h
    rw [KSt.less_st] at this
    rw [this, snapped_av (snapK_noagg h hc)]; rfl
  have dd : ∀ c : KV, c.isD = true → some c = some v → ret1 ids S.st c.av = some v.av := fun c hd e => by
    cases e
    have hav := KV.isD_av hd
    have hag := KV.isD_agg hd
    rw [hav]
    unfold ret1
    simp only
    have : snap true (lessO S.st ids) 8 (.d v.toD) = some v.toD := by
      cases hx : v.toD with
      | agg l => exact absurd hx (hag l)
      | _ => rfl
    rw [this]; rfl
  unfold ret1K at h
  split at h
  · rename_i id
    rw [idxK'_spec] at h
    simp only [KV.av, ret1]
    split at h
    · rename_i i hi
      rw [hi]
      cases h; rfl
    · rename_i hi
      rw [hi]
      exact main (.osl id) (fun l e => by cases e) h
  · cases h
  · exact main _ (fun l e => by cases e) h
  · exact main _ (fun l e => by cases e) h
  · split at h
    · rename_i hd; exact dd _ hd h
    · cases h
def ret1KL (ids : List Nat) (S : KSt) : List KV → Option (List KV)
  | [] => some []
  | c :: r => match ret1K ids S c with
    | some x => match ret1KL ids S r with
      | some l => some (x :: l)
      | none => none
    | none => none
theorem ret1KL_spec {ids : List Nat} {S : KSt} : ∀ {cs vs : List KV}, ret1KL ids S cs = some vs → ret1L ids S.st (KV.avL cs) = some (KV.avL vs)
  | [], vs, h => by simp [ret1KL] at h; subst h; rfl
  | c :: r, vs, h => by
    simp only [ret1KL] at h
    cases h1 : ret1K ids S c with
    | none => rw [h1] at h; cases h
    | some v =>
      cases h2 : ret1KL ids S r with
      | none => rw [h1, h2] at h; cases h
      | some l =>
        rw [h1, h2] at h
        simp only [Option.some.injEq] at h; subst h
        simp only [KV.avL, ret1L, ret1K_spec h1, ret1KL_spec h2]
def ret2K (ids : List Nat) (S : KSt) (c : KV) : Option KV := match c with
  | .agg cs => omap (ret1KL ids S cs) .agg
  | c => ret1K ids S c
theorem ret2K_spec {ids : List Nat} {S : KSt} {c v : KV} (h : ret2K ids S c = some v) : ret2 ids S.st c.av = some v.av := by
  unfold ret2K at h
  split at h
  · obtain ⟨l, h1, rfl⟩ := omap_spec h
    simp only [KV.av, ret2, ret1KL_spec h1, Option.map_some]
  · rename_i hc
    have := ret1K_spec h
    cases c <;> first | exact absurd rfl (hc _) | exact this
def ret2KL (ids : List Nat) (S : KSt) : List KV → Option (List KV)
  | [] => some []
  | c :: r => match ret2K ids S c with
    | some x => match ret2KL ids S r with
      | some l => some (x :: l)
      | none => none
    | none => none
theorem ret2KL_spec {ids : List Nat} {S : KSt} : ∀ {cs vs : List KV}, ret2KL ids S cs = some vs → ret2L ids S.st (KV.avL cs) = some (KV.avL vs)
  | [], vs, h => by simp [ret2KL] at h; subst h; rfl
  | c :: r, vs, h => by
    simp only [ret2KL] at h
    cases h1 : ret2K ids S c with
    | none => rw [h1] at h; cases h
    | some v =>
      cases h2 : ret2KL ids S r with
      | none => rw [h1, h2] at h; cases h
      | some l =>
        rw [h1, h2] at h
        simp only [Option.some.injEq] at h; subst h
        simp only [KV.avL, ret2L, ret2K_spec h1, ret2KL_spec h2]
def ret3K (ids : List Nat) (S : KSt) (c : KV) : Option KV := match c with
  | .tup cs => omap (ret2KL ids S cs) .tup
  | c => ret2K ids S c
theorem ret3K_spec {ids : List Nat} {S : KSt} {c v : KV} (h : ret3K ids S c = some v) : ret3 ids S.st c.av = some v.av := by
  unfold ret3K at h
  split at h
  · obtain ⟨l, h1, rfl⟩ := omap_spec h
    simp only [KV.av, ret3, ret2KL_spec h1, Option.map_some]
  · rename_i hc
    have := ret2K_spec h
    cases c <;> first | exact absurd rfl (hc _) | exact this
def rowsOfK (S : KSt) : List Nat → Option (List KRow)
  | [] => some []
  | id :: r => match lk S.O id with
    | some R => match R.live with
      | true => match rowsOfK S r with
        | some l => some (R :: l)
        | none => none
      | false => none
    | none => none
theorem rowsOfK_spec {S : KSt} : ∀ {ids : List Nat} {rows : List KRow}, rowsOfK S ids = some rows → rowsOf S.st ids = some (rows.map KRow.row)
  | [], rows, h => by simp [rowsOfK] at h; subst h; rfl
  | id :: r, rows, h => by
    simp only [rowsOfK] at h
    split at h
    · rename_i R hR
      split at h
      · rename_i hl
        split at h
        · rename_i l h2
          cases h
          have : R.row.live = true := hl
          simp only [rowsOf, st_lookO, hR, Option.map_some, rowsOfK_spec h2, this, if_true, List.map_cons]
        · cases h
      · cases h
    · cases h
/-- The end of a function. -/
def retKQ {σ : Type} (I : Prim σ) (tb : Nat → Option TI) (rs : List ResultVar) (ids : List Nat) (e : Exit) (S : KSt) (s : σ) : Prop :=
  match (match e with | .normal => true | .ret => true | _ => false) with
  | true => kk (resKL tb S rs) fun cs => kk (ret3K ids S (oneK cs)) fun v => kk (rowsOfK S ids) fun rows => I.post v rows
  | false => False
def okArg : KV → Bool
  | .agg cs => allD cs
  | c => c.isD
def okArgs : List KV → Bool
  | [] => true
  | c :: r => okArg c && okArgs r
theorem okArg_av {c : KV} (h : okArg c = true) : toAV c.toD = c.av := by
  unfold okArg at h
  split at h
  · simp only [KV.toD, toAV, KV.av, allD_av h]
  · rw [KV.isD_av h]
    have := KV.isD_agg h
    cases hx : c.toD with
    | agg l => exact absurd hx (this l)
    | _ => rfl
def argK : Nat → List KV → List (Nat × KV)
  | _, [] => []
  | i, c :: r => (i, c) :: argK (i + 1) r
theorem argK_spec : ∀ {args : List KV} {i : Nat}, okArgs args = true → mapT (argK i args) = argT i (KV.toDL args)
  | [], _, _ => rfl
  | c :: q, i, h => by
    simp only [okArgs, Bool.and_eq_true] at h
    simp only [argK, mapT, KV.toDL, argT, okArg_av h.1, argK_spec h.2]
def KS0 (n : Nat) (args : List KV) : KSt := ⟨n, argK 0 args, [], [], 0⟩
/-- A contract, for evaluation. -/
def KC (P : Program) (f : Nat) (args : List KV) (res : KV) (rows : List KRow) : Prop := Con P f (KV.toDL args) res.av (rows.map KRow.row)
def endK (res : KV) (rows : List KRow) : KV → List KRow → Prop := fun v rs => v.av = res.av ∧ rs.map KRow.row = rows.map KRow.row
theorem con_k {f : Nat} {fn : Func} {c : Code} {args : List KV} {res : KV} {rows : List KRow} (ids : List Nat) (pz : List Nat) (hT : SeatOk P tb) (hf : P.funcs[f]? = some fn) (hb : fn.body = some c) (hent : Ent P f)
    (hdr : drawsOk c = true) (hn : Nat.ble (lenK args) fn.ntmps = true) (ha : okArgs args = true) (hid : ids.Nodup)
    (h : ∀ base I, I = primK P (noEnv P) base none (endK res rows) → wpK I tb pz c (KS0 fn.ntmps args) () (retKQ I tb fn.results.toList ids)) : KC P f args res rows := by
  refine con_intro hf hb hent (by rw [toDL_len]; exact hn) fun base => ?_
  have := wpK_aw hT.mix hT.tab hdr (h base _ rfl)
  rw [show (KS0 fn.ntmps args).st = S0 fn.ntmps (KV.toDL args) from by simp only [KS0, KSt.st, S0, argK_spec ha]; rfl] at this
  refine AW_weakQ (this.mono ?_)
  rintro e S s ⟨S', hw, hq⟩
  refine ⟨S'.st, hw, ?_⟩
  unfold retKQ at hq
  split at hq
  · rename_i he
    replace hq := kk_spec hq; obtain ⟨cs, h1, hq⟩ := hq
    replace hq := kk_spec hq; obtain ⟨v, h2, hq⟩ := hq
    replace hq := kk_spec hq; obtain ⟨rs, h3, hq⟩ := hq
    obtain ⟨e1, e2⟩ := (hq : v.av = res.av ∧ rs.map KRow.row = rows.map KRow.row)
    refine ⟨?_, KV.avL cs, ids, resKL_spec hT.tab h1, ?_, ?_, hid⟩
    · cases e <;> first | exact .inl rfl | exact .inr rfl | cases he
    · rw [← oneK_spec, ret3K_spec h2, e1]
    · rw [rowsOfK_spec h3, e2]
  · exact hq.elim
/-! What one state says, the other one says, too. -/
def eqT (T : List (Nat × KV)) : List (Nat × KV) → Prop
  | [] => True
  | (t, c) :: r => (match lk T t with | some v => v.av = c.av | none => False) ∧ eqT T r
def eqH (T : List (Nat × KBlk)) : List (Nat × KBlk) → Prop
  | [] => True
  | (t, c) :: r => (match lk T t with | some v => v.blk = c.blk | none => False) ∧ eqH T r
def eqO (T : List (Nat × KRow)) : List (Nat × KRow) → Prop
  | [] => True
  | (t, c) :: r => (match lk T t with | some v => v.row = c.row | none => False) ∧ eqO T r
theorem eqT_spec {T : List (Nat × KV)} : ∀ {T' : List (Nat × KV)}, eqT T T' → subT (mapT T) (mapT T')
  | [], _ => trivial
  | (t, c) :: q, h => by
    refine ⟨?_, eqT_spec h.2⟩
    have := h.1
    split at this
    · rename_i v hv; rw [look_mapT, hv, Option.map_some, this]
    · exact this.elim
theorem eqH_spec {T : List (Nat × KBlk)} : ∀ {T' : List (Nat × KBlk)}, eqH T T' → subH (mapH T) (mapH T')
  | [], _ => trivial
  | (t, c) :: q, h => by
    refine ⟨?_, eqH_spec h.2⟩
    have := h.1
    split at this
    · rename_i v hv; rw [look_mapH, hv, Option.map_some, this]
    · exact this.elim
theorem eqO_spec {T : List (Nat × KRow)} : ∀ {T' : List (Nat × KRow)}, eqO T T' → subO (mapO T) (mapO T')
  | [], _ => trivial
  | (t, c) :: q, h => by
    refine ⟨?_, eqO_spec h.2⟩
    have := h.1
    split at this
    · rename_i v hv; rw [look_mapO, hv, Option.map_some, this]
    · exact this.elim
theorem weak_k {S S' : KSt} (hn : S'.n = S.n) (hl : S.low = S'.low) (hT : eqT S.T S'.T) (hH : eqH S.H S'.H) (hO : eqO S.O S'.O) : Weak S.st S'.st :=
  weak_of hn hl (eqT_spec hT) (eqH_spec hH) (eqO_spec hO)
/-- As weak_k, once some rows are frozen. -/
theorem weak_f (ids : List Nat) {S S' : KSt} (h : Weak ((ids.foldl (fun S id => frzK id S) S)).st S'.st) : Weak S.st S'.st := by
  refine Weak.trans ?_ h
  clear h
  induction ids generalizing S with
  | nil => exact Weak.refl _
  | cons i q ih => exact (frzK_keeps i S).1.trans ih
/-- A loop; at its head the state is 'st a' for some a with 'inv a s', and 'm a' falls. -/
theorem W_loop {A : Type u} {I : Prim E.σ} (hI : I = primK P E base r post) (hT : SeatOk P tb) (pz : List Nat) {c : Code} (hdr : drawsOk c = true) {S : KSt} {s : E.σ} {Q : Exit → KSt → E.σ → Prop} (m : A → Nat) (st : A → KSt) (inv : A → E.σ → Prop) (a0 : A)
    (hw : Weak S.st (st a0).st) (h0 : inv a0 s) (round : ∀ a s, inv a s → ∀ R : KSt → E.σ → Prop, (∀ S' s' a', m a' < m a → Weak S'.st (st a').st → inv a' s' → R S' s') → wpK I tb pz c (st a) s (thenK R Q)) : I.W (.loop c) S s Q := by
  subst hI
  refine AW_weak hw (AW_loop (fun k S s => ∃ a, S = (st a).st ∧ k = m a ∧ inv a s) (m a0) ⟨a0, rfl, rfl, h0⟩ ?_)
  rintro k S s ⟨a, rfl, rfl, h1⟩
  refine AW_weakQ ((wpK_aw hT.mix hT.tab hdr (round a s h1 (fun S' s' => ∃ a', m a' < m a ∧ Weak S'.st (st a').st ∧ inv a' s') (fun S' s' a' h1 h2 h3 => ⟨a', h1, h2, h3⟩))).mono ?_)
  rintro e S2 s2 ⟨S3, hw3, hq⟩
  refine ⟨S3.st, hw3, ?_⟩
  cases e with
  | normal =>
    obtain ⟨a', hk, hw4, h4⟩ := hq
    exact ⟨m a', (st a').st, hk, hw4, a', rfl, rfl, h4⟩
  | _ => exact KQ_of hq
theorem C_call {I : Prim E.σ} (hI : I = primK P E base r post) {g : Nat} {args args' : List KV} {res : KV} {rows : List KRow} {K : KV → List KRow → Prop} (h : KC P g args' res rows) (ha : KV.toDL args = KV.toDL args') (k : K res rows) : I.C g args K := by
  subst hI
  refine ⟨res, rows, ?_, k⟩
  rw [ha]; exact h
theorem C_call' {I : Prim E.σ} (hI : I = primK P E base r post) {g : Nat} {args : List KV} {res : KV} {rows : List KRow} {K : KV → List KRow → Prop} (h : KC P g args res rows) (k : K res rows) : I.C g args K := C_call hI h rfl k
/-- A call, whose result gets a name. -/
theorem C_val {α : Type u} {I : Prim E.σ} (hI : I = primK P E base r post) (f : α → KV) {g : Nat} {args args' : List KV} {a : α} {K : KV → List KRow → Prop} (h : KC P g args' (f a) []) (ha : KV.toDL args = KV.toDL args') (k : ∀ v, v = a → K (f v) []) : I.C g args K :=
  C_call hI h ha (k a rfl)
theorem C_bool {I : Prim E.σ} (hI : I = primK P E base r post) {g : Nat} {args args' : List KV} {a : Bool} {K : KV → List KRow → Prop} (h : KC P g args' (.bool a) []) (ha : KV.toDL args = KV.toDL args') (k : ∀ v, v = a → K (.bool v) []) : I.C g args K :=
  C_call hI h ha (k a rfl)
theorem C_int {I : Prim E.σ} (hI : I = primK P E base r post) {g : Nat} {args args' : List KV} {i : IntKind} {a : Int} {K : KV → List KRow → Prop} (h : KC P g args' (.int i a) []) (ha : KV.toDL args = KV.toDL args') (k : ∀ v, v = a → K (.int i v) []) : I.C g args K :=
  C_call hI h ha (k a rfl)
theorem CD_call {I : Prim E.σ} (hI : I = primK P E base r post) {g : Nat} {args : List KV} {ds xs : List D} {res : KV} {rows : List KRow} {K : KV → List KRow → Prop} (h : Con P g xs res.av (rows.map KRow.row)) (ha : KV.toDL args ++ ds = xs) (k : K res rows) : I.CD g args ds K := by
  subst hI
  subst ha
  exact ⟨res, rows, h, k⟩
theorem K_tst {I : Prim E.σ} (hI : I = primK P E base r post) {b : Bool} {A B : Prop} (h1 : b = true → A) (h2 : b = false → B) : I.tst b A B := by
  subst hI; exact ⟨h1, h2⟩
theorem K_conj {I : Prim E.σ} (hI : I = primK P E base r post) {A B : Prop} (h1 : A) (h2 : B) : I.conj A B := by
  subst hI; exact ⟨h1, h2⟩
theorem av_int {k : IntKind} {a b : Int} (h : a = b) : KV.av (.int k a) = KV.av (.int k b) := by rw [h]
theorem av_bool {a b : Bool} (h : a = b) : KV.av (.bool a) = KV.av (.bool b) := by rw [h]
/-- The small rules by which a test's condition is read. -/
theorem EVB : (∀ a b : D, (AV.d a = AV.d b) = (a = b)) ∧ (∀ a b : List AV, (AV.agg a = AV.agg b) = (a = b)) ∧ (∀ a b : List AV, (AV.tup a = AV.tup b) = (a = b)) ∧
    (∀ (k k' : IntKind) (n n' : Int), (D.int k n = D.int k' n') = (k = k' ∧ n = n')) ∧ (∀ a b : Bool, (D.bool a = D.bool b) = (a = b)) ∧
    (∀ (a b : AV) (r s : List AV), (a :: r = b :: s) = (a = b ∧ r = s)) ∧ (∀ n : Nat, n + 0 = n) ∧ (∀ p : Prop, (True ∧ p) = p) ∧ (∀ p : Prop, (p ∧ True) = p) ∧
    (∀ (p : Prop) [Decidable p], (decide p = true) = p) ∧ (∀ (p : Prop) [Decidable p], (decide p = false) = ¬ p) ∧ (∀ b : Bool, ((!b) = true) = (b = false)) ∧ (∀ b : Bool, ((!b) = false) = (b = true)) ∧
    (∀ p : Prop, (True → p) = p) ∧ (∀ p : Prop, (False → p) = True) ∧ (∀ n : Nat, Int.ofNat n = (n : Int)) ∧ (((0 : Nat) : Int) = 0) :=
  ⟨fun _ _ => by simp, fun _ _ => by simp, fun _ _ => by simp, fun _ _ _ _ => by simp, fun _ _ => by simp, fun _ _ _ _ => by simp, fun _ => rfl, fun _ => by simp, fun _ => by simp,
    fun _ _ => by simp, fun _ _ => by simp, fun _ => by simp, fun _ => by simp, fun _ => by simp, fun _ => by simp, fun _ => rfl, rfl⟩
end Go.Proofs.Ytnekemldcjegaaa.Aw

/- The logic of abstract walks, part M7: iterators and loops over them, by evaluation. -/
namespace Go.Proofs.Ytnekemldcjegaaa.Aw
open Go Go.RowKit
set_option linter.unusedVariables false
set_option linter.unusedSimpArgs false
universe u
variable {P : Program} {E : Env P} {base : Nat} {r : Option Nat} {post : KV → List KRow → Prop} {tb : Nat → Option TI}
def KSY (n : Nat) (caps : List KV) : KSt := ⟨n, (0, .yld) :: argK 1 caps, [], [], 0⟩
def finK {σ : Type} (Fin : σ → Prop) (e : Exit) (S : KSt) (s : σ) : Prop := match (match e with | .normal => true | .ret => true | _ => false) with
  | true => Fin s
  | false => False
/-- An iterator's contract, for evaluation. -/
def KI (P : Program) (f : Nat) (caps : List KV) (ys : List (List KV)) : Prop := IterCon P f (KV.toDL caps) (ys.map KV.toDL)
theorem iter_k {f : Nat} {fn : Func} {c : Code} {caps : List KV} {ys : List (List KV)} (pz : List Nat) (hT : SeatOk P tb) (hf : P.funcs[f]? = some fn) (hb : fn.body = some c) (hent : Ent P f) (hdr : drawsOk c = true) (hn : Nat.ble (lenK caps + 1) fn.ntmps = true) (ha : okArgs caps = true) (hres : fn.results = #[])
    (h : ∀ (E : Env P) (Inv : Nat → E.σ → Prop) (Fin : E.σ → Prop), Takes E (ys.map KV.toDL) Inv Fin → ∀ (base : Nat) (s : E.σ), Inv 0 s → ∀ I, I = primK P E base none (fun _ _ => False) → wpK I tb pz c (KSY fn.ntmps caps) s (finK Fin)) : KI P f caps ys := by
  refine iter_intro hf hb hent (by rw [toDL_len]; exact hn) hres fun E Inv Fin hT' base s h0 => ?_
  have := wpK_aw hT.mix hT.tab hdr (h E Inv Fin hT' base s h0 _ rfl)
  rw [show (KSY fn.ntmps caps).st = SY fn.ntmps (KV.toDL caps) from by simp only [KSY, KSt.st, SY, mapT, argK_spec ha]; rfl] at this
  refine this.mono ?_
  rintro e S s' ⟨S', hw, hq⟩
  unfold finK at hq
  split at hq
  · rename_i he
    refine ⟨?_, hq⟩
    cases e <;> first | exact .inl rfl | exact .inr rfl | cases he
  · exact hq.elim
theorem Y_take {I : Prim E.σ} (hI : I = primK P E base r post) {ys : List (List KV)} {Inv : Nat → E.σ → Prop} {Fin : E.σ → Prop} (hT : Takes E (ys.map KV.toDL) Inv Fin) {s : E.σ} {xs y : List KV} {K : Bool → E.σ → Prop} (i : Nat) (hi : ys[i]? = some y) (hy : KV.toDL xs = KV.toDL y) (h0 : Inv i s)
    (ht : ∀ s', Inv (i + 1) s' → K true s') (hf : ∀ s', Fin s' → K false s') : I.Y s xs K := by
  subst hI
  have hg : (ys.map KV.toDL)[i]? = some (KV.toDL xs) := by rw [List.getElem?_map, hi, hy]; rfl
  refine ⟨hT.next i _ s hg h0, fun s' b hb => ?_⟩
  obtain ⟨h1, h2⟩ := hT.out i _ s s' b hg h0 hb
  cases b with
  | true => exact ht s' (h1 rfl)
  | false => exact hf s' (h2 rfl)
def putPK : List Nat → List KV → List (Nat × KV) → List (Nat × KV)
  | p :: ps, x :: xs, T => putPK ps xs ((p, x) :: T)
  | _, _, T => T
theorem putPs_leq : ∀ {ps : List Nat} {xs : List D} {T T' : List (Nat × AV)}, (∀ t, look T t = look T' t) → ∀ t, look (putPs ps xs T) t = look (putPs ps xs T') t
  | [], _, T, T', h, t => by simpa [putPs] using h t
  | p :: ps, [], T, T', h, t => by simpa [putPs] using h t
  | p :: ps, x :: xs, T, T', h, t => by
    simp only [putPs]
    exact putPs_leq (fun u => by rw [look_setT, look_setT, h u]) t
theorem putPK_spec : ∀ {ps : List Nat} {xs : List KV} {T : List (Nat × KV)}, okArgs xs = true → ∀ t, look (mapT (putPK ps xs T)) t = look (putPs ps (KV.toDL xs) (mapT T)) t
  | [], xs, T, _, t => by cases xs <;> rfl
  | p :: ps, [], T, _, t => rfl
  | p :: ps, x :: xs, T, h, t => by
    simp only [okArgs, Bool.and_eq_true] at h
    simp only [putPK, KV.toDL, putPs]
    rw [putPK_spec h.2]
    refine putPs_leq (fun u => ?_) t
    simp only [mapT, look, look_setT, okArg_av h.1]
mutual
def KV.calm (N : Nat) : KV → Bool
  | .agg cs => KV.calmL N cs
  | .tup cs => KV.calmL N cs
  | .fn _ cs => KV.calmL N cs
  | .loc b _ => Nat.blt b N
  | .osl _ => false
  | .oloc _ _ _ _ => false
  | _ => true
def KV.calmL (N : Nat) : List KV → Bool
  | [] => true
  | c :: r => match c.calm N with
    | true => KV.calmL N r
    | false => false
end
mutual
theorem calm_av (N : Nat) : ∀ (c : KV), c.av.calm N = c.calm N
  | .agg cs => by simp only [KV.av, AV.calm, KV.calm, calmL_av N cs]
  | .tup cs => by simp only [KV.av, AV.calm, KV.calm, calmL_av N cs]
  | .fn _ cs => by simp only [KV.av, AV.calm, KV.calm, calmL_av N cs]
  | .loc _ _ => rfl
  | .osl _ => rfl
  | .oloc _ _ _ _ => rfl
  | .any | .int _ _ | .lit _ _ | .bool _ | .tt | .ff | .str _ | .dfn _ _ | .nilfn | .nilsl | .nilmap | .nilptr | .ptr _ | .sl _ _ _ _ _ _ | .slr _ _ _ | .mp _ _ _ _ | .d _ | .yld => by simp only [KV.av, AV.calm, KV.calm]
theorem calmL_av (N : Nat) : ∀ (cs : List KV), AV.calmL N (KV.avL cs) = KV.calmL N cs
  | [] => rfl
  | c :: r => by
    simp only [KV.avL, AV.calmL, KV.calmL, calm_av N c, calmL_av N r]
    cases c.calm N <;> simp
end
def calmTK (N : Nat) : List (Nat × KV) → Bool
  | [] => true
  | (_, c) :: r => match c.calm N with
    | true => calmTK N r
    | false => false
theorem calmTK_spec {N : Nat} : ∀ (T : List (Nat × KV)), calmT N (mapT T) = calmTK N T
  | [] => rfl
  | (t, c) :: r => by
    simp only [mapT, calmT, calmTK, calm_av, calmTK_spec r]
    cases c.calm N <;> simp
/-- The state with other boxes and rows. -/
def KSt.ho (S : KSt) (x : List (Nat × KBlk) × List (Nat × KRow)) : KSt := ⟨S.n, S.T, x.1, x.2, S.low⟩
def roundK {A : Type u} {σ : Type} (hs : A → List (Nat × KBlk) × List (Nat × KRow)) (inv : A → σ → Prop) (jx : Exit → A → σ → Prop) (e : Exit) (S : KSt) (s : σ) : Prop := match e with
  | .panic _ => False
  | .outgrown => False
  | .normal => ∃ a, eqH S.H (hs a).1 ∧ eqO S.O (hs a).2 ∧ inv a s
  | e => ∃ a, eqH S.H (hs a).1 ∧ eqO S.O (hs a).2 ∧ jx e a s
def assignK {σ : Type} (K : KSt → σ → Prop) (e : Exit) (S : KSt) (s : σ) : Prop := match e with
  | .normal => K S s
  | _ => False
/-- What is known to range over: the function and what it has captured. -/
def rangeArg (S : KSt) (g : Operand) : Option (Nat × List D) := match kop S.T g with
  | some (.d (.fn f ds)) => some (f, ds)
  | some fv => match fnK fv with
    | some (f, cs) => match mapK (snapK false S 8) cs with
      | some caps => some (f, KV.toDL caps)
      | none => none
    | none => none
  | none => none
theorem rangeArg_spec {S : KSt} {g : Operand} {f : Nat} {ds : List D} (h : rangeArg S g = some (f, ds)) (hna : noAggD ds = true) : ∃ fv caps, opnd S.st.T g = some fv ∧ fnOf fv = some (f, caps) ∧ snapL false S.st caps = some ds := by
  unfold rangeArg at h
  split at h
  · rename_i f' ds' h1
    simp only [Option.some.injEq, Prod.mk.injEq] at h
    obtain ⟨rfl, rfl⟩ := h
    exact ⟨_, _, kop_st h1, rfl, snapL_app (cs := []) (xs := []) rfl hna⟩
  · rename_i fv _ h1
    split at h
    · rename_i f' cs h2
      split at h
      · rename_i caps0 h3
        simp only [Option.some.injEq, Prod.mk.injEq] at h
        obtain ⟨rfl, rfl⟩ := h
        exact ⟨_, _, kop_st h1, fnK_spec h2, snapL_spec' h3⟩
      · cases h
    · cases h
  · cases h
theorem st_ho (S : KSt) (x : List (Nat × KBlk) × List (Nat × KRow)) : (S.ho x).st = S.st.ho (mapH x.1, mapO x.2) := rfl
theorem weak_ho {S : St} {x y : HO} (hH : subH x.1 y.1) (hO : subO x.2 y.2) : Weak (S.ho x) (S.ho y) :=
  Less.weak (S := S.ho x) (S' := S.ho y) (Less.mk rfl (Nat.le_refl _) (fun _ _ h => h) (fun b B h => ⟨B.live, subH_look hH h, id⟩) (fun b B h => ⟨B.live, subO_look hO h, id⟩))
theorem W_range {A : Type u} {I : Prim E.σ} (hI : I = primK P E base none post) (hT : SeatOk P tb) (pz : List Nat) {g : Operand} {ps : Array Tmp} {assign body : Code} {S : KSt} {s : E.σ} {Q : Exit → KSt → E.σ → Prop} {f : Nat} {ds : List D} {ys : List (List KV)} (hdr : (drawsOk assign && drawsOk body) = true)
    (hit : IterCon P f ds (ys.map KV.toDL)) (hna : noAggD ds = true) (hs : A → List (Nat × KBlk) × List (Nat × KRow)) (inv : Nat → A → E.σ → Prop) (jx : Exit → A → E.σ → Prop) (a0 : A) (hg : rangeArg (S.ho (hs a0)) g = some (f, ds))
    (hlen : ∀ y ∈ ys, lenK y = ps.size ∧ okArgs y = true) (N : Nat) (hps : (belowN S.n ps.toList && calmTK N S.T && Nat.ble S.low N) = true) (hH : eqH S.H (hs a0).1) (hO : eqO S.O (hs a0).2) (h0 : inv 0 a0 s)
    (round : ∀ (i : Nat) (y : List KV) (a : A) (s : E.σ), ys[i]? = some y → inv i a s → ∀ (l : Nat) (I : Prim E.σ), I = primK P E base (some l) post → ∀ (R : Exit → KSt → E.σ → Prop), (∀ S' s' a', eqH S'.H (hs a').1 → eqO S'.O (hs a').2 → inv (i + 1) a' s' → R .normal S' s') → (∀ e S' s' a', (match e with | .normal => false | .panic _ => false | .outgrown => false | _ => true) = true → eqH S'.H (hs a').1 → eqO S'.O (hs a').2 → jx e a' s' → R e S' s') →
      wpK I tb pz assign ⟨S.n, putPK ps.toList y S.T, (hs a).1, (hs a).2, N⟩ s (assignK fun S2 s2 => wpK I tb pz body S2 s2 R))
    (hend : ∀ a s', inv ys.length a s' → Q .normal (S.ho (hs a)) s') (hjmp : ∀ e a s', jx e a s' → Q e (S.ho (hs a)) s') : I.W (.rangeFunc g ps assign body) S s Q := by
  subst hI
  simp only [Bool.and_eq_true] at hdr hps
  obtain ⟨⟨hp1, hp2⟩, hp3⟩ := hps
  obtain ⟨fv, cs, h1, h2, h3⟩ := rangeArg_spec hg hna
  have hwk : Weak S.st (S.ho (hs a0)).st := by
    rw [st_ho]
    exact weak_ho (S := S.st) (x := (S.st.H, S.st.O)) (eqH_spec hH) (eqO_spec hO)
  refine AW_weak hwk ?_
  refine AW_rangeFunc (ys := ys.map KV.toDL) N h1 h2 h3 hit (fun y hy => ?_) hp1 (by rw [show (S.ho (hs a0)).st.T = mapT S.T from rfl, calmTK_spec]; exact hp2) (Nat.le_of_ble_eq_true hp3)
    (fun i x s => ∃ a, x = (mapH (hs a).1, mapO (hs a).2) ∧ inv i a s) (fun e x s => ∃ a, subH x.1 (mapH (hs a).1) ∧ subO x.2 (mapO (hs a).2) ∧ jx e a s) ⟨a0, rfl, h0⟩ ?_ ?_ ?_
  · obtain ⟨y', hy', rfl⟩ := List.mem_map.1 hy
    rw [toDL_len]; exact (hlen y' hy').1
  · rintro i y x s hi ⟨a, rfl, ha⟩ l
    rw [List.getElem?_map] at hi
    cases hy : ys[i]? with
    | none => rw [hy] at hi; cases hi
    | some y' =>
      rw [hy] at hi
      cases hi
      have hok := (hlen y' (List.mem_of_getElem? hy)).2
      have hrd := wpK_aw hT.mix hT.tab hdr.1 (round i y' a s hy ha l _ rfl (roundK hs (inv (i + 1)) jx) (fun S' s' a' h1 h2 h3 => ⟨a', h1, h2, h3⟩) (fun e S' s' a' he h1 h2 h3 => by cases e <;> first | exact ⟨a', h1, h2, h3⟩ | cases he))
      have hlq : Leq (SR (S.ho (hs a0)).st ps.toList (KV.toDL y') (mapH (hs a).1, mapO (hs a).2) N) (KSt.st ⟨S.n, putPK ps.toList y' S.T, (hs a).1, (hs a).2, N⟩) :=
        ⟨rfl, rfl, fun t => (putPK_spec hok t), fun _ => rfl, fun _ => rfl⟩
      refine AW_weak hlq.less.weak (AW_weakQ (hrd.mono ?_))
      rintro e S2 s2 ⟨S3, hw3, hq⟩
      refine ⟨S3.st, hw3, ?_⟩
      cases e with
      | normal =>
        refine ⟨rfl, ?_⟩
        have hb := wpK_aw hT.mix hT.tab hdr.2 (show wpK _ tb pz body S3 s2 _ from hq)
        refine AW_weakQ (hb.mono ?_)
        rintro e S4 s4 ⟨S5, hw5, hq⟩
        refine ⟨S5.st, hw5, ?_⟩
        cases e with
        | normal =>
          obtain ⟨a', e1, e2, e3⟩ := hq
          exact ⟨S5.st.ho (mapH (hs a').1, mapO (hs a').2), weak_ho (S := S5.st) (x := (S5.st.H, S5.st.O)) (eqH_spec e1) (eqO_spec e2), a', rfl, e3⟩
        | panic => exact hq.elim
        | outgrown => exact hq.elim
        | _ =>
          obtain ⟨a', e1, e2, e3⟩ := hq
          exact ⟨a', eqH_spec e1, eqO_spec e2, e3⟩
      | _ => exact hq.elim
  · rintro x s' ⟨a, rfl, ha⟩
    rw [List.length_map] at ha
    exact ⟨S.ho (hs a), Weak.refl _, hend a s' ha⟩
  · rintro e c x s' _ ⟨a, e1, e2, e3⟩
    exact ⟨S.ho (hs a), weak_ho (S := S.st) (x := x) (y := (mapH (hs a).1, mapO (hs a).2)) e1 e2, hjmp e a s' e3⟩
end Go.Proofs.Ytnekemldcjegaaa.Aw

/- The types and functions of the seat's program, as a table. Printed by wip/gen/tab.py. -/
namespace Go.Proofs.Ytnekemldcjegaaa.Aw
open Go Go.RowKit Go.Proofs
set_option linter.unusedVariables false
def ti0 : TI := ⟨1, false, none, none, none, none, 0, .other, [], none, none, none⟩
theorem ok0 : TIOk Try.prog 0 ti0 := ⟨(by kernel_rfl), (by kernel_rfl), (fun r h => nomatch h), (fun r h => nomatch h), (fun r h => nomatch h), (fun r h => nomatch h), (by kernel_rfl), (fun h => nomatch h), (fun h => nomatch h), (fun k h => nomatch h), (fun f r h => nomatch h), (fun n h => nomatch h), (fun r h => nomatch h), (fun r h => nomatch h)⟩
def ti1 : TI := ⟨1, false, none, none, (some [.nilfn]), none, 8, .other, [], none, none, (some (.nilfn))⟩
theorem ok1 : TIOk Try.prog 1 ti1 := ⟨(by kernel_rfl), (by kernel_rfl), (fun r h => nomatch h), (fun r h => nomatch h), (fun r h => by cases h; kernel_rfl), (fun r h => nomatch h), (by kernel_rfl), (fun h => nomatch h), (fun h => nomatch h), (fun k h => nomatch h), (fun f r h => nomatch h), (fun n h => nomatch h), (fun r h => nomatch h), (fun r h => by cases h; kernel_rfl)⟩
def ti2 : TI := ⟨1, false, none, none, (some [.int .i64 0]), none, 8, (.int .i64), [], none, none, (some (.int .i64 0))⟩
theorem ok2 : TIOk Try.prog 2 ti2 := ⟨(by kernel_rfl), (by kernel_rfl), (fun r h => nomatch h), (fun r h => nomatch h), (fun r h => by cases h; kernel_rfl), (fun r h => nomatch h), (by kernel_rfl), (fun h => nomatch h), (fun h => nomatch h), (fun k h => by cases h; kernel_rfl), (fun f r h => nomatch h), (fun n h => nomatch h), (fun r h => nomatch h), (fun r h => by cases h; kernel_rfl)⟩
def ti3 : TI := ⟨1, false, none, none, (some [.int .i64 0]), none, 8, (.int .i64), [], none, none, (some (.int .i64 0))⟩
theorem ok3 : TIOk Try.prog 3 ti3 := ⟨(by kernel_rfl), (by kernel_rfl), (fun r h => nomatch h), (fun r h => nomatch h), (fun r h => by cases h; kernel_rfl), (fun r h => nomatch h), (by kernel_rfl), (fun h => nomatch h), (fun h => nomatch h), (fun k h => by cases h; kernel_rfl), (fun f r h => nomatch h), (fun n h => nomatch h), (fun r h => nomatch h), (fun r h => by cases h; kernel_rfl)⟩
def ti4 : TI := ⟨1, false, none, none, (some [.bool false]), none, 1, .bool, [], none, none, (some (.bool false))⟩
theorem ok4 : TIOk Try.prog 4 ti4 := ⟨(by kernel_rfl), (by kernel_rfl), (fun r h => nomatch h), (fun r h => nomatch h), (fun r h => by cases h; kernel_rfl), (fun r h => nomatch h), (by kernel_rfl), (fun _ => by kernel_rfl), (fun h => nomatch h), (fun k h => nomatch h), (fun f r h => nomatch h), (fun n h => nomatch h), (fun r h => nomatch h), (fun r h => by cases h; kernel_rfl)⟩
def ti5 : TI := ⟨1, false, none, none, (some [.int .u8 0]), none, 1, (.int .u8), [], none, none, (some (.int .u8 0))⟩
theorem ok5 : TIOk Try.prog 5 ti5 := ⟨(by kernel_rfl), (by kernel_rfl), (fun r h => nomatch h), (fun r h => nomatch h), (fun r h => by cases h; kernel_rfl), (fun r h => nomatch h), (by kernel_rfl), (fun h => nomatch h), (fun h => nomatch h), (fun k h => by cases h; kernel_rfl), (fun f r h => nomatch h), (fun n h => nomatch h), (fun r h => nomatch h), (fun r h => by cases h; kernel_rfl)⟩
def ti6 : TI := ⟨1, false, none, none, (some [.int .u8 0]), none, 1, (.int .u8), [], none, none, (some (.int .u8 0))⟩
theorem ok6 : TIOk Try.prog 6 ti6 := ⟨(by kernel_rfl), (by kernel_rfl), (fun r h => nomatch h), (fun r h => nomatch h), (fun r h => by cases h; kernel_rfl), (fun r h => nomatch h), (by kernel_rfl), (fun h => nomatch h), (fun h => nomatch h), (fun k h => by cases h; kernel_rfl), (fun f r h => nomatch h), (fun n h => nomatch h), (fun r h => nomatch h), (fun r h => by cases h; kernel_rfl)⟩
def ti7 : TI := ⟨4, true, none, none, (some [.int .i64 0, .int .i64 0, .bool false, .int .u8 0]), (some (.st [(0, 1), (1, 1), (2, 1), (3, 1)])), 24, .other, [(0, 1, 2), (1, 1, 3), (2, 1, 4), (3, 1, 6)], none, none, (some (.agg [.int .i64 0, .int .i64 0, .bool false, .int .u8 0]))⟩
theorem ok7 : TIOk Try.prog 7 ti7 := ⟨(by kernel_rfl), (by kernel_rfl), (fun r h => nomatch h), (fun r h => nomatch h), (fun r h => by cases h; kernel_rfl), (fun r h => by cases h; kernel_rfl), (by kernel_rfl), (fun h => nomatch h), (fun h => nomatch h), (fun k h => nomatch h), (fun f r h => match f, h with | 0, h => by cases h; kernel_rfl | 1, h => by cases h; kernel_rfl | 2, h => by cases h; kernel_rfl | 3, h => by cases h; kernel_rfl | (n + 4), h => by simp [ti7, nth] at h), (fun n h => nomatch h), (fun r h => nomatch h), (fun r h => by cases h; kernel_rfl)⟩
def ti8 : TI := ⟨4, true, none, none, (some [.int .i64 0, .int .i64 0, .bool false, .int .u8 0]), (some (.st [(0, 1), (1, 1), (2, 1), (3, 1)])), 24, .other, [(0, 1, 2), (1, 1, 3), (2, 1, 4), (3, 1, 6)], none, none, (some (.agg [.int .i64 0, .int .i64 0, .bool false, .int .u8 0]))⟩
theorem ok8 : TIOk Try.prog 8 ti8 := ⟨(by kernel_rfl), (by kernel_rfl), (fun r h => nomatch h), (fun r h => nomatch h), (fun r h => by cases h; kernel_rfl), (fun r h => by cases h; kernel_rfl), (by kernel_rfl), (fun h => nomatch h), (fun h => nomatch h), (fun k h => nomatch h), (fun f r h => match f, h with | 0, h => by cases h; kernel_rfl | 1, h => by cases h; kernel_rfl | 2, h => by cases h; kernel_rfl | 3, h => by cases h; kernel_rfl | (n + 4), h => by simp [ti8, nth] at h), (fun n h => nomatch h), (fun r h => nomatch h), (fun r h => by cases h; kernel_rfl)⟩
def ti9 : TI := ⟨1, false, none, none, (some [.str ⟨#[]⟩]), none, 16, .str, [], none, none, (some (.str ⟨#[]⟩))⟩
theorem ok9 : TIOk Try.prog 9 ti9 := ⟨(by kernel_rfl), (by kernel_rfl), (fun r h => nomatch h), (fun r h => nomatch h), (fun r h => by cases h; kernel_rfl), (fun r h => nomatch h), (by kernel_rfl), (fun h => nomatch h), (fun _ => by kernel_rfl), (fun k h => nomatch h), (fun f r h => nomatch h), (fun n h => nomatch h), (fun r h => nomatch h), (fun r h => by cases h; kernel_rfl)⟩
def ti10 : TI := ⟨1, false, none, none, (some [.str ⟨#[]⟩]), none, 16, .str, [], none, none, (some (.str ⟨#[]⟩))⟩
theorem ok10 : TIOk Try.prog 10 ti10 := ⟨(by kernel_rfl), (by kernel_rfl), (fun r h => nomatch h), (fun r h => nomatch h), (fun r h => by cases h; kernel_rfl), (fun r h => nomatch h), (by kernel_rfl), (fun h => nomatch h), (fun _ => by kernel_rfl), (fun k h => nomatch h), (fun f r h => nomatch h), (fun n h => nomatch h), (fun r h => nomatch h), (fun r h => by cases h; kernel_rfl)⟩
def ti11 : TI := ⟨1, false, none, none, (some [.str ⟨#[]⟩]), none, 16, .str, [], none, none, (some (.str ⟨#[]⟩))⟩
theorem ok11 : TIOk Try.prog 11 ti11 := ⟨(by kernel_rfl), (by kernel_rfl), (fun r h => nomatch h), (fun r h => nomatch h), (fun r h => by cases h; kernel_rfl), (fun r h => nomatch h), (by kernel_rfl), (fun h => nomatch h), (fun _ => by kernel_rfl), (fun k h => nomatch h), (fun f r h => nomatch h), (fun n h => nomatch h), (fun r h => nomatch h), (fun r h => by cases h; kernel_rfl)⟩
def ti12 : TI := ⟨1, false, none, none, (some [.int .u64 0]), none, 8, (.int .u64), [], none, none, (some (.int .u64 0))⟩
theorem ok12 : TIOk Try.prog 12 ti12 := ⟨(by kernel_rfl), (by kernel_rfl), (fun r h => nomatch h), (fun r h => nomatch h), (fun r h => by cases h; kernel_rfl), (fun r h => nomatch h), (by kernel_rfl), (fun h => nomatch h), (fun h => nomatch h), (fun k h => by cases h; kernel_rfl), (fun f r h => nomatch h), (fun n h => nomatch h), (fun r h => nomatch h), (fun r h => by cases h; kernel_rfl)⟩
def ti13 : TI := ⟨2, true, none, none, (some [.str ⟨#[]⟩, .int .u64 0]), (some (.st [(0, 1), (1, 1)])), 24, .other, [(0, 1, 9), (1, 1, 12)], none, none, (some (.agg [.str ⟨#[]⟩, .int .u64 0]))⟩
theorem ok13 : TIOk Try.prog 13 ti13 := ⟨(by kernel_rfl), (by kernel_rfl), (fun r h => nomatch h), (fun r h => nomatch h), (fun r h => by cases h; kernel_rfl), (fun r h => by cases h; kernel_rfl), (by kernel_rfl), (fun h => nomatch h), (fun h => nomatch h), (fun k h => nomatch h), (fun f r h => match f, h with | 0, h => by cases h; kernel_rfl | 1, h => by cases h; kernel_rfl | (n + 2), h => by simp [ti13, nth] at h), (fun n h => nomatch h), (fun r h => nomatch h), (fun r h => by cases h; kernel_rfl)⟩
def ti14 : TI := ⟨2, true, none, none, (some [.str ⟨#[]⟩, .int .u64 0]), (some (.st [(0, 1), (1, 1)])), 24, .other, [(0, 1, 9), (1, 1, 12)], none, none, (some (.agg [.str ⟨#[]⟩, .int .u64 0]))⟩
theorem ok14 : TIOk Try.prog 14 ti14 := ⟨(by kernel_rfl), (by kernel_rfl), (fun r h => nomatch h), (fun r h => nomatch h), (fun r h => by cases h; kernel_rfl), (fun r h => by cases h; kernel_rfl), (by kernel_rfl), (fun h => nomatch h), (fun h => nomatch h), (fun k h => nomatch h), (fun f r h => match f, h with | 0, h => by cases h; kernel_rfl | 1, h => by cases h; kernel_rfl | (n + 2), h => by simp [ti14, nth] at h), (fun n h => nomatch h), (fun r h => nomatch h), (fun r h => by cases h; kernel_rfl)⟩
def ti15 : TI := ⟨1, false, none, none, (some [.nilptr]), none, 8, .other, [], none, none, (some (.nilptr))⟩
theorem ok15 : TIOk Try.prog 15 ti15 := ⟨(by kernel_rfl), (by kernel_rfl), (fun r h => nomatch h), (fun r h => nomatch h), (fun r h => by cases h; kernel_rfl), (fun r h => nomatch h), (by kernel_rfl), (fun h => nomatch h), (fun h => nomatch h), (fun k h => nomatch h), (fun f r h => nomatch h), (fun n h => nomatch h), (fun r h => nomatch h), (fun r h => by cases h; kernel_rfl)⟩
def ti16 : TI := ⟨1, false, none, none, (some [.nilptr]), none, 8, .other, [], none, none, (some (.nilptr))⟩
theorem ok16 : TIOk Try.prog 16 ti16 := ⟨(by kernel_rfl), (by kernel_rfl), (fun r h => nomatch h), (fun r h => nomatch h), (fun r h => by cases h; kernel_rfl), (fun r h => nomatch h), (by kernel_rfl), (fun h => nomatch h), (fun h => nomatch h), (fun k h => nomatch h), (fun f r h => nomatch h), (fun n h => nomatch h), (fun r h => nomatch h), (fun r h => by cases h; kernel_rfl)⟩
def ti17 : TI := ⟨1, false, none, none, (some [.nilptr]), none, 8, .other, [], none, none, (some (.nilptr))⟩
theorem ok17 : TIOk Try.prog 17 ti17 := ⟨(by kernel_rfl), (by kernel_rfl), (fun r h => nomatch h), (fun r h => nomatch h), (fun r h => by cases h; kernel_rfl), (fun r h => nomatch h), (by kernel_rfl), (fun h => nomatch h), (fun h => nomatch h), (fun k h => nomatch h), (fun f r h => nomatch h), (fun n h => nomatch h), (fun r h => nomatch h), (fun r h => by cases h; kernel_rfl)⟩
def ti18 : TI := ⟨1, true, none, none, (some [.nilptr]), (some (.st [(0, 1)])), 8, .other, [(0, 1, 17)], none, none, (some (.agg [.nilptr]))⟩
theorem ok18 : TIOk Try.prog 18 ti18 := ⟨(by kernel_rfl), (by kernel_rfl), (fun r h => nomatch h), (fun r h => nomatch h), (fun r h => by cases h; kernel_rfl), (fun r h => by cases h; kernel_rfl), (by kernel_rfl), (fun h => nomatch h), (fun h => nomatch h), (fun k h => nomatch h), (fun f r h => match f, h with | 0, h => by cases h; kernel_rfl | (n + 1), h => by simp [ti18, nth] at h), (fun n h => nomatch h), (fun r h => nomatch h), (fun r h => by cases h; kernel_rfl)⟩
def ti19 : TI := ⟨1, true, none, none, (some [.nilptr]), (some (.st [(0, 1)])), 8, .other, [(0, 1, 17)], none, none, (some (.agg [.nilptr]))⟩
theorem ok19 : TIOk Try.prog 19 ti19 := ⟨(by kernel_rfl), (by kernel_rfl), (fun r h => nomatch h), (fun r h => nomatch h), (fun r h => by cases h; kernel_rfl), (fun r h => by cases h; kernel_rfl), (by kernel_rfl), (fun h => nomatch h), (fun h => nomatch h), (fun k h => nomatch h), (fun f r h => match f, h with | 0, h => by cases h; kernel_rfl | (n + 1), h => by simp [ti19, nth] at h), (fun n h => nomatch h), (fun r h => nomatch h), (fun r h => by cases h; kernel_rfl)⟩
def ti20 : TI := ⟨1, false, none, none, none, none, 16, .other, [], none, none, none⟩
theorem ok20 : TIOk Try.prog 20 ti20 := ⟨(by kernel_rfl), (by kernel_rfl), (fun r h => nomatch h), (fun r h => nomatch h), (fun r h => nomatch h), (fun r h => nomatch h), (by kernel_rfl), (fun h => nomatch h), (fun h => nomatch h), (fun k h => nomatch h), (fun f r h => nomatch h), (fun n h => nomatch h), (fun r h => nomatch h), (fun r h => nomatch h)⟩
def ti21 : TI := ⟨1, false, none, none, (some [.int .i32 0]), none, 4, (.int .i32), [], none, none, (some (.int .i32 0))⟩
theorem ok21 : TIOk Try.prog 21 ti21 := ⟨(by kernel_rfl), (by kernel_rfl), (fun r h => nomatch h), (fun r h => nomatch h), (fun r h => by cases h; kernel_rfl), (fun r h => nomatch h), (by kernel_rfl), (fun h => nomatch h), (fun h => nomatch h), (fun k h => by cases h; kernel_rfl), (fun f r h => nomatch h), (fun n h => nomatch h), (fun r h => nomatch h), (fun r h => by cases h; kernel_rfl)⟩
def ti22 : TI := ⟨1, false, (some (105, 4)), none, (some [.nilsl]), none, 24, .other, [], none, none, (some (.nilsl))⟩
theorem ok22 : TIOk Try.prog 22 ti22 := ⟨(by kernel_rfl), (by kernel_rfl), (fun r h => by cases h; kernel_rfl), (fun r h => nomatch h), (fun r h => by cases h; kernel_rfl), (fun r h => nomatch h), (by kernel_rfl), (fun h => nomatch h), (fun h => nomatch h), (fun k h => nomatch h), (fun f r h => nomatch h), (fun n h => nomatch h), (fun r h => nomatch h), (fun r h => by cases h; kernel_rfl)⟩
def ti23 : TI := ⟨1, false, (some (49, 4)), none, (some [.nilsl]), none, 24, .other, [], none, none, (some (.nilsl))⟩
theorem ok23 : TIOk Try.prog 23 ti23 := ⟨(by kernel_rfl), (by kernel_rfl), (fun r h => by cases h; kernel_rfl), (fun r h => nomatch h), (fun r h => by cases h; kernel_rfl), (fun r h => nomatch h), (by kernel_rfl), (fun h => nomatch h), (fun h => nomatch h), (fun k h => nomatch h), (fun f r h => nomatch h), (fun n h => nomatch h), (fun r h => nomatch h), (fun r h => by cases h; kernel_rfl)⟩
def ti24 : TI := ⟨2, true, none, none, (some [.nilsl, .nilsl]), (some (.st [(0, 1), (1, 1)])), 48, .other, [(0, 1, 22), (1, 1, 23)], none, none, (some (.agg [.nilsl, .nilsl]))⟩
theorem ok24 : TIOk Try.prog 24 ti24 := ⟨(by kernel_rfl), (by kernel_rfl), (fun r h => nomatch h), (fun r h => nomatch h), (fun r h => by cases h; kernel_rfl), (fun r h => by cases h; kernel_rfl), (by kernel_rfl), (fun h => nomatch h), (fun h => nomatch h), (fun k h => nomatch h), (fun f r h => match f, h with | 0, h => by cases h; kernel_rfl | 1, h => by cases h; kernel_rfl | (n + 2), h => by simp [ti24, nth] at h), (fun n h => nomatch h), (fun r h => nomatch h), (fun r h => by cases h; kernel_rfl)⟩
def ti25 : TI := ⟨2, true, none, none, (some [.nilsl, .nilsl]), (some (.st [(0, 1), (1, 1)])), 48, .other, [(0, 1, 22), (1, 1, 23)], none, none, (some (.agg [.nilsl, .nilsl]))⟩
theorem ok25 : TIOk Try.prog 25 ti25 := ⟨(by kernel_rfl), (by kernel_rfl), (fun r h => nomatch h), (fun r h => nomatch h), (fun r h => by cases h; kernel_rfl), (fun r h => by cases h; kernel_rfl), (by kernel_rfl), (fun h => nomatch h), (fun h => nomatch h), (fun k h => nomatch h), (fun f r h => match f, h with | 0, h => by cases h; kernel_rfl | 1, h => by cases h; kernel_rfl | (n + 2), h => by simp [ti25, nth] at h), (fun n h => nomatch h), (fun r h => nomatch h), (fun r h => by cases h; kernel_rfl)⟩
def ti26 : TI := ⟨1, false, none, none, (some [.nilfn]), none, 8, .other, [], none, none, (some (.nilfn))⟩
theorem ok26 : TIOk Try.prog 26 ti26 := ⟨(by kernel_rfl), (by kernel_rfl), (fun r h => nomatch h), (fun r h => nomatch h), (fun r h => by cases h; kernel_rfl), (fun r h => nomatch h), (by kernel_rfl), (fun h => nomatch h), (fun h => nomatch h), (fun k h => nomatch h), (fun f r h => nomatch h), (fun n h => nomatch h), (fun r h => nomatch h), (fun r h => by cases h; kernel_rfl)⟩
def ti27 : TI := ⟨1, false, none, none, (some [.nilfn]), none, 8, .other, [], none, none, (some (.nilfn))⟩
theorem ok27 : TIOk Try.prog 27 ti27 := ⟨(by kernel_rfl), (by kernel_rfl), (fun r h => nomatch h), (fun r h => nomatch h), (fun r h => by cases h; kernel_rfl), (fun r h => nomatch h), (by kernel_rfl), (fun h => nomatch h), (fun h => nomatch h), (fun k h => nomatch h), (fun f r h => nomatch h), (fun n h => nomatch h), (fun r h => nomatch h), (fun r h => by cases h; kernel_rfl)⟩
def ti28 : TI := ⟨1, false, none, none, (some [.nilfn]), none, 8, .other, [], none, none, (some (.nilfn))⟩
theorem ok28 : TIOk Try.prog 28 ti28 := ⟨(by kernel_rfl), (by kernel_rfl), (fun r h => nomatch h), (fun r h => nomatch h), (fun r h => by cases h; kernel_rfl), (fun r h => nomatch h), (by kernel_rfl), (fun h => nomatch h), (fun h => nomatch h), (fun k h => nomatch h), (fun f r h => nomatch h), (fun n h => nomatch h), (fun r h => nomatch h), (fun r h => by cases h; kernel_rfl)⟩
def ti29 : TI := ⟨1, false, none, none, (some [.int .i64 0]), none, 8, (.int .i64), [], none, none, (some (.int .i64 0))⟩
theorem ok29 : TIOk Try.prog 29 ti29 := ⟨(by kernel_rfl), (by kernel_rfl), (fun r h => nomatch h), (fun r h => nomatch h), (fun r h => by cases h; kernel_rfl), (fun r h => nomatch h), (by kernel_rfl), (fun h => nomatch h), (fun h => nomatch h), (fun k h => by cases h; kernel_rfl), (fun f r h => nomatch h), (fun n h => nomatch h), (fun r h => nomatch h), (fun r h => by cases h; kernel_rfl)⟩
def ti30 : TI := ⟨1, false, none, none, (some [.nilfn]), none, 8, .other, [], none, none, (some (.nilfn))⟩
theorem ok30 : TIOk Try.prog 30 ti30 := ⟨(by kernel_rfl), (by kernel_rfl), (fun r h => nomatch h), (fun r h => nomatch h), (fun r h => by cases h; kernel_rfl), (fun r h => nomatch h), (by kernel_rfl), (fun h => nomatch h), (fun h => nomatch h), (fun k h => nomatch h), (fun f r h => nomatch h), (fun n h => nomatch h), (fun r h => nomatch h), (fun r h => by cases h; kernel_rfl)⟩
def ti31 : TI := ⟨1, false, (some (70, 2)), none, (some [.nilsl]), none, 24, .other, [], none, none, (some (.nilsl))⟩
theorem ok31 : TIOk Try.prog 31 ti31 := ⟨(by kernel_rfl), (by kernel_rfl), (fun r h => by cases h; kernel_rfl), (fun r h => nomatch h), (fun r h => by cases h; kernel_rfl), (fun r h => nomatch h), (by kernel_rfl), (fun h => nomatch h), (fun h => nomatch h), (fun k h => nomatch h), (fun f r h => nomatch h), (fun n h => nomatch h), (fun r h => nomatch h), (fun r h => by cases h; kernel_rfl)⟩
def ti32 : TI := ⟨1, false, none, none, none, none, 0, .other, [], none, none, none⟩
theorem ok32 : TIOk Try.prog 32 ti32 := ⟨(by kernel_rfl), (by kernel_rfl), (fun r h => nomatch h), (fun r h => nomatch h), (fun r h => nomatch h), (fun r h => nomatch h), (by kernel_rfl), (fun h => nomatch h), (fun h => nomatch h), (fun k h => nomatch h), (fun f r h => nomatch h), (fun n h => nomatch h), (fun r h => nomatch h), (fun r h => nomatch h)⟩
def ti33 : TI := ⟨1, false, none, none, (some [.nilfn]), none, 8, .other, [], none, none, (some (.nilfn))⟩
theorem ok33 : TIOk Try.prog 33 ti33 := ⟨(by kernel_rfl), (by kernel_rfl), (fun r h => nomatch h), (fun r h => nomatch h), (fun r h => by cases h; kernel_rfl), (fun r h => nomatch h), (by kernel_rfl), (fun h => nomatch h), (fun h => nomatch h), (fun k h => nomatch h), (fun f r h => nomatch h), (fun n h => nomatch h), (fun r h => nomatch h), (fun r h => by cases h; kernel_rfl)⟩
def ti34 : TI := ⟨1, false, none, none, (some [.nilfn]), none, 8, .other, [], none, none, (some (.nilfn))⟩
theorem ok34 : TIOk Try.prog 34 ti34 := ⟨(by kernel_rfl), (by kernel_rfl), (fun r h => nomatch h), (fun r h => nomatch h), (fun r h => by cases h; kernel_rfl), (fun r h => nomatch h), (by kernel_rfl), (fun h => nomatch h), (fun h => nomatch h), (fun k h => nomatch h), (fun f r h => nomatch h), (fun n h => nomatch h), (fun r h => nomatch h), (fun r h => by cases h; kernel_rfl)⟩
def ti35 : TI := ⟨1, false, none, none, (some [.nilfn]), none, 8, .other, [], none, none, (some (.nilfn))⟩
theorem ok35 : TIOk Try.prog 35 ti35 := ⟨(by kernel_rfl), (by kernel_rfl), (fun r h => nomatch h), (fun r h => nomatch h), (fun r h => by cases h; kernel_rfl), (fun r h => nomatch h), (by kernel_rfl), (fun h => nomatch h), (fun h => nomatch h), (fun k h => nomatch h), (fun f r h => nomatch h), (fun n h => nomatch h), (fun r h => nomatch h), (fun r h => by cases h; kernel_rfl)⟩
def ti36 : TI := ⟨1, false, none, none, (some [.nilfn]), none, 8, .other, [], none, none, (some (.nilfn))⟩
theorem ok36 : TIOk Try.prog 36 ti36 := ⟨(by kernel_rfl), (by kernel_rfl), (fun r h => nomatch h), (fun r h => nomatch h), (fun r h => by cases h; kernel_rfl), (fun r h => nomatch h), (by kernel_rfl), (fun h => nomatch h), (fun h => nomatch h), (fun k h => nomatch h), (fun f r h => nomatch h), (fun n h => nomatch h), (fun r h => nomatch h), (fun r h => by cases h; kernel_rfl)⟩
def ti37 : TI := ⟨1, false, none, none, (some [.nilfn]), none, 8, .other, [], none, none, (some (.nilfn))⟩
theorem ok37 : TIOk Try.prog 37 ti37 := ⟨(by kernel_rfl), (by kernel_rfl), (fun r h => nomatch h), (fun r h => nomatch h), (fun r h => by cases h; kernel_rfl), (fun r h => nomatch h), (by kernel_rfl), (fun h => nomatch h), (fun h => nomatch h), (fun k h => nomatch h), (fun f r h => nomatch h), (fun n h => nomatch h), (fun r h => nomatch h), (fun r h => by cases h; kernel_rfl)⟩
def ti38 : TI := ⟨1, false, none, none, (some [.nilfn]), none, 8, .other, [], none, none, (some (.nilfn))⟩
theorem ok38 : TIOk Try.prog 38 ti38 := ⟨(by kernel_rfl), (by kernel_rfl), (fun r h => nomatch h), (fun r h => nomatch h), (fun r h => by cases h; kernel_rfl), (fun r h => nomatch h), (by kernel_rfl), (fun h => nomatch h), (fun h => nomatch h), (fun k h => nomatch h), (fun f r h => nomatch h), (fun n h => nomatch h), (fun r h => nomatch h), (fun r h => by cases h; kernel_rfl)⟩
def ti39 : TI := ⟨1, false, none, none, (some [.nilfn]), none, 8, .other, [], none, none, (some (.nilfn))⟩
theorem ok39 : TIOk Try.prog 39 ti39 := ⟨(by kernel_rfl), (by kernel_rfl), (fun r h => nomatch h), (fun r h => nomatch h), (fun r h => by cases h; kernel_rfl), (fun r h => nomatch h), (by kernel_rfl), (fun h => nomatch h), (fun h => nomatch h), (fun k h => nomatch h), (fun f r h => nomatch h), (fun n h => nomatch h), (fun r h => nomatch h), (fun r h => by cases h; kernel_rfl)⟩
def ti40 : TI := ⟨1, false, none, none, (some [.nilfn]), none, 8, .other, [], none, none, (some (.nilfn))⟩
theorem ok40 : TIOk Try.prog 40 ti40 := ⟨(by kernel_rfl), (by kernel_rfl), (fun r h => nomatch h), (fun r h => nomatch h), (fun r h => by cases h; kernel_rfl), (fun r h => nomatch h), (by kernel_rfl), (fun h => nomatch h), (fun h => nomatch h), (fun k h => nomatch h), (fun f r h => nomatch h), (fun n h => nomatch h), (fun r h => nomatch h), (fun r h => by cases h; kernel_rfl)⟩
def ti41 : TI := ⟨1, false, none, none, (some [.int .i64 0]), none, 8, (.int .i64), [], none, none, (some (.int .i64 0))⟩
theorem ok41 : TIOk Try.prog 41 ti41 := ⟨(by kernel_rfl), (by kernel_rfl), (fun r h => nomatch h), (fun r h => nomatch h), (fun r h => by cases h; kernel_rfl), (fun r h => nomatch h), (by kernel_rfl), (fun h => nomatch h), (fun h => nomatch h), (fun k h => by cases h; kernel_rfl), (fun f r h => nomatch h), (fun n h => nomatch h), (fun r h => nomatch h), (fun r h => by cases h; kernel_rfl)⟩
def ti42 : TI := ⟨1, false, none, none, none, none, 0, .other, [], none, none, none⟩
theorem ok42 : TIOk Try.prog 42 ti42 := ⟨(by kernel_rfl), (by kernel_rfl), (fun r h => nomatch h), (fun r h => nomatch h), (fun r h => nomatch h), (fun r h => nomatch h), (by kernel_rfl), (fun h => nomatch h), (fun h => nomatch h), (fun k h => nomatch h), (fun f r h => nomatch h), (fun n h => nomatch h), (fun r h => nomatch h), (fun r h => nomatch h)⟩
def ti43 : TI := ⟨1, false, none, none, (some [.nilfn]), none, 8, .other, [], none, none, (some (.nilfn))⟩
theorem ok43 : TIOk Try.prog 43 ti43 := ⟨(by kernel_rfl), (by kernel_rfl), (fun r h => nomatch h), (fun r h => nomatch h), (fun r h => by cases h; kernel_rfl), (fun r h => nomatch h), (by kernel_rfl), (fun h => nomatch h), (fun h => nomatch h), (fun k h => nomatch h), (fun f r h => nomatch h), (fun n h => nomatch h), (fun r h => nomatch h), (fun r h => by cases h; kernel_rfl)⟩
def ti44 : TI := ⟨1, false, none, none, (some [.nilfn]), none, 8, .other, [], none, none, (some (.nilfn))⟩
theorem ok44 : TIOk Try.prog 44 ti44 := ⟨(by kernel_rfl), (by kernel_rfl), (fun r h => nomatch h), (fun r h => nomatch h), (fun r h => by cases h; kernel_rfl), (fun r h => nomatch h), (by kernel_rfl), (fun h => nomatch h), (fun h => nomatch h), (fun k h => nomatch h), (fun f r h => nomatch h), (fun n h => nomatch h), (fun r h => nomatch h), (fun r h => by cases h; kernel_rfl)⟩
def ti45 : TI := ⟨1, false, none, none, none, none, 0, .other, [], none, none, none⟩
theorem ok45 : TIOk Try.prog 45 ti45 := ⟨(by kernel_rfl), (by kernel_rfl), (fun r h => nomatch h), (fun r h => nomatch h), (fun r h => nomatch h), (fun r h => nomatch h), (by kernel_rfl), (fun h => nomatch h), (fun h => nomatch h), (fun k h => nomatch h), (fun f r h => nomatch h), (fun n h => nomatch h), (fun r h => nomatch h), (fun r h => nomatch h)⟩
def ti46 : TI := ⟨1, false, none, none, (some [.nilfn]), none, 8, .other, [], none, none, (some (.nilfn))⟩
theorem ok46 : TIOk Try.prog 46 ti46 := ⟨(by kernel_rfl), (by kernel_rfl), (fun r h => nomatch h), (fun r h => nomatch h), (fun r h => by cases h; kernel_rfl), (fun r h => nomatch h), (by kernel_rfl), (fun h => nomatch h), (fun h => nomatch h), (fun k h => nomatch h), (fun f r h => nomatch h), (fun n h => nomatch h), (fun r h => nomatch h), (fun r h => by cases h; kernel_rfl)⟩
def ti47 : TI := ⟨1, false, none, none, (some [.nilfn]), none, 8, .other, [], none, none, (some (.nilfn))⟩
theorem ok47 : TIOk Try.prog 47 ti47 := ⟨(by kernel_rfl), (by kernel_rfl), (fun r h => nomatch h), (fun r h => nomatch h), (fun r h => by cases h; kernel_rfl), (fun r h => nomatch h), (by kernel_rfl), (fun h => nomatch h), (fun h => nomatch h), (fun k h => nomatch h), (fun f r h => nomatch h), (fun n h => nomatch h), (fun r h => nomatch h), (fun r h => by cases h; kernel_rfl)⟩
def ti48 : TI := ⟨4, true, none, none, (some [.int .i64 0, .int .i64 0, .int .i64 0, .int .i64 0]), (some (.st [(0, 1), (1, 1), (2, 1), (3, 1)])), 32, .other, [(0, 1, 41), (1, 1, 3), (2, 1, 3), (3, 1, 3)], (some 4), none, (some (.agg [.int .i64 0, .int .i64 0, .int .i64 0, .int .i64 0]))⟩
theorem ok48 : TIOk Try.prog 48 ti48 := ⟨(by kernel_rfl), (by kernel_rfl), (fun r h => nomatch h), (fun r h => nomatch h), (fun r h => by cases h; kernel_rfl), (fun r h => by cases h; kernel_rfl), (by kernel_rfl), (fun h => nomatch h), (fun h => nomatch h), (fun k h => nomatch h), (fun f r h => match f, h with | 0, h => by cases h; kernel_rfl | 1, h => by cases h; kernel_rfl | 2, h => by cases h; kernel_rfl | 3, h => by cases h; kernel_rfl | (n + 4), h => by simp [ti48, nth] at h), (fun n h => by cases h; exact ⟨by kernel_rfl, by kernel_rfl, by kernel_rfl⟩), (fun r h => nomatch h), (fun r h => by cases h; kernel_rfl)⟩
def ti49 : TI := ⟨4, true, none, none, (some [.int .i64 0, .int .i64 0, .int .i64 0, .int .i64 0]), (some (.st [(0, 1), (1, 1), (2, 1), (3, 1)])), 32, .other, [(0, 1, 41), (1, 1, 3), (2, 1, 3), (3, 1, 3)], (some 4), none, (some (.agg [.int .i64 0, .int .i64 0, .int .i64 0, .int .i64 0]))⟩
theorem ok49 : TIOk Try.prog 49 ti49 := ⟨(by kernel_rfl), (by kernel_rfl), (fun r h => nomatch h), (fun r h => nomatch h), (fun r h => by cases h; kernel_rfl), (fun r h => by cases h; kernel_rfl), (by kernel_rfl), (fun h => nomatch h), (fun h => nomatch h), (fun k h => nomatch h), (fun f r h => match f, h with | 0, h => by cases h; kernel_rfl | 1, h => by cases h; kernel_rfl | 2, h => by cases h; kernel_rfl | 3, h => by cases h; kernel_rfl | (n + 4), h => by simp [ti49, nth] at h), (fun n h => by cases h; exact ⟨by kernel_rfl, by kernel_rfl, by kernel_rfl⟩), (fun r h => nomatch h), (fun r h => by cases h; kernel_rfl)⟩
def ti50 : TI := ⟨1, false, none, none, none, none, 0, .other, [], none, none, none⟩
theorem ok50 : TIOk Try.prog 50 ti50 := ⟨(by kernel_rfl), (by kernel_rfl), (fun r h => nomatch h), (fun r h => nomatch h), (fun r h => nomatch h), (fun r h => nomatch h), (by kernel_rfl), (fun h => nomatch h), (fun h => nomatch h), (fun k h => nomatch h), (fun f r h => nomatch h), (fun n h => nomatch h), (fun r h => nomatch h), (fun r h => nomatch h)⟩
def ti51 : TI := ⟨1, false, none, none, (some [.nilfn]), none, 8, .other, [], none, none, (some (.nilfn))⟩
theorem ok51 : TIOk Try.prog 51 ti51 := ⟨(by kernel_rfl), (by kernel_rfl), (fun r h => nomatch h), (fun r h => nomatch h), (fun r h => by cases h; kernel_rfl), (fun r h => nomatch h), (by kernel_rfl), (fun h => nomatch h), (fun h => nomatch h), (fun k h => nomatch h), (fun f r h => nomatch h), (fun n h => nomatch h), (fun r h => nomatch h), (fun r h => by cases h; kernel_rfl)⟩
def ti52 : TI := ⟨1, false, none, none, (some [.nilfn]), none, 8, .other, [], none, none, (some (.nilfn))⟩
theorem ok52 : TIOk Try.prog 52 ti52 := ⟨(by kernel_rfl), (by kernel_rfl), (fun r h => nomatch h), (fun r h => nomatch h), (fun r h => by cases h; kernel_rfl), (fun r h => nomatch h), (by kernel_rfl), (fun h => nomatch h), (fun h => nomatch h), (fun k h => nomatch h), (fun f r h => nomatch h), (fun n h => nomatch h), (fun r h => nomatch h), (fun r h => by cases h; kernel_rfl)⟩
def ti53 : TI := ⟨1, false, none, none, none, none, 0, .other, [], none, none, none⟩
theorem ok53 : TIOk Try.prog 53 ti53 := ⟨(by kernel_rfl), (by kernel_rfl), (fun r h => nomatch h), (fun r h => nomatch h), (fun r h => nomatch h), (fun r h => nomatch h), (by kernel_rfl), (fun h => nomatch h), (fun h => nomatch h), (fun k h => nomatch h), (fun f r h => nomatch h), (fun n h => nomatch h), (fun r h => nomatch h), (fun r h => nomatch h)⟩
def ti54 : TI := ⟨1, false, none, none, (some [.nilfn]), none, 8, .other, [], none, none, (some (.nilfn))⟩
theorem ok54 : TIOk Try.prog 54 ti54 := ⟨(by kernel_rfl), (by kernel_rfl), (fun r h => nomatch h), (fun r h => nomatch h), (fun r h => by cases h; kernel_rfl), (fun r h => nomatch h), (by kernel_rfl), (fun h => nomatch h), (fun h => nomatch h), (fun k h => nomatch h), (fun f r h => nomatch h), (fun n h => nomatch h), (fun r h => nomatch h), (fun r h => by cases h; kernel_rfl)⟩
def ti55 : TI := ⟨1, false, none, none, (some [.nilfn]), none, 8, .other, [], none, none, (some (.nilfn))⟩
theorem ok55 : TIOk Try.prog 55 ti55 := ⟨(by kernel_rfl), (by kernel_rfl), (fun r h => nomatch h), (fun r h => nomatch h), (fun r h => by cases h; kernel_rfl), (fun r h => nomatch h), (by kernel_rfl), (fun h => nomatch h), (fun h => nomatch h), (fun k h => nomatch h), (fun f r h => nomatch h), (fun n h => nomatch h), (fun r h => nomatch h), (fun r h => by cases h; kernel_rfl)⟩
def ti56 : TI := ⟨1, false, (some (3, 1)), none, (some [.nilsl]), none, 24, .other, [], none, none, (some (.nilsl))⟩
theorem ok56 : TIOk Try.prog 56 ti56 := ⟨(by kernel_rfl), (by kernel_rfl), (fun r h => by cases h; kernel_rfl), (fun r h => nomatch h), (fun r h => by cases h; kernel_rfl), (fun r h => nomatch h), (by kernel_rfl), (fun h => nomatch h), (fun h => nomatch h), (fun k h => nomatch h), (fun f r h => nomatch h), (fun n h => nomatch h), (fun r h => nomatch h), (fun r h => by cases h; kernel_rfl)⟩
def ti57 : TI := ⟨1, false, none, none, none, none, 0, .other, [], none, none, none⟩
theorem ok57 : TIOk Try.prog 57 ti57 := ⟨(by kernel_rfl), (by kernel_rfl), (fun r h => nomatch h), (fun r h => nomatch h), (fun r h => nomatch h), (fun r h => nomatch h), (by kernel_rfl), (fun h => nomatch h), (fun h => nomatch h), (fun k h => nomatch h), (fun f r h => nomatch h), (fun n h => nomatch h), (fun r h => nomatch h), (fun r h => nomatch h)⟩
def ti58 : TI := ⟨1, false, none, none, (some [.nilfn]), none, 8, .other, [], none, none, (some (.nilfn))⟩
theorem ok58 : TIOk Try.prog 58 ti58 := ⟨(by kernel_rfl), (by kernel_rfl), (fun r h => nomatch h), (fun r h => nomatch h), (fun r h => by cases h; kernel_rfl), (fun r h => nomatch h), (by kernel_rfl), (fun h => nomatch h), (fun h => nomatch h), (fun k h => nomatch h), (fun f r h => nomatch h), (fun n h => nomatch h), (fun r h => nomatch h), (fun r h => by cases h; kernel_rfl)⟩
def ti59 : TI := ⟨1, false, none, none, (some [.nilfn]), none, 8, .other, [], none, none, (some (.nilfn))⟩
theorem ok59 : TIOk Try.prog 59 ti59 := ⟨(by kernel_rfl), (by kernel_rfl), (fun r h => nomatch h), (fun r h => nomatch h), (fun r h => by cases h; kernel_rfl), (fun r h => nomatch h), (by kernel_rfl), (fun h => nomatch h), (fun h => nomatch h), (fun k h => nomatch h), (fun f r h => nomatch h), (fun n h => nomatch h), (fun r h => nomatch h), (fun r h => by cases h; kernel_rfl)⟩
def ti60 : TI := ⟨1, false, none, none, (some [.nilfn]), none, 8, .other, [], none, none, (some (.nilfn))⟩
theorem ok60 : TIOk Try.prog 60 ti60 := ⟨(by kernel_rfl), (by kernel_rfl), (fun r h => nomatch h), (fun r h => nomatch h), (fun r h => by cases h; kernel_rfl), (fun r h => nomatch h), (by kernel_rfl), (fun h => nomatch h), (fun h => nomatch h), (fun k h => nomatch h), (fun f r h => nomatch h), (fun n h => nomatch h), (fun r h => nomatch h), (fun r h => by cases h; kernel_rfl)⟩
def ti61 : TI := ⟨1, false, none, none, (some [.nilfn]), none, 8, .other, [], none, none, (some (.nilfn))⟩
theorem ok61 : TIOk Try.prog 61 ti61 := ⟨(by kernel_rfl), (by kernel_rfl), (fun r h => nomatch h), (fun r h => nomatch h), (fun r h => by cases h; kernel_rfl), (fun r h => nomatch h), (by kernel_rfl), (fun h => nomatch h), (fun h => nomatch h), (fun k h => nomatch h), (fun f r h => nomatch h), (fun n h => nomatch h), (fun r h => nomatch h), (fun r h => by cases h; kernel_rfl)⟩
def ti62 : TI := ⟨1, false, (some (31, 1)), none, (some [.nilsl]), none, 24, .other, [], none, none, (some (.nilsl))⟩
theorem ok62 : TIOk Try.prog 62 ti62 := ⟨(by kernel_rfl), (by kernel_rfl), (fun r h => by cases h; kernel_rfl), (fun r h => nomatch h), (fun r h => by cases h; kernel_rfl), (fun r h => nomatch h), (by kernel_rfl), (fun h => nomatch h), (fun h => nomatch h), (fun k h => nomatch h), (fun f r h => nomatch h), (fun n h => nomatch h), (fun r h => nomatch h), (fun r h => by cases h; kernel_rfl)⟩
def ti63 : TI := ⟨1, false, none, none, (some [.nilfn]), none, 8, .other, [], none, none, (some (.nilfn))⟩
theorem ok63 : TIOk Try.prog 63 ti63 := ⟨(by kernel_rfl), (by kernel_rfl), (fun r h => nomatch h), (fun r h => nomatch h), (fun r h => by cases h; kernel_rfl), (fun r h => nomatch h), (by kernel_rfl), (fun h => nomatch h), (fun h => nomatch h), (fun k h => nomatch h), (fun f r h => nomatch h), (fun n h => nomatch h), (fun r h => nomatch h), (fun r h => by cases h; kernel_rfl)⟩
def ti64 : TI := ⟨1, false, none, none, (some [.nilfn]), none, 8, .other, [], none, none, (some (.nilfn))⟩
theorem ok64 : TIOk Try.prog 64 ti64 := ⟨(by kernel_rfl), (by kernel_rfl), (fun r h => nomatch h), (fun r h => nomatch h), (fun r h => by cases h; kernel_rfl), (fun r h => nomatch h), (by kernel_rfl), (fun h => nomatch h), (fun h => nomatch h), (fun k h => nomatch h), (fun f r h => nomatch h), (fun n h => nomatch h), (fun r h => nomatch h), (fun r h => by cases h; kernel_rfl)⟩
def ti65 : TI := ⟨1, false, none, none, (some [.nilfn]), none, 8, .other, [], none, none, (some (.nilfn))⟩
theorem ok65 : TIOk Try.prog 65 ti65 := ⟨(by kernel_rfl), (by kernel_rfl), (fun r h => nomatch h), (fun r h => nomatch h), (fun r h => by cases h; kernel_rfl), (fun r h => nomatch h), (by kernel_rfl), (fun h => nomatch h), (fun h => nomatch h), (fun k h => nomatch h), (fun f r h => nomatch h), (fun n h => nomatch h), (fun r h => nomatch h), (fun r h => by cases h; kernel_rfl)⟩
def ti66 : TI := ⟨1, false, none, none, (some [.nilfn]), none, 8, .other, [], none, none, (some (.nilfn))⟩
theorem ok66 : TIOk Try.prog 66 ti66 := ⟨(by kernel_rfl), (by kernel_rfl), (fun r h => nomatch h), (fun r h => nomatch h), (fun r h => by cases h; kernel_rfl), (fun r h => nomatch h), (by kernel_rfl), (fun h => nomatch h), (fun h => nomatch h), (fun k h => nomatch h), (fun f r h => nomatch h), (fun n h => nomatch h), (fun r h => nomatch h), (fun r h => by cases h; kernel_rfl)⟩
def ti67 : TI := ⟨1, false, none, none, (some [.nilfn]), none, 8, .other, [], none, none, (some (.nilfn))⟩
theorem ok67 : TIOk Try.prog 67 ti67 := ⟨(by kernel_rfl), (by kernel_rfl), (fun r h => nomatch h), (fun r h => nomatch h), (fun r h => by cases h; kernel_rfl), (fun r h => nomatch h), (by kernel_rfl), (fun h => nomatch h), (fun h => nomatch h), (fun k h => nomatch h), (fun f r h => nomatch h), (fun n h => nomatch h), (fun r h => nomatch h), (fun r h => by cases h; kernel_rfl)⟩
def ti68 : TI := ⟨1, false, none, none, (some [.nilfn]), none, 8, .other, [], none, none, (some (.nilfn))⟩
theorem ok68 : TIOk Try.prog 68 ti68 := ⟨(by kernel_rfl), (by kernel_rfl), (fun r h => nomatch h), (fun r h => nomatch h), (fun r h => by cases h; kernel_rfl), (fun r h => nomatch h), (by kernel_rfl), (fun h => nomatch h), (fun h => nomatch h), (fun k h => nomatch h), (fun f r h => nomatch h), (fun n h => nomatch h), (fun r h => nomatch h), (fun r h => by cases h; kernel_rfl)⟩
def ti69 : TI := ⟨2, true, none, none, (some [.int .i64 0, .int .i64 0]), (some (.st [(0, 1), (1, 1)])), 16, .other, [(0, 1, 3), (1, 1, 3)], (some 2), none, (some (.agg [.int .i64 0, .int .i64 0]))⟩
theorem ok69 : TIOk Try.prog 69 ti69 := ⟨(by kernel_rfl), (by kernel_rfl), (fun r h => nomatch h), (fun r h => nomatch h), (fun r h => by cases h; kernel_rfl), (fun r h => by cases h; kernel_rfl), (by kernel_rfl), (fun h => nomatch h), (fun h => nomatch h), (fun k h => nomatch h), (fun f r h => match f, h with | 0, h => by cases h; kernel_rfl | 1, h => by cases h; kernel_rfl | (n + 2), h => by simp [ti69, nth] at h), (fun n h => by cases h; exact ⟨by kernel_rfl, by kernel_rfl, by kernel_rfl⟩), (fun r h => nomatch h), (fun r h => by cases h; kernel_rfl)⟩
def ti70 : TI := ⟨2, true, none, none, (some [.int .i64 0, .int .i64 0]), (some (.st [(0, 1), (1, 1)])), 16, .other, [(0, 1, 3), (1, 1, 3)], (some 2), none, (some (.agg [.int .i64 0, .int .i64 0]))⟩
theorem ok70 : TIOk Try.prog 70 ti70 := ⟨(by kernel_rfl), (by kernel_rfl), (fun r h => nomatch h), (fun r h => nomatch h), (fun r h => by cases h; kernel_rfl), (fun r h => by cases h; kernel_rfl), (by kernel_rfl), (fun h => nomatch h), (fun h => nomatch h), (fun k h => nomatch h), (fun f r h => match f, h with | 0, h => by cases h; kernel_rfl | 1, h => by cases h; kernel_rfl | (n + 2), h => by simp [ti70, nth] at h), (fun n h => by cases h; exact ⟨by kernel_rfl, by kernel_rfl, by kernel_rfl⟩), (fun r h => nomatch h), (fun r h => by cases h; kernel_rfl)⟩
def ti71 : TI := ⟨1, false, none, none, (some [.nilfn]), none, 8, .other, [], none, none, (some (.nilfn))⟩
theorem ok71 : TIOk Try.prog 71 ti71 := ⟨(by kernel_rfl), (by kernel_rfl), (fun r h => nomatch h), (fun r h => nomatch h), (fun r h => by cases h; kernel_rfl), (fun r h => nomatch h), (by kernel_rfl), (fun h => nomatch h), (fun h => nomatch h), (fun k h => nomatch h), (fun f r h => nomatch h), (fun n h => nomatch h), (fun r h => nomatch h), (fun r h => by cases h; kernel_rfl)⟩
def ti72 : TI := ⟨1, false, none, none, (some [.nilfn]), none, 8, .other, [], none, none, (some (.nilfn))⟩
theorem ok72 : TIOk Try.prog 72 ti72 := ⟨(by kernel_rfl), (by kernel_rfl), (fun r h => nomatch h), (fun r h => nomatch h), (fun r h => by cases h; kernel_rfl), (fun r h => nomatch h), (by kernel_rfl), (fun h => nomatch h), (fun h => nomatch h), (fun k h => nomatch h), (fun f r h => nomatch h), (fun n h => nomatch h), (fun r h => nomatch h), (fun r h => by cases h; kernel_rfl)⟩
def ti73 : TI := ⟨4, true, none, (some (4, 5, 1)), (some [.int .u8 0, .int .u8 0, .int .u8 0, .int .u8 0]), (some (.ar 1)), 4, .other, [], none, none, (some (.agg [.int .u8 0, .int .u8 0, .int .u8 0, .int .u8 0]))⟩
theorem ok73 : TIOk Try.prog 73 ti73 := ⟨(by kernel_rfl), (by kernel_rfl), (fun r h => nomatch h), (fun r h => by cases h; kernel_rfl), (fun r h => by cases h; kernel_rfl), (fun r h => by cases h; kernel_rfl), (by kernel_rfl), (fun h => nomatch h), (fun h => nomatch h), (fun k h => nomatch h), (fun f r h => nomatch h), (fun n h => nomatch h), (fun r h => nomatch h), (fun r h => by cases h; kernel_rfl)⟩
def ti74 : TI := ⟨12, true, none, (some (3, 73, 4)), (some [.int .u8 0, .int .u8 0, .int .u8 0, .int .u8 0, .int .u8 0, .int .u8 0, .int .u8 0, .int .u8 0, .int .u8 0, .int .u8 0, .int .u8 0, .int .u8 0]), (some (.ar 4)), 12, .other, [], none, none, (some (.agg [.int .u8 0, .int .u8 0, .int .u8 0, .int .u8 0, .int .u8 0, .int .u8 0, .int .u8 0, .int .u8 0, .int .u8 0, .int .u8 0, .int .u8 0, .int .u8 0]))⟩
theorem ok74 : TIOk Try.prog 74 ti74 := ⟨(by kernel_rfl), (by kernel_rfl), (fun r h => nomatch h), (fun r h => by cases h; kernel_rfl), (fun r h => by cases h; kernel_rfl), (fun r h => by cases h; kernel_rfl), (by kernel_rfl), (fun h => nomatch h), (fun h => nomatch h), (fun k h => nomatch h), (fun f r h => nomatch h), (fun n h => nomatch h), (fun r h => nomatch h), (fun r h => by cases h; kernel_rfl)⟩
def ti75 : TI := ⟨1, false, (some (73, 4)), none, (some [.nilsl]), none, 24, .other, [], none, none, (some (.nilsl))⟩
theorem ok75 : TIOk Try.prog 75 ti75 := ⟨(by kernel_rfl), (by kernel_rfl), (fun r h => by cases h; kernel_rfl), (fun r h => nomatch h), (fun r h => by cases h; kernel_rfl), (fun r h => nomatch h), (by kernel_rfl), (fun h => nomatch h), (fun h => nomatch h), (fun k h => nomatch h), (fun f r h => nomatch h), (fun n h => nomatch h), (fun r h => nomatch h), (fun r h => by cases h; kernel_rfl)⟩
def ti76 : TI := ⟨13, true, none, none, (some [.int .u8 0, .int .u8 0, .int .u8 0, .int .u8 0, .int .u8 0, .int .u8 0, .int .u8 0, .int .u8 0, .int .u8 0, .int .u8 0, .int .u8 0, .int .u8 0, .nilsl]), (some (.st [(0, 12), (12, 1)])), 40, .other, [(0, 12, 74), (12, 1, 75)], none, none, (some (.agg [.int .u8 0, .int .u8 0, .int .u8 0, .int .u8 0, .int .u8 0, .int .u8 0, .int .u8 0, .int .u8 0, .int .u8 0, .int .u8 0, .int .u8 0, .int .u8 0, .nilsl]))⟩
theorem ok76 : TIOk Try.prog 76 ti76 := ⟨(by kernel_rfl), (by kernel_rfl), (fun r h => nomatch h), (fun r h => nomatch h), (fun r h => by cases h; kernel_rfl), (fun r h => by cases h; kernel_rfl), (by kernel_rfl), (fun h => nomatch h), (fun h => nomatch h), (fun k h => nomatch h), (fun f r h => match f, h with | 0, h => by cases h; kernel_rfl | 1, h => by cases h; kernel_rfl | (n + 2), h => by simp [ti76, nth] at h), (fun n h => nomatch h), (fun r h => nomatch h), (fun r h => by cases h; kernel_rfl)⟩
def ti77 : TI := ⟨13, true, none, none, (some [.int .u8 0, .int .u8 0, .int .u8 0, .int .u8 0, .int .u8 0, .int .u8 0, .int .u8 0, .int .u8 0, .int .u8 0, .int .u8 0, .int .u8 0, .int .u8 0, .nilsl]), (some (.st [(0, 12), (12, 1)])), 40, .other, [(0, 12, 74), (12, 1, 75)], none, none, (some (.agg [.int .u8 0, .int .u8 0, .int .u8 0, .int .u8 0, .int .u8 0, .int .u8 0, .int .u8 0, .int .u8 0, .int .u8 0, .int .u8 0, .int .u8 0, .int .u8 0, .nilsl]))⟩
theorem ok77 : TIOk Try.prog 77 ti77 := ⟨(by kernel_rfl), (by kernel_rfl), (fun r h => nomatch h), (fun r h => nomatch h), (fun r h => by cases h; kernel_rfl), (fun r h => by cases h; kernel_rfl), (by kernel_rfl), (fun h => nomatch h), (fun h => nomatch h), (fun k h => nomatch h), (fun f r h => match f, h with | 0, h => by cases h; kernel_rfl | 1, h => by cases h; kernel_rfl | (n + 2), h => by simp [ti77, nth] at h), (fun n h => nomatch h), (fun r h => nomatch h), (fun r h => by cases h; kernel_rfl)⟩
def ti78 : TI := ⟨2, true, none, (some (2, 5, 1)), (some [.int .u8 0, .int .u8 0]), (some (.ar 1)), 2, .other, [], none, none, (some (.agg [.int .u8 0, .int .u8 0]))⟩
theorem ok78 : TIOk Try.prog 78 ti78 := ⟨(by kernel_rfl), (by kernel_rfl), (fun r h => nomatch h), (fun r h => by cases h; kernel_rfl), (fun r h => by cases h; kernel_rfl), (fun r h => by cases h; kernel_rfl), (by kernel_rfl), (fun h => nomatch h), (fun h => nomatch h), (fun k h => nomatch h), (fun f r h => nomatch h), (fun n h => nomatch h), (fun r h => nomatch h), (fun r h => by cases h; kernel_rfl)⟩
def ti79 : TI := ⟨1, false, none, none, (some [.int .u16 0]), none, 2, (.int .u16), [], none, none, (some (.int .u16 0))⟩
theorem ok79 : TIOk Try.prog 79 ti79 := ⟨(by kernel_rfl), (by kernel_rfl), (fun r h => nomatch h), (fun r h => nomatch h), (fun r h => by cases h; kernel_rfl), (fun r h => nomatch h), (by kernel_rfl), (fun h => nomatch h), (fun h => nomatch h), (fun k h => by cases h; kernel_rfl), (fun f r h => nomatch h), (fun n h => nomatch h), (fun r h => nomatch h), (fun r h => by cases h; kernel_rfl)⟩
def ti80 : TI := ⟨1, false, none, none, (some [.nilfn]), none, 8, .other, [], none, none, (some (.nilfn))⟩
theorem ok80 : TIOk Try.prog 80 ti80 := ⟨(by kernel_rfl), (by kernel_rfl), (fun r h => nomatch h), (fun r h => nomatch h), (fun r h => by cases h; kernel_rfl), (fun r h => nomatch h), (by kernel_rfl), (fun h => nomatch h), (fun h => nomatch h), (fun k h => nomatch h), (fun f r h => nomatch h), (fun n h => nomatch h), (fun r h => nomatch h), (fun r h => by cases h; kernel_rfl)⟩
def ti81 : TI := ⟨1, false, (some (87, 2)), none, (some [.nilsl]), none, 24, .other, [], none, none, (some (.nilsl))⟩
theorem ok81 : TIOk Try.prog 81 ti81 := ⟨(by kernel_rfl), (by kernel_rfl), (fun r h => by cases h; kernel_rfl), (fun r h => nomatch h), (fun r h => by cases h; kernel_rfl), (fun r h => nomatch h), (by kernel_rfl), (fun h => nomatch h), (fun h => nomatch h), (fun k h => nomatch h), (fun f r h => nomatch h), (fun n h => nomatch h), (fun r h => nomatch h), (fun r h => by cases h; kernel_rfl)⟩
def ti82 : TI := ⟨1, false, none, none, (some [.nilfn]), none, 8, .other, [], none, none, (some (.nilfn))⟩
theorem ok82 : TIOk Try.prog 82 ti82 := ⟨(by kernel_rfl), (by kernel_rfl), (fun r h => nomatch h), (fun r h => nomatch h), (fun r h => by cases h; kernel_rfl), (fun r h => nomatch h), (by kernel_rfl), (fun h => nomatch h), (fun h => nomatch h), (fun k h => nomatch h), (fun f r h => nomatch h), (fun n h => nomatch h), (fun r h => nomatch h), (fun r h => by cases h; kernel_rfl)⟩
def ti83 : TI := ⟨4, true, none, (some (4, 3, 1)), (some [.int .i64 0, .int .i64 0, .int .i64 0, .int .i64 0]), (some (.ar 1)), 32, .other, [], none, none, (some (.agg [.int .i64 0, .int .i64 0, .int .i64 0, .int .i64 0]))⟩
theorem ok83 : TIOk Try.prog 83 ti83 := ⟨(by kernel_rfl), (by kernel_rfl), (fun r h => nomatch h), (fun r h => by cases h; kernel_rfl), (fun r h => by cases h; kernel_rfl), (fun r h => by cases h; kernel_rfl), (by kernel_rfl), (fun h => nomatch h), (fun h => nomatch h), (fun k h => nomatch h), (fun f r h => nomatch h), (fun n h => nomatch h), (fun r h => nomatch h), (fun r h => by cases h; kernel_rfl)⟩
def ti84 : TI := ⟨1, false, none, none, (some [.nilfn]), none, 8, .other, [], none, none, (some (.nilfn))⟩
theorem ok84 : TIOk Try.prog 84 ti84 := ⟨(by kernel_rfl), (by kernel_rfl), (fun r h => nomatch h), (fun r h => nomatch h), (fun r h => by cases h; kernel_rfl), (fun r h => nomatch h), (by kernel_rfl), (fun h => nomatch h), (fun h => nomatch h), (fun k h => nomatch h), (fun f r h => nomatch h), (fun n h => nomatch h), (fun r h => nomatch h), (fun r h => by cases h; kernel_rfl)⟩
def ti85 : TI := ⟨1, false, none, none, (some [.nilfn]), none, 8, .other, [], none, none, (some (.nilfn))⟩
theorem ok85 : TIOk Try.prog 85 ti85 := ⟨(by kernel_rfl), (by kernel_rfl), (fun r h => nomatch h), (fun r h => nomatch h), (fun r h => by cases h; kernel_rfl), (fun r h => nomatch h), (by kernel_rfl), (fun h => nomatch h), (fun h => nomatch h), (fun k h => nomatch h), (fun f r h => nomatch h), (fun n h => nomatch h), (fun r h => nomatch h), (fun r h => by cases h; kernel_rfl)⟩
def ti86 : TI := ⟨1, false, none, none, (some [.nilfn]), none, 8, .other, [], none, none, (some (.nilfn))⟩
theorem ok86 : TIOk Try.prog 86 ti86 := ⟨(by kernel_rfl), (by kernel_rfl), (fun r h => nomatch h), (fun r h => nomatch h), (fun r h => by cases h; kernel_rfl), (fun r h => nomatch h), (by kernel_rfl), (fun h => nomatch h), (fun h => nomatch h), (fun k h => nomatch h), (fun f r h => nomatch h), (fun n h => nomatch h), (fun r h => nomatch h), (fun r h => by cases h; kernel_rfl)⟩
def ti87 : TI := ⟨2, true, none, (some (2, 3, 1)), (some [.int .i64 0, .int .i64 0]), (some (.ar 1)), 16, .other, [], none, none, (some (.agg [.int .i64 0, .int .i64 0]))⟩
theorem ok87 : TIOk Try.prog 87 ti87 := ⟨(by kernel_rfl), (by kernel_rfl), (fun r h => nomatch h), (fun r h => by cases h; kernel_rfl), (fun r h => by cases h; kernel_rfl), (fun r h => by cases h; kernel_rfl), (by kernel_rfl), (fun h => nomatch h), (fun h => nomatch h), (fun k h => nomatch h), (fun f r h => nomatch h), (fun n h => nomatch h), (fun r h => nomatch h), (fun r h => by cases h; kernel_rfl)⟩
def ti88 : TI := ⟨1, false, none, none, (some [.nilfn]), none, 8, .other, [], none, none, (some (.nilfn))⟩
theorem ok88 : TIOk Try.prog 88 ti88 := ⟨(by kernel_rfl), (by kernel_rfl), (fun r h => nomatch h), (fun r h => nomatch h), (fun r h => by cases h; kernel_rfl), (fun r h => nomatch h), (by kernel_rfl), (fun h => nomatch h), (fun h => nomatch h), (fun k h => nomatch h), (fun f r h => nomatch h), (fun n h => nomatch h), (fun r h => nomatch h), (fun r h => by cases h; kernel_rfl)⟩
def ti89 : TI := ⟨3, true, none, (some (3, 5, 1)), (some [.int .u8 0, .int .u8 0, .int .u8 0]), (some (.ar 1)), 3, .other, [], none, none, (some (.agg [.int .u8 0, .int .u8 0, .int .u8 0]))⟩
theorem ok89 : TIOk Try.prog 89 ti89 := ⟨(by kernel_rfl), (by kernel_rfl), (fun r h => nomatch h), (fun r h => by cases h; kernel_rfl), (fun r h => by cases h; kernel_rfl), (fun r h => by cases h; kernel_rfl), (by kernel_rfl), (fun h => nomatch h), (fun h => nomatch h), (fun k h => nomatch h), (fun f r h => nomatch h), (fun n h => nomatch h), (fun r h => nomatch h), (fun r h => by cases h; kernel_rfl)⟩
def ti90 : TI := ⟨1, false, none, none, (some [.nilfn]), none, 8, .other, [], none, none, (some (.nilfn))⟩
theorem ok90 : TIOk Try.prog 90 ti90 := ⟨(by kernel_rfl), (by kernel_rfl), (fun r h => nomatch h), (fun r h => nomatch h), (fun r h => by cases h; kernel_rfl), (fun r h => nomatch h), (by kernel_rfl), (fun h => nomatch h), (fun h => nomatch h), (fun k h => nomatch h), (fun f r h => nomatch h), (fun n h => nomatch h), (fun r h => nomatch h), (fun r h => by cases h; kernel_rfl)⟩
def ti91 : TI := ⟨8, true, none, (some (2, 49, 4)), (some [.int .i64 0, .int .i64 0, .int .i64 0, .int .i64 0, .int .i64 0, .int .i64 0, .int .i64 0, .int .i64 0]), (some (.ar 4)), 64, .other, [], none, none, (some (.agg [.int .i64 0, .int .i64 0, .int .i64 0, .int .i64 0, .int .i64 0, .int .i64 0, .int .i64 0, .int .i64 0]))⟩
theorem ok91 : TIOk Try.prog 91 ti91 := ⟨(by kernel_rfl), (by kernel_rfl), (fun r h => nomatch h), (fun r h => by cases h; kernel_rfl), (fun r h => by cases h; kernel_rfl), (fun r h => by cases h; kernel_rfl), (by kernel_rfl), (fun h => nomatch h), (fun h => nomatch h), (fun k h => nomatch h), (fun f r h => nomatch h), (fun n h => nomatch h), (fun r h => nomatch h), (fun r h => by cases h; kernel_rfl)⟩
def ti92 : TI := ⟨1, false, none, none, (some [.nilfn]), none, 8, .other, [], none, none, (some (.nilfn))⟩
theorem ok92 : TIOk Try.prog 92 ti92 := ⟨(by kernel_rfl), (by kernel_rfl), (fun r h => nomatch h), (fun r h => nomatch h), (fun r h => by cases h; kernel_rfl), (fun r h => nomatch h), (by kernel_rfl), (fun h => nomatch h), (fun h => nomatch h), (fun k h => nomatch h), (fun f r h => nomatch h), (fun n h => nomatch h), (fun r h => nomatch h), (fun r h => by cases h; kernel_rfl)⟩
def ti93 : TI := ⟨1, false, (some (78, 2)), none, (some [.nilsl]), none, 24, .other, [], none, none, (some (.nilsl))⟩
theorem ok93 : TIOk Try.prog 93 ti93 := ⟨(by kernel_rfl), (by kernel_rfl), (fun r h => by cases h; kernel_rfl), (fun r h => nomatch h), (fun r h => by cases h; kernel_rfl), (fun r h => nomatch h), (by kernel_rfl), (fun h => nomatch h), (fun h => nomatch h), (fun k h => nomatch h), (fun f r h => nomatch h), (fun n h => nomatch h), (fun r h => nomatch h), (fun r h => by cases h; kernel_rfl)⟩
def ti94 : TI := ⟨1, false, none, none, (some [.nilmap]), none, 8, .other, [], none, (some (3, 4)), (some (.nilmap))⟩
theorem ok94 : TIOk Try.prog 94 ti94 := ⟨(by kernel_rfl), (by kernel_rfl), (fun r h => nomatch h), (fun r h => nomatch h), (fun r h => by cases h; kernel_rfl), (fun r h => nomatch h), (by kernel_rfl), (fun h => nomatch h), (fun h => nomatch h), (fun k h => nomatch h), (fun f r h => nomatch h), (fun n h => nomatch h), (fun r h => by cases h; kernel_rfl), (fun r h => by cases h; kernel_rfl)⟩
def ti95 : TI := ⟨1, false, none, none, (some [.nilfn]), none, 8, .other, [], none, none, (some (.nilfn))⟩
theorem ok95 : TIOk Try.prog 95 ti95 := ⟨(by kernel_rfl), (by kernel_rfl), (fun r h => nomatch h), (fun r h => nomatch h), (fun r h => by cases h; kernel_rfl), (fun r h => nomatch h), (by kernel_rfl), (fun h => nomatch h), (fun h => nomatch h), (fun k h => nomatch h), (fun f r h => nomatch h), (fun n h => nomatch h), (fun r h => nomatch h), (fun r h => by cases h; kernel_rfl)⟩
def ti96 : TI := ⟨1, false, none, none, (some [.nilfn]), none, 8, .other, [], none, none, (some (.nilfn))⟩
theorem ok96 : TIOk Try.prog 96 ti96 := ⟨(by kernel_rfl), (by kernel_rfl), (fun r h => nomatch h), (fun r h => nomatch h), (fun r h => by cases h; kernel_rfl), (fun r h => nomatch h), (by kernel_rfl), (fun h => nomatch h), (fun h => nomatch h), (fun k h => nomatch h), (fun f r h => nomatch h), (fun n h => nomatch h), (fun r h => nomatch h), (fun r h => by cases h; kernel_rfl)⟩
def ti97 : TI := ⟨1, false, none, none, (some [.nilfn]), none, 8, .other, [], none, none, (some (.nilfn))⟩
theorem ok97 : TIOk Try.prog 97 ti97 := ⟨(by kernel_rfl), (by kernel_rfl), (fun r h => nomatch h), (fun r h => nomatch h), (fun r h => by cases h; kernel_rfl), (fun r h => nomatch h), (by kernel_rfl), (fun h => nomatch h), (fun h => nomatch h), (fun k h => nomatch h), (fun f r h => nomatch h), (fun n h => nomatch h), (fun r h => nomatch h), (fun r h => by cases h; kernel_rfl)⟩
def ti98 : TI := ⟨1, false, none, none, (some [.nilfn]), none, 8, .other, [], none, none, (some (.nilfn))⟩
theorem ok98 : TIOk Try.prog 98 ti98 := ⟨(by kernel_rfl), (by kernel_rfl), (fun r h => nomatch h), (fun r h => nomatch h), (fun r h => by cases h; kernel_rfl), (fun r h => nomatch h), (by kernel_rfl), (fun h => nomatch h), (fun h => nomatch h), (fun k h => nomatch h), (fun f r h => nomatch h), (fun n h => nomatch h), (fun r h => nomatch h), (fun r h => by cases h; kernel_rfl)⟩
def ti99 : TI := ⟨4, true, none, (some (2, 25, 2)), (some [.nilsl, .nilsl, .nilsl, .nilsl]), (some (.ar 2)), 96, .other, [], none, none, (some (.agg [.nilsl, .nilsl, .nilsl, .nilsl]))⟩
theorem ok99 : TIOk Try.prog 99 ti99 := ⟨(by kernel_rfl), (by kernel_rfl), (fun r h => nomatch h), (fun r h => by cases h; kernel_rfl), (fun r h => by cases h; kernel_rfl), (fun r h => by cases h; kernel_rfl), (by kernel_rfl), (fun h => nomatch h), (fun h => nomatch h), (fun k h => nomatch h), (fun f r h => nomatch h), (fun n h => nomatch h), (fun r h => nomatch h), (fun r h => by cases h; kernel_rfl)⟩
def ti100 : TI := ⟨1, false, none, none, (some [.nilfn]), none, 8, .other, [], none, none, (some (.nilfn))⟩
theorem ok100 : TIOk Try.prog 100 ti100 := ⟨(by kernel_rfl), (by kernel_rfl), (fun r h => nomatch h), (fun r h => nomatch h), (fun r h => by cases h; kernel_rfl), (fun r h => nomatch h), (by kernel_rfl), (fun h => nomatch h), (fun h => nomatch h), (fun k h => nomatch h), (fun f r h => nomatch h), (fun n h => nomatch h), (fun r h => nomatch h), (fun r h => by cases h; kernel_rfl)⟩
def ti101 : TI := ⟨1, false, none, none, (some [.nilfn]), none, 8, .other, [], none, none, (some (.nilfn))⟩
theorem ok101 : TIOk Try.prog 101 ti101 := ⟨(by kernel_rfl), (by kernel_rfl), (fun r h => nomatch h), (fun r h => nomatch h), (fun r h => by cases h; kernel_rfl), (fun r h => nomatch h), (by kernel_rfl), (fun h => nomatch h), (fun h => nomatch h), (fun k h => nomatch h), (fun f r h => nomatch h), (fun n h => nomatch h), (fun r h => nomatch h), (fun r h => by cases h; kernel_rfl)⟩
def ti102 : TI := ⟨1, false, none, none, (some [.nilfn]), none, 8, .other, [], none, none, (some (.nilfn))⟩
theorem ok102 : TIOk Try.prog 102 ti102 := ⟨(by kernel_rfl), (by kernel_rfl), (fun r h => nomatch h), (fun r h => nomatch h), (fun r h => by cases h; kernel_rfl), (fun r h => nomatch h), (by kernel_rfl), (fun h => nomatch h), (fun h => nomatch h), (fun k h => nomatch h), (fun f r h => nomatch h), (fun n h => nomatch h), (fun r h => nomatch h), (fun r h => by cases h; kernel_rfl)⟩
def ti103 : TI := ⟨3, true, none, (some (3, 3, 1)), (some [.int .i64 0, .int .i64 0, .int .i64 0]), (some (.ar 1)), 24, .other, [], none, none, (some (.agg [.int .i64 0, .int .i64 0, .int .i64 0]))⟩
theorem ok103 : TIOk Try.prog 103 ti103 := ⟨(by kernel_rfl), (by kernel_rfl), (fun r h => nomatch h), (fun r h => by cases h; kernel_rfl), (fun r h => by cases h; kernel_rfl), (fun r h => by cases h; kernel_rfl), (by kernel_rfl), (fun h => nomatch h), (fun h => nomatch h), (fun k h => nomatch h), (fun f r h => nomatch h), (fun n h => nomatch h), (fun r h => nomatch h), (fun r h => by cases h; kernel_rfl)⟩
def ti104 : TI := ⟨4, true, none, none, (some [.int .i64 0, .int .i64 0, .int .i64 0, .int .i64 0]), (some (.st [(0, 2), (2, 2)])), 32, .other, [(0, 2, 70), (2, 2, 70)], (some 4), none, (some (.agg [.int .i64 0, .int .i64 0, .int .i64 0, .int .i64 0]))⟩
theorem ok104 : TIOk Try.prog 104 ti104 := ⟨(by kernel_rfl), (by kernel_rfl), (fun r h => nomatch h), (fun r h => nomatch h), (fun r h => by cases h; kernel_rfl), (fun r h => by cases h; kernel_rfl), (by kernel_rfl), (fun h => nomatch h), (fun h => nomatch h), (fun k h => nomatch h), (fun f r h => match f, h with | 0, h => by cases h; kernel_rfl | 1, h => by cases h; kernel_rfl | (n + 2), h => by simp [ti104, nth] at h), (fun n h => by cases h; exact ⟨by kernel_rfl, by kernel_rfl, by kernel_rfl⟩), (fun r h => nomatch h), (fun r h => by cases h; kernel_rfl)⟩
def ti105 : TI := ⟨4, true, none, none, (some [.int .i64 0, .int .i64 0, .int .i64 0, .int .i64 0]), (some (.st [(0, 2), (2, 2)])), 32, .other, [(0, 2, 70), (2, 2, 70)], (some 4), none, (some (.agg [.int .i64 0, .int .i64 0, .int .i64 0, .int .i64 0]))⟩
theorem ok105 : TIOk Try.prog 105 ti105 := ⟨(by kernel_rfl), (by kernel_rfl), (fun r h => nomatch h), (fun r h => nomatch h), (fun r h => by cases h; kernel_rfl), (fun r h => by cases h; kernel_rfl), (by kernel_rfl), (fun h => nomatch h), (fun h => nomatch h), (fun k h => nomatch h), (fun f r h => match f, h with | 0, h => by cases h; kernel_rfl | 1, h => by cases h; kernel_rfl | (n + 2), h => by simp [ti105, nth] at h), (fun n h => by cases h; exact ⟨by kernel_rfl, by kernel_rfl, by kernel_rfl⟩), (fun r h => nomatch h), (fun r h => by cases h; kernel_rfl)⟩
def ti106 : TI := ⟨1, false, none, none, (some [.nilfn]), none, 8, .other, [], none, none, (some (.nilfn))⟩
theorem ok106 : TIOk Try.prog 106 ti106 := ⟨(by kernel_rfl), (by kernel_rfl), (fun r h => nomatch h), (fun r h => nomatch h), (fun r h => by cases h; kernel_rfl), (fun r h => nomatch h), (by kernel_rfl), (fun h => nomatch h), (fun h => nomatch h), (fun k h => nomatch h), (fun f r h => nomatch h), (fun n h => nomatch h), (fun r h => nomatch h), (fun r h => by cases h; kernel_rfl)⟩
def ti107 : TI := ⟨1, false, (some (122, 2)), none, (some [.nilsl]), none, 24, .other, [], none, none, (some (.nilsl))⟩
theorem ok107 : TIOk Try.prog 107 ti107 := ⟨(by kernel_rfl), (by kernel_rfl), (fun r h => by cases h; kernel_rfl), (fun r h => nomatch h), (fun r h => by cases h; kernel_rfl), (fun r h => nomatch h), (by kernel_rfl), (fun h => nomatch h), (fun h => nomatch h), (fun k h => nomatch h), (fun f r h => nomatch h), (fun n h => nomatch h), (fun r h => nomatch h), (fun r h => by cases h; kernel_rfl)⟩
def ti108 : TI := ⟨1, false, none, none, (some [.nilfn]), none, 8, .other, [], none, none, (some (.nilfn))⟩
theorem ok108 : TIOk Try.prog 108 ti108 := ⟨(by kernel_rfl), (by kernel_rfl), (fun r h => nomatch h), (fun r h => nomatch h), (fun r h => by cases h; kernel_rfl), (fun r h => nomatch h), (by kernel_rfl), (fun h => nomatch h), (fun h => nomatch h), (fun k h => nomatch h), (fun f r h => nomatch h), (fun n h => nomatch h), (fun r h => nomatch h), (fun r h => by cases h; kernel_rfl)⟩
def ti109 : TI := ⟨1, false, none, none, (some [.nilfn]), none, 8, .other, [], none, none, (some (.nilfn))⟩
theorem ok109 : TIOk Try.prog 109 ti109 := ⟨(by kernel_rfl), (by kernel_rfl), (fun r h => nomatch h), (fun r h => nomatch h), (fun r h => by cases h; kernel_rfl), (fun r h => nomatch h), (by kernel_rfl), (fun h => nomatch h), (fun h => nomatch h), (fun k h => nomatch h), (fun f r h => nomatch h), (fun n h => nomatch h), (fun r h => nomatch h), (fun r h => by cases h; kernel_rfl)⟩
def ti110 : TI := ⟨1, false, none, none, (some [.nilfn]), none, 8, .other, [], none, none, (some (.nilfn))⟩
theorem ok110 : TIOk Try.prog 110 ti110 := ⟨(by kernel_rfl), (by kernel_rfl), (fun r h => nomatch h), (fun r h => nomatch h), (fun r h => by cases h; kernel_rfl), (fun r h => nomatch h), (by kernel_rfl), (fun h => nomatch h), (fun h => nomatch h), (fun k h => nomatch h), (fun f r h => nomatch h), (fun n h => nomatch h), (fun r h => nomatch h), (fun r h => by cases h; kernel_rfl)⟩
def ti111 : TI := ⟨1, false, none, none, (some [.nilfn]), none, 8, .other, [], none, none, (some (.nilfn))⟩
theorem ok111 : TIOk Try.prog 111 ti111 := ⟨(by kernel_rfl), (by kernel_rfl), (fun r h => nomatch h), (fun r h => nomatch h), (fun r h => by cases h; kernel_rfl), (fun r h => nomatch h), (by kernel_rfl), (fun h => nomatch h), (fun h => nomatch h), (fun k h => nomatch h), (fun f r h => nomatch h), (fun n h => nomatch h), (fun r h => nomatch h), (fun r h => by cases h; kernel_rfl)⟩
def ti112 : TI := ⟨1, false, none, none, (some [.nilfn]), none, 8, .other, [], none, none, (some (.nilfn))⟩
theorem ok112 : TIOk Try.prog 112 ti112 := ⟨(by kernel_rfl), (by kernel_rfl), (fun r h => nomatch h), (fun r h => nomatch h), (fun r h => by cases h; kernel_rfl), (fun r h => nomatch h), (by kernel_rfl), (fun h => nomatch h), (fun h => nomatch h), (fun k h => nomatch h), (fun f r h => nomatch h), (fun n h => nomatch h), (fun r h => nomatch h), (fun r h => by cases h; kernel_rfl)⟩
def ti113 : TI := ⟨1, false, (some (120, 3)), none, (some [.nilsl]), none, 24, .other, [], none, none, (some (.nilsl))⟩
theorem ok113 : TIOk Try.prog 113 ti113 := ⟨(by kernel_rfl), (by kernel_rfl), (fun r h => by cases h; kernel_rfl), (fun r h => nomatch h), (fun r h => by cases h; kernel_rfl), (fun r h => nomatch h), (by kernel_rfl), (fun h => nomatch h), (fun h => nomatch h), (fun k h => nomatch h), (fun f r h => nomatch h), (fun n h => nomatch h), (fun r h => nomatch h), (fun r h => by cases h; kernel_rfl)⟩
def ti114 : TI := ⟨3, true, none, (some (3, 113, 1)), (some [.nilsl, .nilsl, .nilsl]), (some (.ar 1)), 72, .other, [], none, none, (some (.agg [.nilsl, .nilsl, .nilsl]))⟩
theorem ok114 : TIOk Try.prog 114 ti114 := ⟨(by kernel_rfl), (by kernel_rfl), (fun r h => nomatch h), (fun r h => by cases h; kernel_rfl), (fun r h => by cases h; kernel_rfl), (fun r h => by cases h; kernel_rfl), (by kernel_rfl), (fun h => nomatch h), (fun h => nomatch h), (fun k h => nomatch h), (fun f r h => nomatch h), (fun n h => nomatch h), (fun r h => nomatch h), (fun r h => by cases h; kernel_rfl)⟩
def ti115 : TI := ⟨3, true, none, (some (3, 113, 1)), (some [.nilsl, .nilsl, .nilsl]), (some (.ar 1)), 72, .other, [], none, none, (some (.agg [.nilsl, .nilsl, .nilsl]))⟩
theorem ok115 : TIOk Try.prog 115 ti115 := ⟨(by kernel_rfl), (by kernel_rfl), (fun r h => nomatch h), (fun r h => by cases h; kernel_rfl), (fun r h => by cases h; kernel_rfl), (fun r h => by cases h; kernel_rfl), (by kernel_rfl), (fun h => nomatch h), (fun h => nomatch h), (fun k h => nomatch h), (fun f r h => nomatch h), (fun n h => nomatch h), (fun r h => nomatch h), (fun r h => by cases h; kernel_rfl)⟩
def ti116 : TI := ⟨1, false, none, none, none, none, 0, .other, [], none, none, none⟩
theorem ok116 : TIOk Try.prog 116 ti116 := ⟨(by kernel_rfl), (by kernel_rfl), (fun r h => nomatch h), (fun r h => nomatch h), (fun r h => nomatch h), (fun r h => nomatch h), (by kernel_rfl), (fun h => nomatch h), (fun h => nomatch h), (fun k h => nomatch h), (fun f r h => nomatch h), (fun n h => nomatch h), (fun r h => nomatch h), (fun r h => nomatch h)⟩
def ti117 : TI := ⟨1, false, none, none, (some [.nilfn]), none, 8, .other, [], none, none, (some (.nilfn))⟩
theorem ok117 : TIOk Try.prog 117 ti117 := ⟨(by kernel_rfl), (by kernel_rfl), (fun r h => nomatch h), (fun r h => nomatch h), (fun r h => by cases h; kernel_rfl), (fun r h => nomatch h), (by kernel_rfl), (fun h => nomatch h), (fun h => nomatch h), (fun k h => nomatch h), (fun f r h => nomatch h), (fun n h => nomatch h), (fun r h => nomatch h), (fun r h => by cases h; kernel_rfl)⟩
def ti118 : TI := ⟨1, false, none, none, (some [.nilfn]), none, 8, .other, [], none, none, (some (.nilfn))⟩
theorem ok118 : TIOk Try.prog 118 ti118 := ⟨(by kernel_rfl), (by kernel_rfl), (fun r h => nomatch h), (fun r h => nomatch h), (fun r h => by cases h; kernel_rfl), (fun r h => nomatch h), (by kernel_rfl), (fun h => nomatch h), (fun h => nomatch h), (fun k h => nomatch h), (fun f r h => nomatch h), (fun n h => nomatch h), (fun r h => nomatch h), (fun r h => by cases h; kernel_rfl)⟩
def ti119 : TI := ⟨3, true, none, none, (some [.int .i64 0, .int .i64 0, .int .i64 0]), (some (.st [(0, 2), (2, 1)])), 24, .other, [(0, 2, 70), (2, 1, 3)], (some 3), none, (some (.agg [.int .i64 0, .int .i64 0, .int .i64 0]))⟩
theorem ok119 : TIOk Try.prog 119 ti119 := ⟨(by kernel_rfl), (by kernel_rfl), (fun r h => nomatch h), (fun r h => nomatch h), (fun r h => by cases h; kernel_rfl), (fun r h => by cases h; kernel_rfl), (by kernel_rfl), (fun h => nomatch h), (fun h => nomatch h), (fun k h => nomatch h), (fun f r h => match f, h with | 0, h => by cases h; kernel_rfl | 1, h => by cases h; kernel_rfl | (n + 2), h => by simp [ti119, nth] at h), (fun n h => by cases h; exact ⟨by kernel_rfl, by kernel_rfl, by kernel_rfl⟩), (fun r h => nomatch h), (fun r h => by cases h; kernel_rfl)⟩
def ti120 : TI := ⟨3, true, none, none, (some [.int .i64 0, .int .i64 0, .int .i64 0]), (some (.st [(0, 2), (2, 1)])), 24, .other, [(0, 2, 70), (2, 1, 3)], (some 3), none, (some (.agg [.int .i64 0, .int .i64 0, .int .i64 0]))⟩
theorem ok120 : TIOk Try.prog 120 ti120 := ⟨(by kernel_rfl), (by kernel_rfl), (fun r h => nomatch h), (fun r h => nomatch h), (fun r h => by cases h; kernel_rfl), (fun r h => by cases h; kernel_rfl), (by kernel_rfl), (fun h => nomatch h), (fun h => nomatch h), (fun k h => nomatch h), (fun f r h => match f, h with | 0, h => by cases h; kernel_rfl | 1, h => by cases h; kernel_rfl | (n + 2), h => by simp [ti120, nth] at h), (fun n h => by cases h; exact ⟨by kernel_rfl, by kernel_rfl, by kernel_rfl⟩), (fun r h => nomatch h), (fun r h => by cases h; kernel_rfl)⟩
def ti121 : TI := ⟨2, true, none, none, (some [.int .i64 0, .int .i64 0]), (some (.st [(0, 1), (1, 1)])), 16, .other, [(0, 1, 3), (1, 1, 3)], (some 2), none, (some (.agg [.int .i64 0, .int .i64 0]))⟩
theorem ok121 : TIOk Try.prog 121 ti121 := ⟨(by kernel_rfl), (by kernel_rfl), (fun r h => nomatch h), (fun r h => nomatch h), (fun r h => by cases h; kernel_rfl), (fun r h => by cases h; kernel_rfl), (by kernel_rfl), (fun h => nomatch h), (fun h => nomatch h), (fun k h => nomatch h), (fun f r h => match f, h with | 0, h => by cases h; kernel_rfl | 1, h => by cases h; kernel_rfl | (n + 2), h => by simp [ti121, nth] at h), (fun n h => by cases h; exact ⟨by kernel_rfl, by kernel_rfl, by kernel_rfl⟩), (fun r h => nomatch h), (fun r h => by cases h; kernel_rfl)⟩
def ti122 : TI := ⟨2, true, none, none, (some [.int .i64 0, .int .i64 0]), (some (.st [(0, 1), (1, 1)])), 16, .other, [(0, 1, 3), (1, 1, 3)], (some 2), none, (some (.agg [.int .i64 0, .int .i64 0]))⟩
theorem ok122 : TIOk Try.prog 122 ti122 := ⟨(by kernel_rfl), (by kernel_rfl), (fun r h => nomatch h), (fun r h => nomatch h), (fun r h => by cases h; kernel_rfl), (fun r h => by cases h; kernel_rfl), (by kernel_rfl), (fun h => nomatch h), (fun h => nomatch h), (fun k h => nomatch h), (fun f r h => match f, h with | 0, h => by cases h; kernel_rfl | 1, h => by cases h; kernel_rfl | (n + 2), h => by simp [ti122, nth] at h), (fun n h => by cases h; exact ⟨by kernel_rfl, by kernel_rfl, by kernel_rfl⟩), (fun r h => nomatch h), (fun r h => by cases h; kernel_rfl)⟩
def ti123 : TI := ⟨1, false, none, none, (some [.nilfn]), none, 8, .other, [], none, none, (some (.nilfn))⟩
theorem ok123 : TIOk Try.prog 123 ti123 := ⟨(by kernel_rfl), (by kernel_rfl), (fun r h => nomatch h), (fun r h => nomatch h), (fun r h => by cases h; kernel_rfl), (fun r h => nomatch h), (by kernel_rfl), (fun h => nomatch h), (fun h => nomatch h), (fun k h => nomatch h), (fun f r h => nomatch h), (fun n h => nomatch h), (fun r h => nomatch h), (fun r h => by cases h; kernel_rfl)⟩
def ti124 : TI := ⟨1, false, none, none, (some [.nilfn]), none, 8, .other, [], none, none, (some (.nilfn))⟩
theorem ok124 : TIOk Try.prog 124 ti124 := ⟨(by kernel_rfl), (by kernel_rfl), (fun r h => nomatch h), (fun r h => nomatch h), (fun r h => by cases h; kernel_rfl), (fun r h => nomatch h), (by kernel_rfl), (fun h => nomatch h), (fun h => nomatch h), (fun k h => nomatch h), (fun f r h => nomatch h), (fun n h => nomatch h), (fun r h => nomatch h), (fun r h => by cases h; kernel_rfl)⟩
def ti125 : TI := ⟨1, false, none, none, (some [.nilfn]), none, 8, .other, [], none, none, (some (.nilfn))⟩
theorem ok125 : TIOk Try.prog 125 ti125 := ⟨(by kernel_rfl), (by kernel_rfl), (fun r h => nomatch h), (fun r h => nomatch h), (fun r h => by cases h; kernel_rfl), (fun r h => nomatch h), (by kernel_rfl), (fun h => nomatch h), (fun h => nomatch h), (fun k h => nomatch h), (fun f r h => nomatch h), (fun n h => nomatch h), (fun r h => nomatch h), (fun r h => by cases h; kernel_rfl)⟩
def ti126 : TI := ⟨1, false, none, none, (some [.nilfn]), none, 8, .other, [], none, none, (some (.nilfn))⟩
theorem ok126 : TIOk Try.prog 126 ti126 := ⟨(by kernel_rfl), (by kernel_rfl), (fun r h => nomatch h), (fun r h => nomatch h), (fun r h => by cases h; kernel_rfl), (fun r h => nomatch h), (by kernel_rfl), (fun h => nomatch h), (fun h => nomatch h), (fun k h => nomatch h), (fun f r h => nomatch h), (fun n h => nomatch h), (fun r h => nomatch h), (fun r h => by cases h; kernel_rfl)⟩
def ti127 : TI := ⟨1, false, none, none, (some [.nilfn]), none, 8, .other, [], none, none, (some (.nilfn))⟩
theorem ok127 : TIOk Try.prog 127 ti127 := ⟨(by kernel_rfl), (by kernel_rfl), (fun r h => nomatch h), (fun r h => nomatch h), (fun r h => by cases h; kernel_rfl), (fun r h => nomatch h), (by kernel_rfl), (fun h => nomatch h), (fun h => nomatch h), (fun k h => nomatch h), (fun f r h => nomatch h), (fun n h => nomatch h), (fun r h => nomatch h), (fun r h => by cases h; kernel_rfl)⟩
def ti128 : TI := ⟨1, false, none, none, (some [.nilfn]), none, 8, .other, [], none, none, (some (.nilfn))⟩
theorem ok128 : TIOk Try.prog 128 ti128 := ⟨(by kernel_rfl), (by kernel_rfl), (fun r h => nomatch h), (fun r h => nomatch h), (fun r h => by cases h; kernel_rfl), (fun r h => nomatch h), (by kernel_rfl), (fun h => nomatch h), (fun h => nomatch h), (fun k h => nomatch h), (fun f r h => nomatch h), (fun n h => nomatch h), (fun r h => nomatch h), (fun r h => by cases h; kernel_rfl)⟩
def ti129 : TI := ⟨1, false, none, none, (some [.nilfn]), none, 8, .other, [], none, none, (some (.nilfn))⟩
theorem ok129 : TIOk Try.prog 129 ti129 := ⟨(by kernel_rfl), (by kernel_rfl), (fun r h => nomatch h), (fun r h => nomatch h), (fun r h => by cases h; kernel_rfl), (fun r h => nomatch h), (by kernel_rfl), (fun h => nomatch h), (fun h => nomatch h), (fun k h => nomatch h), (fun f r h => nomatch h), (fun n h => nomatch h), (fun r h => nomatch h), (fun r h => by cases h; kernel_rfl)⟩
def ti130 : TI := ⟨1, false, (some (56, 1)), none, (some [.nilsl]), none, 24, .other, [], none, none, (some (.nilsl))⟩
theorem ok130 : TIOk Try.prog 130 ti130 := ⟨(by kernel_rfl), (by kernel_rfl), (fun r h => by cases h; kernel_rfl), (fun r h => nomatch h), (fun r h => by cases h; kernel_rfl), (fun r h => nomatch h), (by kernel_rfl), (fun h => nomatch h), (fun h => nomatch h), (fun k h => nomatch h), (fun f r h => nomatch h), (fun n h => nomatch h), (fun r h => nomatch h), (fun r h => by cases h; kernel_rfl)⟩
def ti131 : TI := ⟨1, false, none, none, (some [.nilfn]), none, 8, .other, [], none, none, (some (.nilfn))⟩
theorem ok131 : TIOk Try.prog 131 ti131 := ⟨(by kernel_rfl), (by kernel_rfl), (fun r h => nomatch h), (fun r h => nomatch h), (fun r h => by cases h; kernel_rfl), (fun r h => nomatch h), (by kernel_rfl), (fun h => nomatch h), (fun h => nomatch h), (fun k h => nomatch h), (fun f r h => nomatch h), (fun n h => nomatch h), (fun r h => nomatch h), (fun r h => by cases h; kernel_rfl)⟩
def ti132 : TI := ⟨1, false, none, none, (some [.nilfn]), none, 8, .other, [], none, none, (some (.nilfn))⟩
theorem ok132 : TIOk Try.prog 132 ti132 := ⟨(by kernel_rfl), (by kernel_rfl), (fun r h => nomatch h), (fun r h => nomatch h), (fun r h => by cases h; kernel_rfl), (fun r h => nomatch h), (by kernel_rfl), (fun h => nomatch h), (fun h => nomatch h), (fun k h => nomatch h), (fun f r h => nomatch h), (fun n h => nomatch h), (fun r h => nomatch h), (fun r h => by cases h; kernel_rfl)⟩
def ti133 : TI := ⟨1, false, none, none, (some [.nilfn]), none, 8, .other, [], none, none, (some (.nilfn))⟩
theorem ok133 : TIOk Try.prog 133 ti133 := ⟨(by kernel_rfl), (by kernel_rfl), (fun r h => nomatch h), (fun r h => nomatch h), (fun r h => by cases h; kernel_rfl), (fun r h => nomatch h), (by kernel_rfl), (fun h => nomatch h), (fun h => nomatch h), (fun k h => nomatch h), (fun f r h => nomatch h), (fun n h => nomatch h), (fun r h => nomatch h), (fun r h => by cases h; kernel_rfl)⟩
def ti134 : TI := ⟨1, false, none, none, (some [.nilfn]), none, 8, .other, [], none, none, (some (.nilfn))⟩
theorem ok134 : TIOk Try.prog 134 ti134 := ⟨(by kernel_rfl), (by kernel_rfl), (fun r h => nomatch h), (fun r h => nomatch h), (fun r h => by cases h; kernel_rfl), (fun r h => nomatch h), (by kernel_rfl), (fun h => nomatch h), (fun h => nomatch h), (fun k h => nomatch h), (fun f r h => nomatch h), (fun n h => nomatch h), (fun r h => nomatch h), (fun r h => by cases h; kernel_rfl)⟩
def ti135 : TI := ⟨1, false, none, none, (some [.nilfn]), none, 8, .other, [], none, none, (some (.nilfn))⟩
theorem ok135 : TIOk Try.prog 135 ti135 := ⟨(by kernel_rfl), (by kernel_rfl), (fun r h => nomatch h), (fun r h => nomatch h), (fun r h => by cases h; kernel_rfl), (fun r h => nomatch h), (by kernel_rfl), (fun h => nomatch h), (fun h => nomatch h), (fun k h => nomatch h), (fun f r h => nomatch h), (fun n h => nomatch h), (fun r h => nomatch h), (fun r h => by cases h; kernel_rfl)⟩
def ti136 : TI := ⟨1, false, none, none, (some [.nilfn]), none, 8, .other, [], none, none, (some (.nilfn))⟩
theorem ok136 : TIOk Try.prog 136 ti136 := ⟨(by kernel_rfl), (by kernel_rfl), (fun r h => nomatch h), (fun r h => nomatch h), (fun r h => by cases h; kernel_rfl), (fun r h => nomatch h), (by kernel_rfl), (fun h => nomatch h), (fun h => nomatch h), (fun k h => nomatch h), (fun f r h => nomatch h), (fun n h => nomatch h), (fun r h => nomatch h), (fun r h => by cases h; kernel_rfl)⟩
def ti137 : TI := ⟨1, false, none, none, (some [.nilfn]), none, 8, .other, [], none, none, (some (.nilfn))⟩
theorem ok137 : TIOk Try.prog 137 ti137 := ⟨(by kernel_rfl), (by kernel_rfl), (fun r h => nomatch h), (fun r h => nomatch h), (fun r h => by cases h; kernel_rfl), (fun r h => nomatch h), (by kernel_rfl), (fun h => nomatch h), (fun h => nomatch h), (fun k h => nomatch h), (fun f r h => nomatch h), (fun n h => nomatch h), (fun r h => nomatch h), (fun r h => by cases h; kernel_rfl)⟩
def ti138 : TI := ⟨9, true, none, (some (3, 115, 3)), (some [.nilsl, .nilsl, .nilsl, .nilsl, .nilsl, .nilsl, .nilsl, .nilsl, .nilsl]), (some (.ar 3)), 216, .other, [], none, none, (some (.agg [.nilsl, .nilsl, .nilsl, .nilsl, .nilsl, .nilsl, .nilsl, .nilsl, .nilsl]))⟩
theorem ok138 : TIOk Try.prog 138 ti138 := ⟨(by kernel_rfl), (by kernel_rfl), (fun r h => nomatch h), (fun r h => by cases h; kernel_rfl), (fun r h => by cases h; kernel_rfl), (fun r h => by cases h; kernel_rfl), (by kernel_rfl), (fun h => nomatch h), (fun h => nomatch h), (fun k h => nomatch h), (fun f r h => nomatch h), (fun n h => nomatch h), (fun r h => nomatch h), (fun r h => by cases h; kernel_rfl)⟩
def ti139 : TI := ⟨6, true, none, (some (3, 25, 2)), (some [.nilsl, .nilsl, .nilsl, .nilsl, .nilsl, .nilsl]), (some (.ar 2)), 144, .other, [], none, none, (some (.agg [.nilsl, .nilsl, .nilsl, .nilsl, .nilsl, .nilsl]))⟩
theorem ok139 : TIOk Try.prog 139 ti139 := ⟨(by kernel_rfl), (by kernel_rfl), (fun r h => nomatch h), (fun r h => by cases h; kernel_rfl), (fun r h => by cases h; kernel_rfl), (fun r h => by cases h; kernel_rfl), (by kernel_rfl), (fun h => nomatch h), (fun h => nomatch h), (fun k h => nomatch h), (fun f r h => nomatch h), (fun n h => nomatch h), (fun r h => nomatch h), (fun r h => by cases h; kernel_rfl)⟩
def ti140 : TI := ⟨1, false, none, none, (some [.nilfn]), none, 8, .other, [], none, none, (some (.nilfn))⟩
theorem ok140 : TIOk Try.prog 140 ti140 := ⟨(by kernel_rfl), (by kernel_rfl), (fun r h => nomatch h), (fun r h => nomatch h), (fun r h => by cases h; kernel_rfl), (fun r h => nomatch h), (by kernel_rfl), (fun h => nomatch h), (fun h => nomatch h), (fun k h => nomatch h), (fun f r h => nomatch h), (fun n h => nomatch h), (fun r h => nomatch h), (fun r h => by cases h; kernel_rfl)⟩
def ti141 : TI := ⟨1, false, none, none, (some [.nilfn]), none, 8, .other, [], none, none, (some (.nilfn))⟩
theorem ok141 : TIOk Try.prog 141 ti141 := ⟨(by kernel_rfl), (by kernel_rfl), (fun r h => nomatch h), (fun r h => nomatch h), (fun r h => by cases h; kernel_rfl), (fun r h => nomatch h), (by kernel_rfl), (fun h => nomatch h), (fun h => nomatch h), (fun k h => nomatch h), (fun f r h => nomatch h), (fun n h => nomatch h), (fun r h => nomatch h), (fun r h => by cases h; kernel_rfl)⟩
def ti142 : TI := ⟨1, false, none, none, (some [.nilfn]), none, 8, .other, [], none, none, (some (.nilfn))⟩
theorem ok142 : TIOk Try.prog 142 ti142 := ⟨(by kernel_rfl), (by kernel_rfl), (fun r h => nomatch h), (fun r h => nomatch h), (fun r h => by cases h; kernel_rfl), (fun r h => nomatch h), (by kernel_rfl), (fun h => nomatch h), (fun h => nomatch h), (fun k h => nomatch h), (fun f r h => nomatch h), (fun n h => nomatch h), (fun r h => nomatch h), (fun r h => by cases h; kernel_rfl)⟩
def ti143 : TI := ⟨1, false, none, none, (some [.nilfn]), none, 8, .other, [], none, none, (some (.nilfn))⟩
theorem ok143 : TIOk Try.prog 143 ti143 := ⟨(by kernel_rfl), (by kernel_rfl), (fun r h => nomatch h), (fun r h => nomatch h), (fun r h => by cases h; kernel_rfl), (fun r h => nomatch h), (by kernel_rfl), (fun h => nomatch h), (fun h => nomatch h), (fun k h => nomatch h), (fun f r h => nomatch h), (fun n h => nomatch h), (fun r h => nomatch h), (fun r h => by cases h; kernel_rfl)⟩
def ti144 : TI := ⟨1, false, none, none, (some [.nilfn]), none, 8, .other, [], none, none, (some (.nilfn))⟩
theorem ok144 : TIOk Try.prog 144 ti144 := ⟨(by kernel_rfl), (by kernel_rfl), (fun r h => nomatch h), (fun r h => nomatch h), (fun r h => by cases h; kernel_rfl), (fun r h => nomatch h), (by kernel_rfl), (fun h => nomatch h), (fun h => nomatch h), (fun k h => nomatch h), (fun f r h => nomatch h), (fun n h => nomatch h), (fun r h => nomatch h), (fun r h => by cases h; kernel_rfl)⟩
def ti145 : TI := ⟨1, false, none, none, (some [.nilfn]), none, 8, .other, [], none, none, (some (.nilfn))⟩
theorem ok145 : TIOk Try.prog 145 ti145 := ⟨(by kernel_rfl), (by kernel_rfl), (fun r h => nomatch h), (fun r h => nomatch h), (fun r h => by cases h; kernel_rfl), (fun r h => nomatch h), (by kernel_rfl), (fun h => nomatch h), (fun h => nomatch h), (fun k h => nomatch h), (fun f r h => nomatch h), (fun n h => nomatch h), (fun r h => nomatch h), (fun r h => by cases h; kernel_rfl)⟩
def ti146 : TI := ⟨1, false, none, none, (some [.nilfn]), none, 8, .other, [], none, none, (some (.nilfn))⟩
theorem ok146 : TIOk Try.prog 146 ti146 := ⟨(by kernel_rfl), (by kernel_rfl), (fun r h => nomatch h), (fun r h => nomatch h), (fun r h => by cases h; kernel_rfl), (fun r h => nomatch h), (by kernel_rfl), (fun h => nomatch h), (fun h => nomatch h), (fun k h => nomatch h), (fun f r h => nomatch h), (fun n h => nomatch h), (fun r h => nomatch h), (fun r h => by cases h; kernel_rfl)⟩
def ti147 : TI := ⟨1, false, none, none, (some [.nilfn]), none, 8, .other, [], none, none, (some (.nilfn))⟩
theorem ok147 : TIOk Try.prog 147 ti147 := ⟨(by kernel_rfl), (by kernel_rfl), (fun r h => nomatch h), (fun r h => nomatch h), (fun r h => by cases h; kernel_rfl), (fun r h => nomatch h), (by kernel_rfl), (fun h => nomatch h), (fun h => nomatch h), (fun k h => nomatch h), (fun f r h => nomatch h), (fun n h => nomatch h), (fun r h => nomatch h), (fun r h => by cases h; kernel_rfl)⟩
def ti148 : TI := ⟨1, false, none, none, (some [.nilfn]), none, 8, .other, [], none, none, (some (.nilfn))⟩
theorem ok148 : TIOk Try.prog 148 ti148 := ⟨(by kernel_rfl), (by kernel_rfl), (fun r h => nomatch h), (fun r h => nomatch h), (fun r h => by cases h; kernel_rfl), (fun r h => nomatch h), (by kernel_rfl), (fun h => nomatch h), (fun h => nomatch h), (fun k h => nomatch h), (fun f r h => nomatch h), (fun n h => nomatch h), (fun r h => nomatch h), (fun r h => by cases h; kernel_rfl)⟩
def ti149 : TI := ⟨1, false, none, none, (some [.nilfn]), none, 8, .other, [], none, none, (some (.nilfn))⟩
theorem ok149 : TIOk Try.prog 149 ti149 := ⟨(by kernel_rfl), (by kernel_rfl), (fun r h => nomatch h), (fun r h => nomatch h), (fun r h => by cases h; kernel_rfl), (fun r h => nomatch h), (by kernel_rfl), (fun h => nomatch h), (fun h => nomatch h), (fun k h => nomatch h), (fun f r h => nomatch h), (fun n h => nomatch h), (fun r h => nomatch h), (fun r h => by cases h; kernel_rfl)⟩
def ti150 : TI := ⟨1, false, none, none, (some [.nilfn]), none, 8, .other, [], none, none, (some (.nilfn))⟩
theorem ok150 : TIOk Try.prog 150 ti150 := ⟨(by kernel_rfl), (by kernel_rfl), (fun r h => nomatch h), (fun r h => nomatch h), (fun r h => by cases h; kernel_rfl), (fun r h => nomatch h), (by kernel_rfl), (fun h => nomatch h), (fun h => nomatch h), (fun k h => nomatch h), (fun f r h => nomatch h), (fun n h => nomatch h), (fun r h => nomatch h), (fun r h => by cases h; kernel_rfl)⟩
def ti151 : TI := ⟨1, false, none, none, (some [.nilfn]), none, 8, .other, [], none, none, (some (.nilfn))⟩
theorem ok151 : TIOk Try.prog 151 ti151 := ⟨(by kernel_rfl), (by kernel_rfl), (fun r h => nomatch h), (fun r h => nomatch h), (fun r h => by cases h; kernel_rfl), (fun r h => nomatch h), (by kernel_rfl), (fun h => nomatch h), (fun h => nomatch h), (fun k h => nomatch h), (fun f r h => nomatch h), (fun n h => nomatch h), (fun r h => nomatch h), (fun r h => by cases h; kernel_rfl)⟩
def ti152 : TI := ⟨1, false, none, none, (some [.nilfn]), none, 8, .other, [], none, none, (some (.nilfn))⟩
theorem ok152 : TIOk Try.prog 152 ti152 := ⟨(by kernel_rfl), (by kernel_rfl), (fun r h => nomatch h), (fun r h => nomatch h), (fun r h => by cases h; kernel_rfl), (fun r h => nomatch h), (by kernel_rfl), (fun h => nomatch h), (fun h => nomatch h), (fun k h => nomatch h), (fun f r h => nomatch h), (fun n h => nomatch h), (fun r h => nomatch h), (fun r h => by cases h; kernel_rfl)⟩
def ti153 : TI := ⟨1, false, none, none, (some [.nilfn]), none, 8, .other, [], none, none, (some (.nilfn))⟩
theorem ok153 : TIOk Try.prog 153 ti153 := ⟨(by kernel_rfl), (by kernel_rfl), (fun r h => nomatch h), (fun r h => nomatch h), (fun r h => by cases h; kernel_rfl), (fun r h => nomatch h), (by kernel_rfl), (fun h => nomatch h), (fun h => nomatch h), (fun k h => nomatch h), (fun f r h => nomatch h), (fun n h => nomatch h), (fun r h => nomatch h), (fun r h => by cases h; kernel_rfl)⟩
def ti154 : TI := ⟨1, false, none, none, (some [.nilfn]), none, 8, .other, [], none, none, (some (.nilfn))⟩
theorem ok154 : TIOk Try.prog 154 ti154 := ⟨(by kernel_rfl), (by kernel_rfl), (fun r h => nomatch h), (fun r h => nomatch h), (fun r h => by cases h; kernel_rfl), (fun r h => nomatch h), (by kernel_rfl), (fun h => nomatch h), (fun h => nomatch h), (fun k h => nomatch h), (fun f r h => nomatch h), (fun n h => nomatch h), (fun r h => nomatch h), (fun r h => by cases h; kernel_rfl)⟩
def ti155 : TI := ⟨1, false, none, none, (some [.nilfn]), none, 8, .other, [], none, none, (some (.nilfn))⟩
theorem ok155 : TIOk Try.prog 155 ti155 := ⟨(by kernel_rfl), (by kernel_rfl), (fun r h => nomatch h), (fun r h => nomatch h), (fun r h => by cases h; kernel_rfl), (fun r h => nomatch h), (by kernel_rfl), (fun h => nomatch h), (fun h => nomatch h), (fun k h => nomatch h), (fun f r h => nomatch h), (fun n h => nomatch h), (fun r h => nomatch h), (fun r h => by cases h; kernel_rfl)⟩
def ti156 : TI := ⟨1, false, none, none, (some [.nilfn]), none, 8, .other, [], none, none, (some (.nilfn))⟩
theorem ok156 : TIOk Try.prog 156 ti156 := ⟨(by kernel_rfl), (by kernel_rfl), (fun r h => nomatch h), (fun r h => nomatch h), (fun r h => by cases h; kernel_rfl), (fun r h => nomatch h), (by kernel_rfl), (fun h => nomatch h), (fun h => nomatch h), (fun k h => nomatch h), (fun f r h => nomatch h), (fun n h => nomatch h), (fun r h => nomatch h), (fun r h => by cases h; kernel_rfl)⟩
def ti157 : TI := ⟨1, false, none, none, (some [.nilfn]), none, 8, .other, [], none, none, (some (.nilfn))⟩
theorem ok157 : TIOk Try.prog 157 ti157 := ⟨(by kernel_rfl), (by kernel_rfl), (fun r h => nomatch h), (fun r h => nomatch h), (fun r h => by cases h; kernel_rfl), (fun r h => nomatch h), (by kernel_rfl), (fun h => nomatch h), (fun h => nomatch h), (fun k h => nomatch h), (fun f r h => nomatch h), (fun n h => nomatch h), (fun r h => nomatch h), (fun r h => by cases h; kernel_rfl)⟩
def ti158 : TI := ⟨1, false, none, none, (some [.nilfn]), none, 8, .other, [], none, none, (some (.nilfn))⟩
theorem ok158 : TIOk Try.prog 158 ti158 := ⟨(by kernel_rfl), (by kernel_rfl), (fun r h => nomatch h), (fun r h => nomatch h), (fun r h => by cases h; kernel_rfl), (fun r h => nomatch h), (by kernel_rfl), (fun h => nomatch h), (fun h => nomatch h), (fun k h => nomatch h), (fun f r h => nomatch h), (fun n h => nomatch h), (fun r h => nomatch h), (fun r h => by cases h; kernel_rfl)⟩
def ti159 : TI := ⟨1, false, none, none, (some [.nilfn]), none, 8, .other, [], none, none, (some (.nilfn))⟩
theorem ok159 : TIOk Try.prog 159 ti159 := ⟨(by kernel_rfl), (by kernel_rfl), (fun r h => nomatch h), (fun r h => nomatch h), (fun r h => by cases h; kernel_rfl), (fun r h => nomatch h), (by kernel_rfl), (fun h => nomatch h), (fun h => nomatch h), (fun k h => nomatch h), (fun f r h => nomatch h), (fun n h => nomatch h), (fun r h => nomatch h), (fun r h => by cases h; kernel_rfl)⟩
def ti160 : TI := ⟨1, false, none, none, (some [.nilfn]), none, 8, .other, [], none, none, (some (.nilfn))⟩
theorem ok160 : TIOk Try.prog 160 ti160 := ⟨(by kernel_rfl), (by kernel_rfl), (fun r h => nomatch h), (fun r h => nomatch h), (fun r h => by cases h; kernel_rfl), (fun r h => nomatch h), (by kernel_rfl), (fun h => nomatch h), (fun h => nomatch h), (fun k h => nomatch h), (fun f r h => nomatch h), (fun n h => nomatch h), (fun r h => nomatch h), (fun r h => by cases h; kernel_rfl)⟩
def ti161 : TI := ⟨4, true, none, none, (some [.nilptr, .nilptr, .nilptr, .str ⟨#[]⟩]), (some (.st [(0, 1), (1, 1), (2, 1), (3, 1)])), 40, .other, [(0, 1, 17), (1, 1, 17), (2, 1, 17), (3, 1, 9)], none, none, (some (.agg [.nilptr, .nilptr, .nilptr, .str ⟨#[]⟩]))⟩
theorem ok161 : TIOk Try.prog 161 ti161 := ⟨(by kernel_rfl), (by kernel_rfl), (fun r h => nomatch h), (fun r h => nomatch h), (fun r h => by cases h; kernel_rfl), (fun r h => by cases h; kernel_rfl), (by kernel_rfl), (fun h => nomatch h), (fun h => nomatch h), (fun k h => nomatch h), (fun f r h => match f, h with | 0, h => by cases h; kernel_rfl | 1, h => by cases h; kernel_rfl | 2, h => by cases h; kernel_rfl | 3, h => by cases h; kernel_rfl | (n + 4), h => by simp [ti161, nth] at h), (fun n h => nomatch h), (fun r h => nomatch h), (fun r h => by cases h; kernel_rfl)⟩
def ti162 : TI := ⟨4, true, none, none, (some [.nilptr, .nilptr, .nilptr, .str ⟨#[]⟩]), (some (.st [(0, 1), (1, 1), (2, 1), (3, 1)])), 40, .other, [(0, 1, 17), (1, 1, 17), (2, 1, 17), (3, 1, 9)], none, none, (some (.agg [.nilptr, .nilptr, .nilptr, .str ⟨#[]⟩]))⟩
theorem ok162 : TIOk Try.prog 162 ti162 := ⟨(by kernel_rfl), (by kernel_rfl), (fun r h => nomatch h), (fun r h => nomatch h), (fun r h => by cases h; kernel_rfl), (fun r h => by cases h; kernel_rfl), (by kernel_rfl), (fun h => nomatch h), (fun h => nomatch h), (fun k h => nomatch h), (fun f r h => match f, h with | 0, h => by cases h; kernel_rfl | 1, h => by cases h; kernel_rfl | 2, h => by cases h; kernel_rfl | 3, h => by cases h; kernel_rfl | (n + 4), h => by simp [ti162, nth] at h), (fun n h => nomatch h), (fun r h => nomatch h), (fun r h => by cases h; kernel_rfl)⟩
def ti163 : TI := ⟨0, true, none, (some (0, 16, 1)), (some []), (some (.ar 1)), 0, .other, [], none, none, (some (.agg []))⟩
theorem ok163 : TIOk Try.prog 163 ti163 := ⟨(by kernel_rfl), (by kernel_rfl), (fun r h => nomatch h), (fun r h => by cases h; kernel_rfl), (fun r h => by cases h; kernel_rfl), (fun r h => by cases h; kernel_rfl), (by kernel_rfl), (fun h => nomatch h), (fun h => nomatch h), (fun k h => nomatch h), (fun f r h => nomatch h), (fun n h => nomatch h), (fun r h => nomatch h), (fun r h => by cases h; kernel_rfl)⟩
def ti164 : TI := ⟨0, true, none, none, (some []), (some (.st [(0, 0)])), 0, .other, [(0, 0, 163)], none, none, (some (.agg []))⟩
theorem ok164 : TIOk Try.prog 164 ti164 := ⟨(by kernel_rfl), (by kernel_rfl), (fun r h => nomatch h), (fun r h => nomatch h), (fun r h => by cases h; kernel_rfl), (fun r h => by cases h; kernel_rfl), (by kernel_rfl), (fun h => nomatch h), (fun h => nomatch h), (fun k h => nomatch h), (fun f r h => match f, h with | 0, h => by cases h; kernel_rfl | (n + 1), h => by simp [ti164, nth] at h), (fun n h => nomatch h), (fun r h => nomatch h), (fun r h => by cases h; kernel_rfl)⟩
def ti165 : TI := ⟨0, true, none, none, (some []), (some (.st [(0, 0)])), 0, .other, [(0, 0, 163)], none, none, (some (.agg []))⟩
theorem ok165 : TIOk Try.prog 165 ti165 := ⟨(by kernel_rfl), (by kernel_rfl), (fun r h => nomatch h), (fun r h => nomatch h), (fun r h => by cases h; kernel_rfl), (fun r h => by cases h; kernel_rfl), (by kernel_rfl), (fun h => nomatch h), (fun h => nomatch h), (fun k h => nomatch h), (fun f r h => match f, h with | 0, h => by cases h; kernel_rfl | (n + 1), h => by simp [ti165, nth] at h), (fun n h => nomatch h), (fun r h => nomatch h), (fun r h => by cases h; kernel_rfl)⟩
def ti166 : TI := ⟨1, false, none, none, (some [.nilfn]), none, 8, .other, [], none, none, (some (.nilfn))⟩
theorem ok166 : TIOk Try.prog 166 ti166 := ⟨(by kernel_rfl), (by kernel_rfl), (fun r h => nomatch h), (fun r h => nomatch h), (fun r h => by cases h; kernel_rfl), (fun r h => nomatch h), (by kernel_rfl), (fun h => nomatch h), (fun h => nomatch h), (fun k h => nomatch h), (fun f r h => nomatch h), (fun n h => nomatch h), (fun r h => nomatch h), (fun r h => by cases h; kernel_rfl)⟩
def ti167 : TI := ⟨1, false, none, none, (some [.int .u32 0]), none, 4, (.int .u32), [], none, none, (some (.int .u32 0))⟩
theorem ok167 : TIOk Try.prog 167 ti167 := ⟨(by kernel_rfl), (by kernel_rfl), (fun r h => nomatch h), (fun r h => nomatch h), (fun r h => by cases h; kernel_rfl), (fun r h => nomatch h), (by kernel_rfl), (fun h => nomatch h), (fun h => nomatch h), (fun k h => by cases h; kernel_rfl), (fun f r h => nomatch h), (fun n h => nomatch h), (fun r h => nomatch h), (fun r h => by cases h; kernel_rfl)⟩
def ti168 : TI := ⟨1, false, none, none, (some [.int .u8 0]), none, 1, (.int .u8), [], none, none, (some (.int .u8 0))⟩
theorem ok168 : TIOk Try.prog 168 ti168 := ⟨(by kernel_rfl), (by kernel_rfl), (fun r h => nomatch h), (fun r h => nomatch h), (fun r h => by cases h; kernel_rfl), (fun r h => nomatch h), (by kernel_rfl), (fun h => nomatch h), (fun h => nomatch h), (fun k h => by cases h; kernel_rfl), (fun f r h => nomatch h), (fun n h => nomatch h), (fun r h => nomatch h), (fun r h => by cases h; kernel_rfl)⟩
def ti169 : TI := ⟨1, false, none, none, (some [.int .u8 0]), none, 1, (.int .u8), [], none, none, (some (.int .u8 0))⟩
theorem ok169 : TIOk Try.prog 169 ti169 := ⟨(by kernel_rfl), (by kernel_rfl), (fun r h => nomatch h), (fun r h => nomatch h), (fun r h => by cases h; kernel_rfl), (fun r h => nomatch h), (by kernel_rfl), (fun h => nomatch h), (fun h => nomatch h), (fun k h => by cases h; kernel_rfl), (fun f r h => nomatch h), (fun n h => nomatch h), (fun r h => nomatch h), (fun r h => by cases h; kernel_rfl)⟩
def ti170 : TI := ⟨1, false, none, none, (some [.nilfn]), none, 8, .other, [], none, none, (some (.nilfn))⟩
theorem ok170 : TIOk Try.prog 170 ti170 := ⟨(by kernel_rfl), (by kernel_rfl), (fun r h => nomatch h), (fun r h => nomatch h), (fun r h => by cases h; kernel_rfl), (fun r h => nomatch h), (by kernel_rfl), (fun h => nomatch h), (fun h => nomatch h), (fun k h => nomatch h), (fun f r h => nomatch h), (fun n h => nomatch h), (fun r h => nomatch h), (fun r h => by cases h; kernel_rfl)⟩
def ti171 : TI := ⟨1, false, none, none, (some [.nilptr]), none, 8, .other, [], none, none, (some (.nilptr))⟩
theorem ok171 : TIOk Try.prog 171 ti171 := ⟨(by kernel_rfl), (by kernel_rfl), (fun r h => nomatch h), (fun r h => nomatch h), (fun r h => by cases h; kernel_rfl), (fun r h => nomatch h), (by kernel_rfl), (fun h => nomatch h), (fun h => nomatch h), (fun k h => nomatch h), (fun f r h => nomatch h), (fun n h => nomatch h), (fun r h => nomatch h), (fun r h => by cases h; kernel_rfl)⟩
def ti172 : TI := ⟨1, false, none, none, (some [.int .i32 0]), none, 4, (.int .i32), [], none, none, (some (.int .i32 0))⟩
theorem ok172 : TIOk Try.prog 172 ti172 := ⟨(by kernel_rfl), (by kernel_rfl), (fun r h => nomatch h), (fun r h => nomatch h), (fun r h => by cases h; kernel_rfl), (fun r h => nomatch h), (by kernel_rfl), (fun h => nomatch h), (fun h => nomatch h), (fun k h => by cases h; kernel_rfl), (fun f r h => nomatch h), (fun n h => nomatch h), (fun r h => nomatch h), (fun r h => by cases h; kernel_rfl)⟩
def ti173 : TI := ⟨1, false, none, none, (some [.int .i32 0]), none, 4, (.int .i32), [], none, none, (some (.int .i32 0))⟩
theorem ok173 : TIOk Try.prog 173 ti173 := ⟨(by kernel_rfl), (by kernel_rfl), (fun r h => nomatch h), (fun r h => nomatch h), (fun r h => by cases h; kernel_rfl), (fun r h => nomatch h), (by kernel_rfl), (fun h => nomatch h), (fun h => nomatch h), (fun k h => by cases h; kernel_rfl), (fun f r h => nomatch h), (fun n h => nomatch h), (fun r h => nomatch h), (fun r h => by cases h; kernel_rfl)⟩
def ti174 : TI := ⟨11, true, none, none, (some [.int .u64 0, .int .u64 0, .int .u32 0, .int .u8 0, .int .u8 0, .int .u8 0, .int .u8 0, .nilfn, .nilptr, .int .i32 0, .int .i32 0]), (some (.st [(0, 1), (1, 1), (2, 1), (3, 1), (4, 1), (5, 1), (6, 1), (7, 1), (8, 1), (9, 1), (10, 1)])), 48, .other, [(0, 1, 12), (1, 1, 12), (2, 1, 167), (3, 1, 168), (4, 1, 5), (5, 1, 5), (6, 1, 169), (7, 1, 170), (8, 1, 171), (9, 1, 172), (10, 1, 173)], none, none, (some (.agg [.int .u64 0, .int .u64 0, .int .u32 0, .int .u8 0, .int .u8 0, .int .u8 0, .int .u8 0, .nilfn, .nilptr, .int .i32 0, .int .i32 0]))⟩
theorem ok174 : TIOk Try.prog 174 ti174 := ⟨(by kernel_rfl), (by kernel_rfl), (fun r h => nomatch h), (fun r h => nomatch h), (fun r h => by cases h; kernel_rfl), (fun r h => by cases h; kernel_rfl), (by kernel_rfl), (fun h => nomatch h), (fun h => nomatch h), (fun k h => nomatch h), (fun f r h => match f, h with | 0, h => by cases h; kernel_rfl | 1, h => by cases h; kernel_rfl | 2, h => by cases h; kernel_rfl | 3, h => by cases h; kernel_rfl | 4, h => by cases h; kernel_rfl | 5, h => by cases h; kernel_rfl | 6, h => by cases h; kernel_rfl | 7, h => by cases h; kernel_rfl | 8, h => by cases h; kernel_rfl | 9, h => by cases h; kernel_rfl | 10, h => by cases h; kernel_rfl | (n + 11), h => by simp [ti174, nth] at h), (fun n h => nomatch h), (fun r h => nomatch h), (fun r h => by cases h; kernel_rfl)⟩
def ti175 : TI := ⟨11, true, none, none, (some [.int .u64 0, .int .u64 0, .int .u32 0, .int .u8 0, .int .u8 0, .int .u8 0, .int .u8 0, .nilfn, .nilptr, .int .i32 0, .int .i32 0]), (some (.st [(0, 1), (1, 1), (2, 1), (3, 1), (4, 1), (5, 1), (6, 1), (7, 1), (8, 1), (9, 1), (10, 1)])), 48, .other, [(0, 1, 12), (1, 1, 12), (2, 1, 167), (3, 1, 168), (4, 1, 5), (5, 1, 5), (6, 1, 169), (7, 1, 170), (8, 1, 171), (9, 1, 172), (10, 1, 173)], none, none, (some (.agg [.int .u64 0, .int .u64 0, .int .u32 0, .int .u8 0, .int .u8 0, .int .u8 0, .int .u8 0, .nilfn, .nilptr, .int .i32 0, .int .i32 0]))⟩
theorem ok175 : TIOk Try.prog 175 ti175 := ⟨(by kernel_rfl), (by kernel_rfl), (fun r h => nomatch h), (fun r h => nomatch h), (fun r h => by cases h; kernel_rfl), (fun r h => by cases h; kernel_rfl), (by kernel_rfl), (fun h => nomatch h), (fun h => nomatch h), (fun k h => nomatch h), (fun f r h => match f, h with | 0, h => by cases h; kernel_rfl | 1, h => by cases h; kernel_rfl | 2, h => by cases h; kernel_rfl | 3, h => by cases h; kernel_rfl | 4, h => by cases h; kernel_rfl | 5, h => by cases h; kernel_rfl | 6, h => by cases h; kernel_rfl | 7, h => by cases h; kernel_rfl | 8, h => by cases h; kernel_rfl | 9, h => by cases h; kernel_rfl | 10, h => by cases h; kernel_rfl | (n + 11), h => by simp [ti175, nth] at h), (fun n h => nomatch h), (fun r h => nomatch h), (fun r h => by cases h; kernel_rfl)⟩
def ti176 : TI := ⟨1, false, none, none, (some [.nilptr]), none, 8, .other, [], none, none, (some (.nilptr))⟩
theorem ok176 : TIOk Try.prog 176 ti176 := ⟨(by kernel_rfl), (by kernel_rfl), (fun r h => nomatch h), (fun r h => nomatch h), (fun r h => by cases h; kernel_rfl), (fun r h => nomatch h), (by kernel_rfl), (fun h => nomatch h), (fun h => nomatch h), (fun k h => nomatch h), (fun f r h => nomatch h), (fun n h => nomatch h), (fun r h => nomatch h), (fun r h => by cases h; kernel_rfl)⟩
def tabT : Tree := (.node (.node (.node (.node (.node (.node (.node (.node .leaf 0 ti0 .leaf) 1 ti1 .leaf) 2 ti2 (.node (.node .leaf 3 ti3 .leaf) 4 ti4 .leaf)) 5 ti5 (.node (.node (.node .leaf 6 ti6 .leaf) 7 ti7 .leaf) 8 ti8 (.node (.node .leaf 9 ti9 .leaf) 10 ti10 .leaf))) 11 ti11 (.node (.node (.node (.node .leaf 12 ti12 .leaf) 13 ti13 .leaf) 14 ti14 (.node (.node .leaf 15 ti15 .leaf) 16 ti16 .leaf)) 17 ti17 (.node (.node (.node .leaf 18 ti18 .leaf) 19 ti19 .leaf) 20 ti20 (.node .leaf 21 ti21 .leaf)))) 22 ti22 (.node (.node (.node (.node (.node .leaf 23 ti23 .leaf) 24 ti24 .leaf) 25 ti25 (.node (.node .leaf 26 ti26 .leaf) 27 ti27 .leaf)) 28 ti28 (.node (.node (.node .leaf 29 ti29 .leaf) 30 ti30 .leaf) 31 ti31 (.node .leaf 32 ti32 .leaf))) 33 ti33 (.node (.node (.node (.node .leaf 34 ti34 .leaf) 35 ti35 .leaf) 36 ti36 (.node (.node .leaf 37 ti37 .leaf) 38 ti38 .leaf)) 39 ti39 (.node (.node (.node .leaf 40 ti40 .leaf) 41 ti41 .leaf) 42 ti42 (.node .leaf 43 ti43 .leaf))))) 44 ti44 (.node (.node (.node (.node (.node (.node .leaf 45 ti45 .leaf) 46 ti46 .leaf) 47 ti47 (.node (.node .leaf 48 ti48 .leaf) 49 ti49 .leaf)) 50 ti50 (.node (.node (.node .leaf 51 ti51 .leaf) 52 ti52 .leaf) 53 ti53 (.node .leaf 54 ti54 .leaf))) 55 ti55 (.node (.node (.node (.node .leaf 56 ti56 .leaf) 57 ti57 .leaf) 58 ti58 (.node (.node .leaf 59 ti59 .leaf) 60 ti60 .leaf)) 61 ti61 (.node (.node (.node .leaf 62 ti62 .leaf) 63 ti63 .leaf) 64 ti64 (.node .leaf 65 ti65 .leaf)))) 66 ti66 (.node (.node (.node (.node (.node .leaf 67 ti67 .leaf) 68 ti68 .leaf) 69 ti69 (.node (.node .leaf 70 ti70 .leaf) 71 ti71 .leaf)) 72 ti72 (.node (.node (.node .leaf 73 ti73 .leaf) 74 ti74 .leaf) 75 ti75 (.node .leaf 76 ti76 .leaf))) 77 ti77 (.node (.node (.node (.node .leaf 78 ti78 .leaf) 79 ti79 .leaf) 80 ti80 (.node (.node .leaf 81 ti81 .leaf) 82 ti82 .leaf)) 83 ti83 (.node (.node (.node .leaf 84 ti84 .leaf) 85 ti85 .leaf) 86 ti86 (.node .leaf 87 ti87 .leaf)))))) 88 ti88 (.node (.node (.node (.node (.node (.node (.node .leaf 89 ti89 .leaf) 90 ti90 .leaf) 91 ti91 (.node (.node .leaf 92 ti92 .leaf) 93 ti93 .leaf)) 94 ti94 (.node (.node (.node .leaf 95 ti95 .leaf) 96 ti96 .leaf) 97 ti97 (.node (.node .leaf 98 ti98 .leaf) 99 ti99 .leaf))) 100 ti100 (.node (.node (.node (.node .leaf 101 ti101 .leaf) 102 ti102 .leaf) 103 ti103 (.node (.node .leaf 104 ti104 .leaf) 105 ti105 .leaf)) 106 ti106 (.node (.node (.node .leaf 107 ti107 .leaf) 108 ti108 .leaf) 109 ti109 (.node .leaf 110 ti110 .leaf)))) 111 ti111 (.node (.node (.node (.node (.node .leaf 112 ti112 .leaf) 113 ti113 .leaf) 114 ti114 (.node (.node .leaf 115 ti115 .leaf) 116 ti116 .leaf)) 117 ti117 (.node (.node (.node .leaf 118 ti118 .leaf) 119 ti119 .leaf) 120 ti120 (.node .leaf 121 ti121 .leaf))) 122 ti122 (.node (.node (.node (.node .leaf 123 ti123 .leaf) 124 ti124 .leaf) 125 ti125 (.node (.node .leaf 126 ti126 .leaf) 127 ti127 .leaf)) 128 ti128 (.node (.node (.node .leaf 129 ti129 .leaf) 130 ti130 .leaf) 131 ti131 (.node .leaf 132 ti132 .leaf))))) 133 ti133 (.node (.node (.node (.node (.node (.node .leaf 134 ti134 .leaf) 135 ti135 .leaf) 136 ti136 (.node (.node .leaf 137 ti137 .leaf) 138 ti138 .leaf)) 139 ti139 (.node (.node (.node .leaf 140 ti140 .leaf) 141 ti141 .leaf) 142 ti142 (.node .leaf 143 ti143 .leaf))) 144 ti144 (.node (.node (.node (.node .leaf 145 ti145 .leaf) 146 ti146 .leaf) 147 ti147 (.node (.node .leaf 148 ti148 .leaf) 149 ti149 .leaf)) 150 ti150 (.node (.node (.node .leaf 151 ti151 .leaf) 152 ti152 .leaf) 153 ti153 (.node .leaf 154 ti154 .leaf)))) 155 ti155 (.node (.node (.node (.node (.node .leaf 156 ti156 .leaf) 157 ti157 .leaf) 158 ti158 (.node (.node .leaf 159 ti159 .leaf) 160 ti160 .leaf)) 161 ti161 (.node (.node (.node .leaf 162 ti162 .leaf) 163 ti163 .leaf) 164 ti164 (.node .leaf 165 ti165 .leaf))) 166 ti166 (.node (.node (.node (.node .leaf 167 ti167 .leaf) 168 ti168 .leaf) 169 ti169 (.node (.node .leaf 170 ti170 .leaf) 171 ti171 .leaf)) 172 ti172 (.node (.node (.node .leaf 173 ti173 .leaf) 174 ti174 .leaf) 175 ti175 (.node .leaf 176 ti176 .leaf)))))))
def tab (n : Nat) : Option TI := tabT.look n
theorem tabTOk : TabOk Try.prog tabT := ⟨ok88, ⟨ok44, ⟨ok22, ⟨ok11, ⟨ok5, ⟨ok2, ⟨ok1, ⟨ok0, trivial, trivial⟩, trivial⟩, ⟨ok4, ⟨ok3, trivial, trivial⟩, trivial⟩⟩, ⟨ok8, ⟨ok7, ⟨ok6, trivial, trivial⟩, trivial⟩, ⟨ok10, ⟨ok9, trivial, trivial⟩, trivial⟩⟩⟩, ⟨ok17, ⟨ok14, ⟨ok13, ⟨ok12, trivial, trivial⟩, trivial⟩, ⟨ok16, ⟨ok15, trivial, trivial⟩, trivial⟩⟩, ⟨ok20, ⟨ok19, ⟨ok18, trivial, trivial⟩, trivial⟩, ⟨ok21, trivial, trivial⟩⟩⟩⟩, ⟨ok33, ⟨ok28, ⟨ok25, ⟨ok24, ⟨ok23, trivial, trivial⟩, trivial⟩, ⟨ok27, ⟨ok26, trivial, trivial⟩, trivial⟩⟩, ⟨ok31, ⟨ok30, ⟨ok29, trivial, trivial⟩, trivial⟩, ⟨ok32, trivial, trivial⟩⟩⟩, ⟨ok39, ⟨ok36, ⟨ok35, ⟨ok34, trivial, trivial⟩, trivial⟩, ⟨ok38, ⟨ok37, trivial, trivial⟩, trivial⟩⟩, ⟨ok42, ⟨ok41, ⟨ok40, trivial, trivial⟩, trivial⟩, ⟨ok43, trivial, trivial⟩⟩⟩⟩⟩, ⟨ok66, ⟨ok55, ⟨ok50, ⟨ok47, ⟨ok46, ⟨ok45, trivial, trivial⟩, trivial⟩, ⟨ok49, ⟨ok48, trivial, trivial⟩, trivial⟩⟩, ⟨ok53, ⟨ok52, ⟨ok51, trivial, trivial⟩, trivial⟩, ⟨ok54, trivial, trivial⟩⟩⟩, ⟨ok61, ⟨ok58, ⟨ok57, ⟨ok56, trivial, trivial⟩, trivial⟩, ⟨ok60, ⟨ok59, trivial, trivial⟩, trivial⟩⟩, ⟨ok64, ⟨ok63, ⟨ok62, trivial, trivial⟩, trivial⟩, ⟨ok65, trivial, trivial⟩⟩⟩⟩, ⟨ok77, ⟨ok72, ⟨ok69, ⟨ok68, ⟨ok67, trivial, trivial⟩, trivial⟩, ⟨ok71, ⟨ok70, trivial, trivial⟩, trivial⟩⟩, ⟨ok75, ⟨ok74, ⟨ok73, trivial, trivial⟩, trivial⟩, ⟨ok76, trivial, trivial⟩⟩⟩, ⟨ok83, ⟨ok80, ⟨ok79, ⟨ok78, trivial, trivial⟩, trivial⟩, ⟨ok82, ⟨ok81, trivial, trivial⟩, trivial⟩⟩, ⟨ok86, ⟨ok85, ⟨ok84, trivial, trivial⟩, trivial⟩, ⟨ok87, trivial, trivial⟩⟩⟩⟩⟩⟩, ⟨ok133, ⟨ok111, ⟨ok100, ⟨ok94, ⟨ok91, ⟨ok90, ⟨ok89, trivial, trivial⟩, trivial⟩, ⟨ok93, ⟨ok92, trivial, trivial⟩, trivial⟩⟩, ⟨ok97, ⟨ok96, ⟨ok95, trivial, trivial⟩, trivial⟩, ⟨ok99, ⟨ok98, trivial, trivial⟩, trivial⟩⟩⟩, ⟨ok106, ⟨ok103, ⟨ok102, ⟨ok101, trivial, trivial⟩, trivial⟩, ⟨ok105, ⟨ok104, trivial, trivial⟩, trivial⟩⟩, ⟨ok109, ⟨ok108, ⟨ok107, trivial, trivial⟩, trivial⟩, ⟨ok110, trivial, trivial⟩⟩⟩⟩, ⟨ok122, ⟨ok117, ⟨ok114, ⟨ok113, ⟨ok112, trivial, trivial⟩, trivial⟩, ⟨ok116, ⟨ok115, trivial, trivial⟩, trivial⟩⟩, ⟨ok120, ⟨ok119, ⟨ok118, trivial, trivial⟩, trivial⟩, ⟨ok121, trivial, trivial⟩⟩⟩, ⟨ok128, ⟨ok125, ⟨ok124, ⟨ok123, trivial, trivial⟩, trivial⟩, ⟨ok127, ⟨ok126, trivial, trivial⟩, trivial⟩⟩, ⟨ok131, ⟨ok130, ⟨ok129, trivial, trivial⟩, trivial⟩, ⟨ok132, trivial, trivial⟩⟩⟩⟩⟩, ⟨ok155, ⟨ok144, ⟨ok139, ⟨ok136, ⟨ok135, ⟨ok134, trivial, trivial⟩, trivial⟩, ⟨ok138, ⟨ok137, trivial, trivial⟩, trivial⟩⟩, ⟨ok142, ⟨ok141, ⟨ok140, trivial, trivial⟩, trivial⟩, ⟨ok143, trivial, trivial⟩⟩⟩, ⟨ok150, ⟨ok147, ⟨ok146, ⟨ok145, trivial, trivial⟩, trivial⟩, ⟨ok149, ⟨ok148, trivial, trivial⟩, trivial⟩⟩, ⟨ok153, ⟨ok152, ⟨ok151, trivial, trivial⟩, trivial⟩, ⟨ok154, trivial, trivial⟩⟩⟩⟩, ⟨ok166, ⟨ok161, ⟨ok158, ⟨ok157, ⟨ok156, trivial, trivial⟩, trivial⟩, ⟨ok160, ⟨ok159, trivial, trivial⟩, trivial⟩⟩, ⟨ok164, ⟨ok163, ⟨ok162, trivial, trivial⟩, trivial⟩, ⟨ok165, trivial, trivial⟩⟩⟩, ⟨ok172, ⟨ok169, ⟨ok168, ⟨ok167, trivial, trivial⟩, trivial⟩, ⟨ok171, ⟨ok170, trivial, trivial⟩, trivial⟩⟩, ⟨ok175, ⟨ok174, ⟨ok173, trivial, trivial⟩, trivial⟩, ⟨ok176, trivial, trivial⟩⟩⟩⟩⟩⟩⟩
theorem tabOk : ∀ t i, tab t = some i → TIOk Try.prog t i := fun _ _ h => tabTOk.look h
theorem seat : SeatOk Try.prog tab := ⟨tabOk, by kernel_rfl⟩
theorem ent_11 : Ent Try.prog 11 := enters_of Try.func11 (by kernel_rfl) rfl
theorem ent_18 : Ent Try.prog 18 := enters_of Try.func18 (by kernel_rfl) rfl
theorem ent_20 : Ent Try.prog 20 := enters_of Try.func20 (by kernel_rfl) rfl
theorem ent_21 : Ent Try.prog 21 := enters_of Try.func21 (by kernel_rfl) rfl
theorem ent_22 : Ent Try.prog 22 := enters_of Try.func22 (by kernel_rfl) rfl
theorem ent_26 : Ent Try.prog 26 := enters_of Try.func26 (by kernel_rfl) rfl
theorem ent_30 : Ent Try.prog 30 := enters_of Try.func30 (by kernel_rfl) rfl
theorem ent_33 : Ent Try.prog 33 := enters_of Try.func33 (by kernel_rfl) rfl
theorem ent_36 : Ent Try.prog 36 := enters_of Try.func36 (by kernel_rfl) rfl
theorem ent_38 : Ent Try.prog 38 := enters_of Try.func38 (by kernel_rfl) rfl
theorem ent_40 : Ent Try.prog 40 := enters_of Try.func40 (by kernel_rfl) rfl
theorem ent_43 : Ent Try.prog 43 := enters_of Try.func43 (by kernel_rfl) rfl
theorem ent_46 : Ent Try.prog 46 := enters_of Try.func46 (by kernel_rfl) rfl
theorem ent_47 : Ent Try.prog 47 := enters_of Try.func47 (by kernel_rfl) rfl
theorem ent_49 : Ent Try.prog 49 := enters_of Try.func49 (by kernel_rfl) rfl
theorem ent_51 : Ent Try.prog 51 := enters_of Try.func51 (by kernel_rfl) rfl
theorem ent_52 : Ent Try.prog 52 := enters_of Try.func52 (by kernel_rfl) rfl
theorem ent_53 : Ent Try.prog 53 := enters_of Try.func53 (by kernel_rfl) rfl
theorem ent_54 : Ent Try.prog 54 := enters_of Try.func54 (by kernel_rfl) rfl
theorem ent_60 : Ent Try.prog 60 := enters_of Try.func60 (by kernel_rfl) rfl
theorem ent_61 : Ent Try.prog 61 := enters_of Try.func61 (by kernel_rfl) rfl
theorem ent_62 : Ent Try.prog 62 := enters_of Try.func62 (by kernel_rfl) rfl
theorem ent_63 : Ent Try.prog 63 := enters_of Try.func63 (by kernel_rfl) rfl
theorem ent_64 : Ent Try.prog 64 := enters_of Try.func64 (by kernel_rfl) rfl
theorem ent_65 : Ent Try.prog 65 := enters_of Try.func65 (by kernel_rfl) rfl
theorem ent_66 : Ent Try.prog 66 := enters_of Try.func66 (by kernel_rfl) rfl
theorem ent_67 : Ent Try.prog 67 := enters_of Try.func67 (by kernel_rfl) rfl
theorem ent_68 : Ent Try.prog 68 := enters_of Try.func68 (by kernel_rfl) rfl
theorem ent_69 : Ent Try.prog 69 := enters_of Try.func69 (by kernel_rfl) rfl
theorem ent_73 : Ent Try.prog 73 := enters_of Try.func73 (by kernel_rfl) rfl
theorem ent_74 : Ent Try.prog 74 := enters_of Try.func74 (by kernel_rfl) rfl
theorem ent_76 : Ent Try.prog 76 := enters_of Try.func76 (by kernel_rfl) rfl
theorem ent_77 : Ent Try.prog 77 := enters_of Try.func77 (by kernel_rfl) rfl
theorem ent_78 : Ent Try.prog 78 := enters_of Try.func78 (by kernel_rfl) rfl
theorem ent_79 : Ent Try.prog 79 := enters_of Try.func79 (by kernel_rfl) rfl
theorem ent_81 : Ent Try.prog 81 := enters_of Try.func81 (by kernel_rfl) rfl
theorem ent_82 : Ent Try.prog 82 := enters_of Try.func82 (by kernel_rfl) rfl
theorem ent_83 : Ent Try.prog 83 := enters_of Try.func83 (by kernel_rfl) rfl
theorem ent_84 : Ent Try.prog 84 := enters_of Try.func84 (by kernel_rfl) rfl
theorem ent_85 : Ent Try.prog 85 := enters_of Try.func85 (by kernel_rfl) rfl
theorem ent_87 : Ent Try.prog 87 := enters_of Try.func87 (by kernel_rfl) rfl
theorem ent_88 : Ent Try.prog 88 := enters_of Try.func88 (by kernel_rfl) rfl
theorem ent_89 : Ent Try.prog 89 := enters_of Try.func89 (by kernel_rfl) rfl
theorem ent_96 : Ent Try.prog 96 := enters_of Try.func96 (by kernel_rfl) rfl
theorem ent_97 : Ent Try.prog 97 := enters_of Try.func97 (by kernel_rfl) rfl
theorem ent_98 : Ent Try.prog 98 := enters_of Try.func98 (by kernel_rfl) rfl
theorem ent_99 : Ent Try.prog 99 := enters_of Try.func99 (by kernel_rfl) rfl
theorem ent_100 : Ent Try.prog 100 := enters_of Try.func100 (by kernel_rfl) rfl
theorem ent_101 : Ent Try.prog 101 := enters_of Try.func101 (by kernel_rfl) rfl
theorem ent_102 : Ent Try.prog 102 := enters_of Try.func102 (by kernel_rfl) rfl
theorem ent_103 : Ent Try.prog 103 := enters_of Try.func103 (by kernel_rfl) rfl
theorem ent_104 : Ent Try.prog 104 := enters_of Try.func104 (by kernel_rfl) rfl
theorem ent_105 : Ent Try.prog 105 := enters_of Try.func105 (by kernel_rfl) rfl
theorem ent_106 : Ent Try.prog 106 := enters_of Try.func106 (by kernel_rfl) rfl
theorem ent_107 : Ent Try.prog 107 := enters_of Try.func107 (by kernel_rfl) rfl
theorem ent_108 : Ent Try.prog 108 := enters_of Try.func108 (by kernel_rfl) rfl
theorem ent_109 : Ent Try.prog 109 := enters_of Try.func109 (by kernel_rfl) rfl
theorem ent_110 : Ent Try.prog 110 := enters_of Try.func110 (by kernel_rfl) rfl
theorem ent_111 : Ent Try.prog 111 := enters_of Try.func111 (by kernel_rfl) rfl
theorem ent_112 : Ent Try.prog 112 := enters_of Try.func112 (by kernel_rfl) rfl
theorem ent_113 : Ent Try.prog 113 := enters_of Try.func113 (by kernel_rfl) rfl
theorem ent_114 : Ent Try.prog 114 := enters_of Try.func114 (by kernel_rfl) rfl
end Go.Proofs.Ytnekemldcjegaaa.Aw

/- The logic of abstract walks, part N2: arguments of which more is known. -/
namespace Go.Proofs.Ytnekemldcjegaaa.Aw
open Go Go.RowKit
set_option linter.unusedVariables false
set_option linter.unusedSimpArgs false
mutual
/-- x says all that y says. -/
def leD : D → D → Prop
  | .sl c sz rows, y => match y with
    | .sl c' sz' rows' => (c' = false ∨ c = c') ∧ sz = sz' ∧ leDLL rows rows'
    | _ => False
  | .agg l, y => match y with
    | .agg l' => leDL l l'
    | _ => False
  | .int k n, y => D.int k n = y
  | .bool b, y => D.bool b = y
  | .str s, y => D.str s = y
  | .fn f cs, y => match y with
    | .fn f' cs' => f = f' ∧ leDL cs cs'
    | _ => False
  | .nilfn, y => D.nilfn = y
  | .ptr cs, y => match y with
    | .ptr cs' => leDL cs cs'
    | _ => False
  | .nilsl, y => match y with
    | .nilsl => True
    | .sl _ _ rows => rows = []
    | _ => False
  | .nilmap, y => D.nilmap = y
  | .nilptr, y => D.nilptr = y
  | .map rows, y => D.map rows = y
def leDL : List D → List D → Prop
  | [], q => q = []
  | x :: r, q => match q with
    | [] => False
    | y :: q => leD x y ∧ leDL r q
def leDLL : List (List D) → List (List D) → Prop
  | [], q => q = []
  | x :: r, q => match q with
    | [] => False
    | y :: q => leDL x y ∧ leDLL r q
end
mutual
theorem leD_refl : ∀ (x : D), leD x x
  | .sl c sz rows => ⟨.inr rfl, rfl, leDLL_refl rows⟩
  | .agg l => leDL_refl l
  | .int k n => rfl
  | .bool b => rfl
  | .str s => rfl
  | .fn f cs => ⟨rfl, leDL_refl cs⟩
  | .nilfn => rfl
  | .ptr cs => leDL_refl cs
  | .nilsl => trivial
  | .nilmap => rfl
  | .nilptr => rfl
  | .map _ => rfl
theorem leDL_refl : ∀ (l : List D), leDL l l
  | [] => rfl
  | x :: r => ⟨leD_refl x, leDL_refl r⟩
theorem leDLL_refl : ∀ (l : List (List D)), leDLL l l
  | [] => rfl
  | x :: r => ⟨leDL_refl x, leDLL_refl r⟩
end
theorem leDL_get : ∀ {l q : List D}, leDL l q → l.length = q.length ∧ ∀ (i : Nat) (y : D), q[i]? = some y → ∃ x, l[i]? = some x ∧ leD x y
  | [], q, h => by
    have h : q = [] := h
    subst h
    exact ⟨rfl, fun i y hy => by simp at hy⟩
  | x :: r, [], h => h.elim
  | x :: r, y :: q, h => by
    obtain ⟨h1, h2⟩ := (h : leD x y ∧ leDL r q)
    obtain ⟨g1, g2⟩ := leDL_get h2
    refine ⟨by simp [g1], fun i z hz => ?_⟩
    match i, hz with
    | 0, hz => cases hz; exact ⟨x, rfl, h1⟩
    | i + 1, hz => exact g2 i z (by simpa using hz)
theorem leDLL_get : ∀ {l q : List (List D)}, leDLL l q → l.length = q.length ∧ ∀ (i : Nat) (y : List D), q[i]? = some y → ∃ x, l[i]? = some x ∧ leDL x y
  | [], q, h => by
    have h : q = [] := h
    subst h
    exact ⟨rfl, fun i y hy => by simp at hy⟩
  | x :: r, [], h => h.elim
  | x :: r, y :: q, h => by
    obtain ⟨h1, h2⟩ := (h : leDL x y ∧ leDLL r q)
    obtain ⟨g1, g2⟩ := leDLL_get h2
    refine ⟨by simp [g1], fun i z hz => ?_⟩
    match i, hz with
    | 0, hz => cases hz; exact ⟨x, rfl, h1⟩
    | i + 1, hz => exact g2 i z (by simpa using hz)
theorem Rd.le {w : World} {ok : Nat → Prop} {x : D} {v : Value} (h : Rd w ok x v) : ∀ {y : D}, leD x y → Rd w ok y v := by
  induction h with
  | int k n => intro y e; cases (e : D.int k n = y); exact .int k n
  | bool b => intro y e; cases (e : D.bool b = y); exact .bool b
  | str s => intro y e; cases (e : D.str s = y); exact .str s
  | agg cs vs hl h1 h ih =>
    intro y e
    cases y with
    | agg l =>
      obtain ⟨g1, g2⟩ := leDL_get (e : leDL cs l)
      refine .agg l vs (by rw [hl, g1]) h1 (fun i c v hc hv => ?_)
      obtain ⟨x, e1, e2⟩ := g2 i c hc
      exact ih i x v e1 hv e2
    | _ => exact e.elim
  | fn f cs vs hl h ih =>
    intro y e
    cases y with
    | fn f' l =>
      obtain ⟨rfl, e⟩ := (e : f = f' ∧ leDL cs l)
      obtain ⟨g1, g2⟩ := leDL_get e
      refine .fn f l vs (by rw [hl, g1]) (fun i c v hc hv => ?_)
      obtain ⟨x, e1, e2⟩ := g2 i c hc
      exact ih i x v e1 hv e2
    | _ => exact e.elim
  | nilfn => intro y e; cases (e : D.nilfn = y); exact .nilfn
  | map rows k clock es vs hok hh hn hst hsz hv h ih => intro y e; cases (e : D.map rows = y); exact .map rows k clock es vs hok hh hn hst hsz hv h
  | ptr cs b off vs hok hc h ih =>
    intro y e
    cases y with
    | ptr l =>
      obtain ⟨g1, g2⟩ := leDL_get (e : leDL cs l)
      refine .ptr l b off vs hok (fun i c hi => ?_) (fun i c hi => ?_)
      · obtain ⟨x, e1, e2⟩ := g2 i c hi
        exact hc i x e1
      · obtain ⟨x, e1, e2⟩ := g2 i c hi
        exact ih i x e1 e2
    | _ => exact e.elim
  | sl0 clip sz =>
    intro y e
    cases y with
    | sl c' sz' rows' =>
      obtain ⟨_, rfl, h3⟩ := (e : (c' = false ∨ clip = c') ∧ sz = sz' ∧ rows' = [])
      subst h3
      exact .sl0 _ _
    | _ => exact e.elim
  | slE clip sz ad =>
    intro y e
    cases y with
    | sl c' sz' rows' =>
      obtain ⟨_, rfl, h3⟩ := (e : (c' = false ∨ clip = c') ∧ sz = sz' ∧ rows' = [])
      subst h3
      exact .slE _ _ _
    | _ => exact e.elim
  | sl clip sz rows b off cap vs hok h1 h2 h3 h4 h5 h6 h7 ih =>
    intro y e
    cases y with
    | sl c' sz' rows' =>
      obtain ⟨g1, rfl, g3⟩ := (e : (c' = false ∨ clip = c') ∧ sz = sz' ∧ leDLL rows rows')
      obtain ⟨l1, l2⟩ := leDLL_get g3
      have key : ∀ (i : Nat) (row : List D) (j : Nat) (c : D), rows'[i]? = some row → row[j]? = some c → ∃ row0 c0, rows[i]? = some row0 ∧ row0[j]? = some c0 ∧ leD c0 c := fun i row j c hi hj => by
        obtain ⟨row0, e1, e2⟩ := l2 i row hi
        obtain ⟨c0, e3, e4⟩ := (leDL_get e2).2 j c hj
        exact ⟨row0, c0, e1, e3, e4⟩
      rw [l1]
      refine .sl c' sz rows' b off cap vs hok (by rw [← l1]; exact h1) h2 (fun hc => ?_) (fun row hr => ?_) (fun i row j c hi hj => ?_) (fun i row j c hi hj => ?_) (fun i row j c hi hj => ?_)
      · rcases g1 with g1 | g1
        · rw [g1] at hc; cases hc
        · rw [← l1]; exact h3 (g1.trans hc)
      · obtain ⟨i, hi⟩ := List.mem_iff_getElem?.1 hr
        obtain ⟨row0, e1, e2⟩ := l2 i row hi
        rw [← (leDL_get e2).1]
        exact h4 row0 (List.mem_iff_getElem?.2 ⟨i, e1⟩)
      · obtain ⟨row0, c0, e1, e2, e3⟩ := key i row j c hi hj
        exact h5 i row0 j c0 e1 e2
      · obtain ⟨row0, c0, e1, e2, e3⟩ := key i row j c hi hj
        exact h6 i row0 j c0 e1 e2
      · obtain ⟨row0, c0, e1, e2, e3⟩ := key i row j c hi hj
        exact ih i row0 j c0 e1 e2 e3
    | _ => exact e.elim
  | nilsl =>
    intro y e
    cases y with
    | nilsl => exact .nilsl
    | sl c sz rows =>
      cases (e : rows = [])
      exact .sl0 _ _
    | _ => exact e.elim
  | nilmap => intro y e; cases (e : D.nilmap = y); exact .nilmap
  | nilptr => intro y e; cases (e : D.nilptr = y); exact .nilptr
theorem Con.le {P : Program} {f : Nat} {args args' : List D} {res : AV} {rows : List Row} (h : Con P f args' res rows) (ha : leDL args args') : Con P f args res rows := by
  obtain ⟨g1, g2⟩ := leDL_get ha
  refine ⟨h.1, fun w ok vs hok hvs => h.2 w ok vs hok ⟨by rw [hvs.1, g1], fun i x v hx hv => ?_⟩⟩
  obtain ⟨y, e1, e2⟩ := g2 i x hx
  exact (hvs.2 i y v e1 hv).le e2
variable {P : Program} {E : Env P} {base : Nat} {r : Option Nat} {post : KV → List KRow → Prop}
/-- A call with arguments of which more is known. -/
theorem C_le {I : Prim E.σ} (hI : I = primK P E base r post) {g : Nat} {args args' : List KV} {res : KV} {rows : List KRow} {K : KV → List KRow → Prop} (h : KC P g args' res rows) (ha : leDL (KV.toDL args) (KV.toDL args')) (k : K res rows) : I.C g args K := by
  subst hI
  exact ⟨res, rows, Con.le h ha, k⟩
theorem KC_le {g : Nat} {args args' : List KV} {res : KV} {rows : List KRow} (h : KC P g args' res rows) (ha : leDL (KV.toDL args) (KV.toDL args')) : KC P g args res rows := Con.le h ha
mutual
/-- A result that says more. -/
def leA : AV → AV → Prop
  | .d x, y => match y with
    | .d x' => leD x x'
    | _ => False
  | .agg l, y => match y with
    | .agg l' => leAL l l'
    | _ => False
  | .tup l, y => match y with
    | .tup l' => leAL l l'
    | _ => False
  | .any, y => AV.any = y
  | .fn f cs, y => AV.fn f cs = y
  | .loc b o, y => AV.loc b o = y
  | .asl a b c d, y => AV.asl a b c d = y
  | .osl i, y => AV.osl i = y
  | .oloc a b c d, y => AV.oloc a b c d = y
  | .yld, y => AV.yld = y
def leAL : List AV → List AV → Prop
  | [], q => q = []
  | x :: r, q => match q with
    | [] => False
    | y :: q => leA x y ∧ leAL r q
end
theorem leAL_get : ∀ {l q : List AV}, leAL l q → l.length = q.length ∧ ∀ (i : Nat) (y : AV), q[i]? = some y → ∃ x, l[i]? = some x ∧ leA x y
  | [], q, h => by
    have h : q = [] := h
    subst h
    exact ⟨rfl, fun i y hy => by simp at hy⟩
  | x :: r, [], h => h.elim
  | x :: r, y :: q, h => by
    obtain ⟨h1, h2⟩ := (h : leA x y ∧ leAL r q)
    obtain ⟨g1, g2⟩ := leAL_get h2
    refine ⟨by simp [g1], fun i z hz => ?_⟩
    match i, hz with
    | 0, hz => cases hz; exact ⟨x, rfl, h1⟩
    | i + 1, hz => exact g2 i z (by simpa using hz)
theorem RdA.le {w : World} {ok : Nat → Prop} {μ : Nat → Option Nat} {ν : Nat → Option Value} {yl : Nat} {x : AV} {v : Value} (h : RdA w ok μ ν yl x v) : ∀ {y : AV}, leA x y → RdA w ok μ ν yl y v := by
  induction h with
  | d hd =>
    intro y e
    cases y with
    | d x' => exact .d (hd.le e)
    | _ => exact e.elim
  | agg cs vs hl h1 h ih =>
    intro y e
    cases y with
    | agg l =>
      obtain ⟨g1, g2⟩ := leAL_get (e : leAL cs l)
      refine .agg l vs (by rw [hl, g1]) h1 (fun i c v hc hv => ?_)
      obtain ⟨x, e1, e2⟩ := g2 i c hc
      exact ih i x v e1 hv e2
    | _ => exact e.elim
  | tup cs vs hl h ih =>
    intro y e
    cases y with
    | tup l =>
      obtain ⟨g1, g2⟩ := leAL_get (e : leAL cs l)
      refine .tup l vs (by rw [hl, g1]) (fun i c v hc hv => ?_)
      obtain ⟨x, e1, e2⟩ := g2 i c hc
      exact ih i x v e1 hv e2
    | _ => exact e.elim
  | any v => intro y e; cases (e : AV.any = y); exact .any v
  | fn f cs vs hl h ih => intro y e; cases (e : AV.fn f cs = y); exact .fn f cs vs hl h
  | loc h => intro y e; cases (e : AV.loc _ _ = y); exact .loc h
  | osl h h1 => intro y e; cases (e : AV.osl _ = y); exact .osl h h1
  | _ => intro y e; first | (cases (e : _ = y); constructor <;> assumption) | skip
theorem Con.res_le {P : Program} {f : Nat} {args : List D} {res res' : AV} {rows : List Row} (h : Con P f args res rows) (hr : leA res res') : Con P f args res' rows := by
  refine ⟨h.1, fun w ok vs hok hvs => (h.2 w ok vs hok hvs).mono ?_⟩
  rintro e w' ⟨v, ok', ν', e1, e2, e3, e4, e5, e6⟩
  exact ⟨v, ok', ν', e1, e2, e3, e4, fun μ yl => (e5 μ yl).le hr, e6⟩
theorem KC_res {P : Program} {g : Nat} {args : List KV} {res res' : KV} {rows : List KRow} (h : KC P g args res rows) (hr : leA res.av res'.av) : KC P g args res' rows := Con.res_le h hr
end Go.Proofs.Ytnekemldcjegaaa.Aw

/- The logic of abstract walks, part N3: walks beside a plain model. -/
namespace Go.Proofs.Ytnekemldcjegaaa.Aw
open Go Go.RowKit
set_option linter.unusedVariables false
set_option linter.unusedSimpArgs false
universe u
variable {P : Program} {E : Env P} {base : Nat} {r : Option Nat} {post : KV → List KRow → Prop} {tb : Nat → Option TI}
/-! States that say less, by value. -/
/-- Of a row of which less is said: a slice may be called nil. -/
def NNle (sz : Nat) (nn' nn : Bool) : Prop := (nn' = true → nn = true) ∧ (sz = 0 → nn' = nn)
theorem ownsR_nn {w : World} {lo : Nat} {e : TypeId} {sz : Nat} {nn nn' : Bool} {v : Value} {n : Nat} {flat : List Value} (hn : NNle sz nn' nn) (h : ownsR w lo e sz nn v n flat) : ownsR w lo e sz nn' v n flat := by
  by_cases h0 : sz = 0
  · rw [hn.2 h0]; exact h
  · exact .inl ⟨by omega, h.sl (by omega)⟩
theorem weak_v {S S' : St} (hn : S'.n = S.n) (hl : S.low = S'.low) (hT : ∀ t c, look S'.T t = some c → ∃ c0, look S.T t = some c0 ∧ leA c0 c)
    (hH : ∀ b B, look S'.H b = some B → ∃ cs l, look S.H b = some ⟨B.e, cs, l⟩ ∧ leAL cs B.cells ∧ (B.live = true → l = true))
    (hO : ∀ b R, look S'.O b = some R → ∃ nn l, look S.O b = some ⟨R.e, R.sz, R.rows, nn, l⟩ ∧ NNle R.sz R.nn nn ∧ (R.live = true → l = true)) : Weak S S' := by
  intro P E base s M a w hc
  have hr := hc.rel
  have hmu : ∀ x k, At S'.H S'.O M x k → At S.H S.O M x k := by
    intro x k hx
    cases x with
    | inl b => obtain ⟨⟨B, hB⟩, hk⟩ := hx; obtain ⟨_, l, h1, _⟩ := hH b B hB; exact ⟨⟨_, h1⟩, hk⟩
    | inr b => obtain ⟨⟨B, hB⟩, hk⟩ := hx; obtain ⟨_, l, h1, _⟩ := hO b B hB; exact ⟨⟨_, h1⟩, hk⟩
  let fz : Nat → Prop := fun k => (∃ x, At S'.H S'.O M x k ∧ ¬ Liv S'.H S'.O x) ∧ ∃ x, At S.H S.O M x k ∧ Liv S.H S.O x
  let M' : Mp := { M with ok := fun k => M.ok k ∨ fz k }
  have hfz : ∀ k, fz k → Own S M k := fun k hk => .inl hk.2
  have hat : ∀ (H : List (Nat × Blk)) (O : List (Nat × Row)) x k, At H O M' x k ↔ At H O M x k := fun H O x k => by cases x <;> exact Iff.rfl
  have hlive : ∀ x, Liv S'.H S'.O x → Liv S.H S.O x := by
    intro x hx
    cases x with
    | inl b => obtain ⟨B, hB, hl⟩ := hx; obtain ⟨_, l, h1, _, h2⟩ := hH b B hB; exact ⟨_, h1, h2 hl⟩
    | inr b => obtain ⟨B, hB, hl⟩ := hx; obtain ⟨_, l, h1, _, h2⟩ := hO b B hB; exact ⟨_, h1, h2 hl⟩
  have hown : ∀ k, Own S' M' k → Own S M k := by
    rintro k (⟨x, hx, hl⟩ | hd)
    · exact .inl ⟨x, hmu x k ((hat _ _ x k).1 hx), hlive x hl⟩
    · exact .inr hd
  have hmono : ∀ {c v}, RdA w M.ok M.μ M.ν E.l c v → RdA w M'.ok M'.μ M'.ν E.l c v := fun hv => hv.mono (fun k x => .inl x) (fun _ _ => rfl) (fun _ _ => rfl) (fun _ _ => rfl)
  refine ⟨M', ⟨⟨hr.lo, hr.size.trans hn.symm, ?_, ⟨?_, ?_, ?_⟩, ?_, hr.dfr, ?_, hr.dsN⟩, hc.j, ?_, fun k hk => hc.own k (hown k hk), ?_, hc.bDom⟩,
    ⟨rfl, rfl, rfl, Nat.le_refl _, fun _ _ _ _ => rfl, fun k _ hk => hown k hk, fun k x => .inl x, ?_, fun _ _ x => x, Nat.le_of_eq hl, fun _ _ => rfl, fun _ _ x => .inl x⟩⟩
  · intro t c ht
    obtain ⟨c0, h1, hle⟩ := hT t c ht
    obtain ⟨v, h2, h3⟩ := hr.tmp t c0 h1
    exact ⟨v, h2, (hmono h3).le hle⟩
  · intro b B hB
    obtain ⟨cs, l, h1, hcs, h2⟩ := hH b B hB
    obtain ⟨k, vs, e1, e2, e3, e4, e5, e6, e7, e8⟩ := hr.heap.blk b _ h1
    obtain ⟨g1, g2⟩ := leAL_get hcs
    refine ⟨k, vs, e1, e2, e3, e4.trans g1, fun i c v hi hv => ?_, e6, ?_, ?_⟩
    · obtain ⟨x, hx1, hx2⟩ := g2 i c hi
      exact (hmono (e5 i x v hx1 hv)).le hx2
    · rintro hl (hk | ⟨⟨x, hx, hnl⟩, _⟩)
      · exact e7 (h2 hl) hk
      · have : x = .inl b := hr.heap.inj x (.inl b) k (hmu x k hx) ⟨⟨_, h1⟩, e1⟩
        subst this; exact hnl ⟨B, hB, hl⟩
    · intro hl
      cases l with
      | false => exact .inl (e8 rfl)
      | true => exact .inr ⟨⟨.inl b, ⟨⟨B, hB⟩, e1⟩, fun ⟨B2, hB2, hl2⟩ => by rw [hB] at hB2; cases hB2; rw [hl] at hl2; cases hl2⟩, .inl b, ⟨⟨_, h1⟩, e1⟩, ⟨_, h1, rfl⟩⟩
  · intro b R hR
    obtain ⟨nn, l, h1, hnn, h2⟩ := hO b R hR
    obtain ⟨v, flat, e1, e2, e3, e4, e5⟩ := hr.heap.row b _ h1
    refine ⟨v, flat, e1, ownsR_nn hnn e2, e3.mono (fun k x => .inl x) (fun _ _ => rfl), fun h => e4 (hnn.1 h), fun k hk => ⟨?_, ?_⟩⟩
    · rintro hl (hk' | ⟨⟨x, hx, hnl⟩, _⟩)
      · exact (e5 k hk).1 (h2 hl) hk'
      · have : x = .inr b := hr.heap.inj x (.inr b) k (hmu x k hx) ⟨⟨_, h1⟩, v, e1, hk⟩
        subst this; exact hnl ⟨R, hR, hl⟩
    · intro hl
      cases l with
      | false => exact .inl ((e5 k hk).2 rfl)
      | true => exact .inr ⟨⟨.inr b, ⟨⟨R, hR⟩, v, e1, hk⟩, fun ⟨B2, hB2, hl2⟩ => by rw [hR] at hB2; cases hB2; rw [hl] at hl2; cases hl2⟩, .inr b, ⟨⟨_, h1⟩, v, e1, hk⟩, ⟨_, h1, rfl⟩⟩
  · intro x y k hx hy
    exact hr.heap.inj x y k (hmu x k ((hat _ _ x k).1 hx)) (hmu y k ((hat _ _ y k).1 hy))
  · rintro k (hk | hk)
    · exact hr.okLt k hk
    · obtain ⟨x, hx, _⟩ := hk.2; exact (hr.heap.at_lt hx).2.1
  · intro D hD
    obtain ⟨h1, h2, h3⟩ := hr.dsOk D hD
    refine ⟨h1, h2, ?_⟩
    rintro (hk | hk)
    · exact h3 hk
    · obtain ⟨x, hx, _⟩ := hk.2
      obtain ⟨_, _, ob, he, ho⟩ := hr.heap.at_lt hx
      rw [h2] at he; cases he; cases ho
  · rintro k (hk | hk)
    · exact hc.okLv k hk
    · exact (hc.own k (hfz k hk)).1
  · rintro k (hk | hk)
    · exact hc.okDom k hk
    · obtain ⟨x, hx, _⟩ := hk.2; exact hc.bDom k (hr.heap.at_lt hx).1
  · rintro k _ (hk | hk)
    · exact .inl hk
    · exact .inr (hfz k hk)
/-- c says what d says, or more. -/
def LV (c d : KV) : Prop := leA c.av d.av
def LVL : List KV → List KV → Prop
  | [], q => q = []
  | c :: r, q => match q with
    | [] => False
    | d :: q => LV c d ∧ LVL r q
def LBl (B C : KBlk) : Prop := B.e = C.e ∧ LVL B.cells C.cells ∧ (C.live = true → B.live = true)
def LRo (B C : KRow) : Prop := B.e = C.e ∧ B.sz = C.sz ∧ rowsD B.sz B.ps = rowsD B.sz C.ps ∧ NNle B.sz C.nn B.nn ∧ (C.live = true → B.live = true)
mutual
theorem leA_refl : ∀ (c : AV), leA c c
  | .d x => leD_refl x
  | .agg l => leAL_refl l
  | .tup l => leAL_refl l
  | .any => rfl
  | .fn f cs => rfl
  | .loc b o => rfl
  | .asl a b c d => rfl
  | .osl i => rfl
  | .oloc a b c d => rfl
  | .yld => rfl
theorem leAL_refl : ∀ (l : List AV), leAL l l
  | [] => rfl
  | c :: r => ⟨leA_refl c, leAL_refl r⟩
end
theorem LV_eq {c d : KV} (h : c.av = d.av) : LV c d := by unfold LV; rw [h]; exact leA_refl _
theorem LVL_spec : ∀ {l q : List KV}, LVL l q → leAL (KV.avL l) (KV.avL q)
  | [], q, h => by cases (h : q = []); exact rfl
  | c :: r, [], h => h.elim
  | c :: r, d :: q, h => ⟨h.1, LVL_spec h.2⟩
theorem LV_tup {l q : List KV} (h : LVL l q) : LV (.tup l) (.tup q) := LVL_spec h
/-- A slice of one's own cells, or of others. -/
theorem LV_sl {c : Bool} {sz : Nat} {α : Type} {d : α} {l : List α} {f : α → Nat → KV} : LV (.sl c sz α d l f) (.sl false sz α d l f) := ⟨.inl rfl, rfl, leDLL_refl _⟩
theorem LV_nil {c : Bool} {sz : Nat} {α : Type} {d : α} {f : α → Nat → KV} : LV .nilsl (.sl c sz α d [] f) := (rfl : ([] : List (List D)) = [])
def lvT (T : List (Nat × KV)) : List (Nat × KV) → Prop
  | [] => True
  | (t, c) :: r => (match lk T t with | some v => LV v c | none => False) ∧ lvT T r
def lvH (T : List (Nat × KBlk)) : List (Nat × KBlk) → Prop
  | [] => True
  | (t, c) :: r => (match lk T t with | some v => LBl v c | none => False) ∧ lvH T r
def lvO (T : List (Nat × KRow)) : List (Nat × KRow) → Prop
  | [] => True
  | (t, c) :: r => (match lk T t with | some v => LRo v c | none => False) ∧ lvO T r
theorem lvT_spec {T : List (Nat × KV)} : ∀ {T' : List (Nat × KV)}, lvT T T' → ∀ t c, look (mapT T') t = some c → ∃ c0, look (mapT T) t = some c0 ∧ leA c0 c
  | [], _, t, c, h => by cases h
  | (k, v) :: q, h, t, c, hc => by
    rw [look_mapT, lk_cons] at hc
    by_cases e : k = t
    · subst e
      rw [if_pos rfl] at hc
      cases hc
      have := h.1
      split at this
      · rename_i v0 hv; exact ⟨_, by rw [look_mapT, hv]; rfl, this⟩
      · exact this.elim
    · rw [if_neg e, ← look_mapT] at hc
      exact lvT_spec h.2 t c hc
theorem lvH_spec {T : List (Nat × KBlk)} : ∀ {T' : List (Nat × KBlk)}, lvH T T' → ∀ b B, look (mapH T') b = some B → ∃ cs l, look (mapH T) b = some ⟨B.e, cs, l⟩ ∧ leAL cs B.cells ∧ (B.live = true → l = true)
  | [], _, t, c, h => by cases h
  | (k, v) :: q, h, t, c, hc => by
    rw [look_mapH, lk_cons] at hc
    by_cases e : k = t
    · subst e
      rw [if_pos rfl] at hc
      cases hc
      have := h.1
      split at this
      · rename_i v0 hv
        obtain ⟨e1, e2, e3⟩ := this
        exact ⟨_, _, by rw [look_mapH, hv]; simp only [Option.map_some, KBlk.blk, e1], LVL_spec e2, e3⟩
      · exact this.elim
    · rw [if_neg e, ← look_mapH] at hc
      exact lvH_spec h.2 t c hc
theorem lvO_spec {T : List (Nat × KRow)} : ∀ {T' : List (Nat × KRow)}, lvO T T' → ∀ b R, look (mapO T') b = some R → ∃ nn l, look (mapO T) b = some ⟨R.e, R.sz, R.rows, nn, l⟩ ∧ NNle R.sz R.nn nn ∧ (R.live = true → l = true)
  | [], _, t, c, h => by cases h
  | (k, v) :: q, h, t, c, hc => by
    rw [look_mapO, lk_cons] at hc
    by_cases e : k = t
    · subst e
      rw [if_pos rfl] at hc
      cases hc
      have := h.1
      split at this
      · rename_i v0 hv
        obtain ⟨e1, e2, e3, e4, e5⟩ := this
        refine ⟨_, _, by rw [look_mapO, hv]; simp only [Option.map_some, KRow.row, e1, e2, e3]; rw [← e2, e3], e2 ▸ e4, e5⟩
      · exact this.elim
    · rw [if_neg e, ← look_mapO] at hc
      exact lvO_spec h.2 t c hc
theorem weak_l {S S' : KSt} (hn : S'.n = S.n) (hl : S.low = S'.low) (hT : lvT S.T S'.T) (hH : lvH S.H S'.H) (hO : lvO S.O S'.O) : Weak S.st S'.st :=
  weak_v hn hl (lvT_spec hT) (lvH_spec hH) (lvO_spec hO)
/-! Short names for what is printed. -/
theorem lR {c : KV} : LV c c := leA_refl _
theorem lE {c d : KV} (h : c.av = d.av := by rfl) : LV c d := LV_eq h
theorem lB {B C : KBlk} (h : LVL B.cells C.cells) (h1 : B.e = C.e := by rfl) (h2 : C.live = true → B.live = true := by exact fun _ => rfl) : LBl B C := ⟨h1, h, h2⟩
theorem lO {B C : KRow} (h : rowsD B.sz B.ps = rowsD B.sz C.ps := by first | rfl | (simp only [rowsD, KP.rows, KV.toDLL, List.map_append, List.map_cons, List.map_nil, List.append_nil, List.nil_append, List.append_assoc, List.singleton_append, List.cons_append, List.map_replicate]; rfl) | (simp only [primK, rowsD, KP.rows, KV.toDLL, List.map_append, List.map_cons, List.map_nil, List.append_nil, List.map_replicate]; rfl))
    (h1 : B.e = C.e := by rfl) (h2 : B.sz = C.sz := by rfl) (h3 : NNle B.sz C.nn B.nn := by first | exact ⟨fun _ => rfl, fun _ => rfl⟩ | exact ⟨fun h => (by cases h), fun _ => rfl⟩ | exact ⟨fun h => (by cases h), fun h => (by cases h)⟩) (h4 : C.live = true → B.live = true := by first | exact fun _ => rfl | exact fun h => (by cases h)) : LRo B C := ⟨h1, h2, h, h3, h4⟩
def cel (l : List KV) (j : Nat) : KV := match nth l j with
  | some c => c
  | none => .any
/-! Contracts whose result says more. -/
theorem con_introL {f : Nat} {fn : Func} {c : Code} (hf : P.funcs[f]? = some fn) (hb : fn.body = some c) (hent : Ent P f) {args : List D} (hn : Nat.ble args.length fn.ntmps = true) {res : AV} {rows : List Row}
    (h : ∀ base, AW (noEnv P) base none c (S0 fn.ntmps args) () (fun e S _ => (e = .normal ∨ e = .ret) ∧ ∃ rv, leA rv res ∧ RetOk P fn S rv rows)) : Con P f args res rows := by
  refine ⟨hent, fun w ok vs hok hvs => (callsIn_wide (n := 0)).1 ?_⟩
  refine callsIn_of_wp_marks (F := FW none) (n := 0) hf hb trivial ?_
  let M0 : Mp := ⟨fun _ => none, fun _ => none, ok, fun _ => False, fun _ => False, []⟩
  have hn' := Nat.le_of_ble_eq_true hn
  have hr0 : Rel w.heap.size (S0 fn.ntmps args) M0 (noEnv P).l { tmps := vs ++ Array.replicate (fn.ntmps - vs.size) undef, defers := [] } w := by
    refine ⟨Nat.le_refl _, ?_, fun t c ht => ?_, ⟨fun b B hB => (by cases hB), fun b B hB => (by cases hB), fun x y k hx => by cases x <;> (obtain ⟨⟨_, h⟩, _⟩ := hx; cases h)⟩, hok, rfl, fun D hD => (by cases hD), List.nodup_nil⟩
    · show (vs ++ Array.replicate (fn.ntmps - vs.size) undef).size = fn.ntmps
      rw [Array.size_append, Array.size_replicate, hvs.1]; omega
    · obtain ⟨_, x, h1, rfl⟩ := look_argT ht
      rw [Nat.sub_zero] at h1
      have hlt := (List.getElem?_eq_some_iff.1 h1).1
      obtain ⟨v, hv⟩ : ∃ v, vs[t]? = some v := ⟨vs[t]'(by rw [hvs.1]; exact hlt), by simp⟩
      exact ⟨v, by show (vs ++ _)[t]? = some v; rw [Array.getElem?_append_left (by rw [hvs.1]; exact hlt)]; exact hv, toAV_spec (hvs.2 t x v h1 hv)⟩
  have hown0 : ∀ k, ¬ Own (S0 fn.ntmps args) M0 k := by
    rintro k (⟨x, hx, _⟩ | hd)
    · cases x <;> (obtain ⟨⟨_, h⟩, _⟩ := hx; cases h)
    · cases hd
  have hc0 : Cfg (noEnv P) w.heap.size (S0 fn.ntmps args) () M0 { tmps := vs ++ Array.replicate (fn.ntmps - vs.size) undef, defers := [] } w :=
    ⟨hr0, ⟨fun _ h => h, fun _ h => h⟩, fun _ _ h => h, fun k hk => absurd hk (hown0 k), fun _ _ => trivial, fun _ _ => trivial⟩
  refine wpIn_mono (h w.heap.size M0 _ w hc0) ?_
  rintro e a' w' ⟨S', s', M', ⟨he, hret⟩, hc', hx⟩
  have hgoal : LeavesInM (FW none) 0 P fn a'.tmps (fun e w' => ∃ v ok' ν', e = .returned v ∧ Below w.heap.size w w' ∧ (∀ k, ok k → ok' k) ∧ (∀ k, ok' k → ok k ∨ (w.heap.size ≤ k ∧ k < w'.heap.size)) ∧
      (∀ μ yl, RdA w' ok' μ ν' yl res v) ∧ HeapOk w.heap.size [] (enumR 0 rows) ⟨fun _ => none, ν', ok', fun _ => False, fun _ => False, []⟩ 0 w') a'.defers .returning w' := by
    rw [hc'.rel.dfr]
    have hbel : Below w.heap.size w w' := ⟨hx.os, hx.tape, hx.output, hx.size, fun k hk => hx.keep k hk (hown0 k) (fun h => h)⟩
    refine leaves_marks (S := S') (base := w.heap.size) (w0 := w) (Nat.le_refl _) M'.ds M' a' w' rfl hc'.rel hbel (fun M2 a2 w2 hr2 hb2 e1 e2 e3 e4 e5 => ?_)
    obtain ⟨rv, hle, cs, ids, h1, h2, h3, h4⟩ := hret
    obtain ⟨v, h5, h6⟩ := run_results (P := P) (fn := fn) hr2 h1
    rw [← e4]
    obtain ⟨r1, r2⟩ := rowsOf_get h3
    have hsub := lessO_sub S' ids
    refine ⟨v, h5, v, okS true (lessO S' ids) M2, fun i => (ids[i]?).bind M2.ν, rfl, hb2, fun k hk => .inl (e3 ▸ hx.okm k hk), fun k hk => ?_, fun μ yl => (ret3_spec hr2 (fun i id hi => by simp [hi]) h2 h6 μ yl).le hle, ⟨fun b B hB => (by cases hB), fun i R hR => ?_, fun x y k hx' hy' => ?_⟩⟩
    · rcases hk with hk | ⟨_, x, hx', _⟩
      · rw [e3] at hk
        by_cases hlt : k < w.heap.size
        · rcases hx.okn k hlt hk with h | h
          · exact .inl h
          · exact absurd h (hown0 k)
        · exact .inr ⟨by omega, by rw [e5]; exact hc'.rel.okLt k hk⟩
      · obtain ⟨g1, g2, _⟩ := hr2.heap.at_lt (hsub.at hx')
        exact .inr ⟨g1, g2⟩
    · rw [look_enumR] at hR
      obtain ⟨id, i1, i2, i3⟩ := r2 i R (by simpa using hR.2)
      obtain ⟨v', flat, f1, f2, f3, f4, f5⟩ := hr2.heap.row id R i2
      refine ⟨v', flat, by simp [i1, f1], f2, f3.mono (fun k x => .inl x) (fun _ _ => rfl), f4, fun k hk => ⟨fun hl hh => ?_, fun hl => by rw [i3] at hl; cases hl⟩⟩
      rcases hh with hh | ⟨_, x, hx', _⟩
      · exact (f5 k hk).1 hl hh
      · have := hr2.heap.inj x (.inr id) k (hsub.at hx') ⟨⟨R, i2⟩, v', f1, hk⟩
        subst this
        obtain ⟨⟨R', hR'⟩, _⟩ := hx'
        rw [lessO_not (List.mem_of_getElem? i1)] at hR'; cases hR'
    · have aux : ∀ x : Nat ⊕ Nat, At [] (enumR 0 rows) ⟨fun _ => none, fun i => (ids[i]?).bind M2.ν, okS true (lessO S' ids) M2, fun _ => False, fun _ => False, []⟩ x k → ∃ i id, x = .inr i ∧ ids[i]? = some id ∧ At S'.H S'.O M2 (.inr id) k := by
        intro x hx'
        cases x with
        | inl b => obtain ⟨⟨_, h⟩, _⟩ := hx'; cases h
        | inr i =>
          obtain ⟨⟨R, hR⟩, v', hv, hk⟩ := hx'
          rw [look_enumR] at hR
          obtain ⟨id, i1, i2, i3⟩ := r2 i R (by simpa using hR.2)
          have hv' : (ids[i]?).bind M2.ν = some v' := hv
          rw [i1] at hv'
          exact ⟨i, id, rfl, i1, ⟨R, i2⟩, v', hv', hk⟩
      obtain ⟨i, id, rfl, hi, g1⟩ := aux x hx'
      obtain ⟨j, jd, rfl, hj, g2⟩ := aux y hy'
      have := hr2.heap.inj _ _ k g1 g2
      simp only [Sum.inr.injEq] at this
      subst this
      congr 1
      exact (List.getElem?_inj (List.getElem?_eq_some_iff.1 hi).1 h4).1 (hi.trans hj.symm)
  rcases he with rfl | rfl
  · exact hgoal
  · exact hgoal
def endL (res : KV) (rows : List KRow) : KV → List KRow → Prop := fun v rs => LV v res ∧ rs.map KRow.row = rows.map KRow.row
theorem con_l {f : Nat} {fn : Func} {c : Code} {args : List KV} {res : KV} {rows : List KRow} (ids : List Nat) (pz : List Nat) (hT : SeatOk P tb) (hf : P.funcs[f]? = some fn) (hb : fn.body = some c) (hent : Ent P f)
    (hdr : drawsOk c = true) (hn : Nat.ble (lenK args) fn.ntmps = true) (ha : okArgs args = true) (hid : ids.Nodup)
    (h : ∀ base I, I = primK P (noEnv P) base none (endL res rows) → wpK I tb pz c (KS0 fn.ntmps args) () (retKQ I tb fn.results.toList ids)) : KC P f args res rows := by
  refine con_introL hf hb hent (by rw [toDL_len]; exact hn) fun base => ?_
  have := wpK_aw hT.mix hT.tab hdr (h base _ rfl)
  rw [show (KS0 fn.ntmps args).st = S0 fn.ntmps (KV.toDL args) from by simp only [KS0, KSt.st, S0, argK_spec ha]; rfl] at this
  refine AW_weakQ (this.mono ?_)
  rintro e S s ⟨S', hw, hq⟩
  refine ⟨S'.st, hw, ?_⟩
  unfold retKQ at hq
  split at hq
  · rename_i he
    replace hq := kk_spec hq; obtain ⟨cs, h1, hq⟩ := hq
    replace hq := kk_spec hq; obtain ⟨v, h2, hq⟩ := hq
    replace hq := kk_spec hq; obtain ⟨rs, h3, hq⟩ := hq
    obtain ⟨e1, e2⟩ := (hq : leA v.av res.av ∧ rs.map KRow.row = rows.map KRow.row)
    refine ⟨?_, v.av, e1, KV.avL cs, ids, resKL_spec hT.tab h1, ?_, ?_, hid⟩
    · cases e <;> first | exact .inl rfl | exact .inr rfl | cases he
    · rw [← oneK_spec, ret3K_spec h2]
    · rw [rowsOfK_spec h3, e2]
  · exact hq.elim
/-! Plain models. -/
def fitsN (n bytes : Nat) : Prop := n * bytes ≤ 140737488355328 ∧ n ≤ 140737488355328
instance {n bytes : Nat} : Decidable (fitsN n bytes) := inferInstanceAs (Decidable (_ ∧ _))
def mkOk (n : Int) (bytes : Nat) : Prop := 0 ≤ n ∧ (bytes : Int) * n ≤ 281474976710656 ∧ n ≤ 9223372036854775807
instance {n : Int} {bytes : Nat} : Decidable (mkOk n bytes) := inferInstanceAs (Decidable (_ ∧ _ ∧ _))
def getO {α : Type} (d : α) (l : List α) (i : Int) : Option α := if 0 ≤ i ∧ i < ((l.length : Nat) : Int) then some (l.getD i.toNat d) else none
def loopO {σ ρ : Type} (step : σ → Option (σ ⊕ ρ)) : Nat → σ → Option ρ
  | 0, _ => none
  | n + 1, s => match step s with
    | none => none
    | some (.inl s') => loopO step n s'
    | some (.inr q) => some q
theorem L_tst {I : Prim E.σ} (hI : I = primK P E base r post) {α : Type} {b b' : Bool} {X Y : Option α} {o : α} {A B : Prop} (h : (if b = true then X else Y) = some o) (e : b' = b) (k1 : X = some o → A) (k2 : Y = some o → B) : I.tst b' A B := by
  subst hI; subst e
  cases b' with
  | true => exact ⟨fun _ => k1 h, fun e => by cases e⟩
  | false => exact ⟨fun e => by (cases e), fun _ => k2 h⟩
theorem L_conj {I : Prim E.σ} (hI : I = primK P E base r post) {α : Type} {C C' : Prop} [Decidable C] {X : Option α} {o : α} {B : Prop} (h : (if C then X else none) = some o) (e : C → C') (k : C → X = some o → B) : I.conj C' B := by
  subst hI
  by_cases hc : C
  · rw [if_pos hc] at h; exact ⟨e hc, k hc h⟩
  · rw [if_neg hc] at h; cases h
theorem L_get {I : Prim E.σ} (hI : I = primK P E base r post) {α β : Type} {d : α} {l : List α} {i : Int} {k : α → Option β} {o : β} {C' B : Prop} (h : (getO d l i).bind k = some o) (e : (0 ≤ i ∧ i < ((l.length : Nat) : Int)) → C') (kk : (0 ≤ i ∧ i < ((l.length : Nat) : Int)) → ∀ x, x = l.getD i.toNat d → k x = some o → B) : I.conj C' B := by
  subst hI
  unfold getO at h
  by_cases hc : 0 ≤ i ∧ i < ((l.length : Nat) : Int)
  · rw [if_pos hc] at h; exact ⟨e hc, kk hc _ rfl h⟩
  · rw [if_neg hc] at h; cases h
theorem K_setl2 {I : Prim E.σ} (hI : I = primK P E base r post) {ps : List KP} {sz : Nat} {ix : Int} {j : Nat} {cs : List KV} {α : Type} {d : α} {f : α → Nat → KV} {K : List KP → Prop} (l0 : List α) (v : α) (l1 : List α) {i : Int} (hl1 : l1 = l0.set i.toNat v) (hps : rowsD sz ps = rowsD sz [.ls α d l0 f])
    (hi : 0 ≤ i ∧ i < ((l0.length : Nat) : Int)) (hix : ix = i) (hv : rowD sz 0 (fun q => (f v q).toD) = putG (rowD sz 0 fun q => (f (l0.getD i.toNat d) q).toD) j (KV.toDL cs)) (k : K [.ls α d l1 f]) : I.setl ps sz ix j cs K := by
  subst hI; subst hix; subst hl1
  refine ⟨_, ?_, k⟩
  rw [hps]
  have hlt : ix.toNat < l0.length := by omega
  simp only [rowsD, KP.rows, List.append_nil]
  rw [List.map_set, hv]
  congr 1
  simp [List.getD_eq_getElem?_getD, hlt]
def letO {α β : Type} (x : α) (k : α → Option β) : Option β := k x
theorem letO_of {α β : Type} {x : α} {k : α → Option β} {o : β} (h : letO x k = some o) : ∃ y, y = x ∧ k y = some o := ⟨x, rfl, h⟩
theorem bind_of {α β : Type} {m : Option α} {k : α → Option β} {o : β} (h : m.bind k = some o) : ∃ v, m = some v ∧ k v = some o := by
  cases m with
  | none => cases h
  | some v => exact ⟨v, rfl, h⟩
theorem L_call {I : Prim E.σ} (hI : I = primK P E base r post) {α β : Type} {m : Option α} {k : α → Option β} {o : β} {g : Nat} {args args' : List KV} {res : α → KV} {rows : α → List KRow} {K : KV → List KRow → Prop} (h : m.bind k = some o)
    (hc : ∀ v, m = some v → KC P g args' (res v) (rows v)) (ha : leDL (KV.toDL args) (KV.toDL args')) (kk : ∀ v, k v = some o → K (res v) (rows v)) : I.C g args K := by
  obtain ⟨v, h1, h2⟩ := bind_of h
  exact C_le hI (hc v h1) ha (kk v h2)
theorem L_loop {σ ρ : Type} {I : Prim E.σ} (hI : I = primK P E base r post) (hT : SeatOk P tb) (pz : List Nat) {c : Code} (hdr : drawsOk c = true) {S : KSt} {s : E.σ} {Q : Exit → KSt → E.σ → Prop} {β : Type} {o : β}
    {step : σ → Option (σ ⊕ ρ)} {n : Nat} {s0 : σ} {k : ρ → Option β} (h : (loopO step n s0).bind k = some o) (st : σ → KSt) (ex : ρ → Exit) (sx : ρ → KSt) (hw : Weak S.st (st s0).st) (hx : ∀ q, ex q ≠ .normal)
    (round : ∀ (a : σ) (x : σ ⊕ ρ), step a = some x → ∀ R : Exit → KSt → E.σ → Prop, (∀ S' a', x = .inl a' → Weak S'.st (st a').st → R .normal S' s) → (∀ S' q, x = .inr q → Weak S'.st (sx q).st → R (ex q) S' s) → wpK I tb pz c (st a) s R)
    (hQ : ∀ q, k q = some o → Q (ex q) (sx q) s) : I.W (.loop c) S s Q := by
  subst hI
  obtain ⟨q, h1, h2⟩ := bind_of h
  refine AW_weak hw (AW_loop (fun n S' s' => ∃ a, S' = (st a).st ∧ s' = s ∧ loopO step n a = some q) n ⟨s0, rfl, rfl, h1⟩ ?_)
  rintro n S' s' ⟨a, rfl, rfl, hl⟩
  cases n with
  | zero => cases hl
  | succ n =>
    obtain ⟨x, hxs⟩ : ∃ x, step a = some x := by
      cases hs : step a with
      | none => rw [loopO, hs] at hl; cases hl
      | some x => exact ⟨x, rfl⟩
    rw [loopO, hxs] at hl
    refine AW_weakQ ((wpK_aw hT.mix hT.tab hdr (round a x hxs (fun e S2 s2 => s2 = s' ∧ ((e = .normal ∧ ∃ a', x = .inl a' ∧ Weak S2.st (st a').st) ∨ (∃ q', x = .inr q' ∧ e = ex q' ∧ Weak S2.st (sx q').st)))
      (fun S' a' e1 e2 => ⟨rfl, .inl ⟨rfl, a', e1, e2⟩⟩) (fun S' q' e1 e2 => ⟨rfl, .inr ⟨q', e1, rfl, e2⟩⟩))).mono ?_)
    rintro e S2 s2 ⟨S3, hw3, rfl, hq | ⟨q', rfl, rfl, hw4⟩⟩
    · obtain ⟨rfl, a', rfl, hw4⟩ := hq
      exact ⟨(st a').st, hw3.trans hw4, n, (st a').st, Nat.lt_succ_self n, Weak.refl _, a', rfl, rfl, hl⟩
    · cases hl
      refine ⟨(sx q).st, hw3.trans hw4, ?_⟩
      have := KQ_of (Q := Q) (hQ q h2)
      cases he : ex q with
      | normal => exact absurd he (hx q)
      | _ => rw [he] at this; exact this
/-- A piece of code whose end is said once. -/
theorem L_cut {ρ : Type} {I : Prim E.σ} (hI : I = primK P E base r post) (hT : SeatOk P tb) (pz : List Nat) {c : Code} (hdr : drawsOk c = true) {S : KSt} {s : E.σ} {Q : Exit → KSt → E.σ → Prop} {β : Type} {o : β}
    {m : Option ρ} {k : ρ → Option β} (h : m.bind k = some o) (ex : ρ → Exit) (sx : ρ → KSt)
    (body : ∀ x, m = some x → ∀ R : Exit → KSt → E.σ → Prop, (∀ S' q, x = q → Weak S'.st (sx q).st → R (ex q) S' s) → wpK I tb pz c S s R)
    (hQ : ∀ q, k q = some o → Q (ex q) (sx q) s) : I.W c S s Q := by
  subst hI
  obtain ⟨q, h1, h2⟩ := bind_of h
  refine AW_weakQ ((wpK_aw hT.mix hT.tab hdr (body q h1 (fun e S2 s2 => s2 = s ∧ e = ex q ∧ Weak S2.st (sx q).st) (fun S' q' e1 e2 => by subst e1; exact ⟨rfl, rfl, e2⟩))).mono ?_)
  rintro e S2 s2 ⟨S3, hw3, rfl, rfl, hw4⟩
  exact ⟨(sx q).st, hw3.trans hw4, KQ_of (hQ q h2)⟩
end Go.Proofs.Ytnekemldcjegaaa.Aw

/- The logic of abstract walks, part N4: reckoning with plain models. -/
namespace Go.Proofs.Ytnekemldcjegaaa.Aw
open Go Go.RowKit
set_option linter.unusedVariables false
set_option linter.unusedSimpArgs false
/-- A loop, by what holds at its head. -/
theorem loopO_of {σ ρ : Type} {step : σ → Option (σ ⊕ ρ)} (inv : σ → Prop) (m : σ → Nat) (post : ρ → Prop)
    (hstep : ∀ s, inv s → (∃ s', step s = some (.inl s') ∧ inv s' ∧ m s' < m s) ∨ (∃ q, step s = some (.inr q) ∧ post q)) : ∀ (n : Nat) (s : σ), inv s → m s < n → ∃ q, loopO step n s = some q ∧ post q
  | 0, s, _, h => by omega
  | n + 1, s, hi, hm => by
    rcases hstep s hi with ⟨s', e, hi', hm'⟩ | ⟨q, e, hp⟩
    · obtain ⟨q, e2, hp⟩ := loopO_of inv m post hstep n s' hi' (by omega)
      exact ⟨q, by rw [loopO, e]; exact e2, hp⟩
    · exact ⟨q, by rw [loopO, e], hp⟩
theorem loopO_inr {σ ρ : Type} {step : σ → Option (σ ⊕ ρ)} {n : Nat} {s : σ} {q : ρ} (h : step s = some (.inr q)) : loopO step (n + 1) s = some q := by rw [loopO, h]
theorem getO_of {α : Type} {d : α} {l : List α} {i : Int} (h0 : 0 ≤ i) (h1 : i < l.length) : getO d l i = some (l.getD i.toNat d) := by
  unfold getO; rw [if_pos ⟨h0, h1⟩]
theorem icmp_lss {a b : Int} : icmpR .lss a b = decide (a < b) := by simp only [icmpR]
theorem icmp_leq {a b : Int} : icmpR .leq a b = decide (a ≤ b) := by simp only [icmpR]
theorem icmp_gtr {a b : Int} : icmpR .gtr a b = decide (a > b) := by simp only [icmpR]
theorem icmp_geq {a b : Int} : icmpR .geq a b = decide (a ≥ b) := by simp only [icmpR]
theorem icmp_eql {a b : Int} : icmpR .eql a b = decide (a = b) := by
  show (a == b) = decide (a = b)
  by_cases h : a = b <;> simp [h]
theorem icmp_neq {a b : Int} : icmpR .neq a b = decide (a ≠ b) := by
  show (a != b) = decide (a ≠ b)
  by_cases h : a = b <;> simp [h]
theorem addW {a b : Int} (h : -9223372036854775808 ≤ a + b ∧ a + b ≤ 9223372036854775807) : iopR .add .i64 a b = a + b := wrap_i64 h
theorem subW {a b : Int} (h : -9223372036854775808 ≤ a - b ∧ a - b ≤ 9223372036854775807) : iopR .sub .i64 a b = a - b := wrap_i64 h
theorem mulW {a b : Int} (h : -9223372036854775808 ≤ a * b ∧ a * b ≤ 9223372036854775807) : iopR .mul .i64 a b = a * b := wrap_i64 h
theorem remW {k : IntKind} {a b : Int} (ha : 0 ≤ a) : iopR .rem k a b = a % b := Int.tmod_eq_emod_of_nonneg ha
theorem letO_eq {α β : Type} (x : α) (k : α → Option β) : letO x k = k x := rfl
theorem bindS {α β : Type} (a : α) (k : α → Option β) : (some a).bind k = k a := rfl
end Go.Proofs.Ytnekemldcjegaaa.Aw

/- The logic of abstract walks, part N5: maps beside a plain model. -/
namespace Go.Proofs.Ytnekemldcjegaaa.Aw
open Go Go.RowKit
set_option linter.unusedVariables false
set_option linter.unusedSimpArgs false
set_option linter.unusedSectionVars false
universe u
variable {P : Program} {E : Env P} {base : Nat} {r : Option Nat} {post : KV → List KRow → Prop} {tb : Nat → Option TI}
/-! Maps as lists of keys and values. -/
section
variable {κ ν : Type} [BEq κ]
def mfind (l : List (κ × ν)) (k : κ) : Option ν := match l with
  | [] => none
  | p :: r => if k == p.1 then some p.2 else mfind r k
def mget (l : List (κ × ν)) (k : κ) (z : ν) : ν := (mfind l k).getD z
def mset (l : List (κ × ν)) (k : κ) (v : ν) : List (κ × ν) := match l with
  | [] => [(k, v)]
  | p :: r => if k == p.1 then (k, v) :: r else p :: mset r k v
def mdel (l : List (κ × ν)) (k : κ) : List (κ × ν) := match l with
  | [] => []
  | p :: r => if k == p.1 then r else p :: mdel r k
end
theorem msetD_cons (row : List D) (r : List (List D)) (k v : D) : msetD (row :: r) k v = if dsame k (row.headD .nilfn) = true then [k, v] :: r else row :: msetD r k v := by
  simp only [msetD, mpos]
  cases dsame k (row.headD .nilfn) with
  | true => simp
  | false =>
    cases mpos k r with
    | none => simp
    | some i => simp
/-- How a map's entries are laid. -/
structure MapEnc {κ ν : Type} [BEq κ] (u : Un) (f : κ × ν → Nat → KV) (fk : κ → KV) (fv : ν → KV) : Prop where
  t : ∃ d, unT u = some d ∧ ∀ a, isKeyD d (fk a).toD
  f0 : ∀ a, f a 0 = fk a.1
  f1 : ∀ a, f a 1 = fv a.2
  same : ∀ a b, dsame (fk a).toD (fk b).toD = (a == b)
  dat : ∀ a, okDat (fv a) = true
section
variable {κ ν : Type} [BEq κ] {u : Un} {f : κ × ν → Nat → KV} {fk : κ → KV} {fv : ν → KV}
def mrows (fk : κ → KV) (fv : ν → KV) (l : List (κ × ν)) : List (List D) := l.map fun p => [(fk p.1).toD, (fv p.2).toD]
theorem mrows_eq (h : MapEnc u f fk fv) (d : κ × ν) (l : List (κ × ν)) : rowsD 0 [.mp (κ × ν) d l f] = mrows fk fv l := by
  simp [rowsD, KP.rows, mrows, rowD, h.f0, h.f1]
theorem mrows_keys {d : TypeDesc} (h : ∀ a, isKeyD d (fk a).toD) (l : List (κ × ν)) : keysD d (mrows fk fv l) := by
  intro row hr
  obtain ⟨p, _, rfl⟩ := List.mem_map.1 hr
  exact ⟨_, _, rfl, h p.1⟩
theorem msetD_rows (h : MapEnc u f fk fv) (k : κ) (v : ν) : ∀ (l : List (κ × ν)), msetD (mrows fk fv l) (fk k).toD (fv v).toD = mrows fk fv (mset l k v)
  | [] => rfl
  | p :: r => by
    have ih := msetD_rows h k v r
    simp only [mrows, List.map_cons, msetD_cons, List.headD_cons, h.same, mset] at ih ⊢
    by_cases hb : (k == p.1) = true
    · simp [hb]
    · simp only [hb, if_false, Bool.false_eq_true, List.map_cons]; rw [ih]
theorem K_mset {I : Prim E.σ} (hI : I = primK P E base r post) {ps : List KP} {kc v : KV} {K : List KP → Prop} (h : MapEnc u f fk fv) {d : κ × ν} (l : List (κ × ν)) (key : κ) (x : ν) (l1 : List (κ × ν)) (hl : l1 = mset l key x)
    (hps : rowsD 0 ps = rowsD 0 [.mp (κ × ν) d l f]) (hk : kc.toD = (fk key).toD) (hv : v.toD = (fv x).toD) (k : K [.mp (κ × ν) d l1 f]) : I.mset u ps kc v K := by
  subst hI hl
  obtain ⟨d', h1, h2⟩ := h.t
  refine ⟨d', h1, by rw [hk]; exact h2 key, by rw [hps, mrows_eq h]; exact mrows_keys h2 l, _, ?_, k⟩
  rw [hps, mrows_eq h, mrows_eq h, hk, hv, msetD_rows h]
end
end Go.Proofs.Ytnekemldcjegaaa.Aw

/- A cell of a box that holds a nil slice, as an empty row of one's own. -/
namespace Go.Proofs.Ytnekemldcjegaaa.Aw
open Go Go.RowKit Go.Proofs
set_option maxRecDepth 100000
theorem weak_cell {P : Program} {E : Env P} {base : Nat} {s : E.σ} {M : Mp} {a : Act} {w : World} {S S' : St} (hc : Cfg E base S s M a w) (hn : S'.n = S.n) (hT : S'.T = S.T) (hO : S'.O = S.O) (hl : S'.low = S.low)
    (hH : ∀ b B', look S'.H b = some B' → ∃ B, look S.H b = some B ∧ B'.e = B.e ∧ B'.live = B.live ∧ B'.cells.length = B.cells.length ∧
      ∀ (i : Nat) (c' : AV) (v : Value), B'.cells[i]? = some c' → ∃ c, B.cells[i]? = some c ∧ (RdA w M.ok M.μ M.ν E.l c v → RdA w M.ok M.μ M.ν E.l c' v)) : Cfg E base S' s M a w ∧ Ext S M w S' M w := by
  have hr := hc.rel
  have hmu : ∀ x k, At S'.H S'.O M x k → At S.H S.O M x k := by
    intro x k hx
    cases x with
    | inl b => obtain ⟨⟨B, hB⟩, hk⟩ := hx; obtain ⟨B0, h1, _⟩ := hH b B hB; exact ⟨⟨_, h1⟩, hk⟩
    | inr b => obtain ⟨⟨B, hB⟩, hk⟩ := hx; rw [hO] at hB; exact ⟨⟨_, hB⟩, hk⟩
  have hlive : ∀ x, Liv S'.H S'.O x → Liv S.H S.O x := by
    intro x hx
    cases x with
    | inl b => obtain ⟨B, hB, hl⟩ := hx; obtain ⟨B0, h1, _, h2, _⟩ := hH b B hB; exact ⟨_, h1, h2 ▸ hl⟩
    | inr b => obtain ⟨B, hB, hl⟩ := hx; rw [hO] at hB; exact ⟨_, hB, hl⟩
  have hown : ∀ k, Own S' M k → Own S M k := by
    rintro k (⟨x, hx, hl⟩ | hd)
    · exact .inl ⟨x, hmu x k hx, hlive x hl⟩
    · exact .inr hd
  refine ⟨⟨⟨hr.lo, hr.size.trans hn.symm, fun t c ht => hr.tmp t c (hT ▸ ht), ⟨?_, ?_, ?_⟩, hr.okLt, hr.dfr, hr.dsOk, hr.dsN⟩, hc.j, hc.okLv, fun k hk => hc.own k (hown k hk), hc.okDom, hc.bDom⟩,
    ⟨rfl, rfl, rfl, Nat.le_refl _, fun _ _ _ _ => rfl, fun k _ hk => hown k hk, fun k x => x, fun k _ x => .inl x, fun _ _ x => x, Nat.le_of_eq hl.symm, fun _ _ => rfl, fun _ _ x => .inl x⟩⟩
  · intro b B' hB'
    obtain ⟨B, h1, h2, h3, h4, h5⟩ := hH b B' hB'
    obtain ⟨k, vs, e1, e2, e3, e4, e5, e6, e7, e8⟩ := hr.heap.blk b _ h1
    refine ⟨k, vs, e1, e2, h2 ▸ e3, e4.trans h4.symm, fun i c v hi hv => ?_, e6, fun h => e7 (h3 ▸ h), fun h => e8 (h3 ▸ h)⟩
    obtain ⟨c0, g1, g2⟩ := h5 i c v hi
    exact g2 (e5 i c0 v g1 hv)
  · intro b R hR
    exact hr.heap.row b R (hO ▸ hR)
  · intro x y k hx hy
    exact hr.heap.inj x y k (hmu x k hx) (hmu y k hy)
/-- A box's cell that is nil, as an empty row of one's own. -/
theorem weak_nilH {S : KSt} (b i id e sz : Nat) (B : KBlk) (hb : lk S.H b = some B) (hci : nth B.cells i = some .nilsl) (hsz : Nat.blt 0 sz = true) (hf : freshKO S [(id, ⟨e, sz, [], false, true⟩)] = true) :
    Weak S.st (KSt.st ⟨S.n, S.T, stA S.H b ⟨B.e, B.cells.set i (.osl id), B.live⟩, (id, ⟨e, sz, [], false, true⟩) :: S.O, S.low⟩) := by
  intro P E base s M a w hc
  have hsz0 : 0 < sz := by rw [Nat.blt_eq] at hsz; exact hsz
  have hnew : New M E.l w [] [(id, ⟨e, sz, [], false, true⟩)] (.osl id) (.slice none 0 0) (setν M id (.slice none 0 0)) w := by
    refine ⟨Below.refl _ _, rfl, rfl, rfl, fun _ _ => rfl, fun b hb => ?_, fun k x => x, fun k x => .inl x, .osl (by simp [setν]) rfl, ⟨fun b B h => (by cases h), fun id' R hR => ?_, fun x y k hx hy => ?_⟩⟩
    · have : ¬ b = id := fun e => hb (by simp [keys, e])
      simp [setν, this]
    · simp only [look] at hR
      by_cases hbb : id = id'
      · rw [if_pos hbb] at hR; cases hR; subst hbb
        exact ⟨.slice none 0 0, [], by simp [setν], .inl ⟨hsz0, ⟨by simp, .inl ⟨rfl, rfl⟩⟩⟩, ⟨fun row h => (by cases h), fun i row j c h => by simp at h⟩, fun h => (by cases h), fun k hk => by cases hk⟩
      · rw [if_neg hbb] at hR; cases hR
    · cases x with
      | inl b => obtain ⟨⟨_, h⟩, _⟩ := hx; cases h
      | inr x =>
        obtain ⟨⟨_, hx1⟩, v, hx2, hx3⟩ := hx
        simp only [look] at hx1
        by_cases h1 : id = x
        · subst h1
          have : v = .slice none 0 0 := by simpa [setν] using hx2.symm
          subst this; cases hx3
        · rw [if_neg h1] at hx1; cases hx1
  have h1 := hc.new hnew (dst := none) (freshK_spec (S := S) (nh := []) (no := [(id, ⟨e, sz, [], false, true⟩)]) rfl hf) rfl
  have h2 := weak_cell (S' := KSt.st ⟨S.n, S.T, stA S.H b ⟨B.e, B.cells.set i (.osl id), B.live⟩, (id, ⟨e, sz, [], false, true⟩) :: S.O, S.low⟩) h1.1 rfl rfl rfl rfl (fun b' B' hB' => by
    rw [st_lookH] at hB'
    simp only at hB'
    rw [lk_stA hb] at hB'
    by_cases e1 : b = b'
    · subst e1
      rw [if_pos rfl] at hB'
      cases hB'
      refine ⟨B.blk, ?_, rfl, rfl, ?_, fun j c' v hj => ?_⟩
      · show look (S.st.add _ _ [] _).H b = _
        rw [St.add]; show look S.st.H b = _
        rw [st_lookH, hb]; rfl
      · show (KV.avL (B.cells.set i (.osl id))).length = (KV.avL B.cells).length
        rw [avL_map, avL_map, List.length_map, List.length_map, List.length_set]
      · have hj : (KV.avL (B.cells.set i (.osl id)))[j]? = some c' := hj
        show ∃ c, (KV.avL B.cells)[j]? = some c ∧ _
        rw [avL_map, List.map_set] at hj
        rw [nth_eq] at hci
        by_cases e2 : i = j
        · subst e2
          have hlt := (List.getElem?_eq_some_iff.1 hci).1
          rw [List.getElem?_set_self (by rw [List.length_map]; exact hlt)] at hj
          cases hj
          refine ⟨(KV.nilsl).av, by rw [avL_map, List.getElem?_map, hci]; rfl, fun hv => ?_⟩
          have hvn : v = .slice none 0 0 := by cases hv with | d h => cases h; rfl
          subst hvn
          exact .osl (by simp [setν]) rfl
        · rw [List.getElem?_set_ne e2] at hj
          exact ⟨c', by rw [avL_map]; exact hj, fun h => h⟩
    · rw [if_neg e1] at hB'
      exact ⟨B', by show look S.st.H b' = _; rw [st_lookH]; exact hB', rfl, rfl, rfl, fun j c' v hj => ⟨c', hj, fun h => h⟩⟩)
  exact ⟨_, h2.1, h1.2.trans h2.2⟩
end Go.Proofs.Ytnekemldcjegaaa.Aw

/- The logic of abstract walks, part N: from a contract to a row. What comes in, read as data. -/
namespace Go.Proofs.Ytnekemldcjegaaa.Aw
open Go Go.RowKit Go.ChangeShapes Go.WideShapes
set_option linter.unusedVariables false
set_option linter.unusedSimpArgs false
/-- The shape of a type's data. -/
inductive Sh where
  | int (k : IntKind)
  | bool
  | str
  | agg (l : List Sh)
  | sl (e : Sh)
mutual
def Sh.n : Sh → Nat
  | .int _ => 1
  | .bool => 1
  | .str => 1
  | .agg l => Sh.nL l
  | .sl _ => 1
def Sh.nL : List Sh → Nat
  | [] => 0
  | s :: r => s.n + Sh.nL r
end
mutual
def Sh.Fit : Sh → List D → Prop
  | .int k, xs => ∃ n, xs = [.int k n] ∧ k.min ≤ n ∧ n ≤ k.max
  | .bool, xs => ∃ b, xs = [.bool b]
  | .str, xs => ∃ s, xs = [.str s] ∧ s.size ≤ maxLen
  | .agg l, xs => Sh.FitL l xs
  | .sl e, xs => ∃ rows : List (List D), xs = [.sl false e.n rows] ∧ rows.length ≤ maxLen ∧ ∀ row ∈ rows, e.Fit row
def Sh.FitL : List Sh → List D → Prop
  | [], xs => xs = []
  | s :: r, xs => ∃ a b, xs = a ++ b ∧ s.Fit a ∧ Sh.FitL r b
end
def shF (P : Program) (g : TypeId → Option Sh) : List (TypeId × Nat) → Nat → Option (List Sh)
  | [], _ => some []
  | (t, o) :: r, off => if o = off then match g t with
    | some s => if s.n = P.cellsOf t then match shF P g r (off + s.n) with
      | some l => some (s :: l)
      | none => none
      else none
    | none => none
    else none
/-- The shape of a type. -/
def shT (P : Program) : Nat → TypeId → Option Sh
  | 0, _ => none
  | f + 1, t => match P.underlying t with
    | some .bool => some .bool
    | some (.int k) => some (.int k)
    | some .string => some .str
    | some (.slice e) => match shT P f e with
      | some s => if s.n = P.cellsOf e ∧ 0 < s.n then some (.sl s) else none
      | none => none
    | some (.struct fs) => (shF P (shT P f) (fs.toList.map fun x => (x.type, x.offset)) 0).map .agg
    | some (.array n e) => (shF P (shT P f) ((List.range n).map fun i => (e, i * P.cellsOf e)) 0).map .agg
    | _ => none
/-- A list of cells read as data. -/
def RdC (w : World) (xs : List D) (cs : List Value) : Prop :=
  xs.length = cs.length ∧ ∀ (i : Nat) (c : D) (v : Value), xs[i]? = some c → cs[i]? = some v → Rd w (fun k => k < w.heap.size) c v ∧ v.oneCell' = true
theorem RdC.append {w : World} {xs ys : List D} {cs ds : List Value} (h : RdC w xs cs) (k : RdC w ys ds) : RdC w (xs ++ ys) (cs ++ ds) := by
  refine ⟨by simp [h.1, k.1], fun i c v hc hv => ?_⟩
  by_cases hi : i < xs.length
  · rw [List.getElem?_append_left hi] at hc
    rw [List.getElem?_append_left (by rw [← h.1]; exact hi)] at hv
    exact h.2 i c v hc hv
  · rw [List.getElem?_append_right (by omega)] at hc
    rw [List.getElem?_append_right (by rw [← h.1]; omega), ← h.1] at hv
    exact k.2 _ c v hc hv
theorem RdC.one {w : World} {x : D} {v : Value} (h : Rd w (fun k => k < w.heap.size) x v) (h1 : v.oneCell' = true) : RdC w [x] [v] := by
  refine ⟨rfl, fun i c u hc hu => ?_⟩
  match i, hc, hu with
  | 0, hc, hu => cases hc; cases hu; exact ⟨h, h1⟩
  | i + 1, hc, hu => simp at hc
section
variable {H : Type} {enc : TypeId × Value → H} {P : Program} {w : World} {held : Bool}
/-- A row of parts. -/
theorem open_parts {g : TypeId → Option Sh} {rd : TypeId → List Value → Option (DataW H × List MemPlace)} {cs : List Value}
    (ih : ∀ t s, g t = some s → ∀ cs x, rd t cs = some x → cs.length = s.n → ∃ xs, s.Fit xs ∧ RdC w xs cs) :
    ∀ {l : List (TypeId × Nat)} {off : Nat} {shs : List Sh} {ys : List (DataW H × List MemPlace)}, shF P g l off = some shs →
      (l.mapM fun f => rd f.1 ((cs.drop f.2).take (P.cellsOf f.1))) = some ys → off + Sh.nL shs = cs.length → ∃ xs, Sh.FitL shs xs ∧ RdC w xs (cs.drop off)
  | [], off, shs, ys, h1, _, h3 => by
    simp only [shF, Option.some.injEq] at h1
    subst h1
    refine ⟨[], rfl, ?_, fun i c v hc => by simp at hc⟩
    simp only [Sh.nL] at h3
    simp only [List.length_drop, List.length_nil]; omega
  | (t, o) :: r, off, shs, ys, h1, h2, h3 => by
    simp only [shF] at h1
    split at h1
    · rename_i ho
      subst ho
      cases hg : g t with
      | none => rw [hg] at h1; cases h1
      | some s =>
        rw [hg] at h1
        simp only at h1
        split at h1
        · rename_i hn
          cases hr : shF P g r (o + s.n) with
          | none => rw [hr] at h1; cases h1
          | some l =>
            rw [hr] at h1
            simp only [Option.some.injEq] at h1
            subst h1
            rw [List.mapM_cons] at h2
            cases hy : rd t ((cs.drop o).take (P.cellsOf t)) with
            | none => simp [hy] at h2
            | some y =>
              cases hz : (r.mapM fun f => rd f.1 ((cs.drop f.2).take (P.cellsOf f.1))) with
              | none => simp [hy, hz] at h2
              | some zs =>
                simp only [Sh.nL] at h3
                obtain ⟨a, a1, a2⟩ := ih t s hg _ y hy (by rw [List.length_take, List.length_drop, hn]; omega)
                obtain ⟨b, b1, b2⟩ := open_parts ih hr hz (by omega)
                refine ⟨a ++ b, ⟨a, b, rfl, a1, b1⟩, ?_⟩
                have := a2.append b2
                rw [← hn] at this
                have e : List.take s.n (List.drop o cs) ++ List.drop (o + s.n) cs = List.drop o cs := by
                  rw [← List.drop_drop]; exact List.take_append_drop _ _
                rwa [e] at this
        · cases h1
    · cases h1
theorem cells?_spec {a : Addr} {n : Nat} {cs : List Value} (h : w.cells? 0 a n = some cs) : cs.length = n ∧ ∀ j v, cs[j]? = some v → w.cell? (a.add j) = some v := by
  unfold World.cells? at h
  rw [if_pos (Nat.zero_le _)] at h
  obtain ⟨h1, h2⟩ := mapM_get h
  rw [List.length_range] at h1
  refine ⟨h1.symm, fun j v hj => ?_⟩
  obtain ⟨x, e1, e2⟩ := h2 j v hj
  have hlt := (List.getElem?_eq_some_iff.1 hj).1
  rw [List.getElem?_range (by omega)] at e1
  cases e1
  exact e2
theorem cell_plain {a : Addr} {v : Value} (h : w.cell? a = some v) : a.spot = none ∧ a.block < w.heap.size := by
  unfold World.cell? at h
  split at h
  · rename_i c x y hb
    split at h
    · cases h
    · rename_i hs
      refine ⟨?_, (Array.getElem?_eq_some_iff.1 hb).1⟩
      cases hq : a.spot with
      | none => rfl
      | some z => rw [hq] at hs; simp at hs
  · cases h
/-- What comes in, as data. -/
theorem open_sh : ∀ (f : Nat) (t : TypeId) (sh : Sh), shT P f t = some sh → ∀ (fuel : Nat) (cs : List Value) (x : DataW H × List MemPlace), DataW.trod enc P w 0 (fun _ => true) held fuel t cs = some x → cs.length = sh.n →
    ∃ xs, sh.Fit xs ∧ RdC w xs cs
  | 0, t, sh, h => by simp [shT] at h
  | f + 1, t, sh, h => by
    intro fuel cs x hx hlen
    have hx0 := hx
    cases fuel with
    | zero => simp [DataW.trod] at hx
    | succ fuel =>
      unfold shT at h
      unfold DataW.trod at hx
      split at h <;> rename_i hu
      · cases h
        rw [hu] at hx
        split at hx <;> simp_all
        rename_i b
        exact ⟨[.bool b], ⟨b, rfl⟩, RdC.one (.bool b) rfl⟩
      · cases h
        rw [hu] at hx
        split at hx <;> simp_all
        rename_i k' n e
        subst e
        obtain ⟨⟨rfl, hw⟩, _⟩ := hx
        simp only [Lit.wf, Bool.and_eq_true, decide_eq_true_eq] at hw
        exact ⟨[.int k' n], ⟨n, rfl, hw⟩, RdC.one (.int k' n) rfl⟩
      · cases h
        rw [hu] at hx
        split at hx <;> simp_all
        rename_i s
        exact ⟨[.str s], ⟨s, rfl, hx.1⟩, RdC.one (.str s) rfl⟩
      · rename_i e
        cases he : shT P f e with
        | none => rw [he] at h; cases h
        | some s =>
          rw [he] at h
          simp only at h
          split at h
          · rename_i hc
            cases h
            obtain ⟨hc1, hc2⟩ := hc
            rcases Go.Deep.open_slice hu hx0 with ⟨rfl, _⟩ | ⟨a, len, cap, m, n, Dd, Pl, rfl, _, hl, hm, hmm, _, hel⟩
            · exact ⟨[.sl false s.n []], ⟨[], rfl, Nat.zero_le _, fun row hr => by cases hr⟩, RdC.one (.sl0 _ _) rfl⟩
            · simp only [if_true] at hmm
              subst hmm
              by_cases h0 : m = 0
              · subst h0
                have : len = 0 := by omega
                subst this
                exact ⟨[.sl false s.n []], ⟨[], rfl, Nat.zero_le _, fun row hr => by cases hr⟩, RdC.one (.slE _ _ a) rfl⟩
              · have hread : ∀ i, i < m → ∃ z : List D × List Value, w.cells? 0 (a.add (i * P.cellsOf e)) (P.cellsOf e) = some z.2 ∧ s.Fit z.1 ∧ RdC w z.1 z.2 := fun i hi => by
                  obtain ⟨cs', c1, c2⟩ := hel i hi
                  obtain ⟨xs, f1, f2⟩ := open_sh f e s he n cs' _ c2 (by rw [(cells?_spec c1).1, hc1])
                  exact ⟨(xs, cs'), c1, f1, f2⟩
                obtain ⟨Z, hZ⟩ := Go.Deep.choose_lt (α := List D × List Value) hread
                obtain ⟨z1, z2, z3⟩ := hZ 0 (by omega)
                obtain ⟨y1, y2⟩ := cells?_spec z1
                have hcell0 : w.cell? (a.add (0 * P.cellsOf e)) = some ((Z 0).2[0]'(by rw [y1]; omega)) := by
                  have := y2 0 ((Z 0).2[0]'(by rw [y1]; omega)) (by simp)
                  simpa [Addr.add] using this
                rw [Nat.zero_mul] at hcell0
                have e0 : a.add 0 = a := rfl
                rw [e0] at hcell0
                obtain ⟨hsp, hblk⟩ := cell_plain hcell0
                obtain ⟨b, off, spot⟩ := a
                simp only at hsp hblk
                subst hsp
                have hadd : ∀ j, (⟨b, off, none⟩ : Addr).add j = ⟨b, off + j, none⟩ := fun j => by unfold Addr.add; split <;> simp_all
                have hadd2 : ∀ o j, (⟨b, o, none⟩ : Addr).add j = ⟨b, o + j, none⟩ := fun o j => by unfold Addr.add; split <;> simp_all
                have hrows : ∀ (i : Nat) (row : List D), ((List.range len).map fun i => (Z i).1)[i]? = some row → i < len ∧ row = (Z i).1 := fun i row hi => by
                  have hlt := (List.getElem?_eq_some_iff.1 hi).1
                  simp only [List.length_map, List.length_range] at hlt
                  rw [List.getElem?_map, List.getElem?_range hlt] at hi
                  exact ⟨hlt, by simpa using hi.symm⟩
                have key : ∀ (i : Nat) (row : List D) (j : Nat) (c : D), ((List.range len).map fun i => (Z i).1)[i]? = some row → row[j]? = some c →
                    w.cell? ⟨b, off + i * s.n + j, none⟩ = some ((Z i).2.getD j undef) ∧ ((Z i).2.getD j undef).oneCell' = true ∧ Rd w (fun k => k < w.heap.size) c ((Z i).2.getD j undef) := fun i row j c hi hj => by
                  obtain ⟨hlt, rfl⟩ := hrows i row hi
                  obtain ⟨q1, q2, q3⟩ := hZ i (by omega)
                  obtain ⟨r1, r2⟩ := cells?_spec q1
                  have hj' := (List.getElem?_eq_some_iff.1 hj).1
                  have hlen2 := q3.1
                  have hv : (Z i).2[j]? = some ((Z i).2.getD j undef) := by
                    rw [List.getD_eq_getElem?_getD, List.getElem?_eq_getElem (by omega)]; rfl
                  have t1 := r2 j _ hv
                  obtain ⟨t2, t3⟩ := q3.2 j c _ hj hv
                  refine ⟨?_, t3, t2⟩
                  rw [hadd, hadd2, ← hc1] at t1
                  exact t1
                refine ⟨[.sl false s.n ((List.range len).map fun i => (Z i).1)], ⟨_, rfl, by simp only [List.length_map, List.length_range]; omega, fun row hr => ?_⟩, RdC.one ?_ rfl⟩
                · obtain ⟨i, hi, rfl⟩ := List.mem_map.1 hr
                  exact (hZ i (by have := List.mem_range.1 hi; omega)).2.1
                · have := Rd.sl (w := w) (ok := fun k => k < w.heap.size) false s.n ((List.range len).map fun i => (Z i).1) b off m (fun i j => (Z i).2.getD j undef) hblk (by simpa using hl) hm (fun h => by cases h)
                    (fun row hr => by
                      obtain ⟨i, hi, rfl⟩ := List.mem_map.1 hr
                      obtain ⟨q1, q2, q3⟩ := hZ i (by have := List.mem_range.1 hi; omega)
                      rw [q3.1, (cells?_spec q1).1, hc1])
                    (fun i row j c hi hj => (key i row j c hi hj).1) (fun i row j c hi hj => (key i row j c hi hj).2.1) (fun i row j c hi hj => (key i row j c hi hj).2.2)
                  simpa using this
          · cases h
      · rename_i fs
        rw [hu] at hx
        cases hl : shF P (shT P f) (fs.toList.map fun x => (x.type, x.offset)) 0 with
        | none => rw [hl] at h; cases h
        | some l =>
          rw [hl] at h; cases h
          simp only at hx
          split at hx
          · rename_i ys hq
            cases hys : (fs.toList.mapM fun f => DataW.trod enc P w 0 (fun _ => true) held fuel f.type ((cs.drop f.offset).take (P.cellsOf f.type))) with
            | none => rw [hys] at hx; cases hx
            | some ys =>
              have := open_parts (P := P) (w := w) (g := shT P f) (rd := fun t cs => DataW.trod enc P w 0 (fun _ => true) held fuel t cs) (cs := cs) (fun t s hs cs x hx hn => open_sh f t s hs fuel cs x hx hn) (l := fs.toList.map fun x => (x.type, x.offset)) (ys := ys) hl
                (by rw [List.mapM_map]; exact hys) (by simpa [Sh.n] using hlen.symm)
              rw [List.drop_zero] at this
              obtain ⟨xs, a1, a2⟩ := this
              exact ⟨xs, by unfold Sh.Fit; exact a1, a2⟩
          · cases hx
      · rename_i n e
        rw [hu] at hx
        cases hl : shF P (shT P f) ((List.range n).map fun i => (e, i * P.cellsOf e)) 0 with
        | none => rw [hl] at h; cases h
        | some l =>
          rw [hl] at h; cases h
          simp only at hx
          split at hx
          · cases hys : ((List.range n).mapM fun i => DataW.trod enc P w 0 (fun _ => true) held fuel e ((cs.drop (i * P.cellsOf e)).take (P.cellsOf e))) with
            | none => rw [hys] at hx; cases hx
            | some ys =>
              have := open_parts (P := P) (w := w) (g := shT P f) (rd := fun t cs => DataW.trod enc P w 0 (fun _ => true) held fuel t cs) (cs := cs) (fun t s hs cs x hx hn => open_sh f t s hs fuel cs x hx hn) (l := (List.range n).map fun i => (e, i * P.cellsOf e)) (ys := ys) hl
                (by rw [List.mapM_map]; exact hys) (by simpa [Sh.n] using hlen.symm)
              rw [List.drop_zero] at this
              obtain ⟨xs, a1, a2⟩ := this
              exact ⟨xs, by unfold Sh.Fit; exact a1, a2⟩
          · cases hx
      · cases h
def Sh.isAgg : Sh → Bool
  | .agg _ => true
  | _ => false
/-- An argument as data. -/
def Sh.arg : Sh → List D → D
  | .agg _, xs => .agg xs
  | _, xs => xs.headD .nilptr
theorem Rd.aggOf {xs : List D} {vs : Array Value} (h : RdC w xs vs.toList) : Rd w (fun k => k < w.heap.size) (.agg xs) (.agg vs) := by
  have hl : vs.size = xs.length := by rw [h.1]; simp
  refine .agg xs vs hl (fun i v hv => ?_) (fun i c v hc hv => (h.2 i c v hc (by simpa using hv)).1)
  have hlt := (Array.getElem?_eq_some_iff.1 hv).1
  have hx : xs[i]? = some (xs[i]'(by omega)) := List.getElem?_eq_getElem (by omega)
  exact (h.2 i _ v hx (by simpa using hv)).2
theorem open_arg {f : Nat} {t : TypeId} {sh : Sh} {v : Value} {d : DataW H} {p : List MemPlace} {r : Reach} {b : Nat} (hs : shT P f t = some sh) (hn : sh.n = P.cellsOf t) (hval : Value.okWide P w r b t v)
    (hd : DataW.Trod enc P w 0 (fun _ => true) held t v d p) : ∃ xs, sh.Fit xs ∧ Rd w (fun k => k < w.heap.size) (sh.arg xs) v := by
  obtain ⟨fuel, hd⟩ := hd
  have one : ∀ {s : Sh}, s.isAgg = false → s.n = 1 := fun {s} h => by cases s <;> first | rfl | cases h
  have fin : sh.isAgg = false → v.cells.toList = [v] → ∃ xs, sh.Fit xs ∧ Rd w (fun k => k < w.heap.size) (sh.arg xs) v := fun ha hv => by
    rw [hv] at hd
    obtain ⟨xs, a1, a2⟩ := open_sh f t sh hs fuel [v] _ hd (by rw [one ha]; rfl)
    refine ⟨xs, a1, ?_⟩
    obtain ⟨l1, l2⟩ := a2
    match xs, l1 with
    | [x], _ =>
      have := (l2 0 x v rfl rfl).1
      cases sh <;> first | exact this | cases ha
  have fin2 : ∀ l, sh = .agg l → (∃ cs, v = .agg cs ∧ cs.size = P.cellsOf t) → ∃ xs, sh.Fit xs ∧ Rd w (fun k => k < w.heap.size) (sh.arg xs) v := fun l hl ⟨cs, hv, hc⟩ => by
    subst hl; subst hv
    obtain ⟨xs, a1, a2⟩ := open_sh f t _ hs fuel cs.toList _ hd (by simp only [Array.length_toList]; rw [hc, hn])
    exact ⟨xs, a1, Rd.aggOf a2⟩
  have hs0 := hs
  cases f with
  | zero => simp [shT] at hs
  | succ f =>
    unfold shT at hs
    split at hs <;> rename_i hu
    · cases hs; obtain ⟨b, rfl⟩ := okWide_bool hu hval; exact fin rfl rfl
    · cases hs; obtain ⟨n, rfl⟩ := okWide_int hu hval; exact fin rfl rfl
    · cases hs; obtain ⟨n, rfl⟩ := okWide_string hu hval; exact fin rfl rfl
    · rename_i e
      cases he : shT P f e with
      | none => rw [he] at hs; cases hs
      | some s =>
        rw [he] at hs
        simp only at hs
        split at hs
        · cases hs; obtain ⟨a, len, cap, rfl⟩ := okWide_slice hu hval; exact fin rfl rfl
        · cases hs
    · rename_i fs
      cases hl : shF P (shT P f) (fs.toList.map fun x => (x.type, x.offset)) 0 with
      | none => rw [hl] at hs; cases hs
      | some l => rw [hl] at hs; cases hs; exact fin2 l rfl (okWide_struct hu hval)
    · rename_i n e
      cases hl : shF P (shT P f) ((List.range n).map fun i => (e, i * P.cellsOf e)) 0 with
      | none => rw [hl] at hs; cases hs
      | some l =>
        rw [hl] at hs; cases hs
        refine fin2 l rfl ?_
        simp only [Value.okWide, hu] at hval
        obtain ⟨cs, h1, h2, _⟩ := hval
        exact ⟨cs, h1, h2⟩
    · cases hs
/-- All arguments. -/
def FitA : List Sh → List D → Prop
  | [], xs => xs = []
  | s :: r, xs => ∃ a q, xs = s.arg a :: q ∧ s.Fit a ∧ FitA r q
def shA (P : Program) (f : Nat) : List TypeId → Option (List Sh)
  | [] => some []
  | t :: r => match shT P f t with
    | some s => if s.n = P.cellsOf t then match shA P f r with
      | some l => some (s :: l)
      | none => none
      else none
    | none => none
theorem open_args {f : Nat} {r : Reach} {b : Nat} : ∀ {ts : List TypeId} {shs : List Sh} {vs : List Value} {ds : List (DataW H)} {p : List MemPlace}, shA P f ts = some shs → DataW.TrodAll enc P w 0 (fun _ => true) held ts vs ds p →
    (∀ (j : Nat) t v, ts[j]? = some t → vs[j]? = some v → Value.okWide P w r b t v) → ∃ xs : List D, FitA shs xs ∧ vs.length = xs.length ∧ ∀ (i : Nat) (x : D) (v : Value), xs[i]? = some x → vs[i]? = some v → Rd w (fun k => k < w.heap.size) x v
  | [], shs, vs, ds, p, h1, h2, _ => by
    simp only [shA, Option.some.injEq] at h1
    subst h1
    obtain ⟨rfl, _, _⟩ := trodAll_nil h2
    exact ⟨[], rfl, rfl, fun i x v h => by simp at h⟩
  | t :: ts, shs, vs, ds, p, h1, h2, h3 => by
    simp only [shA] at h1
    cases hs : shT P f t with
    | none => rw [hs] at h1; cases h1
    | some s =>
      rw [hs] at h1
      simp only at h1
      split at h1
      · rename_i hn
        cases hl : shA P f ts with
        | none => rw [hl] at h1; cases h1
        | some l =>
          rw [hl] at h1
          simp only [Option.some.injEq] at h1
          subst h1
          obtain ⟨v, vs', d, ds', p', q', rfl, rfl, rfl, hd, hr⟩ := trodAll_cons h2
          obtain ⟨xs, a1, a2⟩ := open_arg hs hn (h3 0 t v rfl rfl) hd
          obtain ⟨ys, b1, b2, b3⟩ := open_args hl hr (fun j t v e1 e2 => h3 (j + 1) t v (by simpa using e1) (by simpa using e2))
          refine ⟨s.arg xs :: ys, ⟨xs, ys, rfl, a1, b1⟩, by simp [b2], fun i x u hx hu => ?_⟩
          match i, hx, hu with
          | 0, hx, hu => cases hx; cases hu; exact a2
          | i + 1, hx, hu => exact b3 i x u (by simpa using hx) (by simpa using hu)
      · cases h1
theorem trodAll_below (hl : laidOutB P = true) {W' : World} (hb : Below w.heap.size w W') : ∀ {ts : List TypeId} {vs : List Value} {ds : List (DataW H)} {p : List MemPlace}, (ts.all fun t => P.readableRec t && decide (t < P.types.size)) = true →
    DataW.TrodAll enc P w 0 (fun _ => true) true ts vs ds p → (∀ x ∈ p, x.block < w.heap.size) → DataW.TrodAll enc P W' 0 (fun b => decide (b < w.heap.size)) true ts vs ds p
  | [], vs, ds, p, _, h, _ => by
    obtain ⟨rfl, rfl, rfl⟩ := trodAll_nil h
    exact rfl
  | t :: ts, vs, ds, p, ht, h, hlt => by
    simp only [List.all_cons, Bool.and_eq_true, decide_eq_true_eq] at ht
    obtain ⟨v, vs', d, ds', p', q', rfl, rfl, rfl, hd, hr⟩ := trodAll_cons h
    refine ⟨p', q', Below.trod hl ht.1.1 ht.1.2 hd hb (fun x hx => hlt x (List.mem_append_left _ hx)), ?_, rfl⟩
    exact trodAll_below hl hb (by simpa using ht.2) hr (fun x hx => hlt x (List.mem_append_right _ hx))
theorem trodAll_below' (hl : laidOutB P = true) {W' : World} (hb : Below w.heap.size w W') : ∀ {ts : List TypeId} {vs : List Value} {ds : List (DataW H)} {p : List MemPlace}, (ts.all fun t => P.readableRec t && decide (t < P.types.size)) = true →
    DataW.TrodAll enc P w 0 (fun _ => true) true ts vs ds p → (∀ x ∈ p, x.block < w.heap.size) → DataW.TrodAll enc P W' 0 (fun _ => true) true ts vs ds p
  | [], vs, ds, p, _, h, _ => by
    obtain ⟨rfl, rfl, rfl⟩ := trodAll_nil h
    exact rfl
  | t :: ts, vs, ds, p, ht, h, hlt => by
    simp only [List.all_cons, Bool.and_eq_true, decide_eq_true_eq] at ht
    obtain ⟨v, vs', d, ds', p', q', rfl, rfl, rfl, hd, hr⟩ := trodAll_cons h
    refine ⟨p', q', WideElems.Trod_stays hl ht.1.1 ht.1.2 hd (fun x hx => hb.same (hlt x (List.mem_append_left _ hx))) (fun x hx => rfl), ?_, rfl⟩
    exact trodAll_below' hl hb (by simpa using ht.2) hr (fun x hx => hlt x (List.mem_append_right _ hx))
theorem trodAll_len {base : Nat} {sp : Nat → Bool} : ∀ {ts : List TypeId} {vs : List Value} {ds : List (DataW H)} {p : List MemPlace}, DataW.TrodAll enc P w base sp held ts vs ds p → ds.length = ts.length
  | [], vs, ds, p, h => by
    obtain ⟨rfl, rfl, rfl⟩ := trodAll_nil h
    rfl
  | t :: ts, vs, ds, p, h => by
    obtain ⟨v, vs', d, ds', p', q', rfl, rfl, rfl, hd, hr⟩ := trodAll_cons h
    simp only [List.length_cons, trodAll_len hr]
/-- The row of a law that only reads, and returns true. -/
theorem lifted {C : Checked} {os : Os} {f : FuncId} {fn : Func} {s : ChangeSpec} {apart fresh handsOn again : Bool} {tb : TypeId} {shs : List Sh} {fl : Nat}
    (own : ownKnob C.prog.godebug = none) (started : os.Started) (noInit : C.prog.inits.idxOf? f = none) (hfn : C.prog.funcs[f]? = some fn)
    (witness : ∃ (w : World) (tape : Tape) (i : Input), w.os = os ∧ (w.forCall tape i).Shaped C.prog ∧ i.vars = [] ∧ Input.okWide C.prog (w.forCall tape i) .any w.heap.size f i ∧
      s.pre6 enc C.prog fn [] apart (w.forCall tape i).memory i.args ∧ ({} : Assume).holds C.prog (lone (Frame.enter C.prog f i.args .normal) [] (w.forCall tape i)))
    (hl : laidOutB C.prog = true) (hv : s.vars = []) (hres : fn.resultTypes = #[tb]) (htb : C.prog.underlying tb = some .bool)
    (hsp : ∀ ds : List (DataW H), ds.length = fn.params.toList.length → s.fn H ds = { results := [.lit (.bool true)], args := ds })
    (hsh : shA C.prog fl fn.params.toList = some shs) (hrd : (fn.params.toList.all fun t => C.prog.readableRec t && decide (t < C.prog.types.size)) = true)
    (con : ∀ xs, FitA shs xs → Con C.prog f xs (.d (.bool true)) []) :
    ReturnsInHanded {} C os f .any (s.pre6 enc C.prog fn [] apart) (s.post enc C.prog fn apart fresh handsOn again) := by
  refine returnsInHanded_of_change own started noInit hfn witness ?_
  intro W base args ds gs before hval hW hcnd _
  have hW' := hW
  have hlt : ∀ p ∈ before, p.block < W.heap.size := fun p hp => by simpa using hW.lt p hp
  obtain ⟨p, q, hA, hV, hpq, hfz, hnd⟩ := hW
  rw [hv] at hV
  obtain ⟨rfl, rfl⟩ := trodVars_none hV
  have hpq : before = p := by simpa using hpq
  subst hpq
  obtain ⟨xs, x1, x2, x3⟩ := open_args hsh hA (fun j t v e1 e2 => hval j t v (by simpa using e1) (by simpa using e2))
  have hlen : ds.length = fn.params.toList.length := trodAll_len hA
  have hcon := con xs x1
  refine (hcon.2 W (fun k => k < W.heap.size) args (fun k h => h) ⟨by simpa using x2, fun i x v e1 e2 => x3 i x v e1 (by simpa using e2)⟩).mono ?_
  rintro e W' ⟨v, ok', ν', rfl, hb, _, _, hv', _⟩
  have hvv : v = .bool true := (hv' (fun _ => none) 0).bool
  subst hvv
  refine ⟨_, rfl, ?_⟩
  have hfz' : ∀ b off, MemPlace.cell b off ∈ before → W'.frozen? ⟨b, off, none⟩ = false := fun b off hp => by
    rw [hb.frozen (p := ⟨b, off, none⟩) (hlt _ hp)]; exact hfz b off hp
  have hok := ok_one (P := C.prog) (W' := W') hres rfl (okWide_bool_mk htb true)
  have e1 : (s.fn H (ds ++ [])).results = [.lit (.bool true)] := by rw [List.append_nil, hsp ds hlen]
  have e2 : (s.fn H (ds ++ [])).args = ds := by rw [List.append_nil, hsp ds hlen]
  have e3 : (s.fn H (ds ++ [])).vars = [] := by rw [List.append_nil, hsp ds hlen]
  have r1 : ∀ (b : Nat) (sp : Nat → Bool) (hd : Bool), DataW.TrodAll enc C.prog W' b sp hd fn.resultTypes.toList ((Value.bool true).resultList fn.resultTypes.size) [.lit (.bool true)] [] := fun b sp hd => by
    rw [hres]
    exact trodAll_mk1 (shut_bool htb true)
  have hv2 : ∀ sp : Nat → Bool, DataW.TrodVars enc C.prog W' sp s.vars (s.fn H (ds ++ [])).vars [] := fun sp => by rw [hv, e3]; exact rfl
  have a2 := trodAll_below' hl hb hrd hA hlt
  refine ⟨ds, [], before, [], before, [], hW', ?_, ?_, hv2 _, hb.frame _, fun _ => ⟨hok, [.lit (.bool true)] ++ ds, (s.fn H (ds ++ [])).vars, before, ⟨[] ++ before, [], ?_, hv2 _, by simp, hfz', hnd⟩, fun p hp _ => hp⟩⟩
  · rw [e1]; exact r1 _ _ _
  · rw [e2]; exact trodAll_below hl hb hrd hA hlt
  · exact trodAll_append a2 (r1 _ _ _)
end
end Go.Proofs.Ytnekemldcjegaaa.Aw
