/- Part 3 of the proof: lemmas. -/
import Derived.Test.YtnekemldcjegaaaM2
import Derived.Test.YtnekemldcjegaaaProg
import Derived.KernelRfl

/- The logic of abstract walks, part M4: the conditions for evaluation are enough. -/
namespace Go.Proofs.Ytnekemldcjegaaa.Aw
open Go Go.RowKit
set_option linter.unusedVariables false
set_option linter.unusedSimpArgs false
universe u
variable {P : Program} {E : Env P} {base : Nat} {r : Option Nat}

def plenN : List KP → Nat
  | [] => 0
  | .ls _ _ l _ :: r => l.length + plenN r
  | .rw rows :: r => rows.length + plenN r
theorem plenN_spec (sz : Nat) : ∀ (ps : List KP), (rowsD sz ps).length = plenN ps
  | [] => rfl
  | .ls _ _ l _ :: r => by simp [rowsD, plenN, KP.rows, plenN_spec sz r]
  | .rw rows :: r => by simp [rowsD, plenN, KP.rows, plenN_spec sz r, toDLL_map]
def strAt (s : ByteArray) (i : Int) : Int := match s[i.toNat]? with
  | some b => b.toNat
  | none => 0
/-- What holds behind code, up to what may be forgotten. -/
def KQ (Q : Exit → KSt → E.σ → Prop) : Exit → St → E.σ → Prop := fun e S s => ∃ S', Weak S S'.st ∧ Q e S' s
def primK (P : Program) (E : Env P) (base : Nat) (r : Option Nat) (post : KV → List KRow → Prop) : Prim E.σ where
  iop := iopR
  icmp := icmpR
  oknz := oknzR
  neg k n := k.wrap (0 - n)
  conv k n := k.wrap n
  not b := !b
  beq a b := a == b
  max a b := max a b
  min a b := min a b
  tst b A B := (b = true → A) ∧ (b = false → B)
  conj A B := A ∧ B
  inb i n := 0 ≤ i ∧ i < n
  plen ps := plenN ps
  get _ d l i := l.getD i.toNat d
  sub _ l lo hi := (l.take hi.toNat).drop lo.toNat
  le a b := a ≤ b
  strlen s := s.size
  strat s i := strAt s i
  fits ps bytes := plenN ps * bytes ≤ 140737488355328 ∧ plenN ps ≤ 140737488355328
  mkok n bytes := 0 ≤ n ∧ (bytes : Int) * n ≤ 281474976710656 ∧ n ≤ 9223372036854775807
  reps n z := [.ls Unit () (List.replicate n.toNat ()) fun _ j => (nth z j).getD .any]
  C g args K := ∃ res rows, Con P g (KV.toDL args) res.av (rows.map KRow.row) ∧ K res rows
  CD g args ds K := ∃ res rows, Con P g (KV.toDL args ++ ds) res.av (rows.map KRow.row) ∧ K res rows
  noagg ds := noAggD ds = true
  W c S s Q := AW E base r c S.st s (KQ Q)
  Y s xs K := E.step s (KV.toDL xs) ∧ ∀ s' b, E.out s (KV.toDL xs) s' b → K b s'
  post := post
  eqs := eqI
  norm ps sz K := ∃ ps', rowsD sz ps' = rowsD sz ps ∧ K ps'
  setl ps sz ix j cs K := ∃ ps', rowsD sz ps' = (rowsD sz ps).set ix.toNat (putG ((rowsD sz ps).getD ix.toNat []) j (KV.toDL cs)) ∧ K ps'
theorem AW_weakQ {c : Code} {S : St} {s : E.σ} {Q : Exit → St → E.σ → Prop} (h : AW E base r c S s fun e S' s' => ∃ S'', Weak S' S'' ∧ Q e S'' s') : AW E base r c S s Q := by
  intro M a w hc
  refine wpIn_mono (h M a w hc) ?_
  rintro e a' w' ⟨S', s', M', ⟨S'', hw, hq⟩, hc', hx⟩
  obtain ⟨M2, h1, h2⟩ := hw _ _ _ _ _ _ _ hc'
  exact ⟨S'', s', M2, hq, h1, hx.trans h2⟩
variable {post : KV → List KRow → Prop} {tb : Nat → Option TI}
theorem st_look {S : KSt} {t : Nat} : look S.st.T t = (lk S.T t).map KV.av := look_mapT
theorem st_lookH {S : KSt} {t : Nat} : look S.st.H t = (lk S.H t).map KBlk.blk := look_mapH
theorem st_lookO {S : KSt} {t : Nat} : look S.st.O t = (lk S.O t).map KRow.row := look_mapO
theorem kop_st {S : KSt} {x : Operand} {c : KV} (h : kop S.T x = some c) : opnd S.st.T x = some c.av := kop_spec h
theorem sameK_spec {k k' : IntKind} (h : sameK k k' = true) : k = k' := by cases k <;> cases k' <;> first | rfl | cases h
/-- A value that an operation may bring. -/
abbrev FreeR (P : Program) (o : Oper) (S : KSt) (K : KV → List (Nat × KBlk) → List (Nat × KRow) → Prop) : Prop := ∃ res nh no, Free P o S.st res.av (mapH nh) (mapO no) ∧ K res nh no
theorem freeR_plain {o : Oper} {S : KSt} {K : KV → List (Nat × KBlk) → List (Nat × KRow) → Prop} {res : KV} (h : Free P o S.st res.av [] []) (k : K res [] []) : FreeR P o S K := ⟨res, [], [], h, k⟩
theorem getD_in {α : Type} {d : α} {l : List α} {i : Int} (h0 : 0 ≤ i) (h1 : i < l.length) : l[i.toNat]? = some (l.getD i.toNat d) := by
  have : i.toNat < l.length := by omega
  simp [List.getD_eq_getElem?_getD, this]
theorem rowD_getD {f : Nat → KV} : ∀ (n j i : Nat), i < n → (rowD n j fun j => (f j).toD)[i]? = some (f (j + i)).toD
  | 0, _, i, h => by omega
  | n + 1, j, 0, h => by simp [rowD]
  | n + 1, j, i + 1, h => by
    simp only [rowD, List.getElem?_cons_succ]
    rw [rowD_getD n (j + 1) i (by omega), show j + 1 + i = j + (i + 1) from by omega]
theorem getK_spec {o : Oper} {S : KSt} {t : TypeId} {x : Operand} {i : TI} {id sz j : Nat} {ix : Int} {R : KRow} {α : Type} {d : α} {l : List α} {f : α → Nat → KV} {K : KV → Prop} (ho : o.op = .load t x) (hi : TIOk P t i)
    (hx : opnd S.st.T x = some (.oloc id sz ix.toNat j)) (hR' : look S.st.O id = some R.row) (h1 : R.sz = sz) (hps : R.row.rows = l.map fun a => rowD sz 0 fun j => (f a j).toD)
    (h : getK (primK P E base r post) i sz ix j α d l f K) : ∃ res, Free P o S.st res.av [] [] ∧ K res := by
  replace h : (0 ≤ ix ∧ ix < (plenN [KP.ls α d l f] : Int)) ∧ _ := h; obtain ⟨hin, h⟩ := h
  have hlen : plenN [KP.ls α d l f] = l.length := by simp [plenN]
  rw [hlen] at hin
  have hrow : R.row.rows[ix.toNat]? = some (rowD sz 0 fun j => (f (l.getD ix.toNat d) j).toD) := by
    rw [hps, List.getElem?_map, getD_in (d := d) hin.1 hin.2]; rfl
  have hx' : opnd S.st.T x = some (.oloc id R.row.sz ix.toNat j) := by rw [show R.row.sz = sz from h1]; exact hx
  cases hag : i.ag with
  | false =>
    rw [hag] at h
    replace h := kif_spec h; obtain ⟨h2, h⟩ := h
    replace h := kif_spec h; obtain ⟨h3, h⟩ := h
    rw [Nat.blt_eq] at h2
    refine ⟨_, ?_, h⟩
    rw [KV.isD_av h3]
    exact free_load_oloc ho hR' hx' (hag ▸ hi.ag) hrow (by rw [rowD_getD _ _ _ h2, Nat.zero_add]; rfl)
  | true =>
    rw [hag] at h
    replace h := kif_spec h; obtain ⟨h2, h⟩ := h
    replace h := kif_spec h; obtain ⟨h3, h⟩ := h
    have h2 := Nat.le_of_ble_eq_true h2
    refine ⟨_, ?_, h⟩
    have e1 : rowD sz 0 (fun j => (f (l.getD ix.toNat d) j).toD) = KV.toDL (rowK sz 0 (f (l.getD ix.toNat d))) := (rowK_toD _ _).symm
    rw [e1] at hrow
    have := free_load_oloc_agg ho hR' hx' (hag ▸ hi.ag) hi.sz hrow (by rw [toDL_len, lenK_eq, rowK_len]; exact h2)
    rw [toDL_drop, toDL_take] at this
    have h4 : allD (takeK i.sz (dropK j (rowK sz 0 (f (l.getD ix.toNat d))))) = true := by
      have : ∀ c ∈ takeK i.sz (dropK j (rowK sz 0 (f (l.getD ix.toNat d)))), c.isD = true := fun c hc => allD_get h3 c (by rw [takeK_eq, dropK_eq] at hc; exact List.mem_of_mem_drop (List.mem_of_mem_take hc))
      revert this
      generalize takeK i.sz (dropK j (rowK sz 0 (f (l.getD ix.toNat d)))) = L
      intro this
      induction L with
      | nil => rfl
      | cons y q ih => simp only [allD, Bool.and_eq_true]; exact ⟨this y (by simp), ih (fun c hc => this c (by simp [hc]))⟩
    rw [← allD_av h4] at this
    exact this
theorem loadK_spec {o : Oper} {S : KSt} {t : TypeId} {x : Operand} {c : KV} {K : KV → Prop} (hT : ∀ t i, tb t = some i → TIOk P t i) (ho : o.op = .load t x) (hx : opnd S.st.T x = some c.av)
    (h : loadK (primK P E base r post) tb t S c K) : ∃ res, Free P o S.st res.av [] [] ∧ K res := by
  replace h := kk_spec h; obtain ⟨i, hi, h⟩ := h
  have hi := hT _ _ hi
  split at h
  · rename_i cs
    have hx : opnd S.st.T x = some (.d (.ptr (KV.toDL cs))) := hx
    cases hag : i.ag with
    | false =>
      rw [hag] at h
      cases cs with
      | nil => exact h.elim
      | cons y l =>
        replace h := kif_spec h; obtain ⟨h1, h⟩ := h
        exact ⟨y, by rw [KV.isD_av h1]; exact free_load_ptr ho hx (hag ▸ hi.ag) rfl, h⟩
    | true =>
      rw [hag] at h
      replace h := kif_spec h; obtain ⟨h1, h⟩ := h
      replace h := kif_spec h; obtain ⟨h2, h⟩ := h
      refine ⟨.agg (takeK i.sz cs), ?_, h⟩
      have := free_load_ptr_agg ho hx (hag ▸ hi.ag) hi.sz (by rw [toDL_len]; exact Nat.le_of_ble_eq_true h1) (noAggD_spec (allD_noAgg h2))
      rwa [show (KV.agg (takeK i.sz cs)).av = .agg (((KV.toDL cs).take i.sz).map .d) from by simp only [KV.av]; rw [← avL_take, allD_av h2, List.map_take]]
  · rename_i b off
    replace h := kk_spec h; obtain ⟨B, hB, h⟩ := h
    have hB' : look S.st.H b = some B.blk := by rw [st_lookH, hB]; rfl
    cases hag : i.ag with
    | false =>
      rw [hag] at h
      replace h := kk_spec h; obtain ⟨c, hc, h⟩ := h
      exact ⟨c, free_load_loc ho hx (hag ▸ hi.ag) hB' (by rw [show B.blk.cells = KV.avL B.cells from rfl, nth_avL, hc]; rfl), h⟩
    | true =>
      rw [hag] at h
      replace h := kif_spec h; obtain ⟨h1, h⟩ := h
      refine ⟨_, ?_, h⟩
      have := free_load_loc_agg ho hx (hag ▸ hi.ag) hi.sz hB' (by rw [show B.blk.cells = KV.avL B.cells from rfl, avL_len]; exact Nat.le_of_ble_eq_true h1)
      rwa [show B.blk.cells = KV.avL B.cells from rfl, avL_drop, avL_take] at this
  · rename_i id sz ix j
    replace h := kk_spec h; obtain ⟨R, hR, h⟩ := h
    replace h := kif_spec h; obtain ⟨h1, h⟩ := h
    have h1 := Nat.eq_of_beq_eq_true h1
    have hR' : look S.st.O id = some R.row := by rw [st_lookO, hR]; rfl
    split at h
    · rename_i α d l f hps
      exact getK_spec ho hi hx hR' h1 (by simp only [KRow.row, hps, rowsD, KP.rows, List.append_nil, h1]) h
    · replace h : ∃ ps', rowsD sz ps' = rowsD sz R.ps ∧ _ := h; obtain ⟨ps', hp, h⟩ := h
      split at h
      · rename_i α d l f
        exact getK_spec ho hi hx hR' h1 (by simp only [KRow.row]; rw [h1, ← hp]; simp only [rowsD, KP.rows, List.append_nil]) h
      · exact h.elim
  · exact h.elim
theorem fldK_spec {o : Oper} {S : KSt} {s f : Nat} {x : Operand} {c : KV} {K : KV → Prop} (hT : ∀ t i, tb t = some i → TIOk P t i) (ho : o.op = .fieldAddr s x f) (hx : opnd S.st.T x = some c.av)
    (h : fldK tb s f c K) : ∃ res, Free P o S.st res.av [] [] ∧ K res := by
  replace h := kk_spec h; obtain ⟨i, hi, h⟩ := h
  replace h := kk_spec h; obtain ⟨q, hq, h⟩ := h
  replace h := kif_spec h; obtain ⟨h0, h⟩ := h
  obtain ⟨n, hf⟩ := fldT_pos ((hT _ _ hi).fl _ _ hq) h0
  split at h
  · rename_i cs
    refine ⟨_, ?_, h⟩
    have := free_fieldAddr_ptr ho (cs := KV.toDL cs) hx hf
    rwa [toDL_drop] at this
  · refine ⟨_, ?_, h⟩; exact free_fieldAddr_loc ho hx hf
  · refine ⟨_, ?_, h⟩; exact free_fieldAddr_oloc ho hx hf
  · exact h.elim
theorem casesN_spec {m : Int} {K : Nat → Prop} : ∀ {n k : Nat}, casesN (primK P E base r post) m n k K → (k : Int) ≤ m → m < k + n → K m.toNat
  | 0, k, h, _, _ => h.elim
  | 1, k, h, h1, h2 => by
    have : m.toNat = k := by omega
    rw [this]; exact h
  | n + 2, k, h, h1, h2 => by
    obtain ⟨g1, g2⟩ := (h : ((primK P E base r post).icmp .eql m (Int.ofNat k) = true → K k) ∧ ((primK P E base r post).icmp .eql m (Int.ofNat k) = false → casesN (primK P E base r post) m (n + 1) (k + 1) K))
    by_cases e : m = Int.ofNat k
    · have : m.toNat = k := by subst e; rfl
      rw [this]; exact g1 (show (m == Int.ofNat k) = true from by simp [e])
    · have e' : ¬ m = (k : Int) := e
      exact casesN_spec (g2 (show (m == Int.ofNat k) = false from by simpa using e)) (by omega) (by omega)
theorem idxK_spec {o : Oper} {S : KSt} {t : TypeId} {x ix : Operand} {c d : KV} {K : KV → Prop} (hT : ∀ t i, tb t = some i → TIOk P t i) (ho : o.op = .indexAddr t x ix) (hx : opnd S.st.T x = some c.av) (hd : opnd S.st.T ix = some d.av)
    (h : idxK (primK P E base r post) tb t S c d K) : ∃ res, Free P o S.st res.av [] [] ∧ K res := by
  replace h := kk_spec h; obtain ⟨i, hi, h⟩ := h
  have hi := hT _ _ hi
  split at h
  · rename_i clip sz α dd l f
    replace h := kk_spec h; obtain ⟨⟨e, n⟩, hr, h⟩ := h
    replace h := kif_spec h; obtain ⟨h1, h⟩ := h
    have h1 := Nat.eq_of_beq_eq_true h1
    simp only at h1; subst h1
    replace h := kk_spec h; obtain ⟨⟨fl, k, m⟩, hn, h⟩ := h
    replace h : (0 ≤ m ∧ m < (plenN [KP.ls α dd l f] : Int)) ∧ _ := h; obtain ⟨⟨h2, h3⟩, h⟩ := h
    refine ⟨_, ?_, h⟩
    have := free_indexAddr ho hx (hd.trans (congrArg some (numK_spec hn))) (hi.el _ hr) h2 (row := rowD n 0 fun j => (f (l.getD m.toNat dd) j).toD) (by rw [List.getElem?_map, getD_in (d := dd) h2 (by simpa [plenN] using h3)]; rfl)
    rwa [← rowK_toD] at this
  · rename_i clip sz rows
    replace h := kk_spec h; obtain ⟨⟨e, n⟩, hr, h⟩ := h
    replace h := kif_spec h; obtain ⟨h1, h⟩ := h
    have h1 := Nat.eq_of_beq_eq_true h1
    simp only at h1; subst h1
    replace h := kk_spec h; obtain ⟨m, hn, h⟩ := h
    replace h := kk_spec h; obtain ⟨row, hrow, h⟩ := h
    obtain ⟨k, hk⟩ := litN_spec hn
    refine ⟨_, ?_, h⟩; exact free_indexAddr ho hx (hd.trans (congrArg some hk)) (hi.el _ hr) (by omega) (row := KV.toDL row) (by rw [toDLL_map, List.getElem?_map, ← nth_eq, Int.toNat_natCast, hrow]; rfl)
  · rename_i id
    replace h := kk_spec h; obtain ⟨⟨e, n⟩, hr, h⟩ := h
    replace h := kk_spec h; obtain ⟨R, hR, h⟩ := h
    replace h := kif_spec h; obtain ⟨h1, h⟩ := h
    have h1 := Nat.eq_of_beq_eq_true h1
    simp only at h1; subst h1
    replace h := kk_spec h; obtain ⟨⟨fl, k, m⟩, hn, h⟩ := h
    replace h : (0 ≤ m ∧ m < (plenN R.ps : Int)) ∧ _ := h; obtain ⟨⟨h2, h3⟩, h⟩ := h
    have hR' : look S.st.O id = some R.row := by rw [st_lookO, hR]; rfl
    refine ⟨_, ?_, h⟩; exact free_indexAddr_osl ho hx hR' (hd.trans (congrArg some (numK_spec hn))) (hi.el _ hr) h2 (by rw [show R.row.rows.length = plenN R.ps from plenN_spec _ _]; exact h3)
  · rename_i b off
    replace h := kk_spec h; obtain ⟨⟨l, e, n⟩, hr, h⟩ := h
    simp only at h
    split at h
    · rename_i m hn
      replace h := kif_spec h; obtain ⟨h1, h⟩ := h
      rw [Nat.blt_eq] at h1
      obtain ⟨k, hk⟩ := litN_spec hn
      have := free_indexAddr_arr ho hx (hd.trans (congrArg some hk)) (hi.ar _ hr) (by omega) (by omega)
      refine ⟨_, ?_, h⟩; exact by rwa [Int.toNat_natCast] at this
    · replace h := kk_spec h; obtain ⟨⟨fl, k, m⟩, hn, h⟩ := h
      replace h : (0 ≤ m ∧ m < (Int.ofNat l)) ∧ _ := h; obtain ⟨⟨h2, h3⟩, h⟩ := h
      have h3 : m < (l : Int) := h3
      have := free_indexAddr_arr ho hx (hd.trans (congrArg some (numK_spec hn))) (hi.ar _ hr) h2 h3
      have h : casesN (primK P E base r post) m l 0 (fun q => K (.loc b (off + q * n))) := h
      exact ⟨.loc b (off + m.toNat * n), this, casesN_spec h (by omega) (by omega)⟩
  · rename_i cs
    replace h := kk_spec h; obtain ⟨⟨l, e, n⟩, hr, h⟩ := h
    simp only at h
    split at h
    · rename_i m hn
      replace h := kif_spec h; obtain ⟨h1, h⟩ := h
      rw [Nat.blt_eq] at h1
      obtain ⟨k, hk⟩ := litN_spec hn
      have := free_indexAddr_parr ho (cs := KV.toDL cs) hx (hd.trans (congrArg some hk)) (hi.ar _ hr) (by omega) (by omega)
      refine ⟨_, ?_, h⟩; exact by rwa [Int.toNat_natCast, toDL_drop] at this
    · replace h := kk_spec h; obtain ⟨⟨fl, k, m⟩, hn, h⟩ := h
      replace h : (0 ≤ m ∧ m < (Int.ofNat l)) ∧ _ := h; obtain ⟨⟨h2, h3⟩, h⟩ := h
      have h3 : m < (l : Int) := h3
      have := free_indexAddr_parr ho (cs := KV.toDL cs) hx (hd.trans (congrArg some (numK_spec hn))) (hi.ar _ hr) h2 h3
      have h : casesN (primK P E base r post) m l 0 (fun q => K (.ptr (dropK (q * n) cs))) := h
      exact ⟨.ptr (dropK (m.toNat * n) cs), by rwa [toDL_drop] at this, casesN_spec h (by omega) (by omega)⟩
  · exact h.elim
theorem intsK_spec : ∀ {cs : List KV} {l : List (IntKind × Int)}, intsK cs = some l → KV.avL cs = intsC l
  | [], l, h => by simp only [intsK, Option.some.injEq] at h; subst h; rfl
  | c :: q, l, h => by
    unfold intsK at h
    split at h
    · rename_i la k n hc
      split at h
      · rename_i l' hl
        simp only [Option.some.injEq] at h; subst h
        simp only [KV.avL, intsC, intsK_spec hl, numK_spec hc]
      · cases h
    · cases h
theorem kindsK_spec : ∀ {l m : List (IntKind × Int)}, kindsK l m = true → kindsEq l m = true
  | [], [], _ => rfl
  | (k, a) :: q, (k', b) :: q', h => by
    unfold kindsK at h
    split at h
    · rename_i hk
      have := sameK_spec hk
      subst this
      simp only [kindsEq, beq_self_eq_true, Bool.true_and]; exact kindsK_spec h
    · cases h
  | [], _ :: _, h => by cases h
  | _ :: _, [], h => by cases h
theorem eqOp_spec {op : BinOp} {neq : Bool} (h : eqOp op = some neq) : op = if neq then .neq else .eql := by
  cases op <;> simp [eqOp] at h <;> subst h <;> rfl
theorem notB_spec (b : Bool) : notB b = !b := by cases b <;> rfl
theorem litB_av (b : Bool) : (litB b).av = .d (.bool b) := by cases b <;> rfl
theorem binK_spec {o : Oper} {S : KSt} {t yt : TypeId} {op : BinOp} {x y : Operand} {c d : KV} {K : KV → Prop} (hT : ∀ t i, tb t = some i → TIOk P t i) (ho : o.op = .binOp op t x y yt) (hx : opnd S.st.T x = some c.av) (hy : opnd S.st.T y = some d.av)
    (h : binK (primK P E base r post) tb t op c d K) : ∃ res, Free P o S.st res.av [] [] ∧ K res := by
  unfold binK at h
  split at h
  · rename_i la k a hc
    replace h := kk_spec h; obtain ⟨⟨lb, k', b⟩, hn, h⟩ := h
    have hx := hx.trans (congrArg some (numK_spec hc))
    have hy := hy.trans (congrArg some (numK_spec hn))
    split at h
    · rename_i hk
      replace h := kif_spec h; obtain ⟨h1, h⟩ := h
      have h1 := sameK_spec h1
      simp only at h1; subst h1
      have hr : intOp op k a b = some (.int k (iopR op k a b)) := by cases op <;> first | rfl | (simp [opKind] at hk; done)
      have hfree := free_bin (P := P) ho hx hy hr
      split at h
      · refine ⟨_, ?_, h⟩
        have : (foldK (primK P E base r post) op k a b).av = .d (.int k (iopR op k a b)) := by
          cases op <;> rfl
        rw [this]; exact hfree
      · refine ⟨_, ?_, h⟩; exact hfree
    · rename_i hk
      replace h := kif_spec h; obtain ⟨h1, h⟩ := h
      have h1 := sameK_spec h1
      simp only at h1; subst h1
      have key : b ≠ 0 → Free P o S.st (.d (.int k (iopR op k a b))) [] [] := fun hb => by
        refine free_bin ho hx hy ?_
        cases op <;> first | (simp [opKind] at hk; done) | (simp [intOp, iopR, hb]; done)
      split at h
      · rename_i hl
        suffices hb : b ≠ 0 by refine ⟨_, ?_, h⟩; exact key hb
        cases d <;> simp only [litZ] at hl <;> try cases hl
        rename_i k2 m
        simp only [numK, Option.some.injEq, Prod.mk.injEq] at hn
        obtain ⟨_, _, rfl⟩ := hn
        intro e
        subst e
        cases hl
      · replace h : oknzR op b ∧ _ := h; obtain ⟨h2, h⟩ := h
        suffices hb : b ≠ 0 by refine ⟨_, ?_, h⟩; exact key hb
        cases op <;> first | (simp [opKind] at hk; done) | exact h2
    · rename_i hk
      replace h : oknzR op b ∧ _ := h; obtain ⟨h2, h⟩ := h
      refine ⟨_, ?_, h⟩
      cases op <;> try (simp [opKind] at hk; done)
      · exact free_shift ho hx hy h2 (.inl ⟨rfl, rfl⟩)
      · exact free_shift ho hx hy h2 (.inr ⟨rfl, rfl⟩)
    · rename_i hk
      replace h := kif_spec h; obtain ⟨h1, h⟩ := h
      have h1 := sameK_spec h1
      simp only at h1; subst h1
      have hr : intOp op k a b = some (.bool (icmpR op a b)) := by cases op <;> first | rfl | (simp [opKind] at hk; done)
      have hfree := free_bin (P := P) ho hx hy hr
      split at h
      · refine ⟨_, ?_, h⟩
        have : (litB (icmpR op a b)).av = .d (.bool (icmpR op a b)) := by cases icmpR op a b <;> rfl
        rw [this]; exact hfree
      · refine ⟨_, ?_, h⟩; exact hfree
    · exact h.elim
  · replace h := kk_spec h; obtain ⟨i, hi, h⟩ := h
    split at h
    · rename_i hu
      replace h := kk_spec h; obtain ⟨a, ha, h⟩ := h
      replace h := kk_spec h; obtain ⟨b, hb, h⟩ := h
      have hx := hx.trans (congrArg some (boolK_spec ha))
      have hy := hy.trans (congrArg some (boolK_spec hb))
      split at h
      · refine ⟨_, ?_, h⟩; exact free_eqBool false ho hx hy ((hT _ _ hi).bool hu)
      · refine ⟨_, ?_, h⟩; exact free_eqBool true ho hx hy ((hT _ _ hi).bool hu)
      · exact h.elim
    · have hi := hT _ _ hi
      split at h
      · replace h := kk_spec h; obtain ⟨⟨e, n⟩, hr, h⟩ := h
        replace h := kk_spec h; obtain ⟨neq, hn, h⟩ := h
        have := eqOp_spec hn
        subst this
        split at h
        · refine ⟨_, ?_, h⟩
          rw [litB_av, notB_spec]
          have := free_nilsl neq true ho hx hy (hi.el _ hr) (fun base M yl a w hr => ⟨none, 0, 0, (hr.opnd hx).nilsl, rfl⟩)
          cases neq <;> exact this
        · rename_i row rows
          refine ⟨_, ?_, h⟩
          rw [litB_av]
          have := free_nilsl neq false ho hx hy (hi.el _ hr) (fun base M yl a w hr => by
            have := hr.opnd hx
            cases this with | d h => generalize a.eval x = v at h; cases h; exact ⟨_, _, _, rfl, rfl⟩)
          cases neq <;> exact this
        · rename_i α x' l f _
          replace h : (1 : Int) ≤ (plenN [KP.ls α x' l f] : Int) ∧ _ := h; obtain ⟨h1, h⟩ := h
          refine ⟨_, ?_, h⟩
          rw [litB_av]
          have := free_nilsl neq false ho hx hy (hi.el _ hr) (fun base M yl a w hr => by
            have := hr.opnd hx
            cases this with | d h =>
            generalize a.eval x = v at h
            simp only [plenN, Nat.add_zero] at h1
            generalize hg : List.map (fun a => rowD _ 0 fun j => (f a j).toD) l = rows at h
            cases h with
            | sl0 => have := congrArg List.length hg; simp at this; subst this; simp at h1
            | slE => have := congrArg List.length hg; simp at this; subst this; simp at h1
            | sl => exact ⟨_, _, _, rfl, rfl⟩)
          cases neq <;> exact this
        · exact h.elim
      · split at h
        · replace h := kk_spec h; obtain ⟨n, hn, h⟩ := h
          replace h := kk_spec h; obtain ⟨neq, hop, h⟩ := h
          replace h := kk_spec h; obtain ⟨l, hl, h⟩ := h
          replace h := kk_spec h; obtain ⟨m, hm, h⟩ := h
          replace h := kif_spec h; obtain ⟨h1, h⟩ := h
          replace h := kif_spec h; obtain ⟨h2, h⟩ := h
          have := eqOp_spec hop
          subst this
          have h1 := Nat.eq_of_beq_eq_true h1
          rw [lenK_eq] at h1
          obtain ⟨e1, e2, e3⟩ := hi.eqn _ hn
          refine ⟨_, ?_, h⟩
          have := free_eqAgg neq ho (hx.trans (congrArg some (by rw [KV.av, intsK_spec hl]))) (hy.trans (congrArg some (by rw [KV.av, intsK_spec hm]))) (by rw [h1]; exact e1) e2 (by decide) e3 (kindsK_spec h2)
          cases neq <;> exact this
        · exact h.elim
      · exact h.elim
theorem plen_ls {α : Type} {d : α} {l : List α} {f : α → Nat → KV} : (primK P E base r post).plen [.ls α d l f] = l.length := by simp [primK, plenN]
theorem lenP'_spec {o : Oper} {S : KSt} {t : TypeId} {x : Operand} {c : KV} {K : KV → Prop} (hT : ∀ t i, tb t = some i → TIOk P t i) (ho : o.op = .call { callee := .builtin .len, args := #[x], argTypes := #[t] }) (hx : opnd S.st.T x = some c.av)
    (h : lenP' (primK P E base r post) tb t S c K) : ∃ res, Free P o S.st res.av [] [] ∧ K res := by
  replace h := kk_spec h; obtain ⟨i, hi, h⟩ := h
  have hi := hT _ _ hi
  split at h
  · replace h := kk_spec h; obtain ⟨⟨e, n⟩, hr, h⟩ := h
    refine ⟨_, ?_, h⟩; exact free_len ho hx (hi.el _ hr) (by simp [plen_ls])
  · replace h := kk_spec h; obtain ⟨⟨e, n⟩, hr, h⟩ := h
    refine ⟨_, ?_, h⟩; exact free_len ho hx (hi.el _ hr) (by simp [toDLL_map, lenK_eq])
  · replace h := kk_spec h; obtain ⟨⟨e, n⟩, hr, h⟩ := h
    refine ⟨_, ?_, h⟩; exact free_len_nil ho hx (hi.el _ hr)
  · replace h := kk_spec h; obtain ⟨R, hR, h⟩ := h
    replace h := kk_spec h; obtain ⟨⟨e, n⟩, hr, h⟩ := h
    have hR' := (st_lookO (S := S)).trans (congrArg (Option.map KRow.row) hR)
    refine ⟨_, ?_, h⟩; exact free_len_osl ho hx hR' (hi.el _ hr) (show (((rowsD R.sz R.ps).length : Nat) : Int) = ((plenN R.ps : Nat) : Int) from congrArg _ (plenN_spec _ _))
  · split at h
    · rename_i hu
      refine ⟨_, ?_, h⟩; exact free_lenStr ho hx (hi.str hu)
    · exact h.elim
  · exact h.elim
theorem callK_spec {o : Oper} {S : KSt} {nb : Nat} {f : Operand} {args : Array Operand} {ts : Array TypeId} {K : KV → List (Nat × KBlk) → List (Nat × KRow) → Prop} (ho : o.op = .call { callee := .value f, args := args, argTypes := ts })
    (h : callK (primK P E base r post) f args.toList S nb K) : FreeR P o S K := by
  replace h := kk_spec h; obtain ⟨fv, hf, h⟩ := h
  replace h := kk_spec h; obtain ⟨cs, hcs, h⟩ := h
  replace hf := kop_st hf
  replace hcs := kopL_spec hcs
  have fin : ∀ {g : Nat} {caps : List AV} {xs : List D} {lv : Bool} {res : KV} {rows : List KRow}, fnOf fv.av = some (g, caps) → snapL lv S.st (KV.avL cs ++ caps) = some xs → Con P g xs res.av (rows.map KRow.row) → thenC nb lv K res rows → FreeR P o S K := by
    intro g caps xs lv res rows hg hx hc h
    cases lv with
    | false =>
      replace h := kif_spec h; obtain ⟨h1, h⟩ := h
      have := free_call nb false ho hf hg hcs hx (fun h => by cases h) (by rw [List.length_map, ← lenK_eq]; exact below_av _ _ h1) hc
      rw [← sh_av, ← enumK_spec] at this
      exact ⟨_, [], _, this, h⟩
    | true =>
      replace h := kif_spec h; obtain ⟨h1, h⟩ := h
      replace h := kif_spec h; obtain ⟨h2, h⟩ := h
      replace h := kif_spec h; obtain ⟨h3, h⟩ := h
      cases rows with
      | cons => cases h1
      | nil =>
        have := free_call nb true ho hf hg hcs hx (fun _ => ⟨scalar_av _ h2, rfl⟩) (below_av _ _ h3) hc
        rw [← sh_av] at this
        exact ⟨_, [], [], this, h⟩
  split at h
  · rename_i g ds
    replace h : noAggD ds = true ∧ _ := h; obtain ⟨hna, h⟩ := h
    split at h
    · rename_i xs hx
      obtain ⟨res, rows, hc, h⟩ := h
      exact fin rfl (snapL_app (snapL_spec' hx) hna) hc h
    · replace h := kk_spec h; obtain ⟨xs, hx, h⟩ := h
      obtain ⟨res, rows, hc, h⟩ := h
      exact fin rfl (snapL_app (snapL_spec' hx) hna) hc h
  · replace h := kk_spec h; obtain ⟨⟨g, caps⟩, hg, h⟩ := h
    replace hg := fnK_spec hg
    split at h
    · rename_i xs hx
      obtain ⟨res, rows, hc, h⟩ := h
      have hx := snapL_spec' hx
      rw [avL_app] at hx
      exact fin hg hx hc h
    · replace h := kk_spec h; obtain ⟨xs, hx, h⟩ := h
      obtain ⟨res, rows, hc, h⟩ := h
      have hx := snapL_spec' hx
      rw [avL_app] at hx
      exact fin hg hx hc h
theorem builtK_spec {o : Oper} {S : KSt} {b : Builtin} {args : Array Operand} {ts : Array TypeId} {K : KV → Prop} (hT : ∀ t i, tb t = some i → TIOk P t i) (ho : o.op = .call { callee := .builtin b, args := args, argTypes := ts })
    (h : builtK (primK P E base r post) tb b args.toList ts.toList S K) : ∃ res, Free P o S.st res.av [] [] ∧ K res := by
  unfold builtK at h
  split at h
  · split at h
    · rename_i x t h1 h2
      have e1 : args = #[x] := by apply Array.toList_inj.1; simp [h1]
      have e2 : ts = #[t] := by apply Array.toList_inj.1; simp [h2]
      subst e1 e2
      replace h := kk_spec h; obtain ⟨c, hc, h⟩ := h
      exact lenP'_spec hT ho (kop_st hc) h
    · exact h.elim
  · split at h
    · rename_i x y h1
      have e1 : args = #[x, y] := by apply Array.toList_inj.1; simp [h1]
      subst e1
      replace h := kk_spec h; obtain ⟨c, hc, h⟩ := h
      replace h := kk_spec h; obtain ⟨d, hd, h⟩ := h
      replace h := kk_spec h; obtain ⟨⟨fa, ka, a⟩, ha, h⟩ := h
      replace h := kk_spec h; obtain ⟨⟨fb, kb, b⟩, hb, h⟩ := h
      replace h := kif_spec h; obtain ⟨h1, h⟩ := h
      have h1 := sameK_spec h1
      simp only at h1; subst h1
      refine ⟨_, ?_, h⟩; exact free_max2 ho ((kop_st hc).trans (congrArg some (numK_spec ha))) ((kop_st hd).trans (congrArg some (numK_spec hb)))
    · rename_i x y z h1
      have e1 : args = #[x, y, z] := by apply Array.toList_inj.1; simp [h1]
      subst e1
      replace h := kk_spec h; obtain ⟨c, hc, h⟩ := h
      replace h := kk_spec h; obtain ⟨d, hd, h⟩ := h
      replace h := kk_spec h; obtain ⟨e, he, h⟩ := h
      replace h := kk_spec h; obtain ⟨⟨fa, ka, a⟩, ha, h⟩ := h
      replace h := kk_spec h; obtain ⟨⟨fb, kb, b⟩, hb, h⟩ := h
      replace h := kk_spec h; obtain ⟨⟨fg, kg, g⟩, hg, h⟩ := h
      replace h := kif_spec h; obtain ⟨h1, h⟩ := h
      replace h := kif_spec h; obtain ⟨h2, h⟩ := h
      have h1 := sameK_spec h1
      have h2 := sameK_spec h2
      simp only at h1 h2; subst h1 h2
      refine ⟨_, ?_, h⟩; exact free_max3 ho ((kop_st hc).trans (congrArg some (numK_spec ha))) ((kop_st hd).trans (congrArg some (numK_spec hb))) ((kop_st he).trans (congrArg some (numK_spec hg)))
    · exact h.elim
  · split at h
    · rename_i x y h1
      have e1 : args = #[x, y] := by apply Array.toList_inj.1; simp [h1]
      subst e1
      replace h := kk_spec h; obtain ⟨c, hc, h⟩ := h
      replace h := kk_spec h; obtain ⟨d, hd, h⟩ := h
      replace h := kk_spec h; obtain ⟨⟨fa, ka, a⟩, ha, h⟩ := h
      replace h := kk_spec h; obtain ⟨⟨fb, kb, b⟩, hb, h⟩ := h
      replace h := kif_spec h; obtain ⟨h1, h⟩ := h
      have h1 := sameK_spec h1
      simp only at h1; subst h1
      refine ⟨_, ?_, h⟩; exact free_min2 ho ((kop_st hc).trans (congrArg some (numK_spec ha))) ((kop_st hd).trans (congrArg some (numK_spec hb)))
    · exact h.elim
  · exact h.elim
theorem chunks_spec {sz : Nat} : ∀ (n : Nat) (l : List KV), KV.toDLL (chunks sz n l) = toRows sz n (KV.toDL l)
  | 0, l => rfl
  | n + 1, l => by simp only [chunks, KV.toDLL, toRows, ← toDL_take, ← toDL_drop, chunks_spec n]
theorem anys_spec : ∀ n, KV.avL (anys n) = List.replicate n .any
  | 0 => rfl
  | n + 1 => by simp only [anys, KV.avL, KV.av, anys_spec n, List.replicate_succ]
theorem reps_rows (n : Nat) (z : List KV) (sz : Nat) (h : z.length = sz) : rowsD sz [.ls Unit () (List.replicate n ()) fun _ j => (nth z j).getD .any] = List.replicate n (KV.toDL z) := by
  simp only [rowsD, KP.rows, List.append_nil, List.map_replicate]
  congr 1
  have : ∀ (m j : Nat) (z : List KV), z.length = m → ∀ y : List KV, y.length = j → rowD m j (fun k => ((nth (y ++ z) k).getD .any).toD) = KV.toDL z := by
    intro m
    induction m with
    | zero => intro j z hz y hy; rw [List.eq_nil_of_length_eq_zero hz]; rfl
    | succ m ih =>
      intro j z hz y hy
      cases z with
      | nil => simp at hz
      | cons c q =>
        simp only [rowD, KV.toDL]
        congr 1
        · rw [nth_eq, List.getElem?_append_right (by omega), hy, Nat.sub_self]; rfl
        · have := ih (j + 1) q (by simpa using hz) (y ++ [c]) (by simp [hy])
          simpa using this
  simpa using this sz 0 z h [] rfl
theorem srcK_spec {S : KSt} {id sz : Nat} {c : KV} {ps : List KP} (h : srcK S id sz c = some ps) : srcRows S.st id sz c.av = some (rowsD sz ps) := by
  unfold srcK at h
  split at h
  · split at h
    · rename_i he
      cases h
      have e := Nat.eq_of_beq_eq_true he
      subst e
      simp [srcRows, KV.av, rowsD, KP.rows]
    · cases h
  · split at h
    · rename_i he
      cases h
      have e := Nat.eq_of_beq_eq_true he
      subst e
      simp [srcRows, KV.av, rowsD, KP.rows]
    · cases h
  · cases h; rfl
  · split at h
    · rename_i R hR
      split at h
      · rename_i he
        cases h
        simp only [Bool.and_eq_true] at he
        have e := Nat.eq_of_beq_eq_true he.1
        simp only [srcRows, KV.av, st_lookO, hR, Option.map_some]
        rw [show R.row.sz = R.sz from rfl, if_pos (by simp only [Bool.and_eq_true]; exact he)]
        rw [← e]; rfl
      · cases h
    · cases h
  · cases h
theorem rowKV_av (R : KRow) : (rowKV R).av = .d (.sl false R.sz (rowsD R.sz R.ps)) := by
  unfold rowKV
  split
  · rename_i α d l f h; simp [h, KV.av, rowsD, KP.rows]
  · rename_i rows h; simp [h, KV.av, rowsD, KP.rows]
  · rfl
theorem appK_spec {o : Oper} {S : KSt} {nb : Nat} {args : Array Operand} {ts : Array TypeId} {K : KV → Prop} (hT : ∀ t i, tb t = some i → TIOk P t i) (ho : o.op = .call { callee := .builtin .append, args := args, argTypes := ts })
    (h : appK (primK P E base r post) tb args.toList ts.toList S nb K) : ∃ res, Free P o S.st res.av [] [] ∧ K res := by
  unfold appK at h
  split at h
  · rename_i x y t t' h1 h2
    have e1 : args = #[x, y] := by apply Array.toList_inj.1; simp [h1]
    have e2 : ts = #[t, t'] := by apply Array.toList_inj.1; simp [h2]
    subst e1 e2
    replace h := kif_spec h; obtain ⟨ht, h⟩ := h
    have ht := Nat.eq_of_beq_eq_true ht
    subst ht
    replace h := kk_spec h; obtain ⟨c, hc, h⟩ := h
    replace h := kk_spec h; obtain ⟨d, hy, h⟩ := h
    replace h := kk_spec h; obtain ⟨ti, hi, h⟩ := h
    replace h := kk_spec h; obtain ⟨⟨e, sz⟩, hr, h⟩ := h
    replace h := kk_spec h; obtain ⟨j, hj, h⟩ := h
    replace h := kk_spec h; obtain ⟨zc, hz, h⟩ := h
    replace h := kif_spec h; obtain ⟨hzs, h⟩ := h
    replace h := kif_spec h; obtain ⟨hpos, h⟩ := h
    have hzs := Nat.eq_of_beq_eq_true hzs
    rw [Nat.blt_eq] at hpos
    replace hi := hT _ _ hi
    replace hj := hT _ _ hj
    replace hr := hi.el _ hr
    replace hz := hj.z _ hz
    replace hy := kop_st hy
    replace hc := kop_st hc
    simp only at hzs hpos hz hj h
    split at h
    · rename_i sz'
      replace h := kif_spec h; obtain ⟨he, h⟩ := h
      have he := Nat.eq_of_beq_eq_true he
      subst he
      replace h := kk_spec h; obtain ⟨news, hs, h⟩ := h
      replace h : (plenN news * j.bytes ≤ 140737488355328 ∧ plenN news ≤ 140737488355328) ∧ _ := h; obtain ⟨⟨h6, h7⟩, h⟩ := h
      refine ⟨_, ?_, h⟩
      rw [rowKV_av]
      have hlen : (rowsD sz' news).length = plenN news := plenN_spec _ _
      exact free_append_clip ho hc hr hz (by rw [avL_len]; exact hzs) hpos hj.bytes hy (srcK_spec hs) (by rw [hlen]; exact h6) (by rw [hlen]; exact h7)
    · exact h.elim
  · exact h.elim
theorem appOK_spec {o : Oper} {S : KSt} {nb : Nat} {args : Array Operand} {ts : Array TypeId} {K : KV → List (Nat × KBlk) → List (Nat × KRow) → Prop} (hT : ∀ t i, tb t = some i → TIOk P t i) (ho : o.op = .call { callee := .builtin .append, args := args, argTypes := ts })
    (h : appOK (primK P E base r post) tb args.toList ts.toList S nb K) : FreeR P o S K := by
  unfold appOK at h
  split at h
  · rename_i x y t t' h1 h2
    have e1 : args = #[x, y] := by apply Array.toList_inj.1; simp [h1]
    have e2 : ts = #[t, t'] := by apply Array.toList_inj.1; simp [h2]
    subst e1 e2
    replace h := kif_spec h; obtain ⟨ht, h⟩ := h
    have ht := Nat.eq_of_beq_eq_true ht
    subst ht
    replace h := kk_spec h; obtain ⟨c, hc, h⟩ := h
    replace h := kk_spec h; obtain ⟨d, hy, h⟩ := h
    replace h := kk_spec h; obtain ⟨ti, hi, h⟩ := h
    replace h := kk_spec h; obtain ⟨⟨e, sz⟩, hr, h⟩ := h
    replace h := kk_spec h; obtain ⟨j, hj, h⟩ := h
    replace h := kk_spec h; obtain ⟨zc, hz, h⟩ := h
    replace h := kif_spec h; obtain ⟨hzs, h⟩ := h
    replace h := kif_spec h; obtain ⟨hpos, h⟩ := h
    have hzs := Nat.eq_of_beq_eq_true hzs
    rw [Nat.blt_eq] at hpos
    replace hi := hT _ _ hi
    replace hj := hT _ _ hj
    replace hr := hi.el _ hr
    replace hz := hj.z _ hz
    replace hy := kop_st hy
    replace hc := kop_st hc
    simp only at hzs hpos hz hj h
    split at h
    · rename_i sz'
      replace h := kif_spec h; obtain ⟨he, h⟩ := h
      have he := Nat.eq_of_beq_eq_true he
      subst he
      replace h := kk_spec h; obtain ⟨news, hs, h⟩ := h
      replace h : (1 : Int) ≤ (plenN news : Int) ∧ (plenN news * j.bytes ≤ 140737488355328 ∧ plenN news ≤ 140737488355328) ∧ _ := h; obtain ⟨h5, ⟨h6, h7⟩, h⟩ := h
      have hlen : (rowsD sz' news).length = plenN news := plenN_spec _ _
      refine ⟨_, _, _, ?_, h⟩
      exact free_append_own (id := nb) ho hc hr hz (by rw [avL_len]; exact hzs) hpos hj.bytes hy (srcK_spec hs) (by rw [hlen]; exact h6) (by rw [hlen]; exact h7) (by rw [hlen]; omega)
    · exact h.elim
  · exact h.elim
theorem appNK_spec {o : Oper} {S : KSt} {nb : Nat} {args : Array Operand} {ts : Array TypeId} {K : KV → Prop} (hT : ∀ t i, tb t = some i → TIOk P t i) (ho : o.op = .call { callee := .builtin .append, args := args, argTypes := ts })
    (h : appNK (primK P E base r post) tb args.toList ts.toList S nb K) : ∃ res, Free P o S.st res.av [] [] ∧ K res := by
  unfold appNK at h
  split at h
  · rename_i x y t t' h1 h2
    have e1 : args = #[x, y] := by apply Array.toList_inj.1; simp [h1]
    have e2 : ts = #[t, t'] := by apply Array.toList_inj.1; simp [h2]
    subst e1 e2
    replace h := kif_spec h; obtain ⟨ht, h⟩ := h
    have ht := Nat.eq_of_beq_eq_true ht
    subst ht
    replace h := kk_spec h; obtain ⟨c, hc, h⟩ := h
    replace h := kk_spec h; obtain ⟨d, hy, h⟩ := h
    replace h := kk_spec h; obtain ⟨ti, hi, h⟩ := h
    replace h := kk_spec h; obtain ⟨⟨e, sz⟩, hr, h⟩ := h
    replace h := kk_spec h; obtain ⟨j, hj, h⟩ := h
    replace h := kk_spec h; obtain ⟨zc, hz, h⟩ := h
    replace h := kif_spec h; obtain ⟨hzs, h⟩ := h
    replace h := kif_spec h; obtain ⟨hpos, h⟩ := h
    have hzs := Nat.eq_of_beq_eq_true hzs
    rw [Nat.blt_eq] at hpos
    replace hi := hT _ _ hi
    replace hj := hT _ _ hj
    replace hr := hi.el _ hr
    replace hz := hj.z _ hz
    replace hy := kop_st hy
    replace hc := kop_st hc
    simp only at hzs hpos hz hj h
    split at h
    · rename_i sz'
      replace h := kif_spec h; obtain ⟨he, h⟩ := h
      have he := Nat.eq_of_beq_eq_true he
      subst he
      replace h := kk_spec h; obtain ⟨news, hs, h⟩ := h
      replace h : (plenN news : Int) = 0 ∧ _ := h; obtain ⟨h5, h⟩ := h
      have hlen : (rowsD sz' news).length = plenN news := plenN_spec _ _
      have h0 : rowsD sz' news = [] := List.eq_nil_of_length_eq_zero (by rw [hlen]; omega)
      refine ⟨_, ?_, h⟩
      exact free_append_none (id := nb) ho hc hr hz (by rw [avL_len]; exact hzs) hpos hj.bytes hy (srcK_spec hs) (by rw [h0]; simp) (by rw [h0]; simp) h0
    · exact h.elim
  · exact h.elim
theorem freeK_spec {pz : List Nat} {o : Oper} {S : KSt} {nb : Nat} {K : KV → List (Nat × KBlk) → List (Nat × KRow) → Prop} (hT : ∀ t i, tb t = some i → TIOk P t i) (h : freeK (primK P E base r post) tb pz o S nb K) : FreeR P o S K := by
  unfold freeK at h
  split at h
  · rename_i ho; replace h := kk_spec h; obtain ⟨c, hc, h⟩ := h; refine freeR_plain ?_ h; exact free_move ho (kop_st hc)
  · rename_i ho; replace h := kk_spec h; obtain ⟨c, hc, h⟩ := h; refine freeR_plain ?_ h; exact free_assign ho (kop_st hc)
  · rename_i x y z ho
    replace h := kk_spec h; obtain ⟨c, hc, h⟩ := h
    have hc := kop_st hc
    have go : ∀ b : Bool, c.av = .d (.bool b) → (kk (kop S.T (if b then y else z)) fun c => K c [] []) → FreeR P o S K := fun b hb h => by
      replace h := kk_spec h; obtain ⟨c', hc', h⟩ := h
      refine freeR_plain ?_ h; exact free_pick ho (hc.trans (congrArg some hb)) (kop_st hc')
    split at h
    · exact go true rfl (by simpa using h)
    · exact go false rfl (by simpa using h)
    · rename_i b _
      cases b with
      | true => exact go true rfl (by simpa using h.1 rfl)
      | false => exact go false rfl (by simpa using h.2 rfl)
    · exact h.elim
  · rename_i ho
    replace h := kk_spec h; obtain ⟨c, hc, h⟩ := h
    split at h
    · replace h := kk_spec h; obtain ⟨c', hc', h⟩ := h
      refine freeR_plain ?_ h; exact free_extract ho (kop_st hc) (by rw [nth_avL, hc']; rfl)
    · exact h.elim
  · rename_i ho
    replace h := kk_spec h; obtain ⟨c, hc, h⟩ := h
    obtain ⟨res, h1, h2⟩ := fldK_spec hT ho (kop_st hc) h
    exact freeR_plain h1 h2
  · rename_i ho
    replace h := kk_spec h; obtain ⟨c, hc, h⟩ := h
    obtain ⟨res, h1, h2⟩ := loadK_spec hT ho (kop_st hc) h
    exact freeR_plain h1 h2
  · rename_i ho
    replace h := kk_spec h; obtain ⟨c, hc, h⟩ := h
    replace h := kk_spec h; obtain ⟨d, hd, h⟩ := h
    obtain ⟨res, h1, h2⟩ := idxK_spec hT ho (kop_st hc) (kop_st hd) h
    exact freeR_plain h1 h2
  · rename_i ho
    replace h := kk_spec h; obtain ⟨c, hc, h⟩ := h
    replace h := kk_spec h; obtain ⟨d, hd, h⟩ := h
    replace h := kk_spec h; obtain ⟨i, hi, h⟩ := h
    split at h
    · rename_i hu
      split at h
      · rename_i s
        replace h := kk_spec h; obtain ⟨⟨f, k, m⟩, hn, h⟩ := h
        replace h : (0 ≤ m ∧ m < (s.size : Int)) ∧ _ := h; obtain ⟨⟨h1, h2⟩, h⟩ := h
        have hlt : m.toNat < s.size := by omega
        have hg : s[m.toNat]? = some (s[m.toNat]) := by simp [hlt]
        refine freeR_plain (res := .int .u8 (strAt s m)) ?_ h
        have := free_index_str ho (kop_st hc) ((kop_st hd).trans (congrArg some (numK_spec hn))) ((hT _ _ hi).str hu) h1 hg
        simp only [KV.av, strAt, hg]
        exact this
      · exact h.elim
    · split at h
      · rename_i cs
        replace h := kk_spec h; obtain ⟨⟨l, e, n⟩, hr, h⟩ := h
        replace h := kk_spec h; obtain ⟨j, hj, h⟩ := h
        have key : ∀ (m : Nat) (k : IntKind), d.av = .d (.int k m) → m < l → aggK cs j.ag n m (fun c => K c [] []) → FreeR P o S K := fun m k hk hml h => by
          have hk := (kop_st hd).trans (congrArg some hk)
          cases hag : j.ag with
          | false =>
            rw [hag] at h
            replace h := kk_spec h; obtain ⟨c', hc', h⟩ := h
            refine freeR_plain ?_ h
            exact free_index_agg ho (kop_st hc) hk ((hT _ _ hi).ar _ hr) hml (by rw [(hT _ _ hj).ag, hag]) (by rw [nth_avL, hc']; rfl)
          | true =>
            rw [hag] at h
            replace h := kif_spec h; obtain ⟨h1, h⟩ := h
            have h1 := Nat.le_of_ble_eq_true h1
            refine freeR_plain ?_ h
            have := free_index_agg2 ho (kop_st hc) hk ((hT _ _ hi).ar _ hr) hml (by rw [(hT _ _ hj).ag, hag]) (by rw [avL_len]; exact h1)
            simp only [KV.av, ← avL_drop, ← avL_take]
            exact this
        simp only at h
        split at h
        · rename_i m hn
          replace h := kif_spec h; obtain ⟨h1, h⟩ := h
          rw [Nat.blt_eq] at h1
          obtain ⟨k, hk⟩ := litN_spec hn
          exact key m k hk h1 h
        · replace h := kk_spec h; obtain ⟨⟨fl, k, m⟩, hn, h⟩ := h
          replace h : (0 ≤ m ∧ m < (Int.ofNat l)) ∧ _ := h; obtain ⟨⟨h2, h3⟩, h⟩ := h
          have h3 : m < (l : Int) := h3
          have h : casesN (primK P E base r post) m l 0 (fun q => aggK cs j.ag n q fun c => K c [] []) := h
          refine key m.toNat k ?_ (by omega) (casesN_spec h (by omega) (by omega))
          rw [numK_spec hn, Int.toNat_of_nonneg h2]
      · exact h.elim
  · rename_i ho
    replace h := kk_spec h; obtain ⟨c, hc, h⟩ := h
    replace h := kk_spec h; obtain ⟨d, hd, h⟩ := h
    obtain ⟨res, h1, h2⟩ := binK_spec hT ho (kop_st hc) (kop_st hd) h
    exact freeR_plain h1 h2
  · rename_i ho
    replace h := kk_spec h; obtain ⟨c, hc, h⟩ := h
    have hc := kop_st hc
    unfold notK at h
    split at h
    · refine freeR_plain ?_ h; exact free_not ho hc
    · refine freeR_plain (res := .ff) ?_ h; exact free_not ho hc
    · refine freeR_plain (res := .tt) ?_ h; exact free_not ho hc
    · exact h.elim
  · rename_i ho
    replace h := kk_spec h; obtain ⟨c, hc, h⟩ := h
    replace h := kk_spec h; obtain ⟨⟨f, k, m⟩, hn, h⟩ := h
    refine freeR_plain (res := .int k (k.wrap (0 - m))) ?_ h; exact free_neg ho ((kop_st hc).trans (congrArg some (numK_spec hn)))
  · rename_i f first cap ho
    split at h
    · rename_i hf
      replace h := kk_spec h; obtain ⟨cs, hc, h⟩ := h
      have : first = #[] := by apply Array.toList_inj.1; simp [hf]
      subst this
      refine freeR_plain (res := .fn f cs) ?_ h; exact free_makeFunc ho (opndL_mapM (kopL_spec hc))
    · exact h.elim
  · rename_i ho
    replace h := kk_spec h; obtain ⟨c, hc, h⟩ := h
    have hc := kop_st hc
    split at h
    · replace h := kk_spec h; obtain ⟨i, hi, h⟩ := h
      replace h := kk_spec h; obtain ⟨⟨off, n, ft⟩, hr, h⟩ := h
      replace h := kk_spec h; obtain ⟨j, hj, h⟩ := h
      have hr := (hT _ _ hi).fl _ _ hr
      have hj := hT _ _ hj
      cases hag : j.ag with
      | false =>
        rw [hag] at h
        replace h := kk_spec h; obtain ⟨c', hc', h⟩ := h
        refine freeR_plain ?_ h; exact free_field ho hc hr (hag ▸ hj.ag) (by rw [nth_avL, hc']; rfl)
      | true =>
        rw [hag] at h
        replace h := kif_spec h; obtain ⟨h1, h⟩ := h
        have := free_field_agg ho hc hr (hag ▸ hj.ag) (by rw [avL_len]; exact Nat.le_of_ble_eq_true h1)
        rw [avL_drop, avL_take] at this
        exact freeR_plain (res := .agg _) this h
    · exact h.elim
  · rename_i e x ho
    replace h := kk_spec h; obtain ⟨c, hc, h⟩ := h
    replace h := kk_spec h; obtain ⟨cs, hcs, h⟩ := h
    split at h
    · exact h.elim
    · rename_i hb
      refine ⟨.loc nb 0, [(nb, ⟨e, cs, true⟩)], [], ?_, h⟩
      refine free_box ho (kop_st hc) (cellsK_spec hcs) ?_
      have : ∀ l : List KV, KV.boxesL nb l = false → (KV.avL l).any (fun c => c.box nb) = false := by
        intro l
        induction l with
        | nil => intro _; rfl
        | cons y q ih =>
          intro hh
          simp only [KV.boxesL] at hh
          cases hy : y.boxes nb with
          | true => rw [hy] at hh; cases hh
          | false =>
            rw [hy] at hh
            simp only [KV.avL, List.any_cons, boxes_av, hy, Bool.false_or]
            exact ih hh
      exact this cs hb
  · rename_i e ho
    replace h := kk_spec h; obtain ⟨i, hi, h⟩ := h
    replace h := kk_spec h; obtain ⟨cs, hz, h⟩ := h
    exact ⟨.loc nb 0, [(nb, ⟨e, cs, true⟩)], [], free_alloc ho ((hT _ _ hi).z _ hz), h⟩
  · rename_i t parts ho
    replace h := kk_spec h; obtain ⟨i, hi, h⟩ := h
    replace h := kk_spec h; obtain ⟨z, hz, h⟩ := h
    replace h := kk_spec h; obtain ⟨pl, hpl, h⟩ := h
    replace h := kk_spec h; obtain ⟨ps, hps, h⟩ := h
    replace h := kk_spec h; obtain ⟨cs, hcs, h⟩ := h
    have hi := hT _ _ hi
    refine freeR_plain (res := .agg cs) ?_ h; exact free_build ho (hi.z _ hz) (hi.pl _ hpl) (partsK_spec hps) (fillK_spec hcs)
  · rename_i t len parts ho
    replace h := kk_spec h; obtain ⟨i, hi, h⟩ := h
    replace h := kk_spec h; obtain ⟨⟨e, sz⟩, hr, h⟩ := h
    replace h := kk_spec h; obtain ⟨j, hj, h⟩ := h
    replace h := kk_spec h; obtain ⟨zc, hz, h⟩ := h
    replace h := kif_spec h; obtain ⟨h1, h⟩ := h
    replace h := kif_spec h; obtain ⟨h2, h⟩ := h
    have hi := hT _ _ hi
    have hj := hT _ _ hj
    have hr := hi.el _ hr
    have hz := hj.z _ hz
    simp only at h1 h2 hz h
    split at h
    · split at h
      · rename_i hp
        have hps : partsA S.st.T parts.toList = some [] := by rw [hp]; rfl
        split at h
        · refine freeR_plain (res := .slr true sz []) ?_ h
          exact free_buildSlice_d (rows := []) ho hr hz h1 hps rfl rfl (by simp [fillA]) h2
        · exact ⟨.osl nb, [], [(nb, ⟨e, sz, [], true, true⟩)], free_buildSlice (rows := []) ho hr hz h1 hps rfl rfl (by simp [fillA]) h2, h⟩
      · exact h.elim
    · rename_i n
      replace h := kk_spec h; obtain ⟨ps, hps, h⟩ := h
      replace h := kk_spec h; obtain ⟨cells, hcells, h⟩ := h
      replace h := kif_spec h; obtain ⟨h3, h⟩ := h
      replace h := kif_spec h; obtain ⟨h4, h⟩ := h
      have h4 := Nat.eq_of_beq_eq_true h4
      have hf := fillK_spec hcells
      rw [anys_spec] at hf
      obtain ⟨t1, t2, t3⟩ := toRows_spec (sz := sz) (n := n + 1) (l := KV.toDL cells) (by rw [toDL_len]; exact h4)
      refine freeR_plain (res := .slr true sz (chunks sz (n + 1) cells)) ?_ h
      have := free_buildSlice_d (rows := toRows sz (n + 1) (KV.toDL cells)) ho hr hz h1 (show partsA S.st.T _ = _ from partsK_spec hps) t2 t3 (by rw [hf, t1, allD_av h3]) h2
      rw [← chunks_spec] at this
      exact this
  · rename_i t x y ho
    replace h := kk_spec h; obtain ⟨c, hc, h⟩ := h
    replace h := kk_spec h; obtain ⟨d, hd, h⟩ := h
    replace h := kk_spec h; obtain ⟨⟨fa, ka, a⟩, ha, h⟩ := h
    replace h := kk_spec h; obtain ⟨⟨fb, kb, b⟩, hb, h⟩ := h
    replace h := kk_spec h; obtain ⟨i, hi, h⟩ := h
    replace h := kk_spec h; obtain ⟨⟨e, sz⟩, hr, h⟩ := h
    replace h := kk_spec h; obtain ⟨j, hj, h⟩ := h
    replace h := kk_spec h; obtain ⟨z, hz, h⟩ := h
    replace h := kif_spec h; obtain ⟨h1, h⟩ := h
    replace h := kif_spec h; obtain ⟨h2, h⟩ := h
    replace h := kif_spec h; obtain ⟨h3, h⟩ := h
    replace h : a = b ∧ _ := h; obtain ⟨h4, h⟩ := h
    replace h : (0 ≤ a ∧ (j.bytes : Int) * a ≤ 281474976710656 ∧ a ≤ 9223372036854775807) ∧ _ := h; obtain ⟨⟨h5, h6, h7⟩, h⟩ := h
    have h2 := Nat.eq_of_beq_eq_true h2
    rw [Nat.blt_eq] at h3
    subst h4
    have hi := hT _ _ hi
    have hj := hT _ _ hj
    have hz := hj.z _ hz
    rw [allD_av h1] at hz
    have := free_makeSlice (id := nb) ho (hi.el _ hr) hz (by rw [toDL_len]; exact h2) h3 hj.bytes ((kop_st hc).trans (congrArg some (numK_spec ha))) ((kop_st hd).trans (congrArg some (numK_spec hb))) h5 h6 h7
    rw [← reps_rows a.toNat z sz (by rw [← lenK_eq]; exact h2)] at this
    exact ⟨.osl nb, [], [(nb, ⟨e, sz, _, true, true⟩)], this, h⟩
  · rename_i t x low high ho
    replace h := kk_spec h; obtain ⟨c, hc, h⟩ := h
    replace h := kk_spec h; obtain ⟨i, hi, h⟩ := h
    split at h
    · rename_i clip sz α dd l f
      replace h := kk_spec h; obtain ⟨⟨e, n⟩, hr, h⟩ := h
      replace h := kif_spec h; obtain ⟨h1, h⟩ := h
      have h1 := Nat.eq_of_beq_eq_true h1
      simp only at h1; subst h1
      replace h := kk_spec h; obtain ⟨lo, hlo, h⟩ := h
      replace h := kk_spec h; obtain ⟨hi', hhi, h⟩ := h
      replace h : (0 ≤ lo) ∧ (lo ≤ hi') ∧ (hi' ≤ (plenN [KP.ls α dd l f] : Int)) ∧ _ := h; obtain ⟨h2, h3, h4, h⟩ := h
      have hpl : plenN [KP.ls α dd l f] = l.length := by simp [plenN]
      rw [hpl] at h4
      refine freeR_plain (res := .sl false n α dd ((l.take hi'.toNat).drop lo.toNat) f) ?_ h
      have b1 : BoundIs S.st.T low 0 lo.toNat := by
        split at hlo
        · cases hlo; exact .inl ⟨rfl, rfl⟩
        · split at hlo
          · rename_i y v hv
            split at hlo
            · rename_i q hq
              obtain ⟨fl, k, m⟩ := q
              simp only [Option.some.injEq] at hlo
              subst hlo
              exact .inr ⟨_, k, rfl, by rw [Int.toNat_of_nonneg h2]; exact (kop_st hv).trans (congrArg some (numK_spec hq))⟩
            · cases hlo
          · cases hlo
      have b2 : BoundIs S.st.T high (l.map fun a => rowD n 0 fun j => (f a j).toD).length hi'.toNat := by
        split at hhi
        · simp only [Option.some.injEq] at hhi
          have : hi' = (l.length : Int) := by rw [← hhi]; exact congrArg _ hpl
          exact .inl ⟨rfl, by rw [this, List.length_map]; rfl⟩
        · split at hhi
          · rename_i y v hv
            split at hhi
            · rename_i q hq
              obtain ⟨fl, k, m⟩ := q
              simp only [Option.some.injEq] at hhi
              subst hhi
              exact .inr ⟨_, k, rfl, by rw [Int.toNat_of_nonneg (Int.le_trans h2 h3)]; exact (kop_st hv).trans (congrArg some (numK_spec hq))⟩
            · cases hhi
          · cases hhi
      have := free_slice ho (kop_st hc) ((hT _ _ hi).el _ hr) b1 b2 (by omega) (by rw [List.length_map]; omega)
      rw [← List.map_take, ← List.map_drop] at this
      exact this
    · exact h.elim
  · rename_i s d x ho
    replace h := kk_spec h; obtain ⟨c, hc, h⟩ := h
    replace h := kk_spec h; obtain ⟨si, hsi, h⟩ := h
    replace h := kk_spec h; obtain ⟨di, hdi, h⟩ := h
    have hs := (hT _ _ hsi).sz
    have hd := hT _ _ hdi
    have hsd : ∃ sd, P.underlying s = some sd := by
      have := (hT _ _ hsi).ag
      unfold isAggT at this
      cases hu : P.underlying s with
      | none => rw [hu] at this; cases this
      | some sd => exact ⟨sd, rfl⟩
    obtain ⟨sd, hsd⟩ := hsd
    split at h
    · split at h
      · rename_i hu
        refine freeR_plain (res := .int _ _) ?_ h; exact free_conv ho (kop_st hc) hsd (hd.int _ hu)
      · exact h.elim
    · split at h
      · rename_i hu
        replace h := kif_spec h; obtain ⟨h1, h⟩ := h
        refine freeR_plain (res := .lit _ _) ?_ h; exact free_conv ho (kop_st hc) hsd (hd.int _ hu)
      · exact h.elim
    · exact h.elim
  · rename_i c ho
    obtain ⟨callee, args, ts⟩ := c
    simp only at h
    split at h
    · exact callK_spec ho h
    · split at h
      · exact appOK_spec hT ho h
      · split at h
        · obtain ⟨res, h1, h2⟩ := appNK_spec hT ho h
          exact freeR_plain h1 h2
        · obtain ⟨res, h1, h2⟩ := appK_spec hT ho h
          exact freeR_plain h1 h2
    · obtain ⟨res, h1, h2⟩ := builtK_spec hT ho h
      exact freeR_plain h1 h2
    · exact h.elim
  · exact h.elim
end Go.Proofs.Ytnekemldcjegaaa.Aw

/- The logic of abstract walks, part M5: regions and code by evaluation. -/
namespace Go.Proofs.Ytnekemldcjegaaa.Aw
open Go Go.RowKit
set_option linter.unusedVariables false
set_option linter.unusedSimpArgs false
universe u
variable {P : Program} {E : Env P} {base : Nat} {r : Option Nat} {post : KV → List KRow → Prop} {tb : Nat → Option TI}

theorem freeT_spec {b : Nat} : ∀ {T : List (Nat × KV)}, freeT b T = true → (mapT T).any (fun p => p.2.box b) = false
  | [], _ => rfl
  | (t, c) :: q, h => by
    simp only [freeT] at h
    cases hc : c.boxes b with
    | true => rw [hc] at h; cases h
    | false => rw [hc] at h; simp only [mapT, List.any_cons, boxes_av, hc, Bool.false_or]; exact freeT_spec h
theorem boxesL_any {b : Nat} : ∀ {l : List KV}, KV.boxesL b l = false → (KV.avL l).any (fun c => c.box b) = false
  | [], _ => rfl
  | c :: q, h => by
    simp only [KV.boxesL] at h
    cases hc : c.boxes b with
    | true => rw [hc] at h; cases h
    | false => rw [hc] at h; simp only [KV.avL, List.any_cons, boxes_av, hc, Bool.false_or]; exact boxesL_any h
theorem freeH_spec {b : Nat} : ∀ {T : List (Nat × KBlk)}, freeH b T = true → memN b (keys (mapH T)) = false ∧ (mapH T).any (fun p => p.2.cells.any fun c => c.box b) = false
  | [], _ => ⟨rfl, rfl⟩
  | (k, B) :: q, h => by
    simp only [freeH] at h
    cases hk : Nat.beq k b with
    | true => rw [hk] at h; cases h
    | false =>
      rw [hk] at h
      cases hc : KV.boxesL b B.cells with
      | true => rw [hc] at h; cases h
      | false =>
        rw [hc] at h
        obtain ⟨h1, h2⟩ := freeH_spec h
        refine ⟨?_, ?_⟩
        · simp only [mapH, keys, memN, nbeq, hk, h1, Bool.or_self]
        · simp only [mapH, List.any_cons, h2, Bool.or_false]; exact boxesL_any hc
theorem freeRT_spec {b : Nat} : ∀ {T : List (Nat × KV)}, freeRT b T = true → (mapT T).any (fun p => p.2.hasRow b) = false
  | [], _ => rfl
  | (t, c) :: q, h => by
    simp only [freeRT] at h
    cases hc : c.hasRow b with
    | true => rw [hc] at h; cases h
    | false => rw [hc] at h; simp only [mapT, List.any_cons, hasRow_av, hc, Bool.false_or]; exact freeRT_spec h
theorem hasRowL_any {b : Nat} : ∀ {l : List KV}, KV.hasRowL b l = false → (KV.avL l).any (fun c => c.hasRow b) = false
  | [], _ => rfl
  | c :: q, h => by
    simp only [KV.hasRowL] at h
    cases hc : c.hasRow b with
    | true => rw [hc] at h; cases h
    | false => rw [hc] at h; simp only [KV.avL, List.any_cons, hasRow_av, hc, Bool.false_or]; exact hasRowL_any h
theorem freeRH_spec {b : Nat} : ∀ {T : List (Nat × KBlk)}, freeRH b T = true → (mapH T).any (fun p => p.2.cells.any fun c => c.hasRow b) = false
  | [], _ => rfl
  | (k, B) :: q, h => by
    simp only [freeRH] at h
    cases hc : KV.hasRowL b B.cells with
    | true => rw [hc] at h; cases h
    | false => rw [hc] at h; simp only [mapH, List.any_cons, freeRH_spec h, Bool.or_false]; exact hasRowL_any hc
theorem freeRO_spec {b : Nat} : ∀ {T : List (Nat × KRow)}, freeRO b T = true → memN b (keys (mapO T)) = false
  | [], _ => rfl
  | (k, B) :: q, h => by
    simp only [freeRO] at h
    cases hk : Nat.beq k b with
    | true => rw [hk] at h; cases h
    | false => rw [hk] at h; simp only [mapO, keys, memN, nbeq, hk, freeRO_spec h, Bool.or_self]
theorem freshKH_spec {S : KSt} : ∀ {nh : List (Nat × KBlk)}, freshKH S nh = true → ∀ b ∈ keys (mapH nh), usesBox S.st b = false ∧ S.low ≤ b
  | [], _, b, hb => by cases hb
  | (k, B) :: q, h, b, hb => by
    simp only [freshKH, Bool.and_eq_true] at h
    obtain ⟨⟨⟨h1, h2⟩, h3⟩, h4⟩ := h
    rcases List.mem_cons.1 hb with e | hb
    · subst e
      obtain ⟨e1, e2⟩ := freeH_spec h3
      exact ⟨by simp only [usesBox, KSt.st, e1, freeT_spec h2, e2, Bool.or_self], Nat.le_of_ble_eq_true h1⟩
    · exact freshKH_spec h4 b hb
theorem freshKO_spec {S : KSt} : ∀ {no : List (Nat × KRow)}, freshKO S no = true → ∀ b ∈ keys (mapO no), usesRow S.st b = false ∧ S.low ≤ b
  | [], _, b, hb => by cases hb
  | (k, B) :: q, h, b, hb => by
    simp only [freshKO, Bool.and_eq_true] at h
    obtain ⟨⟨⟨⟨h1, h2⟩, h3⟩, h5⟩, h4⟩ := h
    rcases List.mem_cons.1 hb with e | hb
    · subst e
      exact ⟨by simp only [usesRow, KSt.st, freeRO_spec h5, freeRT_spec h2, freeRH_spec h3, Bool.or_self], Nat.le_of_ble_eq_true h1⟩
    · exact freshKO_spec h4 b hb
theorem freshK_spec {S : KSt} {nh : List (Nat × KBlk)} {no : List (Nat × KRow)} (h1 : freshKH S nh = true) (h2 : freshKO S no = true) : Fresh S.st (mapH nh) (mapO no) :=
  ⟨fun b hb => (freshKH_spec h1 b hb).1, fun b hb => (freshKO_spec h2 b hb).1, fun b hb => (freshKH_spec h1 b hb).2, fun b hb => (freshKO_spec h2 b hb).2⟩
theorem freshKB_spec {S : KSt} {nh : List (Nat × KBlk)} {no : List (Nat × KRow)} (h1 : freshKH S nh = true) (h2 : freshKO S no = true) : freshB S.st (mapH nh) (mapO no) = true := by
  have := freshK_spec h1 h2
  simp only [freshB, Bool.and_eq_true, List.all_eq_true, Bool.not_eq_true', Nat.ble_eq]
  exact ⟨fun b hb => ⟨this.box b hb, this.bl b hb⟩, fun b hb => ⟨this.row b hb, this.rl b hb⟩⟩
theorem dstK_spec {S : KSt} {d : Option Nat} (h : dstK S d = true) : dstOk S.st d = true := by
  cases d with
  | none => rfl
  | some t => exact h
theorem forgT_spec (id : Nat) : ∀ (T : List (Nat × KV)), mapT (forgT id T) = forgetT id (mapT T)
  | [] => rfl
  | (t, c) :: q => by
    simp only [forgT, mapT, forgetT, AV.forget, hasRow_av]
    cases c.hasRow id <;> simp only [mapT, forgT_spec id q, KV.av]
theorem forgL_spec (id : Nat) : ∀ (l : List KV), KV.avL (forgL id l) = forgetL id (KV.avL l)
  | [] => rfl
  | c :: q => by
    simp only [forgL, KV.avL, forgetL, AV.forget, hasRow_av]
    cases c.hasRow id <;> simp only [KV.avL, forgL_spec id q, KV.av]
theorem forgH_spec (id : Nat) : ∀ (H : List (Nat × KBlk)), mapH (forgH id H) = forgetH id (mapH H)
  | [] => rfl
  | (b, B) :: q => by simp only [forgH, mapH, forgetH, KBlk.blk, forgL_spec, forgH_spec id q]
theorem rowsD_app (sz : Nat) : ∀ (a b : List KP), rowsD sz (a ++ b) = rowsD sz a ++ rowsD sz b
  | [], b => rfl
  | p :: q, b => by simp [rowsD, rowsD_app sz q b]
theorem joinP_rows (sz : Nat) (a b : List KP) : rowsD sz (joinP a b) = rowsD sz a ++ rowsD sz b := by
  unfold joinP
  split
  · simp [rowsD, KP.rows, toDLL_map]
  · exact rowsD_app sz a b
theorem lit_leq {S : KSt} {t : Nat} {b : Bool} {c v : KV} (h : lk S.T t = some c) (hc : c.av = .d (.bool b)) (hv : v.av = .d (.bool b)) : Leq S.st (S.lit (.tmp t) v).st := by
  refine ⟨rfl, rfl, fun u => ?_, fun _ => rfl, fun _ => rfl⟩
  simp only [KSt.lit, KSt.st, mapT, look]
  by_cases e : t = u
  · subst e; rw [if_pos rfl, look_mapT, h, hv]; simp [hc]
  · rw [if_neg e]
theorem wantK_spec {ops : Array Oper} {S : KSt} {o : Oper} {A B : KSt → Prop} (h : wantK (primK P E base r post) ops.toList S o A B) :
    ∃ S', Leq S.st S'.st ∧ ((guardB ops S'.st.T o = some true ∧ A S') ∨ (guardB ops S'.st.T o = some false ∧ B S')) := by
  unfold wantK at h
  split at h
  · rename_i hg; exact ⟨S, Leq.refl _, .inl ⟨by simp [guardB, hg], h⟩⟩
  · rename_i j want hg
    replace h := kk_spec h; obtain ⟨o', h1, h⟩ := h
    replace h := kk_spec h; obtain ⟨t, h2, h⟩ := h
    replace h := kk_spec h; obtain ⟨c, h3, h⟩ := h
    rw [nth_eq, Array.getElem?_toList] at h1
    have gd : ∀ (S' : KSt) (b : Bool), look S'.st.T t = some (.d (.bool b)) → guardB ops S'.st.T o = some (b == want) := fun S' b hb => by
      simp only [guardB, hg, h1, Option.bind_some, h2, hb]
    have hl : look S.st.T t = some c.av := by rw [st_look, h3]; rfl
    split at h
    · have := gd S true hl
      cases want with
      | true => exact ⟨S, Leq.refl _, .inl ⟨this, h⟩⟩
      | false => exact ⟨S, Leq.refl _, .inr ⟨this, h⟩⟩
    · have := gd S false hl
      cases want with
      | true => exact ⟨S, Leq.refl _, .inr ⟨this, h⟩⟩
      | false => exact ⟨S, Leq.refl _, .inl ⟨this, h⟩⟩
    · rename_i b
      have key : ∀ v : KV, v.av = .d (.bool b) → Leq S.st (S.lit (.tmp t) v).st ∧ guardB ops (S.lit (.tmp t) v).st.T o = some (b == want) := fun v hv =>
        ⟨lit_leq h3 rfl hv, gd _ b (by simp only [KSt.lit, KSt.st, mapT, look, if_true, hv])⟩
      cases b with
      | true =>
        obtain ⟨e1, e2⟩ := key .tt rfl
        cases want with
        | true => exact ⟨_, e1, .inl ⟨e2, h.1 rfl⟩⟩
        | false => exact ⟨_, e1, .inr ⟨e2, h.1 rfl⟩⟩
      | false =>
        obtain ⟨e1, e2⟩ := key .ff rfl
        cases want with
        | true => exact ⟨_, e1, .inr ⟨e2, h.2 rfl⟩⟩
        | false => exact ⟨_, e1, .inl ⟨e2, h.2 rfl⟩⟩
    · refine ⟨S, Leq.refl _, .inr ⟨?_, h⟩⟩
      have hl : look S.st.T t = some (.tup []) := hl
      simp only [guardB, hg, h1, Option.bind_some, h2, hl]
    · exact h.elim
theorem guardB_leq {ops : Array Oper} {S S' : St} (h : Leq S S') (o : Oper) : guardB ops S'.T o = guardB ops S.T o := by
  unfold guardB
  split
  · rfl
  · rename_i j want hg
    cases hb : (ops[j]?).bind (·.dst) with
    | none => rfl
    | some t => simp only [hb, h.T t]
theorem Bar_leq {o : Oper} {S S' S'' : St} {s s' : E.σ} (h : Bar E o S s S' s') (hl : Leq S' S'') : Bar E o S s S'' s' := fun r base M a w hc K Q hK =>
  h r base M a w hc K Q fun v w' M' hc' hx => hK v w' M' (hc'.leq hl) (hx.trans (hl.ext M' w'))
/-- Is it a call of a function value? -/
def isVal (o : Oper) : Prop := ∃ f args ts, o.op = .call ⟨.value f, args, ts⟩
theorem barK_bar {o : Oper} {S : KSt} {s : E.σ} {nb : Nat} (hT : ∀ t i, tb t = some i → TIOk P t i) {K : KSt → E.σ → Prop}
    (hbar : ¬ isVal o) (h : barK (primK P E base r post) tb o S s nb K) : ∃ S' s', Bar E o S.st s S'.st s' ∧ K S' s' := by
  unfold barK at h
  split at h
  · rename_i t p x hop
    replace h := kk_spec h; obtain ⟨c, hc, h⟩ := h
    replace h := kk_spec h; obtain ⟨d, hd, h⟩ := h
    replace h := kk_spec h; obtain ⟨cs, hcs, h⟩ := h
    replace h := kk_spec h; obtain ⟨ti, hi, h⟩ := h
    replace h := kif_spec h; obtain ⟨h1, h⟩ := h
    have h1 := Nat.eq_of_beq_eq_true h1
    split at h
    · exact h.elim
    · rename_i hdst
      split at h
      · rename_i b off
        replace h := kk_spec h; obtain ⟨B, hB, h⟩ := h
        replace h := kif_spec h; obtain ⟨h2, h⟩ := h
        replace h := kif_spec h; obtain ⟨h3, h⟩ := h
        have hB' : look S.st.H b = some B.blk := by rw [st_lookH, hB]; rfl
        have := bar_store (s := s) hop hdst (kop_st hc) hB' h2 (kop_st hd) (cellsK_spec hcs) (by rw [(hT _ _ hi).sz, h1, avL_len]) (by rw [avL_len, show B.blk.cells = KV.avL B.cells from rfl, avL_len]; exact h3)
        refine ⟨_, _, ?_, h⟩
        have e2 : setBox S.st b ⟨B.blk.e, putL B.blk.cells off (KV.avL cs), true⟩ = KSt.st ⟨S.n, S.T, stA S.H b ⟨B.e, putK B.cells off cs, true⟩, S.O, S.low⟩ := by
          simp only [setBox, KSt.st]
          rw [← setA_mapH]; simp only [KBlk.blk, putK_spec]
        rw [← e2]; exact this
      · rename_i id sz ix j
        replace h := kk_spec h; obtain ⟨R, hR, h⟩ := h
        replace h := kif_spec h; obtain ⟨h2, h⟩ := h
        simp only [Bool.and_eq_true] at h2
        obtain ⟨h2, h3⟩ := h2
        have h3 := Nat.eq_of_beq_eq_true h3
        subst h3
        replace h := kif_spec h; obtain ⟨h4, h⟩ := h
        have h4 := Nat.le_of_ble_eq_true h4
        replace h := kif_spec h; obtain ⟨h5, h⟩ := h
        replace h : (0 ≤ ix ∧ ix < (plenN R.ps : Int)) ∧ ∃ ps', rowsD R.sz ps' = (rowsD R.sz R.ps).set ix.toNat (putG ((rowsD R.sz R.ps).getD ix.toNat []) j (KV.toDL cs)) ∧ K ⟨S.n, S.T, S.H, stA S.O id ⟨R.e, R.sz, ps', R.nn, true⟩, S.low⟩ s := h
        obtain ⟨⟨h6, h7⟩, ps', h8, h⟩ := h
        have hR' : look S.st.O id = some R.row := by rw [st_lookO, hR]; rfl
        have hlen : ix.toNat < (rowsD R.sz R.ps).length := by rw [plenN_spec]; omega
        have := bar_storeRow (s := s) (ds := KV.toDL cs) (row := (rowsD R.sz R.ps)[ix.toNat]) (i := ix.toNat) (R := R.row) hop hdst (kop_st hc) hR' h2 (kop_st hd) (by rw [cellsK_spec hcs, allD_av h5]) (by rw [(hT _ _ hi).sz, h1, toDL_len]) (by show (rowsD R.sz R.ps)[ix.toNat]? = _; simp [hlen]) (by rw [toDL_len]; exact h4)
        refine ⟨_, _, ?_, h⟩
        have e2 : putS S.st id R.row (R.row.rows.set ix.toNat (putG (rowsD R.sz R.ps)[ix.toNat] j (KV.toDL cs))) = KSt.st ⟨S.n, S.T, S.H, stA S.O id ⟨R.e, R.sz, ps', R.nn, true⟩, S.low⟩ := by
          simp only [putS, KSt.st]
          rw [← setA_mapO]
          simp only [KRow.row, h8]
          rw [List.getD_eq_getElem?_getD, List.getElem?_eq_getElem hlen]; rfl
        rw [← e2]; exact this
      · exact h.elim
  · rename_i c hop
    obtain ⟨callee, args, ts⟩ := c
    simp only at h
    split at h
    · split at h
      · rename_i x y t t' h1 h2
        have e1 : args = #[x, y] := by apply Array.toList_inj.1; simp [h1]
        have e2 : ts = #[t, t'] := by apply Array.toList_inj.1; simp [h2]
        subst e1 e2
        replace h := kif_spec h; obtain ⟨ht, h⟩ := h
        have ht := Nat.eq_of_beq_eq_true ht
        subst ht
        replace h := kif_spec h; obtain ⟨hd, h⟩ := h
        have hd := dstK_spec hd
        replace h := kk_spec h; obtain ⟨c, hc, h⟩ := h
        replace h := kk_spec h; obtain ⟨d, hy, h⟩ := h
        replace h := kk_spec h; obtain ⟨ti, hi, h⟩ := h
        replace h := kk_spec h; obtain ⟨⟨e, sz⟩, hr, h⟩ := h
        replace h := kk_spec h; obtain ⟨j, hj, h⟩ := h
        replace h := kk_spec h; obtain ⟨zc, hz, h⟩ := h
        replace h := kif_spec h; obtain ⟨hzs, h⟩ := h
        replace h := kif_spec h; obtain ⟨hpos, h⟩ := h
        have hzs := Nat.eq_of_beq_eq_true hzs
        have hi := hT _ _ hi
        have hj := hT _ _ hj
        have hr := hi.el _ hr
        have hz := hj.z _ hz
        replace hy := kop_st hy
        replace hc := kop_st hc
        simp only at hzs hpos hz hj h
        split at h
        · rename_i id
          replace h := kk_spec h; obtain ⟨R, hR, h⟩ := h
          replace h := kif_spec h; obtain ⟨h3, h⟩ := h
          simp only [Bool.and_eq_true] at h3
          obtain ⟨⟨h3, h4⟩, h5⟩ := h3
          have h4 := Nat.eq_of_beq_eq_true h4
          have h5 := Nat.eq_of_beq_eq_true h5
          replace h := kk_spec h; obtain ⟨news, hs, h⟩ := h
          replace h : (plenN (joinP R.ps news) * j.bytes ≤ 140737488355328 ∧ plenN (joinP R.ps news) ≤ 140737488355328) ∧ _ := h; obtain ⟨⟨h6, h7⟩, h⟩ := h
          have hR' : look S.st.O id = some R.row := by rw [st_lookO, hR]; rfl
          have hlen : R.row.rows.length + (rowsD R.sz news).length = plenN (joinP R.ps news) := by
            rw [← plenN_spec R.sz, joinP_rows, List.length_append]; rfl
          have := bar_append (s := s) hop hc hR' h3 (by rw [show R.row.e = R.e from rfl, show R.row.sz = R.sz from rfl, h4, h5]; exact hr) (by rw [show R.row.e = R.e from rfl, h4]; exact hz) (by rw [avL_len, show R.row.sz = R.sz from rfl, h5]; exact hzs) (by rw [show R.row.sz = R.sz from rfl, h5]; exact hpos)
            (by rw [show R.row.e = R.e from rfl, h4]; exact hj.bytes) hy (srcK_spec hs) (by rw [← hlen] at h6; exact h6) (by rw [← hlen] at h7; exact h7) hd
          refine ⟨_, _, Bar_leq (Bar_leq this (appS_leq _ _ _ _)) ?_, h⟩
          refine ⟨rfl, rfl, fun u => ?_, fun u => ?_, fun u => ?_⟩
          · simp only [KSt.st]
            cases o.dst with
            | none => rw [forgT_spec]; rfl
            | some v => simp only [setD, look_setT, mapT, look, forgT_spec]; rfl
          · simp only [KSt.st, forgH_spec]
          · simp only [KSt.st, ← setA_mapO]
            rw [show (KRow.row ⟨R.e, R.sz, joinP R.ps news, R.nn, true⟩) = ⟨R.row.e, R.row.sz, R.row.rows ++ rowsD R.sz news, R.row.nn, true⟩ from by simp only [KRow.row, joinP_rows]]
            rfl
        · replace h := kk_spec h; obtain ⟨news, hs, h⟩ := h
          replace h : (plenN news * j.bytes ≤ 140737488355328 ∧ plenN news ≤ 140737488355328) ∧ _ := h; obtain ⟨⟨h6, h7⟩, h⟩ := h
          replace h := kif_spec h; obtain ⟨hf, h⟩ := h
          have hs' : srcRows { S.st with O := (nb, ⟨e, sz, [], false, true⟩) :: S.st.O } nb sz d.av = some (rowsD sz news) := by
            have h0 := srcK_spec hs
            unfold srcK at hs
            split at hs
            all_goals first | exact h0 | (cases hs; done) | skip
            · rename_i id'
              split at hs
              · rename_i R hR
                split at hs
                · rename_i he
                  simp only [Bool.and_eq_true] at he
                  have hne : ¬ nb = id' := fun e => by
                    subst e
                    have := he.2
                    simp at this
                  simp only [srcRows, KV.av, look, if_neg hne] at h0 ⊢
                  exact h0
                · cases hs
              · cases hs
          have hlen : (rowsD sz news).length = plenN news := plenN_spec _ _
          have := bar_append_nil (s := s) nb hop hc hr hz (by rw [avL_len]; exact hzs) hpos hj.bytes hy hs' (by rw [hlen]; exact h6) (by rw [hlen]; exact h7) hd (freshKB_spec (nh := []) (by rfl) hf)
          refine ⟨_, _, Bar_leq (Bar_leq this (appS_leq _ _ _ _)) ?_, h⟩
          refine ⟨rfl, rfl, fun u => ?_, fun u => ?_, fun u => ?_⟩
          · simp only [KSt.st]
            cases o.dst with
            | none => rw [forgT_spec]; rfl
            | some v => simp only [setD, look_setT, mapT, look, forgT_spec]; rfl
          · simp only [KSt.st, forgH_spec]
          · simp only [KSt.st, mapO, setA, if_true]; rfl
        · rename_i sz' row rows
          replace h := kif_spec h; obtain ⟨he, h⟩ := h
          have he := Nat.eq_of_beq_eq_true he
          subst he
          replace h := kk_spec h; obtain ⟨news, hs, h⟩ := h
          replace h : (1 : Int) ≤ (plenN news : Int) ∧ (plenN (joinP [.rw (row :: rows)] news) * j.bytes ≤ 140737488355328 ∧ plenN (joinP [.rw (row :: rows)] news) ≤ 140737488355328) ∧ _ := h
          obtain ⟨h5, ⟨h6, h7⟩, h⟩ := h
          have hlen : (rowsD sz' news).length = plenN news := plenN_spec _ _
          have hrw : (KV.toDLL (row :: rows)) = rowsD sz' [.rw (row :: rows)] := by simp [rowsD, KP.rows]
          have hsum : (KV.toDLL (row :: rows)).length + (rowsD sz' news).length = plenN (joinP [.rw (row :: rows)] news) := by
            rw [← plenN_spec sz', joinP_rows, List.length_append, hrw]
          rw [Nat.blt_eq] at hpos
          have hf := free_append_full (id := nb) hop (rows := KV.toDLL (row :: rows)) hc hr hz (by rw [avL_len]; exact hzs) hpos (hT _ _ hj).bytes (by simp [KV.toDLL]) (by rw [hlen]; omega) hy (srcK_spec hs) (by rw [hsum]; exact h6) (by rw [hsum]; exact h7)
          refine ⟨_, _, ?_, h⟩
          rw [KSt.add_st]
          refine bar_of_free (res := (rowKV ⟨e, sz', joinP [.rw (row :: rows)] news, true, true⟩).av) ?_ hd
          rw [rowKV_av, joinP_rows, ← hrw]
          exact hf
        · exact h.elim
      · exact h.elim
    · split at h
      · rename_i x y t t' h1 h2
        have e1 : args = #[x, y] := by apply Array.toList_inj.1; simp [h1]
        have e2 : ts = #[t, t'] := by apply Array.toList_inj.1; simp [h2]
        subst e1 e2
        replace h := kif_spec h; obtain ⟨ht, h⟩ := h
        have ht := Nat.eq_of_beq_eq_true ht
        subst ht
        replace h := kif_spec h; obtain ⟨hd, h⟩ := h
        have hd := dstK_spec hd
        replace h := kk_spec h; obtain ⟨c, hc, h⟩ := h
        replace h := kk_spec h; obtain ⟨d, hy, h⟩ := h
        replace h := kk_spec h; obtain ⟨ti, hi, h⟩ := h
        replace h := kk_spec h; obtain ⟨⟨e, sz⟩, hr, h⟩ := h
        split at h
        · rename_i id
          replace h := kk_spec h; obtain ⟨R, hR, h⟩ := h
          replace h := kif_spec h; obtain ⟨h3, h⟩ := h
          simp only [Bool.and_eq_true] at h3
          obtain ⟨⟨h3, h4⟩, h5⟩ := h3
          have h4 := Nat.eq_of_beq_eq_true h4
          have h5 := Nat.eq_of_beq_eq_true h5
          subst h4 h5
          replace h := kk_spec h; obtain ⟨news, hs, h⟩ := h
          replace h : (1 : Int) ≤ (plenN news : Int) ∧ (plenN news : Int) = (plenN R.ps : Int) ∧ K (KSt.add ⟨S.n, S.T, S.H, stA S.O id ⟨R.e, R.sz, news, R.nn, true⟩, S.low⟩ o.dst (.int .i64 (plenN news)) [] []) s := h
          obtain ⟨h6, h7, h⟩ := h
          have hR' : look S.st.O id = some R.row := by rw [st_lookO, hR]; rfl
          have hlen : (rowsD R.sz news).length = plenN news := plenN_spec _ _
          have := bar_copy (s := s) (R := R.row) hop (kop_st hc) hR' h3 ((hT _ _ hi).el _ hr) (kop_st hy) (srcK_spec hs) ((show (rowsD R.sz news).length = R.row.rows.length from by rw [hlen, show R.row.rows.length = plenN R.ps from plenN_spec _ _]; omega)) (show 0 < (rowsD R.sz news).length from by rw [hlen]; omega) hd
          refine ⟨_, _, ?_, h⟩
          rw [KSt.add_st]
          have e2 : putS S.st id R.row (rowsD R.sz news) = KSt.st ⟨S.n, S.T, S.H, stA S.O id ⟨R.e, R.sz, news, R.nn, true⟩, S.low⟩ := by
            simp only [putS, KSt.st]
            rw [← setA_mapO]; rfl
          rw [← e2, show KV.av (.int .i64 (plenN news)) = .d (.int .i64 ((rowsD R.sz news).length : Nat)) from by rw [hlen]; rfl]
          exact this
        · exact h.elim
      · exact h.elim
    · rename_i f; exact absurd ⟨f, args, ts, hop⟩ hbar
    · exact h.elim
  · exact h.elim
theorem barK_spec {ops : Array Oper} {i : Nat} {rest : List Nat} {o : Oper} {S : KSt} {s : E.σ} {Q : Exit → St → E.σ → Prop} {nb : Nat} (hT : ∀ t i, tb t = some i → TIOk P t i) (ho : ops[i]? = some o) (hg : guardB ops S.st.T o = some true) {K : KSt → E.σ → Prop}
    (hK : ∀ S' s', K S' s' → AWO E base r ops rest S'.st s' Q) (hbar : isBarK o S = true) (h : barK (primK P E base r post) tb o S s nb K) : AWO E base r ops (i :: rest) S.st s Q := by
  by_cases hv : isVal o
  · obtain ⟨f, args, ts, hop⟩ := hv
    unfold barK at h
    rw [hop] at h
    simp only at h
    have hy : kop S.T f = some .yld := by
      simp only [isBarK, hop] at hbar
      split at hbar
      · rename_i hk; exact hk
      · cases hbar
    replace h := kif_spec h; obtain ⟨hd, h⟩ := h
    replace h := kk_spec h; obtain ⟨cs, hcs, h⟩ := h
    replace h := kk_spec h; obtain ⟨xs, hxs, h⟩ := h
    obtain ⟨hst, h⟩ := h
    exact AWO_yield ho hg hop (kop_st hy) (kopL_spec hcs) (snapL_spec' hxs) (dstK_spec hd) hst (fun s' b hb => by
      have := hK _ _ (h s' b hb)
      rwa [KSt.add_st] at this)
  · obtain ⟨S', s', hb, hk⟩ := barK_bar hT hv h
    exact AWO_bar ho hg hb (hK _ _ hk)
theorem seeT_other {id : Nat} {d : D} {t : Nat} {c : AV} {T : List (Nat × AV)} (h : c ≠ .osl id) : seeT id d ((t, c) :: T) = (t, c) :: seeT id d T := by
  cases c with
  | osl i => simp only [seeT]; rw [if_neg (fun e => h (by rw [e]))]
  | _ => rfl
theorem seeK_spec {id : Nat} {v : KV} {d : D} (hv : v.av = .d d) : ∀ {T : List (Nat × KV)}, mapT (seeK id v T) = seeT id d (mapT T)
  | [] => rfl
  | (t, c) :: q => by
    have ih := seeK_spec (id := id) hv (T := q)
    cases c with
    | osl i =>
      simp only [seeK]
      split
      · rename_i h
        have := Nat.eq_of_beq_eq_true h
        subst this
        simp [mapT, KV.av, ih, seeT, hv]
      · rename_i h
        have : i ≠ id := fun e => by subst e; rw [Nat.beq_refl] at h; cases h
        simp [mapT, KV.av, ih, seeT, this]
    | _ => simp only [seeK, mapT, ih, KV.av]; rw [seeT_other (fun e => by cases e)]
theorem look_keepT {id : Nat} {d : D} {t : Nat} {x : AV} (hx : x ≠ .osl id) : ∀ {T : List (Nat × AV)}, look T t = some x → look (seeT id d T) t = some x
  | [], h => by cases h
  | (u, c) :: q, h => by
    have ih := look_keepT (id := id) (d := d) (t := t) (x := x) hx (T := q)
    simp only [look] at h
    by_cases hc : c = .osl id
    · subst hc
      simp only [seeT, if_true, look]
      by_cases e : u = t
      · rw [if_pos e] at h; cases h; exact absurd rfl hx
      · rw [if_neg e] at h ⊢; exact ih h
    · rw [seeT_other hc]
      simp only [look]
      by_cases e : u = t
      · rw [if_pos e] at h ⊢; exact h
      · rw [if_neg e] at h ⊢; exact ih h
/-- What is kept where rows are frozen. -/
def Keeps (S S' : KSt) : Prop := Weak S.st S'.st ∧ ∀ t x, (∀ i, x ≠ .osl i) → look S.st.T t = some x → look S'.st.T t = some x
theorem Keeps.refl (S : KSt) : Keeps S S := ⟨Weak.refl _, fun _ _ _ h => h⟩
theorem Keeps.trans {S S' S'' : KSt} (h : Keeps S S') (k : Keeps S' S'') : Keeps S S'' := ⟨h.1.trans k.1, fun t x hx e => k.2 t x hx (h.2 t x hx e)⟩
theorem frzK_keeps (id : Nat) (S : KSt) : Keeps S (frzK id S) := by
  unfold frzK
  split
  · rename_i R hR
    have hR' : look S.st.O id = some R.row := by rw [st_lookO, hR]; rfl
    have e : frzS S.st id R.row = KSt.st ⟨S.n, seeK id (rowKV R) S.T, S.H, stA S.O id ⟨R.e, R.sz, R.ps, R.nn, false⟩, S.low⟩ := by
      simp only [frzS, KSt.st]
      rw [← setA_mapO, seeK_spec (rowKV_av R)]; rfl
    refine ⟨?_, fun t x hx h => ?_⟩
    · rw [← e]; exact weak_frz hR'
    · rw [← e]; exact look_keepT (hx _) h
  · exact Keeps.refl S
theorem frzI_keeps : ∀ (l : List Nat) (S : KSt), Keeps S (frzI l S)
  | [], S => Keeps.refl S
  | id :: q, S => (frzK_keeps id S).trans (frzI_keeps q _)
theorem frzL_keeps : ∀ (l : List Nat) (S : KSt), Keeps S (frzL l S)
  | [], S => Keeps.refl S
  | t :: q, S => by
    unfold frzL
    split
    · exact (frzI_keeps _ S).trans (frzL_keeps q _)
    · exact frzL_keeps q S
theorem preK_keeps (pz : List Nat) (o : Oper) (S : KSt) : Keeps S (preK pz o S) := by
  unfold preK
  split
  · split
    · exact frzL_keeps _ S
    · exact Keeps.refl S
  · exact Keeps.refl S
theorem guardB_keeps {ops : Array Oper} {S S' : KSt} {o : Oper} {b : Bool} (h : Keeps S S') (hg : guardB ops S.st.T o = some b) : guardB ops S'.st.T o = some b := by
  unfold guardB at hg ⊢
  split at hg
  · exact hg
  · rename_i j want hgd
    cases hq : (ops[j]?).bind (·.dst) with
    | none => simp only [hq] at hg; cases hg
    | some t =>
      simp only [hq] at hg ⊢
      cases hl : look S.st.T t with
      | none => rw [hl] at hg; cases hg
      | some v =>
        rw [hl] at hg
        cases v with
        | d x => rw [h.2 t _ (fun i e => by cases e) hl]; exact hg
        | tup l => rw [h.2 t _ (fun i e => by cases e) hl]; exact hg
        | _ => cases hg
theorem opsK_spec {ops : Array Oper} {pz : List Nat} {Q : Exit → St → E.σ → Prop} {K : KSt → E.σ → Prop} (hT : ∀ t i, tb t = some i → TIOk P t i) (hQ : ∀ S s, K S s → Q .normal S.st s) : ∀ (l : List Oper) (i : Nat) (S : KSt) (s : E.σ), (∀ (j : Nat) (o : Oper), l[j]? = some o → ops[i + j]? = some o) →
    opsK (primK P E base r post) tb pz ops.toList l S s K → AWO E base r ops (List.range' i l.length) S.st s Q
  | [], i, S, s, _, h => AWO_nil (hQ _ _ h)
  | o :: rest, i, S, s, hl, h => by
    have ho : ops[i]? = some o := by simpa using hl 0 o rfl
    have hrest : ∀ (j : Nat) (o : Oper), rest[j]? = some o → ops[i + 1 + j]? = some o := fun j o h => by
      have := hl (j + 1) o (by simpa using h)
      rwa [show i + (j + 1) = i + 1 + j from by omega] at this
    rw [List.length_cons, List.range'_succ]
    unfold opsK at h
    obtain ⟨S', hleq, h⟩ := wantK_spec h
    refine AWO_leq hleq ?_
    rcases h with ⟨hg, h⟩ | ⟨hg, h⟩
    · have hk := preK_keeps pz o S'
      refine AWO_weak hk.1 ?_
      replace hg := guardB_keeps hk hg
      generalize preK pz o S' = S' at h hg
      simp only at h
      split at h
      · rename_i hb
        exact barK_spec hT ho hg (fun S' s' hk => opsK_spec hT hQ rest (i + 1) S' s' hrest hk) hb h
      · obtain ⟨res, nh, no, hf, h⟩ := freeK_spec hT h
        replace h := kif_spec h; obtain ⟨h1, h⟩ := h
        simp only [Bool.and_eq_true] at h1
        have := opsK_spec hT hQ rest (i + 1) _ s hrest h
        rw [KSt.add_st] at this
        exact AWO_free _ _ _ ho hg hf (freshK_spec h1.1.1 h1.1.2) (dstK_spec h1.2) this
    · replace h := kif_spec h; obtain ⟨h1, h⟩ := h
      have := opsK_spec hT hQ rest (i + 1) _ s hrest h
      rw [KSt.add_st] at this
      exact AWO_notT ho hg (dstK_spec h1) this
theorem regK_spec {id : Nat} {ops : Array Oper} {pz : List Nat} {S : KSt} {s : E.σ} {Q : Exit → St → E.σ → Prop} {K : KSt → E.σ → Prop} (hT : ∀ t i, tb t = some i → TIOk P t i) (hQ : ∀ S s, K S s → Q .normal S.st s)
    (h : opsK (primK P E base r post) tb pz ops.toList ops.toList S s K) : AW E base r (.region id ops false) S.st s Q := by
  refine AW_region ?_
  have := opsK_spec (ops := ops) hT hQ ops.toList 0 S s (fun j o h => by simpa using h) h
  rwa [List.range_eq_range', ← Array.length_toList]
end Go.Proofs.Ytnekemldcjegaaa.Aw

/- The logic of abstract walks, part M5b: regions that draw, by evaluation. -/
namespace Go.Proofs.Ytnekemldcjegaaa.Aw
open Go Go.RowKit
set_option linter.unusedVariables false
set_option linter.unusedSimpArgs false
universe u
variable {P : Program} {E : Env P} {base : Nat} {r : Option Nat} {post : KV → List KRow → Prop} {tb : Nat → Option TI}

theorem key_look {α : Type} {l : List (Nat × α)} {b : Nat} (h : b ∈ keys l) : ∃ v, look l b = some v := by
  induction l with
  | nil => cases h
  | cons p q ih =>
    obtain ⟨k, v⟩ := p
    simp only [look]
    by_cases e : k = b
    · exact ⟨v, if_pos e⟩
    · rw [if_neg e]
      rcases List.mem_cons.1 h with h | h
      · exact absurd h.symm e
      · exact ih h
theorem freshH_not {S : KSt} : ∀ {nh : List (Nat × KBlk)}, freshKH S nh = true → ∀ b ∈ keys (mapH nh), b ∉ keys S.st.H := fun h b hb hh => by
  have := (freshKH_spec h b hb).1
  simp only [usesBox, memN_iff.2 hh, Bool.true_or] at this
  cases this
theorem freshO_not {S : KSt} : ∀ {no : List (Nat × KRow)}, freshKO S no = true → ∀ b ∈ keys (mapO no), b ∉ keys S.st.O := fun h b hb hh => by
  have := (freshKO_spec h b hb).1
  simp only [usesRow, memN_iff.2 hh, Bool.true_or] at this
  cases this
theorem segS_snoc {ops : Array Oper} {X : Nat → Bool} (l : List Sg) (g : Sg) (i : Nat) (S : St) : segS ops X i (l ++ [g]) S = if X (i + l.length) then (segS ops X i l S).add (dstAt ops (i + l.length)) g.res g.nh g.no else segS ops X i l S := by
  rw [segS_split]; rfl
theorem segS_keysH {ops : Array Oper} : ∀ (l : List Sg) (i : Nat) (S : St) (b : Nat), b ∈ keys (segS ops (fun _ => true) i l S).H ↔ b ∈ keys S.H ∨ ∃ g ∈ l, b ∈ keys g.nh
  | [], i, S, b => by simp [segS]
  | g :: q, i, S, b => by
    simp only [segS, if_true]
    rw [segS_keysH q (i + 1)]
    simp only [St.add, keys_append, List.mem_append, List.mem_cons, exists_eq_or_imp]
    exact ⟨fun h => h.elim (fun h => h.elim (fun h => .inr (.inl h)) .inl) (fun h => .inr (.inr h)), fun h => h.elim (fun h => .inl (.inr h)) (fun h => h.elim (fun h => .inl (.inl h)) .inr)⟩
theorem segS_keysO {ops : Array Oper} : ∀ (l : List Sg) (i : Nat) (S : St) (b : Nat), b ∈ keys (segS ops (fun _ => true) i l S).O ↔ b ∈ keys S.O ∨ ∃ g ∈ l, b ∈ keys g.no
  | [], i, S, b => by simp [segS]
  | g :: q, i, S, b => by
    simp only [segS, if_true]
    rw [segS_keysO q (i + 1)]
    simp only [St.add, keys_append, List.mem_append, List.mem_cons, exists_eq_or_imp]
    exact ⟨fun h => h.elim (fun h => h.elim (fun h => .inr (.inl h)) .inl) (fun h => .inr (.inr h)), fun h => h.elim (fun h => .inl (.inr h)) (fun h => h.elim (fun h => .inl (.inl h)) .inr)⟩
theorem dis_snoc {g : Sg} : ∀ {l : List Sg} {K K' : List Nat}, dis K K' l = true → (∀ b ∈ keys g.nh, b ∉ K ∧ ∀ g' ∈ l, b ∉ keys g'.nh) → (∀ b ∈ keys g.no, b ∉ K' ∧ ∀ g' ∈ l, b ∉ keys g'.no) → dis K K' (l ++ [g]) = true
  | [], K, K', h, h1, h2 => by
    simp only [List.nil_append, dis, Bool.and_true, Bool.and_eq_true, List.all_eq_true, Bool.not_eq_true']
    refine ⟨fun b hb => ?_, fun b hb => ?_⟩
    · cases hm : memN b K with
      | false => rfl
      | true => exact absurd (memN_iff.1 hm) (h1 b hb).1
    · cases hm : memN b K' with
      | false => rfl
      | true => exact absurd (memN_iff.1 hm) (h2 b hb).1
  | g' :: q, K, K', h, h1, h2 => by
    simp only [dis, Bool.and_eq_true] at h
    simp only [List.cons_append, dis, Bool.and_eq_true]
    refine ⟨h.1, dis_snoc h.2 (fun b hb => ⟨fun hm => ?_, fun g2 hg2 => (h1 b hb).2 g2 (List.mem_cons_of_mem _ hg2)⟩) (fun b hb => ⟨fun hm => ?_, fun g2 hg2 => (h2 b hb).2 g2 (List.mem_cons_of_mem _ hg2)⟩)⟩
    · rcases List.mem_append.1 hm with hm | hm
      · exact (h1 b hb).2 g' (by simp) hm
      · exact (h1 b hb).1 hm
    · rcases List.mem_append.1 hm with hm | hm
      · exact (h2 b hb).2 g' (by simp) hm
      · exact (h2 b hb).1 hm
/-- g' does not speak of what g makes. -/
def Apt (g g' : Sg) : Prop := (∀ b ∈ keys g.nh, sgBox b g' = false) ∧ ∀ b ∈ keys g.no, sgRow b g' = false
def sgOf (g : SgK) (run : Bool) : Sg := ⟨g.res.av, mapH g.nh, mapO g.no, run⟩
theorem mentB_spec {b : Nat} : ∀ {nh : List (Nat × KBlk)}, mentB b nh = false → memN b (keys (mapH nh)) = false ∧ (mapH nh).any (fun p => p.2.cells.any fun c => c.box b) = false
  | [], _ => ⟨rfl, rfl⟩
  | (k, B) :: q, h => by
    simp only [mentB] at h
    split at h
    · cases h
    · rename_i hk
      split at h
      · cases h
      · rename_i hc
        obtain ⟨h1, h2⟩ := mentB_spec h
        refine ⟨by simp only [mapH, keys, memN, nbeq, hk, h1, Bool.or_self], ?_⟩
        simp only [mapH, List.any_cons, h2, Bool.or_false]; exact boxesL_any hc
theorem mentRB_spec {b : Nat} : ∀ {nh : List (Nat × KBlk)}, mentRB b nh = false → (mapH nh).any (fun p => p.2.cells.any fun c => c.hasRow b) = false
  | [], _ => rfl
  | (k, B) :: q, h => by
    simp only [mentRB] at h
    split at h
    · cases h
    · rename_i hc
      simp only [mapH, List.any_cons, mentRB_spec h, Bool.or_false]; exact hasRowL_any hc
theorem mentRO_spec {b : Nat} : ∀ {no : List (Nat × KRow)}, mentRO b no = false → memN b (keys (mapO no)) = false
  | [], _ => rfl
  | (k, B) :: q, h => by
    simp only [mentRO] at h
    split at h
    · cases h
    · rename_i hk
      simp only [mapO, keys, memN, nbeq, hk, mentRO_spec h, Bool.or_self]
theorem apartH_spec {g' : SgK} {run : Bool} : ∀ {nh : List (Nat × KBlk)}, apartH g' nh = true → ∀ b ∈ keys (mapH nh), sgBox b (sgOf g' run) = false
  | [], _, b, hb => by cases hb
  | (k, B) :: q, h, b, hb => by
    simp only [apartH] at h
    split at h
    · cases h
    · rename_i h1
      split at h
      · cases h
      · rename_i h2
        rcases List.mem_cons.1 hb with e | hb
        · subst e
          obtain ⟨e1, e2⟩ := mentB_spec h2
          simp only [sgBox, sgOf, boxes_av, h1, e1, e2, Bool.or_self]
        · exact apartH_spec h b hb
theorem apartO_spec {g' : SgK} {run : Bool} : ∀ {no : List (Nat × KRow)}, apartO g' no = true → ∀ b ∈ keys (mapO no), sgRow b (sgOf g' run) = false
  | [], _, b, hb => by cases hb
  | (k, B) :: q, h, b, hb => by
    simp only [apartO] at h
    split at h
    · cases h
    · rename_i h1
      split at h
      · cases h
      · rename_i h2
        split at h
        · cases h
        · rename_i h3
          rcases List.mem_cons.1 hb with e | hb
          · subst e
            simp only [sgRow, sgOf, hasRow_av, h1, mentRO_spec h3, mentRB_spec h2, Bool.or_self]
          · exact apartO_spec h b hb
theorem apartG_spec {g g' : SgK} {x y : Bool} (h : apartG g g' = true) : Apt (sgOf g x) (sgOf g' y) := by
  unfold apartG at h
  split at h
  · rename_i h1; exact ⟨apartH_spec h1, apartO_spec h⟩
  · cases h
theorem okNew_spec {ops : List Oper} {i : Nat} {g : SgK} : ∀ {Rs : List (Nat × SgK)}, okNew ops i g Rs = true → ∀ p ∈ Rs, apartG g p.2 = true ∧ (apartG p.2 g = true ∨ ((depsK ops []).getD i 0).testBit p.1 = true)
  | [], _, p, hp => by cases hp
  | (j, g') :: q, h, p, hp => by
    simp only [okNew] at h
    split at h
    · rename_i h1
      split at h
      · rename_i h2
        rcases List.mem_cons.1 hp with e | hp
        · subst e; exact ⟨h1, .inl h2⟩
        · exact okNew_spec h p hp
      · split at h
        · rename_i h3
          rcases List.mem_cons.1 hp with e | hp
          · subst e; exact ⟨h1, .inr h3⟩
          · exact okNew_spec h p hp
        · cases h
    · cases h
theorem tmpsK_mem {t : Nat} : ∀ {l : List Operand}, t ∈ tmpsK l → t ∈ l.filterMap tmpOf
  | [], h => by cases h
  | .tmp u :: q, h => by
    simp only [tmpsK, List.mem_cons] at h
    simp only [List.filterMap_cons, tmpOf, List.mem_cons]
    exact h.imp id tmpsK_mem
  | .const v :: q, h => by simp only [List.filterMap_cons, tmpOf]; exact tmpsK_mem h
  | .func v :: q, h => by simp only [List.filterMap_cons, tmpOf]; exact tmpsK_mem h
  | .global v :: q, h => by simp only [List.filterMap_cons, tmpOf]; exact tmpsK_mem h
theorem namesK_mem {ops : Array Oper} {o : Oper} {t : Nat} (h : t ∈ namesK ops.toList o) : t ∈ names ops o := by
  unfold namesK at h
  unfold names gdst
  split at h
  · rename_i j w hg
    rw [hg]
    split at h
    · rename_i o' ho
      rw [nth_eq, Array.getElem?_toList] at ho
      split at h
      · rename_i u hu
        rcases List.mem_cons.1 h with e | h
        · subst e
          simp [dstAt, ho, hu]
        · exact List.mem_append_left _ (tmpsK_mem h)
      · exact List.mem_append_left _ (tmpsK_mem h)
    · exact List.mem_append_left _ (tmpsK_mem h)
  · exact List.mem_append_left _ (tmpsK_mem h)
theorem restrK_look {T : List (Nat × KV)} {t : Nat} {c : KV} : ∀ {l : List Nat}, lk (restrK T l) t = some c → t ∈ l ∧ lk T t = some c
  | [], h => by cases h
  | u :: q, h => by
    simp only [restrK] at h
    split at h
    · rename_i v hv
      rw [lk_cons] at h
      by_cases e : u = t
      · subst e; rw [if_pos rfl] at h; cases h; exact ⟨by simp, hv⟩
      · rw [if_neg e] at h
        obtain ⟨h1, h2⟩ := restrK_look h
        exact ⟨List.mem_cons_of_mem _ h1, h2⟩
    · obtain ⟨h1, h2⟩ := restrK_look h
      exact ⟨List.mem_cons_of_mem _ h1, h2⟩
theorem Free_sub {o : Oper} {S S' : St} {res : AV} {nh : List (Nat × Blk)} {no : List (Nat × Row)} (h : Free P o S' res nh no) (hs : Sub S S') : Free P o S res nh no :=
  fun r base M yl a w hr K Q hK => h r base M yl a w (hr.sub hs) K Q hK

/-- A segment as far as it has been evaluated. -/
structure SegInv (P : Program) (ops : Array Oper) (B : List Nat) (m : Nat) (L : List Sg) (S0 S : KSt) (Rs : List (Nat × SgK)) : Prop where
  leq : Leq (segS ops (fun _ => true) m L S0.st) S.st
  obl : ∀ (p : Nat) (g : Sg), L[p]? = some g → Obl P ops B m L S0.st (m + p) g
  dis : Aw.dis (keys S0.st.H) (keys S0.st.O) L = true
  fresh : ∀ (p : Nat) (g : Sg), L[p]? = some g → freshB S0.st g.nh g.no = true
  apt : ∀ (p : Nat) (g : Sg) (q : Nat) (g' : Sg), L[p]? = some g → L[q]? = some g' → p = q ∨ (B.getD (m + q) 0).testBit (m + p) = true ∨ Apt g g'
  rs : ∀ (p : Nat) (g : Sg), L[p]? = some g → ∃ gk run, (m + p, gk) ∈ Rs ∧ g = sgOf gk run
theorem segInv_nil (ops : Array Oper) (B : List Nat) (m : Nat) (S : KSt) : SegInv P ops B m [] S S [] :=
  ⟨Leq.refl _, fun p g h => by simp at h, rfl, fun p g h => by simp at h, fun p g q g' h => by simp at h, fun p g h => by simp at h⟩
theorem SegInv.leq' {ops : Array Oper} {B : List Nat} {m : Nat} {L : List Sg} {S0 S S' : KSt} {Rs : List (Nat × SgK)} (h : SegInv P ops B m L S0 S Rs) (k : Leq S.st S'.st) : SegInv P ops B m L S0 S' Rs := { h with leq := h.leq.trans k }
theorem getElem?_snoc {α : Type u} {l : List α} {a x : α} {p : Nat} (h : (l ++ [a])[p]? = some x) : l[p]? = some x ∨ (p = l.length ∧ x = a) := by
  by_cases hp : p < l.length
  · rw [List.getElem?_append_left hp] at h; exact .inl h
  · rw [List.getElem?_append_right (by omega)] at h
    have : p - l.length = 0 := by
      cases hh : p - l.length with
      | zero => rfl
      | succ n => rw [hh] at h; simp at h
    rw [this] at h
    simp only [List.getElem?_cons_zero, Option.some.injEq] at h
    exact .inr ⟨by omega, h.symm⟩
theorem preS_snoc {ops : Array Oper} {B : List Nat} (hB : depOk ops B = true) {m i : Nat} {L : List Sg} {g : Sg} {S : St} {o : Oper} (hi : i < ops.size) (h : i ≤ m + L.length) : preS ops B m (L ++ [g]) S i o = preS ops B m L S i o := by
  unfold preS
  rw [segS_snoc]
  have : (B.getD i 0).testBit (m + L.length) = false := by
    cases hh : (B.getD i 0).testBit (m + L.length) with
    | false => rfl
    | true => have := (depOk_sound hB i hi _ hh).lt hB; omega
  rw [this]; rfl
/-- One operation more. -/
theorem SegInv.snoc {ops : Array Oper} (hB : depOk ops (depsK ops.toList []) = true) {m : Nat} {L : List Sg} {S0 S : KSt} {Rs : List (Nat × SgK)} (h : SegInv P ops (depsK ops.toList []) m L S0 S Rs) {o : Oper} (ho : ops[m + L.length]? = some o) {gk : SgK} {run : Bool}
    (hg : guardB ops S.st.T o = some run) (hd : dstK S o.dst = true) (hf1 : freshKH S gk.nh = true) (hf2 : freshKO S gk.no = true) (hf3 : freshKH S0 gk.nh = true) (hf4 : freshKO S0 gk.no = true) (hok : okNew ops.toList (m + L.length) gk Rs = true)
    (hrun : run = true → Free P o (KSt.st ⟨S.n, restrK S.T (namesK ops.toList o), S0.H, S0.O, S.low⟩) gk.res.av (mapH gk.nh) (mapO gk.no)) (hskip : run = false → gk = ⟨.tup [], [], []⟩)
    {cnt : Nat} (hcnt : L.length < cnt) (hap : apartB ops (depsK ops.toList []) m cnt = true) :
    SegInv P ops (depsK ops.toList []) m (L ++ [sgOf gk run]) S0 (S.add o.dst gk.res gk.nh gk.no) ((m + L.length, gk) :: Rs) := by
  have hi : m + L.length < ops.size := (Array.getElem?_eq_some_iff.1 ho).1
  have hdst : dstAt ops (m + L.length) = o.dst := by simp [dstAt, ho]
  have hn : S.n = S0.n := by have := h.leq.n; rw [segS_n] at this; exact this
  have oblOld : ∀ (p : Nat) (g : Sg), L[p]? = some g → Obl P ops (depsK ops.toList []) m (L ++ [sgOf gk run]) S0.st (m + p) g := fun p g hp => by
    obtain ⟨o', h1, h2, h3, h4, h5⟩ := h.obl p g hp
    have hpl := (List.getElem?_eq_some_iff.1 hp).1
    have hpi := (Array.getElem?_eq_some_iff.1 h1).1
    refine ⟨o', h1, ?_, h3, ?_, h5⟩
    · rw [preS_snoc hB hpi (by omega)]; exact h2
    · rw [preS_snoc hB hpi (by omega)]; exact h4
  have hnotH : ∀ b ∈ keys (mapH gk.nh), b ∉ keys S0.st.H ∧ ∀ g' ∈ L, b ∉ keys g'.nh := fun b hb => by
    have h1 := freshH_not hf1 b hb
    have h2 : b ∉ keys (segS ops (fun _ => true) m L S0.st).H := fun hh => by
      obtain ⟨v, hv⟩ := key_look hh
      rw [← h.leq.H b] at hv
      exact h1 (look_key hv)
    rw [segS_keysH] at h2
    exact ⟨fun hh => h2 (.inl hh), fun g' hg' hh => h2 (.inr ⟨g', hg', hh⟩)⟩
  have hnotO : ∀ b ∈ keys (mapO gk.no), b ∉ keys S0.st.O ∧ ∀ g' ∈ L, b ∉ keys g'.no := fun b hb => by
    have h1 := freshO_not hf2 b hb
    have h2 : b ∉ keys (segS ops (fun _ => true) m L S0.st).O := fun hh => by
      obtain ⟨v, hv⟩ := key_look hh
      rw [← h.leq.O b] at hv
      exact h1 (look_key hv)
    rw [segS_keysO] at h2
    exact ⟨fun hh => h2 (.inl hh), fun g' hg' hh => h2 (.inr ⟨g', hg', hh⟩)⟩
  -- what the operation looks at is what it waits for
  have hlook : ∀ t, t ∈ names ops o → look (segS ops (fun j => ((depsK ops.toList []).getD (m + L.length) 0).testBit j) m L S0.st).T t = look S.st.T t := fun t ht => by
    rw [h.leq.T t]
    refine segS_look L m _ _ rfl (fun j g hj hdj => ?_)
    have hjl := (List.getElem?_eq_some_iff.1 hj).1
    simp only [apartB, List.all_eq_true, List.mem_range] at hap
    have := hap L.length hcnt j (by omega)
    simp only [Bool.or_eq_true, beq_iff_eq] at this
    rcases this with ((h1 | h1) | h1) | h1
    · omega
    · rw [ho, hdj] at h1
      simp only [Bool.not_eq_true', Bool.or_eq_false_iff] at h1
      rw [memN_iff.2 ht] at h1; cases h1.1
    · exact h1
    · have := (depOk_sound hB (m + j) (by omega) _ h1).lt hB; omega
  have hpre : ∀ t, look (preS ops (depsK ops.toList []) m L S0.st (m + L.length) o).T t = if memN t (names ops o) then look S.st.T t else none := fun t => by
    unfold preS restr
    simp only
    rw [look_filter (f := fun k => memN k (names ops o))]
    cases hm : memN t (names ops o) with
    | false => rfl
    | true => simp only [if_true]; exact hlook t (memN_iff.1 hm)
  have oblNew : Obl P ops (depsK ops.toList []) m (L ++ [sgOf gk run]) S0.st (m + L.length) (sgOf gk run) := by
    refine ⟨o, ho, ?_, ?_, fun hr => ?_, fun hr => ?_⟩
    · rw [preS_snoc hB hi (Nat.le_refl _), show (sgOf gk run).run = run from rfl, ← hg]
      unfold guardB
      cases hgd : o.guard with
      | none => rfl
      | some q =>
        obtain ⟨j, want⟩ := q
        simp only
        cases hb : (ops[j]?).bind (·.dst) with
        | none => rfl
        | some t =>
          simp only
          have ht : memN t (names ops o) = true := by
            rw [memN_iff]
            refine List.mem_append_right _ ?_
            simp only [gdst, hgd, dstAt]
            rw [hb]; simp
          rw [hpre t, if_pos ht]
    · cases hdd : o.dst with
      | none => rfl
      | some t =>
        rw [hdd] at hd
        have : Nat.blt t S.n = true := hd
        rw [hn] at this
        exact this
    · rw [preS_snoc hB hi (Nat.le_refl _)]
      refine Free_sub (hrun hr) ⟨?_, fun t c ht => ?_, fun b B' hb => ?_, fun b B' hb => ?_⟩
      · show S.n = _
        rw [hn]
        unfold preS restr
        simp only [segS_n]; rfl
      · rw [st_look] at ht
        cases hh : lk (restrK S.T (namesK ops.toList o)) t with
        | none => simp only [hh] at ht; cases ht
        | some v =>
          simp only [hh, Option.map_some, Option.some.injEq] at ht
          obtain ⟨h1, h2⟩ := restrK_look hh
          rw [hpre t, if_pos (memN_iff.2 (namesK_mem h1)), st_look, h2, ← ht]; rfl
      · have := (segS_lookH (ops := ops) (X := fun _ => false) (Y := fun j => ((depsK ops.toList []).getD (m + L.length) 0).testBit j) L m S0.st S0.st _ _ (fun _ _ x => x) (fun _ _ x => x) (fun _ x => x) (fun _ x => x) h.dis (fun _ x => by cases x)).1 b B'
        have e0 : segS ops (fun _ => false) m L S0.st = S0.st := by
          have : ∀ (l : List Sg) (i : Nat) (S : St), segS ops (fun _ => false) i l S = S := by
            intro l
            induction l with
            | nil => intro i S; rfl
            | cons g q ih => intro i S; simp only [segS, Bool.false_eq_true, if_false]; exact ih _ _
          exact this _ _ _
        rw [e0] at this
        exact this hb
      · have := (segS_lookH (ops := ops) (X := fun _ => false) (Y := fun j => ((depsK ops.toList []).getD (m + L.length) 0).testBit j) L m S0.st S0.st _ _ (fun _ _ x => x) (fun _ _ x => x) (fun _ x => x) (fun _ x => x) h.dis (fun _ x => by cases x)).2 b B'
        have e0 : segS ops (fun _ => false) m L S0.st = S0.st := by
          have : ∀ (l : List Sg) (i : Nat) (S : St), segS ops (fun _ => false) i l S = S := by
            intro l
            induction l with
            | nil => intro i S; rfl
            | cons g q ih => intro i S; simp only [segS, Bool.false_eq_true, if_false]; exact ih _ _
          exact this _ _ _
        rw [e0] at this
        exact this hb
    · rw [hskip hr]; exact ⟨rfl, rfl, rfl⟩
  have apt2 : ∀ (p : Nat) (g : Sg), L[p]? = some g → Apt (sgOf gk run) g ∧ (((depsK ops.toList []).getD (m + L.length) 0).testBit (m + p) = true ∨ Apt g (sgOf gk run)) := fun p g hp => by
    obtain ⟨g2, run2, h1, rfl⟩ := h.rs p g hp
    obtain ⟨h2, h3⟩ := okNew_spec hok _ h1
    exact ⟨apartG_spec h2, h3.elim (fun x => .inr (apartG_spec x)) .inl⟩
  refine ⟨?_, fun p g hp => ?_, ?_, fun p g hp => ?_, fun p g q g' hp hq => ?_, fun p g hp => ?_⟩
  · rw [segS_snoc, if_pos rfl, hdst, KSt.add_st]
    exact h.leq.add _ _ _ _
  · rcases getElem?_snoc hp with hp | ⟨rfl, rfl⟩
    · exact oblOld p g hp
    · exact oblNew
  · exact dis_snoc h.dis hnotH hnotO
  · rcases getElem?_snoc hp with hp | ⟨rfl, rfl⟩
    · exact h.fresh p g hp
    · exact freshKB_spec hf3 hf4
  · rcases getElem?_snoc hp with hp | ⟨rfl, rfl⟩ <;> rcases getElem?_snoc hq with hq | ⟨rfl, rfl⟩
    · exact h.apt p g q g' hp hq
    · exact (apt2 p g hp).2.elim (fun x => .inr (.inl x)) (fun x => .inr (.inr x))
    · exact .inr (.inr (apt2 q g' hq).1)
    · exact .inl rfl
  · rcases getElem?_snoc hp with hp | ⟨rfl, rfl⟩
    · obtain ⟨g2, run2, h1, h2⟩ := h.rs p g hp
      exact ⟨g2, run2, List.mem_cons_of_mem _ h1, h2⟩
    · exact ⟨gk, run, by simp, rfl⟩
theorem AWN_leq {ops : Array Oper} {m : Nat} {S S' : St} {s : E.σ} {Q : Exit → St → E.σ → Prop} (hl : Leq S S') (h : AWN E base r ops m S' s Q) : AWN E base r ops m S s Q := fun M a w hc fuel listed hf hp =>
  wpAnyIn_mono' (fun e a' w' k => k.later (hl.ext M w)) _ _ _ _ (h M a w (hc.leq hl) fuel listed hf hp)
theorem SegInv.done {ops : Array Oper} {B : List Nat} (hB : depOk ops B = true) {m : Nat} {L : List Sg} {S0 S : KSt} {Rs : List (Nat × SgK)} (h : SegInv P ops B m L S0 S Rs) (hap : apartB ops B m L.length = true) (hla : laterB ops B m L.length = true) (hsz : Nat.ble (m + L.length) ops.size = true)
    {s : E.σ} {Q : Exit → St → E.σ → Prop} (k : AWN E base r ops (m + L.length) S.st s Q) : AWN E base r ops m S0.st s Q := by
  refine AWN_seg B L hB hsz hap hla h.dis ?_ ?_ ?_
  · simp only [freshL, List.all_eq_true, List.mem_range]
    intro i hi
    obtain ⟨g, hg⟩ : ∃ g, L[i]? = some g := ⟨L[i], by simp [hi]⟩
    rw [hg]
    simp only [Bool.and_eq_true, List.all_eq_true, List.mem_range, Bool.or_eq_true, beq_iff_eq]
    refine ⟨h.fresh i g hg, fun j hj => ?_⟩
    obtain ⟨g', hg'⟩ : ∃ g, L[j]? = some g := ⟨L[j], by simp [hj]⟩
    rw [hg']
    rcases h.apt i g j g' hg hg' with e | e | e
    · exact .inl (.inl e)
    · exact .inl (.inr e)
    · refine .inr ?_
      simp only [Bool.and_eq_true, List.all_eq_true, Bool.not_eq_true']
      exact e
  · have : ∀ (l : List Sg) (p : Nat), (∀ (q : Nat) (g : Sg), l[q]? = some g → Obl P ops B m L S0.st (m + p + q) g) → Obls P ops B m L S0.st (m + p) l := by
      intro l
      induction l with
      | nil => intro p _; trivial
      | cons g q ih =>
        intro p hh
        refine ⟨by simpa using hh 0 g rfl, ?_⟩
        have := ih (p + 1) (fun q' g' hq => by have := hh (q' + 1) g' (by simpa using hq); rwa [show m + p + (q' + 1) = m + (p + 1) + q' from by omega] at this)
        rwa [show m + (p + 1) = m + p + 1 from by omega] at this
    simpa using this L 0 (fun q g hq => by simpa using h.obl q g hq)
  · exact AWN_leq h.leq k
theorem segsOk_end {ops : Array Oper} {B : List Nat} : ∀ {rest : List Oper} {m c : Nat}, segsOk ops B rest m c = true → ∃ cnt, c ≤ cnt ∧ apartB ops B m cnt = true
  | [], m, c, h => by simp only [segsOk, Bool.and_eq_true] at h; exact ⟨c, Nat.le_refl _, h.1.1⟩
  | o :: q, m, c, h => by
    simp only [segsOk] at h
    split at h
    · simp only [Bool.and_eq_true] at h; exact ⟨c, Nat.le_refl _, h.1.1.1.1.1⟩
    · obtain ⟨cnt, h1, h2⟩ := segsOk_end h; exact ⟨cnt, by omega, h2⟩
theorem isBarS_val {ops : List Oper} {o : Oper} (h : isBarS ops o = true) : ¬ isVal o := by
  rintro ⟨f, args, ts, hop⟩
  simp only [isBarS, hop, isApp, isCopy] at h
  cases h
theorem guard_leq {ops : Array Oper} {S : KSt} {o : Oper} {b : Bool} (h : guardB ops S.st.T o = some b) : guardB ops S.st.T o = some b := h
theorem drawK_spec {ops : Array Oper} {pz : List Nat} {Q : Exit → St → E.σ → Prop} {K : KSt → E.σ → Prop} (hT : ∀ t i, tb t = some i → TIOk P t i) (hB : depOk ops (depsK ops.toList []) = true) (hQ : ∀ S s, K S s → Q .normal S.st s) :
    ∀ (rest : List Oper) (i m : Nat) (L : List Sg) (S0 S : KSt) (Rs : List (Nat × SgK)) (s : E.σ), (∀ (j : Nat) (o : Oper), rest[j]? = some o → ops[i + j]? = some o) → i + rest.length = ops.size → i = m + L.length → segsOk ops (depsK ops.toList []) rest m L.length = true →
    SegInv P ops (depsK ops.toList []) m L S0 S Rs → drawK (primK P E base r post) tb pz ops.toList rest i S0 Rs S s K → AWN E base r ops m S0.st s Q
  | [], i, m, L, S0, S, Rs, s, _, hsz, him, hok, hinv, h => by
    simp only [segsOk, Bool.and_eq_true] at hok
    refine hinv.done hB hok.1.1 hok.1.2 hok.2 (AWN_done ?_ (hQ _ _ h))
    simp only [List.length_nil] at hsz; omega
  | o :: rest, i, m, L, S0, S, Rs, s, hl, hsz, him, hok, hinv, h => by
    have ho : ops[i]? = some o := by simpa using hl 0 o rfl
    have hrest : ∀ (j : Nat) (o : Oper), rest[j]? = some o → ops[i + 1 + j]? = some o := fun j o h => by
      have := hl (j + 1) o (by simpa using h)
      rwa [show i + (j + 1) = i + 1 + j from by omega] at this
    have hsz' : i + 1 + rest.length = ops.size := by rw [List.length_cons] at hsz; omega
    unfold drawK at h
    simp only [segsOk] at hok
    split at h
    · rename_i hb
      rw [hb] at hok
      simp only [Bool.and_eq_true] at hok
      obtain ⟨⟨⟨⟨⟨o1, o2⟩, o3⟩, o4⟩, o5⟩, o6⟩ := hok
      obtain ⟨S', hleq, h⟩ := wantK_spec h
      have hinv := hinv.leq' hleq
      have o5' := Nat.le_of_ble_eq_true o5
      refine hinv.done hB o1 o2 (by rw [Nat.ble_eq]; omega) ?_
      rw [← him] at o3 o4 o6 ⊢
      rcases h with ⟨hg, h⟩ | ⟨hg, h⟩
      · replace h := kif_spec h; obtain ⟨_, h⟩ := h
        obtain ⟨S2, s2, hbar, h⟩ := barK_bar hT (isBarS_val hb) h
        refine AWN_bar _ hB o4 ho hg hbar ?_
        exact drawK_spec hT hB hQ rest (i + 1) (i + 1) [] S2 S2 [] s2 hrest hsz' rfl o6 (segInv_nil _ _ _ _) h
      · replace h := kif_spec h; obtain ⟨hd, h⟩ := h
        have one := SegInv.snoc (P := P) hB (segInv_nil ops (depsK ops.toList []) i S') (o := o) (by simpa using ho) (gk := ⟨.tup [], [], []⟩) (run := false) hg hd rfl rfl rfl rfl rfl (fun h => by cases h) (fun _ => rfl) (cnt := 1) (by simp) o3
        refine one.done hB o3 o4 (by rw [Nat.ble_eq]; simp only [List.nil_append, List.length_cons, List.length_nil]; omega) ?_
        exact drawK_spec hT hB hQ rest (i + 1) (i + 1) [] _ _ [] s hrest hsz' rfl o6 (segInv_nil _ _ _ _) h
    · rename_i hb
      rw [hb] at hok
      simp only at hok
      obtain ⟨S', hleq, h⟩ := wantK_spec h
      have hinv := hinv.leq' hleq
      obtain ⟨cnt, hc1, hc2⟩ := segsOk_end hok
      have step : ∀ (gk : SgK) (run : Bool), guardB ops S'.st.T o = some run → dstK S' o.dst = true → freshKH S' gk.nh = true → freshKO S' gk.no = true → freshKH S0 gk.nh = true → freshKO S0 gk.no = true → okNew ops.toList i gk Rs = true →
          (run = true → Free P o (KSt.st ⟨S'.n, restrK S'.T (namesK ops.toList o), S0.H, S0.O, S'.low⟩) gk.res.av (mapH gk.nh) (mapO gk.no)) → (run = false → gk = ⟨.tup [], [], []⟩) →
          drawK (primK P E base r post) tb pz ops.toList rest (i + 1) S0 ((i, gk) :: Rs) (S'.add o.dst gk.res gk.nh gk.no) s K → AWN E base r ops m S0.st s Q := fun gk run hg hd f1 f2 f3 f4 f5 hr hs h => by
        subst him
        have one := SegInv.snoc hB hinv ho hg hd f1 f2 f3 f4 f5 hr hs (cnt := cnt) (by omega) hc2
        exact drawK_spec hT hB hQ rest (m + L.length + 1) m (L ++ [sgOf gk run]) S0 _ _ s hrest hsz' (by simp; omega) (by simpa using hok) one h
      rcases h with ⟨hg, h⟩ | ⟨hg, h⟩
      · obtain ⟨res, nh, no, hf, h⟩ := freeK_spec hT h
        replace h := kif_spec h; obtain ⟨h1, h⟩ := h
        simp only [Bool.and_eq_true] at h1
        obtain ⟨⟨⟨⟨⟨f1, f2⟩, f3⟩, f4⟩, f5⟩, f6⟩ := h1
        exact step ⟨res, nh, no⟩ true hg f5 f1 f2 f3 f4 f6 (fun _ => hf) (fun h => by cases h) h
      · replace h := kif_spec h; obtain ⟨h1, h⟩ := h
        simp only [Bool.and_eq_true] at h1
        exact step ⟨.tup [], [], []⟩ false hg h1.1 rfl rfl rfl rfl h1.2 (fun h => by cases h) (fun _ => rfl) h
end Go.Proofs.Ytnekemldcjegaaa.Aw

/- The logic of abstract walks, part M11: regions that draw, all orders gone through. -/
namespace Go.Proofs.Ytnekemldcjegaaa.Aw
open Go Go.RowKit
set_option linter.unusedVariables false
set_option linter.unusedSimpArgs false
universe u
variable {P : Program} {E : Env P} {base : Nat} {r : Option Nat} {post : KV → List KRow → Prop} {tb : Nat → Option TI}

theorem bindsK_spec (e : Edge) : bindsK e.ground = Region.binds .any e := by
  unfold bindsK Region.binds
  cases e.ground <;> rfl
theorem undone_iff {U : List (Nat × Oper)} {j : Nat} : undone U j = true ↔ ∃ o, (j, o) ∈ U := by
  induction U with
  | nil => simp [undone]
  | cons p q ih =>
    obtain ⟨i, o⟩ := p
    unfold undone
    split
    · rename_i h
      have := Nat.eq_of_beq_eq_true h
      subst this
      exact ⟨fun _ => ⟨o, by simp⟩, fun _ => rfl⟩
    · rename_i h
      rw [ih]
      have hne : ¬ i = j := fun e => by subst e; rw [Nat.beq_refl] at h; cases h
      constructor
      · rintro ⟨o', ho'⟩; exact ⟨o', List.mem_cons_of_mem _ ho'⟩
      · rintro ⟨o', ho'⟩
        rcases List.mem_cons.1 ho' with e | e
        · cases e; exact absurd rfl hne
        · exact ⟨o', e⟩
theorem freeE_spec {U : List (Nat × Oper)} : ∀ {l : List Edge}, freeE U l = true ↔ ∀ e ∈ l, Region.binds .any e = true → undone U e.on = false
  | [] => by simp [freeE]
  | e :: q => by
    have ih := freeE_spec (U := U) (l := q)
    unfold freeE
    rw [bindsK_spec]
    split
    · rename_i hb
      split
      · rename_i hu
        refine ⟨fun h => (by cases h), fun h => ?_⟩
        have := h e (by simp) hb
        rw [hu] at this; cases this
      · rename_i hu
        rw [ih]
        exact ⟨fun h e' he' hb' => (List.mem_cons.1 he').elim (fun q => q ▸ hu) (fun q => h e' q hb'), fun h e' he' => h e' (List.mem_cons_of_mem _ he')⟩
    · rename_i hb
      rw [ih]
      exact ⟨fun h e' he' hb' => (List.mem_cons.1 he').elim (fun q => by rw [q] at hb'; rw [hb'] at hb; cases hb) (fun q => h e' q hb'), fun h e' he' => h e' (List.mem_cons_of_mem _ he')⟩
theorem anyR_false {U : List (Nat × Oper)} : ∀ {l : List (Nat × Oper)}, anyR U l = false → ∀ p ∈ l, freeE U p.2.after.toList = false
  | [], _, p, hp => by cases hp
  | (i, o) :: q, h, p, hp => by
    unfold anyR at h
    split at h
    · cases h
    · rename_i hf
      rcases List.mem_cons.1 hp with e | e
      · rw [e]; exact hf
      · exact anyR_false h p e
theorem allR_spec {f : Nat → Oper → Prop} {U : List (Nat × Oper)} : ∀ {l : List (Nat × Oper)}, allR (primK P E base r post) f U l → ∀ p ∈ l, freeE U p.2.after.toList = true → f p.1 p.2
  | [], h, p, hp, _ => by cases hp
  | (i, o) :: q, h, p, hp, hf => by
    unfold allR at h
    split at h
    · rename_i h1
      split at h
      · obtain ⟨h2, h3⟩ := (h : f i o ∧ allR (primK P E base r post) f U q)
        rcases List.mem_cons.1 hp with e | e
        · rw [e]; exact h2
        · exact allR_spec h3 p e hf
      · rename_i hn
        rcases List.mem_cons.1 hp with e | e
        · rw [e]; exact h
        · rw [anyR_false hn p e] at hf; cases hf
    · rename_i h1
      rcases List.mem_cons.1 hp with e | e
      · rw [e] at hf; rw [hf] at h1; cases h1
      · exact allR_spec h p e hf
theorem allR_some {f : Nat → Oper → Prop} {U : List (Nat × Oper)} : ∀ {l : List (Nat × Oper)}, allR (primK P E base r post) f U l → ∃ p ∈ l, freeE U p.2.after.toList = true
  | [], h => h.elim
  | (i, o) :: q, h => by
    unfold allR at h
    split at h
    · rename_i h1; exact ⟨(i, o), by simp, h1⟩
    · obtain ⟨p, hp, hf⟩ := allR_some h; exact ⟨p, List.mem_cons_of_mem _ hp, hf⟩
/-- What U lists is undone. -/
def AWX (E : Env P) (base : Nat) (r : Option Nat) (ops : Array Oper) (U : List (Nat × Oper)) (S : St) (s : E.σ) (Q : Exit → St → E.σ → Prop) : Prop :=
  ∀ M a w, Cfg E base S s M a w → ∀ (fuel : Nat) (listed : Array Bool), U.length ≤ fuel → Pre ops listed (fun j => !undone U j) →
    wpAnyIn (FW r) 0 P .any ops (Post E base Q S M w) fuel listed a w
theorem lessU_undone {i j : Nat} : ∀ {U : List (Nat × Oper)}, (U.map Prod.fst).Nodup → undone (lessU i U) j = (undone U j && !(j == i))
  | [], _ => rfl
  | (k, o) :: q, h => by
    have ih := lessU_undone (i := i) (j := j) (U := q) (List.nodup_cons.1 h).2
    have hk := (List.nodup_cons.1 h).1
    unfold lessU
    split
    · rename_i e
      have := Nat.eq_of_beq_eq_true e
      subst this
      by_cases hj : j = k
      · subst hj
        simp only [beq_self_eq_true, Bool.not_true, Bool.and_false]
        cases hu : undone q j with
        | false => rfl
        | true => obtain ⟨o', ho'⟩ := undone_iff.1 hu; exact absurd (List.mem_map.2 ⟨_, ho', rfl⟩) hk
      · have e1 : (j == k) = false := by simp [hj]
        have e2 : Nat.beq k j = false := by cases hb : Nat.beq k j with
          | false => rfl
          | true => exact absurd (Nat.eq_of_beq_eq_true hb).symm hj
        simp [undone, e1, e2]
    · rename_i e
      simp only [undone]
      split
      · rename_i e2
        have := Nat.eq_of_beq_eq_true e2
        subst this
        have : (k == i) = false := by
          cases hb : (k == i) with
          | false => rfl
          | true => rw [eq_of_beq hb, Nat.beq_refl] at e; cases e
        simp [this]
      · exact ih
theorem lessU_sub {i : Nat} : ∀ {U : List (Nat × Oper)} {p : Nat × Oper}, p ∈ lessU i U → p ∈ U
  | [], p, h => by cases h
  | (k, o) :: q, p, h => by
    unfold lessU at h
    split at h
    · exact List.mem_cons_of_mem _ h
    · rcases List.mem_cons.1 h with e | e
      · rw [e]; simp
      · exact List.mem_cons_of_mem _ (lessU_sub e)
theorem lessU_len {i : Nat} : ∀ {U : List (Nat × Oper)}, undone U i = true → (lessU i U).length + 1 = U.length
  | [], h => by cases h
  | (k, o) :: q, h => by
    unfold undone at h
    unfold lessU
    split
    · simp
    · rename_i e
      rw [e] at h
      simp only at h
      simp [lessU_len h]
theorem lessU_nodup {i : Nat} : ∀ {U : List (Nat × Oper)}, (U.map Prod.fst).Nodup → ((lessU i U).map Prod.fst).Nodup
  | [], h => h
  | (k, o) :: q, h => by
    obtain ⟨h1, h2⟩ := List.nodup_cons.1 h
    unfold lessU
    split
    · exact h2
    · refine List.nodup_cons.2 ⟨fun hm => ?_, lessU_nodup h2⟩
      obtain ⟨p, hp, he⟩ := List.mem_map.1 hm
      exact h1 (List.mem_map.2 ⟨p, lessU_sub hp, he⟩)
theorem exK_spec {ops : Array Oper} {pz : List Nat} {Q : Exit → St → E.σ → Prop} {K : KSt → E.σ → Prop} (hT : ∀ t i, tb t = some i → TIOk P t i) (hQ : ∀ S s, K S s → Q .normal S.st s) :
    ∀ (n : Nat) (U : List (Nat × Oper)) (S : KSt) (s : E.σ), (∀ p ∈ U, ops[p.1]? = some p.2) → (U.map Prod.fst).Nodup → (∀ (i : Nat) (o : Oper), ops[i]? = some o → ∀ e ∈ o.after, e.on < ops.size) → exK (primK P E base r post) tb pz ops.toList n U S s K → AWX E base r ops U S.st s Q
  | 0, U, S, s, _, _, _, h => h.elim
  | n + 1, U, S, s, hU, hnd, hlt, h => by
    unfold exK at h
    cases U with
    | nil =>
      intro M a w hc fuel listed _ hp
      refine wpAnyIn_done ?_ ⟨S.st, s, M, hQ _ _ h, hc, Ext.refl _ _ _⟩ fuel
      refine List.eq_nil_iff_forall_not_mem.2 (fun i hi => ?_)
      have := (hp.ready.1 hi).1
      simp [undone] at this
    | cons p0 U0 =>
      obtain ⟨U, hUe⟩ : ∃ U, U = p0 :: U0 := ⟨_, rfl⟩
      simp only [← hUe] at h hU hnd ⊢
      intro M a w hc fuel listed hfuel hp
      have hsome := allR_some h
      obtain ⟨fuel, rfl⟩ : ∃ f, fuel = f + 1 := ⟨fuel - 1, by
        obtain ⟨p, hp', _⟩ := hsome
        have := List.length_pos_of_mem hp'
        omega⟩
      have hready : ∀ p ∈ U, freeE U p.2.after.toList = true → p.1 ∈ Region.ready .any ops listed := fun p hp' hf => hp.ready.2 ⟨by
          have : undone U p.1 = true := undone_iff.2 ⟨p.2, hp'⟩
          simp [this], p.2, hU p hp', fun e he hb => ⟨hlt _ _ (hU p hp') e he, by
          have := freeE_spec.1 hf e (by simpa using he) hb
          simp [this]⟩⟩
      refine ⟨fun h0 => ?_, fun i hi => ?_⟩
      · obtain ⟨p, hp', hf⟩ := hsome
        have := hready p hp' hf
        rw [h0] at this; cases this
      obtain ⟨hXi, o, ho, hdeps⟩ := hp.ready.1 hi
      have hun : undone U i = true := by simpa using hXi
      obtain ⟨o', ho'⟩ := undone_iff.1 hun
      have heq := hU _ ho'
      simp only at heq
      rw [ho] at heq
      simp only [Option.some.injEq] at heq
      subst heq
      have hf : freeE U o.after.toList = true := freeE_spec.2 (fun e he hb => by simpa using (hdeps e (by simpa using he) hb).2)
      have hstep := allR_spec h (i, o) ho' hf
      simp only at hstep
      have hset : Pre ops (listed.setIfInBounds i true) (fun j => !undone (lessU i U) j) := by
        have h0 := hp.set i
        refine ⟨h0.1, fun j hj => ?_⟩
        rw [h0.2 j hj]
        simp only
        rw [lessU_undone hnd]
        congr 1
        cases undone U j <;> cases (j == i) <;> rfl
      have hlen := lessU_len hun
      have next : ∀ (S' : KSt) (s' : E.σ), exK (primK P E base r post) tb pz ops.toList n (lessU i U) S' s' K → AWX E base r ops (lessU i U) S'.st s' Q := fun S' s' h => exK_spec hT hQ n _ S' s' (fun p hp => hU p (lessU_sub hp)) (lessU_nodup hnd) hlt h
      have bar : ∀ (S1 S' : KSt) (s' : E.σ), Leq S.st S1.st → guardB ops S1.st.T o = some true → Bar E o S1.st s S'.st s' → AWX E base r ops (lessU i U) S'.st s' Q → wpOpIn (FW r) 0 P ops (Post E base Q S.st M w) i (wpAnyIn (FW r) 0 P .any ops (Post E base Q S.st M w) fuel (listed.setIfInBounds i true)) a w := by
        intro S1 S' s' hleq hg hb hn
        have hc1 := hc.leq hleq
        unfold wpOpIn
        simp only [ho]
        rw [guardB_spec hg hc1.rel, if_pos rfl]
        refine hb r base M a w hc1 _ _ (fun v w' M' hc' hx' => ?_)
        refine wpAnyIn_mono' (fun e a _ k => k.later ((hleq.ext M w).trans hx')) _ _ _ _ (hn M' _ w' hc' fuel _ (by omega) hset)
      obtain ⟨S1, hleq, hstep⟩ := wantK_spec hstep
      rcases hstep with ⟨hg, hstep⟩ | ⟨hg, hstep⟩
      · split at hstep
        · replace hstep := kif_spec hstep; obtain ⟨hv, hstep⟩ := hstep
          have hnv : ¬ isVal o := by
            rintro ⟨f, args, ts, hop⟩
            simp [notV, hop] at hv
          obtain ⟨S2, s2, hb, hk⟩ := barK_bar hT hnv hstep
          exact bar S1 S2 s2 hleq hg hb (next _ _ hk)
        · obtain ⟨res, nh, no, hfr, hk⟩ := freeK_spec hT hstep
          replace hk := kif_spec hk; obtain ⟨h1, hk⟩ := hk
          simp only [Bool.and_eq_true] at h1
          have hc1 := hc.leq hleq
          have hn := next _ _ hk
          rw [KSt.add_st] at hn
          unfold wpOpIn
          simp only [ho]
          rw [guardB_spec hg hc1.rel, if_pos rfl]
          refine hfr r base M E.l a w hc1.rel _ _ (fun v w' M' hnew => ?_)
          obtain ⟨c2, x2⟩ := hc1.new hnew (freshK_spec h1.1.1 h1.1.2) (dstK_spec h1.2)
          exact wpAnyIn_mono' (fun e a _ k => k.later ((hleq.ext M w).trans x2)) _ _ _ _ (hn M' _ w' c2 fuel _ (by omega) hset)
      · replace hstep := kif_spec hstep; obtain ⟨h1, hk⟩ := hstep
        have hc1 := hc.leq hleq
        have hn := next _ _ hk
        rw [KSt.add_st] at hn
        unfold wpOpIn
        simp only [ho]
        rw [guardB_spec hg hc1.rel, if_neg (by simp)]
        obtain ⟨c2, x2⟩ := hc1.new (dst := o.dst) (New.plain (v := undef) (.tup [] #[] rfl (fun i c v h => by simp at h))) (fresh_nil _) (dstK_spec h1)
        exact ⟨fun f hf => trivial, wpAnyIn_mono' (fun e a _ k => k.later ((hleq.ext M w).trans x2)) _ _ _ _ (hn M _ w c2 fuel _ (by omega) hset)⟩
theorem enumU_get {l : List Oper} : ∀ {i : Nat} {p : Nat × Oper}, p ∈ enumU i l → i ≤ p.1 ∧ l[p.1 - i]? = some p.2 := by
  induction l with
  | nil => intro i p h; cases h
  | cons o q ih =>
    intro i p h
    rcases List.mem_cons.1 h with e | e
    · rw [e]; simp
    · obtain ⟨h1, h2⟩ := ih e
      refine ⟨by omega, ?_⟩
      rw [show p.1 - i = (p.1 - (i + 1)) + 1 from by omega]; exact h2
theorem enumU_len {l : List Oper} : ∀ {i : Nat}, (enumU i l).length = l.length := by
  induction l with
  | nil => intro i; rfl
  | cons o q ih => intro i; simp [enumU, ih]
theorem enumU_mem' {l : List Oper} : ∀ {i j : Nat} {o : Oper}, l[j]? = some o → (i + j, o) ∈ enumU i l := by
  induction l with
  | nil => intro i j o h; simp at h
  | cons o' q ih =>
    intro i j o h
    cases j with
    | zero => simp at h; subst h; simp [enumU]
    | succ j =>
      refine List.mem_cons_of_mem _ ?_
      have := ih (i := i + 1) (j := j) (o := o) (by simpa using h)
      rwa [show i + 1 + j = i + (j + 1) from by omega] at this
theorem enumU_mem {l : List Oper} {j : Nat} {o : Oper} (h : l[j]? = some o) : (j, o) ∈ enumU 0 l := by
  have := enumU_mem' (i := 0) h
  rwa [Nat.zero_add] at this
theorem enumU_nodup {l : List Oper} : ∀ {i : Nat}, ((enumU i l).map Prod.fst).Nodup := by
  induction l with
  | nil => intro i; exact List.nodup_nil
  | cons o q ih =>
    intro i
    refine List.nodup_cons.2 ⟨fun hm => ?_, ih⟩
    obtain ⟨p, hp, he⟩ := List.mem_map.1 hm
    have := (enumU_get hp).1
    simp only at he; omega
end Go.Proofs.Ytnekemldcjegaaa.Aw

/- The logic of abstract walks, part M5c: code by evaluation. -/
namespace Go.Proofs.Ytnekemldcjegaaa.Aw
open Go Go.RowKit
set_option linter.unusedVariables false
set_option linter.unusedSimpArgs false
universe u
variable {P : Program} {E : Env P} {base : Nat} {r : Option Nat} {post : KV → List KRow → Prop} {tb : Nat → Option TI}
theorem KQ_of {Q : Exit → KSt → E.σ → Prop} {e : Exit} {S : KSt} {s : E.σ} (h : Q e S s) : KQ Q e S.st s := ⟨S, Weak.refl _, h⟩
theorem wpK_aw {pz : List Nat} (hm : P.follows .mixedOrders = true) (hT : ∀ t i, tb t = some i → TIOk P t i) : ∀ {c : Code}, drawsOk c = true → ∀ {S : KSt} {s : E.σ} {Q : Exit → KSt → E.σ → Prop}, wpK (primK P E base r post) tb pz c S s Q → AW E base r c S.st s (KQ Q) := by
  intro c hdr
  induction c with
  | seq x y ihx ihy =>
    simp only [drawsOk, Bool.and_eq_true] at hdr
    replace ihx := @ihx hdr.1; replace ihy := @ihy hdr.2
    intro S s Q h
    refine AW_seq ((ihx h).mono ?_)
    rintro e S' s' ⟨S'', hw, hq⟩
    cases e with
    | normal => exact AW_weak hw (ihy hq)
    | _ => exact ⟨S'', hw, hq⟩
  | skip => exact fun h => AW_skip (KQ_of h)
  | label l => exact fun h => AW_label (KQ_of h)
  | exit id => exact fun h => AW_exit (KQ_of h)
  | goto l => exact fun h => AW_goto (KQ_of h)
  | ret => exact fun h => AW_ret (KQ_of h)
  | block id c ih =>
    replace ih := @ih hdr
    intro S s Q h
    refine AW_block ((ih h).mono ?_)
    rintro e S' s' ⟨S'', hw, hq⟩
    cases e with
    | exit j =>
      simp only [blkK] at hq
      by_cases hj : j = id
      · subst hj
        simp only [Nat.beq_refl] at hq
        simp only [blockQ, if_true]
        exact ⟨S'', hw, hq⟩
      · have : Nat.beq j id = false := by cases h : Nat.beq j id with
          | false => rfl
          | true => exact absurd (Nat.eq_of_beq_eq_true h) hj
        rw [this] at hq
        simp only [blockQ, if_neg hj]
        exact ⟨S'', hw, hq⟩
    | _ => exact ⟨S'', hw, hq⟩
  | scope c ih =>
    replace ih := @ih hdr
    intro S s Q h
    refine AW_scope ((ih h).mono ?_)
    rintro e S' s' ⟨S'', hw, hq⟩
    cases e with
    | goto l => exact hq.elim
    | _ => exact ⟨S'', hw, hq⟩
  | cond c x y ihx ihy =>
    simp only [drawsOk, Bool.and_eq_true] at hdr
    replace ihx := @ihx hdr.1; replace ihy := @ihy hdr.2
    intro S s Q h
    replace h := kk_spec h; obtain ⟨v, hv, h⟩ := h
    have hv' := kop_st hv
    split at h
    · exact AW_cond hv' (fun _ => ihx h) (fun hb => by cases hb)
    · exact AW_cond hv' (fun hb => by cases hb) (fun _ => ihy h)
    · rename_i b
      split at h
      · exact h
      have key : ∀ v : KV, v.av = .d (.bool b) → Leq S.st (S.lit c v).st := fun v hvv => by
        cases c with
        | tmp t => exact lit_leq hv rfl hvv
        | _ => exact Leq.refl _
      refine AW_cond hv' (fun hb => ?_) (fun hb => ?_)
      · subst hb
        exact AW_weak (key .tt rfl).less.weak (ihx (h.1 rfl))
      · subst hb
        exact AW_weak (key .ff rfl).less.weak (ihy (h.2 rfl))
    · exact h.elim
  | region id ops d =>
    intro S s Q h
    cases d with
    | false =>
      unfold wpK at h
      split at h
      · exact h
      · exact regK_spec hT (fun S s h => KQ_of h) h
    | true =>
      unfold wpK at h
      split at h
      · exact h
      refine AW_region_draw hm ?_
      unfold drawsOk at hdr
      split at h
      · rename_i hex
        rw [hex] at hdr
        simp only [List.all_eq_true, Nat.blt_eq] at hdr
        have := exK_spec (ops := ops) hT (Q := KQ Q) (fun S s h => KQ_of h) _ (enumU 0 ops.toList) S s (fun p hp => by simpa using enumU_get hp) enumU_nodup (fun i o ho e he => hdr o (List.mem_of_getElem? (by rw [Array.getElem?_toList]; exact ho)) e (by simpa using he)) h
        intro M a w hc fuel listed hf hp
        refine this M a w hc fuel listed (by rw [enumU_len]; simpa using hf) ⟨hp.1, fun j hj => ?_⟩
        rw [hp.2 j hj]
        have hb : Nat.blt j 0 = false := rfl
        simp only
        rw [hb, (undone_iff (U := enumU 0 ops.toList) (j := j)).2 ⟨ops[j], enumU_mem (by simp [hj])⟩]; rfl
      rename_i hex
      rw [hex] at hdr
      simp only [drawOk, Bool.and_eq_true] at hdr
      exact drawK_spec hT hdr.1 (Q := KQ Q) (fun S s h => KQ_of h) ops.toList 0 0 [] S S [] s (fun j o h => by simpa using h) (by simp) rfl (by simpa using hdr.2) (segInv_nil _ _ _ _) h
  | _ => exact fun h => h
end Go.Proofs.Ytnekemldcjegaaa.Aw

/- The logic of abstract walks, part M6: contracts by evaluation; loops; calls. -/
namespace Go.Proofs.Ytnekemldcjegaaa.Aw
open Go Go.RowKit
set_option linter.unusedVariables false
set_option linter.unusedSimpArgs false
universe u
variable {P : Program} {E : Env P} {base : Nat} {r : Option Nat} {post : KV → List KRow → Prop} {tb : Nat → Option TI} {pz : List Nat}

/-- What is known of a seat's program. -/
structure SeatOk (P : Program) (tb : Nat → Option TI) : Prop where
  tab : ∀ t i, tb t = some i → TIOk P t i
  mix : P.follows .mixedOrders = true
def resK (tb : Nat → Option TI) (S : KSt) : ResultVar → Option KV
  | .tmp t => lk S.T t
  | .cell ad t => match lk S.T ad with
    | some (.loc b off) => match lk S.H b with
      | some B => match tb t with
        | some i => match i.ag with
          | false => nth B.cells off
          | true => match Nat.ble (off + i.sz) (lenK B.cells) with
            | true => some (.agg (takeK i.sz (dropK off B.cells)))
            | false => none
        | none => none
      | none => none
    | _ => none
def resKL (tb : Nat → Option TI) (S : KSt) : List ResultVar → Option (List KV)
  | [] => some []
  | x :: r => match resK tb S x with
    | some c => match resKL tb S r with
      | some l => some (c :: l)
      | none => none
    | none => none
theorem resK_spec (hT : ∀ t i, tb t = some i → TIOk P t i) {S : KSt} {x : ResultVar} {c : KV} (h : resK tb S x = some c) : resV P S.st x = some c.av := by
  cases x with
  | tmp t => simp only [resK] at h; simp only [resV, st_look, h, Option.map_some]
  | cell ad t =>
    simp only [resK] at h
    split at h
    · rename_i b off h1
      split at h
      · rename_i B h2
        split at h
        · rename_i i h3
          have hi := hT _ _ h3
          simp only [resV, st_look, h1, Option.map_some, KV.av, st_lookH, h2, hi.ag]
          cases hag : i.ag with
          | false =>
            rw [hag] at h
            simp only [show B.blk.cells = KV.avL B.cells from rfl, nth_avL, h, Option.map_some]
          | true =>
            rw [hag] at h
            simp only [hi.sz, show B.blk.cells = KV.avL B.cells from rfl, avL_len]
            simp only at h
            split at h
            · rename_i hb
              cases h
              rw [if_pos hb, avL_drop, avL_take]; rfl
            · cases h
        · cases h
      · cases h
    · cases h
theorem resKL_spec (hT : ∀ t i, tb t = some i → TIOk P t i) {S : KSt} : ∀ {l : List ResultVar} {cs : List KV}, resKL tb S l = some cs → resVL P S.st l = some (KV.avL cs)
  | [], cs, h => by simp [resKL] at h; subst h; rfl
  | x :: r, cs, h => by
    simp only [resKL] at h
    cases h1 : resK tb S x with
    | none => rw [h1] at h; cases h
    | some c =>
      cases h2 : resKL tb S r with
      | none => rw [h1, h2] at h; cases h
      | some l =>
        rw [h1, h2] at h
        simp only [Option.some.injEq] at h; subst h
        simp only [resVL, resK_spec hT h1, resKL_spec hT h2, KV.avL]
def oneK : List KV → KV
  | [c] => c
  | cs => .tup cs
theorem oneK_spec (cs : List KV) : (oneK cs).av = oneOf (KV.avL cs) := by
  cases cs with
  | nil => rfl
  | cons c r => cases r <;> rfl
def idxK' (n : Nat) : List Nat → Nat → Option Nat
  | [], _ => none
  | k :: r, i => match Nat.beq k n with
    | true => some i
    | false => idxK' n r (i + 1)
theorem idxK'_spec {n : Nat} : ∀ {l : List Nat} {i : Nat}, idxK' n l i = idxN n l i
  | [], _ => rfl
  | k :: r, i => by
    simp only [idxK', idxN]
    by_cases e : k = n
    · subst e; simp
    · have : Nat.beq k n = false := by cases h : Nat.beq k n with
        | false => rfl
        | true => exact absurd (Nat.eq_of_beq_eq_true h) e
      simp [this, e, idxK'_spec (l := r)]
def lessK (ids : List Nat) : List (Nat × KRow) → List (Nat × KRow)
  | [] => []
  | (k, R) :: r => match memN k ids with
    | true => lessK ids r
    | false => (k, R) :: lessK ids r
theorem lessK_spec (ids : List Nat) : ∀ (O : List (Nat × KRow)), mapO (lessK ids O) = (mapO O).filter fun p => !memN p.1 ids
  | [] => rfl
  | (k, R) :: r => by
    simp only [lessK, mapO, List.filter_cons]
    cases memN k ids <;> simp [mapO, lessK_spec ids r]
def KSt.less (S : KSt) (ids : List Nat) : KSt := ⟨S.n, S.T, S.H, lessK ids S.O, S.low⟩
theorem KSt.less_st (S : KSt) (ids : List Nat) : (S.less ids).st = lessO S.st ids := by simp only [KSt.less, KSt.st, lessO, lessK_spec]
def ret1K (ids : List Nat) (S : KSt) (c : KV) : Option KV := match c with
  | .osl id => match idxK' id ids 0 with
    | some i => some (.osl i)
    | none => snapK true (S.less ids) 8 (.osl id)
  | .agg _ => none
  | .fn f cs => snapK true (S.less ids) 8 (.fn f cs)
  | .loc b off => snapK true (S.less ids) 8 (.loc b off)
  | c => match c.isD with
    | true => some c
    | false => none
def snapped (c : KV) : Bool := c.isD
theorem snapped_av {v : KV} (h : snapped v = true) : v.av = .d v.toD := by
  exact KV.isD_av h
theorem rowKV_snapped (R : KRow) : snapped (rowKV R) = true := by
  unfold rowKV
  split <;> rfl
theorem snapK_noagg {lv : Bool} {S : KSt} {n : Nat} {c v : KV} (h : snapK lv S n c = some v) (hc : ∀ l, c ≠ .agg l) : snapped v = true := by
  cases n with
  | zero => simp [snapK] at h
  | succ n =>
    unfold snapK at h
    split at h
    · exact absurd rfl (hc _)
    · obtain ⟨vs, _, rfl⟩ := omap_spec h; rfl
    · split at h
      · split at h
        · obtain ⟨vs, _, rfl⟩ := omap_spec h; rfl
        · cases h
      · cases h
    · split at h
      · split at h
        · cases h; exact rowKV_snapped _
        · cases h
      · cases h
    · cases h; rfl
    · cases h; rfl
    · cases h; rfl
    · split at h
      · rename_i hd
        cases h
        exact hd
      · cases h
theorem ret1K_spec {ids : List Nat} {S : KSt} {c v : KV} (h : ret1K ids S c = some v) : ret1 ids S.st c.av = some v.av := by
  have main : ∀ c : KV, (∀ l, c ≠ .agg l) → snapK true (S.less ids) 8 c = some v → (snap true (lessO S.st ids) 8 c.av).map .d = some v.av := fun c hc h => by
    have := snapK_spec 8 c v h
    rw [KSt.less_st] at this
    rw [this, snapped_av (snapK_noagg h hc)]; rfl
  have dd : ∀ c : KV, c.isD = true → some c = some v → ret1 ids S.st c.av = some v.av := fun c hd e => by
    cases e
    have hav := KV.isD_av hd
    have hag := KV.isD_agg hd
    rw [hav]
    unfold ret1
    simp only
    have : snap true (lessO S.st ids) 8 (.d v.toD) = some v.toD := by
      cases hx : v.toD with
      | agg l => exact absurd hx (hag l)
      | _ => rfl
    rw [this]; rfl
  unfold ret1K at h
  split at h
  · rename_i id
    rw [idxK'_spec] at h
    simp only [KV.av, ret1]
    split at h
    · rename_i i hi
      rw [hi]
      cases h; rfl
    · rename_i hi
      rw [hi]
      exact main (.osl id) (fun l e => by cases e) h
  · cases h
  · exact main _ (fun l e => by cases e) h
  · exact main _ (fun l e => by cases e) h
  · split at h
    · rename_i hd; exact dd _ hd h
    · cases h
def ret1KL (ids : List Nat) (S : KSt) : List KV → Option (List KV)
  | [] => some []
  | c :: r => match ret1K ids S c with
    | some x => match ret1KL ids S r with
      | some l => some (x :: l)
      | none => none
    | none => none
theorem ret1KL_spec {ids : List Nat} {S : KSt} : ∀ {cs vs : List KV}, ret1KL ids S cs = some vs → ret1L ids S.st (KV.avL cs) = some (KV.avL vs)
  | [], vs, h => by simp [ret1KL] at h; subst h; rfl
  | c :: r, vs, h => by
    simp only [ret1KL] at h
    cases h1 : ret1K ids S c with
    | none => rw [h1] at h; cases h
    | some v =>
      cases h2 : ret1KL ids S r with
      | none => rw [h1, h2] at h; cases h
      | some l =>
        rw [h1, h2] at h
        simp only [Option.some.injEq] at h; subst h
        simp only [KV.avL, ret1L, ret1K_spec h1, ret1KL_spec h2]
def ret2K (ids : List Nat) (S : KSt) (c : KV) : Option KV := match c with
  | .agg cs => omap (ret1KL ids S cs) .agg
  | c => ret1K ids S c
theorem ret2K_spec {ids : List Nat} {S : KSt} {c v : KV} (h : ret2K ids S c = some v) : ret2 ids S.st c.av = some v.av := by
  unfold ret2K at h
  split at h
  · obtain ⟨l, h1, rfl⟩ := omap_spec h
    simp only [KV.av, ret2, ret1KL_spec h1, Option.map_some]
  · rename_i hc
    have := ret1K_spec h
    cases c <;> first | exact absurd rfl (hc _) | exact this
def ret2KL (ids : List Nat) (S : KSt) : List KV → Option (List KV)
  | [] => some []
  | c :: r => match ret2K ids S c with
    | some x => match ret2KL ids S r with
      | some l => some (x :: l)
      | none => none
    | none => none
theorem ret2KL_spec {ids : List Nat} {S : KSt} : ∀ {cs vs : List KV}, ret2KL ids S cs = some vs → ret2L ids S.st (KV.avL cs) = some (KV.avL vs)
  | [], vs, h => by simp [ret2KL] at h; subst h; rfl
  | c :: r, vs, h => by
    simp only [ret2KL] at h
    cases h1 : ret2K ids S c with
    | none => rw [h1] at h; cases h
    | some v =>
      cases h2 : ret2KL ids S r with
      | none => rw [h1, h2] at h; cases h
      | some l =>
        rw [h1, h2] at h
        simp only [Option.some.injEq] at h; subst h
        simp only [KV.avL, ret2L, ret2K_spec h1, ret2KL_spec h2]
def ret3K (ids : List Nat) (S : KSt) (c : KV) : Option KV := match c with
  | .tup cs => omap (ret2KL ids S cs) .tup
  | c => ret2K ids S c
theorem ret3K_spec {ids : List Nat} {S : KSt} {c v : KV} (h : ret3K ids S c = some v) : ret3 ids S.st c.av = some v.av := by
  unfold ret3K at h
  split at h
  · obtain ⟨l, h1, rfl⟩ := omap_spec h
    simp only [KV.av, ret3, ret2KL_spec h1, Option.map_some]
  · rename_i hc
    have := ret2K_spec h
    cases c <;> first | exact absurd rfl (hc _) | exact this
def rowsOfK (S : KSt) : List Nat → Option (List KRow)
  | [] => some []
  | id :: r => match lk S.O id with
    | some R => match R.live with
      | true => match rowsOfK S r with
        | some l => some (R :: l)
        | none => none
      | false => none
    | none => none
theorem rowsOfK_spec {S : KSt} : ∀ {ids : List Nat} {rows : List KRow}, rowsOfK S ids = some rows → rowsOf S.st ids = some (rows.map KRow.row)
  | [], rows, h => by simp [rowsOfK] at h; subst h; rfl
  | id :: r, rows, h => by
    simp only [rowsOfK] at h
    split at h
    · rename_i R hR
      split at h
      · rename_i hl
        split at h
        · rename_i l h2
          cases h
          have : R.row.live = true := hl
          simp only [rowsOf, st_lookO, hR, Option.map_some, rowsOfK_spec h2, this, if_true, List.map_cons]
        · cases h
      · cases h
    · cases h
/-- The end of a function. -/
def retKQ {σ : Type} (I : Prim σ) (tb : Nat → Option TI) (rs : List ResultVar) (ids : List Nat) (e : Exit) (S : KSt) (s : σ) : Prop :=
  match (match e with | .normal => true | .ret => true | _ => false) with
  | true => kk (resKL tb S rs) fun cs => kk (ret3K ids S (oneK cs)) fun v => kk (rowsOfK S ids) fun rows => I.post v rows
  | false => False
def okArg : KV → Bool
  | .agg cs => allD cs
  | c => c.isD
def okArgs : List KV → Bool
  | [] => true
  | c :: r => okArg c && okArgs r
theorem okArg_av {c : KV} (h : okArg c = true) : toAV c.toD = c.av := by
  unfold okArg at h
  split at h
  · simp only [KV.toD, toAV, KV.av, allD_av h]
  · rw [KV.isD_av h]
    have := KV.isD_agg h
    cases hx : c.toD with
    | agg l => exact absurd hx (this l)
    | _ => rfl
def argK : Nat → List KV → List (Nat × KV)
  | _, [] => []
  | i, c :: r => (i, c) :: argK (i + 1) r
theorem argK_spec : ∀ {args : List KV} {i : Nat}, okArgs args = true → mapT (argK i args) = argT i (KV.toDL args)
  | [], _, _ => rfl
  | c :: q, i, h => by
    simp only [okArgs, Bool.and_eq_true] at h
    simp only [argK, mapT, KV.toDL, argT, okArg_av h.1, argK_spec h.2]
def KS0 (n : Nat) (args : List KV) : KSt := ⟨n, argK 0 args, [], [], 0⟩
/-- A contract, for evaluation. -/
def KC (P : Program) (f : Nat) (args : List KV) (res : KV) (rows : List KRow) : Prop := Con P f (KV.toDL args) res.av (rows.map KRow.row)
def endK (res : KV) (rows : List KRow) : KV → List KRow → Prop := fun v rs => v.av = res.av ∧ rs.map KRow.row = rows.map KRow.row
theorem con_k {f : Nat} {fn : Func} {c : Code} {args : List KV} {res : KV} {rows : List KRow} (ids : List Nat) (pz : List Nat) (hT : SeatOk P tb) (hf : P.funcs[f]? = some fn) (hb : fn.body = some c) (hent : Ent P f)
    (hdr : drawsOk c = true) (hn : Nat.ble (lenK args) fn.ntmps = true) (ha : okArgs args = true) (hid : ids.Nodup)
    (h : ∀ base I, I = primK P (noEnv P) base none (endK res rows) → wpK I tb pz c (KS0 fn.ntmps args) () (retKQ I tb fn.results.toList ids)) : KC P f args res rows := by
  refine con_intro hf hb hent (by rw [toDL_len]; exact hn) fun base => ?_
  have := wpK_aw hT.mix hT.tab hdr (h base _ rfl)
  rw [show (KS0 fn.ntmps args).st = S0 fn.ntmps (KV.toDL args) from by simp only [KS0, KSt.st, S0, argK_spec ha]; rfl] at this
  refine AW_weakQ (this.mono ?_)
  rintro e S s ⟨S', hw, hq⟩
  refine ⟨S'.st, hw, ?_⟩
  unfold retKQ at hq
  split at hq
  · rename_i he
    replace hq := kk_spec hq; obtain ⟨cs, h1, hq⟩ := hq
    replace hq := kk_spec hq; obtain ⟨v, h2, hq⟩ := hq
    replace hq := kk_spec hq; obtain ⟨rs, h3, hq⟩ := hq
    obtain ⟨e1, e2⟩ := (hq : v.av = res.av ∧ rs.map KRow.row = rows.map KRow.row)
    refine ⟨?_, KV.avL cs, ids, resKL_spec hT.tab h1, ?_, ?_, hid⟩
    · cases e <;> first | exact .inl rfl | exact .inr rfl | cases he
    · rw [← oneK_spec, ret3K_spec h2, e1]
    · rw [rowsOfK_spec h3, e2]
  · exact hq.elim

/-! What one state says, the other one says, too. -/
def eqT (T : List (Nat × KV)) : List (Nat × KV) → Prop
  | [] => True
  | (t, c) :: r => (match lk T t with | some v => v.av = c.av | none => False) ∧ eqT T r
def eqH (T : List (Nat × KBlk)) : List (Nat × KBlk) → Prop
  | [] => True
  | (t, c) :: r => (match lk T t with | some v => v.blk = c.blk | none => False) ∧ eqH T r
def eqO (T : List (Nat × KRow)) : List (Nat × KRow) → Prop
  | [] => True
  | (t, c) :: r => (match lk T t with | some v => v.row = c.row | none => False) ∧ eqO T r
theorem eqT_spec {T : List (Nat × KV)} : ∀ {T' : List (Nat × KV)}, eqT T T' → subT (mapT T) (mapT T')
  | [], _ => trivial
  | (t, c) :: q, h => by
    refine ⟨?_, eqT_spec h.2⟩
    have := h.1
    split at this
    · rename_i v hv; rw [look_mapT, hv, Option.map_some, this]
    · exact this.elim
theorem eqH_spec {T : List (Nat × KBlk)} : ∀ {T' : List (Nat × KBlk)}, eqH T T' → subH (mapH T) (mapH T')
  | [], _ => trivial
  | (t, c) :: q, h => by
    refine ⟨?_, eqH_spec h.2⟩
    have := h.1
    split at this
    · rename_i v hv; rw [look_mapH, hv, Option.map_some, this]
    · exact this.elim
theorem eqO_spec {T : List (Nat × KRow)} : ∀ {T' : List (Nat × KRow)}, eqO T T' → subO (mapO T) (mapO T')
  | [], _ => trivial
  | (t, c) :: q, h => by
    refine ⟨?_, eqO_spec h.2⟩
    have := h.1
    split at this
    · rename_i v hv; rw [look_mapO, hv, Option.map_some, this]
    · exact this.elim
theorem weak_k {S S' : KSt} (hn : S'.n = S.n) (hl : S.low = S'.low) (hT : eqT S.T S'.T) (hH : eqH S.H S'.H) (hO : eqO S.O S'.O) : Weak S.st S'.st :=
  weak_of hn hl (eqT_spec hT) (eqH_spec hH) (eqO_spec hO)
/-- As weak_k, once some rows are frozen. -/
theorem weak_f (ids : List Nat) {S S' : KSt} (h : Weak ((ids.foldl (fun S id => frzK id S) S)).st S'.st) : Weak S.st S'.st := by
  refine Weak.trans ?_ h
  clear h
  induction ids generalizing S with
  | nil => exact Weak.refl _
  | cons i q ih => exact (frzK_keeps i S).1.trans ih
theorem AW_WK {c : Code} {S : KSt} {s : E.σ} {Q : Exit → KSt → E.σ → Prop} (h : AW E base r c S.st s (KQ Q)) : (primK P E base r post).W c S s Q := h
/-- A loop; at its head the state is 'st a' for some a with 'inv a s', and 'm a' falls. -/
theorem W_loop {A : Type u} {I : Prim E.σ} (hI : I = primK P E base r post) (hT : SeatOk P tb) (pz : List Nat) {c : Code} (hdr : drawsOk c = true) {S : KSt} {s : E.σ} {Q : Exit → KSt → E.σ → Prop} (m : A → Nat) (st : A → KSt) (inv : A → E.σ → Prop) (a0 : A)
    (hw : Weak S.st (st a0).st) (h0 : inv a0 s) (round : ∀ a s, inv a s → ∀ R : KSt → E.σ → Prop, (∀ S' s' a', m a' < m a → Weak S'.st (st a').st → inv a' s' → R S' s') → wpK I tb pz c (st a) s (thenK R Q)) : I.W (.loop c) S s Q := by
  subst hI
  refine AW_weak hw (AW_loop (fun k S s => ∃ a, S = (st a).st ∧ k = m a ∧ inv a s) (m a0) ⟨a0, rfl, rfl, h0⟩ ?_)
  rintro k S s ⟨a, rfl, rfl, h1⟩
  refine AW_weakQ ((wpK_aw hT.mix hT.tab hdr (round a s h1 (fun S' s' => ∃ a', m a' < m a ∧ Weak S'.st (st a').st ∧ inv a' s') (fun S' s' a' h1 h2 h3 => ⟨a', h1, h2, h3⟩))).mono ?_)
  rintro e S2 s2 ⟨S3, hw3, hq⟩
  refine ⟨S3.st, hw3, ?_⟩
  cases e with
  | normal =>
    obtain ⟨a', hk, hw4, h4⟩ := hq
    exact ⟨m a', (st a').st, hk, hw4, a', rfl, rfl, h4⟩
  | _ => exact KQ_of hq
/-- A region that draws its order: whatever the order, it ends in the state 'st', or in one that says more. -/
theorem W_region {I : Prim E.σ} (hI : I = primK P E base r post) (hT : SeatOk P tb) (pz : List Nat) {c : Code} (hdr : drawsOk c = true) {S : KSt} {s : E.σ} {Q : Exit → KSt → E.σ → Prop} (st : KSt)
    (h1 : ∀ R : KSt → E.σ → Prop, (∀ S', Weak S'.st st.st → R S' s) → wpK I tb pz c S s (thenK R (fun _ _ _ => False))) (h2 : Q .normal st s) : I.W c S s Q := by
  subst hI
  refine AW_weakQ ((wpK_aw hT.mix hT.tab hdr (h1 (fun S' s' => Weak S'.st st.st ∧ s' = s) (fun S' h => ⟨h, rfl⟩))).mono ?_)
  rintro e S2 s2 ⟨S3, hw3, hq⟩
  cases e with
  | normal =>
    obtain ⟨hw4, rfl⟩ := hq
    exact ⟨st.st, hw3.trans hw4, KQ_of h2⟩
  | _ => exact hq.elim
theorem C_call {I : Prim E.σ} (hI : I = primK P E base r post) {g : Nat} {args args' : List KV} {res : KV} {rows : List KRow} {K : KV → List KRow → Prop} (h : KC P g args' res rows) (ha : KV.toDL args = KV.toDL args') (k : K res rows) : I.C g args K := by
  subst hI
  refine ⟨res, rows, ?_, k⟩
  rw [ha]; exact h
theorem C_call' {I : Prim E.σ} (hI : I = primK P E base r post) {g : Nat} {args : List KV} {res : KV} {rows : List KRow} {K : KV → List KRow → Prop} (h : KC P g args res rows) (k : K res rows) : I.C g args K := C_call hI h rfl k
/-- A call, whose result gets a name. -/
theorem C_val {α : Type u} {I : Prim E.σ} (hI : I = primK P E base r post) (f : α → KV) {g : Nat} {args args' : List KV} {a : α} {K : KV → List KRow → Prop} (h : KC P g args' (f a) []) (ha : KV.toDL args = KV.toDL args') (k : ∀ v, v = a → K (f v) []) : I.C g args K :=
  C_call hI h ha (k a rfl)
theorem C_bool {I : Prim E.σ} (hI : I = primK P E base r post) {g : Nat} {args args' : List KV} {a : Bool} {K : KV → List KRow → Prop} (h : KC P g args' (.bool a) []) (ha : KV.toDL args = KV.toDL args') (k : ∀ v, v = a → K (.bool v) []) : I.C g args K :=
  C_call hI h ha (k a rfl)
theorem C_int {I : Prim E.σ} (hI : I = primK P E base r post) {g : Nat} {args args' : List KV} {i : IntKind} {a : Int} {K : KV → List KRow → Prop} (h : KC P g args' (.int i a) []) (ha : KV.toDL args = KV.toDL args') (k : ∀ v, v = a → K (.int i v) []) : I.C g args K :=
  C_call hI h ha (k a rfl)
theorem CD_call {I : Prim E.σ} (hI : I = primK P E base r post) {g : Nat} {args : List KV} {ds xs : List D} {res : KV} {rows : List KRow} {K : KV → List KRow → Prop} (h : Con P g xs res.av (rows.map KRow.row)) (ha : KV.toDL args ++ ds = xs) (k : K res rows) : I.CD g args ds K := by
  subst hI
  subst ha
  exact ⟨res, rows, h, k⟩
theorem K_tst {I : Prim E.σ} (hI : I = primK P E base r post) {b : Bool} {A B : Prop} (h1 : b = true → A) (h2 : b = false → B) : I.tst b A B := by
  subst hI; exact ⟨h1, h2⟩
theorem K_conj {I : Prim E.σ} (hI : I = primK P E base r post) {A B : Prop} (h1 : A) (h2 : B) : I.conj A B := by
  subst hI; exact ⟨h1, h2⟩
theorem av_int {k : IntKind} {a b : Int} (h : a = b) : KV.av (.int k a) = KV.av (.int k b) := by rw [h]
theorem av_bool {a b : Bool} (h : a = b) : KV.av (.bool a) = KV.av (.bool b) := by rw [h]
/-- The pieces of a row, put together anew. -/
theorem K_norm {I : Prim E.σ} (hI : I = primK P E base r post) {ps : List KP} {sz : Nat} {K : List KP → Prop} (ps' : List KP) (h : rowsD sz ps' = rowsD sz ps) (k : K ps') : I.norm ps sz K := by
  subst hI; exact ⟨ps', h, k⟩
/-- The small rules by which a test's condition is read. -/
theorem EVB : (∀ a b : D, (AV.d a = AV.d b) = (a = b)) ∧ (∀ a b : List AV, (AV.agg a = AV.agg b) = (a = b)) ∧ (∀ a b : List AV, (AV.tup a = AV.tup b) = (a = b)) ∧
    (∀ (k k' : IntKind) (n n' : Int), (D.int k n = D.int k' n') = (k = k' ∧ n = n')) ∧ (∀ a b : Bool, (D.bool a = D.bool b) = (a = b)) ∧
    (∀ (a b : AV) (r s : List AV), (a :: r = b :: s) = (a = b ∧ r = s)) ∧ (∀ n : Nat, n + 0 = n) ∧ (∀ p : Prop, (True ∧ p) = p) ∧ (∀ p : Prop, (p ∧ True) = p) ∧
    (∀ (p : Prop) [Decidable p], (decide p = true) = p) ∧ (∀ (p : Prop) [Decidable p], (decide p = false) = ¬ p) ∧ (∀ b : Bool, ((!b) = true) = (b = false)) ∧ (∀ b : Bool, ((!b) = false) = (b = true)) ∧
    (∀ p : Prop, (True → p) = p) ∧ (∀ p : Prop, (False → p) = True) ∧ (∀ n : Nat, Int.ofNat n = (n : Int)) ∧ (((0 : Nat) : Int) = 0) :=
  ⟨fun _ _ => by simp, fun _ _ => by simp, fun _ _ => by simp, fun _ _ _ _ => by simp, fun _ _ => by simp, fun _ _ _ _ => by simp, fun _ => rfl, fun _ => by simp, fun _ => by simp,
    fun _ _ => by simp, fun _ _ => by simp, fun _ => by simp, fun _ => by simp, fun _ => by simp, fun _ => by simp, fun _ => rfl, rfl⟩
theorem wp_again {I : Prim E.σ} (hI : I = primK P E base r post) {X : Prop} (h : X) : X := h
end Go.Proofs.Ytnekemldcjegaaa.Aw

/- The logic of abstract walks, part M7: iterators and loops over them, by evaluation. -/
namespace Go.Proofs.Ytnekemldcjegaaa.Aw
open Go Go.RowKit
set_option linter.unusedVariables false
set_option linter.unusedSimpArgs false
universe u
variable {P : Program} {E : Env P} {base : Nat} {r : Option Nat} {post : KV → List KRow → Prop} {tb : Nat → Option TI}

def KSY (n : Nat) (caps : List KV) : KSt := ⟨n, (0, .yld) :: argK 1 caps, [], [], 0⟩
def finK {σ : Type} (Fin : σ → Prop) (e : Exit) (S : KSt) (s : σ) : Prop := match (match e with | .normal => true | .ret => true | _ => false) with
  | true => Fin s
  | false => False
/-- An iterator's contract, for evaluation. -/
def KI (P : Program) (f : Nat) (caps : List KV) (ys : List (List KV)) : Prop := IterCon P f (KV.toDL caps) (ys.map KV.toDL)
theorem iter_k {f : Nat} {fn : Func} {c : Code} {caps : List KV} {ys : List (List KV)} (pz : List Nat) (hT : SeatOk P tb) (hf : P.funcs[f]? = some fn) (hb : fn.body = some c) (hent : Ent P f) (hdr : drawsOk c = true) (hn : Nat.ble (lenK caps + 1) fn.ntmps = true) (ha : okArgs caps = true) (hres : fn.results = #[])
    (h : ∀ (E : Env P) (Inv : Nat → E.σ → Prop) (Fin : E.σ → Prop), Takes E (ys.map KV.toDL) Inv Fin → ∀ (base : Nat) (s : E.σ), Inv 0 s → ∀ I, I = primK P E base none (fun _ _ => False) → wpK I tb pz c (KSY fn.ntmps caps) s (finK Fin)) : KI P f caps ys := by
  refine iter_intro hf hb hent (by rw [toDL_len]; exact hn) hres fun E Inv Fin hT' base s h0 => ?_
  have := wpK_aw hT.mix hT.tab hdr (h E Inv Fin hT' base s h0 _ rfl)
  rw [show (KSY fn.ntmps caps).st = SY fn.ntmps (KV.toDL caps) from by simp only [KSY, KSt.st, SY, mapT, argK_spec ha]; rfl] at this
  refine this.mono ?_
  rintro e S s' ⟨S', hw, hq⟩
  unfold finK at hq
  split at hq
  · rename_i he
    refine ⟨?_, hq⟩
    cases e <;> first | exact .inl rfl | exact .inr rfl | cases he
  · exact hq.elim
theorem Y_take {I : Prim E.σ} (hI : I = primK P E base r post) {ys : List (List KV)} {Inv : Nat → E.σ → Prop} {Fin : E.σ → Prop} (hT : Takes E (ys.map KV.toDL) Inv Fin) {s : E.σ} {xs y : List KV} {K : Bool → E.σ → Prop} (i : Nat) (hi : ys[i]? = some y) (hy : KV.toDL xs = KV.toDL y) (h0 : Inv i s)
    (ht : ∀ s', Inv (i + 1) s' → K true s') (hf : ∀ s', Fin s' → K false s') : I.Y s xs K := by
  subst hI
  have hg : (ys.map KV.toDL)[i]? = some (KV.toDL xs) := by rw [List.getElem?_map, hi, hy]; rfl
  refine ⟨hT.next i _ s hg h0, fun s' b hb => ?_⟩
  obtain ⟨h1, h2⟩ := hT.out i _ s s' b hg h0 hb
  cases b with
  | true => exact ht s' (h1 rfl)
  | false => exact hf s' (h2 rfl)

def putPK : List Nat → List KV → List (Nat × KV) → List (Nat × KV)
  | p :: ps, x :: xs, T => putPK ps xs ((p, x) :: T)
  | _, _, T => T
theorem putPs_leq : ∀ {ps : List Nat} {xs : List D} {T T' : List (Nat × AV)}, (∀ t, look T t = look T' t) → ∀ t, look (putPs ps xs T) t = look (putPs ps xs T') t
  | [], _, T, T', h, t => by simpa [putPs] using h t
  | p :: ps, [], T, T', h, t => by simpa [putPs] using h t
  | p :: ps, x :: xs, T, T', h, t => by
    simp only [putPs]
    exact putPs_leq (fun u => by rw [look_setT, look_setT, h u]) t
theorem putPK_spec : ∀ {ps : List Nat} {xs : List KV} {T : List (Nat × KV)}, okArgs xs = true → ∀ t, look (mapT (putPK ps xs T)) t = look (putPs ps (KV.toDL xs) (mapT T)) t
  | [], xs, T, _, t => by cases xs <;> rfl
  | p :: ps, [], T, _, t => rfl
  | p :: ps, x :: xs, T, h, t => by
    simp only [okArgs, Bool.and_eq_true] at h
    simp only [putPK, KV.toDL, putPs]
    rw [putPK_spec h.2]
    refine putPs_leq (fun u => ?_) t
    simp only [mapT, look, look_setT, okArg_av h.1]
mutual
def KV.calm (N : Nat) : KV → Bool
  | .agg cs => KV.calmL N cs
  | .tup cs => KV.calmL N cs
  | .fn _ cs => KV.calmL N cs
  | .loc b _ => Nat.blt b N
  | .osl _ => false
  | .oloc _ _ _ _ => false
  | _ => true
def KV.calmL (N : Nat) : List KV → Bool
  | [] => true
  | c :: r => match c.calm N with
    | true => KV.calmL N r
    | false => false
end
mutual
theorem calm_av (N : Nat) : ∀ (c : KV), c.av.calm N = c.calm N
  | .agg cs => by simp only [KV.av, AV.calm, KV.calm, calmL_av N cs]
  | .tup cs => by simp only [KV.av, AV.calm, KV.calm, calmL_av N cs]
  | .fn _ cs => by simp only [KV.av, AV.calm, KV.calm, calmL_av N cs]
  | .loc _ _ => rfl
  | .osl _ => rfl
  | .oloc _ _ _ _ => rfl
  | .any | .int _ _ | .lit _ _ | .bool _ | .tt | .ff | .str _ | .dfn _ _ | .nilfn | .nilsl | .nilmap | .nilptr | .ptr _ | .sl _ _ _ _ _ _ | .slr _ _ _ | .d _ | .yld => by simp only [KV.av, AV.calm, KV.calm]
theorem calmL_av (N : Nat) : ∀ (cs : List KV), AV.calmL N (KV.avL cs) = KV.calmL N cs
  | [] => rfl
  | c :: r => by
    simp only [KV.avL, AV.calmL, KV.calmL, calm_av N c, calmL_av N r]
    cases c.calm N <;> simp
end
def calmTK (N : Nat) : List (Nat × KV) → Bool
  | [] => true
  | (_, c) :: r => match c.calm N with
    | true => calmTK N r
    | false => false
theorem calmTK_spec {N : Nat} : ∀ (T : List (Nat × KV)), calmT N (mapT T) = calmTK N T
  | [] => rfl
  | (t, c) :: r => by
    simp only [mapT, calmT, calmTK, calm_av, calmTK_spec r]
    cases c.calm N <;> simp
/-- The state with other boxes and rows. -/
def KSt.ho (S : KSt) (x : List (Nat × KBlk) × List (Nat × KRow)) : KSt := ⟨S.n, S.T, x.1, x.2, S.low⟩
def roundK {A : Type u} {σ : Type} (hs : A → List (Nat × KBlk) × List (Nat × KRow)) (inv : A → σ → Prop) (jx : Exit → A → σ → Prop) (e : Exit) (S : KSt) (s : σ) : Prop := match e with
  | .panic _ => False
  | .outgrown => False
  | .normal => ∃ a, eqH S.H (hs a).1 ∧ eqO S.O (hs a).2 ∧ inv a s
  | e => ∃ a, eqH S.H (hs a).1 ∧ eqO S.O (hs a).2 ∧ jx e a s
def assignK {σ : Type} (K : KSt → σ → Prop) (e : Exit) (S : KSt) (s : σ) : Prop := match e with
  | .normal => K S s
  | _ => False
/-- What is known to range over: the function and what it has captured. -/
def rangeArg (S : KSt) (g : Operand) : Option (Nat × List D) := match kop S.T g with
  | some (.d (.fn f ds)) => some (f, ds)
  | some fv => match fnK fv with
    | some (f, cs) => match mapK (snapK false S 8) cs with
      | some caps => some (f, KV.toDL caps)
      | none => none
    | none => none
  | none => none
theorem rangeArg_spec {S : KSt} {g : Operand} {f : Nat} {ds : List D} (h : rangeArg S g = some (f, ds)) (hna : noAggD ds = true) : ∃ fv caps, opnd S.st.T g = some fv ∧ fnOf fv = some (f, caps) ∧ snapL false S.st caps = some ds := by
  unfold rangeArg at h
  split at h
  · rename_i f' ds' h1
    simp only [Option.some.injEq, Prod.mk.injEq] at h
    obtain ⟨rfl, rfl⟩ := h
    exact ⟨_, _, kop_st h1, rfl, snapL_app (cs := []) (xs := []) rfl hna⟩
  · rename_i fv _ h1
    split at h
    · rename_i f' cs h2
      split at h
      · rename_i caps0 h3
        simp only [Option.some.injEq, Prod.mk.injEq] at h
        obtain ⟨rfl, rfl⟩ := h
        exact ⟨_, _, kop_st h1, fnK_spec h2, snapL_spec' h3⟩
      · cases h
    · cases h
  · cases h
theorem st_ho (S : KSt) (x : List (Nat × KBlk) × List (Nat × KRow)) : (S.ho x).st = S.st.ho (mapH x.1, mapO x.2) := rfl
theorem weak_ho {S : St} {x y : HO} (hH : subH x.1 y.1) (hO : subO x.2 y.2) : Weak (S.ho x) (S.ho y) :=
  Less.weak (S := S.ho x) (S' := S.ho y) (Less.mk rfl (Nat.le_refl _) (fun _ _ h => h) (fun b B h => ⟨B.live, subH_look hH h, id⟩) (fun b B h => ⟨B.live, subO_look hO h, id⟩))
theorem W_range {A : Type u} {I : Prim E.σ} (hI : I = primK P E base none post) (hT : SeatOk P tb) (pz : List Nat) {g : Operand} {ps : Array Tmp} {assign body : Code} {S : KSt} {s : E.σ} {Q : Exit → KSt → E.σ → Prop} {f : Nat} {ds : List D} {ys : List (List KV)} (hdr : (drawsOk assign && drawsOk body) = true)
    (hit : IterCon P f ds (ys.map KV.toDL)) (hna : noAggD ds = true) (hs : A → List (Nat × KBlk) × List (Nat × KRow)) (inv : Nat → A → E.σ → Prop) (jx : Exit → A → E.σ → Prop) (a0 : A) (hg : rangeArg (S.ho (hs a0)) g = some (f, ds))
    (hlen : ∀ y ∈ ys, lenK y = ps.size ∧ okArgs y = true) (N : Nat) (hps : (belowN S.n ps.toList && calmTK N S.T && Nat.ble S.low N) = true) (hH : eqH S.H (hs a0).1) (hO : eqO S.O (hs a0).2) (h0 : inv 0 a0 s)
    (round : ∀ (i : Nat) (y : List KV) (a : A) (s : E.σ), ys[i]? = some y → inv i a s → ∀ (l : Nat) (I : Prim E.σ), I = primK P E base (some l) post → ∀ (R : Exit → KSt → E.σ → Prop), (∀ S' s' a', eqH S'.H (hs a').1 → eqO S'.O (hs a').2 → inv (i + 1) a' s' → R .normal S' s') → (∀ e S' s' a', (match e with | .normal => false | .panic _ => false | .outgrown => false | _ => true) = true → eqH S'.H (hs a').1 → eqO S'.O (hs a').2 → jx e a' s' → R e S' s') →
      wpK I tb pz assign ⟨S.n, putPK ps.toList y S.T, (hs a).1, (hs a).2, N⟩ s (assignK fun S2 s2 => wpK I tb pz body S2 s2 R))
    (hend : ∀ a s', inv ys.length a s' → Q .normal (S.ho (hs a)) s') (hjmp : ∀ e a s', jx e a s' → Q e (S.ho (hs a)) s') : I.W (.rangeFunc g ps assign body) S s Q := by
  subst hI
  simp only [Bool.and_eq_true] at hdr hps
  obtain ⟨⟨hp1, hp2⟩, hp3⟩ := hps
  obtain ⟨fv, cs, h1, h2, h3⟩ := rangeArg_spec hg hna
  have hwk : Weak S.st (S.ho (hs a0)).st := by
    rw [st_ho]
    exact weak_ho (S := S.st) (x := (S.st.H, S.st.O)) (eqH_spec hH) (eqO_spec hO)
  refine AW_weak hwk ?_
  refine AW_rangeFunc (ys := ys.map KV.toDL) N h1 h2 h3 hit (fun y hy => ?_) hp1 (by rw [show (S.ho (hs a0)).st.T = mapT S.T from rfl, calmTK_spec]; exact hp2) (Nat.le_of_ble_eq_true hp3)
    (fun i x s => ∃ a, x = (mapH (hs a).1, mapO (hs a).2) ∧ inv i a s) (fun e x s => ∃ a, subH x.1 (mapH (hs a).1) ∧ subO x.2 (mapO (hs a).2) ∧ jx e a s) ⟨a0, rfl, h0⟩ ?_ ?_ ?_
  · obtain ⟨y', hy', rfl⟩ := List.mem_map.1 hy
    rw [toDL_len]; exact (hlen y' hy').1
  · rintro i y x s hi ⟨a, rfl, ha⟩ l
    rw [List.getElem?_map] at hi
    cases hy : ys[i]? with
    | none => rw [hy] at hi; cases hi
    | some y' =>
      rw [hy] at hi
      cases hi
      have hok := (hlen y' (List.mem_of_getElem? hy)).2
      have hrd := wpK_aw hT.mix hT.tab hdr.1 (round i y' a s hy ha l _ rfl (roundK hs (inv (i + 1)) jx) (fun S' s' a' h1 h2 h3 => ⟨a', h1, h2, h3⟩) (fun e S' s' a' he h1 h2 h3 => by cases e <;> first | exact ⟨a', h1, h2, h3⟩ | cases he))
      have hlq : Leq (SR (S.ho (hs a0)).st ps.toList (KV.toDL y') (mapH (hs a).1, mapO (hs a).2) N) (KSt.st ⟨S.n, putPK ps.toList y' S.T, (hs a).1, (hs a).2, N⟩) :=
        ⟨rfl, rfl, fun t => (putPK_spec hok t), fun _ => rfl, fun _ => rfl⟩
      refine AW_weak hlq.less.weak (AW_weakQ (hrd.mono ?_))
      rintro e S2 s2 ⟨S3, hw3, hq⟩
      refine ⟨S3.st, hw3, ?_⟩
      cases e with
      | normal =>
        refine ⟨rfl, ?_⟩
        have hb := wpK_aw hT.mix hT.tab hdr.2 (show wpK _ tb pz body S3 s2 _ from hq)
        refine AW_weakQ (hb.mono ?_)
        rintro e S4 s4 ⟨S5, hw5, hq⟩
        refine ⟨S5.st, hw5, ?_⟩
        cases e with
        | normal =>
          obtain ⟨a', e1, e2, e3⟩ := hq
          exact ⟨S5.st.ho (mapH (hs a').1, mapO (hs a').2), weak_ho (S := S5.st) (x := (S5.st.H, S5.st.O)) (eqH_spec e1) (eqO_spec e2), a', rfl, e3⟩
        | panic => exact hq.elim
        | outgrown => exact hq.elim
        | _ =>
          obtain ⟨a', e1, e2, e3⟩ := hq
          exact ⟨a', eqH_spec e1, eqO_spec e2, e3⟩
      | _ => exact hq.elim
  · rintro x s' ⟨a, rfl, ha⟩
    rw [List.length_map] at ha
    exact ⟨S.ho (hs a), Weak.refl _, hend a s' ha⟩
  · rintro e c x s' _ ⟨a, e1, e2, e3⟩
    exact ⟨S.ho (hs a), weak_ho (S := S.st) (x := x) (y := (mapH (hs a).1, mapO (hs a).2)) e1 e2, hjmp e a s' e3⟩
end Go.Proofs.Ytnekemldcjegaaa.Aw

/- The types and functions of the seat's program, as a table. Printed by wip/gen/tab.py. -/
namespace Go.Proofs.Ytnekemldcjegaaa.Aw
open Go Go.RowKit Go.Proofs
set_option linter.unusedVariables false
def ti0 : TI := ⟨1, false, none, none, none, none, 0, .other, [], none⟩
theorem ok0 : TIOk Try.prog 0 ti0 := ⟨(by kernel_rfl), (by kernel_rfl), (fun r h => nomatch h), (fun r h => nomatch h), (fun r h => nomatch h), (fun r h => nomatch h), (by kernel_rfl), (fun h => nomatch h), (fun h => nomatch h), (fun k h => nomatch h), (fun f r h => nomatch h), (fun n h => nomatch h)⟩
def ti1 : TI := ⟨1, false, none, none, (some [.nilfn]), none, 8, .other, [], none⟩
theorem ok1 : TIOk Try.prog 1 ti1 := ⟨(by kernel_rfl), (by kernel_rfl), (fun r h => nomatch h), (fun r h => nomatch h), (fun r h => by cases h; kernel_rfl), (fun r h => nomatch h), (by kernel_rfl), (fun h => nomatch h), (fun h => nomatch h), (fun k h => nomatch h), (fun f r h => nomatch h), (fun n h => nomatch h)⟩
def ti2 : TI := ⟨1, false, none, none, (some [.int .i64 0]), none, 8, (.int .i64), [], none⟩
theorem ok2 : TIOk Try.prog 2 ti2 := ⟨(by kernel_rfl), (by kernel_rfl), (fun r h => nomatch h), (fun r h => nomatch h), (fun r h => by cases h; kernel_rfl), (fun r h => nomatch h), (by kernel_rfl), (fun h => nomatch h), (fun h => nomatch h), (fun k h => by cases h; kernel_rfl), (fun f r h => nomatch h), (fun n h => nomatch h)⟩
def ti3 : TI := ⟨1, false, none, none, (some [.int .i64 0]), none, 8, (.int .i64), [], none⟩
theorem ok3 : TIOk Try.prog 3 ti3 := ⟨(by kernel_rfl), (by kernel_rfl), (fun r h => nomatch h), (fun r h => nomatch h), (fun r h => by cases h; kernel_rfl), (fun r h => nomatch h), (by kernel_rfl), (fun h => nomatch h), (fun h => nomatch h), (fun k h => by cases h; kernel_rfl), (fun f r h => nomatch h), (fun n h => nomatch h)⟩
def ti4 : TI := ⟨1, false, none, none, (some [.bool false]), none, 1, .bool, [], none⟩
theorem ok4 : TIOk Try.prog 4 ti4 := ⟨(by kernel_rfl), (by kernel_rfl), (fun r h => nomatch h), (fun r h => nomatch h), (fun r h => by cases h; kernel_rfl), (fun r h => nomatch h), (by kernel_rfl), (fun _ => by kernel_rfl), (fun h => nomatch h), (fun k h => nomatch h), (fun f r h => nomatch h), (fun n h => nomatch h)⟩
def ti5 : TI := ⟨1, false, none, none, (some [.int .u8 0]), none, 1, (.int .u8), [], none⟩
theorem ok5 : TIOk Try.prog 5 ti5 := ⟨(by kernel_rfl), (by kernel_rfl), (fun r h => nomatch h), (fun r h => nomatch h), (fun r h => by cases h; kernel_rfl), (fun r h => nomatch h), (by kernel_rfl), (fun h => nomatch h), (fun h => nomatch h), (fun k h => by cases h; kernel_rfl), (fun f r h => nomatch h), (fun n h => nomatch h)⟩
def ti6 : TI := ⟨1, false, none, none, (some [.int .u8 0]), none, 1, (.int .u8), [], none⟩
theorem ok6 : TIOk Try.prog 6 ti6 := ⟨(by kernel_rfl), (by kernel_rfl), (fun r h => nomatch h), (fun r h => nomatch h), (fun r h => by cases h; kernel_rfl), (fun r h => nomatch h), (by kernel_rfl), (fun h => nomatch h), (fun h => nomatch h), (fun k h => by cases h; kernel_rfl), (fun f r h => nomatch h), (fun n h => nomatch h)⟩
def ti7 : TI := ⟨4, true, none, none, (some [.int .i64 0, .int .i64 0, .bool false, .int .u8 0]), (some (.st [(0, 1), (1, 1), (2, 1), (3, 1)])), 24, .other, [(0, 1, 2), (1, 1, 3), (2, 1, 4), (3, 1, 6)], none⟩
theorem ok7 : TIOk Try.prog 7 ti7 := ⟨(by kernel_rfl), (by kernel_rfl), (fun r h => nomatch h), (fun r h => nomatch h), (fun r h => by cases h; kernel_rfl), (fun r h => by cases h; kernel_rfl), (by kernel_rfl), (fun h => nomatch h), (fun h => nomatch h), (fun k h => nomatch h), (fun f r h => match f, h with | 0, h => by cases h; kernel_rfl | 1, h => by cases h; kernel_rfl | 2, h => by cases h; kernel_rfl | 3, h => by cases h; kernel_rfl | (n + 4), h => by simp [ti7, nth] at h), (fun n h => nomatch h)⟩
def ti8 : TI := ⟨4, true, none, none, (some [.int .i64 0, .int .i64 0, .bool false, .int .u8 0]), (some (.st [(0, 1), (1, 1), (2, 1), (3, 1)])), 24, .other, [(0, 1, 2), (1, 1, 3), (2, 1, 4), (3, 1, 6)], none⟩
theorem ok8 : TIOk Try.prog 8 ti8 := ⟨(by kernel_rfl), (by kernel_rfl), (fun r h => nomatch h), (fun r h => nomatch h), (fun r h => by cases h; kernel_rfl), (fun r h => by cases h; kernel_rfl), (by kernel_rfl), (fun h => nomatch h), (fun h => nomatch h), (fun k h => nomatch h), (fun f r h => match f, h with | 0, h => by cases h; kernel_rfl | 1, h => by cases h; kernel_rfl | 2, h => by cases h; kernel_rfl | 3, h => by cases h; kernel_rfl | (n + 4), h => by simp [ti8, nth] at h), (fun n h => nomatch h)⟩
def ti9 : TI := ⟨1, false, none, none, (some [.str ⟨#[]⟩]), none, 16, .str, [], none⟩
theorem ok9 : TIOk Try.prog 9 ti9 := ⟨(by kernel_rfl), (by kernel_rfl), (fun r h => nomatch h), (fun r h => nomatch h), (fun r h => by cases h; kernel_rfl), (fun r h => nomatch h), (by kernel_rfl), (fun h => nomatch h), (fun _ => by kernel_rfl), (fun k h => nomatch h), (fun f r h => nomatch h), (fun n h => nomatch h)⟩
def ti10 : TI := ⟨1, false, none, none, (some [.str ⟨#[]⟩]), none, 16, .str, [], none⟩
theorem ok10 : TIOk Try.prog 10 ti10 := ⟨(by kernel_rfl), (by kernel_rfl), (fun r h => nomatch h), (fun r h => nomatch h), (fun r h => by cases h; kernel_rfl), (fun r h => nomatch h), (by kernel_rfl), (fun h => nomatch h), (fun _ => by kernel_rfl), (fun k h => nomatch h), (fun f r h => nomatch h), (fun n h => nomatch h)⟩
def ti11 : TI := ⟨1, false, none, none, (some [.str ⟨#[]⟩]), none, 16, .str, [], none⟩
theorem ok11 : TIOk Try.prog 11 ti11 := ⟨(by kernel_rfl), (by kernel_rfl), (fun r h => nomatch h), (fun r h => nomatch h), (fun r h => by cases h; kernel_rfl), (fun r h => nomatch h), (by kernel_rfl), (fun h => nomatch h), (fun _ => by kernel_rfl), (fun k h => nomatch h), (fun f r h => nomatch h), (fun n h => nomatch h)⟩
def ti12 : TI := ⟨1, false, none, none, (some [.int .u64 0]), none, 8, (.int .u64), [], none⟩
theorem ok12 : TIOk Try.prog 12 ti12 := ⟨(by kernel_rfl), (by kernel_rfl), (fun r h => nomatch h), (fun r h => nomatch h), (fun r h => by cases h; kernel_rfl), (fun r h => nomatch h), (by kernel_rfl), (fun h => nomatch h), (fun h => nomatch h), (fun k h => by cases h; kernel_rfl), (fun f r h => nomatch h), (fun n h => nomatch h)⟩
def ti13 : TI := ⟨2, true, none, none, (some [.str ⟨#[]⟩, .int .u64 0]), (some (.st [(0, 1), (1, 1)])), 24, .other, [(0, 1, 9), (1, 1, 12)], none⟩
theorem ok13 : TIOk Try.prog 13 ti13 := ⟨(by kernel_rfl), (by kernel_rfl), (fun r h => nomatch h), (fun r h => nomatch h), (fun r h => by cases h; kernel_rfl), (fun r h => by cases h; kernel_rfl), (by kernel_rfl), (fun h => nomatch h), (fun h => nomatch h), (fun k h => nomatch h), (fun f r h => match f, h with | 0, h => by cases h; kernel_rfl | 1, h => by cases h; kernel_rfl | (n + 2), h => by simp [ti13, nth] at h), (fun n h => nomatch h)⟩
def ti14 : TI := ⟨2, true, none, none, (some [.str ⟨#[]⟩, .int .u64 0]), (some (.st [(0, 1), (1, 1)])), 24, .other, [(0, 1, 9), (1, 1, 12)], none⟩
theorem ok14 : TIOk Try.prog 14 ti14 := ⟨(by kernel_rfl), (by kernel_rfl), (fun r h => nomatch h), (fun r h => nomatch h), (fun r h => by cases h; kernel_rfl), (fun r h => by cases h; kernel_rfl), (by kernel_rfl), (fun h => nomatch h), (fun h => nomatch h), (fun k h => nomatch h), (fun f r h => match f, h with | 0, h => by cases h; kernel_rfl | 1, h => by cases h; kernel_rfl | (n + 2), h => by simp [ti14, nth] at h), (fun n h => nomatch h)⟩
def ti15 : TI := ⟨1, false, none, none, (some [.nilptr]), none, 8, .other, [], none⟩
theorem ok15 : TIOk Try.prog 15 ti15 := ⟨(by kernel_rfl), (by kernel_rfl), (fun r h => nomatch h), (fun r h => nomatch h), (fun r h => by cases h; kernel_rfl), (fun r h => nomatch h), (by kernel_rfl), (fun h => nomatch h), (fun h => nomatch h), (fun k h => nomatch h), (fun f r h => nomatch h), (fun n h => nomatch h)⟩
def ti16 : TI := ⟨1, false, none, none, (some [.nilptr]), none, 8, .other, [], none⟩
theorem ok16 : TIOk Try.prog 16 ti16 := ⟨(by kernel_rfl), (by kernel_rfl), (fun r h => nomatch h), (fun r h => nomatch h), (fun r h => by cases h; kernel_rfl), (fun r h => nomatch h), (by kernel_rfl), (fun h => nomatch h), (fun h => nomatch h), (fun k h => nomatch h), (fun f r h => nomatch h), (fun n h => nomatch h)⟩
def ti17 : TI := ⟨1, false, none, none, (some [.nilptr]), none, 8, .other, [], none⟩
theorem ok17 : TIOk Try.prog 17 ti17 := ⟨(by kernel_rfl), (by kernel_rfl), (fun r h => nomatch h), (fun r h => nomatch h), (fun r h => by cases h; kernel_rfl), (fun r h => nomatch h), (by kernel_rfl), (fun h => nomatch h), (fun h => nomatch h), (fun k h => nomatch h), (fun f r h => nomatch h), (fun n h => nomatch h)⟩
def ti18 : TI := ⟨1, true, none, none, (some [.nilptr]), (some (.st [(0, 1)])), 8, .other, [(0, 1, 17)], none⟩
theorem ok18 : TIOk Try.prog 18 ti18 := ⟨(by kernel_rfl), (by kernel_rfl), (fun r h => nomatch h), (fun r h => nomatch h), (fun r h => by cases h; kernel_rfl), (fun r h => by cases h; kernel_rfl), (by kernel_rfl), (fun h => nomatch h), (fun h => nomatch h), (fun k h => nomatch h), (fun f r h => match f, h with | 0, h => by cases h; kernel_rfl | (n + 1), h => by simp [ti18, nth] at h), (fun n h => nomatch h)⟩
def ti19 : TI := ⟨1, true, none, none, (some [.nilptr]), (some (.st [(0, 1)])), 8, .other, [(0, 1, 17)], none⟩
theorem ok19 : TIOk Try.prog 19 ti19 := ⟨(by kernel_rfl), (by kernel_rfl), (fun r h => nomatch h), (fun r h => nomatch h), (fun r h => by cases h; kernel_rfl), (fun r h => by cases h; kernel_rfl), (by kernel_rfl), (fun h => nomatch h), (fun h => nomatch h), (fun k h => nomatch h), (fun f r h => match f, h with | 0, h => by cases h; kernel_rfl | (n + 1), h => by simp [ti19, nth] at h), (fun n h => nomatch h)⟩
def ti20 : TI := ⟨1, false, none, none, none, none, 16, .other, [], none⟩
theorem ok20 : TIOk Try.prog 20 ti20 := ⟨(by kernel_rfl), (by kernel_rfl), (fun r h => nomatch h), (fun r h => nomatch h), (fun r h => nomatch h), (fun r h => nomatch h), (by kernel_rfl), (fun h => nomatch h), (fun h => nomatch h), (fun k h => nomatch h), (fun f r h => nomatch h), (fun n h => nomatch h)⟩
def ti21 : TI := ⟨1, false, none, none, (some [.int .i32 0]), none, 4, (.int .i32), [], none⟩
theorem ok21 : TIOk Try.prog 21 ti21 := ⟨(by kernel_rfl), (by kernel_rfl), (fun r h => nomatch h), (fun r h => nomatch h), (fun r h => by cases h; kernel_rfl), (fun r h => nomatch h), (by kernel_rfl), (fun h => nomatch h), (fun h => nomatch h), (fun k h => by cases h; kernel_rfl), (fun f r h => nomatch h), (fun n h => nomatch h)⟩
def ti22 : TI := ⟨1, false, (some (105, 4)), none, (some [.nilsl]), none, 24, .other, [], none⟩
theorem ok22 : TIOk Try.prog 22 ti22 := ⟨(by kernel_rfl), (by kernel_rfl), (fun r h => by cases h; kernel_rfl), (fun r h => nomatch h), (fun r h => by cases h; kernel_rfl), (fun r h => nomatch h), (by kernel_rfl), (fun h => nomatch h), (fun h => nomatch h), (fun k h => nomatch h), (fun f r h => nomatch h), (fun n h => nomatch h)⟩
def ti23 : TI := ⟨1, false, (some (49, 4)), none, (some [.nilsl]), none, 24, .other, [], none⟩
theorem ok23 : TIOk Try.prog 23 ti23 := ⟨(by kernel_rfl), (by kernel_rfl), (fun r h => by cases h; kernel_rfl), (fun r h => nomatch h), (fun r h => by cases h; kernel_rfl), (fun r h => nomatch h), (by kernel_rfl), (fun h => nomatch h), (fun h => nomatch h), (fun k h => nomatch h), (fun f r h => nomatch h), (fun n h => nomatch h)⟩
def ti24 : TI := ⟨2, true, none, none, (some [.nilsl, .nilsl]), (some (.st [(0, 1), (1, 1)])), 48, .other, [(0, 1, 22), (1, 1, 23)], none⟩
theorem ok24 : TIOk Try.prog 24 ti24 := ⟨(by kernel_rfl), (by kernel_rfl), (fun r h => nomatch h), (fun r h => nomatch h), (fun r h => by cases h; kernel_rfl), (fun r h => by cases h; kernel_rfl), (by kernel_rfl), (fun h => nomatch h), (fun h => nomatch h), (fun k h => nomatch h), (fun f r h => match f, h with | 0, h => by cases h; kernel_rfl | 1, h => by cases h; kernel_rfl | (n + 2), h => by simp [ti24, nth] at h), (fun n h => nomatch h)⟩
def ti25 : TI := ⟨2, true, none, none, (some [.nilsl, .nilsl]), (some (.st [(0, 1), (1, 1)])), 48, .other, [(0, 1, 22), (1, 1, 23)], none⟩
theorem ok25 : TIOk Try.prog 25 ti25 := ⟨(by kernel_rfl), (by kernel_rfl), (fun r h => nomatch h), (fun r h => nomatch h), (fun r h => by cases h; kernel_rfl), (fun r h => by cases h; kernel_rfl), (by kernel_rfl), (fun h => nomatch h), (fun h => nomatch h), (fun k h => nomatch h), (fun f r h => match f, h with | 0, h => by cases h; kernel_rfl | 1, h => by cases h; kernel_rfl | (n + 2), h => by simp [ti25, nth] at h), (fun n h => nomatch h)⟩
def ti26 : TI := ⟨1, false, none, none, (some [.nilfn]), none, 8, .other, [], none⟩
theorem ok26 : TIOk Try.prog 26 ti26 := ⟨(by kernel_rfl), (by kernel_rfl), (fun r h => nomatch h), (fun r h => nomatch h), (fun r h => by cases h; kernel_rfl), (fun r h => nomatch h), (by kernel_rfl), (fun h => nomatch h), (fun h => nomatch h), (fun k h => nomatch h), (fun f r h => nomatch h), (fun n h => nomatch h)⟩
def ti27 : TI := ⟨1, false, none, none, (some [.nilfn]), none, 8, .other, [], none⟩
theorem ok27 : TIOk Try.prog 27 ti27 := ⟨(by kernel_rfl), (by kernel_rfl), (fun r h => nomatch h), (fun r h => nomatch h), (fun r h => by cases h; kernel_rfl), (fun r h => nomatch h), (by kernel_rfl), (fun h => nomatch h), (fun h => nomatch h), (fun k h => nomatch h), (fun f r h => nomatch h), (fun n h => nomatch h)⟩
def ti28 : TI := ⟨1, false, none, none, (some [.nilfn]), none, 8, .other, [], none⟩
theorem ok28 : TIOk Try.prog 28 ti28 := ⟨(by kernel_rfl), (by kernel_rfl), (fun r h => nomatch h), (fun r h => nomatch h), (fun r h => by cases h; kernel_rfl), (fun r h => nomatch h), (by kernel_rfl), (fun h => nomatch h), (fun h => nomatch h), (fun k h => nomatch h), (fun f r h => nomatch h), (fun n h => nomatch h)⟩
def ti29 : TI := ⟨1, false, none, none, (some [.int .i64 0]), none, 8, (.int .i64), [], none⟩
theorem ok29 : TIOk Try.prog 29 ti29 := ⟨(by kernel_rfl), (by kernel_rfl), (fun r h => nomatch h), (fun r h => nomatch h), (fun r h => by cases h; kernel_rfl), (fun r h => nomatch h), (by kernel_rfl), (fun h => nomatch h), (fun h => nomatch h), (fun k h => by cases h; kernel_rfl), (fun f r h => nomatch h), (fun n h => nomatch h)⟩
def ti30 : TI := ⟨1, false, none, none, (some [.nilfn]), none, 8, .other, [], none⟩
theorem ok30 : TIOk Try.prog 30 ti30 := ⟨(by kernel_rfl), (by kernel_rfl), (fun r h => nomatch h), (fun r h => nomatch h), (fun r h => by cases h; kernel_rfl), (fun r h => nomatch h), (by kernel_rfl), (fun h => nomatch h), (fun h => nomatch h), (fun k h => nomatch h), (fun f r h => nomatch h), (fun n h => nomatch h)⟩
def ti31 : TI := ⟨1, false, (some (70, 2)), none, (some [.nilsl]), none, 24, .other, [], none⟩
theorem ok31 : TIOk Try.prog 31 ti31 := ⟨(by kernel_rfl), (by kernel_rfl), (fun r h => by cases h; kernel_rfl), (fun r h => nomatch h), (fun r h => by cases h; kernel_rfl), (fun r h => nomatch h), (by kernel_rfl), (fun h => nomatch h), (fun h => nomatch h), (fun k h => nomatch h), (fun f r h => nomatch h), (fun n h => nomatch h)⟩
def ti32 : TI := ⟨1, false, none, none, none, none, 0, .other, [], none⟩
theorem ok32 : TIOk Try.prog 32 ti32 := ⟨(by kernel_rfl), (by kernel_rfl), (fun r h => nomatch h), (fun r h => nomatch h), (fun r h => nomatch h), (fun r h => nomatch h), (by kernel_rfl), (fun h => nomatch h), (fun h => nomatch h), (fun k h => nomatch h), (fun f r h => nomatch h), (fun n h => nomatch h)⟩
def ti33 : TI := ⟨1, false, none, none, (some [.nilfn]), none, 8, .other, [], none⟩
theorem ok33 : TIOk Try.prog 33 ti33 := ⟨(by kernel_rfl), (by kernel_rfl), (fun r h => nomatch h), (fun r h => nomatch h), (fun r h => by cases h; kernel_rfl), (fun r h => nomatch h), (by kernel_rfl), (fun h => nomatch h), (fun h => nomatch h), (fun k h => nomatch h), (fun f r h => nomatch h), (fun n h => nomatch h)⟩
def ti34 : TI := ⟨1, false, none, none, (some [.nilfn]), none, 8, .other, [], none⟩
theorem ok34 : TIOk Try.prog 34 ti34 := ⟨(by kernel_rfl), (by kernel_rfl), (fun r h => nomatch h), (fun r h => nomatch h), (fun r h => by cases h; kernel_rfl), (fun r h => nomatch h), (by kernel_rfl), (fun h => nomatch h), (fun h => nomatch h), (fun k h => nomatch h), (fun f r h => nomatch h), (fun n h => nomatch h)⟩
def ti35 : TI := ⟨1, false, none, none, (some [.nilfn]), none, 8, .other, [], none⟩
theorem ok35 : TIOk Try.prog 35 ti35 := ⟨(by kernel_rfl), (by kernel_rfl), (fun r h => nomatch h), (fun r h => nomatch h), (fun r h => by cases h; kernel_rfl), (fun r h => nomatch h), (by kernel_rfl), (fun h => nomatch h), (fun h => nomatch h), (fun k h => nomatch h), (fun f r h => nomatch h), (fun n h => nomatch h)⟩
def ti36 : TI := ⟨1, false, none, none, (some [.nilfn]), none, 8, .other, [], none⟩
theorem ok36 : TIOk Try.prog 36 ti36 := ⟨(by kernel_rfl), (by kernel_rfl), (fun r h => nomatch h), (fun r h => nomatch h), (fun r h => by cases h; kernel_rfl), (fun r h => nomatch h), (by kernel_rfl), (fun h => nomatch h), (fun h => nomatch h), (fun k h => nomatch h), (fun f r h => nomatch h), (fun n h => nomatch h)⟩
def ti37 : TI := ⟨1, false, none, none, (some [.nilfn]), none, 8, .other, [], none⟩
theorem ok37 : TIOk Try.prog 37 ti37 := ⟨(by kernel_rfl), (by kernel_rfl), (fun r h => nomatch h), (fun r h => nomatch h), (fun r h => by cases h; kernel_rfl), (fun r h => nomatch h), (by kernel_rfl), (fun h => nomatch h), (fun h => nomatch h), (fun k h => nomatch h), (fun f r h => nomatch h), (fun n h => nomatch h)⟩
def ti38 : TI := ⟨1, false, none, none, (some [.nilfn]), none, 8, .other, [], none⟩
theorem ok38 : TIOk Try.prog 38 ti38 := ⟨(by kernel_rfl), (by kernel_rfl), (fun r h => nomatch h), (fun r h => nomatch h), (fun r h => by cases h; kernel_rfl), (fun r h => nomatch h), (by kernel_rfl), (fun h => nomatch h), (fun h => nomatch h), (fun k h => nomatch h), (fun f r h => nomatch h), (fun n h => nomatch h)⟩
def ti39 : TI := ⟨1, false, none, none, (some [.nilfn]), none, 8, .other, [], none⟩
theorem ok39 : TIOk Try.prog 39 ti39 := ⟨(by kernel_rfl), (by kernel_rfl), (fun r h => nomatch h), (fun r h => nomatch h), (fun r h => by cases h; kernel_rfl), (fun r h => nomatch h), (by kernel_rfl), (fun h => nomatch h), (fun h => nomatch h), (fun k h => nomatch h), (fun f r h => nomatch h), (fun n h => nomatch h)⟩
def ti40 : TI := ⟨1, false, none, none, (some [.nilfn]), none, 8, .other, [], none⟩
theorem ok40 : TIOk Try.prog 40 ti40 := ⟨(by kernel_rfl), (by kernel_rfl), (fun r h => nomatch h), (fun r h => nomatch h), (fun r h => by cases h; kernel_rfl), (fun r h => nomatch h), (by kernel_rfl), (fun h => nomatch h), (fun h => nomatch h), (fun k h => nomatch h), (fun f r h => nomatch h), (fun n h => nomatch h)⟩
def ti41 : TI := ⟨1, false, none, none, (some [.int .i64 0]), none, 8, (.int .i64), [], none⟩
theorem ok41 : TIOk Try.prog 41 ti41 := ⟨(by kernel_rfl), (by kernel_rfl), (fun r h => nomatch h), (fun r h => nomatch h), (fun r h => by cases h; kernel_rfl), (fun r h => nomatch h), (by kernel_rfl), (fun h => nomatch h), (fun h => nomatch h), (fun k h => by cases h; kernel_rfl), (fun f r h => nomatch h), (fun n h => nomatch h)⟩
def ti42 : TI := ⟨1, false, none, none, none, none, 0, .other, [], none⟩
theorem ok42 : TIOk Try.prog 42 ti42 := ⟨(by kernel_rfl), (by kernel_rfl), (fun r h => nomatch h), (fun r h => nomatch h), (fun r h => nomatch h), (fun r h => nomatch h), (by kernel_rfl), (fun h => nomatch h), (fun h => nomatch h), (fun k h => nomatch h), (fun f r h => nomatch h), (fun n h => nomatch h)⟩
def ti43 : TI := ⟨1, false, none, none, (some [.nilfn]), none, 8, .other, [], none⟩
theorem ok43 : TIOk Try.prog 43 ti43 := ⟨(by kernel_rfl), (by kernel_rfl), (fun r h => nomatch h), (fun r h => nomatch h), (fun r h => by cases h; kernel_rfl), (fun r h => nomatch h), (by kernel_rfl), (fun h => nomatch h), (fun h => nomatch h), (fun k h => nomatch h), (fun f r h => nomatch h), (fun n h => nomatch h)⟩
def ti44 : TI := ⟨1, false, none, none, (some [.nilfn]), none, 8, .other, [], none⟩
theorem ok44 : TIOk Try.prog 44 ti44 := ⟨(by kernel_rfl), (by kernel_rfl), (fun r h => nomatch h), (fun r h => nomatch h), (fun r h => by cases h; kernel_rfl), (fun r h => nomatch h), (by kernel_rfl), (fun h => nomatch h), (fun h => nomatch h), (fun k h => nomatch h), (fun f r h => nomatch h), (fun n h => nomatch h)⟩
def ti45 : TI := ⟨1, false, none, none, none, none, 0, .other, [], none⟩
theorem ok45 : TIOk Try.prog 45 ti45 := ⟨(by kernel_rfl), (by kernel_rfl), (fun r h => nomatch h), (fun r h => nomatch h), (fun r h => nomatch h), (fun r h => nomatch h), (by kernel_rfl), (fun h => nomatch h), (fun h => nomatch h), (fun k h => nomatch h), (fun f r h => nomatch h), (fun n h => nomatch h)⟩
def ti46 : TI := ⟨1, false, none, none, (some [.nilfn]), none, 8, .other, [], none⟩
theorem ok46 : TIOk Try.prog 46 ti46 := ⟨(by kernel_rfl), (by kernel_rfl), (fun r h => nomatch h), (fun r h => nomatch h), (fun r h => by cases h; kernel_rfl), (fun r h => nomatch h), (by kernel_rfl), (fun h => nomatch h), (fun h => nomatch h), (fun k h => nomatch h), (fun f r h => nomatch h), (fun n h => nomatch h)⟩
def ti47 : TI := ⟨1, false, none, none, (some [.nilfn]), none, 8, .other, [], none⟩
theorem ok47 : TIOk Try.prog 47 ti47 := ⟨(by kernel_rfl), (by kernel_rfl), (fun r h => nomatch h), (fun r h => nomatch h), (fun r h => by cases h; kernel_rfl), (fun r h => nomatch h), (by kernel_rfl), (fun h => nomatch h), (fun h => nomatch h), (fun k h => nomatch h), (fun f r h => nomatch h), (fun n h => nomatch h)⟩
def ti48 : TI := ⟨4, true, none, none, (some [.int .i64 0, .int .i64 0, .int .i64 0, .int .i64 0]), (some (.st [(0, 1), (1, 1), (2, 1), (3, 1)])), 32, .other, [(0, 1, 41), (1, 1, 3), (2, 1, 3), (3, 1, 3)], (some 4)⟩
theorem ok48 : TIOk Try.prog 48 ti48 := ⟨(by kernel_rfl), (by kernel_rfl), (fun r h => nomatch h), (fun r h => nomatch h), (fun r h => by cases h; kernel_rfl), (fun r h => by cases h; kernel_rfl), (by kernel_rfl), (fun h => nomatch h), (fun h => nomatch h), (fun k h => nomatch h), (fun f r h => match f, h with | 0, h => by cases h; kernel_rfl | 1, h => by cases h; kernel_rfl | 2, h => by cases h; kernel_rfl | 3, h => by cases h; kernel_rfl | (n + 4), h => by simp [ti48, nth] at h), (fun n h => by cases h; exact ⟨by kernel_rfl, by kernel_rfl, by kernel_rfl⟩)⟩
def ti49 : TI := ⟨4, true, none, none, (some [.int .i64 0, .int .i64 0, .int .i64 0, .int .i64 0]), (some (.st [(0, 1), (1, 1), (2, 1), (3, 1)])), 32, .other, [(0, 1, 41), (1, 1, 3), (2, 1, 3), (3, 1, 3)], (some 4)⟩
theorem ok49 : TIOk Try.prog 49 ti49 := ⟨(by kernel_rfl), (by kernel_rfl), (fun r h => nomatch h), (fun r h => nomatch h), (fun r h => by cases h; kernel_rfl), (fun r h => by cases h; kernel_rfl), (by kernel_rfl), (fun h => nomatch h), (fun h => nomatch h), (fun k h => nomatch h), (fun f r h => match f, h with | 0, h => by cases h; kernel_rfl | 1, h => by cases h; kernel_rfl | 2, h => by cases h; kernel_rfl | 3, h => by cases h; kernel_rfl | (n + 4), h => by simp [ti49, nth] at h), (fun n h => by cases h; exact ⟨by kernel_rfl, by kernel_rfl, by kernel_rfl⟩)⟩
def ti50 : TI := ⟨1, false, none, none, none, none, 0, .other, [], none⟩
theorem ok50 : TIOk Try.prog 50 ti50 := ⟨(by kernel_rfl), (by kernel_rfl), (fun r h => nomatch h), (fun r h => nomatch h), (fun r h => nomatch h), (fun r h => nomatch h), (by kernel_rfl), (fun h => nomatch h), (fun h => nomatch h), (fun k h => nomatch h), (fun f r h => nomatch h), (fun n h => nomatch h)⟩
def ti51 : TI := ⟨1, false, none, none, (some [.nilfn]), none, 8, .other, [], none⟩
theorem ok51 : TIOk Try.prog 51 ti51 := ⟨(by kernel_rfl), (by kernel_rfl), (fun r h => nomatch h), (fun r h => nomatch h), (fun r h => by cases h; kernel_rfl), (fun r h => nomatch h), (by kernel_rfl), (fun h => nomatch h), (fun h => nomatch h), (fun k h => nomatch h), (fun f r h => nomatch h), (fun n h => nomatch h)⟩
def ti52 : TI := ⟨1, false, none, none, (some [.nilfn]), none, 8, .other, [], none⟩
theorem ok52 : TIOk Try.prog 52 ti52 := ⟨(by kernel_rfl), (by kernel_rfl), (fun r h => nomatch h), (fun r h => nomatch h), (fun r h => by cases h; kernel_rfl), (fun r h => nomatch h), (by kernel_rfl), (fun h => nomatch h), (fun h => nomatch h), (fun k h => nomatch h), (fun f r h => nomatch h), (fun n h => nomatch h)⟩
def ti53 : TI := ⟨1, false, none, none, none, none, 0, .other, [], none⟩
theorem ok53 : TIOk Try.prog 53 ti53 := ⟨(by kernel_rfl), (by kernel_rfl), (fun r h => nomatch h), (fun r h => nomatch h), (fun r h => nomatch h), (fun r h => nomatch h), (by kernel_rfl), (fun h => nomatch h), (fun h => nomatch h), (fun k h => nomatch h), (fun f r h => nomatch h), (fun n h => nomatch h)⟩
def ti54 : TI := ⟨1, false, none, none, (some [.nilfn]), none, 8, .other, [], none⟩
theorem ok54 : TIOk Try.prog 54 ti54 := ⟨(by kernel_rfl), (by kernel_rfl), (fun r h => nomatch h), (fun r h => nomatch h), (fun r h => by cases h; kernel_rfl), (fun r h => nomatch h), (by kernel_rfl), (fun h => nomatch h), (fun h => nomatch h), (fun k h => nomatch h), (fun f r h => nomatch h), (fun n h => nomatch h)⟩
def ti55 : TI := ⟨1, false, none, none, (some [.nilfn]), none, 8, .other, [], none⟩
theorem ok55 : TIOk Try.prog 55 ti55 := ⟨(by kernel_rfl), (by kernel_rfl), (fun r h => nomatch h), (fun r h => nomatch h), (fun r h => by cases h; kernel_rfl), (fun r h => nomatch h), (by kernel_rfl), (fun h => nomatch h), (fun h => nomatch h), (fun k h => nomatch h), (fun f r h => nomatch h), (fun n h => nomatch h)⟩
def ti56 : TI := ⟨1, false, (some (3, 1)), none, (some [.nilsl]), none, 24, .other, [], none⟩
theorem ok56 : TIOk Try.prog 56 ti56 := ⟨(by kernel_rfl), (by kernel_rfl), (fun r h => by cases h; kernel_rfl), (fun r h => nomatch h), (fun r h => by cases h; kernel_rfl), (fun r h => nomatch h), (by kernel_rfl), (fun h => nomatch h), (fun h => nomatch h), (fun k h => nomatch h), (fun f r h => nomatch h), (fun n h => nomatch h)⟩
def ti57 : TI := ⟨1, false, none, none, none, none, 0, .other, [], none⟩
theorem ok57 : TIOk Try.prog 57 ti57 := ⟨(by kernel_rfl), (by kernel_rfl), (fun r h => nomatch h), (fun r h => nomatch h), (fun r h => nomatch h), (fun r h => nomatch h), (by kernel_rfl), (fun h => nomatch h), (fun h => nomatch h), (fun k h => nomatch h), (fun f r h => nomatch h), (fun n h => nomatch h)⟩
def ti58 : TI := ⟨1, false, none, none, (some [.nilfn]), none, 8, .other, [], none⟩
theorem ok58 : TIOk Try.prog 58 ti58 := ⟨(by kernel_rfl), (by kernel_rfl), (fun r h => nomatch h), (fun r h => nomatch h), (fun r h => by cases h; kernel_rfl), (fun r h => nomatch h), (by kernel_rfl), (fun h => nomatch h), (fun h => nomatch h), (fun k h => nomatch h), (fun f r h => nomatch h), (fun n h => nomatch h)⟩
def ti59 : TI := ⟨1, false, none, none, (some [.nilfn]), none, 8, .other, [], none⟩
theorem ok59 : TIOk Try.prog 59 ti59 := ⟨(by kernel_rfl), (by kernel_rfl), (fun r h => nomatch h), (fun r h => nomatch h), (fun r h => by cases h; kernel_rfl), (fun r h => nomatch h), (by kernel_rfl), (fun h => nomatch h), (fun h => nomatch h), (fun k h => nomatch h), (fun f r h => nomatch h), (fun n h => nomatch h)⟩
def ti60 : TI := ⟨1, false, none, none, (some [.nilfn]), none, 8, .other, [], none⟩
theorem ok60 : TIOk Try.prog 60 ti60 := ⟨(by kernel_rfl), (by kernel_rfl), (fun r h => nomatch h), (fun r h => nomatch h), (fun r h => by cases h; kernel_rfl), (fun r h => nomatch h), (by kernel_rfl), (fun h => nomatch h), (fun h => nomatch h), (fun k h => nomatch h), (fun f r h => nomatch h), (fun n h => nomatch h)⟩
def ti61 : TI := ⟨1, false, none, none, (some [.nilfn]), none, 8, .other, [], none⟩
theorem ok61 : TIOk Try.prog 61 ti61 := ⟨(by kernel_rfl), (by kernel_rfl), (fun r h => nomatch h), (fun r h => nomatch h), (fun r h => by cases h; kernel_rfl), (fun r h => nomatch h), (by kernel_rfl), (fun h => nomatch h), (fun h => nomatch h), (fun k h => nomatch h), (fun f r h => nomatch h), (fun n h => nomatch h)⟩
def ti62 : TI := ⟨1, false, (some (31, 1)), none, (some [.nilsl]), none, 24, .other, [], none⟩
theorem ok62 : TIOk Try.prog 62 ti62 := ⟨(by kernel_rfl), (by kernel_rfl), (fun r h => by cases h; kernel_rfl), (fun r h => nomatch h), (fun r h => by cases h; kernel_rfl), (fun r h => nomatch h), (by kernel_rfl), (fun h => nomatch h), (fun h => nomatch h), (fun k h => nomatch h), (fun f r h => nomatch h), (fun n h => nomatch h)⟩
def ti63 : TI := ⟨1, false, none, none, (some [.nilfn]), none, 8, .other, [], none⟩
theorem ok63 : TIOk Try.prog 63 ti63 := ⟨(by kernel_rfl), (by kernel_rfl), (fun r h => nomatch h), (fun r h => nomatch h), (fun r h => by cases h; kernel_rfl), (fun r h => nomatch h), (by kernel_rfl), (fun h => nomatch h), (fun h => nomatch h), (fun k h => nomatch h), (fun f r h => nomatch h), (fun n h => nomatch h)⟩
def ti64 : TI := ⟨1, false, none, none, (some [.nilfn]), none, 8, .other, [], none⟩
theorem ok64 : TIOk Try.prog 64 ti64 := ⟨(by kernel_rfl), (by kernel_rfl), (fun r h => nomatch h), (fun r h => nomatch h), (fun r h => by cases h; kernel_rfl), (fun r h => nomatch h), (by kernel_rfl), (fun h => nomatch h), (fun h => nomatch h), (fun k h => nomatch h), (fun f r h => nomatch h), (fun n h => nomatch h)⟩
def ti65 : TI := ⟨1, false, none, none, (some [.nilfn]), none, 8, .other, [], none⟩
theorem ok65 : TIOk Try.prog 65 ti65 := ⟨(by kernel_rfl), (by kernel_rfl), (fun r h => nomatch h), (fun r h => nomatch h), (fun r h => by cases h; kernel_rfl), (fun r h => nomatch h), (by kernel_rfl), (fun h => nomatch h), (fun h => nomatch h), (fun k h => nomatch h), (fun f r h => nomatch h), (fun n h => nomatch h)⟩
def ti66 : TI := ⟨1, false, none, none, (some [.nilfn]), none, 8, .other, [], none⟩
theorem ok66 : TIOk Try.prog 66 ti66 := ⟨(by kernel_rfl), (by kernel_rfl), (fun r h => nomatch h), (fun r h => nomatch h), (fun r h => by cases h; kernel_rfl), (fun r h => nomatch h), (by kernel_rfl), (fun h => nomatch h), (fun h => nomatch h), (fun k h => nomatch h), (fun f r h => nomatch h), (fun n h => nomatch h)⟩
def ti67 : TI := ⟨1, false, none, none, (some [.nilfn]), none, 8, .other, [], none⟩
theorem ok67 : TIOk Try.prog 67 ti67 := ⟨(by kernel_rfl), (by kernel_rfl), (fun r h => nomatch h), (fun r h => nomatch h), (fun r h => by cases h; kernel_rfl), (fun r h => nomatch h), (by kernel_rfl), (fun h => nomatch h), (fun h => nomatch h), (fun k h => nomatch h), (fun f r h => nomatch h), (fun n h => nomatch h)⟩
def ti68 : TI := ⟨1, false, none, none, (some [.nilfn]), none, 8, .other, [], none⟩
theorem ok68 : TIOk Try.prog 68 ti68 := ⟨(by kernel_rfl), (by kernel_rfl), (fun r h => nomatch h), (fun r h => nomatch h), (fun r h => by cases h; kernel_rfl), (fun r h => nomatch h), (by kernel_rfl), (fun h => nomatch h), (fun h => nomatch h), (fun k h => nomatch h), (fun f r h => nomatch h), (fun n h => nomatch h)⟩
def ti69 : TI := ⟨2, true, none, none, (some [.int .i64 0, .int .i64 0]), (some (.st [(0, 1), (1, 1)])), 16, .other, [(0, 1, 3), (1, 1, 3)], (some 2)⟩
theorem ok69 : TIOk Try.prog 69 ti69 := ⟨(by kernel_rfl), (by kernel_rfl), (fun r h => nomatch h), (fun r h => nomatch h), (fun r h => by cases h; kernel_rfl), (fun r h => by cases h; kernel_rfl), (by kernel_rfl), (fun h => nomatch h), (fun h => nomatch h), (fun k h => nomatch h), (fun f r h => match f, h with | 0, h => by cases h; kernel_rfl | 1, h => by cases h; kernel_rfl | (n + 2), h => by simp [ti69, nth] at h), (fun n h => by cases h; exact ⟨by kernel_rfl, by kernel_rfl, by kernel_rfl⟩)⟩
def ti70 : TI := ⟨2, true, none, none, (some [.int .i64 0, .int .i64 0]), (some (.st [(0, 1), (1, 1)])), 16, .other, [(0, 1, 3), (1, 1, 3)], (some 2)⟩
theorem ok70 : TIOk Try.prog 70 ti70 := ⟨(by kernel_rfl), (by kernel_rfl), (fun r h => nomatch h), (fun r h => nomatch h), (fun r h => by cases h; kernel_rfl), (fun r h => by cases h; kernel_rfl), (by kernel_rfl), (fun h => nomatch h), (fun h => nomatch h), (fun k h => nomatch h), (fun f r h => match f, h with | 0, h => by cases h; kernel_rfl | 1, h => by cases h; kernel_rfl | (n + 2), h => by simp [ti70, nth] at h), (fun n h => by cases h; exact ⟨by kernel_rfl, by kernel_rfl, by kernel_rfl⟩)⟩
def ti71 : TI := ⟨1, false, none, none, (some [.nilfn]), none, 8, .other, [], none⟩
theorem ok71 : TIOk Try.prog 71 ti71 := ⟨(by kernel_rfl), (by kernel_rfl), (fun r h => nomatch h), (fun r h => nomatch h), (fun r h => by cases h; kernel_rfl), (fun r h => nomatch h), (by kernel_rfl), (fun h => nomatch h), (fun h => nomatch h), (fun k h => nomatch h), (fun f r h => nomatch h), (fun n h => nomatch h)⟩
def ti72 : TI := ⟨1, false, none, none, (some [.nilfn]), none, 8, .other, [], none⟩
theorem ok72 : TIOk Try.prog 72 ti72 := ⟨(by kernel_rfl), (by kernel_rfl), (fun r h => nomatch h), (fun r h => nomatch h), (fun r h => by cases h; kernel_rfl), (fun r h => nomatch h), (by kernel_rfl), (fun h => nomatch h), (fun h => nomatch h), (fun k h => nomatch h), (fun f r h => nomatch h), (fun n h => nomatch h)⟩
def ti73 : TI := ⟨4, true, none, (some (4, 5, 1)), (some [.int .u8 0, .int .u8 0, .int .u8 0, .int .u8 0]), (some (.ar 1)), 4, .other, [], none⟩
theorem ok73 : TIOk Try.prog 73 ti73 := ⟨(by kernel_rfl), (by kernel_rfl), (fun r h => nomatch h), (fun r h => by cases h; kernel_rfl), (fun r h => by cases h; kernel_rfl), (fun r h => by cases h; kernel_rfl), (by kernel_rfl), (fun h => nomatch h), (fun h => nomatch h), (fun k h => nomatch h), (fun f r h => nomatch h), (fun n h => nomatch h)⟩
def ti74 : TI := ⟨12, true, none, (some (3, 73, 4)), (some [.int .u8 0, .int .u8 0, .int .u8 0, .int .u8 0, .int .u8 0, .int .u8 0, .int .u8 0, .int .u8 0, .int .u8 0, .int .u8 0, .int .u8 0, .int .u8 0]), (some (.ar 4)), 12, .other, [], none⟩
theorem ok74 : TIOk Try.prog 74 ti74 := ⟨(by kernel_rfl), (by kernel_rfl), (fun r h => nomatch h), (fun r h => by cases h; kernel_rfl), (fun r h => by cases h; kernel_rfl), (fun r h => by cases h; kernel_rfl), (by kernel_rfl), (fun h => nomatch h), (fun h => nomatch h), (fun k h => nomatch h), (fun f r h => nomatch h), (fun n h => nomatch h)⟩
def ti75 : TI := ⟨1, false, (some (73, 4)), none, (some [.nilsl]), none, 24, .other, [], none⟩
theorem ok75 : TIOk Try.prog 75 ti75 := ⟨(by kernel_rfl), (by kernel_rfl), (fun r h => by cases h; kernel_rfl), (fun r h => nomatch h), (fun r h => by cases h; kernel_rfl), (fun r h => nomatch h), (by kernel_rfl), (fun h => nomatch h), (fun h => nomatch h), (fun k h => nomatch h), (fun f r h => nomatch h), (fun n h => nomatch h)⟩
def ti76 : TI := ⟨13, true, none, none, (some [.int .u8 0, .int .u8 0, .int .u8 0, .int .u8 0, .int .u8 0, .int .u8 0, .int .u8 0, .int .u8 0, .int .u8 0, .int .u8 0, .int .u8 0, .int .u8 0, .nilsl]), (some (.st [(0, 12), (12, 1)])), 40, .other, [(0, 12, 74), (12, 1, 75)], none⟩
theorem ok76 : TIOk Try.prog 76 ti76 := ⟨(by kernel_rfl), (by kernel_rfl), (fun r h => nomatch h), (fun r h => nomatch h), (fun r h => by cases h; kernel_rfl), (fun r h => by cases h; kernel_rfl), (by kernel_rfl), (fun h => nomatch h), (fun h => nomatch h), (fun k h => nomatch h), (fun f r h => match f, h with | 0, h => by cases h; kernel_rfl | 1, h => by cases h; kernel_rfl | (n + 2), h => by simp [ti76, nth] at h), (fun n h => nomatch h)⟩
def ti77 : TI := ⟨13, true, none, none, (some [.int .u8 0, .int .u8 0, .int .u8 0, .int .u8 0, .int .u8 0, .int .u8 0, .int .u8 0, .int .u8 0, .int .u8 0, .int .u8 0, .int .u8 0, .int .u8 0, .nilsl]), (some (.st [(0, 12), (12, 1)])), 40, .other, [(0, 12, 74), (12, 1, 75)], none⟩
theorem ok77 : TIOk Try.prog 77 ti77 := ⟨(by kernel_rfl), (by kernel_rfl), (fun r h => nomatch h), (fun r h => nomatch h), (fun r h => by cases h; kernel_rfl), (fun r h => by cases h; kernel_rfl), (by kernel_rfl), (fun h => nomatch h), (fun h => nomatch h), (fun k h => nomatch h), (fun f r h => match f, h with | 0, h => by cases h; kernel_rfl | 1, h => by cases h; kernel_rfl | (n + 2), h => by simp [ti77, nth] at h), (fun n h => nomatch h)⟩
def ti78 : TI := ⟨2, true, none, (some (2, 5, 1)), (some [.int .u8 0, .int .u8 0]), (some (.ar 1)), 2, .other, [], none⟩
theorem ok78 : TIOk Try.prog 78 ti78 := ⟨(by kernel_rfl), (by kernel_rfl), (fun r h => nomatch h), (fun r h => by cases h; kernel_rfl), (fun r h => by cases h; kernel_rfl), (fun r h => by cases h; kernel_rfl), (by kernel_rfl), (fun h => nomatch h), (fun h => nomatch h), (fun k h => nomatch h), (fun f r h => nomatch h), (fun n h => nomatch h)⟩
def ti79 : TI := ⟨1, false, none, none, (some [.int .u16 0]), none, 2, (.int .u16), [], none⟩
theorem ok79 : TIOk Try.prog 79 ti79 := ⟨(by kernel_rfl), (by kernel_rfl), (fun r h => nomatch h), (fun r h => nomatch h), (fun r h => by cases h; kernel_rfl), (fun r h => nomatch h), (by kernel_rfl), (fun h => nomatch h), (fun h => nomatch h), (fun k h => by cases h; kernel_rfl), (fun f r h => nomatch h), (fun n h => nomatch h)⟩
def ti80 : TI := ⟨1, false, none, none, (some [.nilfn]), none, 8, .other, [], none⟩
theorem ok80 : TIOk Try.prog 80 ti80 := ⟨(by kernel_rfl), (by kernel_rfl), (fun r h => nomatch h), (fun r h => nomatch h), (fun r h => by cases h; kernel_rfl), (fun r h => nomatch h), (by kernel_rfl), (fun h => nomatch h), (fun h => nomatch h), (fun k h => nomatch h), (fun f r h => nomatch h), (fun n h => nomatch h)⟩
def ti81 : TI := ⟨1, false, (some (87, 2)), none, (some [.nilsl]), none, 24, .other, [], none⟩
theorem ok81 : TIOk Try.prog 81 ti81 := ⟨(by kernel_rfl), (by kernel_rfl), (fun r h => by cases h; kernel_rfl), (fun r h => nomatch h), (fun r h => by cases h; kernel_rfl), (fun r h => nomatch h), (by kernel_rfl), (fun h => nomatch h), (fun h => nomatch h), (fun k h => nomatch h), (fun f r h => nomatch h), (fun n h => nomatch h)⟩
def ti82 : TI := ⟨1, false, none, none, (some [.nilfn]), none, 8, .other, [], none⟩
theorem ok82 : TIOk Try.prog 82 ti82 := ⟨(by kernel_rfl), (by kernel_rfl), (fun r h => nomatch h), (fun r h => nomatch h), (fun r h => by cases h; kernel_rfl), (fun r h => nomatch h), (by kernel_rfl), (fun h => nomatch h), (fun h => nomatch h), (fun k h => nomatch h), (fun f r h => nomatch h), (fun n h => nomatch h)⟩
def ti83 : TI := ⟨4, true, none, (some (4, 3, 1)), (some [.int .i64 0, .int .i64 0, .int .i64 0, .int .i64 0]), (some (.ar 1)), 32, .other, [], none⟩
theorem ok83 : TIOk Try.prog 83 ti83 := ⟨(by kernel_rfl), (by kernel_rfl), (fun r h => nomatch h), (fun r h => by cases h; kernel_rfl), (fun r h => by cases h; kernel_rfl), (fun r h => by cases h; kernel_rfl), (by kernel_rfl), (fun h => nomatch h), (fun h => nomatch h), (fun k h => nomatch h), (fun f r h => nomatch h), (fun n h => nomatch h)⟩
def ti84 : TI := ⟨1, false, none, none, (some [.nilfn]), none, 8, .other, [], none⟩
theorem ok84 : TIOk Try.prog 84 ti84 := ⟨(by kernel_rfl), (by kernel_rfl), (fun r h => nomatch h), (fun r h => nomatch h), (fun r h => by cases h; kernel_rfl), (fun r h => nomatch h), (by kernel_rfl), (fun h => nomatch h), (fun h => nomatch h), (fun k h => nomatch h), (fun f r h => nomatch h), (fun n h => nomatch h)⟩
def ti85 : TI := ⟨1, false, none, none, (some [.nilfn]), none, 8, .other, [], none⟩
theorem ok85 : TIOk Try.prog 85 ti85 := ⟨(by kernel_rfl), (by kernel_rfl), (fun r h => nomatch h), (fun r h => nomatch h), (fun r h => by cases h; kernel_rfl), (fun r h => nomatch h), (by kernel_rfl), (fun h => nomatch h), (fun h => nomatch h), (fun k h => nomatch h), (fun f r h => nomatch h), (fun n h => nomatch h)⟩
def ti86 : TI := ⟨1, false, none, none, (some [.nilfn]), none, 8, .other, [], none⟩
theorem ok86 : TIOk Try.prog 86 ti86 := ⟨(by kernel_rfl), (by kernel_rfl), (fun r h => nomatch h), (fun r h => nomatch h), (fun r h => by cases h; kernel_rfl), (fun r h => nomatch h), (by kernel_rfl), (fun h => nomatch h), (fun h => nomatch h), (fun k h => nomatch h), (fun f r h => nomatch h), (fun n h => nomatch h)⟩
def ti87 : TI := ⟨2, true, none, (some (2, 3, 1)), (some [.int .i64 0, .int .i64 0]), (some (.ar 1)), 16, .other, [], none⟩
theorem ok87 : TIOk Try.prog 87 ti87 := ⟨(by kernel_rfl), (by kernel_rfl), (fun r h => nomatch h), (fun r h => by cases h; kernel_rfl), (fun r h => by cases h; kernel_rfl), (fun r h => by cases h; kernel_rfl), (by kernel_rfl), (fun h => nomatch h), (fun h => nomatch h), (fun k h => nomatch h), (fun f r h => nomatch h), (fun n h => nomatch h)⟩
def ti88 : TI := ⟨1, false, none, none, (some [.nilfn]), none, 8, .other, [], none⟩
theorem ok88 : TIOk Try.prog 88 ti88 := ⟨(by kernel_rfl), (by kernel_rfl), (fun r h => nomatch h), (fun r h => nomatch h), (fun r h => by cases h; kernel_rfl), (fun r h => nomatch h), (by kernel_rfl), (fun h => nomatch h), (fun h => nomatch h), (fun k h => nomatch h), (fun f r h => nomatch h), (fun n h => nomatch h)⟩
def ti89 : TI := ⟨3, true, none, (some (3, 5, 1)), (some [.int .u8 0, .int .u8 0, .int .u8 0]), (some (.ar 1)), 3, .other, [], none⟩
theorem ok89 : TIOk Try.prog 89 ti89 := ⟨(by kernel_rfl), (by kernel_rfl), (fun r h => nomatch h), (fun r h => by cases h; kernel_rfl), (fun r h => by cases h; kernel_rfl), (fun r h => by cases h; kernel_rfl), (by kernel_rfl), (fun h => nomatch h), (fun h => nomatch h), (fun k h => nomatch h), (fun f r h => nomatch h), (fun n h => nomatch h)⟩
def ti90 : TI := ⟨1, false, none, none, (some [.nilfn]), none, 8, .other, [], none⟩
theorem ok90 : TIOk Try.prog 90 ti90 := ⟨(by kernel_rfl), (by kernel_rfl), (fun r h => nomatch h), (fun r h => nomatch h), (fun r h => by cases h; kernel_rfl), (fun r h => nomatch h), (by kernel_rfl), (fun h => nomatch h), (fun h => nomatch h), (fun k h => nomatch h), (fun f r h => nomatch h), (fun n h => nomatch h)⟩
def ti91 : TI := ⟨8, true, none, (some (2, 49, 4)), (some [.int .i64 0, .int .i64 0, .int .i64 0, .int .i64 0, .int .i64 0, .int .i64 0, .int .i64 0, .int .i64 0]), (some (.ar 4)), 64, .other, [], none⟩
theorem ok91 : TIOk Try.prog 91 ti91 := ⟨(by kernel_rfl), (by kernel_rfl), (fun r h => nomatch h), (fun r h => by cases h; kernel_rfl), (fun r h => by cases h; kernel_rfl), (fun r h => by cases h; kernel_rfl), (by kernel_rfl), (fun h => nomatch h), (fun h => nomatch h), (fun k h => nomatch h), (fun f r h => nomatch h), (fun n h => nomatch h)⟩
def ti92 : TI := ⟨1, false, none, none, (some [.nilfn]), none, 8, .other, [], none⟩
theorem ok92 : TIOk Try.prog 92 ti92 := ⟨(by kernel_rfl), (by kernel_rfl), (fun r h => nomatch h), (fun r h => nomatch h), (fun r h => by cases h; kernel_rfl), (fun r h => nomatch h), (by kernel_rfl), (fun h => nomatch h), (fun h => nomatch h), (fun k h => nomatch h), (fun f r h => nomatch h), (fun n h => nomatch h)⟩
def ti93 : TI := ⟨1, false, (some (78, 2)), none, (some [.nilsl]), none, 24, .other, [], none⟩
theorem ok93 : TIOk Try.prog 93 ti93 := ⟨(by kernel_rfl), (by kernel_rfl), (fun r h => by cases h; kernel_rfl), (fun r h => nomatch h), (fun r h => by cases h; kernel_rfl), (fun r h => nomatch h), (by kernel_rfl), (fun h => nomatch h), (fun h => nomatch h), (fun k h => nomatch h), (fun f r h => nomatch h), (fun n h => nomatch h)⟩
def ti94 : TI := ⟨1, false, none, none, (some [.nilmap]), none, 8, .other, [], none⟩
theorem ok94 : TIOk Try.prog 94 ti94 := ⟨(by kernel_rfl), (by kernel_rfl), (fun r h => nomatch h), (fun r h => nomatch h), (fun r h => by cases h; kernel_rfl), (fun r h => nomatch h), (by kernel_rfl), (fun h => nomatch h), (fun h => nomatch h), (fun k h => nomatch h), (fun f r h => nomatch h), (fun n h => nomatch h)⟩
def ti95 : TI := ⟨1, false, none, none, (some [.nilfn]), none, 8, .other, [], none⟩
theorem ok95 : TIOk Try.prog 95 ti95 := ⟨(by kernel_rfl), (by kernel_rfl), (fun r h => nomatch h), (fun r h => nomatch h), (fun r h => by cases h; kernel_rfl), (fun r h => nomatch h), (by kernel_rfl), (fun h => nomatch h), (fun h => nomatch h), (fun k h => nomatch h), (fun f r h => nomatch h), (fun n h => nomatch h)⟩
def ti96 : TI := ⟨1, false, none, none, (some [.nilfn]), none, 8, .other, [], none⟩
theorem ok96 : TIOk Try.prog 96 ti96 := ⟨(by kernel_rfl), (by kernel_rfl), (fun r h => nomatch h), (fun r h => nomatch h), (fun r h => by cases h; kernel_rfl), (fun r h => nomatch h), (by kernel_rfl), (fun h => nomatch h), (fun h => nomatch h), (fun k h => nomatch h), (fun f r h => nomatch h), (fun n h => nomatch h)⟩
def ti97 : TI := ⟨1, false, none, none, (some [.nilfn]), none, 8, .other, [], none⟩
theorem ok97 : TIOk Try.prog 97 ti97 := ⟨(by kernel_rfl), (by kernel_rfl), (fun r h => nomatch h), (fun r h => nomatch h), (fun r h => by cases h; kernel_rfl), (fun r h => nomatch h), (by kernel_rfl), (fun h => nomatch h), (fun h => nomatch h), (fun k h => nomatch h), (fun f r h => nomatch h), (fun n h => nomatch h)⟩
def ti98 : TI := ⟨1, false, none, none, (some [.nilfn]), none, 8, .other, [], none⟩
theorem ok98 : TIOk Try.prog 98 ti98 := ⟨(by kernel_rfl), (by kernel_rfl), (fun r h => nomatch h), (fun r h => nomatch h), (fun r h => by cases h; kernel_rfl), (fun r h => nomatch h), (by kernel_rfl), (fun h => nomatch h), (fun h => nomatch h), (fun k h => nomatch h), (fun f r h => nomatch h), (fun n h => nomatch h)⟩
def ti99 : TI := ⟨4, true, none, (some (2, 25, 2)), (some [.nilsl, .nilsl, .nilsl, .nilsl]), (some (.ar 2)), 96, .other, [], none⟩
theorem ok99 : TIOk Try.prog 99 ti99 := ⟨(by kernel_rfl), (by kernel_rfl), (fun r h => nomatch h), (fun r h => by cases h; kernel_rfl), (fun r h => by cases h; kernel_rfl), (fun r h => by cases h; kernel_rfl), (by kernel_rfl), (fun h => nomatch h), (fun h => nomatch h), (fun k h => nomatch h), (fun f r h => nomatch h), (fun n h => nomatch h)⟩
def ti100 : TI := ⟨1, false, none, none, (some [.nilfn]), none, 8, .other, [], none⟩
theorem ok100 : TIOk Try.prog 100 ti100 := ⟨(by kernel_rfl), (by kernel_rfl), (fun r h => nomatch h), (fun r h => nomatch h), (fun r h => by cases h; kernel_rfl), (fun r h => nomatch h), (by kernel_rfl), (fun h => nomatch h), (fun h => nomatch h), (fun k h => nomatch h), (fun f r h => nomatch h), (fun n h => nomatch h)⟩
def ti101 : TI := ⟨1, false, none, none, (some [.nilfn]), none, 8, .other, [], none⟩
theorem ok101 : TIOk Try.prog 101 ti101 := ⟨(by kernel_rfl), (by kernel_rfl), (fun r h => nomatch h), (fun r h => nomatch h), (fun r h => by cases h; kernel_rfl), (fun r h => nomatch h), (by kernel_rfl), (fun h => nomatch h), (fun h => nomatch h), (fun k h => nomatch h), (fun f r h => nomatch h), (fun n h => nomatch h)⟩
def ti102 : TI := ⟨1, false, none, none, (some [.nilfn]), none, 8, .other, [], none⟩
theorem ok102 : TIOk Try.prog 102 ti102 := ⟨(by kernel_rfl), (by kernel_rfl), (fun r h => nomatch h), (fun r h => nomatch h), (fun r h => by cases h; kernel_rfl), (fun r h => nomatch h), (by kernel_rfl), (fun h => nomatch h), (fun h => nomatch h), (fun k h => nomatch h), (fun f r h => nomatch h), (fun n h => nomatch h)⟩
def ti103 : TI := ⟨3, true, none, (some (3, 3, 1)), (some [.int .i64 0, .int .i64 0, .int .i64 0]), (some (.ar 1)), 24, .other, [], none⟩
theorem ok103 : TIOk Try.prog 103 ti103 := ⟨(by kernel_rfl), (by kernel_rfl), (fun r h => nomatch h), (fun r h => by cases h; kernel_rfl), (fun r h => by cases h; kernel_rfl), (fun r h => by cases h; kernel_rfl), (by kernel_rfl), (fun h => nomatch h), (fun h => nomatch h), (fun k h => nomatch h), (fun f r h => nomatch h), (fun n h => nomatch h)⟩
def ti104 : TI := ⟨4, true, none, none, (some [.int .i64 0, .int .i64 0, .int .i64 0, .int .i64 0]), (some (.st [(0, 2), (2, 2)])), 32, .other, [(0, 2, 70), (2, 2, 70)], (some 4)⟩
theorem ok104 : TIOk Try.prog 104 ti104 := ⟨(by kernel_rfl), (by kernel_rfl), (fun r h => nomatch h), (fun r h => nomatch h), (fun r h => by cases h; kernel_rfl), (fun r h => by cases h; kernel_rfl), (by kernel_rfl), (fun h => nomatch h), (fun h => nomatch h), (fun k h => nomatch h), (fun f r h => match f, h with | 0, h => by cases h; kernel_rfl | 1, h => by cases h; kernel_rfl | (n + 2), h => by simp [ti104, nth] at h), (fun n h => by cases h; exact ⟨by kernel_rfl, by kernel_rfl, by kernel_rfl⟩)⟩
def ti105 : TI := ⟨4, true, none, none, (some [.int .i64 0, .int .i64 0, .int .i64 0, .int .i64 0]), (some (.st [(0, 2), (2, 2)])), 32, .other, [(0, 2, 70), (2, 2, 70)], (some 4)⟩
theorem ok105 : TIOk Try.prog 105 ti105 := ⟨(by kernel_rfl), (by kernel_rfl), (fun r h => nomatch h), (fun r h => nomatch h), (fun r h => by cases h; kernel_rfl), (fun r h => by cases h; kernel_rfl), (by kernel_rfl), (fun h => nomatch h), (fun h => nomatch h), (fun k h => nomatch h), (fun f r h => match f, h with | 0, h => by cases h; kernel_rfl | 1, h => by cases h; kernel_rfl | (n + 2), h => by simp [ti105, nth] at h), (fun n h => by cases h; exact ⟨by kernel_rfl, by kernel_rfl, by kernel_rfl⟩)⟩
def ti106 : TI := ⟨1, false, none, none, (some [.nilfn]), none, 8, .other, [], none⟩
theorem ok106 : TIOk Try.prog 106 ti106 := ⟨(by kernel_rfl), (by kernel_rfl), (fun r h => nomatch h), (fun r h => nomatch h), (fun r h => by cases h; kernel_rfl), (fun r h => nomatch h), (by kernel_rfl), (fun h => nomatch h), (fun h => nomatch h), (fun k h => nomatch h), (fun f r h => nomatch h), (fun n h => nomatch h)⟩
def ti107 : TI := ⟨1, false, (some (122, 2)), none, (some [.nilsl]), none, 24, .other, [], none⟩
theorem ok107 : TIOk Try.prog 107 ti107 := ⟨(by kernel_rfl), (by kernel_rfl), (fun r h => by cases h; kernel_rfl), (fun r h => nomatch h), (fun r h => by cases h; kernel_rfl), (fun r h => nomatch h), (by kernel_rfl), (fun h => nomatch h), (fun h => nomatch h), (fun k h => nomatch h), (fun f r h => nomatch h), (fun n h => nomatch h)⟩
def ti108 : TI := ⟨1, false, none, none, (some [.nilfn]), none, 8, .other, [], none⟩
theorem ok108 : TIOk Try.prog 108 ti108 := ⟨(by kernel_rfl), (by kernel_rfl), (fun r h => nomatch h), (fun r h => nomatch h), (fun r h => by cases h; kernel_rfl), (fun r h => nomatch h), (by kernel_rfl), (fun h => nomatch h), (fun h => nomatch h), (fun k h => nomatch h), (fun f r h => nomatch h), (fun n h => nomatch h)⟩
def ti109 : TI := ⟨1, false, none, none, (some [.nilfn]), none, 8, .other, [], none⟩
theorem ok109 : TIOk Try.prog 109 ti109 := ⟨(by kernel_rfl), (by kernel_rfl), (fun r h => nomatch h), (fun r h => nomatch h), (fun r h => by cases h; kernel_rfl), (fun r h => nomatch h), (by kernel_rfl), (fun h => nomatch h), (fun h => nomatch h), (fun k h => nomatch h), (fun f r h => nomatch h), (fun n h => nomatch h)⟩
def ti110 : TI := ⟨1, false, none, none, (some [.nilfn]), none, 8, .other, [], none⟩
theorem ok110 : TIOk Try.prog 110 ti110 := ⟨(by kernel_rfl), (by kernel_rfl), (fun r h => nomatch h), (fun r h => nomatch h), (fun r h => by cases h; kernel_rfl), (fun r h => nomatch h), (by kernel_rfl), (fun h => nomatch h), (fun h => nomatch h), (fun k h => nomatch h), (fun f r h => nomatch h), (fun n h => nomatch h)⟩
def ti111 : TI := ⟨1, false, none, none, (some [.nilfn]), none, 8, .other, [], none⟩
theorem ok111 : TIOk Try.prog 111 ti111 := ⟨(by kernel_rfl), (by kernel_rfl), (fun r h => nomatch h), (fun r h => nomatch h), (fun r h => by cases h; kernel_rfl), (fun r h => nomatch h), (by kernel_rfl), (fun h => nomatch h), (fun h => nomatch h), (fun k h => nomatch h), (fun f r h => nomatch h), (fun n h => nomatch h)⟩
def ti112 : TI := ⟨1, false, none, none, (some [.nilfn]), none, 8, .other, [], none⟩
theorem ok112 : TIOk Try.prog 112 ti112 := ⟨(by kernel_rfl), (by kernel_rfl), (fun r h => nomatch h), (fun r h => nomatch h), (fun r h => by cases h; kernel_rfl), (fun r h => nomatch h), (by kernel_rfl), (fun h => nomatch h), (fun h => nomatch h), (fun k h => nomatch h), (fun f r h => nomatch h), (fun n h => nomatch h)⟩
def ti113 : TI := ⟨1, false, (some (120, 3)), none, (some [.nilsl]), none, 24, .other, [], none⟩
theorem ok113 : TIOk Try.prog 113 ti113 := ⟨(by kernel_rfl), (by kernel_rfl), (fun r h => by cases h; kernel_rfl), (fun r h => nomatch h), (fun r h => by cases h; kernel_rfl), (fun r h => nomatch h), (by kernel_rfl), (fun h => nomatch h), (fun h => nomatch h), (fun k h => nomatch h), (fun f r h => nomatch h), (fun n h => nomatch h)⟩
def ti114 : TI := ⟨3, true, none, (some (3, 113, 1)), (some [.nilsl, .nilsl, .nilsl]), (some (.ar 1)), 72, .other, [], none⟩
theorem ok114 : TIOk Try.prog 114 ti114 := ⟨(by kernel_rfl), (by kernel_rfl), (fun r h => nomatch h), (fun r h => by cases h; kernel_rfl), (fun r h => by cases h; kernel_rfl), (fun r h => by cases h; kernel_rfl), (by kernel_rfl), (fun h => nomatch h), (fun h => nomatch h), (fun k h => nomatch h), (fun f r h => nomatch h), (fun n h => nomatch h)⟩
def ti115 : TI := ⟨3, true, none, (some (3, 113, 1)), (some [.nilsl, .nilsl, .nilsl]), (some (.ar 1)), 72, .other, [], none⟩
theorem ok115 : TIOk Try.prog 115 ti115 := ⟨(by kernel_rfl), (by kernel_rfl), (fun r h => nomatch h), (fun r h => by cases h; kernel_rfl), (fun r h => by cases h; kernel_rfl), (fun r h => by cases h; kernel_rfl), (by kernel_rfl), (fun h => nomatch h), (fun h => nomatch h), (fun k h => nomatch h), (fun f r h => nomatch h), (fun n h => nomatch h)⟩
def ti116 : TI := ⟨1, false, none, none, none, none, 0, .other, [], none⟩
theorem ok116 : TIOk Try.prog 116 ti116 := ⟨(by kernel_rfl), (by kernel_rfl), (fun r h => nomatch h), (fun r h => nomatch h), (fun r h => nomatch h), (fun r h => nomatch h), (by kernel_rfl), (fun h => nomatch h), (fun h => nomatch h), (fun k h => nomatch h), (fun f r h => nomatch h), (fun n h => nomatch h)⟩
def ti117 : TI := ⟨1, false, none, none, (some [.nilfn]), none, 8, .other, [], none⟩
theorem ok117 : TIOk Try.prog 117 ti117 := ⟨(by kernel_rfl), (by kernel_rfl), (fun r h => nomatch h), (fun r h => nomatch h), (fun r h => by cases h; kernel_rfl), (fun r h => nomatch h), (by kernel_rfl), (fun h => nomatch h), (fun h => nomatch h), (fun k h => nomatch h), (fun f r h => nomatch h), (fun n h => nomatch h)⟩
def ti118 : TI := ⟨1, false, none, none, (some [.nilfn]), none, 8, .other, [], none⟩
theorem ok118 : TIOk Try.prog 118 ti118 := ⟨(by kernel_rfl), (by kernel_rfl), (fun r h => nomatch h), (fun r h => nomatch h), (fun r h => by cases h; kernel_rfl), (fun r h => nomatch h), (by kernel_rfl), (fun h => nomatch h), (fun h => nomatch h), (fun k h => nomatch h), (fun f r h => nomatch h), (fun n h => nomatch h)⟩
def ti119 : TI := ⟨3, true, none, none, (some [.int .i64 0, .int .i64 0, .int .i64 0]), (some (.st [(0, 2), (2, 1)])), 24, .other, [(0, 2, 70), (2, 1, 3)], (some 3)⟩
theorem ok119 : TIOk Try.prog 119 ti119 := ⟨(by kernel_rfl), (by kernel_rfl), (fun r h => nomatch h), (fun r h => nomatch h), (fun r h => by cases h; kernel_rfl), (fun r h => by cases h; kernel_rfl), (by kernel_rfl), (fun h => nomatch h), (fun h => nomatch h), (fun k h => nomatch h), (fun f r h => match f, h with | 0, h => by cases h; kernel_rfl | 1, h => by cases h; kernel_rfl | (n + 2), h => by simp [ti119, nth] at h), (fun n h => by cases h; exact ⟨by kernel_rfl, by kernel_rfl, by kernel_rfl⟩)⟩
def ti120 : TI := ⟨3, true, none, none, (some [.int .i64 0, .int .i64 0, .int .i64 0]), (some (.st [(0, 2), (2, 1)])), 24, .other, [(0, 2, 70), (2, 1, 3)], (some 3)⟩
theorem ok120 : TIOk Try.prog 120 ti120 := ⟨(by kernel_rfl), (by kernel_rfl), (fun r h => nomatch h), (fun r h => nomatch h), (fun r h => by cases h; kernel_rfl), (fun r h => by cases h; kernel_rfl), (by kernel_rfl), (fun h => nomatch h), (fun h => nomatch h), (fun k h => nomatch h), (fun f r h => match f, h with | 0, h => by cases h; kernel_rfl | 1, h => by cases h; kernel_rfl | (n + 2), h => by simp [ti120, nth] at h), (fun n h => by cases h; exact ⟨by kernel_rfl, by kernel_rfl, by kernel_rfl⟩)⟩
def ti121 : TI := ⟨2, true, none, none, (some [.int .i64 0, .int .i64 0]), (some (.st [(0, 1), (1, 1)])), 16, .other, [(0, 1, 3), (1, 1, 3)], (some 2)⟩
theorem ok121 : TIOk Try.prog 121 ti121 := ⟨(by kernel_rfl), (by kernel_rfl), (fun r h => nomatch h), (fun r h => nomatch h), (fun r h => by cases h; kernel_rfl), (fun r h => by cases h; kernel_rfl), (by kernel_rfl), (fun h => nomatch h), (fun h => nomatch h), (fun k h => nomatch h), (fun f r h => match f, h with | 0, h => by cases h; kernel_rfl | 1, h => by cases h; kernel_rfl | (n + 2), h => by simp [ti121, nth] at h), (fun n h => by cases h; exact ⟨by kernel_rfl, by kernel_rfl, by kernel_rfl⟩)⟩
def ti122 : TI := ⟨2, true, none, none, (some [.int .i64 0, .int .i64 0]), (some (.st [(0, 1), (1, 1)])), 16, .other, [(0, 1, 3), (1, 1, 3)], (some 2)⟩
theorem ok122 : TIOk Try.prog 122 ti122 := ⟨(by kernel_rfl), (by kernel_rfl), (fun r h => nomatch h), (fun r h => nomatch h), (fun r h => by cases h; kernel_rfl), (fun r h => by cases h; kernel_rfl), (by kernel_rfl), (fun h => nomatch h), (fun h => nomatch h), (fun k h => nomatch h), (fun f r h => match f, h with | 0, h => by cases h; kernel_rfl | 1, h => by cases h; kernel_rfl | (n + 2), h => by simp [ti122, nth] at h), (fun n h => by cases h; exact ⟨by kernel_rfl, by kernel_rfl, by kernel_rfl⟩)⟩
def ti123 : TI := ⟨1, false, none, none, (some [.nilfn]), none, 8, .other, [], none⟩
theorem ok123 : TIOk Try.prog 123 ti123 := ⟨(by kernel_rfl), (by kernel_rfl), (fun r h => nomatch h), (fun r h => nomatch h), (fun r h => by cases h; kernel_rfl), (fun r h => nomatch h), (by kernel_rfl), (fun h => nomatch h), (fun h => nomatch h), (fun k h => nomatch h), (fun f r h => nomatch h), (fun n h => nomatch h)⟩
def ti124 : TI := ⟨1, false, none, none, (some [.nilfn]), none, 8, .other, [], none⟩
theorem ok124 : TIOk Try.prog 124 ti124 := ⟨(by kernel_rfl), (by kernel_rfl), (fun r h => nomatch h), (fun r h => nomatch h), (fun r h => by cases h; kernel_rfl), (fun r h => nomatch h), (by kernel_rfl), (fun h => nomatch h), (fun h => nomatch h), (fun k h => nomatch h), (fun f r h => nomatch h), (fun n h => nomatch h)⟩
def ti125 : TI := ⟨1, false, none, none, (some [.nilfn]), none, 8, .other, [], none⟩
theorem ok125 : TIOk Try.prog 125 ti125 := ⟨(by kernel_rfl), (by kernel_rfl), (fun r h => nomatch h), (fun r h => nomatch h), (fun r h => by cases h; kernel_rfl), (fun r h => nomatch h), (by kernel_rfl), (fun h => nomatch h), (fun h => nomatch h), (fun k h => nomatch h), (fun f r h => nomatch h), (fun n h => nomatch h)⟩
def ti126 : TI := ⟨1, false, none, none, (some [.nilfn]), none, 8, .other, [], none⟩
theorem ok126 : TIOk Try.prog 126 ti126 := ⟨(by kernel_rfl), (by kernel_rfl), (fun r h => nomatch h), (fun r h => nomatch h), (fun r h => by cases h; kernel_rfl), (fun r h => nomatch h), (by kernel_rfl), (fun h => nomatch h), (fun h => nomatch h), (fun k h => nomatch h), (fun f r h => nomatch h), (fun n h => nomatch h)⟩
def ti127 : TI := ⟨1, false, none, none, (some [.nilfn]), none, 8, .other, [], none⟩
theorem ok127 : TIOk Try.prog 127 ti127 := ⟨(by kernel_rfl), (by kernel_rfl), (fun r h => nomatch h), (fun r h => nomatch h), (fun r h => by cases h; kernel_rfl), (fun r h => nomatch h), (by kernel_rfl), (fun h => nomatch h), (fun h => nomatch h), (fun k h => nomatch h), (fun f r h => nomatch h), (fun n h => nomatch h)⟩
def ti128 : TI := ⟨1, false, none, none, (some [.nilfn]), none, 8, .other, [], none⟩
theorem ok128 : TIOk Try.prog 128 ti128 := ⟨(by kernel_rfl), (by kernel_rfl), (fun r h => nomatch h), (fun r h => nomatch h), (fun r h => by cases h; kernel_rfl), (fun r h => nomatch h), (by kernel_rfl), (fun h => nomatch h), (fun h => nomatch h), (fun k h => nomatch h), (fun f r h => nomatch h), (fun n h => nomatch h)⟩
def ti129 : TI := ⟨1, false, none, none, (some [.nilfn]), none, 8, .other, [], none⟩
theorem ok129 : TIOk Try.prog 129 ti129 := ⟨(by kernel_rfl), (by kernel_rfl), (fun r h => nomatch h), (fun r h => nomatch h), (fun r h => by cases h; kernel_rfl), (fun r h => nomatch h), (by kernel_rfl), (fun h => nomatch h), (fun h => nomatch h), (fun k h => nomatch h), (fun f r h => nomatch h), (fun n h => nomatch h)⟩
def ti130 : TI := ⟨1, false, (some (56, 1)), none, (some [.nilsl]), none, 24, .other, [], none⟩
theorem ok130 : TIOk Try.prog 130 ti130 := ⟨(by kernel_rfl), (by kernel_rfl), (fun r h => by cases h; kernel_rfl), (fun r h => nomatch h), (fun r h => by cases h; kernel_rfl), (fun r h => nomatch h), (by kernel_rfl), (fun h => nomatch h), (fun h => nomatch h), (fun k h => nomatch h), (fun f r h => nomatch h), (fun n h => nomatch h)⟩
def ti131 : TI := ⟨1, false, none, none, (some [.nilfn]), none, 8, .other, [], none⟩
theorem ok131 : TIOk Try.prog 131 ti131 := ⟨(by kernel_rfl), (by kernel_rfl), (fun r h => nomatch h), (fun r h => nomatch h), (fun r h => by cases h; kernel_rfl), (fun r h => nomatch h), (by kernel_rfl), (fun h => nomatch h), (fun h => nomatch h), (fun k h => nomatch h), (fun f r h => nomatch h), (fun n h => nomatch h)⟩
def ti132 : TI := ⟨1, false, none, none, (some [.nilfn]), none, 8, .other, [], none⟩
theorem ok132 : TIOk Try.prog 132 ti132 := ⟨(by kernel_rfl), (by kernel_rfl), (fun r h => nomatch h), (fun r h => nomatch h), (fun r h => by cases h; kernel_rfl), (fun r h => nomatch h), (by kernel_rfl), (fun h => nomatch h), (fun h => nomatch h), (fun k h => nomatch h), (fun f r h => nomatch h), (fun n h => nomatch h)⟩
def ti133 : TI := ⟨1, false, none, none, (some [.nilfn]), none, 8, .other, [], none⟩
theorem ok133 : TIOk Try.prog 133 ti133 := ⟨(by kernel_rfl), (by kernel_rfl), (fun r h => nomatch h), (fun r h => nomatch h), (fun r h => by cases h; kernel_rfl), (fun r h => nomatch h), (by kernel_rfl), (fun h => nomatch h), (fun h => nomatch h), (fun k h => nomatch h), (fun f r h => nomatch h), (fun n h => nomatch h)⟩
def ti134 : TI := ⟨1, false, none, none, (some [.nilfn]), none, 8, .other, [], none⟩
theorem ok134 : TIOk Try.prog 134 ti134 := ⟨(by kernel_rfl), (by kernel_rfl), (fun r h => nomatch h), (fun r h => nomatch h), (fun r h => by cases h; kernel_rfl), (fun r h => nomatch h), (by kernel_rfl), (fun h => nomatch h), (fun h => nomatch h), (fun k h => nomatch h), (fun f r h => nomatch h), (fun n h => nomatch h)⟩
def ti135 : TI := ⟨1, false, none, none, (some [.nilfn]), none, 8, .other, [], none⟩
theorem ok135 : TIOk Try.prog 135 ti135 := ⟨(by kernel_rfl), (by kernel_rfl), (fun r h => nomatch h), (fun r h => nomatch h), (fun r h => by cases h; kernel_rfl), (fun r h => nomatch h), (by kernel_rfl), (fun h => nomatch h), (fun h => nomatch h), (fun k h => nomatch h), (fun f r h => nomatch h), (fun n h => nomatch h)⟩
def ti136 : TI := ⟨1, false, none, none, (some [.nilfn]), none, 8, .other, [], none⟩
theorem ok136 : TIOk Try.prog 136 ti136 := ⟨(by kernel_rfl), (by kernel_rfl), (fun r h => nomatch h), (fun r h => nomatch h), (fun r h => by cases h; kernel_rfl), (fun r h => nomatch h), (by kernel_rfl), (fun h => nomatch h), (fun h => nomatch h), (fun k h => nomatch h), (fun f r h => nomatch h), (fun n h => nomatch h)⟩
def ti137 : TI := ⟨1, false, none, none, (some [.nilfn]), none, 8, .other, [], none⟩
theorem ok137 : TIOk Try.prog 137 ti137 := ⟨(by kernel_rfl), (by kernel_rfl), (fun r h => nomatch h), (fun r h => nomatch h), (fun r h => by cases h; kernel_rfl), (fun r h => nomatch h), (by kernel_rfl), (fun h => nomatch h), (fun h => nomatch h), (fun k h => nomatch h), (fun f r h => nomatch h), (fun n h => nomatch h)⟩
def ti138 : TI := ⟨9, true, none, (some (3, 115, 3)), (some [.nilsl, .nilsl, .nilsl, .nilsl, .nilsl, .nilsl, .nilsl, .nilsl, .nilsl]), (some (.ar 3)), 216, .other, [], none⟩
theorem ok138 : TIOk Try.prog 138 ti138 := ⟨(by kernel_rfl), (by kernel_rfl), (fun r h => nomatch h), (fun r h => by cases h; kernel_rfl), (fun r h => by cases h; kernel_rfl), (fun r h => by cases h; kernel_rfl), (by kernel_rfl), (fun h => nomatch h), (fun h => nomatch h), (fun k h => nomatch h), (fun f r h => nomatch h), (fun n h => nomatch h)⟩
def ti139 : TI := ⟨6, true, none, (some (3, 25, 2)), (some [.nilsl, .nilsl, .nilsl, .nilsl, .nilsl, .nilsl]), (some (.ar 2)), 144, .other, [], none⟩
theorem ok139 : TIOk Try.prog 139 ti139 := ⟨(by kernel_rfl), (by kernel_rfl), (fun r h => nomatch h), (fun r h => by cases h; kernel_rfl), (fun r h => by cases h; kernel_rfl), (fun r h => by cases h; kernel_rfl), (by kernel_rfl), (fun h => nomatch h), (fun h => nomatch h), (fun k h => nomatch h), (fun f r h => nomatch h), (fun n h => nomatch h)⟩
def ti140 : TI := ⟨1, false, none, none, (some [.nilfn]), none, 8, .other, [], none⟩
theorem ok140 : TIOk Try.prog 140 ti140 := ⟨(by kernel_rfl), (by kernel_rfl), (fun r h => nomatch h), (fun r h => nomatch h), (fun r h => by cases h; kernel_rfl), (fun r h => nomatch h), (by kernel_rfl), (fun h => nomatch h), (fun h => nomatch h), (fun k h => nomatch h), (fun f r h => nomatch h), (fun n h => nomatch h)⟩
def ti141 : TI := ⟨1, false, none, none, (some [.nilfn]), none, 8, .other, [], none⟩
theorem ok141 : TIOk Try.prog 141 ti141 := ⟨(by kernel_rfl), (by kernel_rfl), (fun r h => nomatch h), (fun r h => nomatch h), (fun r h => by cases h; kernel_rfl), (fun r h => nomatch h), (by kernel_rfl), (fun h => nomatch h), (fun h => nomatch h), (fun k h => nomatch h), (fun f r h => nomatch h), (fun n h => nomatch h)⟩
def ti142 : TI := ⟨1, false, none, none, (some [.nilfn]), none, 8, .other, [], none⟩
theorem ok142 : TIOk Try.prog 142 ti142 := ⟨(by kernel_rfl), (by kernel_rfl), (fun r h => nomatch h), (fun r h => nomatch h), (fun r h => by cases h; kernel_rfl), (fun r h => nomatch h), (by kernel_rfl), (fun h => nomatch h), (fun h => nomatch h), (fun k h => nomatch h), (fun f r h => nomatch h), (fun n h => nomatch h)⟩
def ti143 : TI := ⟨1, false, none, none, (some [.nilfn]), none, 8, .other, [], none⟩
theorem ok143 : TIOk Try.prog 143 ti143 := ⟨(by kernel_rfl), (by kernel_rfl), (fun r h => nomatch h), (fun r h => nomatch h), (fun r h => by cases h; kernel_rfl), (fun r h => nomatch h), (by kernel_rfl), (fun h => nomatch h), (fun h => nomatch h), (fun k h => nomatch h), (fun f r h => nomatch h), (fun n h => nomatch h)⟩
def ti144 : TI := ⟨1, false, none, none, (some [.nilfn]), none, 8, .other, [], none⟩
theorem ok144 : TIOk Try.prog 144 ti144 := ⟨(by kernel_rfl), (by kernel_rfl), (fun r h => nomatch h), (fun r h => nomatch h), (fun r h => by cases h; kernel_rfl), (fun r h => nomatch h), (by kernel_rfl), (fun h => nomatch h), (fun h => nomatch h), (fun k h => nomatch h), (fun f r h => nomatch h), (fun n h => nomatch h)⟩
def ti145 : TI := ⟨1, false, none, none, (some [.nilfn]), none, 8, .other, [], none⟩
theorem ok145 : TIOk Try.prog 145 ti145 := ⟨(by kernel_rfl), (by kernel_rfl), (fun r h => nomatch h), (fun r h => nomatch h), (fun r h => by cases h; kernel_rfl), (fun r h => nomatch h), (by kernel_rfl), (fun h => nomatch h), (fun h => nomatch h), (fun k h => nomatch h), (fun f r h => nomatch h), (fun n h => nomatch h)⟩
def ti146 : TI := ⟨1, false, none, none, (some [.nilfn]), none, 8, .other, [], none⟩
theorem ok146 : TIOk Try.prog 146 ti146 := ⟨(by kernel_rfl), (by kernel_rfl), (fun r h => nomatch h), (fun r h => nomatch h), (fun r h => by cases h; kernel_rfl), (fun r h => nomatch h), (by kernel_rfl), (fun h => nomatch h), (fun h => nomatch h), (fun k h => nomatch h), (fun f r h => nomatch h), (fun n h => nomatch h)⟩
def ti147 : TI := ⟨1, false, none, none, (some [.nilfn]), none, 8, .other, [], none⟩
theorem ok147 : TIOk Try.prog 147 ti147 := ⟨(by kernel_rfl), (by kernel_rfl), (fun r h => nomatch h), (fun r h => nomatch h), (fun r h => by cases h; kernel_rfl), (fun r h => nomatch h), (by kernel_rfl), (fun h => nomatch h), (fun h => nomatch h), (fun k h => nomatch h), (fun f r h => nomatch h), (fun n h => nomatch h)⟩
def ti148 : TI := ⟨1, false, none, none, (some [.nilfn]), none, 8, .other, [], none⟩
theorem ok148 : TIOk Try.prog 148 ti148 := ⟨(by kernel_rfl), (by kernel_rfl), (fun r h => nomatch h), (fun r h => nomatch h), (fun r h => by cases h; kernel_rfl), (fun r h => nomatch h), (by kernel_rfl), (fun h => nomatch h), (fun h => nomatch h), (fun k h => nomatch h), (fun f r h => nomatch h), (fun n h => nomatch h)⟩
def ti149 : TI := ⟨1, false, none, none, (some [.nilfn]), none, 8, .other, [], none⟩
theorem ok149 : TIOk Try.prog 149 ti149 := ⟨(by kernel_rfl), (by kernel_rfl), (fun r h => nomatch h), (fun r h => nomatch h), (fun r h => by cases h; kernel_rfl), (fun r h => nomatch h), (by kernel_rfl), (fun h => nomatch h), (fun h => nomatch h), (fun k h => nomatch h), (fun f r h => nomatch h), (fun n h => nomatch h)⟩
def ti150 : TI := ⟨1, false, none, none, (some [.nilfn]), none, 8, .other, [], none⟩
theorem ok150 : TIOk Try.prog 150 ti150 := ⟨(by kernel_rfl), (by kernel_rfl), (fun r h => nomatch h), (fun r h => nomatch h), (fun r h => by cases h; kernel_rfl), (fun r h => nomatch h), (by kernel_rfl), (fun h => nomatch h), (fun h => nomatch h), (fun k h => nomatch h), (fun f r h => nomatch h), (fun n h => nomatch h)⟩
def ti151 : TI := ⟨1, false, none, none, (some [.nilfn]), none, 8, .other, [], none⟩
theorem ok151 : TIOk Try.prog 151 ti151 := ⟨(by kernel_rfl), (by kernel_rfl), (fun r h => nomatch h), (fun r h => nomatch h), (fun r h => by cases h; kernel_rfl), (fun r h => nomatch h), (by kernel_rfl), (fun h => nomatch h), (fun h => nomatch h), (fun k h => nomatch h), (fun f r h => nomatch h), (fun n h => nomatch h)⟩
def ti152 : TI := ⟨1, false, none, none, (some [.nilfn]), none, 8, .other, [], none⟩
theorem ok152 : TIOk Try.prog 152 ti152 := ⟨(by kernel_rfl), (by kernel_rfl), (fun r h => nomatch h), (fun r h => nomatch h), (fun r h => by cases h; kernel_rfl), (fun r h => nomatch h), (by kernel_rfl), (fun h => nomatch h), (fun h => nomatch h), (fun k h => nomatch h), (fun f r h => nomatch h), (fun n h => nomatch h)⟩
def ti153 : TI := ⟨1, false, none, none, (some [.nilfn]), none, 8, .other, [], none⟩
theorem ok153 : TIOk Try.prog 153 ti153 := ⟨(by kernel_rfl), (by kernel_rfl), (fun r h => nomatch h), (fun r h => nomatch h), (fun r h => by cases h; kernel_rfl), (fun r h => nomatch h), (by kernel_rfl), (fun h => nomatch h), (fun h => nomatch h), (fun k h => nomatch h), (fun f r h => nomatch h), (fun n h => nomatch h)⟩
def ti154 : TI := ⟨1, false, none, none, (some [.nilfn]), none, 8, .other, [], none⟩
theorem ok154 : TIOk Try.prog 154 ti154 := ⟨(by kernel_rfl), (by kernel_rfl), (fun r h => nomatch h), (fun r h => nomatch h), (fun r h => by cases h; kernel_rfl), (fun r h => nomatch h), (by kernel_rfl), (fun h => nomatch h), (fun h => nomatch h), (fun k h => nomatch h), (fun f r h => nomatch h), (fun n h => nomatch h)⟩
def ti155 : TI := ⟨1, false, none, none, (some [.nilfn]), none, 8, .other, [], none⟩
theorem ok155 : TIOk Try.prog 155 ti155 := ⟨(by kernel_rfl), (by kernel_rfl), (fun r h => nomatch h), (fun r h => nomatch h), (fun r h => by cases h; kernel_rfl), (fun r h => nomatch h), (by kernel_rfl), (fun h => nomatch h), (fun h => nomatch h), (fun k h => nomatch h), (fun f r h => nomatch h), (fun n h => nomatch h)⟩
def ti156 : TI := ⟨1, false, none, none, (some [.nilfn]), none, 8, .other, [], none⟩
theorem ok156 : TIOk Try.prog 156 ti156 := ⟨(by kernel_rfl), (by kernel_rfl), (fun r h => nomatch h), (fun r h => nomatch h), (fun r h => by cases h; kernel_rfl), (fun r h => nomatch h), (by kernel_rfl), (fun h => nomatch h), (fun h => nomatch h), (fun k h => nomatch h), (fun f r h => nomatch h), (fun n h => nomatch h)⟩
def ti157 : TI := ⟨1, false, none, none, (some [.nilfn]), none, 8, .other, [], none⟩
theorem ok157 : TIOk Try.prog 157 ti157 := ⟨(by kernel_rfl), (by kernel_rfl), (fun r h => nomatch h), (fun r h => nomatch h), (fun r h => by cases h; kernel_rfl), (fun r h => nomatch h), (by kernel_rfl), (fun h => nomatch h), (fun h => nomatch h), (fun k h => nomatch h), (fun f r h => nomatch h), (fun n h => nomatch h)⟩
def ti158 : TI := ⟨1, false, none, none, (some [.nilfn]), none, 8, .other, [], none⟩
theorem ok158 : TIOk Try.prog 158 ti158 := ⟨(by kernel_rfl), (by kernel_rfl), (fun r h => nomatch h), (fun r h => nomatch h), (fun r h => by cases h; kernel_rfl), (fun r h => nomatch h), (by kernel_rfl), (fun h => nomatch h), (fun h => nomatch h), (fun k h => nomatch h), (fun f r h => nomatch h), (fun n h => nomatch h)⟩
def ti159 : TI := ⟨1, false, none, none, (some [.nilfn]), none, 8, .other, [], none⟩
theorem ok159 : TIOk Try.prog 159 ti159 := ⟨(by kernel_rfl), (by kernel_rfl), (fun r h => nomatch h), (fun r h => nomatch h), (fun r h => by cases h; kernel_rfl), (fun r h => nomatch h), (by kernel_rfl), (fun h => nomatch h), (fun h => nomatch h), (fun k h => nomatch h), (fun f r h => nomatch h), (fun n h => nomatch h)⟩
def ti160 : TI := ⟨1, false, none, none, (some [.nilfn]), none, 8, .other, [], none⟩
theorem ok160 : TIOk Try.prog 160 ti160 := ⟨(by kernel_rfl), (by kernel_rfl), (fun r h => nomatch h), (fun r h => nomatch h), (fun r h => by cases h; kernel_rfl), (fun r h => nomatch h), (by kernel_rfl), (fun h => nomatch h), (fun h => nomatch h), (fun k h => nomatch h), (fun f r h => nomatch h), (fun n h => nomatch h)⟩
def ti161 : TI := ⟨4, true, none, none, (some [.nilptr, .nilptr, .nilptr, .str ⟨#[]⟩]), (some (.st [(0, 1), (1, 1), (2, 1), (3, 1)])), 40, .other, [(0, 1, 17), (1, 1, 17), (2, 1, 17), (3, 1, 9)], none⟩
theorem ok161 : TIOk Try.prog 161 ti161 := ⟨(by kernel_rfl), (by kernel_rfl), (fun r h => nomatch h), (fun r h => nomatch h), (fun r h => by cases h; kernel_rfl), (fun r h => by cases h; kernel_rfl), (by kernel_rfl), (fun h => nomatch h), (fun h => nomatch h), (fun k h => nomatch h), (fun f r h => match f, h with | 0, h => by cases h; kernel_rfl | 1, h => by cases h; kernel_rfl | 2, h => by cases h; kernel_rfl | 3, h => by cases h; kernel_rfl | (n + 4), h => by simp [ti161, nth] at h), (fun n h => nomatch h)⟩
def ti162 : TI := ⟨4, true, none, none, (some [.nilptr, .nilptr, .nilptr, .str ⟨#[]⟩]), (some (.st [(0, 1), (1, 1), (2, 1), (3, 1)])), 40, .other, [(0, 1, 17), (1, 1, 17), (2, 1, 17), (3, 1, 9)], none⟩
theorem ok162 : TIOk Try.prog 162 ti162 := ⟨(by kernel_rfl), (by kernel_rfl), (fun r h => nomatch h), (fun r h => nomatch h), (fun r h => by cases h; kernel_rfl), (fun r h => by cases h; kernel_rfl), (by kernel_rfl), (fun h => nomatch h), (fun h => nomatch h), (fun k h => nomatch h), (fun f r h => match f, h with | 0, h => by cases h; kernel_rfl | 1, h => by cases h; kernel_rfl | 2, h => by cases h; kernel_rfl | 3, h => by cases h; kernel_rfl | (n + 4), h => by simp [ti162, nth] at h), (fun n h => nomatch h)⟩
def ti163 : TI := ⟨0, true, none, (some (0, 16, 1)), (some []), (some (.ar 1)), 0, .other, [], none⟩
theorem ok163 : TIOk Try.prog 163 ti163 := ⟨(by kernel_rfl), (by kernel_rfl), (fun r h => nomatch h), (fun r h => by cases h; kernel_rfl), (fun r h => by cases h; kernel_rfl), (fun r h => by cases h; kernel_rfl), (by kernel_rfl), (fun h => nomatch h), (fun h => nomatch h), (fun k h => nomatch h), (fun f r h => nomatch h), (fun n h => nomatch h)⟩
def ti164 : TI := ⟨0, true, none, none, (some []), (some (.st [(0, 0)])), 0, .other, [(0, 0, 163)], none⟩
theorem ok164 : TIOk Try.prog 164 ti164 := ⟨(by kernel_rfl), (by kernel_rfl), (fun r h => nomatch h), (fun r h => nomatch h), (fun r h => by cases h; kernel_rfl), (fun r h => by cases h; kernel_rfl), (by kernel_rfl), (fun h => nomatch h), (fun h => nomatch h), (fun k h => nomatch h), (fun f r h => match f, h with | 0, h => by cases h; kernel_rfl | (n + 1), h => by simp [ti164, nth] at h), (fun n h => nomatch h)⟩
def ti165 : TI := ⟨0, true, none, none, (some []), (some (.st [(0, 0)])), 0, .other, [(0, 0, 163)], none⟩
theorem ok165 : TIOk Try.prog 165 ti165 := ⟨(by kernel_rfl), (by kernel_rfl), (fun r h => nomatch h), (fun r h => nomatch h), (fun r h => by cases h; kernel_rfl), (fun r h => by cases h; kernel_rfl), (by kernel_rfl), (fun h => nomatch h), (fun h => nomatch h), (fun k h => nomatch h), (fun f r h => match f, h with | 0, h => by cases h; kernel_rfl | (n + 1), h => by simp [ti165, nth] at h), (fun n h => nomatch h)⟩
def ti166 : TI := ⟨1, false, none, none, (some [.nilfn]), none, 8, .other, [], none⟩
theorem ok166 : TIOk Try.prog 166 ti166 := ⟨(by kernel_rfl), (by kernel_rfl), (fun r h => nomatch h), (fun r h => nomatch h), (fun r h => by cases h; kernel_rfl), (fun r h => nomatch h), (by kernel_rfl), (fun h => nomatch h), (fun h => nomatch h), (fun k h => nomatch h), (fun f r h => nomatch h), (fun n h => nomatch h)⟩
def ti167 : TI := ⟨1, false, none, none, (some [.int .u32 0]), none, 4, (.int .u32), [], none⟩
theorem ok167 : TIOk Try.prog 167 ti167 := ⟨(by kernel_rfl), (by kernel_rfl), (fun r h => nomatch h), (fun r h => nomatch h), (fun r h => by cases h; kernel_rfl), (fun r h => nomatch h), (by kernel_rfl), (fun h => nomatch h), (fun h => nomatch h), (fun k h => by cases h; kernel_rfl), (fun f r h => nomatch h), (fun n h => nomatch h)⟩
def ti168 : TI := ⟨1, false, none, none, (some [.int .u8 0]), none, 1, (.int .u8), [], none⟩
theorem ok168 : TIOk Try.prog 168 ti168 := ⟨(by kernel_rfl), (by kernel_rfl), (fun r h => nomatch h), (fun r h => nomatch h), (fun r h => by cases h; kernel_rfl), (fun r h => nomatch h), (by kernel_rfl), (fun h => nomatch h), (fun h => nomatch h), (fun k h => by cases h; kernel_rfl), (fun f r h => nomatch h), (fun n h => nomatch h)⟩
def ti169 : TI := ⟨1, false, none, none, (some [.int .u8 0]), none, 1, (.int .u8), [], none⟩
theorem ok169 : TIOk Try.prog 169 ti169 := ⟨(by kernel_rfl), (by kernel_rfl), (fun r h => nomatch h), (fun r h => nomatch h), (fun r h => by cases h; kernel_rfl), (fun r h => nomatch h), (by kernel_rfl), (fun h => nomatch h), (fun h => nomatch h), (fun k h => by cases h; kernel_rfl), (fun f r h => nomatch h), (fun n h => nomatch h)⟩
def ti170 : TI := ⟨1, false, none, none, (some [.nilfn]), none, 8, .other, [], none⟩
theorem ok170 : TIOk Try.prog 170 ti170 := ⟨(by kernel_rfl), (by kernel_rfl), (fun r h => nomatch h), (fun r h => nomatch h), (fun r h => by cases h; kernel_rfl), (fun r h => nomatch h), (by kernel_rfl), (fun h => nomatch h), (fun h => nomatch h), (fun k h => nomatch h), (fun f r h => nomatch h), (fun n h => nomatch h)⟩
def ti171 : TI := ⟨1, false, none, none, (some [.nilptr]), none, 8, .other, [], none⟩
theorem ok171 : TIOk Try.prog 171 ti171 := ⟨(by kernel_rfl), (by kernel_rfl), (fun r h => nomatch h), (fun r h => nomatch h), (fun r h => by cases h; kernel_rfl), (fun r h => nomatch h), (by kernel_rfl), (fun h => nomatch h), (fun h => nomatch h), (fun k h => nomatch h), (fun f r h => nomatch h), (fun n h => nomatch h)⟩
def ti172 : TI := ⟨1, false, none, none, (some [.int .i32 0]), none, 4, (.int .i32), [], none⟩
theorem ok172 : TIOk Try.prog 172 ti172 := ⟨(by kernel_rfl), (by kernel_rfl), (fun r h => nomatch h), (fun r h => nomatch h), (fun r h => by cases h; kernel_rfl), (fun r h => nomatch h), (by kernel_rfl), (fun h => nomatch h), (fun h => nomatch h), (fun k h => by cases h; kernel_rfl), (fun f r h => nomatch h), (fun n h => nomatch h)⟩
def ti173 : TI := ⟨1, false, none, none, (some [.int .i32 0]), none, 4, (.int .i32), [], none⟩
theorem ok173 : TIOk Try.prog 173 ti173 := ⟨(by kernel_rfl), (by kernel_rfl), (fun r h => nomatch h), (fun r h => nomatch h), (fun r h => by cases h; kernel_rfl), (fun r h => nomatch h), (by kernel_rfl), (fun h => nomatch h), (fun h => nomatch h), (fun k h => by cases h; kernel_rfl), (fun f r h => nomatch h), (fun n h => nomatch h)⟩
def ti174 : TI := ⟨11, true, none, none, (some [.int .u64 0, .int .u64 0, .int .u32 0, .int .u8 0, .int .u8 0, .int .u8 0, .int .u8 0, .nilfn, .nilptr, .int .i32 0, .int .i32 0]), (some (.st [(0, 1), (1, 1), (2, 1), (3, 1), (4, 1), (5, 1), (6, 1), (7, 1), (8, 1), (9, 1), (10, 1)])), 48, .other, [(0, 1, 12), (1, 1, 12), (2, 1, 167), (3, 1, 168), (4, 1, 5), (5, 1, 5), (6, 1, 169), (7, 1, 170), (8, 1, 171), (9, 1, 172), (10, 1, 173)], none⟩
theorem ok174 : TIOk Try.prog 174 ti174 := ⟨(by kernel_rfl), (by kernel_rfl), (fun r h => nomatch h), (fun r h => nomatch h), (fun r h => by cases h; kernel_rfl), (fun r h => by cases h; kernel_rfl), (by kernel_rfl), (fun h => nomatch h), (fun h => nomatch h), (fun k h => nomatch h), (fun f r h => match f, h with | 0, h => by cases h; kernel_rfl | 1, h => by cases h; kernel_rfl | 2, h => by cases h; kernel_rfl | 3, h => by cases h; kernel_rfl | 4, h => by cases h; kernel_rfl | 5, h => by cases h; kernel_rfl | 6, h => by cases h; kernel_rfl | 7, h => by cases h; kernel_rfl | 8, h => by cases h; kernel_rfl | 9, h => by cases h; kernel_rfl | 10, h => by cases h; kernel_rfl | (n + 11), h => by simp [ti174, nth] at h), (fun n h => nomatch h)⟩
def ti175 : TI := ⟨11, true, none, none, (some [.int .u64 0, .int .u64 0, .int .u32 0, .int .u8 0, .int .u8 0, .int .u8 0, .int .u8 0, .nilfn, .nilptr, .int .i32 0, .int .i32 0]), (some (.st [(0, 1), (1, 1), (2, 1), (3, 1), (4, 1), (5, 1), (6, 1), (7, 1), (8, 1), (9, 1), (10, 1)])), 48, .other, [(0, 1, 12), (1, 1, 12), (2, 1, 167), (3, 1, 168), (4, 1, 5), (5, 1, 5), (6, 1, 169), (7, 1, 170), (8, 1, 171), (9, 1, 172), (10, 1, 173)], none⟩
theorem ok175 : TIOk Try.prog 175 ti175 := ⟨(by kernel_rfl), (by kernel_rfl), (fun r h => nomatch h), (fun r h => nomatch h), (fun r h => by cases h; kernel_rfl), (fun r h => by cases h; kernel_rfl), (by kernel_rfl), (fun h => nomatch h), (fun h => nomatch h), (fun k h => nomatch h), (fun f r h => match f, h with | 0, h => by cases h; kernel_rfl | 1, h => by cases h; kernel_rfl | 2, h => by cases h; kernel_rfl | 3, h => by cases h; kernel_rfl | 4, h => by cases h; kernel_rfl | 5, h => by cases h; kernel_rfl | 6, h => by cases h; kernel_rfl | 7, h => by cases h; kernel_rfl | 8, h => by cases h; kernel_rfl | 9, h => by cases h; kernel_rfl | 10, h => by cases h; kernel_rfl | (n + 11), h => by simp [ti175, nth] at h), (fun n h => nomatch h)⟩
def ti176 : TI := ⟨1, false, none, none, (some [.nilptr]), none, 8, .other, [], none⟩
theorem ok176 : TIOk Try.prog 176 ti176 := ⟨(by kernel_rfl), (by kernel_rfl), (fun r h => nomatch h), (fun r h => nomatch h), (fun r h => by cases h; kernel_rfl), (fun r h => nomatch h), (by kernel_rfl), (fun h => nomatch h), (fun h => nomatch h), (fun k h => nomatch h), (fun f r h => nomatch h), (fun n h => nomatch h)⟩
def tabT : Tree := (.node (.node (.node (.node (.node (.node (.node (.node .leaf 0 ti0 .leaf) 1 ti1 .leaf) 2 ti2 (.node (.node .leaf 3 ti3 .leaf) 4 ti4 .leaf)) 5 ti5 (.node (.node (.node .leaf 6 ti6 .leaf) 7 ti7 .leaf) 8 ti8 (.node (.node .leaf 9 ti9 .leaf) 10 ti10 .leaf))) 11 ti11 (.node (.node (.node (.node .leaf 12 ti12 .leaf) 13 ti13 .leaf) 14 ti14 (.node (.node .leaf 15 ti15 .leaf) 16 ti16 .leaf)) 17 ti17 (.node (.node (.node .leaf 18 ti18 .leaf) 19 ti19 .leaf) 20 ti20 (.node .leaf 21 ti21 .leaf)))) 22 ti22 (.node (.node (.node (.node (.node .leaf 23 ti23 .leaf) 24 ti24 .leaf) 25 ti25 (.node (.node .leaf 26 ti26 .leaf) 27 ti27 .leaf)) 28 ti28 (.node (.node (.node .leaf 29 ti29 .leaf) 30 ti30 .leaf) 31 ti31 (.node .leaf 32 ti32 .leaf))) 33 ti33 (.node (.node (.node (.node .leaf 34 ti34 .leaf) 35 ti35 .leaf) 36 ti36 (.node (.node .leaf 37 ti37 .leaf) 38 ti38 .leaf)) 39 ti39 (.node (.node (.node .leaf 40 ti40 .leaf) 41 ti41 .leaf) 42 ti42 (.node .leaf 43 ti43 .leaf))))) 44 ti44 (.node (.node (.node (.node (.node (.node .leaf 45 ti45 .leaf) 46 ti46 .leaf) 47 ti47 (.node (.node .leaf 48 ti48 .leaf) 49 ti49 .leaf)) 50 ti50 (.node (.node (.node .leaf 51 ti51 .leaf) 52 ti52 .leaf) 53 ti53 (.node .leaf 54 ti54 .leaf))) 55 ti55 (.node (.node (.node (.node .leaf 56 ti56 .leaf) 57 ti57 .leaf) 58 ti58 (.node (.node .leaf 59 ti59 .leaf) 60 ti60 .leaf)) 61 ti61 (.node (.node (.node .leaf 62 ti62 .leaf) 63 ti63 .leaf) 64 ti64 (.node .leaf 65 ti65 .leaf)))) 66 ti66 (.node (.node (.node (.node (.node .leaf 67 ti67 .leaf) 68 ti68 .leaf) 69 ti69 (.node (.node .leaf 70 ti70 .leaf) 71 ti71 .leaf)) 72 ti72 (.node (.node (.node .leaf 73 ti73 .leaf) 74 ti74 .leaf) 75 ti75 (.node .leaf 76 ti76 .leaf))) 77 ti77 (.node (.node (.node (.node .leaf 78 ti78 .leaf) 79 ti79 .leaf) 80 ti80 (.node (.node .leaf 81 ti81 .leaf) 82 ti82 .leaf)) 83 ti83 (.node (.node (.node .leaf 84 ti84 .leaf) 85 ti85 .leaf) 86 ti86 (.node .leaf 87 ti87 .leaf)))))) 88 ti88 (.node (.node (.node (.node (.node (.node (.node .leaf 89 ti89 .leaf) 90 ti90 .leaf) 91 ti91 (.node (.node .leaf 92 ti92 .leaf) 93 ti93 .leaf)) 94 ti94 (.node (.node (.node .leaf 95 ti95 .leaf) 96 ti96 .leaf) 97 ti97 (.node (.node .leaf 98 ti98 .leaf) 99 ti99 .leaf))) 100 ti100 (.node (.node (.node (.node .leaf 101 ti101 .leaf) 102 ti102 .leaf) 103 ti103 (.node (.node .leaf 104 ti104 .leaf) 105 ti105 .leaf)) 106 ti106 (.node (.node (.node .leaf 107 ti107 .leaf) 108 ti108 .leaf) 109 ti109 (.node .leaf 110 ti110 .leaf)))) 111 ti111 (.node (.node (.node (.node (.node .leaf 112 ti112 .leaf) 113 ti113 .leaf) 114 ti114 (.node (.node .leaf 115 ti115 .leaf) 116 ti116 .leaf)) 117 ti117 (.node (.node (.node .leaf 118 ti118 .leaf) 119 ti119 .leaf) 120 ti120 (.node .leaf 121 ti121 .leaf))) 122 ti122 (.node (.node (.node (.node .leaf 123 ti123 .leaf) 124 ti124 .leaf) 125 ti125 (.node (.node .leaf 126 ti126 .leaf) 127 ti127 .leaf)) 128 ti128 (.node (.node (.node .leaf 129 ti129 .leaf) 130 ti130 .leaf) 131 ti131 (.node .leaf 132 ti132 .leaf))))) 133 ti133 (.node (.node (.node (.node (.node (.node .leaf 134 ti134 .leaf) 135 ti135 .leaf) 136 ti136 (.node (.node .leaf 137 ti137 .leaf) 138 ti138 .leaf)) 139 ti139 (.node (.node (.node .leaf 140 ti140 .leaf) 141 ti141 .leaf) 142 ti142 (.node .leaf 143 ti143 .leaf))) 144 ti144 (.node (.node (.node (.node .leaf 145 ti145 .leaf) 146 ti146 .leaf) 147 ti147 (.node (.node .leaf 148 ti148 .leaf) 149 ti149 .leaf)) 150 ti150 (.node (.node (.node .leaf 151 ti151 .leaf) 152 ti152 .leaf) 153 ti153 (.node .leaf 154 ti154 .leaf)))) 155 ti155 (.node (.node (.node (.node (.node .leaf 156 ti156 .leaf) 157 ti157 .leaf) 158 ti158 (.node (.node .leaf 159 ti159 .leaf) 160 ti160 .leaf)) 161 ti161 (.node (.node (.node .leaf 162 ti162 .leaf) 163 ti163 .leaf) 164 ti164 (.node .leaf 165 ti165 .leaf))) 166 ti166 (.node (.node (.node (.node .leaf 167 ti167 .leaf) 168 ti168 .leaf) 169 ti169 (.node (.node .leaf 170 ti170 .leaf) 171 ti171 .leaf)) 172 ti172 (.node (.node (.node .leaf 173 ti173 .leaf) 174 ti174 .leaf) 175 ti175 (.node .leaf 176 ti176 .leaf)))))))
def tab (n : Nat) : Option TI := tabT.look n
theorem tabTOk : TabOk Try.prog tabT := ⟨ok88, ⟨ok44, ⟨ok22, ⟨ok11, ⟨ok5, ⟨ok2, ⟨ok1, ⟨ok0, trivial, trivial⟩, trivial⟩, ⟨ok4, ⟨ok3, trivial, trivial⟩, trivial⟩⟩, ⟨ok8, ⟨ok7, ⟨ok6, trivial, trivial⟩, trivial⟩, ⟨ok10, ⟨ok9, trivial, trivial⟩, trivial⟩⟩⟩, ⟨ok17, ⟨ok14, ⟨ok13, ⟨ok12, trivial, trivial⟩, trivial⟩, ⟨ok16, ⟨ok15, trivial, trivial⟩, trivial⟩⟩, ⟨ok20, ⟨ok19, ⟨ok18, trivial, trivial⟩, trivial⟩, ⟨ok21, trivial, trivial⟩⟩⟩⟩, ⟨ok33, ⟨ok28, ⟨ok25, ⟨ok24, ⟨ok23, trivial, trivial⟩, trivial⟩, ⟨ok27, ⟨ok26, trivial, trivial⟩, trivial⟩⟩, ⟨ok31, ⟨ok30, ⟨ok29, trivial, trivial⟩, trivial⟩, ⟨ok32, trivial, trivial⟩⟩⟩, ⟨ok39, ⟨ok36, ⟨ok35, ⟨ok34, trivial, trivial⟩, trivial⟩, ⟨ok38, ⟨ok37, trivial, trivial⟩, trivial⟩⟩, ⟨ok42, ⟨ok41, ⟨ok40, trivial, trivial⟩, trivial⟩, ⟨ok43, trivial, trivial⟩⟩⟩⟩⟩, ⟨ok66, ⟨ok55, ⟨ok50, ⟨ok47, ⟨ok46, ⟨ok45, trivial, trivial⟩, trivial⟩, ⟨ok49, ⟨ok48, trivial, trivial⟩, trivial⟩⟩, ⟨ok53, ⟨ok52, ⟨ok51, trivial, trivial⟩, trivial⟩, ⟨ok54, trivial, trivial⟩⟩⟩, ⟨ok61, ⟨ok58, ⟨ok57, ⟨ok56, trivial, trivial⟩, trivial⟩, ⟨ok60, ⟨ok59, trivial, trivial⟩, trivial⟩⟩, ⟨ok64, ⟨ok63, ⟨ok62, trivial, trivial⟩, trivial⟩, ⟨ok65, trivial, trivial⟩⟩⟩⟩, ⟨ok77, ⟨ok72, ⟨ok69, ⟨ok68, ⟨ok67, trivial, trivial⟩, trivial⟩, ⟨ok71, ⟨ok70, trivial, trivial⟩, trivial⟩⟩, ⟨ok75, ⟨ok74, ⟨ok73, trivial, trivial⟩, trivial⟩, ⟨ok76, trivial, trivial⟩⟩⟩, ⟨ok83, ⟨ok80, ⟨ok79, ⟨ok78, trivial, trivial⟩, trivial⟩, ⟨ok82, ⟨ok81, trivial, trivial⟩, trivial⟩⟩, ⟨ok86, ⟨ok85, ⟨ok84, trivial, trivial⟩, trivial⟩, ⟨ok87, trivial, trivial⟩⟩⟩⟩⟩⟩, ⟨ok133, ⟨ok111, ⟨ok100, ⟨ok94, ⟨ok91, ⟨ok90, ⟨ok89, trivial, trivial⟩, trivial⟩, ⟨ok93, ⟨ok92, trivial, trivial⟩, trivial⟩⟩, ⟨ok97, ⟨ok96, ⟨ok95, trivial, trivial⟩, trivial⟩, ⟨ok99, ⟨ok98, trivial, trivial⟩, trivial⟩⟩⟩, ⟨ok106, ⟨ok103, ⟨ok102, ⟨ok101, trivial, trivial⟩, trivial⟩, ⟨ok105, ⟨ok104, trivial, trivial⟩, trivial⟩⟩, ⟨ok109, ⟨ok108, ⟨ok107, trivial, trivial⟩, trivial⟩, ⟨ok110, trivial, trivial⟩⟩⟩⟩, ⟨ok122, ⟨ok117, ⟨ok114, ⟨ok113, ⟨ok112, trivial, trivial⟩, trivial⟩, ⟨ok116, ⟨ok115, trivial, trivial⟩, trivial⟩⟩, ⟨ok120, ⟨ok119, ⟨ok118, trivial, trivial⟩, trivial⟩, ⟨ok121, trivial, trivial⟩⟩⟩, ⟨ok128, ⟨ok125, ⟨ok124, ⟨ok123, trivial, trivial⟩, trivial⟩, ⟨ok127, ⟨ok126, trivial, trivial⟩, trivial⟩⟩, ⟨ok131, ⟨ok130, ⟨ok129, trivial, trivial⟩, trivial⟩, ⟨ok132, trivial, trivial⟩⟩⟩⟩⟩, ⟨ok155, ⟨ok144, ⟨ok139, ⟨ok136, ⟨ok135, ⟨ok134, trivial, trivial⟩, trivial⟩, ⟨ok138, ⟨ok137, trivial, trivial⟩, trivial⟩⟩, ⟨ok142, ⟨ok141, ⟨ok140, trivial, trivial⟩, trivial⟩, ⟨ok143, trivial, trivial⟩⟩⟩, ⟨ok150, ⟨ok147, ⟨ok146, ⟨ok145, trivial, trivial⟩, trivial⟩, ⟨ok149, ⟨ok148, trivial, trivial⟩, trivial⟩⟩, ⟨ok153, ⟨ok152, ⟨ok151, trivial, trivial⟩, trivial⟩, ⟨ok154, trivial, trivial⟩⟩⟩⟩, ⟨ok166, ⟨ok161, ⟨ok158, ⟨ok157, ⟨ok156, trivial, trivial⟩, trivial⟩, ⟨ok160, ⟨ok159, trivial, trivial⟩, trivial⟩⟩, ⟨ok164, ⟨ok163, ⟨ok162, trivial, trivial⟩, trivial⟩, ⟨ok165, trivial, trivial⟩⟩⟩, ⟨ok172, ⟨ok169, ⟨ok168, ⟨ok167, trivial, trivial⟩, trivial⟩, ⟨ok171, ⟨ok170, trivial, trivial⟩, trivial⟩⟩, ⟨ok175, ⟨ok174, ⟨ok173, trivial, trivial⟩, trivial⟩, ⟨ok176, trivial, trivial⟩⟩⟩⟩⟩⟩⟩
theorem tabOk : ∀ t i, tab t = some i → TIOk Try.prog t i := fun _ _ h => tabTOk.look h
theorem seat : SeatOk Try.prog tab := ⟨tabOk, by kernel_rfl⟩
theorem ent_3 : Ent Try.prog 3 := enters_of Try.func3 (by kernel_rfl) rfl
theorem ent_4 : Ent Try.prog 4 := enters_of Try.func4 (by kernel_rfl) rfl
theorem ent_5 : Ent Try.prog 5 := enters_of Try.func5 (by kernel_rfl) rfl
theorem ent_6 : Ent Try.prog 6 := enters_of Try.func6 (by kernel_rfl) rfl
theorem ent_7 : Ent Try.prog 7 := enters_of Try.func7 (by kernel_rfl) rfl
theorem ent_8 : Ent Try.prog 8 := enters_of Try.func8 (by kernel_rfl) rfl
theorem ent_9 : Ent Try.prog 9 := enters_of Try.func9 (by kernel_rfl) rfl
theorem ent_10 : Ent Try.prog 10 := enters_of Try.func10 (by kernel_rfl) rfl
theorem ent_11 : Ent Try.prog 11 := enters_of Try.func11 (by kernel_rfl) rfl
theorem ent_12 : Ent Try.prog 12 := enters_of Try.func12 (by kernel_rfl) rfl
theorem ent_13 : Ent Try.prog 13 := enters_of Try.func13 (by kernel_rfl) rfl
theorem ent_14 : Ent Try.prog 14 := enters_of Try.func14 (by kernel_rfl) rfl
theorem ent_15 : Ent Try.prog 15 := enters_of Try.func15 (by kernel_rfl) rfl
theorem ent_16 : Ent Try.prog 16 := enters_of Try.func16 (by kernel_rfl) rfl
theorem ent_17 : Ent Try.prog 17 := enters_of Try.func17 (by kernel_rfl) rfl
theorem ent_18 : Ent Try.prog 18 := enters_of Try.func18 (by kernel_rfl) rfl
theorem ent_19 : Ent Try.prog 19 := enters_of Try.func19 (by kernel_rfl) rfl
theorem ent_20 : Ent Try.prog 20 := enters_of Try.func20 (by kernel_rfl) rfl
theorem ent_21 : Ent Try.prog 21 := enters_of Try.func21 (by kernel_rfl) rfl
theorem ent_22 : Ent Try.prog 22 := enters_of Try.func22 (by kernel_rfl) rfl
theorem ent_23 : Ent Try.prog 23 := enters_of Try.func23 (by kernel_rfl) rfl
theorem ent_24 : Ent Try.prog 24 := enters_of Try.func24 (by kernel_rfl) rfl
theorem ent_25 : Ent Try.prog 25 := enters_of Try.func25 (by kernel_rfl) rfl
theorem ent_26 : Ent Try.prog 26 := enters_of Try.func26 (by kernel_rfl) rfl
theorem ent_27 : Ent Try.prog 27 := enters_of Try.func27 (by kernel_rfl) rfl
theorem ent_28 : Ent Try.prog 28 := enters_of Try.func28 (by kernel_rfl) rfl
theorem ent_29 : Ent Try.prog 29 := enters_of Try.func29 (by kernel_rfl) rfl
theorem ent_30 : Ent Try.prog 30 := enters_of Try.func30 (by kernel_rfl) rfl
theorem ent_31 : Ent Try.prog 31 := enters_of Try.func31 (by kernel_rfl) rfl
theorem ent_32 : Ent Try.prog 32 := enters_of Try.func32 (by kernel_rfl) rfl
theorem ent_33 : Ent Try.prog 33 := enters_of Try.func33 (by kernel_rfl) rfl
theorem ent_34 : Ent Try.prog 34 := enters_of Try.func34 (by kernel_rfl) rfl
theorem ent_35 : Ent Try.prog 35 := enters_of Try.func35 (by kernel_rfl) rfl
theorem ent_36 : Ent Try.prog 36 := enters_of Try.func36 (by kernel_rfl) rfl
theorem ent_37 : Ent Try.prog 37 := enters_of Try.func37 (by kernel_rfl) rfl
theorem ent_38 : Ent Try.prog 38 := enters_of Try.func38 (by kernel_rfl) rfl
theorem ent_39 : Ent Try.prog 39 := enters_of Try.func39 (by kernel_rfl) rfl
theorem ent_40 : Ent Try.prog 40 := enters_of Try.func40 (by kernel_rfl) rfl
theorem ent_41 : Ent Try.prog 41 := enters_of Try.func41 (by kernel_rfl) rfl
theorem ent_42 : Ent Try.prog 42 := enters_of Try.func42 (by kernel_rfl) rfl
theorem ent_43 : Ent Try.prog 43 := enters_of Try.func43 (by kernel_rfl) rfl
theorem ent_44 : Ent Try.prog 44 := enters_of Try.func44 (by kernel_rfl) rfl
theorem ent_45 : Ent Try.prog 45 := enters_of Try.func45 (by kernel_rfl) rfl
theorem ent_46 : Ent Try.prog 46 := enters_of Try.func46 (by kernel_rfl) rfl
theorem ent_47 : Ent Try.prog 47 := enters_of Try.func47 (by kernel_rfl) rfl
theorem ent_48 : Ent Try.prog 48 := enters_of Try.func48 (by kernel_rfl) rfl
theorem ent_49 : Ent Try.prog 49 := enters_of Try.func49 (by kernel_rfl) rfl
theorem ent_50 : Ent Try.prog 50 := enters_of Try.func50 (by kernel_rfl) rfl
theorem ent_51 : Ent Try.prog 51 := enters_of Try.func51 (by kernel_rfl) rfl
theorem ent_52 : Ent Try.prog 52 := enters_of Try.func52 (by kernel_rfl) rfl
theorem ent_53 : Ent Try.prog 53 := enters_of Try.func53 (by kernel_rfl) rfl
theorem ent_54 : Ent Try.prog 54 := enters_of Try.func54 (by kernel_rfl) rfl
theorem ent_55 : Ent Try.prog 55 := enters_of Try.func55 (by kernel_rfl) rfl
theorem ent_56 : Ent Try.prog 56 := enters_of Try.func56 (by kernel_rfl) rfl
theorem ent_57 : Ent Try.prog 57 := enters_of Try.func57 (by kernel_rfl) rfl
theorem ent_58 : Ent Try.prog 58 := enters_of Try.func58 (by kernel_rfl) rfl
theorem ent_59 : Ent Try.prog 59 := enters_of Try.func59 (by kernel_rfl) rfl
theorem ent_60 : Ent Try.prog 60 := enters_of Try.func60 (by kernel_rfl) rfl
theorem ent_61 : Ent Try.prog 61 := enters_of Try.func61 (by kernel_rfl) rfl
theorem ent_62 : Ent Try.prog 62 := enters_of Try.func62 (by kernel_rfl) rfl
theorem ent_63 : Ent Try.prog 63 := enters_of Try.func63 (by kernel_rfl) rfl
theorem ent_64 : Ent Try.prog 64 := enters_of Try.func64 (by kernel_rfl) rfl
theorem ent_65 : Ent Try.prog 65 := enters_of Try.func65 (by kernel_rfl) rfl
theorem ent_66 : Ent Try.prog 66 := enters_of Try.func66 (by kernel_rfl) rfl
theorem ent_67 : Ent Try.prog 67 := enters_of Try.func67 (by kernel_rfl) rfl
theorem ent_68 : Ent Try.prog 68 := enters_of Try.func68 (by kernel_rfl) rfl
theorem ent_69 : Ent Try.prog 69 := enters_of Try.func69 (by kernel_rfl) rfl
theorem ent_70 : Ent Try.prog 70 := enters_of Try.func70 (by kernel_rfl) rfl
theorem ent_71 : Ent Try.prog 71 := enters_of Try.func71 (by kernel_rfl) rfl
theorem ent_72 : Ent Try.prog 72 := enters_of Try.func72 (by kernel_rfl) rfl
theorem ent_73 : Ent Try.prog 73 := enters_of Try.func73 (by kernel_rfl) rfl
theorem ent_74 : Ent Try.prog 74 := enters_of Try.func74 (by kernel_rfl) rfl
theorem ent_75 : Ent Try.prog 75 := enters_of Try.func75 (by kernel_rfl) rfl
theorem ent_76 : Ent Try.prog 76 := enters_of Try.func76 (by kernel_rfl) rfl
theorem ent_77 : Ent Try.prog 77 := enters_of Try.func77 (by kernel_rfl) rfl
theorem ent_78 : Ent Try.prog 78 := enters_of Try.func78 (by kernel_rfl) rfl
theorem ent_79 : Ent Try.prog 79 := enters_of Try.func79 (by kernel_rfl) rfl
theorem ent_80 : Ent Try.prog 80 := enters_of Try.func80 (by kernel_rfl) rfl
theorem ent_81 : Ent Try.prog 81 := enters_of Try.func81 (by kernel_rfl) rfl
theorem ent_82 : Ent Try.prog 82 := enters_of Try.func82 (by kernel_rfl) rfl
theorem ent_83 : Ent Try.prog 83 := enters_of Try.func83 (by kernel_rfl) rfl
theorem ent_84 : Ent Try.prog 84 := enters_of Try.func84 (by kernel_rfl) rfl
theorem ent_85 : Ent Try.prog 85 := enters_of Try.func85 (by kernel_rfl) rfl
theorem ent_86 : Ent Try.prog 86 := enters_of Try.func86 (by kernel_rfl) rfl
theorem ent_87 : Ent Try.prog 87 := enters_of Try.func87 (by kernel_rfl) rfl
theorem ent_88 : Ent Try.prog 88 := enters_of Try.func88 (by kernel_rfl) rfl
theorem ent_89 : Ent Try.prog 89 := enters_of Try.func89 (by kernel_rfl) rfl
theorem ent_90 : Ent Try.prog 90 := enters_of Try.func90 (by kernel_rfl) rfl
theorem ent_91 : Ent Try.prog 91 := enters_of Try.func91 (by kernel_rfl) rfl
theorem ent_92 : Ent Try.prog 92 := enters_of Try.func92 (by kernel_rfl) rfl
theorem ent_93 : Ent Try.prog 93 := enters_of Try.func93 (by kernel_rfl) rfl
theorem ent_94 : Ent Try.prog 94 := enters_of Try.func94 (by kernel_rfl) rfl
theorem ent_95 : Ent Try.prog 95 := enters_of Try.func95 (by kernel_rfl) rfl
theorem ent_96 : Ent Try.prog 96 := enters_of Try.func96 (by kernel_rfl) rfl
theorem ent_97 : Ent Try.prog 97 := enters_of Try.func97 (by kernel_rfl) rfl
theorem ent_98 : Ent Try.prog 98 := enters_of Try.func98 (by kernel_rfl) rfl
theorem ent_99 : Ent Try.prog 99 := enters_of Try.func99 (by kernel_rfl) rfl
theorem ent_100 : Ent Try.prog 100 := enters_of Try.func100 (by kernel_rfl) rfl
theorem ent_101 : Ent Try.prog 101 := enters_of Try.func101 (by kernel_rfl) rfl
theorem ent_102 : Ent Try.prog 102 := enters_of Try.func102 (by kernel_rfl) rfl
theorem ent_103 : Ent Try.prog 103 := enters_of Try.func103 (by kernel_rfl) rfl
theorem ent_104 : Ent Try.prog 104 := enters_of Try.func104 (by kernel_rfl) rfl
theorem ent_105 : Ent Try.prog 105 := enters_of Try.func105 (by kernel_rfl) rfl
theorem ent_106 : Ent Try.prog 106 := enters_of Try.func106 (by kernel_rfl) rfl
theorem ent_107 : Ent Try.prog 107 := enters_of Try.func107 (by kernel_rfl) rfl
theorem ent_108 : Ent Try.prog 108 := enters_of Try.func108 (by kernel_rfl) rfl
theorem ent_109 : Ent Try.prog 109 := enters_of Try.func109 (by kernel_rfl) rfl
theorem ent_110 : Ent Try.prog 110 := enters_of Try.func110 (by kernel_rfl) rfl
theorem ent_111 : Ent Try.prog 111 := enters_of Try.func111 (by kernel_rfl) rfl
theorem ent_112 : Ent Try.prog 112 := enters_of Try.func112 (by kernel_rfl) rfl
theorem ent_113 : Ent Try.prog 113 := enters_of Try.func113 (by kernel_rfl) rfl
theorem ent_114 : Ent Try.prog 114 := enters_of Try.func114 (by kernel_rfl) rfl
end Go.Proofs.Ytnekemldcjegaaa.Aw

/- The logic of abstract walks, part N2: arguments of which more is known. -/
namespace Go.Proofs.Ytnekemldcjegaaa.Aw
open Go Go.RowKit
set_option linter.unusedVariables false
set_option linter.unusedSimpArgs false

mutual
/-- x says all that y says. -/
def leD : D → D → Prop
  | .sl c sz rows, y => match y with
    | .sl c' sz' rows' => (c' = false ∨ c = c') ∧ sz = sz' ∧ leDLL rows rows'
    | _ => False
  | .agg l, y => match y with
    | .agg l' => leDL l l'
    | _ => False
  | .int k n, y => D.int k n = y
  | .bool b, y => D.bool b = y
  | .str s, y => D.str s = y
  | .fn f cs, y => match y with
    | .fn f' cs' => f = f' ∧ leDL cs cs'
    | _ => False
  | .nilfn, y => D.nilfn = y
  | .ptr cs, y => match y with
    | .ptr cs' => leDL cs cs'
    | _ => False
  | .nilsl, y => match y with
    | .nilsl => True
    | .sl _ _ rows => rows = []
    | _ => False
  | .nilmap, y => D.nilmap = y
  | .nilptr, y => D.nilptr = y
def leDL : List D → List D → Prop
  | [], q => q = []
  | x :: r, q => match q with
    | [] => False
    | y :: q => leD x y ∧ leDL r q
def leDLL : List (List D) → List (List D) → Prop
  | [], q => q = []
  | x :: r, q => match q with
    | [] => False
    | y :: q => leDL x y ∧ leDLL r q
end
mutual
theorem leD_refl : ∀ (x : D), leD x x
  | .sl c sz rows => ⟨.inr rfl, rfl, leDLL_refl rows⟩
  | .agg l => leDL_refl l
  | .int k n => rfl
  | .bool b => rfl
  | .str s => rfl
  | .fn f cs => ⟨rfl, leDL_refl cs⟩
  | .nilfn => rfl
  | .ptr cs => leDL_refl cs
  | .nilsl => trivial
  | .nilmap => rfl
  | .nilptr => rfl
theorem leDL_refl : ∀ (l : List D), leDL l l
  | [] => rfl
  | x :: r => ⟨leD_refl x, leDL_refl r⟩
theorem leDLL_refl : ∀ (l : List (List D)), leDLL l l
  | [] => rfl
  | x :: r => ⟨leDL_refl x, leDLL_refl r⟩
end
theorem leDL_get : ∀ {l q : List D}, leDL l q → l.length = q.length ∧ ∀ (i : Nat) (y : D), q[i]? = some y → ∃ x, l[i]? = some x ∧ leD x y
  | [], q, h => by
    have h : q = [] := h
    subst h
    exact ⟨rfl, fun i y hy => by simp at hy⟩
  | x :: r, [], h => h.elim
  | x :: r, y :: q, h => by
    obtain ⟨h1, h2⟩ := (h : leD x y ∧ leDL r q)
    obtain ⟨g1, g2⟩ := leDL_get h2
    refine ⟨by simp [g1], fun i z hz => ?_⟩
    match i, hz with
    | 0, hz => cases hz; exact ⟨x, rfl, h1⟩
    | i + 1, hz => exact g2 i z (by simpa using hz)
theorem leDLL_get : ∀ {l q : List (List D)}, leDLL l q → l.length = q.length ∧ ∀ (i : Nat) (y : List D), q[i]? = some y → ∃ x, l[i]? = some x ∧ leDL x y
  | [], q, h => by
    have h : q = [] := h
    subst h
    exact ⟨rfl, fun i y hy => by simp at hy⟩
  | x :: r, [], h => h.elim
  | x :: r, y :: q, h => by
    obtain ⟨h1, h2⟩ := (h : leDL x y ∧ leDLL r q)
    obtain ⟨g1, g2⟩ := leDLL_get h2
    refine ⟨by simp [g1], fun i z hz => ?_⟩
    match i, hz with
    | 0, hz => cases hz; exact ⟨x, rfl, h1⟩
    | i + 1, hz => exact g2 i z (by simpa using hz)
theorem Rd.le {w : World} {ok : Nat → Prop} {x : D} {v : Value} (h : Rd w ok x v) : ∀ {y : D}, leD x y → Rd w ok y v := by
  induction h with
  | int k n => intro y e; cases (e : D.int k n = y); exact .int k n
  | bool b => intro y e; cases (e : D.bool b = y); exact .bool b
  | str s => intro y e; cases (e : D.str s = y); exact .str s
  | agg cs vs hl h1 h ih =>
    intro y e
    cases y with
    | agg l =>
      obtain ⟨g1, g2⟩ := leDL_get (e : leDL cs l)
      refine .agg l vs (by rw [hl, g1]) h1 (fun i c v hc hv => ?_)
      obtain ⟨x, e1, e2⟩ := g2 i c hc
      exact ih i x v e1 hv e2
    | _ => exact e.elim
  | fn f cs vs hl h ih =>
    intro y e
    cases y with
    | fn f' l =>
      obtain ⟨rfl, e⟩ := (e : f = f' ∧ leDL cs l)
      obtain ⟨g1, g2⟩ := leDL_get e
      refine .fn f l vs (by rw [hl, g1]) (fun i c v hc hv => ?_)
      obtain ⟨x, e1, e2⟩ := g2 i c hc
      exact ih i x v e1 hv e2
    | _ => exact e.elim
  | nilfn => intro y e; cases (e : D.nilfn = y); exact .nilfn
  | ptr cs b off vs hok hc h ih =>
    intro y e
    cases y with
    | ptr l =>
      obtain ⟨g1, g2⟩ := leDL_get (e : leDL cs l)
      refine .ptr l b off vs hok (fun i c hi => ?_) (fun i c hi => ?_)
      · obtain ⟨x, e1, e2⟩ := g2 i c hi
        exact hc i x e1
      · obtain ⟨x, e1, e2⟩ := g2 i c hi
        exact ih i x e1 e2
    | _ => exact e.elim
  | sl0 clip sz =>
    intro y e
    cases y with
    | sl c' sz' rows' =>
      obtain ⟨_, rfl, h3⟩ := (e : (c' = false ∨ clip = c') ∧ sz = sz' ∧ rows' = [])
      subst h3
      exact .sl0 _ _
    | _ => exact e.elim
  | slE clip sz ad =>
    intro y e
    cases y with
    | sl c' sz' rows' =>
      obtain ⟨_, rfl, h3⟩ := (e : (c' = false ∨ clip = c') ∧ sz = sz' ∧ rows' = [])
      subst h3
      exact .slE _ _ _
    | _ => exact e.elim
  | sl clip sz rows b off cap vs hok h1 h2 h3 h4 h5 h6 h7 ih =>
    intro y e
    cases y with
    | sl c' sz' rows' =>
      obtain ⟨g1, rfl, g3⟩ := (e : (c' = false ∨ clip = c') ∧ sz = sz' ∧ leDLL rows rows')
      obtain ⟨l1, l2⟩ := leDLL_get g3
      have key : ∀ (i : Nat) (row : List D) (j : Nat) (c : D), rows'[i]? = some row → row[j]? = some c → ∃ row0 c0, rows[i]? = some row0 ∧ row0[j]? = some c0 ∧ leD c0 c := fun i row j c hi hj => by
        obtain ⟨row0, e1, e2⟩ := l2 i row hi
        obtain ⟨c0, e3, e4⟩ := (leDL_get e2).2 j c hj
        exact ⟨row0, c0, e1, e3, e4⟩
      rw [l1]
      refine .sl c' sz rows' b off cap vs hok (by rw [← l1]; exact h1) h2 (fun hc => ?_) (fun row hr => ?_) (fun i row j c hi hj => ?_) (fun i row j c hi hj => ?_) (fun i row j c hi hj => ?_)
      · rcases g1 with g1 | g1
        · rw [g1] at hc; cases hc
        · rw [← l1]; exact h3 (g1.trans hc)
      · obtain ⟨i, hi⟩ := List.mem_iff_getElem?.1 hr
        obtain ⟨row0, e1, e2⟩ := l2 i row hi
        rw [← (leDL_get e2).1]
        exact h4 row0 (List.mem_iff_getElem?.2 ⟨i, e1⟩)
      · obtain ⟨row0, c0, e1, e2, e3⟩ := key i row j c hi hj
        exact h5 i row0 j c0 e1 e2
      · obtain ⟨row0, c0, e1, e2, e3⟩ := key i row j c hi hj
        exact h6 i row0 j c0 e1 e2
      · obtain ⟨row0, c0, e1, e2, e3⟩ := key i row j c hi hj
        exact ih i row0 j c0 e1 e2 e3
    | _ => exact e.elim
  | nilsl =>
    intro y e
    cases y with
    | nilsl => exact .nilsl
    | sl c sz rows =>
      cases (e : rows = [])
      exact .sl0 _ _
    | _ => exact e.elim
  | nilmap => intro y e; cases (e : D.nilmap = y); exact .nilmap
  | nilptr => intro y e; cases (e : D.nilptr = y); exact .nilptr
theorem Con.le {P : Program} {f : Nat} {args args' : List D} {res : AV} {rows : List Row} (h : Con P f args' res rows) (ha : leDL args args') : Con P f args res rows := by
  obtain ⟨g1, g2⟩ := leDL_get ha
  refine ⟨h.1, fun w ok vs hok hvs => h.2 w ok vs hok ⟨by rw [hvs.1, g1], fun i x v hx hv => ?_⟩⟩
  obtain ⟨y, e1, e2⟩ := g2 i x hx
  exact (hvs.2 i y v e1 hv).le e2
variable {P : Program} {E : Env P} {base : Nat} {r : Option Nat} {post : KV → List KRow → Prop}
/-- A call with arguments of which more is known. -/
theorem C_le {I : Prim E.σ} (hI : I = primK P E base r post) {g : Nat} {args args' : List KV} {res : KV} {rows : List KRow} {K : KV → List KRow → Prop} (h : KC P g args' res rows) (ha : leDL (KV.toDL args) (KV.toDL args')) (k : K res rows) : I.C g args K := by
  subst hI
  exact ⟨res, rows, Con.le h ha, k⟩
theorem KC_le {g : Nat} {args args' : List KV} {res : KV} {rows : List KRow} (h : KC P g args' res rows) (ha : leDL (KV.toDL args) (KV.toDL args')) : KC P g args res rows := Con.le h ha
mutual
/-- A result that says more. -/
def leA : AV → AV → Prop
  | .d x, y => match y with
    | .d x' => leD x x'
    | _ => False
  | .agg l, y => match y with
    | .agg l' => leAL l l'
    | _ => False
  | .tup l, y => match y with
    | .tup l' => leAL l l'
    | _ => False
  | .any, y => AV.any = y
  | .fn f cs, y => AV.fn f cs = y
  | .loc b o, y => AV.loc b o = y
  | .asl a b c d, y => AV.asl a b c d = y
  | .osl i, y => AV.osl i = y
  | .oloc a b c d, y => AV.oloc a b c d = y
  | .yld, y => AV.yld = y
def leAL : List AV → List AV → Prop
  | [], q => q = []
  | x :: r, q => match q with
    | [] => False
    | y :: q => leA x y ∧ leAL r q
end
theorem leAL_get : ∀ {l q : List AV}, leAL l q → l.length = q.length ∧ ∀ (i : Nat) (y : AV), q[i]? = some y → ∃ x, l[i]? = some x ∧ leA x y
  | [], q, h => by
    have h : q = [] := h
    subst h
    exact ⟨rfl, fun i y hy => by simp at hy⟩
  | x :: r, [], h => h.elim
  | x :: r, y :: q, h => by
    obtain ⟨h1, h2⟩ := (h : leA x y ∧ leAL r q)
    obtain ⟨g1, g2⟩ := leAL_get h2
    refine ⟨by simp [g1], fun i z hz => ?_⟩
    match i, hz with
    | 0, hz => cases hz; exact ⟨x, rfl, h1⟩
    | i + 1, hz => exact g2 i z (by simpa using hz)
theorem RdA.le {w : World} {ok : Nat → Prop} {μ : Nat → Option Nat} {ν : Nat → Option Value} {yl : Nat} {x : AV} {v : Value} (h : RdA w ok μ ν yl x v) : ∀ {y : AV}, leA x y → RdA w ok μ ν yl y v := by
  induction h with
  | d hd =>
    intro y e
    cases y with
    | d x' => exact .d (hd.le e)
    | _ => exact e.elim
  | agg cs vs hl h1 h ih =>
    intro y e
    cases y with
    | agg l =>
      obtain ⟨g1, g2⟩ := leAL_get (e : leAL cs l)
      refine .agg l vs (by rw [hl, g1]) h1 (fun i c v hc hv => ?_)
      obtain ⟨x, e1, e2⟩ := g2 i c hc
      exact ih i x v e1 hv e2
    | _ => exact e.elim
  | tup cs vs hl h ih =>
    intro y e
    cases y with
    | tup l =>
      obtain ⟨g1, g2⟩ := leAL_get (e : leAL cs l)
      refine .tup l vs (by rw [hl, g1]) (fun i c v hc hv => ?_)
      obtain ⟨x, e1, e2⟩ := g2 i c hc
      exact ih i x v e1 hv e2
    | _ => exact e.elim
  | any v => intro y e; cases (e : AV.any = y); exact .any v
  | fn f cs vs hl h ih => intro y e; cases (e : AV.fn f cs = y); exact .fn f cs vs hl h
  | loc h => intro y e; cases (e : AV.loc _ _ = y); exact .loc h
  | osl h h1 => intro y e; cases (e : AV.osl _ = y); exact .osl h h1
  | _ => intro y e; first | (cases (e : _ = y); constructor <;> assumption) | skip
theorem Con.res_le {P : Program} {f : Nat} {args : List D} {res res' : AV} {rows : List Row} (h : Con P f args res rows) (hr : leA res res') : Con P f args res' rows := by
  refine ⟨h.1, fun w ok vs hok hvs => (h.2 w ok vs hok hvs).mono ?_⟩
  rintro e w' ⟨v, ok', ν', e1, e2, e3, e4, e5, e6⟩
  exact ⟨v, ok', ν', e1, e2, e3, e4, fun μ yl => (e5 μ yl).le hr, e6⟩
theorem KC_res {P : Program} {g : Nat} {args : List KV} {res res' : KV} {rows : List KRow} (h : KC P g args res rows) (hr : leA res.av res'.av) : KC P g args res' rows := Con.res_le h hr
end Go.Proofs.Ytnekemldcjegaaa.Aw
