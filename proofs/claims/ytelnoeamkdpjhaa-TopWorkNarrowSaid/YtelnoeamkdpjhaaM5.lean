/- Part 5 of the proof: lemmas. -/
import Derived.Test.YtelnoeamkdpjhaaM4
import Derived.Deep.Slices
import Derived.ProofKit

/- The logic of abstract walks, part N8: iterators beside a plain model. -/
namespace Go.Proofs.Ytelnoeamkdpjhaa.Aw
open Go Go.RowKit
set_option linter.unusedVariables false
set_option linter.unusedSimpArgs false
set_option linter.unusedSectionVars false
universe u
variable {P : Program} {E : Env P} {base : Nat} {r : Option Nat} {post : KV → List KRow → Prop} {tb : Nat → Option TI}
/-! Models that say what is yielded, and what comes out. -/
def yieldO {Y ρ : Type} (y : Y) (m : Option (List Y × ρ)) : Option (List Y × ρ) := m.bind fun q => some (y :: q.1, q.2)
def thenY {Y ρ τ : Type} (m : Option (List Y × ρ)) (k : ρ → Option (List Y × τ)) : Option (List Y × τ) := m.bind fun q => (k q.2).bind fun t => some (q.1 ++ t.1, t.2)
def loopY {Y σ ρ : Type} (step : σ → Option (List Y × (σ ⊕ ρ))) : Nat → σ → Option (List Y × ρ)
  | 0, _ => none
  | n + 1, s => match step s with
    | none => none
    | some (ys, .inr q) => some (ys, q)
    | some (ys, .inl s') => (loopY step n s').bind fun t => some (ys ++ t.1, t.2)
/-- What is still to be yielded: first zs, then ps. -/
def YS {σ : Type} {Y : Type} (V : List Y) (Inv : Nat → σ → Prop) (zs ps : List Y) (s : σ) : Prop := ∃ pre, V = pre ++ (zs ++ ps) ∧ Inv pre.length s
theorem thenY_of {Y ρ τ : Type} {m : Option (List Y × ρ)} {k : ρ → Option (List Y × τ)} {zs : List Y} {o : τ} (h : thenY m k = some (zs, o)) : ∃ ys q ts, m = some (ys, q) ∧ k q = some (ts, o) ∧ zs = ys ++ ts := by
  unfold thenY at h
  obtain ⟨⟨ys, q⟩, h1, h2⟩ := bind_of h
  obtain ⟨⟨ts, t⟩, h3, h4⟩ := bind_of h2
  cases h4
  exact ⟨ys, q, ts, h1, h3, rfl⟩
theorem Y_end {Y : Type} {en : Y → List KV} {V : List Y} {Inv : Nat → E.σ → Prop} {Fin : E.σ → Prop} (hTk : Takes E ((V.map en).map KV.toDL) Inv Fin) {ρ : Type} {x o : ρ} {zs : List Y} {s : E.σ} (h : some (([] : List Y), x) = some (zs, o)) (hy : YS V Inv zs [] s) : Fin s := by
  cases h
  obtain ⟨pre, h1, h2⟩ := hy
  refine hTk.done s ?_
  rw [List.length_map, List.length_map, h1]
  simpa using h2
theorem L_leafY {Y ρ : Type} {x o : ρ} {zs : List Y} (h : some (([] : List Y), x) = some (zs, o)) : zs = [] ∧ o = x := by cases h; exact ⟨rfl, rfl⟩
theorem L_yield {I : Prim E.σ} (hI : I = primK P E base r post) {Y β : Type} {en : Y → List KV} {V : List Y} {Inv : Nat → E.σ → Prop} {Fin : E.σ → Prop} (hTk : Takes E ((V.map en).map KV.toDL) Inv Fin) {y : Y} {m : Option (List Y × β)} {zs ps : List Y} {o : β} {s : E.σ} {xs : List KV} {K : Bool → E.σ → Prop}
    (h : yieldO y m = some (zs, o)) (hy : YS V Inv zs ps s) (he : KV.toDL xs = KV.toDL (en y)) (ht : ∀ zs' s', m = some (zs', o) → YS V Inv zs' ps s' → K true s') (hf : ∀ s', Fin s' → K false s') : I.Y s xs K := by
  unfold yieldO at h
  obtain ⟨⟨zs', o'⟩, h1, h2⟩ := bind_of h
  cases h2
  obtain ⟨pre, h3, h4⟩ := hy
  refine Y_take hI hTk pre.length (y := en y) ?_ he h4 (fun s' hs' => ht zs' s' h1 ⟨pre ++ [y], by rw [h3]; simp, by simpa using hs'⟩) hf
  rw [h3, List.getElem?_map]; simp
theorem L_loopY {Y σ ρ : Type} {I : Prim E.σ} (hI : I = primK P E base r post) (hT : SeatOk P tb) (pz : List Nat) {c : Code} (hdr : drawsOk pz c = true) {S : KSt} {s : E.σ} {Q : Exit → KSt → E.σ → Prop} {β : Type} {o : β} {zs ps V : List Y} {Inv : Nat → E.σ → Prop} {Fin : E.σ → Prop}
    {step : σ → Option (List Y × (σ ⊕ ρ))} {n : Nat} {s0 : σ} {k : ρ → Option (List Y × β)} (h : thenY (loopY step n s0) k = some (zs, o)) (hy : YS V Inv zs ps s) (st : σ → KSt) (ex : ρ → Exit) (sx : ρ → KSt) (eF : Exit) (hw : Weak S.st (st s0).st) (hx : ∀ q, ex q ≠ .normal) (hF : eF ≠ .normal)
    (round : ∀ (a : σ) (x : σ ⊕ ρ) (ys ps' : List Y) (s' : E.σ), step a = some (ys, x) → YS V Inv ys ps' s' → ∀ R : Exit → KSt → E.σ → Prop,
      (∀ S' a' s'', x = .inl a' → YS V Inv [] ps' s'' → Weak S'.st (st a').st → R .normal S' s'') → (∀ S' q s'', x = .inr q → YS V Inv [] ps' s'' → Weak S'.st (sx q).st → R (ex q) S' s'') → (∀ S' s'', Fin s'' → R eF S' s'') → wpK I tb pz c (st a) s' R)
    (hQ : ∀ q zs' s', k q = some (zs', o) → YS V Inv zs' ps s' → Q (ex q) (sx q) s') (hQF : ∀ S' s', Fin s' → Q eF S' s') : I.W (.loop c) S s Q := by
  subst hI
  obtain ⟨ys, q, ts, h1, h2, rfl⟩ := thenY_of h
  refine AW_weak hw (AW_loop (fun n S' s' => ∃ a ys, S' = (st a).st ∧ loopY step n a = some (ys, q) ∧ YS V Inv (ys ++ ts) ps s') n ⟨s0, ys, rfl, h1, hy⟩ ?_)
  rintro n S' s' ⟨a, ys, rfl, hl, hy⟩
  cases n with
  | zero => cases hl
  | succ n =>
    obtain ⟨y1, x, hxs⟩ : ∃ y1 x, step a = some (y1, x) := by
      cases hs : step a with
      | none => rw [loopY, hs] at hl; cases hl
      | some x => exact ⟨x.1, x.2, rfl⟩
    rw [loopY, hxs] at hl
    obtain ⟨y2, hy2, hyx⟩ : ∃ y2, ys = y1 ++ y2 ∧ (match x with | .inr q' => q' = q ∧ y2 = [] | .inl a' => loopY step n a' = some (y2, q)) := by
      cases x with
      | inr q' => cases hl; exact ⟨[], by simp, rfl, rfl⟩
      | inl a' =>
        obtain ⟨⟨y2, q2⟩, g1, g2⟩ := bind_of hl
        cases g2
        exact ⟨y2, rfl, g1⟩
    subst hy2
    rw [List.append_assoc] at hy
    have hy' : YS V Inv y1 (y2 ++ ts ++ ps) s' := by
      obtain ⟨pre, e1, e2⟩ := hy
      exact ⟨pre, by rw [e1]; simp, e2⟩
    refine AW_weakQ ((wpK_aw hT.mix hT.tab hdr (round a x y1 _ s' hxs hy' (fun e S2 s2 => (e = .normal ∧ ∃ a', x = .inl a' ∧ YS V Inv [] (y2 ++ ts ++ ps) s2 ∧ Weak S2.st (st a').st) ∨ (∃ q', x = .inr q' ∧ YS V Inv [] (y2 ++ ts ++ ps) s2 ∧ e = ex q' ∧ Weak S2.st (sx q').st) ∨ (e = eF ∧ Fin s2))
      (fun S' a' s'' e1 e2 e3 => .inl ⟨rfl, a', e1, e2, e3⟩) (fun S' q' s'' e1 e2 e3 => .inr (.inl ⟨q', e1, e2, rfl, e3⟩)) (fun S' s'' e1 => .inr (.inr ⟨rfl, e1⟩)))).mono ?_)
    rintro e S2 s2 ⟨S3, hw3, ⟨rfl, a', rfl, g1, hw4⟩ | ⟨q', rfl, g1, rfl, hw4⟩ | ⟨rfl, g1⟩⟩
    · refine ⟨(st a').st, hw3.trans hw4, n, (st a').st, Nat.lt_succ_self n, Weak.refl _, a', y2, rfl, hyx, ?_⟩
      obtain ⟨pre, e1, e2⟩ := g1
      exact ⟨pre, by rw [e1]; simp, e2⟩
    · obtain ⟨rfl, rfl⟩ := hyx
      refine ⟨(sx q').st, hw3.trans hw4, ?_⟩
      have := KQ_of (Q := Q) (hQ q' ts s2 h2 (by
        obtain ⟨pre, e1, e2⟩ := g1
        exact ⟨pre, by rw [e1]; simp, e2⟩))
      cases he : ex q' with
      | normal => exact absurd he (hx q')
      | _ => rw [he] at this; exact this
    · refine ⟨S3.st, hw3, ?_⟩
      have := KQ_of (Q := Q) (hQF S3 s2 g1)
      cases he : e with
      | normal => exact absurd he hF
      | _ => rw [he] at this; exact this
/-- An iterator, beside its model. -/
theorem iter_l {f : Nat} {fn : Func} {c : Code} {caps : List KV} {Y : Type} {en : Y → List KV} {V : List Y} (pz : List Nat) (hT : SeatOk P tb) (hf : P.funcs[f]? = some fn) (hb : fn.body = some c) (hent : Ent P f) (hdr : drawsOk pz c = true) (hn : Nat.ble (lenK caps + 1) fn.ntmps = true) (ha : okArgs caps = true) (hres : fn.results = #[])
    (h : ∀ (E : Env P) (Inv : Nat → E.σ → Prop) (Fin : E.σ → Prop), Takes E ((V.map en).map KV.toDL) Inv Fin → ∀ (base : Nat) (s : E.σ), YS V Inv V [] s → ∀ I, I = primK P E base none (fun _ _ => False) → wpK I tb pz c (KSY fn.ntmps caps) s (finK Fin)) : IterCon P f (KV.toDL caps) ((V.map en).map KV.toDL) :=
  iter_k pz hT hf hb hent hdr hn ha hres fun E Inv Fin hTk base s h0 I hI => h E Inv Fin hTk base s ⟨[], by simp, h0⟩ I hI
end Go.Proofs.Ytelnoeamkdpjhaa.Aw

/- The logic of abstract walks, part WB: functions that write what they are handed, by evaluation, beside a plain model. -/
namespace Go.Proofs.Ytelnoeamkdpjhaa.Aw
open Go Go.RowKit
set_option linter.unusedVariables false
set_option linter.unusedSimpArgs false
universe u
variable {P : Program} {E : Env P} {base : Nat} {r : Option Nat} {post : KV → List KRow → Prop} {tb : Nat → Option TI}
def enumBK (q : Nat) : List KBlk → List (Nat × KBlk)
  | [] => []
  | R :: r => (q, R) :: enumBK (q + 1) r
theorem enumBK_spec : ∀ (l : List KBlk) (q : Nat), mapH (enumBK q l) = enumB q (l.map KBlk.blk)
  | [], q => rfl
  | R :: r, q => by simp only [enumBK, mapH, List.map_cons, enumB, enumBK_spec r]
theorem enumK_spec' : ∀ (l : List KRow) (q : Nat), mapO (enumK q l) = enumR q (l.map KRow.row)
  | [], q => rfl
  | R :: r, q => by simp only [enumK, mapO, List.map_cons, enumR, enumK_spec' r]
def iotaK {α : Type u} (q : Nat) : List α → List Nat
  | [] => []
  | _ :: r => q :: iotaK (q + 1) r
/-- A contract of a function that writes what it is handed, for evaluation. -/
def KCW (P : Program) (f : Nat) (args : List KV) (Hs : List KBlk) (Os : List KRow) (res : KV) (Bs : List KBlk) (Rs : List KRow) : Prop :=
  ConW P f (KV.avL args) (enumB 0 (Hs.map KBlk.blk)) (enumR 100 (Os.map KRow.row)) res.av (enumB 0 (Bs.map KBlk.blk)) (enumR 100 (Rs.map KRow.row))
def KW0 (n : Nat) (args : List KV) (Hs : List KBlk) (Os : List KRow) : KSt := ⟨n, argK 0 args, enumBK 0 Hs, enumK 100 Os, lenK Hs⟩
def retWQ (tb : Nat → Option TI) (rs : List ResultVar) (hb hr : List Nat) (PW : KV → List KBlk → List KRow → Prop) {σ : Type} (e : Exit) (S : KSt) (s : σ) : Prop :=
  match (match e with | .normal => true | .ret => true | _ => false) with
  | true => kk (resKL tb S rs) fun cs => kk (blksOfK S hb) fun Hs => kk (rowsOfK S hr) fun Os => PW (oneK cs) Hs Os
  | false => False
def endW (res : KV) (Bs : List KBlk) (Rs : List KRow) : KV → List KBlk → List KRow → Prop := fun v hs os => v.av = res.av ∧ hs.map KBlk.blk = Bs.map KBlk.blk ∧ os.map KRow.row = Rs.map KRow.row
theorem argA_spec : ∀ {args : List KV} {i : Nat}, mapT (argK i args) = argA i (KV.avL args)
  | [], _ => rfl
  | c :: q, i => by simp only [argK, mapT, KV.avL, argA, argA_spec (args := q)]
theorem iotaK_get {α : Type u} : ∀ {l : List α} {q i : Nat} {k : Nat}, (iotaK q l)[i]? = some k → k = q + i
  | [], q, i, k, h => by simp [iotaK] at h
  | _ :: r, q, 0, k, h => by simp [iotaK] at h; omega
  | _ :: r, q, i + 1, k, h => by simp [iotaK] at h; have := iotaK_get h; omega
theorem con_w {f : Nat} {fn : Func} {c : Code} {args : List KV} {Hs Bs : List KBlk} {Os Rs : List KRow} {res : KV} (pz : List Nat) (hT : SeatOk P tb) (hf : P.funcs[f]? = some fn) (hb : fn.body = some c) (hent : Ent P f)
    (hdr : drawsOk pz c = true) (hn : Nat.ble (lenK args) fn.ntmps = true) (hs : res.scalar = true) (hd : dataHs Bs = true) (hl : Nat.beq (lenK Bs) (lenK Hs) = true)
    (h : ∀ yl I PW, I = primK P (noEnvL P yl) 0 none (fun _ _ => False) → PW = endW res Bs Rs → wpK I tb pz c (KW0 fn.ntmps args Hs Os) () (retWQ tb fn.results.toList (iotaK 0 Hs) (iotaK 100 Os) PW)) : KCW P f args Hs Os res Bs Rs := by
  have hl := Nat.eq_of_beq_eq_true hl
  rw [lenK_eq, lenK_eq] at hl
  refine conW_intro hf hb hent (lenK Hs) (by rw [avL_len]; exact hn) (scalar_av _ hs) (fun b B hB => ?_) (fun id R hR => ?_) fun yl => ?_
  · rw [look_enumB] at hB
    have hlt := (List.getElem?_eq_some_iff.1 hB.2).1
    refine ⟨by rw [lenK_eq]; simp at hlt; omega, fun c hc => ?_⟩
    have := dataHs_spec hd B (List.mem_of_getElem? hB.2) c hc
    cases c with
    | d x => exact ⟨x, rfl⟩
    | _ => cases this
  · rw [look_enumR] at hR; exact hR.1
  · have := wpK_aw hT.mix hT.tab hdr (h yl _ _ rfl rfl)
    rw [show (KW0 fn.ntmps args Hs Os).st = SW fn.ntmps (KV.avL args) (enumB 0 (Hs.map KBlk.blk)) (enumR 100 (Os.map KRow.row)) (lenK Hs) from by simp only [KW0, KSt.st, SW, argA_spec, enumBK_spec, enumK_spec']] at this
    refine AW_weakQ (this.mono ?_)
    rintro e S s ⟨S', hw, hq⟩
    refine ⟨S'.st, hw, ?_⟩
    unfold retWQ at hq
    split at hq
    · rename_i he
      replace hq := kk_spec hq; obtain ⟨cs, h1, hq⟩ := hq
      replace hq := kk_spec hq; obtain ⟨hs', h2, hq⟩ := hq
      replace hq := kk_spec hq; obtain ⟨os', h3, hq⟩ := hq
      obtain ⟨e1, e2, e3⟩ := hq
      refine ⟨by (cases e <;> first | exact .inl rfl | exact .inr rfl | cases he), KV.avL cs, resKL_spec hT.tab h1, by rw [← oneK_spec, e1], fun b B hB => ?_, fun id R hR => ?_⟩
      · rw [look_enumB] at hB
        obtain ⟨_, g2⟩ := blksOf_get (blksOfK_spec h2)
        rw [← e2] at hB
        obtain ⟨id, i1, i2, _⟩ := g2 _ B hB.2
        have := iotaK_get i1
        have : id = b := by omega
        subst this; exact i2
      · rw [look_enumR] at hR
        obtain ⟨_, g2⟩ := rowsOf_get (rowsOfK_spec h3)
        rw [← e3] at hR
        obtain ⟨id', i1, i2, _⟩ := g2 _ R hR.2
        have := iotaK_get i1
        have : id' = id := by omega
        subst this; exact i2
    · exact hq.elim
theorem ArgsA.le {w : World} {ok : Nat → Prop} {μ : Nat → Option Nat} {ν : Nat → Option Value} {yl : Nat} {args args' : List AV} {vs : Array Value} (h : ArgsA w ok μ ν yl args vs) (hle : leAL args args') : ArgsA w ok μ ν yl args' vs := by
  obtain ⟨g1, g2⟩ := leAL_get hle
  refine ⟨h.1.trans g1, fun i c v hc hv => ?_⟩
  obtain ⟨x, hx1, hx2⟩ := g2 i c hc
  exact (h.2 i x v hx1 hv).le hx2
theorem L_callW {I : Prim E.σ} (hI : I = primK P E base r post) {α β : Type} {m : Option α} {k : α → Option β} {o : β} {g : Nat} {args args' : List KV} {Hs Hs' : List KBlk} {Os Os' : List KRow} {res : α → KV} {Bs : α → List KBlk} {Rs : α → List KRow} {K : KV → List KBlk → List KRow → Prop} (h : m.bind k = some o)
    (hc : ∀ v, m = some v → KCW P g args' Hs' Os' (res v) (Bs v) (Rs v)) (ha : leAL (KV.avL args) (KV.avL args')) (hH : Hs.map KBlk.blk = Hs'.map KBlk.blk) (hO : Os.map KRow.row = Os'.map KRow.row) (kk : ∀ v, k v = some o → K (res v) (Bs v) (Rs v)) : I.CW g args Hs Os K := by
  obtain ⟨v, h1, h2⟩ := bind_of h
  subst hI
  refine ⟨res v, Bs v, Rs v, ?_, kk v h2⟩
  obtain ⟨c1, c2⟩ := hc v h1
  refine ⟨c1, fun w M yl vs hheap hok hvs => ?_⟩
  rw [hH, hO] at hheap
  have := c2 w M yl vs hheap hok (hvs.le ha)
  rw [hH, hO]; exact this
theorem numsW_mp {e : Nat} {α : Type} {d : α} (l : List α) {c : α → Nat → KV} {nn : Bool} (h : ∀ a, (rowD 2 0 fun j => (c a j).toD).all D.num = true) : numRows ([(⟨e, 0, [.mp α d l c], nn, true⟩ : KRow)].map KRow.row) := by
  intro R hR
  simp only [List.map_cons, List.map_nil, List.mem_singleton] at hR
  subst hR
  refine ⟨rfl, fun row hrow x hx => ?_⟩
  simp only [KRow.row, rowsD, KP.rows, List.append_nil, List.mem_map] at hrow
  obtain ⟨a, _, rfl⟩ := hrow
  exact List.all_eq_true.1 (h a) x hx
end Go.Proofs.Ytelnoeamkdpjhaa.Aw

/- The logic of abstract walks, part WC: boxes under other names. -/
namespace Go.Proofs.Ytelnoeamkdpjhaa.Aw
open Go Go.RowKit
set_option linter.unusedVariables false
set_option linter.unusedSimpArgs false
universe u
def renN (l : List (Nat × Nat)) (b : Nat) : Nat := match lk l b with
  | some c => c
  | none => b
mutual
def AV.ren (l : List (Nat × Nat)) : AV → AV
  | .agg cs => .agg (AV.renL l cs)
  | .tup cs => .tup (AV.renL l cs)
  | .fn f cs => .fn f (AV.renL l cs)
  | .loc b o => .loc (renN l b) o
  | .asl b o n c => .asl (renN l b) o n c
  | c => c
def AV.renL (l : List (Nat × Nat)) : List AV → List AV
  | [] => []
  | c :: r => c.ren l :: AV.renL l r
end
theorem AV.renL_map {l : List (Nat × Nat)} : ∀ (cs : List AV), AV.renL l cs = cs.map (AV.ren l)
  | [] => rfl
  | c :: r => by simp [AV.renL, AV.renL_map r]
theorem RdA.ren {w : World} {ok : Nat → Prop} {μ : Nat → Option Nat} {ν : Nat → Option Value} {yl : Nat} {l : List (Nat × Nat)} : ∀ (n : Nat) (c : AV) (v : Value), SizeOf.sizeOf c ≤ n → RdA w ok μ ν yl (c.ren l) v → RdA w ok (fun b => μ (renN l b)) ν yl c v := by
  intro n
  induction n with
  | zero => intro c v hs; cases c <;> simp at hs
  | succ n ih =>
    intro c v hs h
    have lst : ∀ (cs : List AV), SizeOf.sizeOf cs < n + 1 → ∀ (i : Nat) (c : AV), cs[i]? = some c → (AV.renL l cs)[i]? = some (c.ren l) ∧ SizeOf.sizeOf c ≤ n := by
      intro cs hcs i c hc
      refine ⟨by rw [AV.renL_map, List.getElem?_map, hc]; rfl, ?_⟩
      have := List.sizeOf_lt_of_mem (List.mem_of_getElem? hc)
      omega
    cases c with
    | agg cs =>
      have hsz : SizeOf.sizeOf cs < n + 1 := by simp at hs; omega
      obtain ⟨vs, rfl, h1, h2, h3⟩ := (show RdA w ok μ ν yl (.agg (AV.renL l cs)) v from h).agg'
      refine .agg cs vs (by rw [h1, AV.renL_map, List.length_map]) h2 (fun i c v hc hv => ?_)
      obtain ⟨g1, g2⟩ := lst cs hsz i c hc
      exact ih c v g2 (h3 i _ v g1 hv)
    | tup cs =>
      have hsz : SizeOf.sizeOf cs < n + 1 := by simp at hs; omega
      obtain ⟨vs, rfl, h1, h3⟩ := (show RdA w ok μ ν yl (.tup (AV.renL l cs)) v from h).tup'
      refine .tup cs vs (by rw [h1, AV.renL_map, List.length_map]) (fun i c v hc hv => ?_)
      obtain ⟨g1, g2⟩ := lst cs hsz i c hc
      exact ih c v g2 (h3 i _ v g1 hv)
    | fn f cs =>
      have hsz : SizeOf.sizeOf cs < n + 1 := by simp at hs; omega
      have h : RdA w ok μ ν yl (.fn f (AV.renL l cs)) v := h
      cases h with
      | fn _ _ vs h1 h3 =>
        refine .fn f cs vs (by rw [h1, AV.renL_map, List.length_map]) (fun i c v hc hv => ?_)
        obtain ⟨g1, g2⟩ := lst cs hsz i c hc
        exact ih c v g2 (h3 i _ v g1 hv)
    | loc b o =>
      have h : RdA w ok μ ν yl (.loc (renN l b) o) v := h
      cases h with | loc hq => exact .loc hq
    | asl b o m c =>
      have h : RdA w ok μ ν yl (.asl (renN l b) o m c) v := h
      cases h with | asl hq hq' => exact .asl hq hq'
    | any => exact .any v
    | d x => have h : RdA w ok μ ν yl (.d x) v := h; cases h with | d hq => exact .d hq
    | osl i => have h : RdA w ok μ ν yl (.osl i) v := h; cases h with | osl hq hq' => exact .osl hq hq'
    | oloc a b c d => have h : RdA w ok μ ν yl (.oloc a b c d) v := h; cases h with | oloc hq hq' => exact .oloc hq hq'
    | yld => have h : RdA w ok μ ν yl .yld v := h; cases h; exact .yld
variable {P : Program} {E : Env P} {base : Nat} {r : Option Nat} {post : KV → List KRow → Prop}
theorem tst_of {α : Type} {b : Bool} {X Y : Option α} {o : α} (h : (if b = true then X else Y) = some o) : (b = true ∧ X = some o) ∨ (b = false ∧ Y = some o) := by
  cases b with
  | true => exact .inl ⟨rfl, h⟩
  | false => exact .inr ⟨rfl, h⟩
theorem K_tst_t {I : Prim E.σ} (hI : I = primK P E base r post) {b b' : Bool} {A B : Prop} (hb : b = true) (e : b' = b) (k : A) : I.tst b' A B := by
  subst hI; subst e; exact ⟨fun _ => k, fun e => by rw [hb] at e; cases e⟩
theorem K_tst_f {I : Prim E.σ} (hI : I = primK P E base r post) {b b' : Bool} {A B : Prop} (hb : b = false) (e : b' = b) (k : B) : I.tst b' A B := by
  subst hI; subst e; exact ⟨fun e => by (rw [hb] at e; cases e), fun _ => k⟩
theorem CW_le {I : Prim E.σ} (hI : I = primK P E base r post) {g : Nat} {args args' : List KV} {Hs Hs' : List KBlk} {Os Os' : List KRow} {res : KV} {Bs : List KBlk} {Rs : List KRow} {K : KV → List KBlk → List KRow → Prop}
    (hc : KCW P g args' Hs' Os' res Bs Rs) (ha : leAL (KV.avL args) (KV.avL args')) (hH : Hs.map KBlk.blk = Hs'.map KBlk.blk) (hO : Os.map KRow.row = Os'.map KRow.row) (kk : K res Bs Rs) : I.CW g args Hs Os K := by
  subst hI
  refine ⟨res, Bs, Rs, ?_, kk⟩
  obtain ⟨c1, c2⟩ := hc
  refine ⟨c1, fun w M yl vs hheap hok hvs => ?_⟩
  rw [hH, hO] at hheap
  have := c2 w M yl vs hheap hok (hvs.le ha)
  rw [hH, hO]; exact this
/-- The same state, with boxes under other names: l: from the new name to the old one. -/
theorem weak_ren (l : List (Nat × Nat)) {S S' : St} (hn : S'.n = S.n) (hl : S.low = S'.low) (hlow : ∀ b, b < S.low → renN l b = b) (hT : ∀ t c, look S'.T t = some c → look S.T t = some (c.ren l))
    (hH : ∀ b B, look S'.H b = some B → look S.H (renN l b) = some ⟨B.e, AV.renL l B.cells, B.live⟩) (hO : ∀ id R, look S'.O id = some R → look S.O id = some R)
    (hinj : ∀ b b' B B', look S'.H b = some B → look S'.H b' = some B' → renN l b = renN l b' → b = b') : Weak S S' := by
  intro P E base s M a w hc
  have hr := hc.rel
  let M' : Mp := { M with μ := fun b => M.μ (renN l b) }
  have hat : ∀ x k, At S'.H S'.O M' x k → At S.H S.O M (match x with | .inl b => .inl (renN l b) | .inr r => .inr r) k := by
    intro x k hx
    cases x with
    | inl b => obtain ⟨⟨B, hB⟩, hk⟩ := hx; exact ⟨⟨_, hH b B hB⟩, hk⟩
    | inr b => obtain ⟨⟨R, hR⟩, hk⟩ := hx; exact ⟨⟨R, hO b R hR⟩, hk⟩
  have hliv : ∀ x, Liv S'.H S'.O x → Liv S.H S.O (match x with | .inl b => .inl (renN l b) | .inr r => .inr r) := by
    intro x hx
    cases x with
    | inl b => obtain ⟨B, hB, h⟩ := hx; exact ⟨_, hH b B hB, h⟩
    | inr b => obtain ⟨R, hR, h⟩ := hx; exact ⟨R, hO b R hR, h⟩
  have hown : ∀ k, Own S' M' k → Own S M k := by
    rintro k (⟨x, hx, hl⟩ | hd)
    · exact .inl ⟨_, hat x k hx, hliv x hl⟩
    · exact .inr hd
  refine ⟨M', ⟨⟨hr.lo, hr.size.trans hn.symm, fun t c ht => ?_, ⟨fun b B hB => ?_, fun b R hR => ?_, fun x y k hx hy => ?_⟩, hr.okLt, hr.dfr, hr.dsOk, hr.dsN⟩, hc.j, hc.okLv, fun k hk => hc.own k (hown k hk), hc.okDom, hc.bDom⟩,
    ⟨rfl, rfl, rfl, Nat.le_refl _, fun _ _ _ _ => rfl, fun k _ hk => hown k hk, fun _ x => x, fun _ _ x => .inl x, fun _ _ x => x, Nat.le_of_eq hl, fun b hb => by show M.μ (renN l b) = M.μ b; rw [hlow b hb], fun _ _ x => .inl x, fun _ _ => rfl⟩⟩
  · obtain ⟨v, h1, h2⟩ := hr.tmp t _ (hT t c ht)
    exact ⟨v, h1, RdA.ren _ c v (Nat.le_refl _) h2⟩
  · obtain ⟨k, vs, e1, e2, e3, e4, e5, e6, e7, e8⟩ := hr.heap.blk _ _ (hH b B hB)
    refine ⟨k, vs, e1, e2, e3, by rw [e4]; simp [AV.renL_map], fun i c v hi hv => RdA.ren _ c v (Nat.le_refl _) (e5 i _ v (by show (AV.renL l B.cells)[i]? = _; rw [AV.renL_map, List.getElem?_map, hi]; rfl) hv), e6, e7, e8⟩
  · obtain ⟨v, flat, e1, e2, e3, e4, e5⟩ := hr.heap.row b R (hO b R hR)
    exact ⟨v, flat, e1, e2, e3, e4, e5⟩
  · have := hr.heap.inj _ _ k (hat x k hx) (hat y k hy)
    cases x with
    | inl b =>
      cases y with
      | inl b' =>
        simp only [Sum.inl.injEq] at this
        obtain ⟨⟨B, hB⟩, _⟩ := hx
        obtain ⟨⟨B', hB'⟩, _⟩ := hy
        rw [hinj b b' B B' hB hB' this]
      | inr b' => cases this
    | inr b =>
      cases y with
      | inl b' => cases this
      | inr b' => simpa using this
mutual
def KV.ren (l : List (Nat × Nat)) : KV → KV
  | .agg cs => .agg (KV.renL l cs)
  | .tup cs => .tup (KV.renL l cs)
  | .fn f cs => .fn f (KV.renL l cs)
  | .loc b o => .loc (renN l b) o
  | c => c
def KV.renL (l : List (Nat × Nat)) : List KV → List KV
  | [] => []
  | c :: r => c.ren l :: KV.renL l r
end
mutual
theorem ren_av (l : List (Nat × Nat)) : ∀ (c : KV), (c.ren l).av = c.av.ren l
  | .agg cs => by simp only [KV.ren, KV.av, AV.ren, renL_av l cs]
  | .tup cs => by simp only [KV.ren, KV.av, AV.ren, renL_av l cs]
  | .fn f cs => by simp only [KV.ren, KV.av, AV.ren, renL_av l cs]
  | .loc b o => rfl
  | .any | .int _ _ | .lit _ _ | .bool _ | .tt | .ff | .str _ | .dfn _ _ | .bfn _ _ | .nilfn | .nilsl | .nilmap | .nilptr | .ptr _ | .sl _ _ _ _ _ _ | .slr _ _ _ | .mp _ _ _ _ | .d _ | .yld | .osl _ | .oloc _ _ _ _ => rfl
theorem renL_av (l : List (Nat × Nat)) : ∀ (cs : List KV), KV.avL (KV.renL l cs) = AV.renL l (KV.avL cs)
  | [] => rfl
  | c :: r => by simp only [KV.renL, KV.avL, AV.renL, ren_av l c, renL_av l r]
end
def rnT (l : List (Nat × Nat)) (T : List (Nat × KV)) : List (Nat × KV) → Prop
  | [] => True
  | (t, c) :: r => (match lk T t with | some v => v.av = (c.ren l).av | none => False) ∧ rnT l T r
def rnH (l : List (Nat × Nat)) (T : List (Nat × KBlk)) : List (Nat × KBlk) → Prop
  | [] => True
  | (t, c) :: r => (match lk T (renN l t) with | some v => v.blk = KBlk.blk ⟨c.e, KV.renL l c.cells, c.live⟩ | none => False) ∧ rnH l T r
theorem rnT_spec {l : List (Nat × Nat)} {T : List (Nat × KV)} : ∀ {T' : List (Nat × KV)}, rnT l T T' → ∀ t c, look (mapT T') t = some c → look (mapT T) t = some (c.ren l)
  | [], _, t, c, h => by cases h
  | (k, v) :: q, h, t, c, hc => by
    rw [look_mapT, lk_cons] at hc
    by_cases e : k = t
    · subst e
      rw [if_pos rfl] at hc
      cases hc
      have := h.1
      split at this
      · rename_i v0 hv; rw [look_mapT, hv, Option.map_some, this, ren_av]
      · exact this.elim
    · rw [if_neg e, ← look_mapT] at hc
      exact rnT_spec h.2 t c hc
theorem rnH_spec {l : List (Nat × Nat)} {T : List (Nat × KBlk)} : ∀ {T' : List (Nat × KBlk)}, rnH l T T' → ∀ b B, look (mapH T') b = some B → look (mapH T) (renN l b) = some ⟨B.e, AV.renL l B.cells, B.live⟩
  | [], _, t, c, h => by cases h
  | (k, v) :: q, h, t, c, hc => by
    rw [look_mapH, lk_cons] at hc
    by_cases e : k = t
    · subst e
      rw [if_pos rfl] at hc
      cases hc
      have := h.1
      split at this
      · rename_i v0 hv; rw [look_mapH, hv, Option.map_some, this]; simp only [KBlk.blk, renL_av]
      · exact this.elim
    · rw [if_neg e, ← look_mapH] at hc
      exact rnH_spec h.2 t c hc
theorem eqO_spec2 {T T' : List (Nat × KRow)} (h : eqO T T') : ∀ id R, look (mapO T') id = some R → look (mapO T) id = some R := by
  induction T' with
  | nil => intro id R h; cases h
  | cons p q ih =>
    obtain ⟨k, v⟩ := p
    intro id R hc
    rw [look_mapO, lk_cons] at hc
    by_cases e : k = id
    · subst e
      rw [if_pos rfl] at hc
      cases hc
      have := h.1
      split at this
      · rename_i v0 hv; rw [look_mapO, hv, Option.map_some, this]
      · exact this.elim
    · rw [if_neg e, ← look_mapO] at hc
      exact ih h.2 id R hc
def renLow (low : Nat) : List (Nat × Nat) → Bool
  | [] => true
  | (b, _) :: r => Nat.ble low b && renLow low r
theorem renLow_spec {low : Nat} : ∀ {l : List (Nat × Nat)}, renLow low l = true → ∀ b, b < low → renN l b = b
  | [], _, b, _ => rfl
  | (k, c) :: r, h, b, hb => by
    simp only [renLow, Bool.and_eq_true] at h
    have h1 := Nat.le_of_ble_eq_true h.1
    have := renLow_spec h.2 b hb
    unfold renN at this ⊢
    rw [lk_cons, if_neg (by omega)]
    exact this
def mapRn (l : List (Nat × Nat)) : List Nat → List Nat
  | [] => []
  | b :: r => renN l b :: mapRn l r
theorem mapRn_eq (l : List (Nat × Nat)) : ∀ (bs : List Nat), mapRn l bs = bs.map (renN l)
  | [] => rfl
  | b :: r => by simp [mapRn, mapRn_eq l r]
theorem weak_renK (l : List (Nat × Nat)) {S S' : KSt} (hn : S'.n = S.n) (hl : S.low = S'.low) (hlow : renLow S.low l = true) (hnd : nodupK (mapRn l (ks S'.H)) = true) (hT : rnT l S.T S'.T) (hH : rnH l S.H S'.H) (hO : eqO S.O S'.O) : Weak S.st S'.st :=
  weak_ren l hn hl (renLow_spec hlow) (rnT_spec hT) (rnH_spec hH) (eqO_spec2 hO) (fun b b' B B' hB hB' he => by
    have hk := look_key hB
    have hk' := look_key hB'
    rw [show S'.st.H = mapH S'.H from rfl, keys_mapH] at hk hk'
    have := nodupK_spec hnd
    rw [mapRn_eq] at this
    obtain ⟨i, hi⟩ := List.mem_iff_getElem?.1 hk
    obtain ⟨j, hj⟩ := List.mem_iff_getElem?.1 hk'
    have e1 : ((ks S'.H).map (renN l))[i]? = some (renN l b) := by rw [List.getElem?_map, hi]; rfl
    have e2 : ((ks S'.H).map (renN l))[j]? = some (renN l b') := by rw [List.getElem?_map, hj]; rfl
    have hij : i = j := (List.getElem?_inj (List.getElem?_eq_some_iff.1 e1).1 this).1 (by rw [e1, e2, he])
    subst hij
    rw [hi] at hj
    exact Option.some.inj hj)
end Go.Proofs.Ytelnoeamkdpjhaa.Aw

/- The logic of abstract walks, part N: from a contract to a row. What comes in, read as data. -/
namespace Go.Proofs.Ytelnoeamkdpjhaa.Aw
open Go Go.RowKit Go.ChangeShapes Go.WideShapes
set_option linter.unusedVariables false
set_option linter.unusedSimpArgs false
/-- The shape of a type's data. -/
inductive Sh where
  | int (k : IntKind)
  | bool
  | str
  | agg (l : List Sh)
  | sl (e : Sh)
mutual
def Sh.n : Sh → Nat
  | .int _ => 1
  | .bool => 1
  | .str => 1
  | .agg l => Sh.nL l
  | .sl _ => 1
def Sh.nL : List Sh → Nat
  | [] => 0
  | s :: r => s.n + Sh.nL r
end
mutual
def Sh.Fit : Sh → List D → Prop
  | .int k, xs => ∃ n, xs = [.int k n] ∧ k.min ≤ n ∧ n ≤ k.max
  | .bool, xs => ∃ b, xs = [.bool b]
  | .str, xs => ∃ s, xs = [.str s] ∧ s.size ≤ maxLen
  | .agg l, xs => Sh.FitL l xs
  | .sl e, xs => ∃ rows : List (List D), xs = [.sl false e.n rows] ∧ rows.length ≤ maxLen ∧ ∀ row ∈ rows, e.Fit row
def Sh.FitL : List Sh → List D → Prop
  | [], xs => xs = []
  | s :: r, xs => ∃ a b, xs = a ++ b ∧ s.Fit a ∧ Sh.FitL r b
end
def shF (P : Program) (g : TypeId → Option Sh) : List (TypeId × Nat) → Nat → Option (List Sh)
  | [], _ => some []
  | (t, o) :: r, off => if o = off then match g t with
    | some s => if s.n = P.cellsOf t then match shF P g r (off + s.n) with
      | some l => some (s :: l)
      | none => none
      else none
    | none => none
    else none
/-- The shape of a type. -/
def shT (P : Program) : Nat → TypeId → Option Sh
  | 0, _ => none
  | f + 1, t => match P.underlying t with
    | some .bool => some .bool
    | some (.int k) => some (.int k)
    | some .string => some .str
    | some (.slice e) => match shT P f e with
      | some s => if s.n = P.cellsOf e ∧ 0 < s.n then some (.sl s) else none
      | none => none
    | some (.struct fs) => (shF P (shT P f) (fs.toList.map fun x => (x.type, x.offset)) 0).map .agg
    | some (.array n e) => (shF P (shT P f) ((List.range n).map fun i => (e, i * P.cellsOf e)) 0).map .agg
    | _ => none
/-- A list of cells read as data. -/
def RdC (w : World) (xs : List D) (cs : List Value) : Prop :=
  xs.length = cs.length ∧ ∀ (i : Nat) (c : D) (v : Value), xs[i]? = some c → cs[i]? = some v → Rd w (fun k => k < w.heap.size) c v ∧ v.oneCell' = true
theorem RdC.append {w : World} {xs ys : List D} {cs ds : List Value} (h : RdC w xs cs) (k : RdC w ys ds) : RdC w (xs ++ ys) (cs ++ ds) := by
  refine ⟨by simp [h.1, k.1], fun i c v hc hv => ?_⟩
  by_cases hi : i < xs.length
  · rw [List.getElem?_append_left hi] at hc
    rw [List.getElem?_append_left (by rw [← h.1]; exact hi)] at hv
    exact h.2 i c v hc hv
  · rw [List.getElem?_append_right (by omega)] at hc
    rw [List.getElem?_append_right (by rw [← h.1]; omega), ← h.1] at hv
    exact k.2 _ c v hc hv
theorem RdC.one {w : World} {x : D} {v : Value} (h : Rd w (fun k => k < w.heap.size) x v) (h1 : v.oneCell' = true) : RdC w [x] [v] := by
  refine ⟨rfl, fun i c u hc hu => ?_⟩
  match i, hc, hu with
  | 0, hc, hu => cases hc; cases hu; exact ⟨h, h1⟩
  | i + 1, hc, hu => simp at hc
section
variable {H : Type} {enc : TypeId × Value → H} {P : Program} {w : World} {held : Bool}
/-- A row of parts. -/
theorem open_parts {g : TypeId → Option Sh} {rd : TypeId → List Value → Option (DataW H × List MemPlace)} {cs : List Value}
    (ih : ∀ t s, g t = some s → ∀ cs x, rd t cs = some x → cs.length = s.n → ∃ xs, s.Fit xs ∧ RdC w xs cs) :
    ∀ {l : List (TypeId × Nat)} {off : Nat} {shs : List Sh} {ys : List (DataW H × List MemPlace)}, shF P g l off = some shs →
      (l.mapM fun f => rd f.1 ((cs.drop f.2).take (P.cellsOf f.1))) = some ys → off + Sh.nL shs = cs.length → ∃ xs, Sh.FitL shs xs ∧ RdC w xs (cs.drop off)
  | [], off, shs, ys, h1, _, h3 => by
    simp only [shF, Option.some.injEq] at h1
    subst h1
    refine ⟨[], rfl, ?_, fun i c v hc => by simp at hc⟩
    simp only [Sh.nL] at h3
    simp only [List.length_drop, List.length_nil]; omega
  | (t, o) :: r, off, shs, ys, h1, h2, h3 => by
    simp only [shF] at h1
    split at h1
    · rename_i ho
      subst ho
      cases hg : g t with
      | none => rw [hg] at h1; cases h1
      | some s =>
        rw [hg] at h1
        simp only at h1
        split at h1
        · rename_i hn
          cases hr : shF P g r (o + s.n) with
          | none => rw [hr] at h1; cases h1
          | some l =>
            rw [hr] at h1
            simp only [Option.some.injEq] at h1
            subst h1
            rw [List.mapM_cons] at h2
            cases hy : rd t ((cs.drop o).take (P.cellsOf t)) with
            | none => simp [hy] at h2
            | some y =>
              cases hz : (r.mapM fun f => rd f.1 ((cs.drop f.2).take (P.cellsOf f.1))) with
              | none => simp [hy, hz] at h2
              | some zs =>
                simp only [Sh.nL] at h3
                obtain ⟨a, a1, a2⟩ := ih t s hg _ y hy (by rw [List.length_take, List.length_drop, hn]; omega)
                obtain ⟨b, b1, b2⟩ := open_parts ih hr hz (by omega)
                refine ⟨a ++ b, ⟨a, b, rfl, a1, b1⟩, ?_⟩
                have := a2.append b2
                rw [← hn] at this
                have e : List.take s.n (List.drop o cs) ++ List.drop (o + s.n) cs = List.drop o cs := by
                  rw [← List.drop_drop]; exact List.take_append_drop _ _
                rwa [e] at this
        · cases h1
    · cases h1
theorem cells?_spec {a : Addr} {n : Nat} {cs : List Value} (h : w.cells? 0 a n = some cs) : cs.length = n ∧ ∀ j v, cs[j]? = some v → w.cell? (a.add j) = some v := by
  unfold World.cells? at h
  rw [if_pos (Nat.zero_le _)] at h
  obtain ⟨h1, h2⟩ := mapM_get h
  rw [List.length_range] at h1
  refine ⟨h1.symm, fun j v hj => ?_⟩
  obtain ⟨x, e1, e2⟩ := h2 j v hj
  have hlt := (List.getElem?_eq_some_iff.1 hj).1
  rw [List.getElem?_range (by omega)] at e1
  cases e1
  exact e2
theorem cell_plain {a : Addr} {v : Value} (h : w.cell? a = some v) : a.spot = none ∧ a.block < w.heap.size := by
  unfold World.cell? at h
  split at h
  · rename_i c x y hb
    split at h
    · cases h
    · rename_i hs
      refine ⟨?_, (Array.getElem?_eq_some_iff.1 hb).1⟩
      cases hq : a.spot with
      | none => rfl
      | some z => rw [hq] at hs; simp at hs
  · cases h
/-- What comes in, as data. -/
theorem open_sh : ∀ (f : Nat) (t : TypeId) (sh : Sh), shT P f t = some sh → ∀ (fuel : Nat) (cs : List Value) (x : DataW H × List MemPlace), DataW.trod enc P w 0 (fun _ => true) held fuel t cs = some x → cs.length = sh.n →
    ∃ xs, sh.Fit xs ∧ RdC w xs cs
  | 0, t, sh, h => by simp [shT] at h
  | f + 1, t, sh, h => by
    intro fuel cs x hx hlen
    have hx0 := hx
    cases fuel with
    | zero => simp [DataW.trod] at hx
    | succ fuel =>
      unfold shT at h
      unfold DataW.trod at hx
      split at h <;> rename_i hu
      · cases h
        rw [hu] at hx
        split at hx <;> simp_all
        rename_i b
        exact ⟨[.bool b], ⟨b, rfl⟩, RdC.one (.bool b) rfl⟩
      · cases h
        rw [hu] at hx
        split at hx <;> simp_all
        rename_i k' n e
        subst e
        obtain ⟨⟨rfl, hw⟩, _⟩ := hx
        simp only [Lit.wf, Bool.and_eq_true, decide_eq_true_eq] at hw
        exact ⟨[.int k' n], ⟨n, rfl, hw⟩, RdC.one (.int k' n) rfl⟩
      · cases h
        rw [hu] at hx
        split at hx <;> simp_all
        rename_i s
        exact ⟨[.str s], ⟨s, rfl, hx.1⟩, RdC.one (.str s) rfl⟩
      · rename_i e
        cases he : shT P f e with
        | none => rw [he] at h; cases h
        | some s =>
          rw [he] at h
          simp only at h
          split at h
          · rename_i hc
            cases h
            obtain ⟨hc1, hc2⟩ := hc
            rcases Go.Deep.open_slice hu hx0 with ⟨rfl, _⟩ | ⟨a, len, cap, m, n, Dd, Pl, rfl, _, hl, hm, hmm, _, hel⟩
            · exact ⟨[.sl false s.n []], ⟨[], rfl, Nat.zero_le _, fun row hr => by cases hr⟩, RdC.one (.sl0 _ _) rfl⟩
            · simp only [if_true] at hmm
              subst hmm
              by_cases h0 : m = 0
              · subst h0
                have : len = 0 := by omega
                subst this
                exact ⟨[.sl false s.n []], ⟨[], rfl, Nat.zero_le _, fun row hr => by cases hr⟩, RdC.one (.slE _ _ a) rfl⟩
              · have hread : ∀ i, i < m → ∃ z : List D × List Value, w.cells? 0 (a.add (i * P.cellsOf e)) (P.cellsOf e) = some z.2 ∧ s.Fit z.1 ∧ RdC w z.1 z.2 := fun i hi => by
                  obtain ⟨cs', c1, c2⟩ := hel i hi
                  obtain ⟨xs, f1, f2⟩ := open_sh f e s he n cs' _ c2 (by rw [(cells?_spec c1).1, hc1])
                  exact ⟨(xs, cs'), c1, f1, f2⟩
                obtain ⟨Z, hZ⟩ := Go.Deep.choose_lt (α := List D × List Value) hread
                obtain ⟨z1, z2, z3⟩ := hZ 0 (by omega)
                obtain ⟨y1, y2⟩ := cells?_spec z1
                have hcell0 : w.cell? (a.add (0 * P.cellsOf e)) = some ((Z 0).2[0]'(by rw [y1]; omega)) := by
                  have := y2 0 ((Z 0).2[0]'(by rw [y1]; omega)) (by simp)
                  simpa [Addr.add] using this
                rw [Nat.zero_mul] at hcell0
                have e0 : a.add 0 = a := rfl
                rw [e0] at hcell0
                obtain ⟨hsp, hblk⟩ := cell_plain hcell0
                obtain ⟨b, off, spot⟩ := a
                simp only at hsp hblk
                subst hsp
                have hadd : ∀ j, (⟨b, off, none⟩ : Addr).add j = ⟨b, off + j, none⟩ := fun j => by unfold Addr.add; split <;> simp_all
                have hadd2 : ∀ o j, (⟨b, o, none⟩ : Addr).add j = ⟨b, o + j, none⟩ := fun o j => by unfold Addr.add; split <;> simp_all
                have hrows : ∀ (i : Nat) (row : List D), ((List.range len).map fun i => (Z i).1)[i]? = some row → i < len ∧ row = (Z i).1 := fun i row hi => by
                  have hlt := (List.getElem?_eq_some_iff.1 hi).1
                  simp only [List.length_map, List.length_range] at hlt
                  rw [List.getElem?_map, List.getElem?_range hlt] at hi
                  exact ⟨hlt, by simpa using hi.symm⟩
                have key : ∀ (i : Nat) (row : List D) (j : Nat) (c : D), ((List.range len).map fun i => (Z i).1)[i]? = some row → row[j]? = some c →
                    w.cell? ⟨b, off + i * s.n + j, none⟩ = some ((Z i).2.getD j undef) ∧ ((Z i).2.getD j undef).oneCell' = true ∧ Rd w (fun k => k < w.heap.size) c ((Z i).2.getD j undef) := fun i row j c hi hj => by
                  obtain ⟨hlt, rfl⟩ := hrows i row hi
                  obtain ⟨q1, q2, q3⟩ := hZ i (by omega)
                  obtain ⟨r1, r2⟩ := cells?_spec q1
                  have hj' := (List.getElem?_eq_some_iff.1 hj).1
                  have hlen2 := q3.1
                  have hv : (Z i).2[j]? = some ((Z i).2.getD j undef) := by
                    rw [List.getD_eq_getElem?_getD, List.getElem?_eq_getElem (by omega)]; rfl
                  have t1 := r2 j _ hv
                  obtain ⟨t2, t3⟩ := q3.2 j c _ hj hv
                  refine ⟨?_, t3, t2⟩
                  rw [hadd, hadd2, ← hc1] at t1
                  exact t1
                refine ⟨[.sl false s.n ((List.range len).map fun i => (Z i).1)], ⟨_, rfl, by simp only [List.length_map, List.length_range]; omega, fun row hr => ?_⟩, RdC.one ?_ rfl⟩
                · obtain ⟨i, hi, rfl⟩ := List.mem_map.1 hr
                  exact (hZ i (by have := List.mem_range.1 hi; omega)).2.1
                · have := Rd.sl (w := w) (ok := fun k => k < w.heap.size) false s.n ((List.range len).map fun i => (Z i).1) b off m (fun i j => (Z i).2.getD j undef) hblk (by simpa using hl) hm (fun h => by cases h)
                    (fun row hr => by
                      obtain ⟨i, hi, rfl⟩ := List.mem_map.1 hr
                      obtain ⟨q1, q2, q3⟩ := hZ i (by have := List.mem_range.1 hi; omega)
                      rw [q3.1, (cells?_spec q1).1, hc1])
                    (fun i row j c hi hj => (key i row j c hi hj).1) (fun i row j c hi hj => (key i row j c hi hj).2.1) (fun i row j c hi hj => (key i row j c hi hj).2.2)
                  simpa using this
          · cases h
      · rename_i fs
        rw [hu] at hx
        cases hl : shF P (shT P f) (fs.toList.map fun x => (x.type, x.offset)) 0 with
        | none => rw [hl] at h; cases h
        | some l =>
          rw [hl] at h; cases h
          simp only at hx
          split at hx
          · rename_i ys hq
            cases hys : (fs.toList.mapM fun f => DataW.trod enc P w 0 (fun _ => true) held fuel f.type ((cs.drop f.offset).take (P.cellsOf f.type))) with
            | none => rw [hys] at hx; cases hx
            | some ys =>
              have := open_parts (P := P) (w := w) (g := shT P f) (rd := fun t cs => DataW.trod enc P w 0 (fun _ => true) held fuel t cs) (cs := cs) (fun t s hs cs x hx hn => open_sh f t s hs fuel cs x hx hn) (l := fs.toList.map fun x => (x.type, x.offset)) (ys := ys) hl
                (by rw [List.mapM_map]; exact hys) (by simpa [Sh.n] using hlen.symm)
              rw [List.drop_zero] at this
              obtain ⟨xs, a1, a2⟩ := this
              exact ⟨xs, by unfold Sh.Fit; exact a1, a2⟩
          · cases hx
      · rename_i n e
        rw [hu] at hx
        cases hl : shF P (shT P f) ((List.range n).map fun i => (e, i * P.cellsOf e)) 0 with
        | none => rw [hl] at h; cases h
        | some l =>
          rw [hl] at h; cases h
          simp only at hx
          split at hx
          · cases hys : ((List.range n).mapM fun i => DataW.trod enc P w 0 (fun _ => true) held fuel e ((cs.drop (i * P.cellsOf e)).take (P.cellsOf e))) with
            | none => rw [hys] at hx; cases hx
            | some ys =>
              have := open_parts (P := P) (w := w) (g := shT P f) (rd := fun t cs => DataW.trod enc P w 0 (fun _ => true) held fuel t cs) (cs := cs) (fun t s hs cs x hx hn => open_sh f t s hs fuel cs x hx hn) (l := (List.range n).map fun i => (e, i * P.cellsOf e)) (ys := ys) hl
                (by rw [List.mapM_map]; exact hys) (by simpa [Sh.n] using hlen.symm)
              rw [List.drop_zero] at this
              obtain ⟨xs, a1, a2⟩ := this
              exact ⟨xs, by unfold Sh.Fit; exact a1, a2⟩
          · cases hx
      · cases h
def Sh.isAgg : Sh → Bool
  | .agg _ => true
  | _ => false
/-- An argument as data. -/
def Sh.arg : Sh → List D → D
  | .agg _, xs => .agg xs
  | _, xs => xs.headD .nilptr
theorem Rd.aggOf {xs : List D} {vs : Array Value} (h : RdC w xs vs.toList) : Rd w (fun k => k < w.heap.size) (.agg xs) (.agg vs) := by
  have hl : vs.size = xs.length := by rw [h.1]; simp
  refine .agg xs vs hl (fun i v hv => ?_) (fun i c v hc hv => (h.2 i c v hc (by simpa using hv)).1)
  have hlt := (Array.getElem?_eq_some_iff.1 hv).1
  have hx : xs[i]? = some (xs[i]'(by omega)) := List.getElem?_eq_getElem (by omega)
  exact (h.2 i _ v hx (by simpa using hv)).2
theorem open_arg {f : Nat} {t : TypeId} {sh : Sh} {v : Value} {d : DataW H} {p : List MemPlace} {r : Reach} {b : Nat} (hs : shT P f t = some sh) (hn : sh.n = P.cellsOf t) (hval : Value.okWide P w r b t v)
    (hd : DataW.Trod enc P w 0 (fun _ => true) held t v d p) : ∃ xs, sh.Fit xs ∧ Rd w (fun k => k < w.heap.size) (sh.arg xs) v := by
  obtain ⟨fuel, hd⟩ := hd
  have one : ∀ {s : Sh}, s.isAgg = false → s.n = 1 := fun {s} h => by cases s <;> first | rfl | cases h
  have fin : sh.isAgg = false → v.cells.toList = [v] → ∃ xs, sh.Fit xs ∧ Rd w (fun k => k < w.heap.size) (sh.arg xs) v := fun ha hv => by
    rw [hv] at hd
    obtain ⟨xs, a1, a2⟩ := open_sh f t sh hs fuel [v] _ hd (by rw [one ha]; rfl)
    refine ⟨xs, a1, ?_⟩
    obtain ⟨l1, l2⟩ := a2
    match xs, l1 with
    | [x], _ =>
      have := (l2 0 x v rfl rfl).1
      cases sh <;> first | exact this | cases ha
  have fin2 : ∀ l, sh = .agg l → (∃ cs, v = .agg cs ∧ cs.size = P.cellsOf t) → ∃ xs, sh.Fit xs ∧ Rd w (fun k => k < w.heap.size) (sh.arg xs) v := fun l hl ⟨cs, hv, hc⟩ => by
    subst hl; subst hv
    obtain ⟨xs, a1, a2⟩ := open_sh f t _ hs fuel cs.toList _ hd (by simp only [Array.length_toList]; rw [hc, hn])
    exact ⟨xs, a1, Rd.aggOf a2⟩
  have hs0 := hs
  cases f with
  | zero => simp [shT] at hs
  | succ f =>
    unfold shT at hs
    split at hs <;> rename_i hu
    · cases hs; obtain ⟨b, rfl⟩ := okWide_bool hu hval; exact fin rfl rfl
    · cases hs; obtain ⟨n, rfl⟩ := okWide_int hu hval; exact fin rfl rfl
    · cases hs; obtain ⟨n, rfl⟩ := okWide_string hu hval; exact fin rfl rfl
    · rename_i e
      cases he : shT P f e with
      | none => rw [he] at hs; cases hs
      | some s =>
        rw [he] at hs
        simp only at hs
        split at hs
        · cases hs; obtain ⟨a, len, cap, rfl⟩ := okWide_slice hu hval; exact fin rfl rfl
        · cases hs
    · rename_i fs
      cases hl : shF P (shT P f) (fs.toList.map fun x => (x.type, x.offset)) 0 with
      | none => rw [hl] at hs; cases hs
      | some l => rw [hl] at hs; cases hs; exact fin2 l rfl (okWide_struct hu hval)
    · rename_i n e
      cases hl : shF P (shT P f) ((List.range n).map fun i => (e, i * P.cellsOf e)) 0 with
      | none => rw [hl] at hs; cases hs
      | some l =>
        rw [hl] at hs; cases hs
        refine fin2 l rfl ?_
        simp only [Value.okWide, hu] at hval
        obtain ⟨cs, h1, h2, _⟩ := hval
        exact ⟨cs, h1, h2⟩
    · cases hs
/-- All arguments. -/
def FitA : List Sh → List D → Prop
  | [], xs => xs = []
  | s :: r, xs => ∃ a q, xs = s.arg a :: q ∧ s.Fit a ∧ FitA r q
def shA (P : Program) (f : Nat) : List TypeId → Option (List Sh)
  | [] => some []
  | t :: r => match shT P f t with
    | some s => if s.n = P.cellsOf t then match shA P f r with
      | some l => some (s :: l)
      | none => none
      else none
    | none => none
theorem open_args {f : Nat} {r : Reach} {b : Nat} : ∀ {ts : List TypeId} {shs : List Sh} {vs : List Value} {ds : List (DataW H)} {p : List MemPlace}, shA P f ts = some shs → DataW.TrodAll enc P w 0 (fun _ => true) held ts vs ds p →
    (∀ (j : Nat) t v, ts[j]? = some t → vs[j]? = some v → Value.okWide P w r b t v) → ∃ xs : List D, FitA shs xs ∧ vs.length = xs.length ∧ ∀ (i : Nat) (x : D) (v : Value), xs[i]? = some x → vs[i]? = some v → Rd w (fun k => k < w.heap.size) x v
  | [], shs, vs, ds, p, h1, h2, _ => by
    simp only [shA, Option.some.injEq] at h1
    subst h1
    obtain ⟨rfl, _, _⟩ := trodAll_nil h2
    exact ⟨[], rfl, rfl, fun i x v h => by simp at h⟩
  | t :: ts, shs, vs, ds, p, h1, h2, h3 => by
    simp only [shA] at h1
    cases hs : shT P f t with
    | none => rw [hs] at h1; cases h1
    | some s =>
      rw [hs] at h1
      simp only at h1
      split at h1
      · rename_i hn
        cases hl : shA P f ts with
        | none => rw [hl] at h1; cases h1
        | some l =>
          rw [hl] at h1
          simp only [Option.some.injEq] at h1
          subst h1
          obtain ⟨v, vs', d, ds', p', q', rfl, rfl, rfl, hd, hr⟩ := trodAll_cons h2
          obtain ⟨xs, a1, a2⟩ := open_arg hs hn (h3 0 t v rfl rfl) hd
          obtain ⟨ys, b1, b2, b3⟩ := open_args hl hr (fun j t v e1 e2 => h3 (j + 1) t v (by simpa using e1) (by simpa using e2))
          refine ⟨s.arg xs :: ys, ⟨xs, ys, rfl, a1, b1⟩, by simp [b2], fun i x u hx hu => ?_⟩
          match i, hx, hu with
          | 0, hx, hu => cases hx; cases hu; exact a2
          | i + 1, hx, hu => exact b3 i x u (by simpa using hx) (by simpa using hu)
      · cases h1
theorem trodAll_below (hl : laidOutB P = true) {W' : World} (hb : Below w.heap.size w W') : ∀ {ts : List TypeId} {vs : List Value} {ds : List (DataW H)} {p : List MemPlace}, (ts.all fun t => P.readableRec t && decide (t < P.types.size)) = true →
    DataW.TrodAll enc P w 0 (fun _ => true) true ts vs ds p → (∀ x ∈ p, x.block < w.heap.size) → DataW.TrodAll enc P W' 0 (fun b => decide (b < w.heap.size)) true ts vs ds p
  | [], vs, ds, p, _, h, _ => by
    obtain ⟨rfl, rfl, rfl⟩ := trodAll_nil h
    exact rfl
  | t :: ts, vs, ds, p, ht, h, hlt => by
    simp only [List.all_cons, Bool.and_eq_true, decide_eq_true_eq] at ht
    obtain ⟨v, vs', d, ds', p', q', rfl, rfl, rfl, hd, hr⟩ := trodAll_cons h
    refine ⟨p', q', Below.trod hl ht.1.1 ht.1.2 hd hb (fun x hx => hlt x (List.mem_append_left _ hx)), ?_, rfl⟩
    exact trodAll_below hl hb (by simpa using ht.2) hr (fun x hx => hlt x (List.mem_append_right _ hx))
theorem trodAll_below' (hl : laidOutB P = true) {W' : World} (hb : Below w.heap.size w W') : ∀ {ts : List TypeId} {vs : List Value} {ds : List (DataW H)} {p : List MemPlace}, (ts.all fun t => P.readableRec t && decide (t < P.types.size)) = true →
    DataW.TrodAll enc P w 0 (fun _ => true) true ts vs ds p → (∀ x ∈ p, x.block < w.heap.size) → DataW.TrodAll enc P W' 0 (fun _ => true) true ts vs ds p
  | [], vs, ds, p, _, h, _ => by
    obtain ⟨rfl, rfl, rfl⟩ := trodAll_nil h
    exact rfl
  | t :: ts, vs, ds, p, ht, h, hlt => by
    simp only [List.all_cons, Bool.and_eq_true, decide_eq_true_eq] at ht
    obtain ⟨v, vs', d, ds', p', q', rfl, rfl, rfl, hd, hr⟩ := trodAll_cons h
    refine ⟨p', q', WideElems.Trod_stays hl ht.1.1 ht.1.2 hd (fun x hx => hb.same (hlt x (List.mem_append_left _ hx))) (fun x hx => rfl), ?_, rfl⟩
    exact trodAll_below' hl hb (by simpa using ht.2) hr (fun x hx => hlt x (List.mem_append_right _ hx))
theorem trodAll_len {base : Nat} {sp : Nat → Bool} : ∀ {ts : List TypeId} {vs : List Value} {ds : List (DataW H)} {p : List MemPlace}, DataW.TrodAll enc P w base sp held ts vs ds p → ds.length = ts.length
  | [], vs, ds, p, h => by
    obtain ⟨rfl, rfl, rfl⟩ := trodAll_nil h
    rfl
  | t :: ts, vs, ds, p, h => by
    obtain ⟨v, vs', d, ds', p', q', rfl, rfl, rfl, hd, hr⟩ := trodAll_cons h
    simp only [List.length_cons, trodAll_len hr]
/-- The row of a law that only reads, and returns true. -/
theorem lifted {C : Checked} {os : Os} {f : FuncId} {fn : Func} {s : ChangeSpec} {apart fresh handsOn again : Bool} {tb : TypeId} {shs : List Sh} {fl : Nat}
    (own : ownKnob C.prog.godebug = none) (started : os.Started) (noInit : C.prog.inits.idxOf? f = none) (hfn : C.prog.funcs[f]? = some fn)
    (witness : ∃ (w : World) (tape : Tape) (i : Input), w.os = os ∧ (w.forCall tape i).Shaped C.prog ∧ i.vars = [] ∧ Input.okWide C.prog (w.forCall tape i) .any w.heap.size f i ∧
      s.pre6 enc C.prog fn [] apart (w.forCall tape i).memory i.args ∧ ({} : Assume).holds C.prog (lone (Frame.enter C.prog f i.args .normal) [] (w.forCall tape i)))
    (hl : laidOutB C.prog = true) (hv : s.vars = []) (hres : fn.resultTypes = #[tb]) (htb : C.prog.underlying tb = some .bool)
    (hsp : ∀ ds : List (DataW H), ds.length = fn.params.toList.length → s.fn H ds = { results := [.lit (.bool true)], args := ds })
    (hsh : shA C.prog fl fn.params.toList = some shs) (hrd : (fn.params.toList.all fun t => C.prog.readableRec t && decide (t < C.prog.types.size)) = true)
    (con : ∀ xs, FitA shs xs → Con C.prog f xs (.d (.bool true)) []) :
    ReturnsInHanded {} C os f .any (s.pre6 enc C.prog fn [] apart) (s.post enc C.prog fn apart fresh handsOn again) := by
  refine returnsInHanded_of_change own started noInit hfn witness ?_
  intro W base args ds gs before hval hW hcnd _
  have hW' := hW
  have hlt : ∀ p ∈ before, p.block < W.heap.size := fun p hp => by simpa using hW.lt p hp
  obtain ⟨p, q, hA, hV, hpq, hfz, hnd⟩ := hW
  rw [hv] at hV
  obtain ⟨rfl, rfl⟩ := trodVars_none hV
  have hpq : before = p := by simpa using hpq
  subst hpq
  obtain ⟨xs, x1, x2, x3⟩ := open_args hsh hA (fun j t v e1 e2 => hval j t v (by simpa using e1) (by simpa using e2))
  have hlen : ds.length = fn.params.toList.length := trodAll_len hA
  have hcon := con xs x1
  refine (hcon.2 W (fun k => k < W.heap.size) args (fun k h => h) ⟨by simpa using x2, fun i x v e1 e2 => x3 i x v e1 (by simpa using e2)⟩).mono ?_
  rintro e W' ⟨v, ok', ν', rfl, hb, _, _, hv', _⟩
  have hvv : v = .bool true := (hv' (fun _ => none) 0).bool
  subst hvv
  refine ⟨_, rfl, ?_⟩
  have hfz' : ∀ b off, MemPlace.cell b off ∈ before → W'.frozen? ⟨b, off, none⟩ = false := fun b off hp => by
    rw [hb.frozen (p := ⟨b, off, none⟩) (hlt _ hp)]; exact hfz b off hp
  have hok := ok_one (P := C.prog) (W' := W') hres rfl (okWide_bool_mk htb true)
  have e1 : (s.fn H (ds ++ [])).results = [.lit (.bool true)] := by rw [List.append_nil, hsp ds hlen]
  have e2 : (s.fn H (ds ++ [])).args = ds := by rw [List.append_nil, hsp ds hlen]
  have e3 : (s.fn H (ds ++ [])).vars = [] := by rw [List.append_nil, hsp ds hlen]
  have r1 : ∀ (b : Nat) (sp : Nat → Bool) (hd : Bool), DataW.TrodAll enc C.prog W' b sp hd fn.resultTypes.toList ((Value.bool true).resultList fn.resultTypes.size) [.lit (.bool true)] [] := fun b sp hd => by
    rw [hres]
    exact trodAll_mk1 (shut_bool htb true)
  have hv2 : ∀ sp : Nat → Bool, DataW.TrodVars enc C.prog W' sp s.vars (s.fn H (ds ++ [])).vars [] := fun sp => by rw [hv, e3]; exact rfl
  have a2 := trodAll_below' hl hb hrd hA hlt
  refine ⟨ds, [], before, [], before, [], hW', ?_, ?_, hv2 _, hb.frame _, fun _ => ⟨hok, [.lit (.bool true)] ++ ds, (s.fn H (ds ++ [])).vars, before, ⟨[] ++ before, [], ?_, hv2 _, by simp, hfz', hnd⟩, fun p hp _ => hp⟩⟩
  · rw [e1]; exact r1 _ _ _
  · rw [e2]; exact trodAll_below hl hb hrd hA hlt
  · exact trodAll_append a2 (r1 _ _ _)
end
end Go.Proofs.Ytelnoeamkdpjhaa.Aw
