/- Part 6 of the proof: lemmas. -/
import Derived.Test.YtnekemldcjegaaaM5
import Derived.Test.YtnekemldcjegaaaM4
import Derived.Test.YtnekemldcjegaaaRows

/- Contracts of the law: ClothFits. -/
namespace Go.Proofs.Ytnekemldcjegaaa.Aw
open Go Go.RowKit Go.Proofs
set_option maxRecDepth 100000
set_option maxHeartbeats 2000000
set_option linter.unusedSimpArgs false
set_option linter.unusedVariables false
theorem mem_valN {h r n : Int} : ∀ {k : Nat} {x : Int}, n ∈ valN h r k x ↔ ∃ y, x ≤ y ∧ y < x + k ∧ n = aft y r h.toNat
  | 0, x => by
    simp only [valN, List.not_mem_nil, false_iff]
    rintro ⟨y, a, b, _⟩; omega
  | k + 1, x => by
    simp only [valN, List.mem_cons, mem_valN (k := k)]
    constructor
    · rintro (rfl | ⟨y, a, b, c⟩)
      · exact ⟨x, Int.le_refl _, by omega, rfl⟩
      · exact ⟨y, by omega, by omega, c⟩
    · rintro ⟨y, a, b, c⟩
      by_cases e : y = x
      · subst e; exact .inl c
      · exact .inr ⟨y, by omega, by omega, c⟩
theorem mem_valsL {h n : Int} : ∀ {l : List Str}, n ∈ valsL h l ↔ ∃ s ∈ l, ∃ y, s.low ≤ y ∧ y ≤ s.high ∧ n = aft y s.rate h.toNat
  | [] => by simp [valsL]
  | s :: l => by
    simp only [valsL, List.mem_append, mem_valsL (l := l), valS, mem_valN, List.mem_cons]
    constructor
    · rintro (⟨y, a, b, c⟩ | ⟨u, hu, r⟩)
      · exact ⟨s, .inl rfl, y, a, by omega, c⟩
      · exact ⟨u, .inr hu, r⟩
    · rintro ⟨u, (rfl | hu), y, a, b, c⟩
      · exact .inl ⟨y, a, by omega, c⟩
      · exact .inr ⟨u, hu, y, a, b, c⟩
theorem val_iff {ts : List Track} {ms : List Meas} {w h n : Int} (hck : check ts ms = 0) (h0 : 0 ≤ w) (h1 : w ≤ 2) : n ∈ valW ts ms w h ↔ n ∈ rVal ts ms w h := by
  unfold valW rVal valT
  rw [mem_valsL, List.mem_map]
  constructor
  · rintro ⟨s, hs, y, a, b, rfl⟩
    exact ⟨⟨y, s.rate⟩, (truW_iff hck h0 h1).2 ⟨s, hs, rfl, a, b⟩, rfl⟩
  · rintro ⟨u, hu, rfl⟩
    obtain ⟨s, hs, hr, a, b⟩ := (truW_iff hck h0 h1 (x := u.first) (r := u.rate)).1 hu
    exact ⟨s, hs, u.first, a, b, by rw [hr]⟩
end Go.Proofs.Ytnekemldcjegaaa.Aw

/- Plain: for how long a bolt's cloth was beaten, and of which yarns it is. -/
namespace Go.Proofs.Ytnekemldcjegaaa.Aw
open Go Go.RowKit Go.Proofs
set_option linter.unusedSimpArgs false
set_option linter.unusedVariables false
end Go.Proofs.Ytnekemldcjegaaa.Aw

/- Plain: what is so from hour to hour. -/
namespace Go.Proofs.Ytnekemldcjegaaa.Aw
open Go Go.RowKit Go.Proofs
set_option linter.unusedSimpArgs false
set_option linter.unusedVariables false
theorem aft_less {x r : Int} (hx : 0 ≤ x) (hr : 0 ≤ r ∧ r ≤ 1000) (n : Nat) : aft x r (n + 1) ≤ aft x r n := by
  obtain ⟨h1, h2⟩ := aft_range hx hr n
  have h3 : 0 ≤ aft x r n * r := Int.mul_nonneg h1 hr.1
  have : 0 ≤ aft x r n * r / 1000 := Int.ediv_nonneg h3 (by omega)
  simp only [aft]; omega
/-- The least hour below n at which it is so; a if there is none. -/
theorem downF_spec (f : Int → Bool) : ∀ (n : Nat) (a : Int), (downF f n a = a ∧ ∀ h : Int, 0 ≤ h → h < n → f h = false) ∨ ((0 ≤ downF f n a ∧ downF f n a < n) ∧ f (downF f n a) = true ∧ ∀ h : Int, 0 ≤ h → h < downF f n a → f h = false)
  | 0, a => .inl ⟨rfl, fun h h0 h1 => by omega⟩
  | n + 1, a => by
    simp only [downF]
    rcases downF_spec f n (if f n then n else a) with ⟨e, k⟩ | ⟨e, k, l⟩
    · by_cases hf : f n = true
      · rw [if_pos hf] at e ⊢
        right
        rw [e]
        exact ⟨by omega, hf, k⟩
      · left
        rw [if_neg hf] at e ⊢
        refine ⟨e, fun h h0 h1 => ?_⟩
        by_cases hh : h = n
        · subst hh; simpa using hf
        · exact k h h0 (by omega)
    · right
      exact ⟨by omega, k, l⟩
theorem down_iff {f : Int → Bool} {n : Nat} {a : Int} (ha : a = n) (hm : ∀ h : Int, 0 ≤ h → h + 1 < n → f h = true → f (h + 1) = true) {h : Int} (h0 : 0 ≤ h) (h1 : h < n) : downF f n a ≤ h ↔ f h = true := by
  have up : ∀ (k : Nat) (h : Int), 0 ≤ h → h + k < n → f h = true → f (h + k) = true := by
    intro k
    induction k with
    | zero => intro h _ _ hf; simpa using hf
    | succ k ih =>
      intro h h0 hk hf
      have := hm (h + k) (by omega) (by omega) (ih h h0 (by omega) hf)
      rwa [show h + ((k + 1 : Nat) : Int) = h + k + 1 from by omega]
  rcases downF_spec f n a with ⟨e, k⟩ | ⟨e, k, l⟩
  · rw [e]
    constructor
    · intro hh; omega
    · intro hf; rw [k h h0 h1] at hf; cases hf
  · constructor
    · intro hh
      have := up (h - downF f n a).toNat (downF f n a) e.1 (by omega) k
      rwa [show downF f n a + ((h - downF f n a).toNat : Int) = h from by omega] at this
    · intro hf
      rcases (show h < downF f n a ∨ downF f n a ≤ h from by omega) with hlt | hge
      · rw [l h h0 hlt] at hf; cases hf
      · exact hge
theorem down_range {f : Int → Bool} {n : Nat} {a : Int} (ha : a = n) : 0 ≤ downF f n a ∧ downF f n a ≤ n := by
  rcases downF_spec f n a with ⟨e, k⟩ | ⟨e, k, l⟩ <;> omega
theorem down_le {f g : Int → Bool} {n : Nat} {a : Int} (ha : a = n) (h : ∀ k : Int, 0 ≤ k → k < n → f k = true → g k = true) : downF g n a ≤ downF f n a := by
  rcases downF_spec f n a with ⟨e, k⟩ | ⟨e, k, l⟩
  · rw [e]; have := (down_range (f := g) ha).2; omega
  · rcases downF_spec g n a with ⟨e', k'⟩ | ⟨e', k', l'⟩
    · have := h _ e.1 e.2 k
      rw [k' _ e.1 e.2] at this; cases this
    · rcases (show downF f n a < downF g n a ∨ downF g n a ≤ downF f n a from by omega) with hlt | hge
      · have := h _ e.1 e.2 k
        rw [l' _ e.1 hlt] at this; cases this
      · exact hge
section
variable {ts : List Track} {ms : List Meas}
theorem tru_fit (hck : check ts ms = 0) {w : Int} (h0 : 0 ≤ w) (h1 : w ≤ 2) : ∀ t ∈ truW ts ms noSkip w, (0 ≤ t.first ∧ t.first ≤ 2000) ∧ 0 ≤ t.rate ∧ t.rate ≤ 100 := by
  intro t ht
  obtain ⟨g1, g2, g3, g4⟩ := check_zero hck
  obtain ⟨t1, t2, t3, t4, t5, t6⟩ := getD_ok g1 g2 h0 h1
  unfold truW truT at ht
  rw [mem_truX] at ht
  omega
theorem hull_step (hck : check ts ms = 0) {w : Int} (h0 : 0 ≤ w) (h1 : w ≤ 2) (hne : truW ts ms noSkip w ≠ []) {h : Int} (hh : 0 ≤ h) :
    (hullW ts ms (h + 1) w).low ≤ (hullW ts ms h w).low ∧ (hullW ts ms (h + 1) w).high ≤ (hullW ts ms h w).high := by
  have a := hullW_is (h := h) hck h0 h1 hne
  have b := hullW_is (h := h + 1) hck h0 h1 hne
  have e : (h + 1).toNat = h.toNat + 1 := by omega
  constructor
  · obtain ⟨t, ht, e1⟩ := List.mem_map.1 a.low
    obtain ⟨f1, f2⟩ := tru_fit hck h0 h1 t ht
    have := (b.all _ (List.mem_map.2 ⟨t, ht, rfl⟩)).1
    have := aft_less (x := t.first) (r := t.rate) (by omega) (by omega) h.toNat
    rw [e] at *; omega
  · obtain ⟨t, ht, e1⟩ := List.mem_map.1 b.high
    obtain ⟨f1, f2⟩ := tru_fit hck h0 h1 t ht
    have := (a.all _ (List.mem_map.2 ⟨t, ht, rfl⟩)).2
    have := aft_less (x := t.first) (r := t.rate) (by omega) (by omega) h.toNat
    rw [e] at *; omega
theorem below_iff (hck : check ts ms = 0) {w : Int} (h0 : 0 ≤ w) (h1 : w ≤ 2) (hne : truW ts ms noSkip w ≠ []) {lim h : Int} (hh : 0 ≤ h) (hh2 : h ≤ 48) :
    (belowS ts ms w lim ≤ h ↔ (hullW ts ms h w).high ≤ lim) ∧ (belowP ts ms w lim ≤ h ↔ (hullW ts ms h w).low ≤ lim) := by
  unfold belowS belowP
  constructor
  · rw [down_iff (n := 49) (a := 49) rfl (fun k k0 k1 hk => by
      have := (hull_step hck h0 h1 hne k0).2
      simp only [decide_eq_true_eq] at hk ⊢; omega) hh (by omega)]
    simp
  · rw [down_iff (n := 49) (a := 49) rfl (fun k k0 k1 hk => by
      have := (hull_step hck h0 h1 hne k0).1
      simp only [decide_eq_true_eq] at hk ⊢; omega) hh (by omega)]
    simp
theorem hull_le (hck : check ts ms = 0) {w : Int} (h0 : 0 ≤ w) (h1 : w ≤ 2) (hne : truW ts ms noSkip w ≠ []) (h : Int) : (hullW ts ms h w).low ≤ (hullW ts ms h w).high := by
  have a := hullW_is (h := h) hck h0 h1 hne
  exact (a.all _ a.low).2
theorem below_range (hck : check ts ms = 0) {w : Int} (h0 : 0 ≤ w) (h1 : w ≤ 2) (hne : truW ts ms noSkip w ≠ []) (lim : Int) :
    0 ≤ belowP ts ms w lim ∧ belowP ts ms w lim ≤ belowS ts ms w lim ∧ belowS ts ms w lim ≤ 49 := by
  unfold belowS belowP
  refine ⟨(down_range rfl).1, down_le rfl (fun k k0 k1 hk => ?_), (down_range rfl).2⟩
  have := hull_le hck h0 h1 hne k
  simp only [decide_eq_true_eq] at hk ⊢; omega
end
end Go.Proofs.Ytnekemldcjegaaa.Aw

/- Types of chapter 1, printed by wip/gen/ch1.py. -/
namespace Go.Proofs.Ytnekemldcjegaaa.Aw
open Go Go.RowKit Go.Proofs
set_option maxRecDepth 100000
set_option maxHeartbeats 4000000
set_option linter.unusedSimpArgs false
set_option linter.unusedVariables false
noncomputable section
structure api_Cloth where
  Tracks : (List Track)
  Measures : (List Meas)
structure A3_A4_u8 where
  a0 : B4
  a1 : B4
  a2 : B4
structure law01_Bolt where
  Tracks : A3_A4_u8
  Measures : (List B4)
structure cloth_stretch where
  Span : Span
  rate : Int
structure A3_L_cloth_stretch where
  a0 : (List cloth_stretch)
  a1 : (List cloth_stretch)
  a2 : (List cloth_stretch)
structure A2_u8 where
  a0 : Int
  a1 : Int
structure A3_u8 where
  a0 : Int
  a1 : Int
  a2 : Int
end
end Go.Proofs.Ytnekemldcjegaaa.Aw

/- Plain models of what was walked by hand: the functions of chapter 1, as the laws call them. -/
namespace Go.Proofs.Ytnekemldcjegaaa.Aw
open Go Go.RowKit Go.Proofs
set_option maxRecDepth 100000
set_option linter.unusedSimpArgs false
set_option linter.unusedVariables false
open Classical
/-- Where it is so, x. -/
noncomputable def onlyIf {α : Type} (p : Prop) (x : α) : Option α := if p then some x else none
theorem onlyIf_of {α : Type} {p : Prop} {x o : α} (h : onlyIf p x = some o) : p ∧ o = x := by
  unfold onlyIf at h
  split at h
  · rename_i hp; cases h; exact ⟨hp, rfl⟩
  · cases h
theorem onlyIf_pos {α : Type} {p : Prop} {x : α} (h : p) : onlyIf p x = some x := by unfold onlyIf; rw [if_pos h]
def orE {α : Type} (x : Option (List α)) : List α := x.getD []
theorem lv_spans (x : Option (List Span)) : LV (kSpans x) (slSpan false (orE x)) := by
  cases x with
  | none => exact LV_nil
  | some l => exact lR
def toBolt (x : law01_Bolt) : Bolt := ⟨x.Tracks.a0, x.Tracks.a1, x.Tracks.a2, x.Measures⟩
noncomputable def m_cloth_At (N : Nat) (c : api_Cloth) (h : Int) : Option (List Span × Int) := onlyIf (ClothIn c.Tracks c.Measures) (orE (atRes c.Tracks c.Measures h).1, (atRes c.Tracks c.Measures h).2)
theorem w_cloth_At (N : Nat) (c : api_Cloth) (h : Int) (o : List Span × Int) (e : m_cloth_At N c h = some o) : KC Try.prog 21 [.agg [slTrack false c.Tracks, slMeas false c.Measures], .int .i64 h] (.tup [slSpan false o.1, .int .i64 o.2]) [] := by
  obtain ⟨hp, rfl⟩ := onlyIf_of e
  exact KC_res (con_At c.Tracks c.Measures h hp) (LV_tup ⟨lv_spans _, lR, rfl⟩)
noncomputable def m_cloth_Rates (N : Nat) (c : api_Cloth) : Option (List Span × Int) := onlyIf (ClothIn c.Tracks c.Measures) (orE (ratesRes c.Tracks c.Measures).1, (ratesRes c.Tracks c.Measures).2)
theorem w_cloth_Rates (N : Nat) (c : api_Cloth) (o : List Span × Int) (e : m_cloth_Rates N c = some o) : KC Try.prog 22 [.agg [slTrack false c.Tracks, slMeas false c.Measures]] (.tup [slSpan false o.1, .int .i64 o.2]) [] := by
  obtain ⟨hp, rfl⟩ := onlyIf_of e
  exact KC_res (con_Rates c.Tracks c.Measures hp) (LV_tup ⟨lv_spans _, lR, rfl⟩)
noncomputable def m_cloth_Below (N : Nat) (c : api_Cloth) (w l : Int) : Option (Int × Int × Int) := onlyIf (ClothIn c.Tracks c.Measures ∧ i64ok w) (belowRes c.Tracks c.Measures w l)
theorem w_cloth_Below (N : Nat) (c : api_Cloth) (w l : Int) (o : Int × Int × Int) (e : m_cloth_Below N c w l = some o) : KC Try.prog 30 [.agg [slTrack false c.Tracks, slMeas false c.Measures], .int .i64 w, .int .i64 l] (.tup [.int .i64 o.1, .int .i64 o.2.1, .int .i64 o.2.2]) [] := by
  obtain ⟨hp, rfl⟩ := onlyIf_of e
  exact con_Below c.Tracks c.Measures w l hp.1 hp.2
noncomputable def m_cloth_Fits (N : Nat) (c : api_Cloth) (m : Meas) : Option (Bool × Bool × Int) := onlyIf (ClothIn c.Tracks c.Measures ∧ i64ok m.what) (fitsRes c.Tracks c.Measures m)
theorem w_cloth_Fits (N : Nat) (c : api_Cloth) (m : Meas) (o : Bool × Bool × Int) (e : m_cloth_Fits N c m = some o) : KC Try.prog 33 [.agg [slTrack false c.Tracks, slMeas false c.Measures], .agg [.int .i64 m.what, .int .i64 m.hour, .int .i64 m.reading, .int .i64 m.off]] (.tup [.bool o.1, .bool o.2.1, .int .i64 o.2.2]) [] := by
  obtain ⟨hp, rfl⟩ := onlyIf_of e
  exact con_Fits c.Tracks c.Measures m hp.1 hp.2
def m_law01_known (N : Nat) : Option Bool := some true
theorem w_law01_known (N : Nat) (o : Bool) (e : m_law01_known N = some o) : KC Try.prog 18 [] (.bool o) [] := by
  cases e; exact con_known
noncomputable def m_law01_own (N : Nat) (c : api_Cloth) : Option api_Cloth := onlyIf (c.Tracks.length ≤ 1000000 ∧ c.Measures.length ≤ 1000000) c
theorem w_law01_own (N : Nat) (c : api_Cloth) (o : api_Cloth) (e : m_law01_own N c = some o) : KC Try.prog 47 [.agg [slTrack false c.Tracks, slMeas false c.Measures]] (.agg [slTrack false o.Tracks, slMeas false o.Measures]) [] := by
  obtain ⟨hp, rfl⟩ := onlyIf_of e
  exact con_own o.Tracks o.Measures hp.1 hp.2
def kB (x : law01_Bolt) : KV := .agg [.int .u8 x.Tracks.a0.a, .int .u8 x.Tracks.a0.b, .int .u8 x.Tracks.a0.c, .int .u8 x.Tracks.a0.d, .int .u8 x.Tracks.a1.a, .int .u8 x.Tracks.a1.b, .int .u8 x.Tracks.a1.c, .int .u8 x.Tracks.a1.d, .int .u8 x.Tracks.a2.a, .int .u8 x.Tracks.a2.b, .int .u8 x.Tracks.a2.c, .int .u8 x.Tracks.a2.d, slB4 false x.Measures]
noncomputable def m_law01_Bolt_cloth (N : Nat) (x : law01_Bolt) : Option api_Cloth := onlyIf (toBolt x).ok ⟨boltT (toBolt x), boltM (toBolt x)⟩
theorem w_law01_Bolt_cloth (N : Nat) (x : law01_Bolt) (o : api_Cloth) (e : m_law01_Bolt_cloth N x = some o) : KC Try.prog 46 [kB x] (.agg [slTrack false o.Tracks, slMeas false o.Measures]) [] := by
  obtain ⟨hp, rfl⟩ := onlyIf_of e
  exact con_cloth (toBolt x) hp
noncomputable def m_law01_Bolt_measure (N : Nat) (x : law01_Bolt) (i : Int) : Option Meas := onlyIf ((toBolt x).ok ∧ 0 ≤ i ∧ i < ((toBolt x).ms.length : Int)) (mOf (toBolt x) ((toBolt x).ms.getD i.toNat b40))
theorem w_law01_Bolt_measure (N : Nat) (x : law01_Bolt) (i : Int) (o : Meas) (e : m_law01_Bolt_measure N x i = some o) : KC Try.prog 52 [kB x, .int .i64 i] (.agg [.int .i64 o.what, .int .i64 o.hour, .int .i64 o.reading, .int .i64 o.off]) [] := by
  obtain ⟨hp, rfl⟩ := onlyIf_of e
  exact con_measure (toBolt x) hp.1 i hp.2.1 hp.2.2
end Go.Proofs.Ytnekemldcjegaaa.Aw

/- Plain models of what was walked by hand: the truths of a cloth, opened, and their values. -/
namespace Go.Proofs.Ytnekemldcjegaaa.Aw
open Go Go.RowKit Go.Proofs
set_option maxRecDepth 100000
set_option linter.unusedSimpArgs false
set_option linter.unusedVariables false
end Go.Proofs.Ytnekemldcjegaaa.Aw

/- Plain models of what was walked by hand: the reference's functions. -/
namespace Go.Proofs.Ytnekemldcjegaaa.Aw
open Go Go.RowKit Go.Proofs
set_option maxRecDepth 100000
set_option linter.unusedSimpArgs false
set_option linter.unusedVariables false
end Go.Proofs.Ytnekemldcjegaaa.Aw

/- Plain models and walks of chapter 1, printed by wip/gen/ch1.py. -/
namespace Go.Proofs.Ytnekemldcjegaaa.Aw
open Go Go.RowKit Go.Proofs
set_option maxRecDepth 100000
set_option maxHeartbeats 4000000
set_option linter.unusedSimpArgs false
set_option linter.unusedVariables false
noncomputable section
end
end Go.Proofs.Ytnekemldcjegaaa.Aw

/- Plain model and walk of a law, printed by wip/gen/ch1.py. -/
namespace Go.Proofs.Ytnekemldcjegaaa.Aw
open Go Go.RowKit Go.Proofs
set_option maxRecDepth 100000
set_option maxHeartbeats 4000000
set_option linter.unusedSimpArgs false
set_option linter.unusedVariables false
noncomputable section
end
end Go.Proofs.Ytnekemldcjegaaa.Aw

/- Plain law of ClothBetween. -/
namespace Go.Proofs.Ytnekemldcjegaaa.Aw
open Go Go.RowKit Go.Proofs
set_option linter.unusedSimpArgs false
set_option linter.unusedVariables false
def threeS (f : Int → Span) : List Span := [f 0, f 1, f 2]
theorem threeS_len {f : Int → Span} : (threeS f).length = 3 := rfl
theorem three_get {f : Int → Span} {i : Int} (h0 : 0 ≤ i) (h1 : i < 3) : getO span0 (threeS f) i = some (f i) := by
  rw [getO_of h0 (by simp [threeS]; omega)]
  have : i = 0 ∨ i = 1 ∨ i = 2 := by omega
  rcases this with rfl | rfl | rfl <;> rfl
theorem bolt_ne {x : Bolt} (hx : x.ok) {w : Int} (h0 : 0 ≤ w) (h1 : w ≤ 2) : truW (boltT x) (boltM x) noSkip w ≠ [] := fun e => by have := bolt_in hx h0 h1; rw [e] at this; cases this
end Go.Proofs.Ytnekemldcjegaaa.Aw

/- Plain: a cloth with one measuring more. -/
namespace Go.Proofs.Ytnekemldcjegaaa.Aw
open Go Go.RowKit Go.Proofs
set_option linter.unusedSimpArgs false
set_option linter.unusedVariables false
theorem okL_snoc {w : Int} {x r : Int} {m : Meas} : ∀ {ms : List Meas} {i : Int} {ok : Bool}, okL w noSkip x r (ms ++ [m]) i ok = (okL w noSkip x r ms i ok && (if m.what = w then nearB (aft x r m.hour.toNat) m.reading m.off else true))
  | [], i, ok => by
    simp only [List.nil_append, okL, noSkip, and_true]
    split <;> simp
  | a :: q, i, ok => by
    simp only [List.cons_append, okL]
    rw [okL_snoc]
/-- Is it near some measuring? -/
def nearT (m : Meas) (t : Tru) : Bool := nearB (aft t.first t.rate m.hour.toNat) m.reading m.off
theorem mem_more {ts : List Track} {ms : List Meas} {m : Meas} {w : Int} {t : Tru} : t ∈ truW ts (ms ++ [m]) noSkip w ↔ t ∈ truW ts ms noSkip w ∧ (m.what = w → nearT m t = true) := by
  unfold truW truT
  rw [mem_truX, mem_truX]
  simp only [okL_snoc, Bool.and_eq_true]
  unfold nearT
  by_cases h : m.what = w
  · rw [if_pos h]; simp only [h, true_implies, and_assoc]
  · rw [if_neg h]; simp only [h, false_implies, and_true]
section
variable {ts : List Track} {ms : List Meas} {m : Meas}
theorem fitNear {n : Int} : fitB m n = true ↔ nearB n m.reading m.off = true := by
  unfold fitB
  rw [within_one, near_iff]; omega
/-- Is it possibly right? Surely? -/
def moreP (ts : List Track) (ms : List Meas) (m : Meas) : Bool := (valW ts ms m.what m.hour).any (fitB m)
def moreS (ts : List Track) (ms : List Meas) (m : Meas) : Bool := (valW ts ms m.what m.hour).all (fitB m)
theorem moreP_iff (hck : check ts ms = 0) (h0 : 0 ≤ m.what) (h1 : m.what ≤ 2) : moreP ts ms m = true ↔ ∃ t ∈ truW ts ms noSkip m.what, nearT m t = true := by
  unfold moreP
  rw [List.any_eq_true]
  constructor
  · rintro ⟨n, hn, hf⟩
    rw [val_iff hck h0 h1] at hn
    obtain ⟨t, ht, rfl⟩ := List.mem_map.1 hn
    exact ⟨t, ht, fitNear.1 hf⟩
  · rintro ⟨t, ht, hf⟩
    exact ⟨_, (val_iff hck h0 h1).2 (List.mem_map.2 ⟨t, ht, rfl⟩), fitNear.2 hf⟩
theorem moreS_iff (hck : check ts ms = 0) (h0 : 0 ≤ m.what) (h1 : m.what ≤ 2) : moreS ts ms m = true ↔ ∀ t ∈ truW ts ms noSkip m.what, nearT m t = true := by
  unfold moreS
  rw [List.all_eq_true]
  constructor
  · intro h t ht
    exact fitNear.1 (h _ ((val_iff hck h0 h1).2 (List.mem_map.2 ⟨t, ht, rfl⟩)))
  · intro h n hn
    rw [val_iff hck h0 h1] at hn
    obtain ⟨t, ht, rfl⟩ := List.mem_map.1 hn
    exact fitNear.2 (h t ht)
/-- There is a truth of each quantity. -/
def allT (ts : List Track) (ms : List Meas) : Prop := ∀ w : Int, 0 ≤ w → w ≤ 2 → truW ts ms noSkip w ≠ []
theorem more_ne (hck : check ts ms = 0) (h0 : 0 ≤ m.what) (h1 : m.what ≤ 2) (hne : allT ts ms) (hp : moreP ts ms m = true) : allT ts (ms ++ [m]) := fun w w0 w1 => by
  by_cases h : m.what = w
  · obtain ⟨t, ht, hn⟩ := (moreP_iff hck h0 h1).1 hp
    rw [h] at ht
    intro e
    have : t ∈ truW ts (ms ++ [m]) noSkip w := mem_more.2 ⟨ht, fun _ => hn⟩
    rw [e] at this; cases this
  · obtain ⟨t, ht⟩ := List.exists_mem_of_ne_nil _ (hne w w0 w1)
    intro e
    have : t ∈ truW ts (ms ++ [m]) noSkip w := mem_more.2 ⟨ht, fun g => absurd g h⟩
    rw [e] at this; cases this
theorem more_nil (hck : check ts ms = 0) (h0 : 0 ≤ m.what) (h1 : m.what ≤ 2) (hp : moreP ts ms m = false) : truW ts (ms ++ [m]) noSkip m.what = [] := by
  rw [List.eq_nil_iff_forall_not_mem]
  intro t ht
  obtain ⟨a, b⟩ := mem_more.1 ht
  have := (moreP_iff hck h0 h1).2 ⟨t, a, b rfl⟩
  rw [hp] at this; cases this
theorem rTrue_iff : rTrueB ts ms noSkip = true ↔ allT ts ms := by
  constructor
  · intro h w w0 w1 e
    unfold rTrueB at h
    simp only [Bool.and_eq_true, hasTru, decide_eq_true_eq] at h
    have hw : w = 0 ∨ w = 1 ∨ w = 2 := by omega
    rcases hw with rfl | rfl | rfl
    · rw [e] at h; simp at h
    · rw [e] at h; simp at h
    · rw [e] at h; simp at h
  · exact true_of
theorem more_open (hck : check ts ms = 0) (hc2 : check ts (ms ++ [m]) = 0) (h0 : 0 ≤ m.what) (h1 : m.what ≤ 2) (hne : allT ts ms) : (openR ts (ms ++ [m])).1 = if moreP ts ms m = true then 0 else 9 := by
  rw [open_eq]; unfold rOpen
  rw [if_neg (by simp [hc2])]
  by_cases hp : moreP ts ms m = true
  · rw [if_pos (rTrue_iff.2 (more_ne hck h0 h1 hne hp)), if_pos hp]
  · rw [if_neg, if_neg hp]
    intro h
    exact rTrue_iff.1 h _ h0 h1 (more_nil hck h0 h1 (by simpa using hp))
theorem more_sp (hck : check ts ms = 0) (h0 : 0 ≤ m.what) (h1 : m.what ≤ 2) (hne : allT ts ms) (hs : moreS ts ms m = true) : moreP ts ms m = true := by
  obtain ⟨t, ht⟩ := List.exists_mem_of_ne_nil _ (hne _ h0 h1)
  exact (moreP_iff hck h0 h1).2 ⟨t, ht, (moreS_iff hck h0 h1).1 hs t ht⟩
/-- A hull of fewer numbers is no wider. -/
theorem IsHull.sub {s s' : Span} {l l' : List Int} (h : IsHull s l) (h' : IsHull s' l') (e : ∀ n ∈ l', n ∈ l) : s.low ≤ s'.low ∧ s'.high ≤ s.high :=
  ⟨(h.all _ (e _ h'.low)).1, (h.all _ (e _ h'.high)).2⟩
theorem more_at (hck : check ts ms = 0) (hc2 : check ts (ms ++ [m]) = 0) (h0 : 0 ≤ m.what) (h1 : m.what ≤ 2) (hne : allT ts ms) (hp : moreP ts ms m = true) {w h : Int} (w0 : 0 ≤ w) (w1 : w ≤ 2) :
    ((hullW ts ms h w).low ≤ (hullW ts (ms ++ [m]) h w).low ∧ (hullW ts (ms ++ [m]) h w).high ≤ (hullW ts ms h w).high) ∧ (moreS ts ms m = true → hullW ts (ms ++ [m]) h w = hullW ts ms h w) := by
  have a := hullW_is (h := h) hck w0 w1 (hne w w0 w1)
  have b := hullW_is (h := h) hc2 w0 w1 (more_ne hck h0 h1 hne hp w w0 w1)
  refine ⟨a.sub b fun n hn => ?_, fun hs => b.eq a fun n => ?_⟩
  · obtain ⟨t, ht, rfl⟩ := List.mem_map.1 hn
    exact List.mem_map.2 ⟨t, (mem_more.1 ht).1, rfl⟩
  · constructor
    · intro hn
      obtain ⟨t, ht, rfl⟩ := List.mem_map.1 hn
      exact List.mem_map.2 ⟨t, (mem_more.1 ht).1, rfl⟩
    · intro hn
      obtain ⟨t, ht, rfl⟩ := List.mem_map.1 hn
      exact List.mem_map.2 ⟨t, mem_more.2 ⟨ht, fun e => (moreS_iff hck h0 h1).1 hs t (by rw [e]; exact ht)⟩, rfl⟩
theorem more_rate (hck : check ts ms = 0) (hc2 : check ts (ms ++ [m]) = 0) (h0 : 0 ≤ m.what) (h1 : m.what ≤ 2) (hne : allT ts ms) (hp : moreP ts ms m = true) {w : Int} (w0 : 0 ≤ w) (w1 : w ≤ 2) :
    ((rateW ts ms w).low ≤ (rateW ts (ms ++ [m]) w).low ∧ (rateW ts (ms ++ [m]) w).high ≤ (rateW ts ms w).high) ∧ (moreS ts ms m = true → rateW ts (ms ++ [m]) w = rateW ts ms w) := by
  have a := rate_is hck w0 w1 (hne w w0 w1)
  have b := rate_is hc2 w0 w1 (more_ne hck h0 h1 hne hp w w0 w1)
  refine ⟨a.sub b fun n hn => ?_, fun hs => b.eq a fun n => ?_⟩
  · obtain ⟨t, ht, rfl⟩ := List.mem_map.1 hn
    exact List.mem_map.2 ⟨t, (mem_more.1 ht).1, rfl⟩
  · constructor
    · intro hn
      obtain ⟨t, ht, rfl⟩ := List.mem_map.1 hn
      exact List.mem_map.2 ⟨t, (mem_more.1 ht).1, rfl⟩
    · intro hn
      obtain ⟨t, ht, rfl⟩ := List.mem_map.1 hn
      exact List.mem_map.2 ⟨t, mem_more.2 ⟨ht, fun e => (moreS_iff hck h0 h1).1 hs t (by rw [e]; exact ht)⟩, rfl⟩
theorem more_below (hck : check ts ms = 0) (hc2 : check ts (ms ++ [m]) = 0) (h0 : 0 ≤ m.what) (h1 : m.what ≤ 2) (hne : allT ts ms) (hp : moreP ts ms m = true) {w : Int} (w0 : 0 ≤ w) (w1 : w ≤ 2) (lim : Int) :
    belowS ts (ms ++ [m]) w lim ≤ belowS ts ms w lim ∧ belowP ts ms w lim ≤ belowP ts (ms ++ [m]) w lim := by
  have hn2 := more_ne hck h0 h1 hne hp
  obtain ⟨a0, a1, a2⟩ := below_range hck w0 w1 (hne w w0 w1) lim
  obtain ⟨b0, b1, b2⟩ := below_range hc2 w0 w1 (hn2 w w0 w1) lim
  constructor
  · by_cases e : belowS ts ms w lim ≤ 48
    · have q := (below_iff hck w0 w1 (hne w w0 w1) (lim := lim) (show 0 ≤ belowS ts ms w lim by omega) e).1.1 (Int.le_refl _)
      have g := (more_at hck hc2 h0 h1 hne hp (h := belowS ts ms w lim) w0 w1).1.2
      exact (below_iff hc2 w0 w1 (hn2 w w0 w1) (show 0 ≤ belowS ts ms w lim by omega) e).1.2 (by omega)
    · omega
  · by_cases e : belowP ts (ms ++ [m]) w lim ≤ 48
    · have q := (below_iff hc2 w0 w1 (hn2 w w0 w1) (lim := lim) b0 e).2.1 (Int.le_refl _)
      have g := (more_at hck hc2 h0 h1 hne hp (h := belowP ts (ms ++ [m]) w lim) w0 w1).1.1
      exact (below_iff hck w0 w1 (hne w w0 w1) b0 e).2.2 (by omega)
    · omega
end
end Go.Proofs.Ytnekemldcjegaaa.Aw

/- A copy of a cloth, whose measurings are the caller's own. -/
namespace Go.Proofs.Ytnekemldcjegaaa.Aw
open Go Go.RowKit Go.Proofs
set_option maxRecDepth 100000
set_option linter.unusedSimpArgs false
set_option linter.unusedVariables false
theorem con_own1 (ts : List Track) (ms : List Meas) (h1 : ts.length ≤ 1000000) (h2 : ms.length ≤ 1000000) (h3 : 1 ≤ ms.length) : KC Try.prog 47 [kCloth ts ms] (.agg [slTrack false ts, .osl 0]) [⟨49, 4, [.ls Meas meas0 ms eMeas], true, true⟩] := by
  (refine con_k [2] [100010] seat Try.func47 rfl ent_47 (by kernel_rfl) rfl rfl (by simp) ?_; intro base I hI; conv => cbv)
  refine K_conj hI (by rw [hI]; show plenN _ * 32 ≤ _ ∧ plenN _ ≤ _; simp only [plenN]; omega) ?_
  refine K_conj hI (by rw [hI]; show (1 : Int) ≤ plenN _; simp only [plenN]; omega) ?_
  refine K_conj hI (by rw [hI]; show plenN _ * 32 ≤ _ ∧ plenN _ ≤ _; simp only [plenN]; omega) ?_
  rw [hI]; refine ⟨?_, rfl⟩
  rfl
theorem con_own0 (ts : List Track) (h1 : ts.length ≤ 1000000) : KC Try.prog 47 [kCloth ts []] (.agg [slTrack false ts, .slr true 4 []]) [] := by
  (refine con_k [] [200010] seat Try.func47 rfl ent_47 (by kernel_rfl) rfl rfl (by simp) ?_; intro base I hI; conv => cbv)
  refine K_conj hI (by rw [hI]; show plenN _ * 32 ≤ _ ∧ plenN _ ≤ _; simp only [plenN]; omega) ?_
  refine K_conj hI (by rw [hI]; show (plenN _ : Int) = 0; rfl) ?_
  rw [hI]; refine ⟨?_, rfl⟩
  rfl
noncomputable def m_law01_own1 (N : Nat) (c : api_Cloth) : Option api_Cloth := onlyIf (c.Tracks.length ≤ 1000000 ∧ c.Measures.length ≤ 1000000 ∧ 1 ≤ c.Measures.length) c
theorem w_law01_own1 (N : Nat) (c : api_Cloth) (o : api_Cloth) (e : m_law01_own1 N c = some o) : KC Try.prog 47 [.agg [slTrack false c.Tracks, slMeas false c.Measures]] (.agg [slTrack false o.Tracks, .osl 0]) [⟨49, 4, [.ls Meas meas0 o.Measures eMeas], true, true⟩] := by
  obtain ⟨hp, rfl⟩ := onlyIf_of e
  exact con_own1 o.Tracks o.Measures hp.1 hp.2.1 hp.2.2
noncomputable def m_law01_own0 (N : Nat) (c : api_Cloth) : Option api_Cloth := onlyIf (c.Tracks.length ≤ 1000000 ∧ c.Measures = []) c
theorem w_law01_own0 (N : Nat) (c : api_Cloth) (o : api_Cloth) (e : m_law01_own0 N c = some o) : KC Try.prog 47 [.agg [slTrack false c.Tracks, slMeas false c.Measures]] (.agg [slTrack false o.Tracks, .slr true 4 []]) [] := by
  obtain ⟨hp, rfl⟩ := onlyIf_of e
  rw [hp.2]
  exact con_own0 o.Tracks hp.1
end Go.Proofs.Ytnekemldcjegaaa.Aw

/- Plain models and walks of a law, printed by wip/gen/ch1more.py. -/
namespace Go.Proofs.Ytnekemldcjegaaa.Aw
open Go Go.RowKit Go.Proofs
set_option maxRecDepth 100000
set_option maxHeartbeats 4000000
set_option linter.unusedSimpArgs false
set_option linter.unusedVariables false
noncomputable section
def m_law01_ClothMore1_L2 (N : Nat) (r_197 : (List Span) × Int) (r_195 : (List Span) × Int) (r_201 : (List Span) × Int) (r_199 : (List Span) × Int) (r_192 : Bool × Bool × Int) : Int → Option ((Int) ⊕ ((Unit) ⊕ (Unit)))
  | v_219 =>
    if icmpR .lss v_219 3 then
      (show Option (Bool) from
        (getO span0 r_197.1 v_219).bind fun x_234 =>
        (getO span0 r_195.1 v_219).bind fun x_235 =>
        if icmpR .lss x_234.low x_235.low then
          some true
        else
          (getO span0 r_197.1 v_219).bind fun x_236 =>
          (getO span0 r_195.1 v_219).bind fun x_237 =>
          if icmpR .gtr x_236.high x_237.high then
            some true
          else
            (getO span0 r_201.1 v_219).bind fun x_238 =>
            (getO span0 r_199.1 v_219).bind fun x_239 =>
            if icmpR .lss x_238.low x_239.low then
              some true
            else
              (getO span0 r_201.1 v_219).bind fun x_240 =>
              (getO span0 r_199.1 v_219).bind fun x_241 =>
              if icmpR .gtr x_240.high x_241.high then
                some true
              else
                if r_192.1 then
                  (getO span0 r_197.1 v_219).bind fun x_242 =>
                  (getO span0 r_195.1 v_219).bind fun x_243 =>
                  if !(eqI [(.i64, x_242.low), (.i64, x_242.high)] [(.i64, x_243.low), (.i64, x_243.high)]) then
                    some true
                  else
                    (getO span0 r_201.1 v_219).bind fun x_244 =>
                    (getO span0 r_199.1 v_219).bind fun x_245 =>
                    some (!(eqI [(.i64, x_244.low), (.i64, x_244.high)] [(.i64, x_245.low), (.i64, x_245.high)]))
                else
                  some false).bind fun q => match q with
      | v_233 =>
        if v_233 then
          some (.inr (.inl ()))
        else
          some (.inl (iopR .add .i64 v_219 1))
    else
      some (.inr (.inr ()))
def m_law01_ClothMore1_L1 (N : Nat) (r_5 : Meas) (v_7 : Int) (r_4 : api_Cloth) (v_6 : Int) (p_3 : A3_u8) : Int → Option ((Int) ⊕ ((Unit) ⊕ (Unit)))
  | v_129 =>
    if icmpR .lss v_129 2 then
      (show Option (Int) from
        if 0 ≤ v_129 ∧ v_129 < (2 : Int) then
          if icmpR .eql v_129 0 then
            some r_5.reading
          else
            some v_7
        else none).bind fun q => match q with
      | v_190 =>
        (m_law01_own N r_4).bind fun r_191 =>
        (m_cloth_Fits N r_191 (Meas.mk r_5.what r_5.hour v_190 r_5.off)).bind fun r_192 =>
        (m_law01_own1 N r_4).bind fun r_193 =>
        if fitsN (r_193.Measures.length + 1) 32 then
          (m_law01_own N r_4).bind fun r_194 =>
          (m_cloth_At N r_194 v_6).bind fun r_195 =>
          (m_law01_own N (api_Cloth.mk r_193.Tracks (r_193.Measures ++ [(Meas.mk r_5.what r_5.hour v_190 r_5.off)]))).bind fun r_196 =>
          (m_cloth_At N r_196 v_6).bind fun r_197 =>
          (m_law01_own N r_4).bind fun r_198 =>
          (m_cloth_Rates N r_198).bind fun r_199 =>
          (m_law01_own N (api_Cloth.mk r_193.Tracks (r_193.Measures ++ [(Meas.mk r_5.what r_5.hour v_190 r_5.off)]))).bind fun r_200 =>
          (m_cloth_Rates N r_200).bind fun r_201 =>
          letO ((r_193.Measures ++ [(Meas.mk r_5.what r_5.hour v_190 r_5.off)]) : (List Meas)) fun l_203 =>
          (show Option (Bool) from
            if icmpR .neq r_192.2.2 0 then
              some true
            else
              if icmpR .neq r_195.2 0 then
                some true
              else
                if icmpR .neq r_199.2 0 then
                  some true
                else
                  if icmpR .neq ((r_195.1.length : Nat) : Int) 3 then
                    some true
                  else
                    if icmpR .neq ((r_199.1.length : Nat) : Int) 3 then
                      some true
                    else
                      if r_192.1 then
                        if !r_192.2.1 then
                          some true
                        else
                          if icmpR .eql v_129 0 then
                            if !r_192.2.1 then
                              some true
                            else
                              if !((icmpR .eql r_197.2 0) == r_192.2.1) then
                                some true
                              else
                                some (icmpR .neq r_201.2 r_197.2)
                          else
                            if !((icmpR .eql r_197.2 0) == r_192.2.1) then
                              some true
                            else
                              some (icmpR .neq r_201.2 r_197.2)
                      else
                        if icmpR .eql v_129 0 then
                          if !r_192.2.1 then
                            some true
                          else
                            if !((icmpR .eql r_197.2 0) == r_192.2.1) then
                              some true
                            else
                              some (icmpR .neq r_201.2 r_197.2)
                        else
                          if !((icmpR .eql r_197.2 0) == r_192.2.1) then
                            some true
                          else
                            some (icmpR .neq r_201.2 r_197.2)).bind fun q => match q with
          | v_202 =>
            if v_202 then
              some (.inr (.inl ()))
            else
              if !r_192.2.1 then
                (show Option (Bool) from
                  if icmpR .neq r_197.2 9 then
                    some true
                  else
                    some (icmpR .neq (iopR .add .i64 ((r_197.1.length : Nat) : Int) ((r_201.1.length : Nat) : Int)) 0)).bind fun q => match q with
                | v_204 =>
                  if v_204 then
                    some (.inr (.inl ()))
                  else
                    some (.inl (iopR .add .i64 v_129 1))
              else
                (show Option (Bool) from
                  if icmpR .neq ((r_197.1.length : Nat) : Int) 3 then
                    some true
                  else
                    some (icmpR .neq ((r_201.1.length : Nat) : Int) 3)).bind fun q => match q with
                | v_205 =>
                  if v_205 then
                    some (.inr (.inl ()))
                  else
                    (loopO (m_law01_ClothMore1_L2 N r_197 r_195 r_201 r_199 r_192) N 0).bind fun q => match q with
                    | (.inl ()) =>
                      some (.inr (.inl ()))
                    | (.inr ()) =>
                      (m_law01_own N r_4).bind fun r_246 =>
                      (m_cloth_Below N r_246 r_5.what (iopR .mul .i64 7 (IntKind.wrap .i64 p_3.a2))).bind fun r_247 =>
                      (m_cloth_Below N (api_Cloth.mk r_193.Tracks l_203) r_5.what (iopR .mul .i64 7 (IntKind.wrap .i64 p_3.a2))).bind fun r_248 =>
                      (show Option (Bool) from
                        if icmpR .neq r_247.2.2 0 then
                          some true
                        else
                          if icmpR .neq r_248.2.2 0 then
                            some true
                          else
                            if icmpR .gtr r_248.1 r_247.1 then
                              some true
                            else
                              some (icmpR .lss r_248.2.1 r_247.2.1)).bind fun q => match q with
                      | v_249 =>
                        if v_249 then
                          some (.inr (.inl ()))
                        else
                          some (.inl (iopR .add .i64 v_129 1))
        else none
    else
      some (.inr (.inr ()))
def m_law01_ClothMore1 (N : Nat) (p_1 : law01_Bolt) (p_2 : B4) (p_3 : A3_u8) : Option (Bool) :=
  (m_law01_Bolt_cloth N p_1).bind fun r_4 =>
  (m_law01_Bolt_measure N (law01_Bolt.mk p_1.Tracks [p_2]) 0).bind fun r_5 =>
  letO (iopR .rem .i64 (IntKind.wrap .i64 p_3.a0) 49 : Int) fun v_6 =>
  letO (min 2000 (iopR .add .i64 r_5.reading (IntKind.wrap .i64 p_3.a1)) : Int) fun v_7 =>
  (loopO (m_law01_ClothMore1_L1 N r_5 v_7 r_4 v_6 p_3) N 0).bind fun q => match q with
  | (.inl ()) =>
    some false
  | (.inr ()) =>
    (m_law01_known N).bind fun r_250 =>
    some r_250
theorem w_law01_ClothMore1 (N : Nat) (p_1 : law01_Bolt) (p_2 : B4) (p_3 : A3_u8) (o : Bool) (h : m_law01_ClothMore1 N p_1 p_2 p_3 = some o) :
    KC Try.prog 10 [.agg [.int .u8 p_1.Tracks.a0.a, .int .u8 p_1.Tracks.a0.b, .int .u8 p_1.Tracks.a0.c, .int .u8 p_1.Tracks.a0.d, .int .u8 p_1.Tracks.a1.a, .int .u8 p_1.Tracks.a1.b, .int .u8 p_1.Tracks.a1.c, .int .u8 p_1.Tracks.a1.d, .int .u8 p_1.Tracks.a2.a, .int .u8 p_1.Tracks.a2.b, .int .u8 p_1.Tracks.a2.c, .int .u8 p_1.Tracks.a2.d, slB4 false p_1.Measures], .agg [.int .u8 p_2.a, .int .u8 p_2.b, .int .u8 p_2.c, .int .u8 p_2.d], .agg [.int .u8 p_3.a0, .int .u8 p_3.a1, .int .u8 p_3.a2]] (.bool o) [] := by
  unfold m_law01_ClothMore1 at h
  refine con_l [] [87, 1000008, 1000016, 1000019, 1000021, 1000026, 1000030] seat Try.func10 rfl ent_10 (by kernel_rfl) rfl rfl (by simp) ?_; intro base I hI; (conv => cbv)
  refine L_call hI h (fun v hv => w_law01_Bolt_cloth N p_1 v hv) (by subst_vars; exact ⟨(leD_refl _), rfl⟩) ?_; clear h; intro r_4 h; (conv => cbv)
  refine L_call hI h (fun v hv => w_law01_Bolt_measure N (law01_Bolt.mk p_1.Tracks [p_2]) 0 v hv) (by subst_vars; exact ⟨⟨(leD_refl _), (leD_refl _), (leD_refl _), (leD_refl _), (leD_refl _), (leD_refl _), (leD_refl _), (leD_refl _), (leD_refl _), (leD_refl _), (leD_refl _), (leD_refl _), ⟨.inl rfl, rfl, leDLL_refl _⟩, rfl⟩, (leD_refl _), rfl⟩) ?_; clear h; intro r_5 h; (conv => cbv)
  replace h := letO_of h; obtain ⟨v_6, hev_6, h⟩ := h
  replace h := letO_of h; obtain ⟨v_7, hev_7, h⟩ := h
  refine L_loop hI seat [87, 1000008, 1000016, 1000019, 1000021, 1000026, 1000030] (by kernel_rfl) h (fun q => match q with | v_129 => ⟨291, [(5, .loc 2 0), (7, .loc 3 0), (8, .loc 4 0), (9, .int .i64 v_6), (10, .loc 5 0), (11, .int .i64 v_129)], [(5, ⟨49, [.int .i64 r_5.what, .int .i64 r_5.hour, .int .i64 v_7, .int .i64 r_5.off], true⟩), (4, ⟨49, [.int .i64 r_5.what, .int .i64 r_5.hour, .int .i64 r_5.reading, .int .i64 r_5.off], true⟩), (3, ⟨25, [slTrack false r_4.Tracks, slMeas false r_4.Measures], true⟩), (2, ⟨89, [.int .u8 p_3.a0, .int .u8 p_3.a1, .int .u8 p_3.a2], true⟩)], [], 0⟩) (fun q => match q with | (.inl ()) => .ret | (.inr ()) => .exit 0) (fun q => match q with | (.inl ()) => ⟨291, [(6, .ff)], [], [], 0⟩ | (.inr ()) => ⟨291, [], [], [], 0⟩) (by subst_vars; exact weak_l rfl rfl ⟨lR, lR, lR, lE, lR, lE, trivial⟩ ⟨lB ⟨lE, lE, lE, lE, rfl⟩, lB ⟨lE, lE, lE, lE, rfl⟩, lB ⟨LV_sl, LV_sl, rfl⟩, lB ⟨lE, lE, lE, rfl⟩, trivial⟩ trivial) (by intro q; rcases q with (_ | _) <;> (intro e; exact Exit.noConfusion e)) ?_ ?_; all_goals clear h
  · intro v_129 x h R hR hX
    rw [m_law01_ClothMore1_L1] at h
    (conv => cbv)
    refine L_tst hI h (by subst_vars; rfl) ?_ ?_ <;> clear h <;> intro h
    · refine L_cut hI seat [87, 1000016, 1000019, 1000021, 1000026, 1000030] (by kernel_rfl) h (fun q => match q with | v_190 => .normal) (fun q => match q with | v_190 => ⟨291, [(5, .loc 2 0), (7, .loc 3 0), (8, .loc 4 0), (9, .int .i64 v_6), (10, .loc 5 0), (11, .int .i64 v_129), (12, .loc 6 0)], [(6, ⟨49, [.int .i64 r_5.what, .int .i64 r_5.hour, .int .i64 v_190, .int .i64 r_5.off], true⟩), (5, ⟨49, [.int .i64 r_5.what, .int .i64 r_5.hour, .int .i64 v_7, .int .i64 r_5.off], true⟩), (4, ⟨49, [.int .i64 r_5.what, .int .i64 r_5.hour, .int .i64 r_5.reading, .int .i64 r_5.off], true⟩), (3, ⟨25, [slTrack false r_4.Tracks, slMeas false r_4.Measures], true⟩), (2, ⟨89, [.int .u8 p_3.a0, .int .u8 p_3.a1, .int .u8 p_3.a2], true⟩)], [], 0⟩) ?_ ?_; all_goals clear h
      · intro x h R hR
        (conv => cbv)
        refine L_conj hI h (fun g => by subst_vars; exact g) ?_; clear h; intro hc h
        refine L_tst hI h (by subst_vars; rfl) ?_ ?_ <;> clear h <;> intro h
        · exact hR _ _ (Option.some.inj h).symm (by subst_vars; exact weak_l rfl rfl ⟨lR, lR, lR, lE, lR, lE, lR, trivial⟩ ⟨lB ⟨lE, lE, lE, lE, rfl⟩, lB ⟨lE, lE, lE, lE, rfl⟩, lB ⟨lE, lE, lE, lE, rfl⟩, lB ⟨LV_sl, LV_sl, rfl⟩, lB ⟨lE, lE, lE, rfl⟩, trivial⟩ trivial)
        · exact hR _ _ (Option.some.inj h).symm (by subst_vars; exact weak_l rfl rfl ⟨lR, lR, lR, lE, lR, lE, lR, trivial⟩ ⟨lB ⟨lE, lE, lE, lE, rfl⟩, lB ⟨lE, lE, lE, lE, rfl⟩, lB ⟨lE, lE, lE, lE, rfl⟩, lB ⟨LV_sl, LV_sl, rfl⟩, lB ⟨lE, lE, lE, rfl⟩, trivial⟩ trivial)
      · intro v_190 h
        (conv => cbv)
        refine L_call hI h (fun v hv => w_law01_own N r_4 v hv) (by subst_vars; exact ⟨(leD_refl _), rfl⟩) ?_; clear h; intro r_191 h; (conv => cbv)
        refine L_call hI h (fun v hv => w_cloth_Fits N r_191 (Meas.mk r_5.what r_5.hour v_190 r_5.off) v hv) (by subst_vars; exact ⟨(leD_refl _), ⟨(leD_refl _), (leD_refl _), (leD_refl _), (leD_refl _), rfl⟩, rfl⟩) ?_; clear h; intro r_192 h; (conv => cbv)
        refine L_call hI h (fun v hv => w_law01_own1 N r_4 v hv) (by subst_vars; exact ⟨(leD_refl _), rfl⟩) ?_; clear h; intro r_193 h; (conv => cbv)
        refine L_conj hI h (fun g => by subst_vars; exact g) ?_; clear h; intro hc h
        refine L_call hI h (fun v hv => w_law01_own N r_4 v hv) (by subst_vars; exact ⟨(leD_refl _), rfl⟩) ?_; clear h; intro r_194 h; (conv => cbv)
        refine L_call hI h (fun v hv => w_cloth_At N r_194 v_6 v hv) (by subst_vars; exact ⟨(leD_refl _), (leD_refl _), rfl⟩) ?_; clear h; intro r_195 h; (conv => cbv)
        refine L_call hI h (fun v hv => w_law01_own N (api_Cloth.mk r_193.Tracks (r_193.Measures ++ [(Meas.mk r_5.what r_5.hour v_190 r_5.off)])) v hv) (by subst_vars; exact ⟨⟨⟨.inl rfl, rfl, leDLL_refl _⟩, ⟨.inl rfl, rfl, leDLL_eq (by first | rfl | (simp only [rowsD, KP.rows, KV.toDLL, List.map_append, List.map_cons, List.map_nil, List.append_nil, List.nil_append, List.append_assoc, List.singleton_append, List.cons_append, List.map_replicate]; rfl) | (simp only [primK, rowsD, KP.rows, KV.toDLL, List.map_append, List.map_cons, List.map_nil, List.append_nil, List.map_replicate]; rfl) | (simp only [List.map_append]; obtain ⟨_, l⟩ := r_193; cases l <;> rfl))⟩, rfl⟩, rfl⟩) ?_; clear h; intro r_196 h; (conv => cbv)
        refine L_call hI h (fun v hv => w_cloth_At N r_196 v_6 v hv) (by subst_vars; exact ⟨(leD_refl _), (leD_refl _), rfl⟩) ?_; clear h; intro r_197 h; (conv => cbv)
        refine L_call hI h (fun v hv => w_law01_own N r_4 v hv) (by subst_vars; exact ⟨(leD_refl _), rfl⟩) ?_; clear h; intro r_198 h; (conv => cbv)
        refine L_call hI h (fun v hv => w_cloth_Rates N r_198 v hv) (by subst_vars; exact ⟨(leD_refl _), rfl⟩) ?_; clear h; intro r_199 h; (conv => cbv)
        refine L_call hI h (fun v hv => w_law01_own N (api_Cloth.mk r_193.Tracks (r_193.Measures ++ [(Meas.mk r_5.what r_5.hour v_190 r_5.off)])) v hv) (by subst_vars; exact ⟨⟨⟨.inl rfl, rfl, leDLL_refl _⟩, ⟨.inl rfl, rfl, leDLL_eq (by first | rfl | (simp only [rowsD, KP.rows, KV.toDLL, List.map_append, List.map_cons, List.map_nil, List.append_nil, List.nil_append, List.append_assoc, List.singleton_append, List.cons_append, List.map_replicate]; rfl) | (simp only [primK, rowsD, KP.rows, KV.toDLL, List.map_append, List.map_cons, List.map_nil, List.append_nil, List.map_replicate]; rfl) | (simp only [List.map_append]; obtain ⟨_, l⟩ := r_193; cases l <;> rfl))⟩, rfl⟩, rfl⟩) ?_; clear h; intro r_200 h; (conv => cbv)
        refine L_call hI h (fun v hv => w_cloth_Rates N r_200 v hv) (by subst_vars; exact ⟨(leD_refl _), rfl⟩) ?_; clear h; intro r_201 h; (conv => cbv)
        replace h := letO_of h; obtain ⟨l_203, hel_203, h⟩ := h
        refine L_cut hI seat [87, 1000008, 1000019, 1000021, 1000026, 1000030] (by kernel_rfl) h (fun q => match q with | v_202 => .normal) (fun q => match q with | v_202 => ⟨291, [(5, .loc 2 0), (7, .loc 3 0), (8, .loc 4 0), (9, .int .i64 v_6), (10, .loc 5 0), (11, .int .i64 v_129), (12, .loc 6 0), (13, .bool r_192.1), (14, .bool r_192.2.1), (16, .loc 8 0), (17, slSpan false r_195.1), (19, slSpan false r_197.1), (20, .int .i64 r_197.2), (21, slSpan false r_199.1), (23, slSpan false r_201.1), (149, .bool v_202)], [(8, ⟨25, [slTrack false r_193.Tracks, .osl 7], true⟩), (6, ⟨49, [.int .i64 r_5.what, .int .i64 r_5.hour, .int .i64 v_190, .int .i64 r_5.off], true⟩), (5, ⟨49, [.int .i64 r_5.what, .int .i64 r_5.hour, .int .i64 v_7, .int .i64 r_5.off], true⟩), (4, ⟨49, [.int .i64 r_5.what, .int .i64 r_5.hour, .int .i64 r_5.reading, .int .i64 r_5.off], true⟩), (3, ⟨25, [slTrack false r_4.Tracks, slMeas false r_4.Measures], true⟩), (2, ⟨89, [.int .u8 p_3.a0, .int .u8 p_3.a1, .int .u8 p_3.a2], true⟩)], [(7, ⟨49, 4, [.ls Meas meas0 l_203 eMeas], true, false⟩)], 0⟩) ?_ ?_; all_goals clear h
        · intro x h R hR
          (conv => cbv)
          refine L_tst hI h (by subst_vars; rfl) ?_ ?_ <;> clear h <;> intro h
          · exact hR _ _ (Option.some.inj h).symm (by subst_vars; exact weak_l rfl rfl ⟨lR, lR, lR, lE, lR, lE, lR, lE, lE, lR, LV_sl, LV_sl, lE, LV_sl, LV_sl, lE, trivial⟩ ⟨lB ⟨LV_sl, lR, rfl⟩, lB ⟨lE, lE, lE, lE, rfl⟩, lB ⟨lE, lE, lE, lE, rfl⟩, lB ⟨lE, lE, lE, lE, rfl⟩, lB ⟨LV_sl, LV_sl, rfl⟩, lB ⟨lE, lE, lE, rfl⟩, trivial⟩ ⟨lO, trivial⟩)
          · refine L_tst hI h (by subst_vars; rfl) ?_ ?_ <;> clear h <;> intro h
            · exact hR _ _ (Option.some.inj h).symm (by subst_vars; exact weak_l rfl rfl ⟨lR, lR, lR, lE, lR, lE, lR, lE, lE, lR, LV_sl, LV_sl, lE, LV_sl, LV_sl, lE, trivial⟩ ⟨lB ⟨LV_sl, lR, rfl⟩, lB ⟨lE, lE, lE, lE, rfl⟩, lB ⟨lE, lE, lE, lE, rfl⟩, lB ⟨lE, lE, lE, lE, rfl⟩, lB ⟨LV_sl, LV_sl, rfl⟩, lB ⟨lE, lE, lE, rfl⟩, trivial⟩ ⟨lO, trivial⟩)
            · refine L_tst hI h (by subst_vars; rfl) ?_ ?_ <;> clear h <;> intro h
              · exact hR _ _ (Option.some.inj h).symm (by subst_vars; exact weak_l rfl rfl ⟨lR, lR, lR, lE, lR, lE, lR, lE, lE, lR, LV_sl, LV_sl, lE, LV_sl, LV_sl, lE, trivial⟩ ⟨lB ⟨LV_sl, lR, rfl⟩, lB ⟨lE, lE, lE, lE, rfl⟩, lB ⟨lE, lE, lE, lE, rfl⟩, lB ⟨lE, lE, lE, lE, rfl⟩, lB ⟨LV_sl, LV_sl, rfl⟩, lB ⟨lE, lE, lE, rfl⟩, trivial⟩ ⟨lO, trivial⟩)
              · refine L_tst hI h (by subst_vars; rfl) ?_ ?_ <;> clear h <;> intro h
                · exact hR _ _ (Option.some.inj h).symm (by subst_vars; exact weak_l rfl rfl ⟨lR, lR, lR, lE, lR, lE, lR, lE, lE, lR, LV_sl, LV_sl, lE, LV_sl, LV_sl, lE, trivial⟩ ⟨lB ⟨LV_sl, lR, rfl⟩, lB ⟨lE, lE, lE, lE, rfl⟩, lB ⟨lE, lE, lE, lE, rfl⟩, lB ⟨lE, lE, lE, lE, rfl⟩, lB ⟨LV_sl, LV_sl, rfl⟩, lB ⟨lE, lE, lE, rfl⟩, trivial⟩ ⟨lO, trivial⟩)
                · refine L_tst hI h (by subst_vars; rfl) ?_ ?_ <;> clear h <;> intro h
                  · exact hR _ _ (Option.some.inj h).symm (by subst_vars; exact weak_l rfl rfl ⟨lR, lR, lR, lE, lR, lE, lR, lE, lE, lR, LV_sl, LV_sl, lE, LV_sl, LV_sl, lE, trivial⟩ ⟨lB ⟨LV_sl, lR, rfl⟩, lB ⟨lE, lE, lE, lE, rfl⟩, lB ⟨lE, lE, lE, lE, rfl⟩, lB ⟨lE, lE, lE, lE, rfl⟩, lB ⟨LV_sl, LV_sl, rfl⟩, lB ⟨lE, lE, lE, rfl⟩, trivial⟩ ⟨lO, trivial⟩)
                  · refine L_tst hI h (by subst_vars; rfl) ?_ ?_ <;> clear h <;> intro h
                    · refine L_tst hI h (by subst_vars; rfl) ?_ ?_ <;> clear h <;> intro h
                      · exact hR _ _ (Option.some.inj h).symm (by subst_vars; exact weak_l rfl rfl ⟨lR, lR, lR, lE, lR, lE, lR, lE, lE, lR, LV_sl, LV_sl, lE, LV_sl, LV_sl, lE, trivial⟩ ⟨lB ⟨LV_sl, lR, rfl⟩, lB ⟨lE, lE, lE, lE, rfl⟩, lB ⟨lE, lE, lE, lE, rfl⟩, lB ⟨lE, lE, lE, lE, rfl⟩, lB ⟨LV_sl, LV_sl, rfl⟩, lB ⟨lE, lE, lE, rfl⟩, trivial⟩ ⟨lO, trivial⟩)
                      · refine L_tst hI h (by subst_vars; rfl) ?_ ?_ <;> clear h <;> intro h
                        · refine L_tst hI h (by subst_vars; rfl) ?_ ?_ <;> clear h <;> intro h
                          · exact hR _ _ (Option.some.inj h).symm (by subst_vars; exact weak_l rfl rfl ⟨lR, lR, lR, lE, lR, lE, lR, lE, lE, lR, LV_sl, LV_sl, lE, LV_sl, LV_sl, lE, trivial⟩ ⟨lB ⟨LV_sl, lR, rfl⟩, lB ⟨lE, lE, lE, lE, rfl⟩, lB ⟨lE, lE, lE, lE, rfl⟩, lB ⟨lE, lE, lE, lE, rfl⟩, lB ⟨LV_sl, LV_sl, rfl⟩, lB ⟨lE, lE, lE, rfl⟩, trivial⟩ ⟨lO, trivial⟩)
                          · refine L_tst hI h (by subst_vars; rfl) ?_ ?_ <;> clear h <;> intro h
                            · exact hR _ _ (Option.some.inj h).symm (by subst_vars; exact weak_l rfl rfl ⟨lR, lR, lR, lE, lR, lE, lR, lE, lE, lR, LV_sl, LV_sl, lE, LV_sl, LV_sl, lE, trivial⟩ ⟨lB ⟨LV_sl, lR, rfl⟩, lB ⟨lE, lE, lE, lE, rfl⟩, lB ⟨lE, lE, lE, lE, rfl⟩, lB ⟨lE, lE, lE, lE, rfl⟩, lB ⟨LV_sl, LV_sl, rfl⟩, lB ⟨lE, lE, lE, rfl⟩, trivial⟩ ⟨lO, trivial⟩)
                            · exact hR _ _ (Option.some.inj h).symm (by subst_vars; exact weak_l rfl rfl ⟨lR, lR, lR, lE, lR, lE, lR, lE, lE, lR, LV_sl, LV_sl, lE, LV_sl, LV_sl, lE, trivial⟩ ⟨lB ⟨LV_sl, lR, rfl⟩, lB ⟨lE, lE, lE, lE, rfl⟩, lB ⟨lE, lE, lE, lE, rfl⟩, lB ⟨lE, lE, lE, lE, rfl⟩, lB ⟨LV_sl, LV_sl, rfl⟩, lB ⟨lE, lE, lE, rfl⟩, trivial⟩ ⟨lO, trivial⟩)
                        · refine L_tst hI h (by subst_vars; rfl) ?_ ?_ <;> clear h <;> intro h
                          · exact hR _ _ (Option.some.inj h).symm (by subst_vars; exact weak_l rfl rfl ⟨lR, lR, lR, lE, lR, lE, lR, lE, lE, lR, LV_sl, LV_sl, lE, LV_sl, LV_sl, lE, trivial⟩ ⟨lB ⟨LV_sl, lR, rfl⟩, lB ⟨lE, lE, lE, lE, rfl⟩, lB ⟨lE, lE, lE, lE, rfl⟩, lB ⟨lE, lE, lE, lE, rfl⟩, lB ⟨LV_sl, LV_sl, rfl⟩, lB ⟨lE, lE, lE, rfl⟩, trivial⟩ ⟨lO, trivial⟩)
                          · exact hR _ _ (Option.some.inj h).symm (by subst_vars; exact weak_l rfl rfl ⟨lR, lR, lR, lE, lR, lE, lR, lE, lE, lR, LV_sl, LV_sl, lE, LV_sl, LV_sl, lE, trivial⟩ ⟨lB ⟨LV_sl, lR, rfl⟩, lB ⟨lE, lE, lE, lE, rfl⟩, lB ⟨lE, lE, lE, lE, rfl⟩, lB ⟨lE, lE, lE, lE, rfl⟩, lB ⟨LV_sl, LV_sl, rfl⟩, lB ⟨lE, lE, lE, rfl⟩, trivial⟩ ⟨lO, trivial⟩)
                    · refine L_tst hI h (by subst_vars; rfl) ?_ ?_ <;> clear h <;> intro h
                      · refine L_tst hI h (by subst_vars; rfl) ?_ ?_ <;> clear h <;> intro h
                        · exact hR _ _ (Option.some.inj h).symm (by subst_vars; exact weak_l rfl rfl ⟨lR, lR, lR, lE, lR, lE, lR, lE, lE, lR, LV_sl, LV_sl, lE, LV_sl, LV_sl, lE, trivial⟩ ⟨lB ⟨LV_sl, lR, rfl⟩, lB ⟨lE, lE, lE, lE, rfl⟩, lB ⟨lE, lE, lE, lE, rfl⟩, lB ⟨lE, lE, lE, lE, rfl⟩, lB ⟨LV_sl, LV_sl, rfl⟩, lB ⟨lE, lE, lE, rfl⟩, trivial⟩ ⟨lO, trivial⟩)
                        · refine L_tst hI h (by subst_vars; rfl) ?_ ?_ <;> clear h <;> intro h
                          · exact hR _ _ (Option.some.inj h).symm (by subst_vars; exact weak_l rfl rfl ⟨lR, lR, lR, lE, lR, lE, lR, lE, lE, lR, LV_sl, LV_sl, lE, LV_sl, LV_sl, lE, trivial⟩ ⟨lB ⟨LV_sl, lR, rfl⟩, lB ⟨lE, lE, lE, lE, rfl⟩, lB ⟨lE, lE, lE, lE, rfl⟩, lB ⟨lE, lE, lE, lE, rfl⟩, lB ⟨LV_sl, LV_sl, rfl⟩, lB ⟨lE, lE, lE, rfl⟩, trivial⟩ ⟨lO, trivial⟩)
                          · exact hR _ _ (Option.some.inj h).symm (by subst_vars; exact weak_l rfl rfl ⟨lR, lR, lR, lE, lR, lE, lR, lE, lE, lR, LV_sl, LV_sl, lE, LV_sl, LV_sl, lE, trivial⟩ ⟨lB ⟨LV_sl, lR, rfl⟩, lB ⟨lE, lE, lE, lE, rfl⟩, lB ⟨lE, lE, lE, lE, rfl⟩, lB ⟨lE, lE, lE, lE, rfl⟩, lB ⟨LV_sl, LV_sl, rfl⟩, lB ⟨lE, lE, lE, rfl⟩, trivial⟩ ⟨lO, trivial⟩)
                      · refine L_tst hI h (by subst_vars; rfl) ?_ ?_ <;> clear h <;> intro h
                        · exact hR _ _ (Option.some.inj h).symm (by subst_vars; exact weak_l rfl rfl ⟨lR, lR, lR, lE, lR, lE, lR, lE, lE, lR, LV_sl, LV_sl, lE, LV_sl, LV_sl, lE, trivial⟩ ⟨lB ⟨LV_sl, lR, rfl⟩, lB ⟨lE, lE, lE, lE, rfl⟩, lB ⟨lE, lE, lE, lE, rfl⟩, lB ⟨lE, lE, lE, lE, rfl⟩, lB ⟨LV_sl, LV_sl, rfl⟩, lB ⟨lE, lE, lE, rfl⟩, trivial⟩ ⟨lO, trivial⟩)
                        · exact hR _ _ (Option.some.inj h).symm (by subst_vars; exact weak_l rfl rfl ⟨lR, lR, lR, lE, lR, lE, lR, lE, lE, lR, LV_sl, LV_sl, lE, LV_sl, LV_sl, lE, trivial⟩ ⟨lB ⟨LV_sl, lR, rfl⟩, lB ⟨lE, lE, lE, lE, rfl⟩, lB ⟨lE, lE, lE, lE, rfl⟩, lB ⟨lE, lE, lE, lE, rfl⟩, lB ⟨LV_sl, LV_sl, rfl⟩, lB ⟨lE, lE, lE, rfl⟩, trivial⟩ ⟨lO, trivial⟩)
        · intro v_202 h
          (conv => cbv)
          refine L_tst hI h (by subst_vars; rfl) ?_ ?_ <;> clear h <;> intro h
          · exact hX _ _ (Option.some.inj h).symm (by subst_vars; exact weak_l rfl rfl ⟨lE, trivial⟩ trivial trivial)
          · refine L_tst hI h (by subst_vars; rfl) ?_ ?_ <;> clear h <;> intro h
            · refine L_cut hI seat [87, 1000008, 1000016, 1000021, 1000026, 1000030] (by kernel_rfl) h (fun q => match q with | v_204 => .normal) (fun q => match q with | v_204 => ⟨291, [(5, .loc 2 0), (7, .loc 3 0), (8, .loc 4 0), (9, .int .i64 v_6), (10, .loc 5 0), (11, .int .i64 v_129), (161, .bool v_204)], [(5, ⟨49, [.int .i64 r_5.what, .int .i64 r_5.hour, .int .i64 v_7, .int .i64 r_5.off], true⟩), (4, ⟨49, [.int .i64 r_5.what, .int .i64 r_5.hour, .int .i64 r_5.reading, .int .i64 r_5.off], true⟩), (3, ⟨25, [slTrack false r_4.Tracks, slMeas false r_4.Measures], true⟩), (2, ⟨89, [.int .u8 p_3.a0, .int .u8 p_3.a1, .int .u8 p_3.a2], true⟩)], [], 0⟩) ?_ ?_; all_goals clear h
              · intro x h R hR
                (conv => cbv)
                refine L_tst hI h (by subst_vars; rfl) ?_ ?_ <;> clear h <;> intro h
                · exact hR _ _ (Option.some.inj h).symm (by subst_vars; exact weak_l rfl rfl ⟨lR, lR, lR, lE, lR, lE, lE, trivial⟩ ⟨lB ⟨lE, lE, lE, lE, rfl⟩, lB ⟨lE, lE, lE, lE, rfl⟩, lB ⟨LV_sl, LV_sl, rfl⟩, lB ⟨lE, lE, lE, rfl⟩, trivial⟩ trivial)
                · exact hR _ _ (Option.some.inj h).symm (by subst_vars; exact weak_l rfl rfl ⟨lR, lR, lR, lE, lR, lE, lE, trivial⟩ ⟨lB ⟨lE, lE, lE, lE, rfl⟩, lB ⟨lE, lE, lE, lE, rfl⟩, lB ⟨LV_sl, LV_sl, rfl⟩, lB ⟨lE, lE, lE, rfl⟩, trivial⟩ trivial)
              · intro v_204 h
                (conv => cbv)
                refine L_tst hI h (by subst_vars; rfl) ?_ ?_ <;> clear h <;> intro h
                · exact hX _ _ (Option.some.inj h).symm (by subst_vars; exact weak_l rfl rfl ⟨lE, trivial⟩ trivial trivial)
                · exact hR _ _ (Option.some.inj h).symm (by subst_vars; exact weak_l rfl rfl ⟨lR, lR, lR, lE, lR, lE, trivial⟩ ⟨lB ⟨lE, lE, lE, lE, rfl⟩, lB ⟨lE, lE, lE, lE, rfl⟩, lB ⟨LV_sl, LV_sl, rfl⟩, lB ⟨lE, lE, lE, rfl⟩, trivial⟩ trivial)
            · refine L_cut hI seat [87, 1000008, 1000016, 1000019, 1000026, 1000030] (by kernel_rfl) h (fun q => match q with | v_205 => .normal) (fun q => match q with | v_205 => ⟨291, [(5, .loc 2 0), (7, .loc 3 0), (8, .loc 4 0), (9, .int .i64 v_6), (10, .loc 5 0), (11, .int .i64 v_129), (12, .loc 6 0), (13, .bool r_192.1), (16, .loc 8 0), (17, slSpan false r_195.1), (19, slSpan false r_197.1), (21, slSpan false r_199.1), (23, slSpan false r_201.1), (169, .bool v_205)], [(8, ⟨25, [slTrack false r_193.Tracks, .osl 7], true⟩), (6, ⟨49, [.int .i64 r_5.what, .int .i64 r_5.hour, .int .i64 v_190, .int .i64 r_5.off], true⟩), (5, ⟨49, [.int .i64 r_5.what, .int .i64 r_5.hour, .int .i64 v_7, .int .i64 r_5.off], true⟩), (4, ⟨49, [.int .i64 r_5.what, .int .i64 r_5.hour, .int .i64 r_5.reading, .int .i64 r_5.off], true⟩), (3, ⟨25, [slTrack false r_4.Tracks, slMeas false r_4.Measures], true⟩), (2, ⟨89, [.int .u8 p_3.a0, .int .u8 p_3.a1, .int .u8 p_3.a2], true⟩)], [(7, ⟨49, 4, [.ls Meas meas0 l_203 eMeas], true, false⟩)], 0⟩) ?_ ?_; all_goals clear h
              · intro x h R hR
                (conv => cbv)
                refine L_tst hI h (by subst_vars; rfl) ?_ ?_ <;> clear h <;> intro h
                · exact hR _ _ (Option.some.inj h).symm (by subst_vars; exact weak_l rfl rfl ⟨lR, lR, lR, lE, lR, lE, lR, lE, lR, LV_sl, LV_sl, LV_sl, LV_sl, lE, trivial⟩ ⟨lB ⟨LV_sl, lR, rfl⟩, lB ⟨lE, lE, lE, lE, rfl⟩, lB ⟨lE, lE, lE, lE, rfl⟩, lB ⟨lE, lE, lE, lE, rfl⟩, lB ⟨LV_sl, LV_sl, rfl⟩, lB ⟨lE, lE, lE, rfl⟩, trivial⟩ ⟨lO, trivial⟩)
                · exact hR _ _ (Option.some.inj h).symm (by subst_vars; exact weak_l rfl rfl ⟨lR, lR, lR, lE, lR, lE, lR, lE, lR, LV_sl, LV_sl, LV_sl, LV_sl, lE, trivial⟩ ⟨lB ⟨LV_sl, lR, rfl⟩, lB ⟨lE, lE, lE, lE, rfl⟩, lB ⟨lE, lE, lE, lE, rfl⟩, lB ⟨lE, lE, lE, lE, rfl⟩, lB ⟨LV_sl, LV_sl, rfl⟩, lB ⟨lE, lE, lE, rfl⟩, trivial⟩ ⟨lO, trivial⟩)
              · intro v_205 h
                (conv => cbv)
                refine L_tst hI h (by subst_vars; rfl) ?_ ?_ <;> clear h <;> intro h
                · exact hX _ _ (Option.some.inj h).symm (by subst_vars; exact weak_l rfl rfl ⟨lE, trivial⟩ trivial trivial)
                · refine L_loop hI seat [87, 1000008, 1000016, 1000019, 1000021, 1000026, 1000030] (by kernel_rfl) h (fun q => match q with | v_219 => ⟨291, [(5, .loc 2 0), (7, .loc 3 0), (8, .loc 4 0), (9, .int .i64 v_6), (10, .loc 5 0), (11, .int .i64 v_129), (12, .loc 6 0), (13, .bool r_192.1), (16, .loc 8 0), (17, slSpan false r_195.1), (19, slSpan false r_197.1), (21, slSpan false r_199.1), (23, slSpan false r_201.1), (25, .int .i64 v_219)], [(8, ⟨25, [slTrack false r_193.Tracks, .osl 7], true⟩), (6, ⟨49, [.int .i64 r_5.what, .int .i64 r_5.hour, .int .i64 v_190, .int .i64 r_5.off], true⟩), (5, ⟨49, [.int .i64 r_5.what, .int .i64 r_5.hour, .int .i64 v_7, .int .i64 r_5.off], true⟩), (4, ⟨49, [.int .i64 r_5.what, .int .i64 r_5.hour, .int .i64 r_5.reading, .int .i64 r_5.off], true⟩), (3, ⟨25, [slTrack false r_4.Tracks, slMeas false r_4.Measures], true⟩), (2, ⟨89, [.int .u8 p_3.a0, .int .u8 p_3.a1, .int .u8 p_3.a2], true⟩)], [(7, ⟨49, 4, [.ls Meas meas0 l_203 eMeas], true, false⟩)], 0⟩) (fun q => match q with | (.inl ()) => .ret | (.inr ()) => .exit 2) (fun q => match q with | (.inl ()) => ⟨291, [(6, .ff)], [], [], 0⟩ | (.inr ()) => ⟨291, [(5, .loc 2 0), (7, .loc 3 0), (8, .loc 4 0), (9, .int .i64 v_6), (10, .loc 5 0), (11, .int .i64 v_129), (12, .loc 6 0), (16, .loc 8 0)], [(8, ⟨25, [slTrack false r_193.Tracks, .osl 7], true⟩), (6, ⟨49, [.int .i64 r_5.what, .int .i64 r_5.hour, .int .i64 v_190, .int .i64 r_5.off], true⟩), (5, ⟨49, [.int .i64 r_5.what, .int .i64 r_5.hour, .int .i64 v_7, .int .i64 r_5.off], true⟩), (4, ⟨49, [.int .i64 r_5.what, .int .i64 r_5.hour, .int .i64 r_5.reading, .int .i64 r_5.off], true⟩), (3, ⟨25, [slTrack false r_4.Tracks, slMeas false r_4.Measures], true⟩), (2, ⟨89, [.int .u8 p_3.a0, .int .u8 p_3.a1, .int .u8 p_3.a2], true⟩)], [(7, ⟨49, 4, [.ls Meas meas0 l_203 eMeas], true, false⟩)], 0⟩) (by subst_vars; exact weak_l rfl rfl ⟨lR, lR, lR, lE, lR, lE, lR, lE, lR, LV_sl, LV_sl, LV_sl, LV_sl, lE, trivial⟩ ⟨lB ⟨LV_sl, lR, rfl⟩, lB ⟨lE, lE, lE, lE, rfl⟩, lB ⟨lE, lE, lE, lE, rfl⟩, lB ⟨lE, lE, lE, lE, rfl⟩, lB ⟨LV_sl, LV_sl, rfl⟩, lB ⟨lE, lE, lE, rfl⟩, trivial⟩ ⟨lO, trivial⟩) (by intro q; rcases q with (_ | _) <;> (intro e; exact Exit.noConfusion e)) ?_ ?_; all_goals clear h
                  · intro v_219 x h R hR hX
                    rw [m_law01_ClothMore1_L2] at h
                    (conv => cbv)
                    refine L_tst hI h (by subst_vars; rfl) ?_ ?_ <;> clear h <;> intro h
                    · refine L_cut hI seat [87, 1000008, 1000016, 1000019, 1000021, 1000030] (by kernel_rfl) h (fun q => match q with | v_233 => .normal) (fun q => match q with | v_233 => ⟨291, [(5, .loc 2 0), (7, .loc 3 0), (8, .loc 4 0), (9, .int .i64 v_6), (10, .loc 5 0), (11, .int .i64 v_129), (12, .loc 6 0), (13, .bool r_192.1), (16, .loc 8 0), (17, slSpan false r_195.1), (19, slSpan false r_197.1), (21, slSpan false r_199.1), (23, slSpan false r_201.1), (25, .int .i64 v_219), (248, .bool v_233)], [(8, ⟨25, [slTrack false r_193.Tracks, .osl 7], true⟩), (6, ⟨49, [.int .i64 r_5.what, .int .i64 r_5.hour, .int .i64 v_190, .int .i64 r_5.off], true⟩), (5, ⟨49, [.int .i64 r_5.what, .int .i64 r_5.hour, .int .i64 v_7, .int .i64 r_5.off], true⟩), (4, ⟨49, [.int .i64 r_5.what, .int .i64 r_5.hour, .int .i64 r_5.reading, .int .i64 r_5.off], true⟩), (3, ⟨25, [slTrack false r_4.Tracks, slMeas false r_4.Measures], true⟩), (2, ⟨89, [.int .u8 p_3.a0, .int .u8 p_3.a1, .int .u8 p_3.a2], true⟩)], [(7, ⟨49, 4, [.ls Meas meas0 l_203 eMeas], true, false⟩)], 0⟩) ?_ ?_; all_goals clear h
                      · intro x h R hR
                        (conv => cbv)
                        refine L_get hI h (fun g => by subst_vars; exact g) ?_; clear h; intro hc x_234 hxx_234 h
                        refine L_get hI h (fun g => by subst_vars; exact g) ?_; clear h; intro hc x_235 hxx_235 h
                        refine L_tst hI h (by subst_vars; rfl) ?_ ?_ <;> clear h <;> intro h
                        · exact hR _ _ (Option.some.inj h).symm (by subst_vars; exact weak_l rfl rfl ⟨lR, lR, lR, lE, lR, lE, lR, lE, lR, LV_sl, LV_sl, LV_sl, LV_sl, lE, lE, trivial⟩ ⟨lB ⟨LV_sl, lR, rfl⟩, lB ⟨lE, lE, lE, lE, rfl⟩, lB ⟨lE, lE, lE, lE, rfl⟩, lB ⟨lE, lE, lE, lE, rfl⟩, lB ⟨LV_sl, LV_sl, rfl⟩, lB ⟨lE, lE, lE, rfl⟩, trivial⟩ ⟨lO, trivial⟩)
                        · refine L_get hI h (fun g => by subst_vars; exact g) ?_; clear h; intro hc x_236 hxx_236 h
                          refine L_get hI h (fun g => by subst_vars; exact g) ?_; clear h; intro hc x_237 hxx_237 h
                          refine L_tst hI h (by subst_vars; rfl) ?_ ?_ <;> clear h <;> intro h
                          · exact hR _ _ (Option.some.inj h).symm (by subst_vars; exact weak_l rfl rfl ⟨lR, lR, lR, lE, lR, lE, lR, lE, lR, LV_sl, LV_sl, LV_sl, LV_sl, lE, lE, trivial⟩ ⟨lB ⟨LV_sl, lR, rfl⟩, lB ⟨lE, lE, lE, lE, rfl⟩, lB ⟨lE, lE, lE, lE, rfl⟩, lB ⟨lE, lE, lE, lE, rfl⟩, lB ⟨LV_sl, LV_sl, rfl⟩, lB ⟨lE, lE, lE, rfl⟩, trivial⟩ ⟨lO, trivial⟩)
                          · refine L_get hI h (fun g => by subst_vars; exact g) ?_; clear h; intro hc x_238 hxx_238 h
                            refine L_get hI h (fun g => by subst_vars; exact g) ?_; clear h; intro hc x_239 hxx_239 h
                            refine L_tst hI h (by subst_vars; rfl) ?_ ?_ <;> clear h <;> intro h
                            · exact hR _ _ (Option.some.inj h).symm (by subst_vars; exact weak_l rfl rfl ⟨lR, lR, lR, lE, lR, lE, lR, lE, lR, LV_sl, LV_sl, LV_sl, LV_sl, lE, lE, trivial⟩ ⟨lB ⟨LV_sl, lR, rfl⟩, lB ⟨lE, lE, lE, lE, rfl⟩, lB ⟨lE, lE, lE, lE, rfl⟩, lB ⟨lE, lE, lE, lE, rfl⟩, lB ⟨LV_sl, LV_sl, rfl⟩, lB ⟨lE, lE, lE, rfl⟩, trivial⟩ ⟨lO, trivial⟩)
                            · refine L_get hI h (fun g => by subst_vars; exact g) ?_; clear h; intro hc x_240 hxx_240 h
                              refine L_get hI h (fun g => by subst_vars; exact g) ?_; clear h; intro hc x_241 hxx_241 h
                              refine L_tst hI h (by subst_vars; rfl) ?_ ?_ <;> clear h <;> intro h
                              · exact hR _ _ (Option.some.inj h).symm (by subst_vars; exact weak_l rfl rfl ⟨lR, lR, lR, lE, lR, lE, lR, lE, lR, LV_sl, LV_sl, LV_sl, LV_sl, lE, lE, trivial⟩ ⟨lB ⟨LV_sl, lR, rfl⟩, lB ⟨lE, lE, lE, lE, rfl⟩, lB ⟨lE, lE, lE, lE, rfl⟩, lB ⟨lE, lE, lE, lE, rfl⟩, lB ⟨LV_sl, LV_sl, rfl⟩, lB ⟨lE, lE, lE, rfl⟩, trivial⟩ ⟨lO, trivial⟩)
                              · refine L_tst hI h (by subst_vars; rfl) ?_ ?_ <;> clear h <;> intro h
                                · refine L_get hI h (fun g => by subst_vars; exact g) ?_; clear h; intro hc x_242 hxx_242 h
                                  refine L_get hI h (fun g => by subst_vars; exact g) ?_; clear h; intro hc x_243 hxx_243 h
                                  refine L_tst hI h (by subst_vars; rfl) ?_ ?_ <;> clear h <;> intro h
                                  · exact hR _ _ (Option.some.inj h).symm (by subst_vars; exact weak_l rfl rfl ⟨lR, lR, lR, lE, lR, lE, lR, lE, lR, LV_sl, LV_sl, LV_sl, LV_sl, lE, lE, trivial⟩ ⟨lB ⟨LV_sl, lR, rfl⟩, lB ⟨lE, lE, lE, lE, rfl⟩, lB ⟨lE, lE, lE, lE, rfl⟩, lB ⟨lE, lE, lE, lE, rfl⟩, lB ⟨LV_sl, LV_sl, rfl⟩, lB ⟨lE, lE, lE, rfl⟩, trivial⟩ ⟨lO, trivial⟩)
                                  · refine L_get hI h (fun g => by subst_vars; exact g) ?_; clear h; intro hc x_244 hxx_244 h
                                    refine L_get hI h (fun g => by subst_vars; exact g) ?_; clear h; intro hc x_245 hxx_245 h
                                    exact hR _ _ (Option.some.inj h).symm (by subst_vars; exact weak_l rfl rfl ⟨lR, lR, lR, lE, lR, lE, lR, lE, lR, LV_sl, LV_sl, LV_sl, LV_sl, lE, lE, trivial⟩ ⟨lB ⟨LV_sl, lR, rfl⟩, lB ⟨lE, lE, lE, lE, rfl⟩, lB ⟨lE, lE, lE, lE, rfl⟩, lB ⟨lE, lE, lE, lE, rfl⟩, lB ⟨LV_sl, LV_sl, rfl⟩, lB ⟨lE, lE, lE, rfl⟩, trivial⟩ ⟨lO, trivial⟩)
                                · exact hR _ _ (Option.some.inj h).symm (by subst_vars; exact weak_l rfl rfl ⟨lR, lR, lR, lE, lR, lE, lR, lE, lR, LV_sl, LV_sl, LV_sl, LV_sl, lE, lE, trivial⟩ ⟨lB ⟨LV_sl, lR, rfl⟩, lB ⟨lE, lE, lE, lE, rfl⟩, lB ⟨lE, lE, lE, lE, rfl⟩, lB ⟨lE, lE, lE, lE, rfl⟩, lB ⟨LV_sl, LV_sl, rfl⟩, lB ⟨lE, lE, lE, rfl⟩, trivial⟩ ⟨lO, trivial⟩)
                      · intro v_233 h
                        (conv => cbv)
                        refine L_tst hI h (by subst_vars; rfl) ?_ ?_ <;> clear h <;> intro h
                        · exact hX _ _ (Option.some.inj h).symm (by subst_vars; exact weak_l rfl rfl ⟨lE, trivial⟩ trivial trivial)
                        · exact hR _ _ (Option.some.inj h).symm (by subst_vars; exact weak_l rfl rfl ⟨lR, lR, lR, lE, lR, lE, lR, lE, lR, LV_sl, LV_sl, LV_sl, LV_sl, lE, trivial⟩ ⟨lB ⟨LV_sl, lR, rfl⟩, lB ⟨lE, lE, lE, lE, rfl⟩, lB ⟨lE, lE, lE, lE, rfl⟩, lB ⟨lE, lE, lE, lE, rfl⟩, lB ⟨LV_sl, LV_sl, rfl⟩, lB ⟨lE, lE, lE, rfl⟩, trivial⟩ ⟨lO, trivial⟩)
                    · exact hX _ _ (Option.some.inj h).symm (by subst_vars; exact weak_l rfl rfl ⟨lR, lR, lR, lE, lR, lE, lR, lR, trivial⟩ ⟨lB ⟨LV_sl, lR, rfl⟩, lB ⟨lE, lE, lE, lE, rfl⟩, lB ⟨lE, lE, lE, lE, rfl⟩, lB ⟨lE, lE, lE, lE, rfl⟩, lB ⟨LV_sl, LV_sl, rfl⟩, lB ⟨lE, lE, lE, rfl⟩, trivial⟩ ⟨lO, trivial⟩)
                  · intro q h
                    rcases q with (_ | _)
                    · (conv => cbv)
                      exact hX _ _ (Option.some.inj h).symm (by subst_vars; exact weak_l rfl rfl ⟨lE, trivial⟩ trivial trivial)
                    · (conv => cbv)
                      refine L_call hI h (fun v hv => w_law01_own N r_4 v hv) (by subst_vars; exact ⟨(leD_refl _), rfl⟩) ?_; clear h; intro r_246 h; (conv => cbv)
                      refine L_call hI h (fun v hv => w_cloth_Below N r_246 r_5.what (iopR .mul .i64 7 (IntKind.wrap .i64 p_3.a2)) v hv) (by subst_vars; exact ⟨(leD_refl _), (leD_refl _), (leD_refl _), rfl⟩) ?_; clear h; intro r_247 h; (conv => cbv)
                      refine L_call hI h (fun v hv => w_cloth_Below N (api_Cloth.mk r_193.Tracks l_203) r_5.what (iopR .mul .i64 7 (IntKind.wrap .i64 p_3.a2)) v hv) (by subst_vars; exact ⟨⟨⟨.inl rfl, rfl, leDLL_refl _⟩, ⟨.inl rfl, rfl, leDLL_refl _⟩, rfl⟩, (leD_refl _), (leD_refl _), rfl⟩) ?_; clear h; intro r_248 h; (conv => cbv)
                      refine L_cut hI seat [87, 1000008, 1000016, 1000019, 1000021, 1000026] (by kernel_rfl) h (fun q => match q with | v_249 => .normal) (fun q => match q with | v_249 => ⟨291, [(5, .loc 2 0), (7, .loc 3 0), (8, .loc 4 0), (9, .int .i64 v_6), (10, .loc 5 0), (11, .int .i64 v_129), (289, .bool v_249)], [(5, ⟨49, [.int .i64 r_5.what, .int .i64 r_5.hour, .int .i64 v_7, .int .i64 r_5.off], true⟩), (4, ⟨49, [.int .i64 r_5.what, .int .i64 r_5.hour, .int .i64 r_5.reading, .int .i64 r_5.off], true⟩), (3, ⟨25, [slTrack false r_4.Tracks, slMeas false r_4.Measures], true⟩), (2, ⟨89, [.int .u8 p_3.a0, .int .u8 p_3.a1, .int .u8 p_3.a2], true⟩)], [], 0⟩) ?_ ?_; all_goals clear h
                      · intro x h R hR
                        (conv => cbv)
                        refine L_tst hI h (by subst_vars; rfl) ?_ ?_ <;> clear h <;> intro h
                        · exact hR _ _ (Option.some.inj h).symm (by subst_vars; exact weak_l rfl rfl ⟨lR, lR, lR, lE, lR, lE, lE, trivial⟩ ⟨lB ⟨lE, lE, lE, lE, rfl⟩, lB ⟨lE, lE, lE, lE, rfl⟩, lB ⟨LV_sl, LV_sl, rfl⟩, lB ⟨lE, lE, lE, rfl⟩, trivial⟩ trivial)
                        · refine L_tst hI h (by subst_vars; rfl) ?_ ?_ <;> clear h <;> intro h
                          · exact hR _ _ (Option.some.inj h).symm (by subst_vars; exact weak_l rfl rfl ⟨lR, lR, lR, lE, lR, lE, lE, trivial⟩ ⟨lB ⟨lE, lE, lE, lE, rfl⟩, lB ⟨lE, lE, lE, lE, rfl⟩, lB ⟨LV_sl, LV_sl, rfl⟩, lB ⟨lE, lE, lE, rfl⟩, trivial⟩ trivial)
                          · refine L_tst hI h (by subst_vars; rfl) ?_ ?_ <;> clear h <;> intro h
                            · exact hR _ _ (Option.some.inj h).symm (by subst_vars; exact weak_l rfl rfl ⟨lR, lR, lR, lE, lR, lE, lE, trivial⟩ ⟨lB ⟨lE, lE, lE, lE, rfl⟩, lB ⟨lE, lE, lE, lE, rfl⟩, lB ⟨LV_sl, LV_sl, rfl⟩, lB ⟨lE, lE, lE, rfl⟩, trivial⟩ trivial)
                            · exact hR _ _ (Option.some.inj h).symm (by subst_vars; exact weak_l rfl rfl ⟨lR, lR, lR, lE, lR, lE, lE, trivial⟩ ⟨lB ⟨lE, lE, lE, lE, rfl⟩, lB ⟨lE, lE, lE, lE, rfl⟩, lB ⟨LV_sl, LV_sl, rfl⟩, lB ⟨lE, lE, lE, rfl⟩, trivial⟩ trivial)
                      · intro v_249 h
                        (conv => cbv)
                        refine L_tst hI h (by subst_vars; rfl) ?_ ?_ <;> clear h <;> intro h
                        · exact hX _ _ (Option.some.inj h).symm (by subst_vars; exact weak_l rfl rfl ⟨lE, trivial⟩ trivial trivial)
                        · exact hR _ _ (Option.some.inj h).symm (by subst_vars; exact weak_l rfl rfl ⟨lR, lR, lR, lE, lR, lE, trivial⟩ ⟨lB ⟨lE, lE, lE, lE, rfl⟩, lB ⟨lE, lE, lE, lE, rfl⟩, lB ⟨LV_sl, LV_sl, rfl⟩, lB ⟨lE, lE, lE, rfl⟩, trivial⟩ trivial)
    · exact hX _ _ (Option.some.inj h).symm (by subst_vars; exact weak_l rfl rfl trivial trivial trivial)
  · intro q h
    rcases q with (_ | _)
    · (conv => cbv)
      cases h
      subst_vars
      exact ⟨lE, rfl⟩
    · (conv => cbv)
      refine L_call hI h (fun v hv => w_law01_known N v hv) (by subst_vars; exact rfl) ?_; clear h; intro r_250 h; (conv => cbv)
      cases h
      subst_vars
      exact ⟨lE, rfl⟩
def m_law01_ClothMore0_L2 (N : Nat) (r_195 : (List Span) × Int) (r_193 : (List Span) × Int) (r_199 : (List Span) × Int) (r_197 : (List Span) × Int) (r_190 : Bool × Bool × Int) : Int → Option ((Int) ⊕ ((Unit) ⊕ (Unit)))
  | v_216 =>
    if icmpR .lss v_216 3 then
      (show Option (Bool) from
        (getO span0 r_195.1 v_216).bind fun x_231 =>
        (getO span0 r_193.1 v_216).bind fun x_232 =>
        if icmpR .lss x_231.low x_232.low then
          some true
        else
          (getO span0 r_195.1 v_216).bind fun x_233 =>
          (getO span0 r_193.1 v_216).bind fun x_234 =>
          if icmpR .gtr x_233.high x_234.high then
            some true
          else
            (getO span0 r_199.1 v_216).bind fun x_235 =>
            (getO span0 r_197.1 v_216).bind fun x_236 =>
            if icmpR .lss x_235.low x_236.low then
              some true
            else
              (getO span0 r_199.1 v_216).bind fun x_237 =>
              (getO span0 r_197.1 v_216).bind fun x_238 =>
              if icmpR .gtr x_237.high x_238.high then
                some true
              else
                if r_190.1 then
                  (getO span0 r_195.1 v_216).bind fun x_239 =>
                  (getO span0 r_193.1 v_216).bind fun x_240 =>
                  if !(eqI [(.i64, x_239.low), (.i64, x_239.high)] [(.i64, x_240.low), (.i64, x_240.high)]) then
                    some true
                  else
                    (getO span0 r_199.1 v_216).bind fun x_241 =>
                    (getO span0 r_197.1 v_216).bind fun x_242 =>
                    some (!(eqI [(.i64, x_241.low), (.i64, x_241.high)] [(.i64, x_242.low), (.i64, x_242.high)]))
                else
                  some false).bind fun q => match q with
      | v_230 =>
        if v_230 then
          some (.inr (.inl ()))
        else
          some (.inl (iopR .add .i64 v_216 1))
    else
      some (.inr (.inr ()))
def m_law01_ClothMore0_L1 (N : Nat) (r_5 : Meas) (v_7 : Int) (r_4 : api_Cloth) (v_6 : Int) (p_3 : A3_u8) : Int → Option ((Int) ⊕ ((Unit) ⊕ (Unit)))
  | v_128 =>
    if icmpR .lss v_128 2 then
      (show Option (Int) from
        if 0 ≤ v_128 ∧ v_128 < (2 : Int) then
          if icmpR .eql v_128 0 then
            some r_5.reading
          else
            some v_7
        else none).bind fun q => match q with
      | v_188 =>
        (m_law01_own N r_4).bind fun r_189 =>
        (m_cloth_Fits N r_189 (Meas.mk r_5.what r_5.hour v_188 r_5.off)).bind fun r_190 =>
        (m_law01_own0 N r_4).bind fun r_191 =>
        if fitsN (1) 32 then
          (m_law01_own N r_4).bind fun r_192 =>
          (m_cloth_At N r_192 v_6).bind fun r_193 =>
          (m_law01_own N (api_Cloth.mk r_191.Tracks [(Meas.mk r_5.what r_5.hour v_188 r_5.off)])).bind fun r_194 =>
          (m_cloth_At N r_194 v_6).bind fun r_195 =>
          (m_law01_own N r_4).bind fun r_196 =>
          (m_cloth_Rates N r_196).bind fun r_197 =>
          (m_law01_own N (api_Cloth.mk r_191.Tracks [(Meas.mk r_5.what r_5.hour v_188 r_5.off)])).bind fun r_198 =>
          (m_cloth_Rates N r_198).bind fun r_199 =>
          (show Option (Bool) from
            if icmpR .neq r_190.2.2 0 then
              some true
            else
              if icmpR .neq r_193.2 0 then
                some true
              else
                if icmpR .neq r_197.2 0 then
                  some true
                else
                  if icmpR .neq ((r_193.1.length : Nat) : Int) 3 then
                    some true
                  else
                    if icmpR .neq ((r_197.1.length : Nat) : Int) 3 then
                      some true
                    else
                      if r_190.1 then
                        if !r_190.2.1 then
                          some true
                        else
                          if icmpR .eql v_128 0 then
                            if !r_190.2.1 then
                              some true
                            else
                              if !((icmpR .eql r_195.2 0) == r_190.2.1) then
                                some true
                              else
                                some (icmpR .neq r_199.2 r_195.2)
                          else
                            if !((icmpR .eql r_195.2 0) == r_190.2.1) then
                              some true
                            else
                              some (icmpR .neq r_199.2 r_195.2)
                      else
                        if icmpR .eql v_128 0 then
                          if !r_190.2.1 then
                            some true
                          else
                            if !((icmpR .eql r_195.2 0) == r_190.2.1) then
                              some true
                            else
                              some (icmpR .neq r_199.2 r_195.2)
                        else
                          if !((icmpR .eql r_195.2 0) == r_190.2.1) then
                            some true
                          else
                            some (icmpR .neq r_199.2 r_195.2)).bind fun q => match q with
          | v_200 =>
            if v_200 then
              some (.inr (.inl ()))
            else
              if !r_190.2.1 then
                (show Option (Bool) from
                  if icmpR .neq r_195.2 9 then
                    some true
                  else
                    some (icmpR .neq (iopR .add .i64 ((r_195.1.length : Nat) : Int) ((r_199.1.length : Nat) : Int)) 0)).bind fun q => match q with
                | v_201 =>
                  if v_201 then
                    some (.inr (.inl ()))
                  else
                    some (.inl (iopR .add .i64 v_128 1))
              else
                (show Option (Bool) from
                  if icmpR .neq ((r_195.1.length : Nat) : Int) 3 then
                    some true
                  else
                    some (icmpR .neq ((r_199.1.length : Nat) : Int) 3)).bind fun q => match q with
                | v_202 =>
                  if v_202 then
                    some (.inr (.inl ()))
                  else
                    (loopO (m_law01_ClothMore0_L2 N r_195 r_193 r_199 r_197 r_190) N 0).bind fun q => match q with
                    | (.inl ()) =>
                      some (.inr (.inl ()))
                    | (.inr ()) =>
                      (m_law01_own N r_4).bind fun r_243 =>
                      (m_cloth_Below N r_243 r_5.what (iopR .mul .i64 7 (IntKind.wrap .i64 p_3.a2))).bind fun r_244 =>
                      (m_cloth_Below N (api_Cloth.mk r_191.Tracks [(Meas.mk r_5.what r_5.hour v_188 r_5.off)]) r_5.what (iopR .mul .i64 7 (IntKind.wrap .i64 p_3.a2))).bind fun r_245 =>
                      (show Option (Bool) from
                        if icmpR .neq r_244.2.2 0 then
                          some true
                        else
                          if icmpR .neq r_245.2.2 0 then
                            some true
                          else
                            if icmpR .gtr r_245.1 r_244.1 then
                              some true
                            else
                              some (icmpR .lss r_245.2.1 r_244.2.1)).bind fun q => match q with
                      | v_246 =>
                        if v_246 then
                          some (.inr (.inl ()))
                        else
                          some (.inl (iopR .add .i64 v_128 1))
        else none
    else
      some (.inr (.inr ()))
def m_law01_ClothMore0 (N : Nat) (p_1 : law01_Bolt) (p_2 : B4) (p_3 : A3_u8) : Option (Bool) :=
  (m_law01_Bolt_cloth N p_1).bind fun r_4 =>
  (m_law01_Bolt_measure N (law01_Bolt.mk p_1.Tracks [p_2]) 0).bind fun r_5 =>
  letO (iopR .rem .i64 (IntKind.wrap .i64 p_3.a0) 49 : Int) fun v_6 =>
  letO (min 2000 (iopR .add .i64 r_5.reading (IntKind.wrap .i64 p_3.a1)) : Int) fun v_7 =>
  (loopO (m_law01_ClothMore0_L1 N r_5 v_7 r_4 v_6 p_3) N 0).bind fun q => match q with
  | (.inl ()) =>
    some false
  | (.inr ()) =>
    (m_law01_known N).bind fun r_247 =>
    some r_247
theorem w_law01_ClothMore0 (N : Nat) (p_1 : law01_Bolt) (p_2 : B4) (p_3 : A3_u8) (o : Bool) (h : m_law01_ClothMore0 N p_1 p_2 p_3 = some o) :
    KC Try.prog 10 [.agg [.int .u8 p_1.Tracks.a0.a, .int .u8 p_1.Tracks.a0.b, .int .u8 p_1.Tracks.a0.c, .int .u8 p_1.Tracks.a0.d, .int .u8 p_1.Tracks.a1.a, .int .u8 p_1.Tracks.a1.b, .int .u8 p_1.Tracks.a1.c, .int .u8 p_1.Tracks.a1.d, .int .u8 p_1.Tracks.a2.a, .int .u8 p_1.Tracks.a2.b, .int .u8 p_1.Tracks.a2.c, .int .u8 p_1.Tracks.a2.d, slB4 false p_1.Measures], .agg [.int .u8 p_2.a, .int .u8 p_2.b, .int .u8 p_2.c, .int .u8 p_2.d], .agg [.int .u8 p_3.a0, .int .u8 p_3.a1, .int .u8 p_3.a2]] (.bool o) [] := by
  unfold m_law01_ClothMore0 at h
  refine con_l [] [1000008, 1000016, 1000019, 1000021, 1000026, 1000030] seat Try.func10 rfl ent_10 (by kernel_rfl) rfl rfl (by simp) ?_; intro base I hI; (conv => cbv)
  refine L_call hI h (fun v hv => w_law01_Bolt_cloth N p_1 v hv) (by subst_vars; exact ⟨(leD_refl _), rfl⟩) ?_; clear h; intro r_4 h; (conv => cbv)
  refine L_call hI h (fun v hv => w_law01_Bolt_measure N (law01_Bolt.mk p_1.Tracks [p_2]) 0 v hv) (by subst_vars; exact ⟨⟨(leD_refl _), (leD_refl _), (leD_refl _), (leD_refl _), (leD_refl _), (leD_refl _), (leD_refl _), (leD_refl _), (leD_refl _), (leD_refl _), (leD_refl _), (leD_refl _), ⟨.inl rfl, rfl, leDLL_refl _⟩, rfl⟩, (leD_refl _), rfl⟩) ?_; clear h; intro r_5 h; (conv => cbv)
  replace h := letO_of h; obtain ⟨v_6, hev_6, h⟩ := h
  replace h := letO_of h; obtain ⟨v_7, hev_7, h⟩ := h
  refine L_loop hI seat [1000008, 1000016, 1000019, 1000021, 1000026, 1000030] (by kernel_rfl) h (fun q => match q with | v_128 => ⟨291, [(5, .loc 2 0), (7, .loc 3 0), (8, .loc 4 0), (9, .int .i64 v_6), (10, .loc 5 0), (11, .int .i64 v_128)], [(5, ⟨49, [.int .i64 r_5.what, .int .i64 r_5.hour, .int .i64 v_7, .int .i64 r_5.off], true⟩), (4, ⟨49, [.int .i64 r_5.what, .int .i64 r_5.hour, .int .i64 r_5.reading, .int .i64 r_5.off], true⟩), (3, ⟨25, [slTrack false r_4.Tracks, slMeas false r_4.Measures], true⟩), (2, ⟨89, [.int .u8 p_3.a0, .int .u8 p_3.a1, .int .u8 p_3.a2], true⟩)], [], 0⟩) (fun q => match q with | (.inl ()) => .ret | (.inr ()) => .exit 0) (fun q => match q with | (.inl ()) => ⟨291, [(6, .ff)], [], [], 0⟩ | (.inr ()) => ⟨291, [], [], [], 0⟩) (by subst_vars; exact weak_l rfl rfl ⟨lR, lR, lR, lE, lR, lE, trivial⟩ ⟨lB ⟨lE, lE, lE, lE, rfl⟩, lB ⟨lE, lE, lE, lE, rfl⟩, lB ⟨LV_sl, LV_sl, rfl⟩, lB ⟨lE, lE, lE, rfl⟩, trivial⟩ trivial) (by intro q; rcases q with (_ | _) <;> (intro e; exact Exit.noConfusion e)) ?_ ?_; all_goals clear h
  · intro v_128 x h R hR hX
    rw [m_law01_ClothMore0_L1] at h
    (conv => cbv)
    refine L_tst hI h (by subst_vars; rfl) ?_ ?_ <;> clear h <;> intro h
    · refine L_cut hI seat [1000016, 1000019, 1000021, 1000026, 1000030] (by kernel_rfl) h (fun q => match q with | v_188 => .normal) (fun q => match q with | v_188 => ⟨291, [(5, .loc 2 0), (7, .loc 3 0), (8, .loc 4 0), (9, .int .i64 v_6), (10, .loc 5 0), (11, .int .i64 v_128), (12, .loc 6 0)], [(6, ⟨49, [.int .i64 r_5.what, .int .i64 r_5.hour, .int .i64 v_188, .int .i64 r_5.off], true⟩), (5, ⟨49, [.int .i64 r_5.what, .int .i64 r_5.hour, .int .i64 v_7, .int .i64 r_5.off], true⟩), (4, ⟨49, [.int .i64 r_5.what, .int .i64 r_5.hour, .int .i64 r_5.reading, .int .i64 r_5.off], true⟩), (3, ⟨25, [slTrack false r_4.Tracks, slMeas false r_4.Measures], true⟩), (2, ⟨89, [.int .u8 p_3.a0, .int .u8 p_3.a1, .int .u8 p_3.a2], true⟩)], [], 0⟩) ?_ ?_; all_goals clear h
      · intro x h R hR
        (conv => cbv)
        refine L_conj hI h (fun g => by subst_vars; exact g) ?_; clear h; intro hc h
        refine L_tst hI h (by subst_vars; rfl) ?_ ?_ <;> clear h <;> intro h
        · exact hR _ _ (Option.some.inj h).symm (by subst_vars; exact weak_l rfl rfl ⟨lR, lR, lR, lE, lR, lE, lR, trivial⟩ ⟨lB ⟨lE, lE, lE, lE, rfl⟩, lB ⟨lE, lE, lE, lE, rfl⟩, lB ⟨lE, lE, lE, lE, rfl⟩, lB ⟨LV_sl, LV_sl, rfl⟩, lB ⟨lE, lE, lE, rfl⟩, trivial⟩ trivial)
        · exact hR _ _ (Option.some.inj h).symm (by subst_vars; exact weak_l rfl rfl ⟨lR, lR, lR, lE, lR, lE, lR, trivial⟩ ⟨lB ⟨lE, lE, lE, lE, rfl⟩, lB ⟨lE, lE, lE, lE, rfl⟩, lB ⟨lE, lE, lE, lE, rfl⟩, lB ⟨LV_sl, LV_sl, rfl⟩, lB ⟨lE, lE, lE, rfl⟩, trivial⟩ trivial)
      · intro v_188 h
        (conv => cbv)
        refine L_call hI h (fun v hv => w_law01_own N r_4 v hv) (by subst_vars; exact ⟨(leD_refl _), rfl⟩) ?_; clear h; intro r_189 h; (conv => cbv)
        refine L_call hI h (fun v hv => w_cloth_Fits N r_189 (Meas.mk r_5.what r_5.hour v_188 r_5.off) v hv) (by subst_vars; exact ⟨(leD_refl _), ⟨(leD_refl _), (leD_refl _), (leD_refl _), (leD_refl _), rfl⟩, rfl⟩) ?_; clear h; intro r_190 h; (conv => cbv)
        refine L_call hI h (fun v hv => w_law01_own0 N r_4 v hv) (by subst_vars; exact ⟨(leD_refl _), rfl⟩) ?_; clear h; intro r_191 h; (conv => cbv)
        refine L_conj hI h (fun g => by subst_vars; exact g) ?_; clear h; intro hc h
        refine L_call hI h (fun v hv => w_law01_own N r_4 v hv) (by subst_vars; exact ⟨(leD_refl _), rfl⟩) ?_; clear h; intro r_192 h; (conv => cbv)
        refine L_call hI h (fun v hv => w_cloth_At N r_192 v_6 v hv) (by subst_vars; exact ⟨(leD_refl _), (leD_refl _), rfl⟩) ?_; clear h; intro r_193 h; (conv => cbv)
        refine L_call hI h (fun v hv => w_law01_own N (api_Cloth.mk r_191.Tracks [(Meas.mk r_5.what r_5.hour v_188 r_5.off)]) v hv) (by subst_vars; exact ⟨⟨⟨.inl rfl, rfl, leDLL_refl _⟩, ⟨.inl rfl, rfl, leDLL_refl _⟩, rfl⟩, rfl⟩) ?_; clear h; intro r_194 h; (conv => cbv)
        refine L_call hI h (fun v hv => w_cloth_At N r_194 v_6 v hv) (by subst_vars; exact ⟨(leD_refl _), (leD_refl _), rfl⟩) ?_; clear h; intro r_195 h; (conv => cbv)
        refine L_call hI h (fun v hv => w_law01_own N r_4 v hv) (by subst_vars; exact ⟨(leD_refl _), rfl⟩) ?_; clear h; intro r_196 h; (conv => cbv)
        refine L_call hI h (fun v hv => w_cloth_Rates N r_196 v hv) (by subst_vars; exact ⟨(leD_refl _), rfl⟩) ?_; clear h; intro r_197 h; (conv => cbv)
        refine L_call hI h (fun v hv => w_law01_own N (api_Cloth.mk r_191.Tracks [(Meas.mk r_5.what r_5.hour v_188 r_5.off)]) v hv) (by subst_vars; exact ⟨⟨⟨.inl rfl, rfl, leDLL_refl _⟩, ⟨.inl rfl, rfl, leDLL_refl _⟩, rfl⟩, rfl⟩) ?_; clear h; intro r_198 h; (conv => cbv)
        refine L_call hI h (fun v hv => w_cloth_Rates N r_198 v hv) (by subst_vars; exact ⟨(leD_refl _), rfl⟩) ?_; clear h; intro r_199 h; (conv => cbv)
        refine L_cut hI seat [1000008, 1000019, 1000021, 1000026, 1000030] (by kernel_rfl) h (fun q => match q with | v_200 => .normal) (fun q => match q with | v_200 => ⟨291, [(5, .loc 2 0), (7, .loc 3 0), (8, .loc 4 0), (9, .int .i64 v_6), (10, .loc 5 0), (11, .int .i64 v_128), (12, .loc 6 0), (13, .bool r_190.1), (14, .bool r_190.2.1), (16, .loc 7 0), (17, slSpan false r_193.1), (19, slSpan false r_195.1), (20, .int .i64 r_195.2), (21, slSpan false r_197.1), (23, slSpan false r_199.1), (149, .bool v_200)], [(7, ⟨25, [slTrack false r_191.Tracks, .slr false 4 [[.int .i64 r_5.what, .int .i64 r_5.hour, .int .i64 v_188, .int .i64 r_5.off]]], true⟩), (6, ⟨49, [.int .i64 r_5.what, .int .i64 r_5.hour, .int .i64 v_188, .int .i64 r_5.off], true⟩), (5, ⟨49, [.int .i64 r_5.what, .int .i64 r_5.hour, .int .i64 v_7, .int .i64 r_5.off], true⟩), (4, ⟨49, [.int .i64 r_5.what, .int .i64 r_5.hour, .int .i64 r_5.reading, .int .i64 r_5.off], true⟩), (3, ⟨25, [slTrack false r_4.Tracks, slMeas false r_4.Measures], true⟩), (2, ⟨89, [.int .u8 p_3.a0, .int .u8 p_3.a1, .int .u8 p_3.a2], true⟩)], [], 0⟩) ?_ ?_; all_goals clear h
        · intro x h R hR
          (conv => cbv)
          refine L_tst hI h (by subst_vars; rfl) ?_ ?_ <;> clear h <;> intro h
          · exact hR _ _ (Option.some.inj h).symm (by subst_vars; exact weak_l rfl rfl ⟨lR, lR, lR, lE, lR, lE, lR, lE, lE, lR, LV_sl, LV_sl, lE, LV_sl, LV_sl, lE, trivial⟩ ⟨lB ⟨LV_sl, lR, rfl⟩, lB ⟨lE, lE, lE, lE, rfl⟩, lB ⟨lE, lE, lE, lE, rfl⟩, lB ⟨lE, lE, lE, lE, rfl⟩, lB ⟨LV_sl, LV_sl, rfl⟩, lB ⟨lE, lE, lE, rfl⟩, trivial⟩ trivial)
          · refine L_tst hI h (by subst_vars; rfl) ?_ ?_ <;> clear h <;> intro h
            · exact hR _ _ (Option.some.inj h).symm (by subst_vars; exact weak_l rfl rfl ⟨lR, lR, lR, lE, lR, lE, lR, lE, lE, lR, LV_sl, LV_sl, lE, LV_sl, LV_sl, lE, trivial⟩ ⟨lB ⟨LV_sl, lR, rfl⟩, lB ⟨lE, lE, lE, lE, rfl⟩, lB ⟨lE, lE, lE, lE, rfl⟩, lB ⟨lE, lE, lE, lE, rfl⟩, lB ⟨LV_sl, LV_sl, rfl⟩, lB ⟨lE, lE, lE, rfl⟩, trivial⟩ trivial)
            · refine L_tst hI h (by subst_vars; rfl) ?_ ?_ <;> clear h <;> intro h
              · exact hR _ _ (Option.some.inj h).symm (by subst_vars; exact weak_l rfl rfl ⟨lR, lR, lR, lE, lR, lE, lR, lE, lE, lR, LV_sl, LV_sl, lE, LV_sl, LV_sl, lE, trivial⟩ ⟨lB ⟨LV_sl, lR, rfl⟩, lB ⟨lE, lE, lE, lE, rfl⟩, lB ⟨lE, lE, lE, lE, rfl⟩, lB ⟨lE, lE, lE, lE, rfl⟩, lB ⟨LV_sl, LV_sl, rfl⟩, lB ⟨lE, lE, lE, rfl⟩, trivial⟩ trivial)
              · refine L_tst hI h (by subst_vars; rfl) ?_ ?_ <;> clear h <;> intro h
                · exact hR _ _ (Option.some.inj h).symm (by subst_vars; exact weak_l rfl rfl ⟨lR, lR, lR, lE, lR, lE, lR, lE, lE, lR, LV_sl, LV_sl, lE, LV_sl, LV_sl, lE, trivial⟩ ⟨lB ⟨LV_sl, lR, rfl⟩, lB ⟨lE, lE, lE, lE, rfl⟩, lB ⟨lE, lE, lE, lE, rfl⟩, lB ⟨lE, lE, lE, lE, rfl⟩, lB ⟨LV_sl, LV_sl, rfl⟩, lB ⟨lE, lE, lE, rfl⟩, trivial⟩ trivial)
                · refine L_tst hI h (by subst_vars; rfl) ?_ ?_ <;> clear h <;> intro h
                  · exact hR _ _ (Option.some.inj h).symm (by subst_vars; exact weak_l rfl rfl ⟨lR, lR, lR, lE, lR, lE, lR, lE, lE, lR, LV_sl, LV_sl, lE, LV_sl, LV_sl, lE, trivial⟩ ⟨lB ⟨LV_sl, lR, rfl⟩, lB ⟨lE, lE, lE, lE, rfl⟩, lB ⟨lE, lE, lE, lE, rfl⟩, lB ⟨lE, lE, lE, lE, rfl⟩, lB ⟨LV_sl, LV_sl, rfl⟩, lB ⟨lE, lE, lE, rfl⟩, trivial⟩ trivial)
                  · refine L_tst hI h (by subst_vars; rfl) ?_ ?_ <;> clear h <;> intro h
                    · refine L_tst hI h (by subst_vars; rfl) ?_ ?_ <;> clear h <;> intro h
                      · exact hR _ _ (Option.some.inj h).symm (by subst_vars; exact weak_l rfl rfl ⟨lR, lR, lR, lE, lR, lE, lR, lE, lE, lR, LV_sl, LV_sl, lE, LV_sl, LV_sl, lE, trivial⟩ ⟨lB ⟨LV_sl, lR, rfl⟩, lB ⟨lE, lE, lE, lE, rfl⟩, lB ⟨lE, lE, lE, lE, rfl⟩, lB ⟨lE, lE, lE, lE, rfl⟩, lB ⟨LV_sl, LV_sl, rfl⟩, lB ⟨lE, lE, lE, rfl⟩, trivial⟩ trivial)
                      · refine L_tst hI h (by subst_vars; rfl) ?_ ?_ <;> clear h <;> intro h
                        · refine L_tst hI h (by subst_vars; rfl) ?_ ?_ <;> clear h <;> intro h
                          · exact hR _ _ (Option.some.inj h).symm (by subst_vars; exact weak_l rfl rfl ⟨lR, lR, lR, lE, lR, lE, lR, lE, lE, lR, LV_sl, LV_sl, lE, LV_sl, LV_sl, lE, trivial⟩ ⟨lB ⟨LV_sl, lR, rfl⟩, lB ⟨lE, lE, lE, lE, rfl⟩, lB ⟨lE, lE, lE, lE, rfl⟩, lB ⟨lE, lE, lE, lE, rfl⟩, lB ⟨LV_sl, LV_sl, rfl⟩, lB ⟨lE, lE, lE, rfl⟩, trivial⟩ trivial)
                          · refine L_tst hI h (by subst_vars; rfl) ?_ ?_ <;> clear h <;> intro h
                            · exact hR _ _ (Option.some.inj h).symm (by subst_vars; exact weak_l rfl rfl ⟨lR, lR, lR, lE, lR, lE, lR, lE, lE, lR, LV_sl, LV_sl, lE, LV_sl, LV_sl, lE, trivial⟩ ⟨lB ⟨LV_sl, lR, rfl⟩, lB ⟨lE, lE, lE, lE, rfl⟩, lB ⟨lE, lE, lE, lE, rfl⟩, lB ⟨lE, lE, lE, lE, rfl⟩, lB ⟨LV_sl, LV_sl, rfl⟩, lB ⟨lE, lE, lE, rfl⟩, trivial⟩ trivial)
                            · exact hR _ _ (Option.some.inj h).symm (by subst_vars; exact weak_l rfl rfl ⟨lR, lR, lR, lE, lR, lE, lR, lE, lE, lR, LV_sl, LV_sl, lE, LV_sl, LV_sl, lE, trivial⟩ ⟨lB ⟨LV_sl, lR, rfl⟩, lB ⟨lE, lE, lE, lE, rfl⟩, lB ⟨lE, lE, lE, lE, rfl⟩, lB ⟨lE, lE, lE, lE, rfl⟩, lB ⟨LV_sl, LV_sl, rfl⟩, lB ⟨lE, lE, lE, rfl⟩, trivial⟩ trivial)
                        · refine L_tst hI h (by subst_vars; rfl) ?_ ?_ <;> clear h <;> intro h
                          · exact hR _ _ (Option.some.inj h).symm (by subst_vars; exact weak_l rfl rfl ⟨lR, lR, lR, lE, lR, lE, lR, lE, lE, lR, LV_sl, LV_sl, lE, LV_sl, LV_sl, lE, trivial⟩ ⟨lB ⟨LV_sl, lR, rfl⟩, lB ⟨lE, lE, lE, lE, rfl⟩, lB ⟨lE, lE, lE, lE, rfl⟩, lB ⟨lE, lE, lE, lE, rfl⟩, lB ⟨LV_sl, LV_sl, rfl⟩, lB ⟨lE, lE, lE, rfl⟩, trivial⟩ trivial)
                          · exact hR _ _ (Option.some.inj h).symm (by subst_vars; exact weak_l rfl rfl ⟨lR, lR, lR, lE, lR, lE, lR, lE, lE, lR, LV_sl, LV_sl, lE, LV_sl, LV_sl, lE, trivial⟩ ⟨lB ⟨LV_sl, lR, rfl⟩, lB ⟨lE, lE, lE, lE, rfl⟩, lB ⟨lE, lE, lE, lE, rfl⟩, lB ⟨lE, lE, lE, lE, rfl⟩, lB ⟨LV_sl, LV_sl, rfl⟩, lB ⟨lE, lE, lE, rfl⟩, trivial⟩ trivial)
                    · refine L_tst hI h (by subst_vars; rfl) ?_ ?_ <;> clear h <;> intro h
                      · refine L_tst hI h (by subst_vars; rfl) ?_ ?_ <;> clear h <;> intro h
                        · exact hR _ _ (Option.some.inj h).symm (by subst_vars; exact weak_l rfl rfl ⟨lR, lR, lR, lE, lR, lE, lR, lE, lE, lR, LV_sl, LV_sl, lE, LV_sl, LV_sl, lE, trivial⟩ ⟨lB ⟨LV_sl, lR, rfl⟩, lB ⟨lE, lE, lE, lE, rfl⟩, lB ⟨lE, lE, lE, lE, rfl⟩, lB ⟨lE, lE, lE, lE, rfl⟩, lB ⟨LV_sl, LV_sl, rfl⟩, lB ⟨lE, lE, lE, rfl⟩, trivial⟩ trivial)
                        · refine L_tst hI h (by subst_vars; rfl) ?_ ?_ <;> clear h <;> intro h
                          · exact hR _ _ (Option.some.inj h).symm (by subst_vars; exact weak_l rfl rfl ⟨lR, lR, lR, lE, lR, lE, lR, lE, lE, lR, LV_sl, LV_sl, lE, LV_sl, LV_sl, lE, trivial⟩ ⟨lB ⟨LV_sl, lR, rfl⟩, lB ⟨lE, lE, lE, lE, rfl⟩, lB ⟨lE, lE, lE, lE, rfl⟩, lB ⟨lE, lE, lE, lE, rfl⟩, lB ⟨LV_sl, LV_sl, rfl⟩, lB ⟨lE, lE, lE, rfl⟩, trivial⟩ trivial)
                          · exact hR _ _ (Option.some.inj h).symm (by subst_vars; exact weak_l rfl rfl ⟨lR, lR, lR, lE, lR, lE, lR, lE, lE, lR, LV_sl, LV_sl, lE, LV_sl, LV_sl, lE, trivial⟩ ⟨lB ⟨LV_sl, lR, rfl⟩, lB ⟨lE, lE, lE, lE, rfl⟩, lB ⟨lE, lE, lE, lE, rfl⟩, lB ⟨lE, lE, lE, lE, rfl⟩, lB ⟨LV_sl, LV_sl, rfl⟩, lB ⟨lE, lE, lE, rfl⟩, trivial⟩ trivial)
                      · refine L_tst hI h (by subst_vars; rfl) ?_ ?_ <;> clear h <;> intro h
                        · exact hR _ _ (Option.some.inj h).symm (by subst_vars; exact weak_l rfl rfl ⟨lR, lR, lR, lE, lR, lE, lR, lE, lE, lR, LV_sl, LV_sl, lE, LV_sl, LV_sl, lE, trivial⟩ ⟨lB ⟨LV_sl, lR, rfl⟩, lB ⟨lE, lE, lE, lE, rfl⟩, lB ⟨lE, lE, lE, lE, rfl⟩, lB ⟨lE, lE, lE, lE, rfl⟩, lB ⟨LV_sl, LV_sl, rfl⟩, lB ⟨lE, lE, lE, rfl⟩, trivial⟩ trivial)
                        · exact hR _ _ (Option.some.inj h).symm (by subst_vars; exact weak_l rfl rfl ⟨lR, lR, lR, lE, lR, lE, lR, lE, lE, lR, LV_sl, LV_sl, lE, LV_sl, LV_sl, lE, trivial⟩ ⟨lB ⟨LV_sl, lR, rfl⟩, lB ⟨lE, lE, lE, lE, rfl⟩, lB ⟨lE, lE, lE, lE, rfl⟩, lB ⟨lE, lE, lE, lE, rfl⟩, lB ⟨LV_sl, LV_sl, rfl⟩, lB ⟨lE, lE, lE, rfl⟩, trivial⟩ trivial)
        · intro v_200 h
          (conv => cbv)
          refine L_tst hI h (by subst_vars; rfl) ?_ ?_ <;> clear h <;> intro h
          · exact hX _ _ (Option.some.inj h).symm (by subst_vars; exact weak_l rfl rfl ⟨lE, trivial⟩ trivial trivial)
          · refine L_tst hI h (by subst_vars; rfl) ?_ ?_ <;> clear h <;> intro h
            · refine L_cut hI seat [1000008, 1000016, 1000021, 1000026, 1000030] (by kernel_rfl) h (fun q => match q with | v_201 => .normal) (fun q => match q with | v_201 => ⟨291, [(5, .loc 2 0), (7, .loc 3 0), (8, .loc 4 0), (9, .int .i64 v_6), (10, .loc 5 0), (11, .int .i64 v_128), (161, .bool v_201)], [(5, ⟨49, [.int .i64 r_5.what, .int .i64 r_5.hour, .int .i64 v_7, .int .i64 r_5.off], true⟩), (4, ⟨49, [.int .i64 r_5.what, .int .i64 r_5.hour, .int .i64 r_5.reading, .int .i64 r_5.off], true⟩), (3, ⟨25, [slTrack false r_4.Tracks, slMeas false r_4.Measures], true⟩), (2, ⟨89, [.int .u8 p_3.a0, .int .u8 p_3.a1, .int .u8 p_3.a2], true⟩)], [], 0⟩) ?_ ?_; all_goals clear h
              · intro x h R hR
                (conv => cbv)
                refine L_tst hI h (by subst_vars; rfl) ?_ ?_ <;> clear h <;> intro h
                · exact hR _ _ (Option.some.inj h).symm (by subst_vars; exact weak_l rfl rfl ⟨lR, lR, lR, lE, lR, lE, lE, trivial⟩ ⟨lB ⟨lE, lE, lE, lE, rfl⟩, lB ⟨lE, lE, lE, lE, rfl⟩, lB ⟨LV_sl, LV_sl, rfl⟩, lB ⟨lE, lE, lE, rfl⟩, trivial⟩ trivial)
                · exact hR _ _ (Option.some.inj h).symm (by subst_vars; exact weak_l rfl rfl ⟨lR, lR, lR, lE, lR, lE, lE, trivial⟩ ⟨lB ⟨lE, lE, lE, lE, rfl⟩, lB ⟨lE, lE, lE, lE, rfl⟩, lB ⟨LV_sl, LV_sl, rfl⟩, lB ⟨lE, lE, lE, rfl⟩, trivial⟩ trivial)
              · intro v_201 h
                (conv => cbv)
                refine L_tst hI h (by subst_vars; rfl) ?_ ?_ <;> clear h <;> intro h
                · exact hX _ _ (Option.some.inj h).symm (by subst_vars; exact weak_l rfl rfl ⟨lE, trivial⟩ trivial trivial)
                · exact hR _ _ (Option.some.inj h).symm (by subst_vars; exact weak_l rfl rfl ⟨lR, lR, lR, lE, lR, lE, trivial⟩ ⟨lB ⟨lE, lE, lE, lE, rfl⟩, lB ⟨lE, lE, lE, lE, rfl⟩, lB ⟨LV_sl, LV_sl, rfl⟩, lB ⟨lE, lE, lE, rfl⟩, trivial⟩ trivial)
            · refine L_cut hI seat [1000008, 1000016, 1000019, 1000026, 1000030] (by kernel_rfl) h (fun q => match q with | v_202 => .normal) (fun q => match q with | v_202 => ⟨291, [(5, .loc 2 0), (7, .loc 3 0), (8, .loc 4 0), (9, .int .i64 v_6), (10, .loc 5 0), (11, .int .i64 v_128), (12, .loc 6 0), (13, .bool r_190.1), (16, .loc 7 0), (17, slSpan false r_193.1), (19, slSpan false r_195.1), (21, slSpan false r_197.1), (23, slSpan false r_199.1), (169, .bool v_202)], [(7, ⟨25, [slTrack false r_191.Tracks, .slr false 4 [[.int .i64 r_5.what, .int .i64 r_5.hour, .int .i64 v_188, .int .i64 r_5.off]]], true⟩), (6, ⟨49, [.int .i64 r_5.what, .int .i64 r_5.hour, .int .i64 v_188, .int .i64 r_5.off], true⟩), (5, ⟨49, [.int .i64 r_5.what, .int .i64 r_5.hour, .int .i64 v_7, .int .i64 r_5.off], true⟩), (4, ⟨49, [.int .i64 r_5.what, .int .i64 r_5.hour, .int .i64 r_5.reading, .int .i64 r_5.off], true⟩), (3, ⟨25, [slTrack false r_4.Tracks, slMeas false r_4.Measures], true⟩), (2, ⟨89, [.int .u8 p_3.a0, .int .u8 p_3.a1, .int .u8 p_3.a2], true⟩)], [], 0⟩) ?_ ?_; all_goals clear h
              · intro x h R hR
                (conv => cbv)
                refine L_tst hI h (by subst_vars; rfl) ?_ ?_ <;> clear h <;> intro h
                · exact hR _ _ (Option.some.inj h).symm (by subst_vars; exact weak_l rfl rfl ⟨lR, lR, lR, lE, lR, lE, lR, lE, lR, LV_sl, LV_sl, LV_sl, LV_sl, lE, trivial⟩ ⟨lB ⟨LV_sl, lR, rfl⟩, lB ⟨lE, lE, lE, lE, rfl⟩, lB ⟨lE, lE, lE, lE, rfl⟩, lB ⟨lE, lE, lE, lE, rfl⟩, lB ⟨LV_sl, LV_sl, rfl⟩, lB ⟨lE, lE, lE, rfl⟩, trivial⟩ trivial)
                · exact hR _ _ (Option.some.inj h).symm (by subst_vars; exact weak_l rfl rfl ⟨lR, lR, lR, lE, lR, lE, lR, lE, lR, LV_sl, LV_sl, LV_sl, LV_sl, lE, trivial⟩ ⟨lB ⟨LV_sl, lR, rfl⟩, lB ⟨lE, lE, lE, lE, rfl⟩, lB ⟨lE, lE, lE, lE, rfl⟩, lB ⟨lE, lE, lE, lE, rfl⟩, lB ⟨LV_sl, LV_sl, rfl⟩, lB ⟨lE, lE, lE, rfl⟩, trivial⟩ trivial)
              · intro v_202 h
                (conv => cbv)
                refine L_tst hI h (by subst_vars; rfl) ?_ ?_ <;> clear h <;> intro h
                · exact hX _ _ (Option.some.inj h).symm (by subst_vars; exact weak_l rfl rfl ⟨lE, trivial⟩ trivial trivial)
                · refine L_loop hI seat [1000008, 1000016, 1000019, 1000021, 1000026, 1000030] (by kernel_rfl) h (fun q => match q with | v_216 => ⟨291, [(5, .loc 2 0), (7, .loc 3 0), (8, .loc 4 0), (9, .int .i64 v_6), (10, .loc 5 0), (11, .int .i64 v_128), (12, .loc 6 0), (13, .bool r_190.1), (16, .loc 7 0), (17, slSpan false r_193.1), (19, slSpan false r_195.1), (21, slSpan false r_197.1), (23, slSpan false r_199.1), (25, .int .i64 v_216)], [(7, ⟨25, [slTrack false r_191.Tracks, .slr false 4 [[.int .i64 r_5.what, .int .i64 r_5.hour, .int .i64 v_188, .int .i64 r_5.off]]], true⟩), (6, ⟨49, [.int .i64 r_5.what, .int .i64 r_5.hour, .int .i64 v_188, .int .i64 r_5.off], true⟩), (5, ⟨49, [.int .i64 r_5.what, .int .i64 r_5.hour, .int .i64 v_7, .int .i64 r_5.off], true⟩), (4, ⟨49, [.int .i64 r_5.what, .int .i64 r_5.hour, .int .i64 r_5.reading, .int .i64 r_5.off], true⟩), (3, ⟨25, [slTrack false r_4.Tracks, slMeas false r_4.Measures], true⟩), (2, ⟨89, [.int .u8 p_3.a0, .int .u8 p_3.a1, .int .u8 p_3.a2], true⟩)], [], 0⟩) (fun q => match q with | (.inl ()) => .ret | (.inr ()) => .exit 2) (fun q => match q with | (.inl ()) => ⟨291, [(6, .ff)], [], [], 0⟩ | (.inr ()) => ⟨291, [(5, .loc 2 0), (7, .loc 3 0), (8, .loc 4 0), (9, .int .i64 v_6), (10, .loc 5 0), (11, .int .i64 v_128), (12, .loc 6 0), (16, .loc 7 0)], [(7, ⟨25, [slTrack false r_191.Tracks, .slr false 4 [[.int .i64 r_5.what, .int .i64 r_5.hour, .int .i64 v_188, .int .i64 r_5.off]]], true⟩), (6, ⟨49, [.int .i64 r_5.what, .int .i64 r_5.hour, .int .i64 v_188, .int .i64 r_5.off], true⟩), (5, ⟨49, [.int .i64 r_5.what, .int .i64 r_5.hour, .int .i64 v_7, .int .i64 r_5.off], true⟩), (4, ⟨49, [.int .i64 r_5.what, .int .i64 r_5.hour, .int .i64 r_5.reading, .int .i64 r_5.off], true⟩), (3, ⟨25, [slTrack false r_4.Tracks, slMeas false r_4.Measures], true⟩), (2, ⟨89, [.int .u8 p_3.a0, .int .u8 p_3.a1, .int .u8 p_3.a2], true⟩)], [], 0⟩) (by subst_vars; exact weak_l rfl rfl ⟨lR, lR, lR, lE, lR, lE, lR, lE, lR, LV_sl, LV_sl, LV_sl, LV_sl, lE, trivial⟩ ⟨lB ⟨LV_sl, lR, rfl⟩, lB ⟨lE, lE, lE, lE, rfl⟩, lB ⟨lE, lE, lE, lE, rfl⟩, lB ⟨lE, lE, lE, lE, rfl⟩, lB ⟨LV_sl, LV_sl, rfl⟩, lB ⟨lE, lE, lE, rfl⟩, trivial⟩ trivial) (by intro q; rcases q with (_ | _) <;> (intro e; exact Exit.noConfusion e)) ?_ ?_; all_goals clear h
                  · intro v_216 x h R hR hX
                    rw [m_law01_ClothMore0_L2] at h
                    (conv => cbv)
                    refine L_tst hI h (by subst_vars; rfl) ?_ ?_ <;> clear h <;> intro h
                    · refine L_cut hI seat [1000008, 1000016, 1000019, 1000021, 1000030] (by kernel_rfl) h (fun q => match q with | v_230 => .normal) (fun q => match q with | v_230 => ⟨291, [(5, .loc 2 0), (7, .loc 3 0), (8, .loc 4 0), (9, .int .i64 v_6), (10, .loc 5 0), (11, .int .i64 v_128), (12, .loc 6 0), (13, .bool r_190.1), (16, .loc 7 0), (17, slSpan false r_193.1), (19, slSpan false r_195.1), (21, slSpan false r_197.1), (23, slSpan false r_199.1), (25, .int .i64 v_216), (248, .bool v_230)], [(7, ⟨25, [slTrack false r_191.Tracks, .slr false 4 [[.int .i64 r_5.what, .int .i64 r_5.hour, .int .i64 v_188, .int .i64 r_5.off]]], true⟩), (6, ⟨49, [.int .i64 r_5.what, .int .i64 r_5.hour, .int .i64 v_188, .int .i64 r_5.off], true⟩), (5, ⟨49, [.int .i64 r_5.what, .int .i64 r_5.hour, .int .i64 v_7, .int .i64 r_5.off], true⟩), (4, ⟨49, [.int .i64 r_5.what, .int .i64 r_5.hour, .int .i64 r_5.reading, .int .i64 r_5.off], true⟩), (3, ⟨25, [slTrack false r_4.Tracks, slMeas false r_4.Measures], true⟩), (2, ⟨89, [.int .u8 p_3.a0, .int .u8 p_3.a1, .int .u8 p_3.a2], true⟩)], [], 0⟩) ?_ ?_; all_goals clear h
                      · intro x h R hR
                        (conv => cbv)
                        refine L_get hI h (fun g => by subst_vars; exact g) ?_; clear h; intro hc x_231 hxx_231 h
                        refine L_get hI h (fun g => by subst_vars; exact g) ?_; clear h; intro hc x_232 hxx_232 h
                        refine L_tst hI h (by subst_vars; rfl) ?_ ?_ <;> clear h <;> intro h
                        · exact hR _ _ (Option.some.inj h).symm (by subst_vars; exact weak_l rfl rfl ⟨lR, lR, lR, lE, lR, lE, lR, lE, lR, LV_sl, LV_sl, LV_sl, LV_sl, lE, lE, trivial⟩ ⟨lB ⟨LV_sl, lR, rfl⟩, lB ⟨lE, lE, lE, lE, rfl⟩, lB ⟨lE, lE, lE, lE, rfl⟩, lB ⟨lE, lE, lE, lE, rfl⟩, lB ⟨LV_sl, LV_sl, rfl⟩, lB ⟨lE, lE, lE, rfl⟩, trivial⟩ trivial)
                        · refine L_get hI h (fun g => by subst_vars; exact g) ?_; clear h; intro hc x_233 hxx_233 h
                          refine L_get hI h (fun g => by subst_vars; exact g) ?_; clear h; intro hc x_234 hxx_234 h
                          refine L_tst hI h (by subst_vars; rfl) ?_ ?_ <;> clear h <;> intro h
                          · exact hR _ _ (Option.some.inj h).symm (by subst_vars; exact weak_l rfl rfl ⟨lR, lR, lR, lE, lR, lE, lR, lE, lR, LV_sl, LV_sl, LV_sl, LV_sl, lE, lE, trivial⟩ ⟨lB ⟨LV_sl, lR, rfl⟩, lB ⟨lE, lE, lE, lE, rfl⟩, lB ⟨lE, lE, lE, lE, rfl⟩, lB ⟨lE, lE, lE, lE, rfl⟩, lB ⟨LV_sl, LV_sl, rfl⟩, lB ⟨lE, lE, lE, rfl⟩, trivial⟩ trivial)
                          · refine L_get hI h (fun g => by subst_vars; exact g) ?_; clear h; intro hc x_235 hxx_235 h
                            refine L_get hI h (fun g => by subst_vars; exact g) ?_; clear h; intro hc x_236 hxx_236 h
                            refine L_tst hI h (by subst_vars; rfl) ?_ ?_ <;> clear h <;> intro h
                            · exact hR _ _ (Option.some.inj h).symm (by subst_vars; exact weak_l rfl rfl ⟨lR, lR, lR, lE, lR, lE, lR, lE, lR, LV_sl, LV_sl, LV_sl, LV_sl, lE, lE, trivial⟩ ⟨lB ⟨LV_sl, lR, rfl⟩, lB ⟨lE, lE, lE, lE, rfl⟩, lB ⟨lE, lE, lE, lE, rfl⟩, lB ⟨lE, lE, lE, lE, rfl⟩, lB ⟨LV_sl, LV_sl, rfl⟩, lB ⟨lE, lE, lE, rfl⟩, trivial⟩ trivial)
                            · refine L_get hI h (fun g => by subst_vars; exact g) ?_; clear h; intro hc x_237 hxx_237 h
                              refine L_get hI h (fun g => by subst_vars; exact g) ?_; clear h; intro hc x_238 hxx_238 h
                              refine L_tst hI h (by subst_vars; rfl) ?_ ?_ <;> clear h <;> intro h
                              · exact hR _ _ (Option.some.inj h).symm (by subst_vars; exact weak_l rfl rfl ⟨lR, lR, lR, lE, lR, lE, lR, lE, lR, LV_sl, LV_sl, LV_sl, LV_sl, lE, lE, trivial⟩ ⟨lB ⟨LV_sl, lR, rfl⟩, lB ⟨lE, lE, lE, lE, rfl⟩, lB ⟨lE, lE, lE, lE, rfl⟩, lB ⟨lE, lE, lE, lE, rfl⟩, lB ⟨LV_sl, LV_sl, rfl⟩, lB ⟨lE, lE, lE, rfl⟩, trivial⟩ trivial)
                              · refine L_tst hI h (by subst_vars; rfl) ?_ ?_ <;> clear h <;> intro h
                                · refine L_get hI h (fun g => by subst_vars; exact g) ?_; clear h; intro hc x_239 hxx_239 h
                                  refine L_get hI h (fun g => by subst_vars; exact g) ?_; clear h; intro hc x_240 hxx_240 h
                                  refine L_tst hI h (by subst_vars; rfl) ?_ ?_ <;> clear h <;> intro h
                                  · exact hR _ _ (Option.some.inj h).symm (by subst_vars; exact weak_l rfl rfl ⟨lR, lR, lR, lE, lR, lE, lR, lE, lR, LV_sl, LV_sl, LV_sl, LV_sl, lE, lE, trivial⟩ ⟨lB ⟨LV_sl, lR, rfl⟩, lB ⟨lE, lE, lE, lE, rfl⟩, lB ⟨lE, lE, lE, lE, rfl⟩, lB ⟨lE, lE, lE, lE, rfl⟩, lB ⟨LV_sl, LV_sl, rfl⟩, lB ⟨lE, lE, lE, rfl⟩, trivial⟩ trivial)
                                  · refine L_get hI h (fun g => by subst_vars; exact g) ?_; clear h; intro hc x_241 hxx_241 h
                                    refine L_get hI h (fun g => by subst_vars; exact g) ?_; clear h; intro hc x_242 hxx_242 h
                                    exact hR _ _ (Option.some.inj h).symm (by subst_vars; exact weak_l rfl rfl ⟨lR, lR, lR, lE, lR, lE, lR, lE, lR, LV_sl, LV_sl, LV_sl, LV_sl, lE, lE, trivial⟩ ⟨lB ⟨LV_sl, lR, rfl⟩, lB ⟨lE, lE, lE, lE, rfl⟩, lB ⟨lE, lE, lE, lE, rfl⟩, lB ⟨lE, lE, lE, lE, rfl⟩, lB ⟨LV_sl, LV_sl, rfl⟩, lB ⟨lE, lE, lE, rfl⟩, trivial⟩ trivial)
                                · exact hR _ _ (Option.some.inj h).symm (by subst_vars; exact weak_l rfl rfl ⟨lR, lR, lR, lE, lR, lE, lR, lE, lR, LV_sl, LV_sl, LV_sl, LV_sl, lE, lE, trivial⟩ ⟨lB ⟨LV_sl, lR, rfl⟩, lB ⟨lE, lE, lE, lE, rfl⟩, lB ⟨lE, lE, lE, lE, rfl⟩, lB ⟨lE, lE, lE, lE, rfl⟩, lB ⟨LV_sl, LV_sl, rfl⟩, lB ⟨lE, lE, lE, rfl⟩, trivial⟩ trivial)
                      · intro v_230 h
                        (conv => cbv)
                        refine L_tst hI h (by subst_vars; rfl) ?_ ?_ <;> clear h <;> intro h
                        · exact hX _ _ (Option.some.inj h).symm (by subst_vars; exact weak_l rfl rfl ⟨lE, trivial⟩ trivial trivial)
                        · exact hR _ _ (Option.some.inj h).symm (by subst_vars; exact weak_l rfl rfl ⟨lR, lR, lR, lE, lR, lE, lR, lE, lR, LV_sl, LV_sl, LV_sl, LV_sl, lE, trivial⟩ ⟨lB ⟨LV_sl, lR, rfl⟩, lB ⟨lE, lE, lE, lE, rfl⟩, lB ⟨lE, lE, lE, lE, rfl⟩, lB ⟨lE, lE, lE, lE, rfl⟩, lB ⟨LV_sl, LV_sl, rfl⟩, lB ⟨lE, lE, lE, rfl⟩, trivial⟩ trivial)
                    · exact hX _ _ (Option.some.inj h).symm (by subst_vars; exact weak_l rfl rfl ⟨lR, lR, lR, lE, lR, lE, lR, lR, trivial⟩ ⟨lB ⟨LV_sl, lR, rfl⟩, lB ⟨lE, lE, lE, lE, rfl⟩, lB ⟨lE, lE, lE, lE, rfl⟩, lB ⟨lE, lE, lE, lE, rfl⟩, lB ⟨LV_sl, LV_sl, rfl⟩, lB ⟨lE, lE, lE, rfl⟩, trivial⟩ trivial)
                  · intro q h
                    rcases q with (_ | _)
                    · (conv => cbv)
                      exact hX _ _ (Option.some.inj h).symm (by subst_vars; exact weak_l rfl rfl ⟨lE, trivial⟩ trivial trivial)
                    · (conv => cbv)
                      refine L_call hI h (fun v hv => w_law01_own N r_4 v hv) (by subst_vars; exact ⟨(leD_refl _), rfl⟩) ?_; clear h; intro r_243 h; (conv => cbv)
                      refine L_call hI h (fun v hv => w_cloth_Below N r_243 r_5.what (iopR .mul .i64 7 (IntKind.wrap .i64 p_3.a2)) v hv) (by subst_vars; exact ⟨(leD_refl _), (leD_refl _), (leD_refl _), rfl⟩) ?_; clear h; intro r_244 h; (conv => cbv)
                      refine L_call hI h (fun v hv => w_cloth_Below N (api_Cloth.mk r_191.Tracks [(Meas.mk r_5.what r_5.hour v_188 r_5.off)]) r_5.what (iopR .mul .i64 7 (IntKind.wrap .i64 p_3.a2)) v hv) (by subst_vars; exact ⟨⟨⟨.inl rfl, rfl, leDLL_refl _⟩, ⟨.inl rfl, rfl, leDLL_refl _⟩, rfl⟩, (leD_refl _), (leD_refl _), rfl⟩) ?_; clear h; intro r_245 h; (conv => cbv)
                      refine L_cut hI seat [1000008, 1000016, 1000019, 1000021, 1000026] (by kernel_rfl) h (fun q => match q with | v_246 => .normal) (fun q => match q with | v_246 => ⟨291, [(5, .loc 2 0), (7, .loc 3 0), (8, .loc 4 0), (9, .int .i64 v_6), (10, .loc 5 0), (11, .int .i64 v_128), (289, .bool v_246)], [(5, ⟨49, [.int .i64 r_5.what, .int .i64 r_5.hour, .int .i64 v_7, .int .i64 r_5.off], true⟩), (4, ⟨49, [.int .i64 r_5.what, .int .i64 r_5.hour, .int .i64 r_5.reading, .int .i64 r_5.off], true⟩), (3, ⟨25, [slTrack false r_4.Tracks, slMeas false r_4.Measures], true⟩), (2, ⟨89, [.int .u8 p_3.a0, .int .u8 p_3.a1, .int .u8 p_3.a2], true⟩)], [], 0⟩) ?_ ?_; all_goals clear h
                      · intro x h R hR
                        (conv => cbv)
                        refine L_tst hI h (by subst_vars; rfl) ?_ ?_ <;> clear h <;> intro h
                        · exact hR _ _ (Option.some.inj h).symm (by subst_vars; exact weak_l rfl rfl ⟨lR, lR, lR, lE, lR, lE, lE, trivial⟩ ⟨lB ⟨lE, lE, lE, lE, rfl⟩, lB ⟨lE, lE, lE, lE, rfl⟩, lB ⟨LV_sl, LV_sl, rfl⟩, lB ⟨lE, lE, lE, rfl⟩, trivial⟩ trivial)
                        · refine L_tst hI h (by subst_vars; rfl) ?_ ?_ <;> clear h <;> intro h
                          · exact hR _ _ (Option.some.inj h).symm (by subst_vars; exact weak_l rfl rfl ⟨lR, lR, lR, lE, lR, lE, lE, trivial⟩ ⟨lB ⟨lE, lE, lE, lE, rfl⟩, lB ⟨lE, lE, lE, lE, rfl⟩, lB ⟨LV_sl, LV_sl, rfl⟩, lB ⟨lE, lE, lE, rfl⟩, trivial⟩ trivial)
                          · refine L_tst hI h (by subst_vars; rfl) ?_ ?_ <;> clear h <;> intro h
                            · exact hR _ _ (Option.some.inj h).symm (by subst_vars; exact weak_l rfl rfl ⟨lR, lR, lR, lE, lR, lE, lE, trivial⟩ ⟨lB ⟨lE, lE, lE, lE, rfl⟩, lB ⟨lE, lE, lE, lE, rfl⟩, lB ⟨LV_sl, LV_sl, rfl⟩, lB ⟨lE, lE, lE, rfl⟩, trivial⟩ trivial)
                            · exact hR _ _ (Option.some.inj h).symm (by subst_vars; exact weak_l rfl rfl ⟨lR, lR, lR, lE, lR, lE, lE, trivial⟩ ⟨lB ⟨lE, lE, lE, lE, rfl⟩, lB ⟨lE, lE, lE, lE, rfl⟩, lB ⟨LV_sl, LV_sl, rfl⟩, lB ⟨lE, lE, lE, rfl⟩, trivial⟩ trivial)
                      · intro v_246 h
                        (conv => cbv)
                        refine L_tst hI h (by subst_vars; rfl) ?_ ?_ <;> clear h <;> intro h
                        · exact hX _ _ (Option.some.inj h).symm (by subst_vars; exact weak_l rfl rfl ⟨lE, trivial⟩ trivial trivial)
                        · exact hR _ _ (Option.some.inj h).symm (by subst_vars; exact weak_l rfl rfl ⟨lR, lR, lR, lE, lR, lE, trivial⟩ ⟨lB ⟨lE, lE, lE, lE, rfl⟩, lB ⟨lE, lE, lE, lE, rfl⟩, lB ⟨LV_sl, LV_sl, rfl⟩, lB ⟨lE, lE, lE, rfl⟩, trivial⟩ trivial)
    · exact hX _ _ (Option.some.inj h).symm (by subst_vars; exact weak_l rfl rfl trivial trivial trivial)
  · intro q h
    rcases q with (_ | _)
    · (conv => cbv)
      cases h
      subst_vars
      exact ⟨lE, rfl⟩
    · (conv => cbv)
      refine L_call hI h (fun v hv => w_law01_known N v hv) (by subst_vars; exact rfl) ?_; clear h; intro r_247 h; (conv => cbv)
      cases h
      subst_vars
      exact ⟨lE, rfl⟩
end
end Go.Proofs.Ytnekemldcjegaaa.Aw

/- Plain law of ClothMore. -/
namespace Go.Proofs.Ytnekemldcjegaaa.Aw
open Go Go.RowKit Go.Proofs
set_option linter.unusedSimpArgs false
set_option linter.unusedVariables false
theorem eqI_refl : ∀ l : List (IntKind × Int), eqI l l = true
  | [] => rfl
  | (k, a) :: r => by simp [eqI, eqI_refl r]
theorem more_L2_1 (N : Nat) {A A' R R' : Int → Span} {n1 n2 n3 n4 : Int} {S P : Bool} {e : Int} (hN : 100 ≤ N)
    (hA : ∀ i : Int, 0 ≤ i → i < 3 → ((A i).low ≤ (A' i).low ∧ (A' i).high ≤ (A i).high) ∧ (S = true → A' i = A i))
    (hR : ∀ i : Int, 0 ≤ i → i < 3 → ((R i).low ≤ (R' i).low ∧ (R' i).high ≤ (R i).high) ∧ (S = true → R' i = R i)) :
    loopO (m_law01_ClothMore1_L2 N (threeS A', n1) (threeS A, n2) (threeS R', n3) (threeS R, n4) (S, P, e)) N 0 = some (.inr ()) := by
  obtain ⟨q, hq, hp⟩ := loopO_of (step := m_law01_ClothMore1_L2 N (threeS A', n1) (threeS A, n2) (threeS R', n3) (threeS R, n4) (S, P, e)) (fun i => 0 ≤ i ∧ i ≤ 3) (fun i => (3 - i).toNat) (fun q => q = .inr ()) (fun i hi => by
    obtain ⟨i0, i1⟩ := hi
    simp only [m_law01_ClothMore1_L2, icmp_lss, decide_eq_true_eq]
    by_cases hc : i < 3
    · left
      rw [if_pos hc]
      obtain ⟨⟨a1, a2⟩, a3⟩ := hA i i0 hc
      obtain ⟨⟨r1, r2⟩, r3⟩ := hR i i0 hc
      refine ⟨i + 1, ?_, by omega, by omega⟩
      have c1 : ¬ (A' i).low < (A i).low := by omega
      have c2 : ¬ (A' i).high > (A i).high := by omega
      have c3 : ¬ (R' i).low < (R i).low := by omega
      have c4 : ¬ (R' i).high > (R i).high := by omega
      simp only [three_get i0 hc, bindS, icmp_gtr, decide_eq_true_eq, c1, c2, c3, c4, if_false, addW (show -9223372036854775808 ≤ i + 1 ∧ i + 1 ≤ 9223372036854775807 by omega)]
      cases hS : S with
      | false => simp only [Bool.false_eq_true, if_false, bindS]
      | true => simp only [a3 hS, r3 hS, eqI_refl, Bool.not_true, Bool.false_eq_true, if_false, if_true, bindS]
    · right
      rw [if_neg hc]
      exact ⟨_, rfl, rfl⟩) N 0 ⟨by omega, by omega⟩ (by omega)
  rw [hq, hp]
theorem more_L1_1 (N : Nat) (hN : 100 ≤ N) {ts : List Track} {ms : List Meas} {m : Meas} {rd hour k : Int} {v : A3_u8} (hk : 0 ≤ k ∧ k < 2) (hh : 0 ≤ hour ∧ hour ≤ 48) (hv : 0 ≤ v.a2 ∧ v.a2 ≤ 255)
    (one : Meas) (hone : one = ⟨m.what, m.hour, if k = 0 then m.reading else rd, m.off⟩) (hl : ts.length ≤ 1000000 ∧ ms.length ≤ 900000) (hms : 1 ≤ ms.length) (hin : ClothIn ts ms)
    (hck : check ts ms = 0) (hc2 : check ts (ms ++ [one]) = 0) (hom : isMeas one = true) (hne : allT ts ms) (hk0 : k = 0 → moreP ts ms one = true) :
    m_law01_ClothMore1_L1 N m rd ⟨ts, ms⟩ hour v k = some (.inl (k + 1)) := by
  have how : m_law01_own N ⟨ts, ms⟩ = some ⟨ts, ms⟩ := onlyIf_pos ⟨hl.1, by simp only; omega⟩
  have hwa : 0 ≤ one.what ∧ one.what ≤ 2 := by
    simp only [isMeas, isWhat, Bool.and_eq_true, within_one] at hom; omega
  have hop : (openR ts ms).1 = 0 := open_of hck (rTrue_iff.2 hne)
  have hop2 := more_open hck hc2 hwa.1 hwa.2 hne
  have hfit : m_cloth_Fits N ⟨ts, ms⟩ one = some (moreS ts ms one, moreP ts ms one, 0) := by
    unfold m_cloth_Fits
    rw [onlyIf_pos ⟨hin, by unfold i64ok; omega⟩, fitsRes, if_neg (by simp [hop]), if_pos hom]; rfl
  have hle : (ms ++ [one]).length = ms.length + 1 := by simp
  have hin2 : ClothIn ts (ms ++ [one]) := by
    refine ⟨hin.1, by rw [hle]; omega, fun x hx => ?_⟩
    rcases List.mem_append.1 hx with h | h
    · exact hin.2.2 x h
    · rw [List.mem_singleton.1 h]; unfold i64ok; omega
  have how2 : m_law01_own N ⟨ts, ms ++ [one]⟩ = some ⟨ts, ms ++ [one]⟩ := onlyIf_pos ⟨hl.1, by simp only [hle]; omega⟩
  have hown : m_law01_own1 N ⟨ts, ms⟩ = some ⟨ts, ms⟩ := onlyIf_pos ⟨hl.1, by simp only; omega, hms⟩
  have hat : m_cloth_At N ⟨ts, ms⟩ hour = some (threeS (hullW ts ms hour), 0) := by
    unfold m_cloth_At
    rw [onlyIf_pos hin, atRes, if_neg (by simp [hop]), if_pos (by rw [within_one]; omega)]; rfl
  have hrt : m_cloth_Rates N ⟨ts, ms⟩ = some (threeS (rateW ts ms), 0) := by
    unfold m_cloth_Rates
    rw [onlyIf_pos hin, ratesRes, if_neg (by simp [hop])]; rfl
  have hrd : (if 0 ≤ k ∧ k < 2 then if k = 0 then some m.reading else some rd else none) = some one.reading := by
    rw [if_pos hk, hone]
    by_cases h : k = 0
    · simp only [if_pos h]
    · simp only [if_neg h]
  have heta : (⟨m.what, m.hour, one.reading, m.off⟩ : Meas) = one := by rw [hone]
  have hwt : m.what = one.what := by rw [hone]
  have hk1 : iopR .add .i64 k 1 = k + 1 := addW (by omega)
  have hlim : iopR .mul .i64 7 (IntKind.wrap .i64 v.a2) = 7 * v.a2 := by rw [wrap_i64 (n := v.a2) (by omega), mulW (by omega)]
  have hfn : fitsN (ms.length + 1) 32 := ⟨by omega, by omega⟩
  have hkk : k < 2 := hk.2
  have hsp := more_sp hck hwa.1 hwa.2 hne
  unfold m_law01_ClothMore1_L1
  simp only [icmp_lss, icmp_eql, decide_eq_true_eq, if_pos hkk, hrd, bindS, heta, how, hfit, hown, hat, hrt]
  by_cases hP : moreP ts ms one = true
  · rw [if_pos hP] at hop2
    have hat2 : m_cloth_At N ⟨ts, ms ++ [one]⟩ hour = some (threeS (hullW ts (ms ++ [one]) hour), 0) := by
      unfold m_cloth_At
      rw [onlyIf_pos hin2, atRes, if_neg (by simp [hop2]), if_pos (by rw [within_one]; omega)]; rfl
    have hrt2 : m_cloth_Rates N ⟨ts, ms ++ [one]⟩ = some (threeS (rateW ts (ms ++ [one])), 0) := by
      unfold m_cloth_Rates
      rw [onlyIf_pos hin2, ratesRes, if_neg (by simp [hop2])]; rfl
    have hbl : m_cloth_Below N ⟨ts, ms⟩ one.what (7 * v.a2) = some (belowS ts ms one.what (7 * v.a2), belowP ts ms one.what (7 * v.a2), 0) := by
      unfold m_cloth_Below
      rw [onlyIf_pos ⟨hin, by unfold i64ok; omega⟩, belowRes, if_neg (by simp [hop]), if_pos (by unfold isWhat; rw [within_one]; omega), if_pos (by rw [within_one]; omega)]
    have hbl2 : m_cloth_Below N ⟨ts, ms ++ [one]⟩ one.what (7 * v.a2) = some (belowS ts (ms ++ [one]) one.what (7 * v.a2), belowP ts (ms ++ [one]) one.what (7 * v.a2), 0) := by
      unfold m_cloth_Below
      rw [onlyIf_pos ⟨hin2, by unfold i64ok; omega⟩, belowRes, if_neg (by simp [hop2]), if_pos (by unfold isWhat; rw [within_one]; omega), if_pos (by rw [within_one]; omega)]
    have l2 : _ := more_L2_1 N (A := hullW ts ms hour) (A' := hullW ts (ms ++ [one]) hour) (R := rateW ts ms) (R' := rateW ts (ms ++ [one])) (n1 := 0) (n2 := 0) (n3 := 0) (n4 := 0) (S := moreS ts ms one) (P := true) (e := 0) hN
      (fun i i0 i1 => more_at hck hc2 hwa.1 hwa.2 hne hP i0 (by omega)) (fun i i0 i1 => more_rate hck hc2 hwa.1 hwa.2 hne hP i0 (by omega))
    obtain ⟨q1, q2⟩ := more_below hck hc2 hwa.1 hwa.2 hne hP hwa.1 hwa.2 (7 * v.a2)
    have c1 : ¬ belowS ts (ms ++ [one]) one.what (7 * v.a2) > belowS ts ms one.what (7 * v.a2) := by omega
    have c2 : ¬ belowP ts (ms ++ [one]) one.what (7 * v.a2) < belowP ts ms one.what (7 * v.a2) := by omega
    generalize ms ++ [one] = M at *
    simp only [if_pos hfn, bindS, hat2, hrt2, how2, letO_eq, icmp_neq, threeS_len, l2, hP, hwt, hlim, hbl, hbl2, icmp_gtr, icmp_lss, icmp_eql, c1, c2, decide_false, decide_true, ne_eq, not_true, Bool.false_eq_true, if_false, if_true, Bool.not_true, beq_self_eq_true, hk1, show ((3 : Nat) : Int) = 3 from rfl]
    simp only [ite_self, bindS, l2, hbl, hbl2, hP, c1, c2, decide_false, Bool.false_eq_true, if_false, hk1, hlim, how]
  · have hPf : moreP ts ms one = false := by simpa using hP
    have hSf : moreS ts ms one = false := by
      cases h : moreS ts ms one with
      | false => rfl
      | true => rw [hsp h] at hPf; cases hPf
    have hkn : ¬ k = 0 := fun h => hP (hk0 h)
    rw [if_neg hP] at hop2
    have hat2 : m_cloth_At N ⟨ts, ms ++ [one]⟩ hour = some ([], 9) := by
      unfold m_cloth_At
      rw [onlyIf_pos hin2, atRes, if_pos (by simp [hop2]), hop2]; rfl
    have hrt2 : m_cloth_Rates N ⟨ts, ms ++ [one]⟩ = some ([], 9) := by
      unfold m_cloth_Rates
      rw [onlyIf_pos hin2, ratesRes, if_pos (by simp [hop2]), hop2]; rfl
    generalize ms ++ [one] = M at *
    simp only [if_pos hfn, bindS, hat2, hrt2, how2, letO_eq, icmp_neq, threeS_len, hPf, hSf, if_neg hkn, hwt, icmp_gtr, icmp_lss, icmp_eql, decide_false, decide_true, ne_eq, not_true, not_false_iff, Bool.false_eq_true, if_false, if_true, Bool.not_true, Bool.not_false, beq_self_eq_true, hk1, show ((3 : Nat) : Int) = 3 from rfl, List.length_nil]
    simp [hk1, addW]
theorem more_L2_0 (N : Nat) {A A' R R' : Int → Span} {n1 n2 n3 n4 : Int} {S P : Bool} {e : Int} (hN : 100 ≤ N)
    (hA : ∀ i : Int, 0 ≤ i → i < 3 → ((A i).low ≤ (A' i).low ∧ (A' i).high ≤ (A i).high) ∧ (S = true → A' i = A i))
    (hR : ∀ i : Int, 0 ≤ i → i < 3 → ((R i).low ≤ (R' i).low ∧ (R' i).high ≤ (R i).high) ∧ (S = true → R' i = R i)) :
    loopO (m_law01_ClothMore0_L2 N (threeS A', n1) (threeS A, n2) (threeS R', n3) (threeS R, n4) (S, P, e)) N 0 = some (.inr ()) := by
  obtain ⟨q, hq, hp⟩ := loopO_of (step := m_law01_ClothMore0_L2 N (threeS A', n1) (threeS A, n2) (threeS R', n3) (threeS R, n4) (S, P, e)) (fun i => 0 ≤ i ∧ i ≤ 3) (fun i => (3 - i).toNat) (fun q => q = .inr ()) (fun i hi => by
    obtain ⟨i0, i1⟩ := hi
    simp only [m_law01_ClothMore0_L2, icmp_lss, decide_eq_true_eq]
    by_cases hc : i < 3
    · left
      rw [if_pos hc]
      obtain ⟨⟨a1, a2⟩, a3⟩ := hA i i0 hc
      obtain ⟨⟨r1, r2⟩, r3⟩ := hR i i0 hc
      refine ⟨i + 1, ?_, by omega, by omega⟩
      have c1 : ¬ (A' i).low < (A i).low := by omega
      have c2 : ¬ (A' i).high > (A i).high := by omega
      have c3 : ¬ (R' i).low < (R i).low := by omega
      have c4 : ¬ (R' i).high > (R i).high := by omega
      simp only [three_get i0 hc, bindS, icmp_gtr, decide_eq_true_eq, c1, c2, c3, c4, if_false, addW (show -9223372036854775808 ≤ i + 1 ∧ i + 1 ≤ 9223372036854775807 by omega)]
      cases hS : S with
      | false => simp only [Bool.false_eq_true, if_false, bindS]
      | true => simp only [a3 hS, r3 hS, eqI_refl, Bool.not_true, Bool.false_eq_true, if_false, if_true, bindS]
    · right
      rw [if_neg hc]
      exact ⟨_, rfl, rfl⟩) N 0 ⟨by omega, by omega⟩ (by omega)
  rw [hq, hp]
theorem more_L1_0 (N : Nat) (hN : 100 ≤ N) {ts : List Track} {ms : List Meas} {m : Meas} {rd hour k : Int} {v : A3_u8} (hk : 0 ≤ k ∧ k < 2) (hh : 0 ≤ hour ∧ hour ≤ 48) (hv : 0 ≤ v.a2 ∧ v.a2 ≤ 255)
    (one : Meas) (hone : one = ⟨m.what, m.hour, if k = 0 then m.reading else rd, m.off⟩) (hl : ts.length ≤ 1000000 ∧ ms.length ≤ 900000) (hms : ms = []) (hin : ClothIn ts ms)
    (hck : check ts ms = 0) (hc2 : check ts (ms ++ [one]) = 0) (hom : isMeas one = true) (hne : allT ts ms) (hk0 : k = 0 → moreP ts ms one = true) :
    m_law01_ClothMore0_L1 N m rd ⟨ts, ms⟩ hour v k = some (.inl (k + 1)) := by
  have how : m_law01_own N ⟨ts, ms⟩ = some ⟨ts, ms⟩ := onlyIf_pos ⟨hl.1, by simp only; omega⟩
  have hwa : 0 ≤ one.what ∧ one.what ≤ 2 := by
    simp only [isMeas, isWhat, Bool.and_eq_true, within_one] at hom; omega
  have hop : (openR ts ms).1 = 0 := open_of hck (rTrue_iff.2 hne)
  have hop2 := more_open hck hc2 hwa.1 hwa.2 hne
  have hfit : m_cloth_Fits N ⟨ts, ms⟩ one = some (moreS ts ms one, moreP ts ms one, 0) := by
    unfold m_cloth_Fits
    rw [onlyIf_pos ⟨hin, by unfold i64ok; omega⟩, fitsRes, if_neg (by simp [hop]), if_pos hom]; rfl
  have hle : (ms ++ [one]).length = ms.length + 1 := by simp
  have hin2 : ClothIn ts (ms ++ [one]) := by
    refine ⟨hin.1, by rw [hle]; omega, fun x hx => ?_⟩
    rcases List.mem_append.1 hx with h | h
    · exact hin.2.2 x h
    · rw [List.mem_singleton.1 h]; unfold i64ok; omega
  have how2 : m_law01_own N ⟨ts, ms ++ [one]⟩ = some ⟨ts, ms ++ [one]⟩ := onlyIf_pos ⟨hl.1, by simp only [hle]; omega⟩
  have hown : m_law01_own0 N ⟨ts, ms⟩ = some ⟨ts, ms⟩ := onlyIf_pos ⟨hl.1, hms⟩
  have hat : m_cloth_At N ⟨ts, ms⟩ hour = some (threeS (hullW ts ms hour), 0) := by
    unfold m_cloth_At
    rw [onlyIf_pos hin, atRes, if_neg (by simp [hop]), if_pos (by rw [within_one]; omega)]; rfl
  have hrt : m_cloth_Rates N ⟨ts, ms⟩ = some (threeS (rateW ts ms), 0) := by
    unfold m_cloth_Rates
    rw [onlyIf_pos hin, ratesRes, if_neg (by simp [hop])]; rfl
  have hrd : (if 0 ≤ k ∧ k < 2 then if k = 0 then some m.reading else some rd else none) = some one.reading := by
    rw [if_pos hk, hone]
    by_cases h : k = 0
    · simp only [if_pos h]
    · simp only [if_neg h]
  have heta : (⟨m.what, m.hour, one.reading, m.off⟩ : Meas) = one := by rw [hone]
  have hwt : m.what = one.what := by rw [hone]
  have hnl : [one] = ms ++ [one] := by rw [hms]; rfl
  have hk1 : iopR .add .i64 k 1 = k + 1 := addW (by omega)
  have hlim : iopR .mul .i64 7 (IntKind.wrap .i64 v.a2) = 7 * v.a2 := by rw [wrap_i64 (n := v.a2) (by omega), mulW (by omega)]
  have hfn : fitsN (1) 32 := ⟨by omega, by omega⟩
  have hkk : k < 2 := hk.2
  have hsp := more_sp hck hwa.1 hwa.2 hne
  unfold m_law01_ClothMore0_L1
  simp only [icmp_lss, icmp_eql, decide_eq_true_eq, if_pos hkk, hrd, bindS, heta, how, hfit, hown, hat, hrt]
  by_cases hP : moreP ts ms one = true
  · rw [if_pos hP] at hop2
    have hat2 : m_cloth_At N ⟨ts, ms ++ [one]⟩ hour = some (threeS (hullW ts (ms ++ [one]) hour), 0) := by
      unfold m_cloth_At
      rw [onlyIf_pos hin2, atRes, if_neg (by simp [hop2]), if_pos (by rw [within_one]; omega)]; rfl
    have hrt2 : m_cloth_Rates N ⟨ts, ms ++ [one]⟩ = some (threeS (rateW ts (ms ++ [one])), 0) := by
      unfold m_cloth_Rates
      rw [onlyIf_pos hin2, ratesRes, if_neg (by simp [hop2])]; rfl
    have hbl : m_cloth_Below N ⟨ts, ms⟩ one.what (7 * v.a2) = some (belowS ts ms one.what (7 * v.a2), belowP ts ms one.what (7 * v.a2), 0) := by
      unfold m_cloth_Below
      rw [onlyIf_pos ⟨hin, by unfold i64ok; omega⟩, belowRes, if_neg (by simp [hop]), if_pos (by unfold isWhat; rw [within_one]; omega), if_pos (by rw [within_one]; omega)]
    have hbl2 : m_cloth_Below N ⟨ts, ms ++ [one]⟩ one.what (7 * v.a2) = some (belowS ts (ms ++ [one]) one.what (7 * v.a2), belowP ts (ms ++ [one]) one.what (7 * v.a2), 0) := by
      unfold m_cloth_Below
      rw [onlyIf_pos ⟨hin2, by unfold i64ok; omega⟩, belowRes, if_neg (by simp [hop2]), if_pos (by unfold isWhat; rw [within_one]; omega), if_pos (by rw [within_one]; omega)]
    have l2 : _ := more_L2_0 N (A := hullW ts ms hour) (A' := hullW ts (ms ++ [one]) hour) (R := rateW ts ms) (R' := rateW ts (ms ++ [one])) (n1 := 0) (n2 := 0) (n3 := 0) (n4 := 0) (S := moreS ts ms one) (P := true) (e := 0) hN
      (fun i i0 i1 => more_at hck hc2 hwa.1 hwa.2 hne hP i0 (by omega)) (fun i i0 i1 => more_rate hck hc2 hwa.1 hwa.2 hne hP i0 (by omega))
    obtain ⟨q1, q2⟩ := more_below hck hc2 hwa.1 hwa.2 hne hP hwa.1 hwa.2 (7 * v.a2)
    have c1 : ¬ belowS ts (ms ++ [one]) one.what (7 * v.a2) > belowS ts ms one.what (7 * v.a2) := by omega
    have c2 : ¬ belowP ts (ms ++ [one]) one.what (7 * v.a2) < belowP ts ms one.what (7 * v.a2) := by omega
    generalize ms ++ [one] = M at *
    simp only [hnl, if_pos hfn, bindS, hat2, hrt2, how2, letO_eq, icmp_neq, threeS_len, l2, hP, hwt, hlim, hbl, hbl2, icmp_gtr, icmp_lss, icmp_eql, c1, c2, decide_false, decide_true, ne_eq, not_true, Bool.false_eq_true, if_false, if_true, Bool.not_true, beq_self_eq_true, hk1, show ((3 : Nat) : Int) = 3 from rfl]
    simp only [ite_self, bindS, l2, hbl, hbl2, hP, c1, c2, decide_false, Bool.false_eq_true, if_false, hk1, hlim, how]
  · have hPf : moreP ts ms one = false := by simpa using hP
    have hSf : moreS ts ms one = false := by
      cases h : moreS ts ms one with
      | false => rfl
      | true => rw [hsp h] at hPf; cases hPf
    have hkn : ¬ k = 0 := fun h => hP (hk0 h)
    rw [if_neg hP] at hop2
    have hat2 : m_cloth_At N ⟨ts, ms ++ [one]⟩ hour = some ([], 9) := by
      unfold m_cloth_At
      rw [onlyIf_pos hin2, atRes, if_pos (by simp [hop2]), hop2]; rfl
    have hrt2 : m_cloth_Rates N ⟨ts, ms ++ [one]⟩ = some ([], 9) := by
      unfold m_cloth_Rates
      rw [onlyIf_pos hin2, ratesRes, if_pos (by simp [hop2]), hop2]; rfl
    generalize ms ++ [one] = M at *
    simp only [hnl, if_pos hfn, bindS, hat2, hrt2, how2, letO_eq, icmp_neq, threeS_len, hPf, hSf, if_neg hkn, hwt, icmp_gtr, icmp_lss, icmp_eql, decide_false, decide_true, ne_eq, not_true, not_false_iff, Bool.false_eq_true, if_false, if_true, Bool.not_true, Bool.not_false, beq_self_eq_true, hk1, show ((3 : Nat) : Int) = 3 from rfl, List.length_nil]
    simp [hk1, addW]
theorem law_ClothMore (N : Nat) (hN : 2000000 ≤ N) (p : law01_Bolt) (by_ : B4) (v : A3_u8) (hx : (toBolt p).ok) (hb : by_.ok) (hv : (0 ≤ v.a0 ∧ v.a0 ≤ 255) ∧ (0 ≤ v.a1 ∧ v.a1 ≤ 255) ∧ 0 ≤ v.a2 ∧ v.a2 ≤ 255) :
    (boltM (toBolt p) = [] → m_law01_ClothMore0 N p by_ v = some true) ∧ (1 ≤ (boltM (toBolt p)).length → m_law01_ClothMore1 N p by_ v = some true) := by
  have hck := bolt_check hx
  have hin := bolt_clothIn _ hx
  have hlen := boltM_len (toBolt p)
  have hne : allT (boltT (toBolt p)) (boltM (toBolt p)) := fun w w0 w1 => bolt_ne hx w0 w1
  have hcl : m_law01_Bolt_cloth N p = some ⟨boltT (toBolt p), boltM (toBolt p)⟩ := onlyIf_pos hx
  have hme : m_law01_Bolt_measure N (law01_Bolt.mk p.Tracks [by_]) 0 = some (mOf (toBolt p) by_) := by
    unfold m_law01_Bolt_measure
    rw [onlyIf_pos]
    · rfl
    · refine ⟨⟨hx.1, hx.2.1, hx.2.2.1, fun u hu => ?_⟩, by omega, by simp [toBolt]⟩
      simp only [toBolt, List.mem_singleton] at hu
      rw [hu]; exact hb
  have hmo := meas_ok hx hb
  have hmn := meas_near hx hb
  obtain ⟨m, hm⟩ : ∃ m, m = mOf (toBolt p) by_ := ⟨_, rfl⟩
  rw [← hm] at hme hmo hmn
  have hw : 0 ≤ m.what ∧ m.what ≤ 2 := by
    simp only [isMeas, isWhat, Bool.and_eq_true, within_one] at hmo; omega
  have hrd : 0 ≤ m.reading ∧ m.reading ≤ 2000 := by
    simp only [isMeas, isWhat, Bool.and_eq_true, within_one] at hmo; omega
  obtain ⟨hour, hhr⟩ : ∃ h, h = v.a0 % 49 := ⟨_, rfl⟩
  have eh : iopR .rem .i64 (IntKind.wrap .i64 v.a0) 49 = hour := by rw [wrap_i64 (n := v.a0) (by omega), remW (by omega), hhr]
  obtain ⟨rd, hr⟩ : ∃ r, r = min 2000 (m.reading + v.a1) := ⟨_, rfl⟩
  have er : min 2000 (iopR .add .i64 m.reading (IntKind.wrap .i64 v.a1)) = rd := by rw [wrap_i64 (n := v.a1) (by omega), addW (by omega), hr]
  have hp0 : moreP (boltT (toBolt p)) (boltM (toBolt p)) m = true := (moreP_iff hck hw.1 hw.2).2 ⟨_, bolt_in hx hw.1 hw.2, hmn⟩
  have facts : ∀ k : Int, 0 ≤ k → k < 2 → ∀ one : Meas, one = ⟨m.what, m.hour, if k = 0 then m.reading else rd, m.off⟩ → check (boltT (toBolt p)) (boltM (toBolt p) ++ [one]) = 0 ∧ isMeas one = true ∧ (k = 0 → moreP (boltT (toBolt p)) (boltM (toBolt p)) one = true) := by
    intro k k0 k1 one ho
    have hom : isMeas one = true := by
      rw [ho]
      simp only [isMeas, isWhat, Bool.and_eq_true, within_one] at hmo ⊢
      refine ⟨⟨⟨hmo.1.1.1, hmo.1.1.2⟩, ?_⟩, hmo.2⟩
      split <;> omega
    refine ⟨check_of rfl (boltT_ok hx) (by simp; omega) (fun x hx' => ?_), hom, fun e => ?_⟩
    · rcases List.mem_append.1 hx' with h | h
      · exact boltM_ok hx x h
      · rw [List.mem_singleton.1 h]; exact hom
    · rw [ho, if_pos e]; exact hp0
  have hl : (boltT (toBolt p)).length ≤ 1000000 ∧ (boltM (toBolt p)).length ≤ 900000 := ⟨by simp [boltT], by omega⟩
  have fin : ∀ (step : Int → Option (Int ⊕ (Unit ⊕ Unit))), (∀ k : Int, 0 ≤ k → k < 2 → step k = some (.inl (k + 1))) → (∀ k : Int, ¬ k < 2 → step k = some (.inr (.inr ()))) → loopO step N 0 = some (.inr ()) := by
    intro step h1 h2
    obtain ⟨n, rfl⟩ : ∃ n, N = n + 3 := ⟨N - 3, by omega⟩
    rw [loopO_inl (h1 0 (by omega) (by omega)), loopO_inl (h1 (0 + 1) (by omega) (by omega)), loopO_inr (h2 (0 + 1 + 1) (by omega))]
  constructor
  · intro he
    have := fin (m_law01_ClothMore0_L1 N m rd ⟨boltT (toBolt p), boltM (toBolt p)⟩ hour v) (fun k k0 k1 => by
        obtain ⟨g1, g2, g3⟩ := facts k k0 k1 _ rfl
        exact more_L1_0 N (by omega) ⟨k0, k1⟩ (by omega) hv.2.2 _ rfl hl he hin hck g1 g2 hne g3) (fun k hk => by
        simp only [m_law01_ClothMore0_L1, icmp_lss, decide_eq_true_eq, if_neg hk])
    unfold m_law01_ClothMore0
    simp only [hcl, bindS, hme, letO_eq, eh, er, this, m_law01_known]
  · intro he
    have := fin (m_law01_ClothMore1_L1 N m rd ⟨boltT (toBolt p), boltM (toBolt p)⟩ hour v) (fun k k0 k1 => by
        obtain ⟨g1, g2, g3⟩ := facts k k0 k1 _ rfl
        exact more_L1_1 N (by omega) ⟨k0, k1⟩ (by omega) hv.2.2 _ rfl hl he hin hck g1 g2 hne g3) (fun k hk => by
        simp only [m_law01_ClothMore1_L1, icmp_lss, decide_eq_true_eq, if_neg hk])
    unfold m_law01_ClothMore1
    simp only [hcl, bindS, hme, letO_eq, eh, er, this, m_law01_known]
end Go.Proofs.Ytnekemldcjegaaa.Aw

/- What comes in, for chapter 1: cloths, measurings, spans, read as data. -/
namespace Go.Proofs.Ytnekemldcjegaaa.Aw
open Go Go.RowKit Go.Proofs
set_option maxRecDepth 100000
set_option linter.unusedSimpArgs false
set_option linter.unusedVariables false
theorem Try.own : ownKnob Try.prog.godebug = none := by kernel_rfl
theorem Try.laidOut : laidOutB Try.prog = true := by kernel_rfl
theorem rows_of {α : Type} {g : α → List D} {p : α → Prop} : ∀ {rows : List (List D)}, (∀ row ∈ rows, ∃ a, row = g a ∧ p a) → ∃ l : List α, rows = l.map g ∧ ∀ a ∈ l, p a
  | [], _ => ⟨[], rfl, fun a h => by cases h⟩
  | row :: r, h => by
    obtain ⟨a, e, hp⟩ := h row (by simp)
    obtain ⟨l, e2, hl⟩ := rows_of (g := g) (p := p) (rows := r) (fun x hx => h x (List.mem_cons_of_mem _ hx))
    refine ⟨a :: l, by rw [e, e2]; rfl, fun b hb => ?_⟩
    rcases List.mem_cons.1 hb with rfl | hb
    · exact hp
    · exact hl b hb
end Go.Proofs.Ytnekemldcjegaaa.Aw

/- What comes in, for chapter 1: bolts, bytes, read as data. -/
namespace Go.Proofs.Ytnekemldcjegaaa.Aw
open Go Go.RowKit Go.Proofs
set_option maxRecDepth 100000
set_option linter.unusedSimpArgs false
set_option linter.unusedVariables false
def shU : Sh := .int .u8
def shB4 : Sh := .agg [shU, shU, shU, shU]
def shBolt : Sh := .agg [.agg [shB4, shB4, shB4], .sl shB4]
def shA3 : Sh := .agg [shU, shU, shU]
theorem fit_U {xs : List D} (h : shU.Fit xs) : ∃ n : Int, xs = [.int .u8 n] ∧ 0 ≤ n ∧ n ≤ 255 := by
  unfold shU Sh.Fit at h
  obtain ⟨n, rfl, h1, h2⟩ := h
  exact ⟨n, rfl, h1, h2⟩
theorem fit_B4 {xs : List D} (h : shB4.Fit xs) : ∃ v : B4, xs = rowD 4 0 (fun j => (eB4 v j).toD) ∧ v.ok := by
  unfold shB4 Sh.Fit at h
  simp only [Sh.FitL] at h
  obtain ⟨a, b, rfl, ha, c, d, rfl, hc, e, f, rfl, he, g, i, rfl, hg, rfl⟩ := h
  obtain ⟨x, rfl, hx⟩ := fit_U ha
  obtain ⟨y, rfl, hy⟩ := fit_U hc
  obtain ⟨z, rfl, hz⟩ := fit_U he
  obtain ⟨u, rfl, hu⟩ := fit_U hg
  exact ⟨⟨x, y, z, u⟩, rfl, hx, hy, hz, hu⟩
theorem fit_A3 {xs : List D} (h : shA3.Fit xs) : ∃ a b c : Int, xs = [.int .u8 a, .int .u8 b, .int .u8 c] ∧ (0 ≤ a ∧ a ≤ 255) ∧ (0 ≤ b ∧ b ≤ 255) ∧ 0 ≤ c ∧ c ≤ 255 := by
  unfold shA3 Sh.Fit at h
  simp only [Sh.FitL] at h
  obtain ⟨a1, b1, rfl, h1, a2, b2, rfl, h2, a3, b3, rfl, h3, rfl⟩ := h
  obtain ⟨v0, rfl, k0⟩ := fit_U h1
  obtain ⟨v1, rfl, k1⟩ := fit_U h2
  obtain ⟨v2, rfl, k2⟩ := fit_U h3
  exact ⟨v0, v1, v2, rfl, k0, k1, k2⟩
theorem fit_bolt {xs : List D} (h : shBolt.Fit xs) : ∃ x : Bolt, shBolt.arg xs = (kBolt x).toD ∧ x.ok := by
  unfold shBolt Sh.Fit at h
  simp only [Sh.FitL] at h
  obtain ⟨a, b, rfl, ha, c, d, rfl, hc, rfl⟩ := h
  unfold Sh.Fit at ha hc
  simp only [Sh.FitL] at ha
  obtain ⟨a1, b1, rfl, h1, a2, b2, rfl, h2, a3, b3, rfl, h3, rfl⟩ := ha
  obtain ⟨t0, rfl, k0⟩ := fit_B4 h1
  obtain ⟨t1, rfl, k1⟩ := fit_B4 h2
  obtain ⟨t2, rfl, k2⟩ := fit_B4 h3
  obtain ⟨rc, rfl, lc, hc⟩ := hc
  obtain ⟨ms, rfl, hm⟩ := rows_of (fun row hr => fit_B4 (hc row hr))
  exact ⟨⟨t0, t1, t2, ms⟩, rfl, k0, k1, k2, hm⟩
end Go.Proofs.Ytnekemldcjegaaa.Aw
