/- Part 6 of the proof: lemmas. -/
import Derived.Test.YtnekemldcjegaaaM5
import Derived.Test.YtnekemldcjegaaaM4
import Derived.Test.YtnekemldcjegaaaRows

/- Plain: for how long a bolt's cloth was beaten, and of which yarns it is. -/
namespace Go.Proofs.Ytnekemldcjegaaa.Aw
open Go Go.RowKit Go.Proofs
set_option linter.unusedSimpArgs false
set_option linter.unusedVariables false
theorem hoursN_mem {f : Int → Bool} {h : Int} : ∀ {n : Nat}, h ∈ hoursN f n ↔ (0 ≤ h ∧ h < n) ∧ f h = true
  | 0 => by simp only [hoursN, List.not_mem_nil, false_iff]; omega
  | n + 1 => by
    simp only [hoursN, List.mem_append, hoursN_mem (n := n)]
    constructor
    · rintro (⟨a, b⟩ | a)
      · exact ⟨by omega, b⟩
      · split at a
        · rename_i hf; simp at a; subst a; exact ⟨by omega, hf⟩
        · cases a
    · rintro ⟨a, b⟩
      by_cases e : h = n
      · subst e; right; rw [if_pos b]; simp
      · exact .inl ⟨by omega, b⟩
theorem hoursN_sorted (f : Int → Bool) : ∀ n : Nat, (hoursN f n).Pairwise (· < ·)
  | 0 => by simp [hoursN]
  | n + 1 => by
    simp only [hoursN]
    refine List.pairwise_append.2 ⟨hoursN_sorted f n, by split <;> simp, fun a ha b hb => ?_⟩
    have := (hoursN_mem.1 ha).1
    split at hb
    · simp at hb; omega
    · cases hb
def howNow (v : B4) (n : Int) : Span := ⟨max 0 (n - v.b % 9), n + v.c % 9⟩
def howYarn (v : B4) (g : Int) : Span := ⟨max 0 (g - v.d % 9), g + v.d / 16⟩
def howWide (y : Span) : Span := ⟨max 0 (y.low - 1), y.high + 1⟩
def trueAt (x : Bolt) (h w : Int) : Int := aft (tFirst (x.sel w)) (tRate (x.sel w)) h.toNat
def howNows (x : Bolt) (v : B4) : List Span := [howNow v (trueAt x (v.a % 49) 0), howNow v (trueAt x (v.a % 49) 1), howNow v (trueAt x (v.a % 49) 2)]
def howYarns (x : Bolt) (v : B4) : List Span := [howYarn v (tRate (x.sel 0)), howYarn v (tRate (x.sel 1)), howYarn v (tRate (x.sel 2))]
def howWides (x : Bolt) (v : B4) : List Span := [howWide (howYarn v (tRate (x.sel 0))), howWide (howYarn v (tRate (x.sel 1))), howWide (howYarn v (tRate (x.sel 2)))]
theorem trueAt_range {x : Bolt} (hx : x.ok) (h w : Int) : 0 ≤ trueAt x h w ∧ trueAt x h w ≤ 1845 := by
  obtain ⟨⟨f0, f1⟩, g0, g1⟩ := tru_range (sel_ok hx w)
  have := aft_range (x := tFirst (x.sel w)) (r := tRate (x.sel w)) (by omega) (by omega) h.toNat
  unfold trueAt; omega
theorem trueAt_in {x : Bolt} (hx : x.ok) {h w : Int} (h0 : 0 ≤ w) (h1 : w ≤ 2) : trueAt x h w ∈ valT h (truW (boltT x) (boltM x) noSkip w) :=
  List.mem_map.2 ⟨_, bolt_in hx h0 h1, rfl⟩
theorem now_ok {v : B4} (hv : v.ok) {n : Int} (hn : 0 ≤ n ∧ n ≤ 1845) : isNow (howNow v n) = true ∧ inSpan (howNow v n) n = true := by
  obtain ⟨⟨a0, a1⟩, ⟨b0, b1⟩, ⟨c0, c1⟩, d0, d1⟩ := hv
  unfold isNow inSpan howNow
  rw [isSpan_iff, within_one]
  simp only; omega
theorem yarn_ok {v : B4} (hv : v.ok) {g : Int} (hg : 5 ≤ g ∧ g ≤ 84) : (isRate (howYarn v g) = true ∧ (howYarn v g).low ≤ g ∧ g ≤ (howYarn v g).high) ∧ isRate (howWide (howYarn v g)) = true ∧ (howWide (howYarn v g)).low ≤ g ∧ g ≤ (howWide (howYarn v g)).high := by
  obtain ⟨⟨a0, a1⟩, ⟨b0, b1⟩, ⟨c0, c1⟩, d0, d1⟩ := hv
  unfold isRate howWide howYarn
  rw [isSpan_iff, isSpan_iff]
  simp only; omega
theorem val_mem {x : Bolt} (hx : x.ok) {h w n : Int} (h0 : 0 ≤ w) (h1 : w ≤ 2) : n ∈ valW (boltT x) (boltM x) w h ↔ n ∈ valT h (truW (boltT x) (boltM x) noSkip w) := val_iff (bolt_check hx) h0 h1
theorem how_can {x : Bolt} (hx : x.ok) {v : B4} (hv : v.ok) : canW (boltT x) (boltM x) (howNows x v) (v.a % 49) = true := by
  have key : ∀ w : Int, 0 ≤ w → w ≤ 2 → (valW (boltT x) (boltM x) w (v.a % 49)).any (inSpan (howNow v (trueAt x (v.a % 49) w))) = true := fun w h0 h1 =>
    List.any_eq_true.2 ⟨_, (val_mem hx h0 h1).2 (trueAt_in hx h0 h1), (now_ok hv (trueAt_range hx _ w)).2⟩
  simp only [canW, howNows, canB, Bool.and_true, Bool.and_eq_true]
  exact ⟨key 0 (by omega) (by omega), key 1 (by omega) (by omega), key 2 (by omega) (by omega)⟩
def howL (x : Bolt) (v : B4) : List Int := hoursN (canW (boltT x) (boltM x) (howNows x v)) 49
theorem how_mem {x : Bolt} (hx : x.ok) {v : B4} (hv : v.ok) : v.a % 49 ∈ howL x v :=
  hoursN_mem.2 ⟨by obtain ⟨⟨a0, a1⟩, _⟩ := hv; omega, how_can hx hv⟩
theorem how_hours {x : Bolt} (hx : x.ok) {v : B4} (hv : v.ok) : hoursRes (boltT x) (boltM x) (howNows x v) = (some (howL x v), 0) := by
  have hn : (howNows x v).length = 3 ∧ (howNows x v).any (fun s => !isNow s) = false := by
    refine ⟨rfl, ?_⟩
    simp only [howNows, List.any_cons, List.any_nil, (now_ok hv (trueAt_range hx _ _)).1, Bool.not_true, Bool.or_self]
  have hne : hoursN (canW (boltT x) (boltM x) (howNows x v)) 49 ≠ [] := fun e => by
    have := how_mem hx hv
    unfold howL at this
    rw [e] at this; cases this
  rw [hoursRes, if_neg (by simp [bolt_open hx]), if_pos hn, if_neg hne]; rfl
theorem how_each {x : Bolt} (hx : x.ok) {v : B4} {h : Int} (hm : h ∈ howL x v) : (0 ≤ h ∧ h ≤ 48) ∧ ∀ w : Int, 0 ≤ w → w ≤ 2 →
    (hullW (boltT x) (boltM x) h w).low ≤ (howNow v (trueAt x (v.a % 49) w)).high ∧ (howNow v (trueAt x (v.a % 49) w)).low ≤ (hullW (boltT x) (boltM x) h w).high := by
  obtain ⟨a, b⟩ := hoursN_mem.1 hm
  refine ⟨by omega, fun w h0 h1 => ?_⟩
  have key : (valW (boltT x) (boltM x) w h).any (inSpan (howNow v (trueAt x (v.a % 49) w))) = true := by
    simp only [canW, howNows, canB, Bool.and_true, Bool.and_eq_true] at b
    have hw : w = 0 ∨ w = 1 ∨ w = 2 := by omega
    rcases hw with rfl | rfl | rfl
    · exact b.1
    · exact b.2.1
    · exact b.2.2
  obtain ⟨n, hn, hi⟩ := List.any_eq_true.1 key
  have hh := (hullW_is (h := h) (bolt_check hx) h0 h1 (fun e => by have := bolt_in hx h0 h1; rw [e] at this; cases this)).all n ((val_mem hx h0 h1).1 hn)
  unfold inSpan at hi
  rw [within_one] at hi
  omega
theorem yarn_true {x : Bolt} (hx : x.ok) {a b c : Span} (ha : isRate a = true ∧ a.low ≤ tRate (x.sel 0) ∧ tRate (x.sel 0) ≤ a.high) (hb : isRate b = true ∧ b.low ≤ tRate (x.sel 1) ∧ tRate (x.sel 1) ≤ b.high) (hc : isRate c = true ∧ c.low ≤ tRate (x.sel 2) ∧ tRate (x.sel 2) ≤ c.high) :
    isTrueB (ofY (boltT x) [a, b, c]) (boltM x) noSkip = true := by
  have hny : isNoYarn [a, b, c] = false := by simp [isNoYarn, ha.1, hb.1, hc.1]
  have hck := check_ofY (bolt_check hx) hny
  rw [isTrue_eq hck]
  refine true_of (fun w h0 h1 e => ?_)
  have hm : (⟨tFirst (x.sel w), tRate (x.sel w)⟩ : Tru) ∈ truW (ofY (boltT x) [a, b, c]) (boltM x) noSkip w := by
    have hsp : ((ofY (boltT x) [a, b, c]).getD w.toNat track0).first = (tOf (x.sel w)).first ∧ ((ofY (boltT x) [a, b, c]).getD w.toNat track0).rate.low ≤ tRate (x.sel w) ∧ tRate (x.sel w) ≤ ((ofY (boltT x) [a, b, c]).getD w.toNat track0).rate.high := by
      have hw : w = 0 ∨ w = 1 ∨ w = 2 := by omega
      rcases hw with rfl | rfl | rfl
      · exact ⟨rfl, ha.2⟩
      · exact ⟨rfl, hb.2⟩
      · exact ⟨rfl, hc.2⟩
    obtain ⟨s1, s2, s3⟩ := hsp
    obtain ⟨c1, c2, c3, c4⟩ := sel_ok hx w
    have hfs : (tOf (x.sel w)).first.low ≤ tFirst (x.sel w) ∧ tFirst (x.sel w) ≤ (tOf (x.sel w)).first.high := by simp only [tOf]; omega
    unfold truW truT
    rw [mem_truX, s1]
    refine ⟨by simp only; omega, by simp only; omega, okL_all (fun m hm hw => ?_)⟩
    obtain ⟨u, hu, rfl⟩ := boltM_mem hm
    rw [← hw]
    exact meas_near hx (hx.2.2.2 u hu)
  rw [e] at hm; cases hm
theorem how_yarns {x : Bolt} (hx : x.ok) {v : B4} (hv : v.ok) : yarnsRes (boltT x) (boltM x) [howYarns x v, howWides x v] = (some [0, 1], 0) := by
  have k := fun w : Int => yarn_ok hv (tru_range (sel_ok hx w)).2
  have n1 : isNoYarn (howYarns x v) = false := by simp [isNoYarn, howYarns, (k 0).1.1, (k 1).1.1, (k 2).1.1]
  have n2 : isNoYarn (howWides x v) = false := by simp [isNoYarn, howWides, (k 0).2.1, (k 1).2.1, (k 2).2.1]
  have e1 : isTrueB (ofY (boltT x) (howYarns x v)) (boltM x) noSkip = true := yarn_true hx (k 0).1 (k 1).1 (k 2).1
  have e2 : isTrueB (ofY (boltT x) (howWides x v)) (boltM x) noSkip = true := yarn_true hx (k 0).2 (k 1).2 (k 2).2
  rw [yarnsRes, if_neg (by simp [bolt_check hx]), if_neg (by simp), if_neg (by simp [n1, n2])]
  simp [yarnsN, e1, e2]
end Go.Proofs.Ytnekemldcjegaaa.Aw

/- Plain: what is so from hour to hour. -/
namespace Go.Proofs.Ytnekemldcjegaaa.Aw
open Go Go.RowKit Go.Proofs
set_option linter.unusedSimpArgs false
set_option linter.unusedVariables false
section
variable {ts : List Track} {ms : List Meas}
end
end Go.Proofs.Ytnekemldcjegaaa.Aw

/- Types of chapter 1, printed by wip/gen/ch1.py. -/
namespace Go.Proofs.Ytnekemldcjegaaa.Aw
open Go Go.RowKit Go.Proofs
set_option maxRecDepth 100000
set_option maxHeartbeats 4000000
set_option linter.unusedSimpArgs false
set_option linter.unusedVariables false
noncomputable section
structure api_Cloth where
  Tracks : (List Track)
  Measures : (List Meas)
structure A3_A4_u8 where
  a0 : B4
  a1 : B4
  a2 : B4
structure law01_Bolt where
  Tracks : A3_A4_u8
  Measures : (List B4)
structure cloth_stretch where
  Span : Span
  rate : Int
structure A3_L_cloth_stretch where
  a0 : (List cloth_stretch)
  a1 : (List cloth_stretch)
  a2 : (List cloth_stretch)
structure A2_u8 where
  a0 : Int
  a1 : Int
structure A3_u8 where
  a0 : Int
  a1 : Int
  a2 : Int
end
end Go.Proofs.Ytnekemldcjegaaa.Aw

/- Plain models of what was walked by hand: the functions of chapter 1, as the laws call them. -/
namespace Go.Proofs.Ytnekemldcjegaaa.Aw
open Go Go.RowKit Go.Proofs
set_option maxRecDepth 100000
set_option linter.unusedSimpArgs false
set_option linter.unusedVariables false
open Classical
/-- Where it is so, x. -/
noncomputable def onlyIf {α : Type} (p : Prop) (x : α) : Option α := if p then some x else none
theorem onlyIf_of {α : Type} {p : Prop} {x o : α} (h : onlyIf p x = some o) : p ∧ o = x := by
  unfold onlyIf at h
  split at h
  · rename_i hp; cases h; exact ⟨hp, rfl⟩
  · cases h
theorem onlyIf_pos {α : Type} {p : Prop} {x : α} (h : p) : onlyIf p x = some x := by unfold onlyIf; rw [if_pos h]
def orE {α : Type} (x : Option (List α)) : List α := x.getD []
theorem lv_spans (x : Option (List Span)) : LV (kSpans x) (slSpan false (orE x)) := by
  cases x with
  | none => exact LV_nil
  | some l => exact lR
theorem lv_ints (x : Option (List Int)) : LV (kInts x) (slInt false (orE x)) := by
  cases x with
  | none => exact LV_nil
  | some l => exact lR
def toBolt (x : law01_Bolt) : Bolt := ⟨x.Tracks.a0, x.Tracks.a1, x.Tracks.a2, x.Measures⟩
noncomputable def m_cloth_At (N : Nat) (c : api_Cloth) (h : Int) : Option (List Span × Int) := onlyIf (ClothIn c.Tracks c.Measures) (orE (atRes c.Tracks c.Measures h).1, (atRes c.Tracks c.Measures h).2)
theorem w_cloth_At (N : Nat) (c : api_Cloth) (h : Int) (o : List Span × Int) (e : m_cloth_At N c h = some o) : KC Try.prog 21 [.agg [slTrack false c.Tracks, slMeas false c.Measures], .int .i64 h] (.tup [slSpan false o.1, .int .i64 o.2]) [] := by
  obtain ⟨hp, rfl⟩ := onlyIf_of e
  exact KC_res (con_At c.Tracks c.Measures h hp) (LV_tup ⟨lv_spans _, lR, rfl⟩)
noncomputable def m_cloth_Rates (N : Nat) (c : api_Cloth) : Option (List Span × Int) := onlyIf (ClothIn c.Tracks c.Measures) (orE (ratesRes c.Tracks c.Measures).1, (ratesRes c.Tracks c.Measures).2)
theorem w_cloth_Rates (N : Nat) (c : api_Cloth) (o : List Span × Int) (e : m_cloth_Rates N c = some o) : KC Try.prog 22 [.agg [slTrack false c.Tracks, slMeas false c.Measures]] (.tup [slSpan false o.1, .int .i64 o.2]) [] := by
  obtain ⟨hp, rfl⟩ := onlyIf_of e
  exact KC_res (con_Rates c.Tracks c.Measures hp) (LV_tup ⟨lv_spans _, lR, rfl⟩)
noncomputable def m_cloth_Hours (N : Nat) (c : api_Cloth) (now : List Span) : Option (List Int × Int) := onlyIf (ClothIn c.Tracks c.Measures ∧ (now.length : Int) ≤ 140737488355328) (orE (hoursRes c.Tracks c.Measures now).1, (hoursRes c.Tracks c.Measures now).2)
theorem w_cloth_Hours (N : Nat) (c : api_Cloth) (now : List Span) (o : List Int × Int) (e : m_cloth_Hours N c now = some o) : KC Try.prog 43 [.agg [slTrack false c.Tracks, slMeas false c.Measures], slSpan false now] (.tup [slInt false o.1, .int .i64 o.2]) [] := by
  obtain ⟨hp, rfl⟩ := onlyIf_of e
  exact KC_res (con_Hours c.Tracks c.Measures now hp.1 hp.2) (LV_tup ⟨lv_ints _, lR, rfl⟩)
noncomputable def m_cloth_Yarns (N : Nat) (c : api_Cloth) (ys : List (List Span)) : Option (List Int × Int) := onlyIf (ClothIn c.Tracks c.Measures ∧ (ys.length : Int) ≤ 140737488355328 ∧ ∀ y ∈ ys, (y.length : Int) ≤ 140737488355328) (orE (yarnsRes c.Tracks c.Measures ys).1, (yarnsRes c.Tracks c.Measures ys).2)
theorem w_cloth_Yarns (N : Nat) (c : api_Cloth) (ys : List (List Span)) (o : List Int × Int) (e : m_cloth_Yarns N c ys = some o) : KC Try.prog 40 [.agg [slTrack false c.Tracks, slMeas false c.Measures], slYarn false ys] (.tup [slInt false o.1, .int .i64 o.2]) [] := by
  obtain ⟨hp, rfl⟩ := onlyIf_of e
  exact KC_res (con_Yarns c.Tracks c.Measures ys hp.1 hp.2.1 hp.2.2) (LV_tup ⟨lv_ints _, lR, rfl⟩)
def m_law01_known (N : Nat) : Option Bool := some true
theorem w_law01_known (N : Nat) (o : Bool) (e : m_law01_known N = some o) : KC Try.prog 18 [] (.bool o) [] := by
  cases e; exact con_known
noncomputable def m_law01_own (N : Nat) (c : api_Cloth) : Option api_Cloth := onlyIf (c.Tracks.length ≤ 1000000 ∧ c.Measures.length ≤ 1000000) c
theorem w_law01_own (N : Nat) (c : api_Cloth) (o : api_Cloth) (e : m_law01_own N c = some o) : KC Try.prog 47 [.agg [slTrack false c.Tracks, slMeas false c.Measures]] (.agg [slTrack false o.Tracks, slMeas false o.Measures]) [] := by
  obtain ⟨hp, rfl⟩ := onlyIf_of e
  exact con_own o.Tracks o.Measures hp.1 hp.2
def kB (x : law01_Bolt) : KV := .agg [.int .u8 x.Tracks.a0.a, .int .u8 x.Tracks.a0.b, .int .u8 x.Tracks.a0.c, .int .u8 x.Tracks.a0.d, .int .u8 x.Tracks.a1.a, .int .u8 x.Tracks.a1.b, .int .u8 x.Tracks.a1.c, .int .u8 x.Tracks.a1.d, .int .u8 x.Tracks.a2.a, .int .u8 x.Tracks.a2.b, .int .u8 x.Tracks.a2.c, .int .u8 x.Tracks.a2.d, slB4 false x.Measures]
noncomputable def m_law01_Bolt_cloth (N : Nat) (x : law01_Bolt) : Option api_Cloth := onlyIf (toBolt x).ok ⟨boltT (toBolt x), boltM (toBolt x)⟩
theorem w_law01_Bolt_cloth (N : Nat) (x : law01_Bolt) (o : api_Cloth) (e : m_law01_Bolt_cloth N x = some o) : KC Try.prog 46 [kB x] (.agg [slTrack false o.Tracks, slMeas false o.Measures]) [] := by
  obtain ⟨hp, rfl⟩ := onlyIf_of e
  exact con_cloth (toBolt x) hp
noncomputable def m_law01_Bolt_truth (N : Nat) (x : law01_Bolt) (w : Int) : Option (Int × Int) := onlyIf ((toBolt x).ok ∧ 0 ≤ w ∧ w ≤ 2) (tFirst ((toBolt x).sel w), tRate ((toBolt x).sel w))
theorem w_law01_Bolt_truth (N : Nat) (x : law01_Bolt) (w : Int) (o : Int × Int) (e : m_law01_Bolt_truth N x w = some o) : KC Try.prog 49 [kB x, .int .i64 w] (.tup [.int .i64 o.1, .int .i64 o.2]) [] := by
  obtain ⟨hp, rfl⟩ := onlyIf_of e
  exact con_truth (toBolt x) hp.1 hp.2.1 hp.2.2
noncomputable def m_law01_after (N : Nat) (x r h : Int) : Option Int := onlyIf ((0 ≤ x ∧ x ≤ 1000000) ∧ (0 ≤ r ∧ r ≤ 1000) ∧ h ≤ 1000000) (aft x r h.toNat)
theorem w_law01_after (N : Nat) (x r h : Int) (o : Int) (e : m_law01_after N x r h = some o) : KC Try.prog 51 [.int .i64 x, .int .i64 r, .int .i64 h] (.int .i64 o) [] := by
  obtain ⟨hp, rfl⟩ := onlyIf_of e
  exact con_lafter x r h hp.1 hp.2.1 hp.2.2
end Go.Proofs.Ytnekemldcjegaaa.Aw

/- Plain models of what was walked by hand: the truths of a cloth, opened, and their values. -/
namespace Go.Proofs.Ytnekemldcjegaaa.Aw
open Go Go.RowKit Go.Proofs
set_option maxRecDepth 100000
set_option linter.unusedSimpArgs false
set_option linter.unusedVariables false
end Go.Proofs.Ytnekemldcjegaaa.Aw

/- Plain models and walks of chapter 1, printed by wip/gen/ch1.py. -/
namespace Go.Proofs.Ytnekemldcjegaaa.Aw
open Go Go.RowKit Go.Proofs
set_option maxRecDepth 100000
set_option maxHeartbeats 4000000
set_option linter.unusedSimpArgs false
set_option linter.unusedVariables false
noncomputable section
def m_law01_span (N : Nat) (low_1 : Int) (high_2 : Int) : Option (Span) :=
  some (Span.mk low_1 high_2)
theorem w_law01_span (N : Nat) (low_1 : Int) (high_2 : Int) (o : Span) (h : m_law01_span N low_1 high_2 = some o) :
    KC Try.prog 54 [.int .i64 low_1, .int .i64 high_2] (.agg [.int .i64 o.low, .int .i64 o.high]) [] := by
  unfold m_law01_span at h
  refine con_l [] [] seat Try.func54 rfl ent_54 (by kernel_rfl) rfl rfl (by simp) ?_; intro base I hI; (conv => cbv)
  cases h
  subst_vars
  exact ⟨(LV_agg ⟨lE, lE, rfl⟩), rfl⟩
def m_law01_has_L1 (N : Nat) (l_1 : (List Int)) (n_2 : Int) : Int → Option ((Int) ⊕ ((Unit) ⊕ (Unit)))
  | i_4 =>
    if icmpR .lss i_4 ((l_1.length : Nat) : Int) then
      (getO 0 l_1 i_4).bind fun x_6 =>
      if icmpR .eql x_6 n_2 then
        some (.inr (.inl ()))
      else
        some (.inl (iopR .add .i64 i_4 1))
    else
      some (.inr (.inr ()))
def m_law01_has (N : Nat) (l_1 : (List Int)) (n_2 : Int) : Option (Bool) :=
  (loopO (m_law01_has_L1 N l_1 n_2) N 0).bind fun q => match q with
  | (.inl ()) =>
    some true
  | (.inr ()) =>
    some false
theorem w_law01_has (N : Nat) (l_1 : (List Int)) (n_2 : Int) (o : Bool) (h : m_law01_has N l_1 n_2 = some o) :
    KC Try.prog 53 [slInt false l_1, .int .i64 n_2] (.bool o) [] := by
  unfold m_law01_has at h
  refine con_l [] [] seat Try.func53 rfl ent_53 (by kernel_rfl) rfl rfl (by simp) ?_; intro base I hI; (conv => cbv)
  refine L_loop hI seat [] (by kernel_rfl) h (fun q => match q with | i_4 => ⟨18, [(0, slInt false l_1), (1, .int .i64 n_2), (5, .int .i64 i_4)], [], [], 0⟩) (fun q => match q with | (.inl ()) => .ret | (.inr ()) => .exit 0) (fun q => match q with | (.inl ()) => ⟨18, [(4, .tt)], [], [], 0⟩ | (.inr ()) => ⟨18, [], [], [], 0⟩) (by subst_vars; exact weak_l rfl rfl ⟨LV_sl, lE, lE, trivial⟩ trivial trivial) (by intro q; rcases q with (_ | _) <;> (intro e; exact Exit.noConfusion e)) ?_ ?_; all_goals clear h
  · intro i_4 x h R hR hX
    rw [m_law01_has_L1] at h
    (conv => cbv)
    refine L_tst hI h (by subst_vars; rfl) ?_ ?_ <;> clear h <;> intro h
    · refine L_get hI h (fun g => by subst_vars; exact g) ?_; clear h; intro hc x_6 hxx_6 h
      refine L_tst hI h (by subst_vars; rfl) ?_ ?_ <;> clear h <;> intro h
      · exact hX _ _ (Option.some.inj h).symm (by subst_vars; exact weak_l rfl rfl ⟨lE, trivial⟩ trivial trivial)
      · exact hR _ _ (Option.some.inj h).symm (by subst_vars; exact weak_l rfl rfl ⟨LV_sl, lE, lE, trivial⟩ trivial trivial)
    · exact hX _ _ (Option.some.inj h).symm (by subst_vars; exact weak_l rfl rfl trivial trivial trivial)
  · intro q h
    rcases q with (_ | _)
    · (conv => cbv)
      cases h
      subst_vars
      exact ⟨lE, rfl⟩
    · (conv => cbv)
      cases h
      subst_vars
      exact ⟨lE, rfl⟩
end
end Go.Proofs.Ytnekemldcjegaaa.Aw

/- Plain model and walk of a law, printed by wip/gen/ch1.py. -/
namespace Go.Proofs.Ytnekemldcjegaaa.Aw
open Go Go.RowKit Go.Proofs
set_option maxRecDepth 100000
set_option maxHeartbeats 4000000
set_option linter.unusedSimpArgs false
set_option linter.unusedVariables false
noncomputable section
end
end Go.Proofs.Ytnekemldcjegaaa.Aw

/- Plain law of ClothBetween. -/
namespace Go.Proofs.Ytnekemldcjegaaa.Aw
open Go Go.RowKit Go.Proofs
set_option linter.unusedSimpArgs false
set_option linter.unusedVariables false
def threeS (f : Int → Span) : List Span := [f 0, f 1, f 2]
theorem threeS_len {f : Int → Span} : (threeS f).length = 3 := rfl
theorem three_get {f : Int → Span} {i : Int} (h0 : 0 ≤ i) (h1 : i < 3) : getO span0 (threeS f) i = some (f i) := by
  rw [getO_of h0 (by simp [threeS]; omega)]
  have : i = 0 ∨ i = 1 ∨ i = 2 := by omega
  rcases this with rfl | rfl | rfl <;> rfl
theorem bolt_lens (x : Bolt) : (boltT x).length ≤ 1000000 ∧ (boltM x).length ≤ 1000000 := ⟨by simp [boltT], by have := boltM_len x; omega⟩
end Go.Proofs.Ytnekemldcjegaaa.Aw

/- Plain model and walk of a law, printed by wip/gen/ch1.py. -/
namespace Go.Proofs.Ytnekemldcjegaaa.Aw
open Go Go.RowKit Go.Proofs
set_option maxRecDepth 100000
set_option maxHeartbeats 4000000
set_option linter.unusedSimpArgs false
set_option linter.unusedVariables false
noncomputable section
def m_law01_ClothHow_L1 (N : Nat) (p_1 : law01_Bolt) (v_5 : Int) (p_2 : B4) : (Int × (List Span) × (List Span) × (List Span)) → Option ((Int × (List Span) × (List Span) × (List Span)) ⊕ ((List Span) × (List Span) × (List Span)))
  | (v_19, v_20, v_21, v_22) =>
    if icmpR .lss v_19 3 then
      (m_law01_Bolt_truth N p_1 v_19).bind fun r_35 =>
      (m_law01_after N r_35.1 r_35.2 v_5).bind fun r_36 =>
      (m_law01_span N (max 0 (iopR .sub .i64 r_36 (iopR .rem .i64 (IntKind.wrap .i64 p_2.b) 9))) (iopR .add .i64 r_36 (iopR .rem .i64 (IntKind.wrap .i64 p_2.c) 9))).bind fun r_37 =>
      if fitsN (v_22.length + 1) 16 then
        (m_law01_span N (max 0 (iopR .sub .i64 r_35.2 (iopR .rem .i64 (IntKind.wrap .i64 p_2.d) 9))) (iopR .add .i64 r_35.2 (iopR .quo .i64 (IntKind.wrap .i64 p_2.d) 16))).bind fun r_38 =>
        if fitsN (v_21.length + 1) 16 then
          if 0 ≤ v_19 ∧ v_19 < ((v_21.length + 1 : Nat) : Int) then
            letO (v_21 ++ [r_38]) fun l_40 =>
            (getO span0 l_40 v_19).bind fun x_39 =>
            if 0 ≤ v_19 ∧ v_19 < ((v_21.length + 1 : Nat) : Int) then
              letO (v_21 ++ [r_38]) fun l_42 =>
              (getO span0 l_42 v_19).bind fun x_41 =>
              (m_law01_span N (max 0 (iopR .sub .i64 x_39.low 1)) (iopR .add .i64 x_41.high 1)).bind fun r_43 =>
              if fitsN (v_20.length + 1) 16 then
                some (.inl (iopR .add .i64 v_19 1, (v_20 ++ [r_43]), (v_21 ++ [r_38]), (v_22 ++ [r_37])))
              else none
            else none
          else none
        else none
      else none
    else
      some (.inr (v_20, v_21, v_22))
def m_law01_ClothHow_L3 (N : Nat) (r_93 : (List Span) × Int) (v_34 : (List Span)) : Int → Option ((Int) ⊕ ((Unit) ⊕ (Unit)))
  | v_102 =>
    if icmpR .lss v_102 3 then
      (show Option (Bool) from
        (getO span0 r_93.1 v_102).bind fun x_109 =>
        if 0 ≤ v_102 ∧ v_102 < ((v_34.length : Nat) : Int) then
          (getO span0 v_34 v_102).bind fun x_110 =>
          if icmpR .gtr x_109.low x_110.high then
            some true
          else
            (getO span0 r_93.1 v_102).bind fun x_111 =>
            if 0 ≤ v_102 ∧ v_102 < ((v_34.length : Nat) : Int) then
              (getO span0 v_34 v_102).bind fun x_112 =>
              some (icmpR .lss x_111.high x_112.low)
            else none
        else none).bind fun q => match q with
      | v_108 =>
        if v_108 then
          some (.inr (.inl ()))
        else
          some (.inl (iopR .add .i64 v_102 1))
    else
      some (.inr (.inr ()))
def m_law01_ClothHow_L2 (N : Nat) (r_45 : (List Int) × Int) (v_3 : (List Track)) (v_4 : (List Meas)) (v_34 : (List Span)) : Int → Option ((Int) ⊕ ((Unit) ⊕ (Unit)))
  | v_68 =>
    if icmpR .lss v_68 ((r_45.1.length : Nat) : Int) then
      (m_law01_own N (api_Cloth.mk v_3 v_4)).bind fun r_91 =>
      (getO 0 r_45.1 v_68).bind fun x_92 =>
      (m_cloth_At N r_91 x_92).bind fun r_93 =>
      (show Option (Bool) from
        if icmpR .neq r_93.2 0 then
          some true
        else
          if icmpR .neq ((r_93.1.length : Nat) : Int) 3 then
            some true
          else
            if icmpR .gtr v_68 0 then
              (getO 0 r_45.1 v_68).bind fun x_95 =>
              (getO 0 r_45.1 (iopR .sub .i64 v_68 1)).bind fun x_96 =>
              some (icmpR .leq x_95 x_96)
            else
              some false).bind fun q => match q with
      | v_94 =>
        if v_94 then
          some (.inr (.inl ()))
        else
          (loopO (m_law01_ClothHow_L3 N r_93 v_34) N 0).bind fun q => match q with
          | (.inl ()) =>
            some (.inr (.inl ()))
          | (.inr ()) =>
            some (.inl (iopR .add .i64 v_68 1))
    else
      some (.inr (.inr ()))
def m_law01_ClothHow (N : Nat) (p_1 : law01_Bolt) (p_2 : B4) : Option (Bool) :=
  letO (iopR .rem .i64 (IntKind.wrap .i64 p_2.a) 49) fun v_5 =>
  (show Option ((List Track) × (List Meas)) from
    (m_law01_Bolt_cloth N p_1).bind fun r_6 =>
    some (r_6.Tracks, r_6.Measures)).bind fun q => match q with
  | (v_3, v_4) =>
    (m_law01_own N (api_Cloth.mk v_3 v_4)).bind fun r_7 =>
    (m_cloth_Rates N r_7).bind fun r_8 =>
    (show Option (Bool) from
      if icmpR .neq r_8.2 0 then
        some true
      else
        some (icmpR .neq ((r_8.1.length : Nat) : Int) 3)).bind fun q => match q with
    | v_9 =>
      if v_9 then
        some false
      else
        (loopO (m_law01_ClothHow_L1 N p_1 v_5 p_2) N (0, [], [], [])).bind fun q => match q with
        | (v_32, v_33, v_34) =>
          (m_law01_own N (api_Cloth.mk v_3 v_4)).bind fun r_44 =>
          if fitsN (v_34.length) 16 then
            (m_cloth_Hours N r_44 v_34).bind fun r_45 =>
            (show Option (Bool) from
              if icmpR .neq r_45.2 0 then
                some true
              else
                (m_law01_has N r_45.1 v_5).bind fun r_47 =>
                some (!r_47)).bind fun q => match q with
            | v_46 =>
              if v_46 then
                some false
              else
                (loopO (m_law01_ClothHow_L2 N r_45 v_3 v_4 v_34) N 0).bind fun q => match q with
                | (.inl ()) =>
                  some false
                | (.inr ()) =>
                  (m_law01_own N (api_Cloth.mk v_3 v_4)).bind fun r_113 =>
                  (m_cloth_Yarns N r_113 [v_33, v_32]).bind fun r_114 =>
                  (show Option (Bool) from
                    if icmpR .eql r_114.2 0 then
                      if icmpR .eql ((r_114.1.length : Nat) : Int) 2 then
                        (getO 0 r_114.1 0).bind fun x_116 =>
                        if icmpR .eql x_116 0 then
                          (getO 0 r_114.1 1).bind fun x_117 =>
                          if icmpR .eql x_117 1 then
                            (m_law01_known N).bind fun r_118 =>
                            some r_118
                          else
                            some false
                        else
                          some false
                      else
                        some false
                    else
                      some false).bind fun q => match q with
                  | v_115 =>
                    some v_115
          else none
theorem w_law01_ClothHow (N : Nat) (p_1 : law01_Bolt) (p_2 : B4) (o : Bool) (h : m_law01_ClothHow N p_1 p_2 = some o) :
    KC Try.prog 12 [.agg [.int .u8 p_1.Tracks.a0.a, .int .u8 p_1.Tracks.a0.b, .int .u8 p_1.Tracks.a0.c, .int .u8 p_1.Tracks.a0.d, .int .u8 p_1.Tracks.a1.a, .int .u8 p_1.Tracks.a1.b, .int .u8 p_1.Tracks.a1.c, .int .u8 p_1.Tracks.a1.d, .int .u8 p_1.Tracks.a2.a, .int .u8 p_1.Tracks.a2.b, .int .u8 p_1.Tracks.a2.c, .int .u8 p_1.Tracks.a2.d, slB4 false p_1.Measures], .agg [.int .u8 p_2.a, .int .u8 p_2.b, .int .u8 p_2.c, .int .u8 p_2.d]] (.bool o) [] := by
  unfold m_law01_ClothHow at h
  refine con_l [] [117, 200, 1000001, 1000004, 1000015, 1000021, 1000026, 1000029] seat Try.func12 rfl ent_12 (by kernel_rfl) rfl rfl (by simp) ?_; intro base I hI; (conv => cbv)
  replace h := letO_of h; obtain ⟨v_5, hev_5, h⟩ := h
  refine L_cut hI seat [117, 200, 1000004, 1000015, 1000021, 1000026, 1000029] (by kernel_rfl) h (fun q => match q with | (v_3, v_4) => .normal) (fun q => match q with | (v_3, v_4) => ⟨226, [(2, .loc 0 0), (3, .loc 1 0), (5, .loc 2 0), (6, .int .i64 v_5)], [(2, ⟨25, [slTrack false v_3, slMeas false v_4], true⟩), (1, ⟨73, [.int .u8 p_2.a, .int .u8 p_2.b, .int .u8 p_2.c, .int .u8 p_2.d], true⟩), (0, ⟨77, [.int .u8 p_1.Tracks.a0.a, .int .u8 p_1.Tracks.a0.b, .int .u8 p_1.Tracks.a0.c, .int .u8 p_1.Tracks.a0.d, .int .u8 p_1.Tracks.a1.a, .int .u8 p_1.Tracks.a1.b, .int .u8 p_1.Tracks.a1.c, .int .u8 p_1.Tracks.a1.d, .int .u8 p_1.Tracks.a2.a, .int .u8 p_1.Tracks.a2.b, .int .u8 p_1.Tracks.a2.c, .int .u8 p_1.Tracks.a2.d, slB4 false p_1.Measures], true⟩)], [], 0⟩) ?_ ?_; all_goals clear h
  · intro x h R hR
    (conv => cbv)
    replace h := bind_of h; obtain ⟨r_6, hb1, h⟩ := h
    repeat' (first | (refine C_le hI (w_law01_Bolt_cloth N p_1 r_6 hb1) (by subst_vars; exact ⟨(leD_refl _), rfl⟩) ?_; (conv => cbv)) | (exact hR _ _ (Option.some.inj h).symm (by subst_vars; exact weak_l rfl rfl ⟨lR, lR, lR, lE, trivial⟩ ⟨lB ⟨LV_sl, LV_sl, rfl⟩, lB ⟨lE, lE, lE, lE, rfl⟩, lB ⟨lE, lE, lE, lE, lE, lE, lE, lE, lE, lE, lE, lE, LV_sl, rfl⟩, trivial⟩ trivial)) | (refine K_conj hI ?_ ?_))
  · intro q h
    rcases q with ⟨v_3, v_4⟩
    (conv => cbv)
    refine L_call hI h (fun v hv => w_law01_own N (api_Cloth.mk v_3 v_4) v hv) (by subst_vars; exact ⟨⟨⟨.inl rfl, rfl, leDLL_refl _⟩, ⟨.inl rfl, rfl, leDLL_refl _⟩, rfl⟩, rfl⟩) ?_; clear h; intro r_7 h; (conv => cbv)
    refine L_call hI h (fun v hv => w_cloth_Rates N r_7 v hv) (by subst_vars; exact ⟨(leD_refl _), rfl⟩) ?_; clear h; intro r_8 h; (conv => cbv)
    refine L_cut hI seat [117, 200, 1000001, 1000015, 1000021, 1000026, 1000029] (by kernel_rfl) h (fun q => match q with | v_9 => .normal) (fun q => match q with | v_9 => ⟨226, [(2, .loc 0 0), (3, .loc 1 0), (5, .loc 2 0), (6, .int .i64 v_5), (7, .osl 3), (8, .osl 4), (9, .osl 5), (45, .bool v_9)], [(2, ⟨25, [slTrack false v_3, slMeas false v_4], true⟩), (1, ⟨73, [.int .u8 p_2.a, .int .u8 p_2.b, .int .u8 p_2.c, .int .u8 p_2.d], true⟩), (0, ⟨77, [.int .u8 p_1.Tracks.a0.a, .int .u8 p_1.Tracks.a0.b, .int .u8 p_1.Tracks.a0.c, .int .u8 p_1.Tracks.a0.d, .int .u8 p_1.Tracks.a1.a, .int .u8 p_1.Tracks.a1.b, .int .u8 p_1.Tracks.a1.c, .int .u8 p_1.Tracks.a1.d, .int .u8 p_1.Tracks.a2.a, .int .u8 p_1.Tracks.a2.b, .int .u8 p_1.Tracks.a2.c, .int .u8 p_1.Tracks.a2.d, slB4 false p_1.Measures], true⟩)], [(5, ⟨70, 2, [], true, true⟩), (4, ⟨70, 2, [], true, true⟩), (3, ⟨70, 2, [], true, true⟩)], 0⟩) ?_ ?_; all_goals clear h
    · intro x h R hR
      (conv => cbv)
      refine L_tst hI h (by subst_vars; rfl) ?_ ?_ <;> clear h <;> intro h
      · exact hR _ _ (Option.some.inj h).symm (by subst_vars; exact weak_l rfl rfl ⟨lR, lR, lR, lE, lR, lR, lR, lE, trivial⟩ ⟨lB ⟨LV_sl, LV_sl, rfl⟩, lB ⟨lE, lE, lE, lE, rfl⟩, lB ⟨lE, lE, lE, lE, lE, lE, lE, lE, lE, lE, lE, lE, LV_sl, rfl⟩, trivial⟩ ⟨lO, lO, lO, trivial⟩)
      · exact hR _ _ (Option.some.inj h).symm (by subst_vars; exact weak_l rfl rfl ⟨lR, lR, lR, lE, lR, lR, lR, lE, trivial⟩ ⟨lB ⟨LV_sl, LV_sl, rfl⟩, lB ⟨lE, lE, lE, lE, rfl⟩, lB ⟨lE, lE, lE, lE, lE, lE, lE, lE, lE, lE, lE, lE, LV_sl, rfl⟩, trivial⟩ ⟨lO, lO, lO, trivial⟩)
    · intro v_9 h
      (conv => cbv)
      refine L_tst hI h (by subst_vars; rfl) ?_ ?_ <;> clear h <;> intro h
      · cases h
        subst_vars
        exact ⟨lE, rfl⟩
      · refine L_loop hI seat [117, 200, 1000001, 1000004, 1000015, 1000021, 1000026, 1000029] (by kernel_rfl) h (fun q => match q with | (v_19, v_20, v_21, v_22) => ⟨226, [(2, .loc 0 0), (3, .loc 1 0), (5, .loc 2 0), (6, .int .i64 v_5), (7, .osl 3), (8, .osl 4), (9, .osl 5), (12, .int .i64 v_19)], [(2, ⟨25, [slTrack false v_3, slMeas false v_4], true⟩), (1, ⟨73, [.int .u8 p_2.a, .int .u8 p_2.b, .int .u8 p_2.c, .int .u8 p_2.d], true⟩), (0, ⟨77, [.int .u8 p_1.Tracks.a0.a, .int .u8 p_1.Tracks.a0.b, .int .u8 p_1.Tracks.a0.c, .int .u8 p_1.Tracks.a0.d, .int .u8 p_1.Tracks.a1.a, .int .u8 p_1.Tracks.a1.b, .int .u8 p_1.Tracks.a1.c, .int .u8 p_1.Tracks.a1.d, .int .u8 p_1.Tracks.a2.a, .int .u8 p_1.Tracks.a2.b, .int .u8 p_1.Tracks.a2.c, .int .u8 p_1.Tracks.a2.d, slB4 false p_1.Measures], true⟩)], [(5, ⟨70, 2, [.ls Span span0 v_20 eSpan], true, true⟩), (4, ⟨70, 2, [.ls Span span0 v_21 eSpan], true, true⟩), (3, ⟨70, 2, [.ls Span span0 v_22 eSpan], true, true⟩)], 0⟩) (fun q => match q with | (v_32, v_33, v_34) => .exit 0) (fun q => match q with | (v_32, v_33, v_34) => ⟨226, [(5, .loc 2 0), (6, .int .i64 v_5), (7, .osl 3), (8, .osl 4), (9, .osl 5)], [(2, ⟨25, [slTrack false v_3, slMeas false v_4], true⟩)], [(5, ⟨70, 2, [.ls Span span0 v_32 eSpan], true, true⟩), (4, ⟨70, 2, [.ls Span span0 v_33 eSpan], true, true⟩), (3, ⟨70, 2, [.ls Span span0 v_34 eSpan], true, true⟩)], 0⟩) (by subst_vars; exact weak_l rfl rfl ⟨lR, lR, lR, lE, lR, lR, lR, lE, trivial⟩ ⟨lB ⟨LV_sl, LV_sl, rfl⟩, lB ⟨lE, lE, lE, lE, rfl⟩, lB ⟨lE, lE, lE, lE, lE, lE, lE, lE, lE, lE, lE, lE, LV_sl, rfl⟩, trivial⟩ ⟨lO, lO, lO, trivial⟩) (by intro q; rcases q with ⟨v_32, v_33, v_34⟩ <;> (intro e; exact Exit.noConfusion e)) ?_ ?_; all_goals clear h
        · intro q x h R hR hX
          obtain ⟨v_19, v_20, v_21, v_22⟩ := q
          rw [m_law01_ClothHow_L1] at h
          (conv => cbv)
          refine L_tst hI h (by subst_vars; rfl) ?_ ?_ <;> clear h <;> intro h
          · refine L_call hI h (fun v hv => w_law01_Bolt_truth N p_1 v_19 v hv) (by subst_vars; exact ⟨(leD_refl _), (leD_refl _), rfl⟩) ?_; clear h; intro r_35 h; (conv => cbv)
            refine L_call hI h (fun v hv => w_law01_after N r_35.1 r_35.2 v_5 v hv) (by subst_vars; exact ⟨(leD_refl _), (leD_refl _), (leD_refl _), rfl⟩) ?_; clear h; intro r_36 h; (conv => cbv)
            refine L_call hI h (fun v hv => w_law01_span N (max 0 (iopR .sub .i64 r_36 (iopR .rem .i64 (IntKind.wrap .i64 p_2.b) 9))) (iopR .add .i64 r_36 (iopR .rem .i64 (IntKind.wrap .i64 p_2.c) 9)) v hv) (by subst_vars; exact ⟨(leD_refl _), (leD_refl _), rfl⟩) ?_; clear h; intro r_37 h; (conv => cbv)
            refine L_conj hI h (fun g => by subst_vars; exact g) ?_; clear h; intro hc h
            refine L_call hI h (fun v hv => w_law01_span N (max 0 (iopR .sub .i64 r_35.2 (iopR .rem .i64 (IntKind.wrap .i64 p_2.d) 9))) (iopR .add .i64 r_35.2 (iopR .quo .i64 (IntKind.wrap .i64 p_2.d) 16)) v hv) (by subst_vars; exact ⟨(leD_refl _), (leD_refl _), rfl⟩) ?_; clear h; intro r_38 h; (conv => cbv)
            refine L_conj hI h (fun g => by subst_vars; exact g) ?_; clear h; intro hc h
            refine L_conj hI h (fun g => by subst_vars; exact g) ?_; clear h; intro hc h
            replace h := letO_of h; obtain ⟨l_40, hel_40, h⟩ := h
            refine K_norm hI [.ls Span span0 l_40 eSpan] (by subst_vars; first | rfl | (simp only [rowsD, KP.rows, KV.toDLL, List.map_append, List.map_cons, List.map_nil, List.append_nil, List.nil_append, List.append_assoc, List.singleton_append, List.cons_append, List.map_replicate]; rfl)) ?_; (conv => cbv)
            refine L_get hI h (fun g => by subst_vars; exact g) ?_; clear h; intro hc x_39 hxx_39 h
            refine L_conj hI h (fun g => by subst_vars; exact g) ?_; clear h; intro hc h
            replace h := letO_of h; obtain ⟨l_42, hel_42, h⟩ := h
            refine K_norm hI [.ls Span span0 l_42 eSpan] (by subst_vars; first | rfl | (simp only [rowsD, KP.rows, KV.toDLL, List.map_append, List.map_cons, List.map_nil, List.append_nil, List.nil_append, List.append_assoc, List.singleton_append, List.cons_append, List.map_replicate]; rfl)) ?_; (conv => cbv)
            refine L_get hI h (fun g => by subst_vars; exact g) ?_; clear h; intro hc x_41 hxx_41 h
            refine L_call hI h (fun v hv => w_law01_span N (max 0 (iopR .sub .i64 x_39.low 1)) (iopR .add .i64 x_41.high 1) v hv) (by subst_vars; exact ⟨(leD_refl _), (leD_refl _), rfl⟩) ?_; clear h; intro r_43 h; (conv => cbv)
            refine L_conj hI h (fun g => by subst_vars; exact g) ?_; clear h; intro hc h
            exact hR _ _ (Option.some.inj h).symm (by subst_vars; exact weak_l rfl rfl ⟨lR, lR, lR, lE, lR, lR, lR, lE, trivial⟩ ⟨lB ⟨LV_sl, LV_sl, rfl⟩, lB ⟨lE, lE, lE, lE, rfl⟩, lB ⟨lE, lE, lE, lE, lE, lE, lE, lE, lE, lE, lE, lE, LV_sl, rfl⟩, trivial⟩ ⟨lO, lO, lO, trivial⟩)
          · exact hX _ _ (Option.some.inj h).symm (by subst_vars; exact weak_l rfl rfl ⟨lR, lE, lR, lR, lR, trivial⟩ ⟨lB ⟨LV_sl, LV_sl, rfl⟩, trivial⟩ ⟨lO, lO, lO, trivial⟩)
        · intro q h
          rcases q with ⟨v_32, v_33, v_34⟩
          (conv => cbv)
          refine L_call hI h (fun v hv => w_law01_own N (api_Cloth.mk v_3 v_4) v hv) (by subst_vars; exact ⟨⟨⟨.inl rfl, rfl, leDLL_refl _⟩, ⟨.inl rfl, rfl, leDLL_refl _⟩, rfl⟩, rfl⟩) ?_; clear h; intro r_44 h; (conv => cbv)
          refine L_conj hI h (fun g => by subst_vars; exact g) ?_; clear h; intro hc h
          refine L_call hI h (fun v hv => w_cloth_Hours N r_44 v_34 v hv) (by subst_vars; exact ⟨(leD_refl _), (leD_refl _), rfl⟩) ?_; clear h; intro r_45 h; (conv => cbv)
          refine L_cut hI seat [117, 200, 1000001, 1000004, 1000021, 1000026, 1000029] (by kernel_rfl) h (fun q => match q with | v_46 => .normal) (fun q => match q with | v_46 => ⟨226, [(5, .loc 2 0), (7, .osl 3), (8, .osl 4), (9, .osl 5), (16, slInt false r_45.1), (127, .bool v_46)], [(2, ⟨25, [slTrack false v_3, slMeas false v_4], true⟩)], [(5, ⟨70, 2, [.ls Span span0 v_32 eSpan], true, true⟩), (4, ⟨70, 2, [.ls Span span0 v_33 eSpan], true, true⟩), (3, ⟨70, 2, [.ls Span span0 v_34 eSpan], true, true⟩)], 0⟩) ?_ ?_; all_goals clear h
          · intro x h R hR
            (conv => cbv)
            refine L_tst hI h (by subst_vars; rfl) ?_ ?_ <;> clear h <;> intro h
            · exact hR _ _ (Option.some.inj h).symm (by subst_vars; exact weak_l rfl rfl ⟨lR, lR, lR, lR, LV_sl, lE, trivial⟩ ⟨lB ⟨LV_sl, LV_sl, rfl⟩, trivial⟩ ⟨lO, lO, lO, trivial⟩)
            · refine L_call hI h (fun v hv => w_law01_has N r_45.1 v_5 v hv) (by subst_vars; exact ⟨(leD_refl _), (leD_refl _), rfl⟩) ?_; clear h; intro r_47 h; (conv => cbv)
              exact hR _ _ (Option.some.inj h).symm (by subst_vars; exact weak_l rfl rfl ⟨lR, lR, lR, lR, LV_sl, lE, trivial⟩ ⟨lB ⟨LV_sl, LV_sl, rfl⟩, trivial⟩ ⟨lO, lO, lO, trivial⟩)
          · intro v_46 h
            (conv => cbv)
            refine L_tst hI h (by subst_vars; rfl) ?_ ?_ <;> clear h <;> intro h
            · cases h
              subst_vars
              exact ⟨lE, rfl⟩
            · refine L_loop hI seat [117, 200, 1000001, 1000004, 1000015, 1000021, 1000026, 1000029] (by kernel_rfl) h (fun q => match q with | v_68 => ⟨226, [(5, .loc 2 0), (7, .osl 3), (8, .osl 4), (9, .osl 5), (16, slInt false r_45.1), (18, .int .i64 v_68)], [(2, ⟨25, [slTrack false v_3, slMeas false v_4], true⟩)], [(5, ⟨70, 2, [.ls Span span0 v_32 eSpan], true, true⟩), (4, ⟨70, 2, [.ls Span span0 v_33 eSpan], true, true⟩), (3, ⟨70, 2, [.ls Span span0 v_34 eSpan], true, true⟩)], 0⟩) (fun q => match q with | (.inl ()) => .ret | (.inr ()) => .exit 2) (fun q => match q with | (.inl ()) => ⟨226, [(4, .ff)], [], [], 0⟩ | (.inr ()) => ⟨226, [(5, .loc 2 0), (8, .osl 4), (9, .osl 5)], [(2, ⟨25, [slTrack false v_3, slMeas false v_4], true⟩)], [(5, ⟨70, 2, [.ls Span span0 v_32 eSpan], true, true⟩), (4, ⟨70, 2, [.ls Span span0 v_33 eSpan], true, true⟩)], 0⟩) (by subst_vars; exact weak_l rfl rfl ⟨lR, lR, lR, lR, LV_sl, lE, trivial⟩ ⟨lB ⟨LV_sl, LV_sl, rfl⟩, trivial⟩ ⟨lO, lO, lO, trivial⟩) (by intro q; rcases q with (_ | _) <;> (intro e; exact Exit.noConfusion e)) ?_ ?_; all_goals clear h
              · intro v_68 x h R hR hX
                rw [m_law01_ClothHow_L2] at h
                (conv => cbv)
                refine L_tst hI h (by subst_vars; rfl) ?_ ?_ <;> clear h <;> intro h
                · refine L_call hI h (fun v hv => w_law01_own N (api_Cloth.mk v_3 v_4) v hv) (by subst_vars; exact ⟨⟨⟨.inl rfl, rfl, leDLL_refl _⟩, ⟨.inl rfl, rfl, leDLL_refl _⟩, rfl⟩, rfl⟩) ?_; clear h; intro r_91 h; (conv => cbv)
                  refine L_get hI h (fun g => by subst_vars; exact g) ?_; clear h; intro hc x_92 hxx_92 h
                  refine L_call hI h (fun v hv => w_cloth_At N r_91 x_92 v hv) (by subst_vars; exact ⟨(leD_refl _), (leD_refl _), rfl⟩) ?_; clear h; intro r_93 h; (conv => cbv)
                  refine L_cut hI seat [117, 200, 1000001, 1000004, 1000015, 1000026, 1000029] (by kernel_rfl) h (fun q => match q with | v_94 => .normal) (fun q => match q with | v_94 => ⟨226, [(5, .loc 2 0), (7, .osl 3), (8, .osl 4), (9, .osl 5), (16, slInt false r_45.1), (18, .int .i64 v_68), (19, slSpan false r_93.1), (166, .bool v_94)], [(2, ⟨25, [slTrack false v_3, slMeas false v_4], true⟩)], [(5, ⟨70, 2, [.ls Span span0 v_32 eSpan], true, true⟩), (4, ⟨70, 2, [.ls Span span0 v_33 eSpan], true, true⟩), (3, ⟨70, 2, [.ls Span span0 v_34 eSpan], true, true⟩)], 0⟩) ?_ ?_; all_goals clear h
                  · intro x h R hR
                    (conv => cbv)
                    refine L_tst hI h (by subst_vars; rfl) ?_ ?_ <;> clear h <;> intro h
                    · exact hR _ _ (Option.some.inj h).symm (by subst_vars; exact weak_l rfl rfl ⟨lR, lR, lR, lR, LV_sl, lE, LV_sl, lE, trivial⟩ ⟨lB ⟨LV_sl, LV_sl, rfl⟩, trivial⟩ ⟨lO, lO, lO, trivial⟩)
                    · refine L_tst hI h (by subst_vars; rfl) ?_ ?_ <;> clear h <;> intro h
                      · exact hR _ _ (Option.some.inj h).symm (by subst_vars; exact weak_l rfl rfl ⟨lR, lR, lR, lR, LV_sl, lE, LV_sl, lE, trivial⟩ ⟨lB ⟨LV_sl, LV_sl, rfl⟩, trivial⟩ ⟨lO, lO, lO, trivial⟩)
                      · refine L_tst hI h (by subst_vars; rfl) ?_ ?_ <;> clear h <;> intro h
                        · refine L_get hI h (fun g => by subst_vars; exact g) ?_; clear h; intro hc x_95 hxx_95 h
                          refine L_get hI h (fun g => by subst_vars; exact g) ?_; clear h; intro hc x_96 hxx_96 h
                          exact hR _ _ (Option.some.inj h).symm (by subst_vars; exact weak_l rfl rfl ⟨lR, lR, lR, lR, LV_sl, lE, LV_sl, lE, trivial⟩ ⟨lB ⟨LV_sl, LV_sl, rfl⟩, trivial⟩ ⟨lO, lO, lO, trivial⟩)
                        · exact hR _ _ (Option.some.inj h).symm (by subst_vars; exact weak_l rfl rfl ⟨lR, lR, lR, lR, LV_sl, lE, LV_sl, lE, trivial⟩ ⟨lB ⟨LV_sl, LV_sl, rfl⟩, trivial⟩ ⟨lO, lO, lO, trivial⟩)
                  · intro v_94 h
                    (conv => cbv)
                    refine L_tst hI h (by subst_vars; rfl) ?_ ?_ <;> clear h <;> intro h
                    · exact hX _ _ (Option.some.inj h).symm (by subst_vars; exact weak_l rfl rfl ⟨lE, trivial⟩ trivial trivial)
                    · refine L_loop hI seat [117, 200, 1000001, 1000004, 1000015, 1000021, 1000026, 1000029] (by kernel_rfl) h (fun q => match q with | v_102 => ⟨226, [(5, .loc 2 0), (7, .osl 3), (8, .osl 4), (9, .osl 5), (16, slInt false r_45.1), (18, .int .i64 v_68), (19, slSpan false r_93.1), (21, .int .i64 v_102)], [(2, ⟨25, [slTrack false v_3, slMeas false v_4], true⟩)], [(5, ⟨70, 2, [.ls Span span0 v_32 eSpan], true, true⟩), (4, ⟨70, 2, [.ls Span span0 v_33 eSpan], true, true⟩), (3, ⟨70, 2, [.ls Span span0 v_34 eSpan], true, true⟩)], 0⟩) (fun q => match q with | (.inl ()) => .ret | (.inr ()) => .exit 4) (fun q => match q with | (.inl ()) => ⟨226, [(4, .ff)], [], [], 0⟩ | (.inr ()) => ⟨226, [(5, .loc 2 0), (7, .osl 3), (8, .osl 4), (9, .osl 5), (16, slInt false r_45.1), (18, .int .i64 v_68)], [(2, ⟨25, [slTrack false v_3, slMeas false v_4], true⟩)], [(5, ⟨70, 2, [.ls Span span0 v_32 eSpan], true, true⟩), (4, ⟨70, 2, [.ls Span span0 v_33 eSpan], true, true⟩), (3, ⟨70, 2, [.ls Span span0 v_34 eSpan], true, true⟩)], 0⟩) (by subst_vars; exact weak_l rfl rfl ⟨lR, lR, lR, lR, LV_sl, lE, LV_sl, lE, trivial⟩ ⟨lB ⟨LV_sl, LV_sl, rfl⟩, trivial⟩ ⟨lO, lO, lO, trivial⟩) (by intro q; rcases q with (_ | _) <;> (intro e; exact Exit.noConfusion e)) ?_ ?_; all_goals clear h
                      · intro v_102 x h R hR hX
                        rw [m_law01_ClothHow_L3] at h
                        (conv => cbv)
                        refine L_tst hI h (by subst_vars; rfl) ?_ ?_ <;> clear h <;> intro h
                        · refine L_cut hI seat [117, 200, 1000001, 1000004, 1000015, 1000021, 1000029] (by kernel_rfl) h (fun q => match q with | v_108 => .normal) (fun q => match q with | v_108 => ⟨226, [(5, .loc 2 0), (7, .osl 3), (8, .osl 4), (9, .osl 5), (16, slInt false r_45.1), (18, .int .i64 v_68), (19, slSpan false r_93.1), (21, .int .i64 v_102), (194, .bool v_108)], [(2, ⟨25, [slTrack false v_3, slMeas false v_4], true⟩)], [(5, ⟨70, 2, [.ls Span span0 v_32 eSpan], true, true⟩), (4, ⟨70, 2, [.ls Span span0 v_33 eSpan], true, true⟩), (3, ⟨70, 2, [.ls Span span0 v_34 eSpan], true, true⟩)], 0⟩) ?_ ?_; all_goals clear h
                          · intro x h R hR
                            (conv => cbv)
                            refine L_get hI h (fun g => by subst_vars; exact g) ?_; clear h; intro hc x_109 hxx_109 h
                            refine L_conj hI h (fun g => by subst_vars; exact g) ?_; clear h; intro hc h
                            refine L_get hI h (fun g => by subst_vars; exact g) ?_; clear h; intro hc x_110 hxx_110 h
                            refine L_tst hI h (by subst_vars; rfl) ?_ ?_ <;> clear h <;> intro h
                            · exact hR _ _ (Option.some.inj h).symm (by subst_vars; exact weak_l rfl rfl ⟨lR, lR, lR, lR, LV_sl, lE, LV_sl, lE, lE, trivial⟩ ⟨lB ⟨LV_sl, LV_sl, rfl⟩, trivial⟩ ⟨lO, lO, lO, trivial⟩)
                            · refine L_get hI h (fun g => by subst_vars; exact g) ?_; clear h; intro hc x_111 hxx_111 h
                              refine L_conj hI h (fun g => by subst_vars; exact g) ?_; clear h; intro hc h
                              refine L_get hI h (fun g => by subst_vars; exact g) ?_; clear h; intro hc x_112 hxx_112 h
                              exact hR _ _ (Option.some.inj h).symm (by subst_vars; exact weak_l rfl rfl ⟨lR, lR, lR, lR, LV_sl, lE, LV_sl, lE, lE, trivial⟩ ⟨lB ⟨LV_sl, LV_sl, rfl⟩, trivial⟩ ⟨lO, lO, lO, trivial⟩)
                          · intro v_108 h
                            (conv => cbv)
                            refine L_tst hI h (by subst_vars; rfl) ?_ ?_ <;> clear h <;> intro h
                            · exact hX _ _ (Option.some.inj h).symm (by subst_vars; exact weak_l rfl rfl ⟨lE, trivial⟩ trivial trivial)
                            · exact hR _ _ (Option.some.inj h).symm (by subst_vars; exact weak_l rfl rfl ⟨lR, lR, lR, lR, LV_sl, lE, LV_sl, lE, trivial⟩ ⟨lB ⟨LV_sl, LV_sl, rfl⟩, trivial⟩ ⟨lO, lO, lO, trivial⟩)
                        · exact hX _ _ (Option.some.inj h).symm (by subst_vars; exact weak_l rfl rfl ⟨lR, lR, lR, lR, LV_sl, lE, trivial⟩ ⟨lB ⟨LV_sl, LV_sl, rfl⟩, trivial⟩ ⟨lO, lO, lO, trivial⟩)
                      · intro q h
                        rcases q with (_ | _)
                        · (conv => cbv)
                          exact hX _ _ (Option.some.inj h).symm (by subst_vars; exact weak_l rfl rfl ⟨lE, trivial⟩ trivial trivial)
                        · (conv => cbv)
                          exact hR _ _ (Option.some.inj h).symm (by subst_vars; exact weak_l rfl rfl ⟨lR, lR, lR, lR, LV_sl, lE, trivial⟩ ⟨lB ⟨LV_sl, LV_sl, rfl⟩, trivial⟩ ⟨lO, lO, lO, trivial⟩)
                · exact hX _ _ (Option.some.inj h).symm (by subst_vars; exact weak_l rfl rfl ⟨lR, lR, lR, trivial⟩ ⟨lB ⟨LV_sl, LV_sl, rfl⟩, trivial⟩ ⟨lO, lO, trivial⟩)
              · intro q h
                rcases q with (_ | _)
                · (conv => cbv)
                  cases h
                  subst_vars
                  exact ⟨lE, rfl⟩
                · (conv => cbv)
                  refine L_call hI h (fun v hv => w_law01_own N (api_Cloth.mk v_3 v_4) v hv) (by subst_vars; exact ⟨⟨⟨.inl rfl, rfl, leDLL_refl _⟩, ⟨.inl rfl, rfl, leDLL_refl _⟩, rfl⟩, rfl⟩) ?_; clear h; intro r_113 h; (conv => cbv)
                  refine L_call hI h (fun v hv => w_cloth_Yarns N r_113 [v_33, v_32] v hv) (by subst_vars; exact ⟨(leD_refl _), ⟨.inl rfl, rfl, ⟨⟨(leD_refl _), rfl⟩, ⟨(leD_refl _), rfl⟩, rfl⟩⟩, rfl⟩) ?_; clear h; intro r_114 h; (conv => cbv)
                  refine L_cut hI seat [117, 200, 1000001, 1000004, 1000015, 1000021, 1000026] (by kernel_rfl) h (fun q => match q with | v_115 => .normal) (fun q => match q with | v_115 => ⟨226, [(4, .bool v_115)], [], [], 0⟩) ?_ ?_; all_goals clear h
                  · intro x h R hR
                    (conv => cbv)
                    refine L_tst hI h (by subst_vars; rfl) ?_ ?_ <;> clear h <;> intro h
                    · refine L_tst hI h (by subst_vars; rfl) ?_ ?_ <;> clear h <;> intro h
                      · refine L_get hI h (fun g => by subst_vars; exact g) ?_; clear h; intro hc x_116 hxx_116 h
                        refine L_tst hI h (by subst_vars; rfl) ?_ ?_ <;> clear h <;> intro h
                        · refine L_get hI h (fun g => by subst_vars; exact g) ?_; clear h; intro hc x_117 hxx_117 h
                          refine L_tst hI h (by subst_vars; rfl) ?_ ?_ <;> clear h <;> intro h
                          · refine L_call hI h (fun v hv => w_law01_known N v hv) (by subst_vars; exact rfl) ?_; clear h; intro r_118 h; (conv => cbv)
                            exact hR _ _ (Option.some.inj h).symm (by subst_vars; exact weak_l rfl rfl ⟨lE, trivial⟩ trivial trivial)
                          · exact hR _ _ (Option.some.inj h).symm (by subst_vars; exact weak_l rfl rfl ⟨lE, trivial⟩ trivial trivial)
                        · exact hR _ _ (Option.some.inj h).symm (by subst_vars; exact weak_l rfl rfl ⟨lE, trivial⟩ trivial trivial)
                      · exact hR _ _ (Option.some.inj h).symm (by subst_vars; exact weak_l rfl rfl ⟨lE, trivial⟩ trivial trivial)
                    · exact hR _ _ (Option.some.inj h).symm (by subst_vars; exact weak_l rfl rfl ⟨lE, trivial⟩ trivial trivial)
                  · intro v_115 h
                    (conv => cbv)
                    cases h
                    subst_vars
                    exact ⟨lE, rfl⟩
end
end Go.Proofs.Ytnekemldcjegaaa.Aw

/- Plain law of ClothHow. -/
namespace Go.Proofs.Ytnekemldcjegaaa.Aw
open Go Go.RowKit Go.Proofs
set_option linter.unusedSimpArgs false
set_option linter.unusedVariables false
theorem how_val {v : B4} (hv : v.ok) {n g : Int} (hn : 0 ≤ n ∧ n ≤ 1000000) (hg : 0 ≤ g ∧ g ≤ 1000000) :
    (max 0 (iopR .sub .i64 n (iopR .rem .i64 (IntKind.i64.wrap v.b) 9)) = (howNow v n).low ∧ iopR .add .i64 n (iopR .rem .i64 (IntKind.i64.wrap v.c) 9) = (howNow v n).high) ∧
    (max 0 (iopR .sub .i64 g (iopR .rem .i64 (IntKind.i64.wrap v.d) 9)) = (howYarn v g).low ∧ iopR .add .i64 g (iopR .quo .i64 (IntKind.i64.wrap v.d) 16) = (howYarn v g).high) ∧
    (max 0 (iopR .sub .i64 (howYarn v g).low 1) = (howWide (howYarn v g)).low ∧ iopR .add .i64 (howYarn v g).high 1 = (howWide (howYarn v g)).high) := by
  obtain ⟨⟨a0, a1⟩, ⟨b0, b1⟩, ⟨c0, c1⟩, d0, d1⟩ := hv
  unfold howNow howYarn howWide
  simp only
  rw [wrap_i64 (n := v.b) (by omega), wrap_i64 (n := v.c) (by omega), wrap_i64 (n := v.d) (by omega), remW (by omega), remW (by omega), remW (by omega), quoW (by omega) (by omega), subW (by omega), addW (by omega), subW (by omega), addW (by omega), subW (by omega), addW (by omega)]
  exact ⟨⟨rfl, rfl⟩, ⟨rfl, rfl⟩, rfl, rfl⟩
theorem span_is (N : Nat) (a b : Int) : m_law01_span N a b = some ⟨a, b⟩ := rfl
theorem has_is (N : Nat) {l : List Int} {n : Int} (hl : l.length < N) (hl2 : l.length ≤ 1000000) (hm : n ∈ l) : m_law01_has N l n = some true := by
  unfold m_law01_has
  obtain ⟨q, hq, hp⟩ := loopO_of (step := m_law01_has_L1 N l n) (fun i => 0 ≤ i ∧ i ≤ l.length ∧ n ∈ l.drop i.toNat) (fun i => (l.length - i).toNat) (fun q => q = .inl ()) (fun i hi => by
    obtain ⟨i0, i1, i2⟩ := hi
    have hc : i < (l.length : Int) := by
      by_cases hc : i < (l.length : Int)
      · exact hc
      · rw [List.drop_eq_nil_of_le (by omega)] at i2; cases i2
    have hlt : i.toNat < l.length := by omega
    have hget : l.getD i.toNat 0 = l[i.toNat] := by simp [List.getD_eq_getElem?_getD, hlt]
    simp only [m_law01_has_L1, icmp_lss, decide_eq_true_eq, getO_of (d := 0) i0 hc, bindS, icmp_eql]
    rw [if_pos hc]
    by_cases e : l.getD i.toNat 0 = n
    · right; rw [if_pos e]; exact ⟨_, rfl, rfl⟩
    · left
      rw [if_neg e, addW (by omega)]
      refine ⟨i + 1, rfl, ⟨by omega, by omega, ?_⟩, by omega⟩
      rw [List.drop_eq_getElem_cons hlt, ← hget] at i2
      rcases List.mem_cons.1 i2 with e2 | e2
      · exact absurd e2.symm e
      · rwa [show (i + 1).toNat = i.toNat + 1 from by omega]) N 0 ⟨by omega, by omega, by simpa using hm⟩ (by omega)
  rw [hq, hp]; rfl
theorem how_round (N : Nat) (p : law01_Bolt) (hx : (toBolt p).ok) {v : B4} (hv : v.ok) {h i : Int} (hh : 0 ≤ h ∧ h ≤ 48) (i0 : 0 ≤ i) (i1 : i < 3) {W Y S : List Span} (lw : (W.length : Int) = i) (ly : (Y.length : Int) = i) (ls : (S.length : Int) = i) :
    m_law01_ClothHow_L1 N p h v (i, W, Y, S) = some (.inl (i + 1, W ++ [howWide (howYarn v (tRate ((toBolt p).sel i)))], Y ++ [howYarn v (tRate ((toBolt p).sel i))], S ++ [howNow v (trueAt (toBolt p) h i)])) := by
  obtain ⟨⟨f0, f1⟩, g0, g1⟩ := tru_range (sel_ok hx i)
  have tr := trueAt_range hx h i
  have htr : m_law01_Bolt_truth N p i = some (tFirst ((toBolt p).sel i), tRate ((toBolt p).sel i)) := onlyIf_pos ⟨hx, i0, by omega⟩
  have haf : m_law01_after N (tFirst ((toBolt p).sel i)) (tRate ((toBolt p).sel i)) h = some (trueAt (toBolt p) h i) := onlyIf_pos ⟨by omega, by omega, by omega⟩
  obtain ⟨⟨a1, a2⟩, ⟨a3, a4⟩, a5, a6⟩ := how_val hv (n := trueAt (toBolt p) h i) (g := tRate ((toBolt p).sel i)) (by omega) (by omega)
  generalize trueAt (toBolt p) h i = n at *
  generalize tRate ((toBolt p).sel i) = g at *
  have hget : ∀ y : Span, getO span0 (Y ++ [y]) i = some y := fun y => by
    rw [getO_of i0 (by simp; omega)]
    rw [List.getD_eq_getElem?_getD, List.getElem?_append_right (by omega), show i.toNat - Y.length = 0 from by omega]; rfl
  have fit : ∀ L : List Span, (L.length : Int) = i → fitsN (L.length + 1) 16 := fun L hl => by unfold fitsN; omega
  simp only [m_law01_ClothHow_L1, icmp_lss, decide_eq_true_eq, if_pos i1, htr, haf, bindS, span_is, a1, a2, a3, a4, if_pos (fit S ls), if_pos (fit Y ly), if_pos (fit W lw), letO_eq]
  rw [show (Span.mk (howYarn v g).low (howYarn v g).high) = howYarn v g from rfl, show (Span.mk (howNow v n).low (howNow v n).high) = howNow v n from rfl]
  rw [if_pos (by omega), hget, bindS, if_pos (by omega), bindS, a5, a6, addW (by omega)]
theorem law_ClothHow (N : Nat) (hN : 2000000 ≤ N) (p : law01_Bolt) (v : B4) (hx : (toBolt p).ok) (hv : v.ok) : m_law01_ClothHow N p v = some true := by
  have hin := bolt_clothIn _ hx
  have hop := bolt_open hx
  obtain ⟨ln1, ln2⟩ := bolt_lens (toBolt p)
  obtain ⟨h, hh⟩ : ∃ h, h = v.a % 49 := ⟨_, rfl⟩
  have hr : 0 ≤ h ∧ h ≤ 48 := by obtain ⟨⟨a0, a1⟩, _⟩ := hv; omega
  have eh : iopR .rem .i64 (IntKind.wrap .i64 v.a) 49 = h := by obtain ⟨⟨a0, a1⟩, _⟩ := hv; rw [wrap_i64 (n := v.a) (by omega), remW (by omega), hh]
  have hcl : m_law01_Bolt_cloth N p = some ⟨boltT (toBolt p), boltM (toBolt p)⟩ := onlyIf_pos hx
  have how : m_law01_own N ⟨boltT (toBolt p), boltM (toBolt p)⟩ = some ⟨boltT (toBolt p), boltM (toBolt p)⟩ := onlyIf_pos ⟨ln1, ln2⟩
  have hrt : m_cloth_Rates N ⟨boltT (toBolt p), boltM (toBolt p)⟩ = some (threeS (rateW (boltT (toBolt p)) (boltM (toBolt p))), 0) := by
    unfold m_cloth_Rates
    rw [onlyIf_pos hin, ratesRes, if_neg (by simp [hop])]; rfl
  have hat : ∀ h : Int, 0 ≤ h → h ≤ 48 → m_cloth_At N ⟨boltT (toBolt p), boltM (toBolt p)⟩ h = some (threeS (hullW (boltT (toBolt p)) (boltM (toBolt p)) h), 0) := fun h h0 h1 => by
    unfold m_cloth_At
    rw [onlyIf_pos hin, atRes, if_neg (by simp [hop]), if_pos (by rw [within_one]; omega)]; rfl
  have l1 : loopO (m_law01_ClothHow_L1 N p h v) N (0, [], [], []) = some (howWides (toBolt p) v, howYarns (toBolt p) v, howNows (toBolt p) v) := by
    obtain ⟨M, hM⟩ : ∃ M, N = M + 4 := ⟨N - 4, by omega⟩
    have r0 := how_round N p hx hv hr (i := 0) (by omega) (by omega) (W := []) (Y := []) (S := []) rfl rfl rfl
    have r1 := how_round N p hx hv hr (i := 1) (by omega) (by omega) (W := [howWide (howYarn v (tRate ((toBolt p).sel 0)))]) (Y := [howYarn v (tRate ((toBolt p).sel 0))]) (S := [howNow v (trueAt (toBolt p) h 0)]) rfl rfl rfl
    have r2 := how_round N p hx hv hr (i := 2) (by omega) (by omega) (W := [howWide (howYarn v (tRate ((toBolt p).sel 0))), howWide (howYarn v (tRate ((toBolt p).sel 1)))]) (Y := [howYarn v (tRate ((toBolt p).sel 0)), howYarn v (tRate ((toBolt p).sel 1))]) (S := [howNow v (trueAt (toBolt p) h 0), howNow v (trueAt (toBolt p) h 1)]) rfl rfl rfl
    have r3 : m_law01_ClothHow_L1 N p h v (3, howWides (toBolt p) v, howYarns (toBolt p) v, howNows (toBolt p) v) = some (.inr (howWides (toBolt p) v, howYarns (toBolt p) v, howNows (toBolt p) v)) := rfl
    have e : loopO (m_law01_ClothHow_L1 N p h v) (M + 4) (0, [], [], []) = some (howWides (toBolt p) v, howYarns (toBolt p) v, howNows (toBolt p) v) := by
      rw [loopO_inl r0, List.nil_append, List.nil_append, List.nil_append, show (0 : Int) + 1 = 1 from rfl, loopO_inl r1, List.singleton_append, List.singleton_append, List.singleton_append, show (1 : Int) + 1 = 2 from rfl, loopO_inl r2]
      rw [hh] at r3 ⊢
      exact loopO_inr r3
    rw [hM] at e ⊢
    exact e
  obtain ⟨L, hL⟩ : ∃ L, L = howL (toBolt p) v := ⟨_, rfl⟩
  have hho : m_cloth_Hours N ⟨boltT (toBolt p), boltM (toBolt p)⟩ (howNows (toBolt p) v) = some (L, 0) := by
    unfold m_cloth_Hours
    rw [onlyIf_pos ⟨hin, by simp [howNows]⟩, how_hours hx hv, hL]; rfl
  have hya : m_cloth_Yarns N ⟨boltT (toBolt p), boltM (toBolt p)⟩ [howYarns (toBolt p) v, howWides (toBolt p) v] = some ([0, 1], 0) := by
    unfold m_cloth_Yarns
    rw [onlyIf_pos ⟨hin, by simp, by simp [howYarns, howWides]⟩, how_yarns hx hv]; rfl
  have hmem : h ∈ L := by rw [hL, hh]; exact how_mem hx hv
  have hLs : L.Pairwise (· < ·) := by rw [hL]; exact hoursN_sorted _ _
  have hLl : L.length ≤ 49 := by rw [hL]; exact hoursN_len _ _
  have heach : ∀ k ∈ L, (0 ≤ k ∧ k ≤ 48) ∧ ∀ w : Int, 0 ≤ w → w ≤ 2 → (hullW (boltT (toBolt p)) (boltM (toBolt p)) k w).low ≤ (howNow v (trueAt (toBolt p) h w)).high ∧ (howNow v (trueAt (toBolt p) h w)).low ≤ (hullW (boltT (toBolt p)) (boltM (toBolt p)) k w).high := fun k hk => by
    rw [hh]; exact how_each hx (hL ▸ hk)
  have hnw : howNows (toBolt p) v = threeS (fun w => howNow v (trueAt (toBolt p) h w)) := by rw [hh]; rfl
  have l3 : ∀ k ∈ L, loopO (m_law01_ClothHow_L3 N (threeS (hullW (boltT (toBolt p)) (boltM (toBolt p)) k), 0) (howNows (toBolt p) v)) N 0 = some (.inr ()) := fun k hk => by
    obtain ⟨q, hq, hp⟩ := loopO_of (step := m_law01_ClothHow_L3 N (threeS (hullW (boltT (toBolt p)) (boltM (toBolt p)) k), 0) (howNows (toBolt p) v)) (fun i => 0 ≤ i ∧ i ≤ 3) (fun i => (3 - i).toNat) (fun q => q = .inr ()) (fun i hi => by
      simp only [m_law01_ClothHow_L3, icmp_lss, decide_eq_true_eq]
      by_cases hc : i < 3
      · left
        obtain ⟨d1, d2⟩ := (heach k hk).2 i hi.1 (by omega)
        have c1 : ¬ (hullW (boltT (toBolt p)) (boltM (toBolt p)) k i).low > (howNow v (trueAt (toBolt p) h i)).high := by omega
        have c2 : ¬ (hullW (boltT (toBolt p)) (boltM (toBolt p)) k i).high < (howNow v (trueAt (toBolt p) h i)).low := by omega
        simp only [hnw, if_pos hc, three_get hi.1 hc, bindS, threeS_len, if_pos (show 0 ≤ i ∧ i < ((3 : Nat) : Int) from ⟨hi.1, hc⟩), icmp_gtr, c1, c2, decide_false, Bool.false_eq_true, if_false, addW (show -9223372036854775808 ≤ i + 1 ∧ i + 1 ≤ 9223372036854775807 by omega)]
        exact ⟨_, rfl, by omega, by omega⟩
      · right; rw [if_neg hc]; exact ⟨_, rfl, rfl⟩) N 0 ⟨by omega, by omega⟩ (by omega)
    rw [hq, hp]
  have l2 : loopO (m_law01_ClothHow_L2 N (L, 0) (boltT (toBolt p)) (boltM (toBolt p)) (howNows (toBolt p) v)) N 0 = some (.inr ()) := by
    obtain ⟨q, hq, hp⟩ := loopO_of (step := m_law01_ClothHow_L2 N (L, 0) (boltT (toBolt p)) (boltM (toBolt p)) (howNows (toBolt p) v)) (fun i => 0 ≤ i ∧ i ≤ L.length) (fun i => (L.length - i).toNat) (fun q => q = .inr ()) (fun i hi => by
      simp only [m_law01_ClothHow_L2, icmp_lss, decide_eq_true_eq]
      by_cases hc : i < (L.length : Int)
      · left
        have hil : i.toNat < L.length := by omega
        have hk : L.getD i.toNat 0 ∈ L := by rw [List.getD_eq_getElem?_getD, List.getElem?_eq_getElem hil]; exact List.getElem_mem hil
        obtain ⟨⟨k0, k1⟩, _⟩ := heach _ hk
        have hl3 := l3 _ hk
        simp only [if_pos hc, how, bindS, getO_of (d := 0) hi.1 hc, hat _ k0 k1, hl3, threeS_len, icmp_neq, icmp_gtr, icmp_leq, decide_eq_true_eq, addW (show -9223372036854775808 ≤ i + 1 ∧ i + 1 ≤ 9223372036854775807 by omega), subW (show -9223372036854775808 ≤ i - 1 ∧ i - 1 ≤ 9223372036854775807 by omega), show ((3 : Nat) : Int) = 3 from rfl, ne_eq, not_true, if_false]
        refine ⟨i + 1, ?_, by omega, by omega⟩
        by_cases hi0 : i > 0
        · have hlt : L.getD (i - 1).toNat 0 < L.getD i.toNat 0 := by
            rw [List.getD_eq_getElem?_getD, List.getD_eq_getElem?_getD, List.getElem?_eq_getElem hil, List.getElem?_eq_getElem (show (i - 1).toNat < L.length by omega)]
            exact List.pairwise_iff_getElem.1 hLs _ _ (by omega) hil (by omega)
          have c1 : ¬ L.getD i.toNat 0 ≤ L.getD (i - 1).toNat 0 := by omega
          simp only [if_pos hi0, getO_of (d := 0) (show 0 ≤ i - 1 by omega) (show i - 1 < (L.length : Int) by omega), bindS, c1, decide_false, Bool.false_eq_true, if_false]
        · simp only [if_neg hi0, bindS, Bool.false_eq_true, if_false]
      · right; rw [if_neg hc]; exact ⟨_, rfl, rfl⟩) N 0 ⟨by omega, by omega⟩ (by omega)
    rw [hq, hp]
  have hfit : fitsN (howNows (toBolt p) v).length 16 := by unfold fitsN; simp [howNows]
  unfold m_law01_ClothHow
  simp only [eh, letO_eq, hcl, bindS, how, hrt, l1, if_pos hfit, hho, hya, l2, has_is N (show L.length < N by omega) (by omega) hmem, icmp_neq, threeS_len]
  simp [icmp_eql, getO, m_law01_known]
end Go.Proofs.Ytnekemldcjegaaa.Aw

/- What comes in, for chapter 1: cloths, measurings, spans, read as data. -/
namespace Go.Proofs.Ytnekemldcjegaaa.Aw
open Go Go.RowKit Go.Proofs
set_option maxRecDepth 100000
set_option linter.unusedSimpArgs false
set_option linter.unusedVariables false
theorem Try.own : ownKnob Try.prog.godebug = none := by kernel_rfl
theorem Try.laidOut : laidOutB Try.prog = true := by kernel_rfl
theorem rows_of {α : Type} {g : α → List D} {p : α → Prop} : ∀ {rows : List (List D)}, (∀ row ∈ rows, ∃ a, row = g a ∧ p a) → ∃ l : List α, rows = l.map g ∧ ∀ a ∈ l, p a
  | [], _ => ⟨[], rfl, fun a h => by cases h⟩
  | row :: r, h => by
    obtain ⟨a, e, hp⟩ := h row (by simp)
    obtain ⟨l, e2, hl⟩ := rows_of (g := g) (p := p) (rows := r) (fun x hx => h x (List.mem_cons_of_mem _ hx))
    refine ⟨a :: l, by rw [e, e2]; rfl, fun b hb => ?_⟩
    rcases List.mem_cons.1 hb with rfl | hb
    · exact hp
    · exact hl b hb
end Go.Proofs.Ytnekemldcjegaaa.Aw

/- What comes in, for chapter 1: bolts, bytes, read as data. -/
namespace Go.Proofs.Ytnekemldcjegaaa.Aw
open Go Go.RowKit Go.Proofs
set_option maxRecDepth 100000
set_option linter.unusedSimpArgs false
set_option linter.unusedVariables false
def shU : Sh := .int .u8
def shB4 : Sh := .agg [shU, shU, shU, shU]
def shBolt : Sh := .agg [.agg [shB4, shB4, shB4], .sl shB4]
theorem fit_U {xs : List D} (h : shU.Fit xs) : ∃ n : Int, xs = [.int .u8 n] ∧ 0 ≤ n ∧ n ≤ 255 := by
  unfold shU Sh.Fit at h
  obtain ⟨n, rfl, h1, h2⟩ := h
  exact ⟨n, rfl, h1, h2⟩
theorem fit_B4 {xs : List D} (h : shB4.Fit xs) : ∃ v : B4, xs = rowD 4 0 (fun j => (eB4 v j).toD) ∧ v.ok := by
  unfold shB4 Sh.Fit at h
  simp only [Sh.FitL] at h
  obtain ⟨a, b, rfl, ha, c, d, rfl, hc, e, f, rfl, he, g, i, rfl, hg, rfl⟩ := h
  obtain ⟨x, rfl, hx⟩ := fit_U ha
  obtain ⟨y, rfl, hy⟩ := fit_U hc
  obtain ⟨z, rfl, hz⟩ := fit_U he
  obtain ⟨u, rfl, hu⟩ := fit_U hg
  exact ⟨⟨x, y, z, u⟩, rfl, hx, hy, hz, hu⟩
theorem fit_bolt {xs : List D} (h : shBolt.Fit xs) : ∃ x : Bolt, shBolt.arg xs = (kBolt x).toD ∧ x.ok := by
  unfold shBolt Sh.Fit at h
  simp only [Sh.FitL] at h
  obtain ⟨a, b, rfl, ha, c, d, rfl, hc, rfl⟩ := h
  unfold Sh.Fit at ha hc
  simp only [Sh.FitL] at ha
  obtain ⟨a1, b1, rfl, h1, a2, b2, rfl, h2, a3, b3, rfl, h3, rfl⟩ := ha
  obtain ⟨t0, rfl, k0⟩ := fit_B4 h1
  obtain ⟨t1, rfl, k1⟩ := fit_B4 h2
  obtain ⟨t2, rfl, k2⟩ := fit_B4 h3
  obtain ⟨rc, rfl, lc, hc⟩ := hc
  obtain ⟨ms, rfl, hm⟩ := rows_of (fun row hr => fit_B4 (hc row hr))
  exact ⟨⟨t0, t1, t2, ms⟩, rfl, k0, k1, k2, hm⟩
end Go.Proofs.Ytnekemldcjegaaa.Aw
