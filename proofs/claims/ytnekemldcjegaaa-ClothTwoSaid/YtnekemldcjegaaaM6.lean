/- Part 6 of the proof: lemmas. -/
import Derived.Test.YtnekemldcjegaaaM5
import Derived.Test.YtnekemldcjegaaaM4
import Derived.Test.YtnekemldcjegaaaRows

/- Plain models of what was walked by hand: the truths of a cloth, opened, and their values. -/
namespace Go.Proofs.Ytnekemldcjegaaa.Aw
open Go Go.RowKit Go.Proofs
set_option maxRecDepth 100000
set_option linter.unusedSimpArgs false
set_option linter.unusedVariables false
def toStr (s : cloth_stretch) : Str := ⟨s.Span.low, s.Span.high, s.rate⟩
def ofStr (s : Str) : cloth_stretch := ⟨⟨s.low, s.high⟩, s.rate⟩
def toTr (t : A3_L_cloth_stretch) : Tr := ⟨t.a0.map toStr, t.a1.map toStr, t.a2.map toStr⟩
def ofTr (t : Tr) : A3_L_cloth_stretch := ⟨t.a.map ofStr, t.b.map ofStr, t.c.map ofStr⟩
theorem toTr_of (t : Tr) : toTr (ofTr t) = t := by
  cases t
  simp only [toTr, ofTr, List.map_map]
  have : (toStr ∘ ofStr) = id := rfl
  simp [this]
theorem slStr_of (l : List cloth_stretch) : (slStr false (l.map toStr)).toD = (sl_cloth_stretch false l).toD := by
  simp only [slStr, sl_cloth_stretch, KV.toD, List.map_map]
  congr 1
theorem slStr_av (l : List cloth_stretch) : (slStr false (l.map toStr)).av = (sl_cloth_stretch false l).av := by
  have := slStr_of l
  simp only [slStr, sl_cloth_stretch, KV.toD, KV.av] at this ⊢
  rw [this]
theorem lv_orNil (l : List Str) : LV (orNil l) (sl_cloth_stretch false (l.map ofStr)) := by
  cases l with
  | nil => exact LV_nil
  | cons s l =>
    refine LV_eq ?_
    rw [← slStr_av]
    simp only [List.map_map]
    have : (toStr ∘ ofStr) = id := rfl
    simp [this, orNil]
noncomputable def m_cloth_open (N : Nat) (c : api_Cloth) : Option (A3_L_cloth_stretch × Int) := onlyIf (ClothIn c.Tracks c.Measures) (ofTr (openR c.Tracks c.Measures).2, (openR c.Tracks c.Measures).1)
theorem w_cloth_open (N : Nat) (c : api_Cloth) (o : A3_L_cloth_stretch × Int) (e : m_cloth_open N c = some o) : KC Try.prog 67 [.agg [slTrack false c.Tracks, slMeas false c.Measures]] (.tup [.agg [sl_cloth_stretch false o.1.a0, sl_cloth_stretch false o.1.a1, sl_cloth_stretch false o.1.a2], .int .i64 o.2]) [] := by
  obtain ⟨hp, rfl⟩ := onlyIf_of e
  exact KC_res (con_open c.Tracks c.Measures hp.1 hp.2.1 hp.2.2) (LV_tup ⟨LV_agg ⟨lv_orNil _, lv_orNil _, lv_orNil _, rfl⟩, lR, rfl⟩)
def TrIn (t : Tr) (w h : Int) : Prop := (0 ≤ w ∧ w ≤ 2) ∧ h ≤ 1000000 ∧ t.sel w ≠ [] ∧ ((t.sel w).length : Int) ≤ 1000000 ∧ ∀ s ∈ t.sel w, s.ok
noncomputable def m_it_values (N : Nat) (t : A3_L_cloth_stretch) (w h : Int) : Option (List Int) := onlyIf (TrIn (toTr t) w h) (valsL h ((toTr t).sel w))
theorem i_values (N : Nat) (t : A3_L_cloth_stretch) (w h : Int) (o : List Int) (e : m_it_values N t w h = some o) : IterCon Try.prog 105 (KV.toDL [.ptr [sl_cloth_stretch false t.a0, sl_cloth_stretch false t.a1, sl_cloth_stretch false t.a2], .ptr [.int .i64 w], .ptr [.int .i64 h]]) ((o.map fun n => [.int .i64 n]).map KV.toDL) := by
  obtain ⟨⟨h1, h2, h3, h4, h5⟩, rfl⟩ := onlyIf_of e
  have := iter_values (toTr t) w h h1 h2 h4 h5
  unfold KI at this
  have e1 : (slStr false (toTr t).a).toD = (sl_cloth_stretch false t.a0).toD := slStr_of _
  have e2 : (slStr false (toTr t).b).toD = (sl_cloth_stretch false t.a1).toD := slStr_of _
  have e3 : (slStr false (toTr t).c).toD = (sl_cloth_stretch false t.a2).toD := slStr_of _
  simp only [capsVal, KV.toDL, KV.toD] at this ⊢
  rw [e1, e2, e3] at this
  exact this
end Go.Proofs.Ytnekemldcjegaaa.Aw

/- Plain models of what was walked by hand: the reference's functions. -/
namespace Go.Proofs.Ytnekemldcjegaaa.Aw
open Go Go.RowKit Go.Proofs
set_option maxRecDepth 100000
set_option linter.unusedSimpArgs false
set_option linter.unusedVariables false
noncomputable def m_ref01_Truths (N : Nat) (c : api_Cloth) (w : Int) (l : List Int) : Option (List Tru) := onlyIf (l.length ≤ 1000000 ∧ check c.Tracks c.Measures = 0 ∧ 0 ≤ w ∧ w ≤ 2) (truW c.Tracks c.Measures (fun i => l.contains i) w)
end Go.Proofs.Ytnekemldcjegaaa.Aw

/- Plain models and walks of chapter 1, printed by wip/gen/ch1.py. -/
namespace Go.Proofs.Ytnekemldcjegaaa.Aw
open Go Go.RowKit Go.Proofs
set_option maxRecDepth 100000
set_option maxHeartbeats 4000000
set_option linter.unusedSimpArgs false
set_option linter.unusedVariables false
noncomputable section
def m_law01_span (N : Nat) (low_1 : Int) (high_2 : Int) : Option (Span) :=
  some (Span.mk low_1 high_2)
theorem w_law01_span (N : Nat) (low_1 : Int) (high_2 : Int) (o : Span) (h : m_law01_span N low_1 high_2 = some o) :
    KC Try.prog 54 [.int .i64 low_1, .int .i64 high_2] (.agg [.int .i64 o.low, .int .i64 o.high]) [] := by
  unfold m_law01_span at h
  refine con_l [] [] seat Try.func54 rfl ent_54 (by kernel_rfl) rfl rfl (by simp) ?_; intro base I hI; (conv => cbv)
  cases h
  subst_vars
  exact ⟨(LV_agg ⟨lE, lE, rfl⟩), rfl⟩
def m_slices_IndexFunc_Lint_int_L1 (N : Nat) (v_3 : Int) (s_1 : (List Int)) (f_2 : Int → Option Bool) : Int → Option ((Int) ⊕ ((Int) ⊕ (Unit)))
  | v_6 =>
    if icmpR .lss v_6 v_3 then
      (getO 0 s_1 v_6).bind fun x_10 =>
      (f_2 x_10).bind fun v_11 =>
      if v_11 then
        some (.inr (.inl v_6))
      else
        some (.inl (iopR .add .i64 v_6 1))
    else
      some (.inr (.inr ()))
def m_slices_IndexFunc_Lint_int (N : Nat) (s_1 : (List Int)) (f_2 : Int → Option Bool) : Option (Int) :=
  letO (((s_1.length : Nat) : Int) : Int) fun v_3 =>
  (loopO (m_slices_IndexFunc_Lint_int_L1 N v_3 s_1 f_2) N 0).bind fun q => match q with
  | (.inl v_9) =>
    some v_9
  | (.inr ()) =>
    some (-1)
theorem w_slices_IndexFunc_Lint_int (N : Nat) (s_1 : (List Int)) (f_2 : Int → Option Bool) (kf_2 : Nat) (dsf_2 : List D) (hdf_2 : noAggD dsf_2 = true) (hpf_2 : ∀ x0 r, f_2 x0 = some r → KD Try.prog kf_2 [.int .i64 x0] dsf_2 (.bool r)) (o : Int) (h : m_slices_IndexFunc_Lint_int N s_1 f_2 = some o) :
    KC Try.prog 112 [slInt false s_1, .d (.fn kf_2 dsf_2)] (.int .i64 o) [] := by
  unfold m_slices_IndexFunc_Lint_int at h
  refine con_l [] [] seat Try.func112 rfl ent_112 (by kernel_rfl) rfl rfl (by simp) ?_; intro base I hI; (conv => cbv)
  replace h := letO_of h; obtain ⟨v_3, hev_3, h⟩ := h
  refine L_loop hI seat [] (by kernel_rfl) h (fun q => match q with | v_6 => ⟨19, [(0, slInt false s_1), (1, .d (.fn kf_2 dsf_2)), (7, .int .i64 v_3), (8, .int .i64 v_6)], [], [], 0⟩) (fun q => match q with | (.inl v_9) => .ret | (.inr ()) => .exit 0) (fun q => match q with | (.inl v_9) => ⟨19, [(4, .int .i64 v_9)], [], [], 0⟩ | (.inr ()) => ⟨19, [], [], [], 0⟩) (by subst_vars; exact weak_l rfl rfl ⟨LV_sl, lR, lE, lE, trivial⟩ trivial trivial) (by intro q; rcases q with (v_9 | _) <;> (intro e; exact Exit.noConfusion e)) ?_ ?_; all_goals clear h
  · intro v_6 x h R hR hX
    rw [m_slices_IndexFunc_Lint_int_L1] at h
    (conv => cbv)
    refine L_tst hI h (by subst_vars; rfl) ?_ ?_ <;> clear h <;> intro h
    · refine L_get hI h (fun g => by subst_vars; exact g) ?_; clear h; intro hc x_10 hxx_10 h
      refine K_conj hI (by subst_vars; exact hdf_2) ?_
      refine L_callD hI h (args' := [.int .i64 x_10]) (fun v hv => hpf_2 x_10 v hv) (by subst_vars; rfl) ?_; clear h; intro v_11 h; (conv => cbv)
      refine L_tst hI h (by subst_vars; rfl) ?_ ?_ <;> clear h <;> intro h
      · exact hX _ _ (Option.some.inj h).symm (by subst_vars; exact weak_l rfl rfl ⟨lE, trivial⟩ trivial trivial)
      · exact hR _ _ (Option.some.inj h).symm (by subst_vars; exact weak_l rfl rfl ⟨LV_sl, lR, lE, lE, trivial⟩ trivial trivial)
    · exact hX _ _ (Option.some.inj h).symm (by subst_vars; exact weak_l rfl rfl trivial trivial trivial)
  · intro q h
    rcases q with (v_9 | _)
    · (conv => cbv)
      cases h
      subst_vars
      exact ⟨lE, rfl⟩
    · (conv => cbv)
      cases h
      subst_vars
      exact ⟨lE, rfl⟩
def m_slices_ContainsFunc_Lint_int (N : Nat) (s_1 : (List Int)) (f_2 : Int → Option Bool) : Option (Bool) :=
  (m_slices_IndexFunc_Lint_int N s_1 f_2).bind fun r_3 =>
  some (icmpR .geq r_3 0)
theorem w_slices_ContainsFunc_Lint_int (N : Nat) (s_1 : (List Int)) (f_2 : Int → Option Bool) (kf_2 : Nat) (dsf_2 : List D) (hdf_2 : noAggD dsf_2 = true) (hpf_2 : ∀ x0 r, f_2 x0 = some r → KD Try.prog kf_2 [.int .i64 x0] dsf_2 (.bool r)) (o : Bool) (h : m_slices_ContainsFunc_Lint_int N s_1 f_2 = some o) :
    KC Try.prog 100 [slInt false s_1, .d (.fn kf_2 dsf_2)] (.bool o) [] := by
  unfold m_slices_ContainsFunc_Lint_int at h
  refine con_l [] [] seat Try.func100 rfl ent_100 (by kernel_rfl) rfl rfl (by simp) ?_; intro base I hI; (conv => cbv)
  refine L_call hI h (fun v hv => w_slices_IndexFunc_Lint_int N s_1 f_2 kf_2 dsf_2 hdf_2 hpf_2 v hv) (by subst_vars; exact ⟨(leD_refl _), (leD_refl _), rfl⟩) ?_; clear h; intro r_3 h; (conv => cbv)
  cases h
  subst_vars
  exact ⟨lE, rfl⟩
def m_cloth_within_1 (N : Nat) (n_1 : Int) (p_2 : Int) (p_3 : Int) : Option (Bool) :=
  (show Option (Bool) from
    if icmpR .lss n_1 p_2 then
      some true
    else
      some (icmpR .gtr n_1 p_3)).bind fun q => match q with
  | v_4 =>
    some v_4
theorem w_cloth_within_1 (N : Nat) (n_1 : Int) (p_2 : Int) (p_3 : Int) (o : Bool) (h : m_cloth_within_1 N n_1 p_2 p_3 = some o) :
    KC Try.prog 101 [.int .i64 n_1, .ptr [.int .i64 p_2], .ptr [.int .i64 p_3]] (.bool o) [] := by
  unfold m_cloth_within_1 at h
  refine con_l [] [1000001] seat Try.func101 rfl ent_101 (by kernel_rfl) rfl rfl (by simp) ?_; intro base I hI; (conv => cbv)
  refine L_cut hI seat [] (by kernel_rfl) h (fun q => match q with | v_4 => .normal) (fun q => match q with | v_4 => ⟨13, [(4, .bool v_4)], [], [], 0⟩) ?_ ?_; all_goals clear h
  · intro x h R hR
    (conv => cbv)
    refine L_tst hI h (by subst_vars; rfl) ?_ ?_ <;> clear h <;> intro h
    · exact hR _ _ (Option.some.inj h).symm (by subst_vars; exact weak_l rfl rfl ⟨lE, trivial⟩ trivial trivial)
    · exact hR _ _ (Option.some.inj h).symm (by subst_vars; exact weak_l rfl rfl ⟨lE, trivial⟩ trivial trivial)
  · intro v_4 h
    (conv => cbv)
    cases h
    subst_vars
    exact ⟨lE, rfl⟩
def m_cloth_within (N : Nat) (least_1 : Int) (most_2 : Int) (l_3 : (List Int)) : Option (Bool) :=
  (m_slices_ContainsFunc_Lint_int N l_3 (fun x0 => m_cloth_within_1 N x0 least_1 most_2)).bind fun r_4 =>
  some (!r_4)
theorem w_cloth_within (N : Nat) (least_1 : Int) (most_2 : Int) (l_3 : (List Int)) (o : Bool) (h : m_cloth_within N least_1 most_2 l_3 = some o) :
    KC Try.prog 68 [.int .i64 least_1, .int .i64 most_2, slInt false l_3] (.bool o) [] := by
  unfold m_cloth_within at h
  refine con_l [] [] seat Try.func68 rfl ent_68 (by kernel_rfl) rfl rfl (by simp) ?_; intro base I hI; (conv => cbv)
  refine L_call hI h (fun v hv => w_slices_ContainsFunc_Lint_int N l_3 (fun x0 => m_cloth_within_1 N x0 least_1 most_2) 101 (KV.toDL [.ptr [.int .i64 least_1], .ptr [.int .i64 most_2]]) rfl (fun x0 r hr => KD_of (caps := [.ptr [.int .i64 least_1], .ptr [.int .i64 most_2]]) (w_cloth_within_1 N x0 least_1 most_2 r hr)) v hv) (by subst_vars; exact ⟨(leD_refl _), (leD_refl _), rfl⟩) ?_; clear h; intro r_4 h; (conv => cbv)
  cases h
  subst_vars
  exact ⟨lE, rfl⟩
def m_cloth_truths_values (N : Nat) (t_1 : A3_L_cloth_stretch) (what_2 : Int) (hour_3 : Int) : Option ((A3_L_cloth_stretch × Int × Int)) :=
  some (t_1, what_2, hour_3)
theorem w_cloth_truths_values (N : Nat) (t_1 : A3_L_cloth_stretch) (what_2 : Int) (hour_3 : Int) (o : (A3_L_cloth_stretch × Int × Int)) (h : m_cloth_truths_values N t_1 what_2 hour_3 = some o) :
    KC Try.prog 74 [.agg [sl_cloth_stretch false t_1.a0, sl_cloth_stretch false t_1.a1, sl_cloth_stretch false t_1.a2], .int .i64 what_2, .int .i64 hour_3] (.dfn 105 [.ptr [sl_cloth_stretch false o.1.a0, sl_cloth_stretch false o.1.a1, sl_cloth_stretch false o.1.a2], .ptr [.int .i64 o.2.1], .ptr [.int .i64 o.2.2]]) [] := by
  unfold m_cloth_truths_values at h
  refine con_l [] [] seat Try.func74 rfl ent_74 (by kernel_rfl) rfl rfl (by simp) ?_; intro base I hI; (conv => cbv)
  cases h
  subst_vars
  exact ⟨lE, rfl⟩
end
end Go.Proofs.Ytnekemldcjegaaa.Aw

/- Plain model and walk of a law, printed by wip/gen/ch1.py. -/
namespace Go.Proofs.Ytnekemldcjegaaa.Aw
open Go Go.RowKit Go.Proofs
set_option maxRecDepth 100000
set_option maxHeartbeats 4000000
set_option linter.unusedSimpArgs false
set_option linter.unusedVariables false
noncomputable section
end
end Go.Proofs.Ytnekemldcjegaaa.Aw

/- Plain law of ClothBetween. -/
namespace Go.Proofs.Ytnekemldcjegaaa.Aw
open Go Go.RowKit Go.Proofs
set_option linter.unusedSimpArgs false
set_option linter.unusedVariables false
theorem truW_len {ts : List Track} {ms : List Meas} (hck : check ts ms = 0) {w : Int} (h0 : 0 ≤ w) (h1 : w ≤ 2) : (truW ts ms noSkip w).length ≤ 1000000 := by
  obtain ⟨g1, g2, g3, g4⟩ := check_zero hck
  have ht := getD_ok g1 g2 h0 h1
  have := truT_len ht (fun x r => okL w noSkip x r ms 0 true)
  unfold truW; omega
end Go.Proofs.Ytnekemldcjegaaa.Aw

/- Plain: how many numbers lie in a window; the most that do. -/
namespace Go.Proofs.Ytnekemldcjegaaa.Aw
open Go Go.RowKit Go.Proofs
set_option linter.unusedSimpArgs false
set_option linter.unusedVariables false
/-- How many numbers lie between two ends. -/
def cnt (V : List Int) (a b : Int) : Nat := V.countP fun v => decide (a ≤ v ∧ v ≤ b)
theorem cnt_le (V : List Int) (a b : Int) : cnt V a b ≤ V.length := List.countP_le_length
theorem cnt_pos {V : List Int} {a b v : Int} (hv : v ∈ V) (h : a ≤ v ∧ v ≤ b) : 0 < cnt V a b := by
  unfold cnt
  rw [List.countP_pos_iff]
  exact ⟨v, hv, by simpa using h⟩
/-- The most numbers in a window so wide. -/
structure IsMost (V : List Int) (w : Int) (M : Int) : Prop where
  all : ∀ x : Int, (cnt V x (x + w) : Int) ≤ M
  some : ∃ v ∈ V, (cnt V v (v + w) : Int) = M
theorem IsMost.pos {V : List Int} {w M : Int} (h : IsMost V w M) (hw : 0 ≤ w) : 1 ≤ M ∧ M ≤ V.length := by
  obtain ⟨v, hv, e⟩ := h.some
  have := cnt_pos (a := v) (b := v + w) hv (by omega)
  have := cnt_le V v (v + w)
  omega
end Go.Proofs.Ytnekemldcjegaaa.Aw

/- Plain: how many truths are left; where to look. -/
namespace Go.Proofs.Ytnekemldcjegaaa.Aw
open Go Go.RowKit Go.Proofs
set_option linter.unusedSimpArgs false
set_option linter.unusedVariables false
end Go.Proofs.Ytnekemldcjegaaa.Aw

/- Plain: the values of stretches are those of the truths; where to look. -/
namespace Go.Proofs.Ytnekemldcjegaaa.Aw
open Go Go.RowKit Go.Proofs
set_option linter.unusedSimpArgs false
set_option linter.unusedVariables false
def pairN (r : Int) : Nat → Int → List Tru
  | 0, _ => []
  | n + 1, x => ⟨x, r⟩ :: pairN r n (x + 1)
def pairS (s : Str) : List Tru := pairN s.rate (s.high + 1 - s.low).toNat s.low
def pairL (l : List Str) : List Tru := l.flatMap pairS
theorem mem_pairN {r : Int} {t : Tru} : ∀ {n : Nat} {x : Int}, t ∈ pairN r n x ↔ t.rate = r ∧ x ≤ t.first ∧ t.first < x + n
  | 0, x => by simp only [pairN, List.not_mem_nil, false_iff]; omega
  | n + 1, x => by
    simp only [pairN, List.mem_cons, mem_pairN (n := n)]
    constructor
    · rintro (rfl | h)
      · exact ⟨rfl, by simp only; omega, by simp only; omega⟩
      · omega
    · rintro ⟨a, b, c⟩
      by_cases e : t.first = x
      · left; cases t; simp_all
      · right; omega
theorem nodup_pairN (r : Int) : ∀ (n : Nat) (x : Int), (pairN r n x).Nodup
  | 0, x => List.nodup_nil
  | n + 1, x => by
    simp only [pairN, List.nodup_cons]
    exact ⟨fun h => by have := mem_pairN.1 h; simp only at this; omega, nodup_pairN r n (x + 1)⟩
theorem mem_pairL {l : List Str} {t : Tru} : t ∈ pairL l ↔ ∃ s ∈ l, s.rate = t.rate ∧ s.low ≤ t.first ∧ t.first ≤ s.high := by
  unfold pairL pairS
  rw [List.mem_flatMap]
  constructor
  · rintro ⟨s, hs, h⟩
    have := mem_pairN.1 h
    exact ⟨s, hs, this.1.symm, by omega, by omega⟩
  · rintro ⟨s, hs, h1, h2, h3⟩
    exact ⟨s, hs, mem_pairN.2 ⟨h1.symm, by omega, by omega⟩⟩
theorem nodup_pairL : ∀ {l : List Str}, l.Pairwise (fun a b => a.rate < b.rate) → (pairL l).Nodup
  | [], _ => List.nodup_nil
  | s :: l, h => by
    have h := List.pairwise_cons.1 h
    show (pairS s ++ pairL l).Nodup
    rw [List.nodup_append]
    refine ⟨nodup_pairN _ _ _, nodup_pairL h.2, fun a ha b hb e => ?_⟩
    subst e
    obtain ⟨u, hu, e1, _⟩ := mem_pairL.1 hb
    have := (mem_pairN.1 ha).1
    have := h.1 u hu
    omega
theorem strsN_lt {t : Track} {w : Int} {skip : Int → Bool} {ms : List Meas} : ∀ n : Nat, (strsN t w skip ms n).Pairwise (fun a b => a.rate < b.rate)
  | 0 => List.Pairwise.nil
  | n + 1 => by
    simp only [strsN]
    refine List.pairwise_append.2 ⟨strsN_lt n, ?_, fun a ha b hb => ?_⟩
    · unfold strAtR; split <;> simp
    · obtain ⟨k, k1, k2⟩ := mem_strsN.1 ha
      have := (mem_strAtR.1 k2).2.2.1
      have := (mem_strAtR.1 hb).2.2.1
      omega
theorem nodup_truR (f : Int → Int → Bool) (x : Int) : ∀ (n : Nat) (r : Int), (truR f x n r).Nodup
  | 0, r => List.nodup_nil
  | n + 1, r => by
    simp only [truR]
    rw [List.nodup_append]
    refine ⟨by split <;> simp, nodup_truR f x n (r + 1), fun a ha b hb e => ?_⟩
    subst e
    have h2 := (mem_truR.1 hb).2.1
    split at ha
    · simp only [List.mem_singleton] at ha; subst ha; simp only at h2; omega
    · cases ha
theorem nodup_truX (f : Int → Int → Bool) (rl : Int) (nr : Nat) : ∀ (n : Nat) (x : Int), (truX f rl nr n x).Nodup
  | 0, x => List.nodup_nil
  | n + 1, x => by
    simp only [truX]
    rw [List.nodup_append]
    refine ⟨nodup_truR _ _ _ _, nodup_truX f rl nr n (x + 1), fun a ha b hb e => ?_⟩
    subst e
    have h1 := (mem_truR.1 ha).1
    have h2 := (mem_truX.1 hb).1
    omega
theorem valN_map (h r : Int) : ∀ (n : Nat) (x : Int), valN h r n x = valT h (pairN r n x)
  | 0, x => rfl
  | n + 1, x => by
    have := valN_map h r n (x + 1)
    simp only [valN, pairN, valT, List.map_cons] at this ⊢
    rw [this]
theorem valsL_map (h : Int) : ∀ l : List Str, valsL h l = valT h (pairL l)
  | [] => rfl
  | s :: l => by
    show valS h s ++ valsL h l = valT h (pairS s ++ pairL l)
    rw [valsL_map h l, valS, valN_map]
    simp only [valT, List.map_append]; rfl
section
variable {ts : List Track} {ms : List Meas} {w : Int}
theorem pairs_perm (hck : check ts ms = 0) (h0 : 0 ≤ w) (h1 : w ≤ 2) : (pairL (strW ts ms noSkip w)).Perm (truW ts ms noSkip w) := by
  refine (List.perm_ext_iff_of_nodup (nodup_pairL (strsN_lt _)) (nodup_truX _ _ _ _ _)).2 (fun t => ?_)
  rw [mem_pairL]
  have := truW_iff (skip := noSkip) hck h0 h1 (x := t.first) (r := t.rate)
  exact ⟨fun h => this.2 (by obtain ⟨s, a, b, c, d⟩ := h; exact ⟨s, a, b, c, d⟩), fun h => by obtain ⟨s, a, b, c, d⟩ := this.1 h; exact ⟨s, a, b, c, d⟩⟩
theorem vals_perm (hck : check ts ms = 0) (h0 : 0 ≤ w) (h1 : w ≤ 2) (h : Int) : (valW ts ms w h).Perm (valT h (truW ts ms noSkip w)) := by
  unfold valW
  rw [valsL_map]
  exact (pairs_perm hck h0 h1).map _
theorem trIn_of (ho : (openR ts ms).1 = 0) (h0 : 0 ≤ w) (h1 : w ≤ 2) {h : Int} (hh : h ≤ 1000000) : TrIn (openR ts ms).2 w h ∧ (openR ts ms).2.sel w = strW ts ms noSkip w := by
  obtain ⟨g1, g2, g3, g4, g5⟩ := openR_ok ho
  have hs := sel_open (w := w) ho h0 h1
  refine ⟨⟨⟨h0, h1⟩, hh, ?_, ?_, ?_⟩, hs⟩
  · rw [hs]
    have hw : w = 0 ∨ w = 1 ∨ w = 2 := by omega
    rcases hw with rfl | rfl | rfl <;> assumption
  · rw [hs]; have := strW_len (skip := noSkip) g1 h0 h1; omega
  · rw [hs]; exact str_ok g1 h0 h1
theorem within_eq (N : Nat) (hN : 2 ≤ N) {a b n : Int} : m_cloth_within N a b [n] = some (decide (a ≤ n ∧ n ≤ b)) := by
  obtain ⟨M, rfl⟩ : ∃ M, N = M + 2 := ⟨N - 2, by omega⟩
  have hf : m_cloth_within_1 (M + 2) n a b = some (!decide (a ≤ n ∧ n ≤ b)) := by
    simp only [m_cloth_within_1, icmp_lss, icmp_gtr, decide_eq_true_eq]
    by_cases h1 : n < a
    · rw [if_pos h1, bindS]; simp; omega
    · rw [if_neg h1, bindS]
      by_cases h2 : n > b
      · simp [h2]; try omega
      · simp [h2]; try omega
  by_cases h : a ≤ n ∧ n ≤ b
  · simp only [h, and_self, decide_true, Bool.not_true] at hf ⊢
    have s0 : m_slices_IndexFunc_Lint_int_L1 (M + 2) 1 [n] (fun x0 => m_cloth_within_1 (M + 2) x0 a b) 0 = some (.inl 1) := by
      simp only [m_slices_IndexFunc_Lint_int_L1, getO_of (d := (0 : Int)) (l := [n]) (i := 0) (by omega) (by simp), bindS, icmp_lss]
      show (if decide ((0 : Int) < 1) = true then (m_cloth_within_1 (M + 2) n a b).bind _ else _) = _
      rw [hf]; rfl
    have s1 : m_slices_IndexFunc_Lint_int_L1 (M + 2) 1 [n] (fun x0 => m_cloth_within_1 (M + 2) x0 a b) 1 = some (.inr (.inr ())) := by
      simp only [m_slices_IndexFunc_Lint_int_L1, icmp_lss]; rfl
    have : m_slices_IndexFunc_Lint_int (M + 2) [n] (fun x0 => m_cloth_within_1 (M + 2) x0 a b) = some (-1) := by
      unfold m_slices_IndexFunc_Lint_int
      simp only [letO_eq, show (([n].length : Nat) : Int) = 1 from rfl]
      rw [show loopO (m_slices_IndexFunc_Lint_int_L1 (M + 2) 1 [n] (fun x0 => m_cloth_within_1 (M + 2) x0 a b)) (M + 2) 0 = some (.inr ()) from by rw [loopO_inl s0, loopO_inr s1]]
      rfl
    unfold m_cloth_within m_slices_ContainsFunc_Lint_int
    rw [this]; rfl
  · simp only [h, decide_false, Bool.not_false] at hf ⊢
    have s0 : m_slices_IndexFunc_Lint_int_L1 (M + 2) 1 [n] (fun x0 => m_cloth_within_1 (M + 2) x0 a b) 0 = some (.inr (.inl 0)) := by
      simp only [m_slices_IndexFunc_Lint_int_L1, getO_of (d := (0 : Int)) (l := [n]) (i := 0) (by omega) (by simp), bindS, icmp_lss]
      show (if decide ((0 : Int) < 1) = true then (m_cloth_within_1 (M + 2) n a b).bind _ else _) = _
      rw [hf]; rfl
    have : m_slices_IndexFunc_Lint_int (M + 2) [n] (fun x0 => m_cloth_within_1 (M + 2) x0 a b) = some 0 := by
      unfold m_slices_IndexFunc_Lint_int
      simp only [letO_eq, show (([n].length : Nat) : Int) = 1 from rfl]
      rw [show loopO (m_slices_IndexFunc_Lint_int_L1 (M + 2) 1 [n] (fun x0 => m_cloth_within_1 (M + 2) x0 a b)) (M + 2) 0 = some (.inl 0) from by rw [loopO_inr s0]]
      rfl
    unfold m_cloth_within m_slices_ContainsFunc_Lint_int
    rw [this]; rfl
end
end Go.Proofs.Ytnekemldcjegaaa.Aw

/- Further plain models and walks of chapter 1, printed by wip/gen/ch1b.py. -/
namespace Go.Proofs.Ytnekemldcjegaaa.Aw
open Go Go.RowKit Go.Proofs
set_option maxRecDepth 100000
set_option maxHeartbeats 4000000
set_option linter.unusedSimpArgs false
set_option linter.unusedVariables false
noncomputable section
structure A2_api_Cloth where
  a0 : api_Cloth
  a1 : api_Cloth
def me_int_bool (x : (Int × Bool)) (j : Nat) : KV := cel [.int .i64 x.1, .bool x.2] j
def mp_int_bool (l : List (Int × Bool)) : KV := .mp (Int × Bool) (0, false) l me_int_bool
theorem menc_int_bool : MapEnc (.int .i64) me_int_bool (fun x => .int .i64 x) (fun x => .bool x) := ⟨⟨_, rfl, fun _ => by simp [isKeyD, KV.toD]⟩, fun _ => rfl, fun _ => rfl, fun _ _ => rfl, fun _ => rfl⟩
def m_cloth_truths_firsts_L1 (N : Nat) : Int → (List (Int × Bool)) → Option (((List (Int × Bool))) ⊕ (Empty))
  | y_5, l_7 =>
    letO (mset l_7 y_5 true) fun l_9 =>
    some (.inl l_9)
def m_cloth_truths_firsts (N : Nat) (t_1 : A3_L_cloth_stretch) (what_2 : Int) : Option ((List (Int × Bool))) :=
  (m_cloth_truths_values N t_1 what_2 0).bind fun r_3 =>
  (m_it_values N r_3.1 r_3.2.1 r_3.2.2).bind fun ys_4 =>
  (rangeO (m_cloth_truths_firsts_L1 N) ys_4 []).bind fun q => match q with
  | .inl l_7 =>
    some l_7
theorem w_cloth_truths_firsts (N : Nat) (t_1 : A3_L_cloth_stretch) (what_2 : Int) (o : (List (Int × Bool))) (h : m_cloth_truths_firsts N t_1 what_2 = some o) :
    KC Try.prog 90 [.agg [sl_cloth_stretch false t_1.a0, sl_cloth_stretch false t_1.a1, sl_cloth_stretch false t_1.a2], .int .i64 what_2] (mp_int_bool o) [] := by
  unfold m_cloth_truths_firsts at h
  refine con_l [] [] seat Try.func90 rfl ent_90 (by kernel_rfl) rfl rfl (by simp) ?_; intro base I hI; (conv => cbv)
  refine L_call hI h (fun v hv => w_cloth_truths_values N t_1 what_2 0 v hv) (by subst_vars; exact ⟨(leD_refl _), (leD_refl _), (leD_refl _), rfl⟩) ?_; clear h; intro r_3 h; (conv => cbv)
  replace h := bind_of h; obtain ⟨ys_4, hyys_4, h⟩ := h
  refine W_weak hI (S' := ⟨15, [(5, .loc 2 0), (10, .dfn 105 [.ptr [sl_cloth_stretch false r_3.1.a0, sl_cloth_stretch false r_3.1.a1, sl_cloth_stretch false r_3.1.a2], .ptr [.int .i64 r_3.2.1], .ptr [.int .i64 r_3.2.2]])], [(2, ⟨94, [.osl 1], true⟩)], [(1, ⟨0, 0, [.mp (Int × Bool) (0, false) [] me_int_bool], true, true⟩)], 0⟩) (by subst_vars; exact weak_l rfl rfl ⟨lR, lE, trivial⟩ ⟨lB ⟨lR, rfl⟩, trivial⟩ ⟨lO, trivial⟩) ?_
  refine L_range hI seat [] (by kernel_rfl) (ys := ys_4) (kY := fun y_5 => [.int .i64 y_5]) ((i_values N r_3.1 r_3.2.1 r_3.2.2 ys_4 hyys_4)) rfl h (fun q => match q with | l_7 => ([(2, ⟨94, [.osl 1], true⟩)], [(1, ⟨0, 0, [.mp (Int × Bool) (0, false) l_7 me_int_bool], true, true⟩)])) (fun q => nomatch q) (fun q => nomatch q) rfl (fun _ => ⟨rfl, rfl⟩) 3 rfl (by subst_vars; exact ⟨lB ⟨lR, rfl⟩, trivial⟩) (by subst_vars; exact ⟨lO, trivial⟩) (by intro q; rcases q with ⟨⟩ <;> (intro e; exact Exit.noConfusion e)) (by intro q; rcases q with ⟨⟩ <;> (intro _ e; exact Exit.noConfusion e)) (by intro q; rcases q with ⟨⟩ <;> (intro e; exact Exit.noConfusion e)) ?_ ?_ ?_; all_goals clear h
  · intro y_5 l_7 x h l I hI R hR hX
    rw [m_cloth_truths_firsts_L1] at h
    (conv => cbv)
    replace h := letO_of h; obtain ⟨l_9, hel_9, h⟩ := h
    refine K_mset hI menc_int_bool (d := (0, false)) l_7 y_5 true l_9 hel_9 (by subst_vars; first | rfl | (simp only [rowsD, KP.rows, KV.toDLL, List.map_append, List.map_cons, List.map_nil, List.append_nil, List.nil_append, List.append_assoc, List.singleton_append, List.cons_append, List.map_replicate]; rfl) | (simp only [primK, rowsD, KP.rows, KV.toDLL, List.map_append, List.map_cons, List.map_nil, List.append_nil, List.map_replicate]; rfl)) (by subst_vars; rfl) (by subst_vars; rfl) ?_; (conv => cbv)
    exact hR _ _ (Option.some.inj h).symm (by subst_vars; exact ⟨lB ⟨lR, rfl⟩, trivial⟩) (by subst_vars; exact ⟨lO, trivial⟩)
  · intro l_7 h
    (conv => cbv)
    cases h
    subst_vars
    exact ⟨lE, rfl⟩
  · intro q h
    rcases q with ⟨⟩
def m_cloth_Sewn_L1 (N : Nat) (p_1 : A2_api_Cloth) (p_2 : api_Cloth) : (Int × (List cloth_stretch) × (List cloth_stretch) × (List cloth_stretch) × (List cloth_stretch) × (List cloth_stretch) × (List cloth_stretch) × (List cloth_stretch) × (List cloth_stretch) × (List cloth_stretch)) → Option ((Int × (List cloth_stretch) × (List cloth_stretch) × (List cloth_stretch) × (List cloth_stretch) × (List cloth_stretch) × (List cloth_stretch) × (List cloth_stretch) × (List cloth_stretch) × (List cloth_stretch)) ⊕ ((Int) ⊕ ((List cloth_stretch) × (List cloth_stretch) × (List cloth_stretch) × (List cloth_stretch) × (List cloth_stretch) × (List cloth_stretch) × (List cloth_stretch) × (List cloth_stretch) × (List cloth_stretch))))
  | (v_12, v_13, v_14, v_15, v_29, v_30, v_31, v_32, v_33, v_34) =>
    if icmpR .lss v_12 3 then
      (show Option ((List Track) × (List Meas)) from
        if 0 ≤ v_12 ∧ v_12 < (3 : Int) then
          if icmpR .eql v_12 0 then
            some (p_1.a0.Tracks, p_1.a0.Measures)
          else
            if icmpR .eql v_12 1 then
              some (p_1.a1.Tracks, p_1.a1.Measures)
            else
              some (p_2.Tracks, p_2.Measures)
        else none).bind fun q => match q with
      | (v_58, v_59) =>
        (show Option (Int × (List cloth_stretch) × (List cloth_stretch) × (List cloth_stretch) × (List cloth_stretch) × (List cloth_stretch) × (List cloth_stretch) × (List cloth_stretch) × (List cloth_stretch) × (List cloth_stretch)) from
          (m_cloth_open N (api_Cloth.mk v_58 v_59)).bind fun r_70 =>
          if 0 ≤ v_12 ∧ v_12 < (3 : Int) then
            if icmpR .eql v_12 0 then
              some (r_70.2, r_70.1.a0, r_70.1.a1, r_70.1.a2, v_29, v_30, v_31, v_32, v_33, v_34)
            else
              if icmpR .eql v_12 1 then
                some (r_70.2, v_13, v_14, v_15, r_70.1.a0, r_70.1.a1, r_70.1.a2, v_32, v_33, v_34)
              else
                some (r_70.2, v_13, v_14, v_15, v_29, v_30, v_31, r_70.1.a0, r_70.1.a1, r_70.1.a2)
          else none).bind fun q => match q with
        | (v_60, v_61, v_62, v_63, v_64, v_65, v_66, v_67, v_68, v_69) =>
          if icmpR .neq v_60 0 then
            some (.inr (.inl v_60))
          else
            some (.inl (iopR .add .i64 v_12 1, v_61, v_62, v_63, v_64, v_65, v_66, v_67, v_68, v_69))
    else
      some (.inr (.inr (v_13, v_14, v_15, v_29, v_30, v_31, v_32, v_33, v_34)))
def m_cloth_Sewn_L4 (N : Nat) (v_196 : Int) (r_321 : (List (Int × Bool))) (y_324 : (Int × Bool)) (p_3 : Int) : (Int × Bool) → Bool → Option ((Bool) ⊕ (Empty))
  | y_402, v_414 =>
    (show Option (Bool) from
      if icmpR .eql v_196 0 then
        (show Option (Bool) from
          if v_414 then
            some true
          else
            letO (mget r_321 (iopR .sub .i64 (iopR .add .i64 y_324.1 y_402.1) p_3) false) fun x_428 =>
            letO (mhas r_321 (iopR .sub .i64 (iopR .add .i64 y_324.1 y_402.1) p_3)) fun has_429 =>
            some x_428).bind fun q => match q with
        | v_427 =>
          some v_427
      else
        (show Option (Bool) from
          if icmpR .eql v_196 1 then
            (show Option (Bool) from
              if v_414 then
                some true
              else
                if icmpR .eql y_324.1 y_402.1 then
                  letO (mget r_321 y_324.1 false) fun x_432 =>
                  letO (mhas r_321 y_324.1) fun has_433 =>
                  some x_432
                else
                  some false).bind fun q => match q with
            | v_431 =>
              some v_431
          else
            (show Option (Bool) from
              if v_414 then
                some true
              else
                letO (mget r_321 (iopR .add .i64 y_324.1 y_402.1) false) fun x_435 =>
                letO (mhas r_321 (iopR .add .i64 y_324.1 y_402.1)) fun has_436 =>
                some x_435).bind fun q => match q with
            | v_434 =>
              some v_434).bind fun q => match q with
        | v_430 =>
          some v_430).bind fun q => match q with
    | v_426 =>
      some (.inl v_426)
def m_cloth_Sewn_L3 (N : Nat) (v_196 : Int) (r_321 : (List (Int × Bool))) (p_3 : Int) (r_320 : (List (Int × Bool))) : (Int × Bool) → Bool → Option ((Bool) ⊕ (Empty))
  | y_324, v_362 =>
    (rangeAll (m_cloth_Sewn_L4 N v_196 r_321 y_324 p_3) r_320 v_362).bind fun q => match q with
    | .inl v_414 =>
      some (.inl v_414)
def m_cloth_Sewn_L2 (N : Nat) (v_49 : (List cloth_stretch)) (v_50 : (List cloth_stretch)) (v_51 : (List cloth_stretch)) (v_52 : (List cloth_stretch)) (v_53 : (List cloth_stretch)) (v_54 : (List cloth_stretch)) (v_55 : (List cloth_stretch)) (v_56 : (List cloth_stretch)) (v_57 : (List cloth_stretch)) (p_3 : Int) : (Bool × Bool × Int) → Option ((Bool × Bool × Int) ⊕ (Bool × Bool))
  | (v_194, v_195, v_196) =>
    if icmpR .lss v_196 3 then
      (m_cloth_truths_firsts N (A3_L_cloth_stretch.mk v_49 v_50 v_51) v_196).bind fun r_319 =>
      (m_cloth_truths_firsts N (A3_L_cloth_stretch.mk v_52 v_53 v_54) v_196).bind fun r_320 =>
      (m_cloth_truths_firsts N (A3_L_cloth_stretch.mk v_55 v_56 v_57) v_196).bind fun r_321 =>
      (rangeAll (m_cloth_Sewn_L3 N v_196 r_321 p_3 r_320) r_319 false).bind fun q => match q with
      | .inl v_362 =>
        (show Option (Bool × Bool) from
          if v_194 then
            if v_362 then
              if v_195 then
                some (v_362, icmpR .eql (iopR .mul .i64 (iopR .mul .i64 ((r_319.length : Nat) : Int) ((r_320.length : Nat) : Int)) ((r_321.length : Nat) : Int)) 1)
              else
                some (false, icmpR .eql (iopR .mul .i64 (iopR .mul .i64 ((r_319.length : Nat) : Int) ((r_320.length : Nat) : Int)) ((r_321.length : Nat) : Int)) 1)
            else
              if v_195 then
                some (v_362, false)
              else
                some (false, false)
          else
            if v_195 then
              some (v_362, false)
            else
              some (false, false)).bind fun q => match q with
        | (v_437, v_438) =>
          some (.inl (v_438, v_437, iopR .add .i64 v_196 1))
    else
      some (.inr (v_194, v_195))
def m_cloth_Sewn (N : Nat) (p_1 : A2_api_Cloth) (p_2 : api_Cloth) (p_3 : Int) : Option (Bool × Bool × Int) :=
  (loopO (m_cloth_Sewn_L1 N p_1 p_2) N (0, [], [], [], [], [], [], [], [], [])).bind fun q => match q with
  | (.inl v_48) =>
    some (false, false, v_48)
  | (.inr (v_49, v_50, v_51, v_52, v_53, v_54, v_55, v_56, v_57)) =>
    (m_cloth_within N 0 20 [p_3]).bind fun r_71 =>
    if !r_71 then
      some (false, false, 3)
    else
      (loopO (m_cloth_Sewn_L2 N v_49 v_50 v_51 v_52 v_53 v_54 v_55 v_56 v_57 p_3) N (true, true, 0)).bind fun q => match q with
      | (v_317, v_318) =>
        some (v_317, v_318, 0)
theorem w_cloth_Sewn (N : Nat) (p_1 : A2_api_Cloth) (p_2 : api_Cloth) (p_3 : Int) (o : Bool × Bool × Int) (h : m_cloth_Sewn N p_1 p_2 p_3 = some o) :
    KC Try.prog 55 [.agg [slTrack false p_1.a0.Tracks, slMeas false p_1.a0.Measures, slTrack false p_1.a1.Tracks, slMeas false p_1.a1.Measures], .agg [slTrack false p_2.Tracks, slMeas false p_2.Measures], .int .i64 p_3] (.tup [.bool o.1, .bool o.2.1, .int .i64 o.2.2]) [] := by
  unfold m_cloth_Sewn at h
  refine con_l [] [1000004, 1000005, 1000024, 1000026, 1000028, 1000029, 2000080, 2000092] seat Try.func55 rfl ent_55 (by kernel_rfl) rfl rfl (by simp) ?_; intro base I hI; (conv => cbv)
  refine L_loop hI seat [1000004, 1000005, 1000024, 1000026, 1000028, 1000029, 2000080, 2000092] (by kernel_rfl) h (fun q => match q with | (v_12, v_13, v_14, v_15, v_29, v_30, v_31, v_32, v_33, v_34) => ⟨127, [(2, .int .i64 p_3), (9, .loc 2 0), (24, .agg [slTrack false p_1.a0.Tracks, slMeas false p_1.a0.Measures, slTrack false p_1.a1.Tracks, slMeas false p_1.a1.Measures, slTrack false p_2.Tracks, slMeas false p_2.Measures]), (25, .int .i64 v_12)], [(2, ⟨138, [sl_cloth_stretch false v_13, sl_cloth_stretch false v_14, sl_cloth_stretch false v_15, sl_cloth_stretch false v_29, sl_cloth_stretch false v_30, sl_cloth_stretch false v_31, sl_cloth_stretch false v_32, sl_cloth_stretch false v_33, sl_cloth_stretch false v_34], true⟩)], [], 0⟩) (fun q => match q with | (.inl v_48) => .ret | (.inr (v_49, v_50, v_51, v_52, v_53, v_54, v_55, v_56, v_57)) => .exit 0) (fun q => match q with | (.inl v_48) => ⟨127, [(6, .ff), (7, .ff), (8, .int .i64 v_48)], [], [], 0⟩ | (.inr (v_49, v_50, v_51, v_52, v_53, v_54, v_55, v_56, v_57)) => ⟨127, [(2, .int .i64 p_3), (9, .loc 2 0)], [(2, ⟨138, [sl_cloth_stretch false v_49, sl_cloth_stretch false v_50, sl_cloth_stretch false v_51, sl_cloth_stretch false v_52, sl_cloth_stretch false v_53, sl_cloth_stretch false v_54, sl_cloth_stretch false v_55, sl_cloth_stretch false v_56, sl_cloth_stretch false v_57], true⟩)], [], 0⟩) (by subst_vars; exact weak_l rfl rfl ⟨lE, lR, (LV_agg ⟨LV_sl, LV_sl, LV_sl, LV_sl, LV_sl, LV_sl, rfl⟩), lE, trivial⟩ ⟨lB ⟨LV_nil, LV_nil, LV_nil, LV_nil, LV_nil, LV_nil, LV_nil, LV_nil, LV_nil, rfl⟩, trivial⟩ trivial) (by intro q; rcases q with (v_48 | ⟨v_49, v_50, v_51, v_52, v_53, v_54, v_55, v_56, v_57⟩) <;> (intro e; exact Exit.noConfusion e)) ?_ ?_; all_goals clear h
  · intro q x h R hR hX
    obtain ⟨v_12, v_13, v_14, v_15, v_29, v_30, v_31, v_32, v_33, v_34⟩ := q
    rw [m_cloth_Sewn_L1] at h
    (conv => cbv)
    refine L_tst hI h (by subst_vars; rfl) ?_ ?_ <;> clear h <;> intro h
    · refine L_cut hI seat [1000005, 1000024, 1000026, 1000028, 1000029, 2000080, 2000092] (by kernel_rfl) h (fun q => match q with | (v_58, v_59) => .normal) (fun q => match q with | (v_58, v_59) => ⟨127, [(2, .int .i64 p_3), (9, .loc 2 0), (10, .int .i64 v_12), (11, .loc 3 0), (24, .agg [slTrack false p_1.a0.Tracks, slMeas false p_1.a0.Measures, slTrack false p_1.a1.Tracks, slMeas false p_1.a1.Measures, slTrack false p_2.Tracks, slMeas false p_2.Measures]), (25, .int .i64 v_12)], [(3, ⟨25, [slTrack false v_58, slMeas false v_59], true⟩), (2, ⟨138, [sl_cloth_stretch false v_13, sl_cloth_stretch false v_14, sl_cloth_stretch false v_15, sl_cloth_stretch false v_29, sl_cloth_stretch false v_30, sl_cloth_stretch false v_31, sl_cloth_stretch false v_32, sl_cloth_stretch false v_33, sl_cloth_stretch false v_34], true⟩)], [], 0⟩) ?_ ?_; all_goals clear h
      · intro x h R hR
        (conv => cbv)
        refine L_conj hI h (fun g => by subst_vars; exact g) ?_; clear h; intro hc h
        refine L_tst hI h (by subst_vars; rfl) ?_ ?_ <;> clear h <;> intro h
        · exact hR _ _ (Option.some.inj h).symm (by subst_vars; exact weak_l rfl rfl ⟨lE, lR, lE, lR, (LV_agg ⟨LV_sl, LV_sl, LV_sl, LV_sl, LV_sl, LV_sl, rfl⟩), lE, trivial⟩ ⟨lB ⟨LV_sl, LV_sl, rfl⟩, lB ⟨LV_sl, LV_sl, LV_sl, LV_sl, LV_sl, LV_sl, LV_sl, LV_sl, LV_sl, rfl⟩, trivial⟩ trivial)
        · refine L_tst hI h (by subst_vars; rfl) ?_ ?_ <;> clear h <;> intro h
          · exact hR _ _ (Option.some.inj h).symm (by subst_vars; exact weak_l rfl rfl ⟨lE, lR, lE, lR, (LV_agg ⟨LV_sl, LV_sl, LV_sl, LV_sl, LV_sl, LV_sl, rfl⟩), lE, trivial⟩ ⟨lB ⟨LV_sl, LV_sl, rfl⟩, lB ⟨LV_sl, LV_sl, LV_sl, LV_sl, LV_sl, LV_sl, LV_sl, LV_sl, LV_sl, rfl⟩, trivial⟩ trivial)
          · exact hR _ _ (Option.some.inj h).symm (by subst_vars; exact weak_l rfl rfl ⟨lE, lR, lE, lR, (LV_agg ⟨LV_sl, LV_sl, LV_sl, LV_sl, LV_sl, LV_sl, rfl⟩), lE, trivial⟩ ⟨lB ⟨LV_sl, LV_sl, rfl⟩, lB ⟨LV_sl, LV_sl, LV_sl, LV_sl, LV_sl, LV_sl, LV_sl, LV_sl, LV_sl, rfl⟩, trivial⟩ trivial)
      · intro q h
        rcases q with ⟨v_58, v_59⟩
        (conv => cbv)
        refine L_cut hI seat [1000004, 1000024, 1000026, 1000028, 1000029, 2000080, 2000092] (by kernel_rfl) h (fun q => match q with | (v_60, v_61, v_62, v_63, v_64, v_65, v_66, v_67, v_68, v_69) => .normal) (fun q => match q with | (v_60, v_61, v_62, v_63, v_64, v_65, v_66, v_67, v_68, v_69) => ⟨127, [(2, .int .i64 p_3), (8, .int .i64 v_60), (9, .loc 2 0), (24, .agg [slTrack false p_1.a0.Tracks, slMeas false p_1.a0.Measures, slTrack false p_1.a1.Tracks, slMeas false p_1.a1.Measures, slTrack false p_2.Tracks, slMeas false p_2.Measures]), (25, .int .i64 v_12)], [(2, ⟨138, [sl_cloth_stretch false v_61, sl_cloth_stretch false v_62, sl_cloth_stretch false v_63, sl_cloth_stretch false v_64, sl_cloth_stretch false v_65, sl_cloth_stretch false v_66, sl_cloth_stretch false v_67, sl_cloth_stretch false v_68, sl_cloth_stretch false v_69], true⟩)], [], 0⟩) ?_ ?_; all_goals clear h
        · intro x h R hR
          (conv => cbv)
          refine L_call hI h (fun v hv => w_cloth_open N (api_Cloth.mk v_58 v_59) v hv) (by subst_vars; exact ⟨⟨⟨.inl rfl, rfl, leDLL_refl _⟩, ⟨.inl rfl, rfl, leDLL_refl _⟩, rfl⟩, rfl⟩) ?_; clear h; intro r_70 h; (conv => cbv)
          refine L_conj hI h (fun g => by subst_vars; exact g) ?_; clear h; intro hc h
          refine L_tst hI h (by subst_vars; rfl) ?_ ?_ <;> clear h <;> intro h
          · exact hR _ _ (Option.some.inj h).symm (by subst_vars; exact weak_l rfl rfl ⟨lE, lE, lR, (LV_agg ⟨LV_sl, LV_sl, LV_sl, LV_sl, LV_sl, LV_sl, rfl⟩), lE, trivial⟩ ⟨lB ⟨LV_sl, LV_sl, LV_sl, LV_sl, LV_sl, LV_sl, LV_sl, LV_sl, LV_sl, rfl⟩, trivial⟩ trivial)
          · refine L_tst hI h (by subst_vars; rfl) ?_ ?_ <;> clear h <;> intro h
            · exact hR _ _ (Option.some.inj h).symm (by subst_vars; exact weak_l rfl rfl ⟨lE, lE, lR, (LV_agg ⟨LV_sl, LV_sl, LV_sl, LV_sl, LV_sl, LV_sl, rfl⟩), lE, trivial⟩ ⟨lB ⟨LV_sl, LV_sl, LV_sl, LV_sl, LV_sl, LV_sl, LV_sl, LV_sl, LV_sl, rfl⟩, trivial⟩ trivial)
            · exact hR _ _ (Option.some.inj h).symm (by subst_vars; exact weak_l rfl rfl ⟨lE, lE, lR, (LV_agg ⟨LV_sl, LV_sl, LV_sl, LV_sl, LV_sl, LV_sl, rfl⟩), lE, trivial⟩ ⟨lB ⟨LV_sl, LV_sl, LV_sl, LV_sl, LV_sl, LV_sl, LV_sl, LV_sl, LV_sl, rfl⟩, trivial⟩ trivial)
        · intro q h
          rcases q with ⟨v_60, v_61, v_62, v_63, v_64, v_65, v_66, v_67, v_68, v_69⟩
          (conv => cbv)
          refine L_tst hI h (by subst_vars; rfl) ?_ ?_ <;> clear h <;> intro h
          · exact hX _ _ (Option.some.inj h).symm (by subst_vars; exact weak_l rfl rfl ⟨lE, lE, lE, trivial⟩ trivial trivial)
          · exact hR _ _ (Option.some.inj h).symm (by subst_vars; exact weak_l rfl rfl ⟨lE, lR, (LV_agg ⟨LV_sl, LV_sl, LV_sl, LV_sl, LV_sl, LV_sl, rfl⟩), lE, trivial⟩ ⟨lB ⟨LV_sl, LV_sl, LV_sl, LV_sl, LV_sl, LV_sl, LV_sl, LV_sl, LV_sl, rfl⟩, trivial⟩ trivial)
    · exact hX _ _ (Option.some.inj h).symm (by subst_vars; exact weak_l rfl rfl ⟨lE, lR, trivial⟩ ⟨lB ⟨LV_sl, LV_sl, LV_sl, LV_sl, LV_sl, LV_sl, LV_sl, LV_sl, LV_sl, rfl⟩, trivial⟩ trivial)
  · intro q h
    rcases q with (v_48 | ⟨v_49, v_50, v_51, v_52, v_53, v_54, v_55, v_56, v_57⟩)
    · (conv => cbv)
      cases h
      subst_vars
      exact ⟨(LV_tup ⟨lE, lE, lE, rfl⟩), rfl⟩
    · (conv => cbv)
      refine L_call hI h (fun v hv => w_cloth_within N 0 20 [p_3] v hv) (by subst_vars; exact ⟨(leD_refl _), (leD_refl _), ⟨.inl rfl, rfl, leDLL_refl _⟩, rfl⟩) ?_; clear h; intro r_71 h; (conv => cbv)
      refine L_tst hI h (by subst_vars; rfl) ?_ ?_ <;> clear h <;> intro h
      · cases h
        subst_vars
        exact ⟨(LV_tup ⟨lE, lE, lE, rfl⟩), rfl⟩
      · refine L_loop hI seat [1000004, 1000005, 1000024, 1000026, 1000028, 1000029, 2000080, 2000092] (by kernel_rfl) h (fun q => match q with | (v_194, v_195, v_196) => ⟨127, [(2, .int .i64 p_3), (6, .bool v_194), (7, .bool v_195), (9, .loc 2 0), (44, .int .i64 v_196)], [(2, ⟨138, [sl_cloth_stretch false v_49, sl_cloth_stretch false v_50, sl_cloth_stretch false v_51, sl_cloth_stretch false v_52, sl_cloth_stretch false v_53, sl_cloth_stretch false v_54, sl_cloth_stretch false v_55, sl_cloth_stretch false v_56, sl_cloth_stretch false v_57], true⟩)], [], 0⟩) (fun q => match q with | (v_317, v_318) => .exit 2) (fun q => match q with | (v_317, v_318) => ⟨127, [(6, .bool v_317), (7, .bool v_318)], [], [], 0⟩) (by subst_vars; exact weak_l rfl rfl ⟨lE, lE, lE, lR, lE, trivial⟩ ⟨lB ⟨LV_sl, LV_sl, LV_sl, LV_sl, LV_sl, LV_sl, LV_sl, LV_sl, LV_sl, rfl⟩, trivial⟩ trivial) (by intro q; rcases q with ⟨v_317, v_318⟩ <;> (intro e; exact Exit.noConfusion e)) ?_ ?_; all_goals clear h
        · intro q x h R hR hX
          obtain ⟨v_194, v_195, v_196⟩ := q
          rw [m_cloth_Sewn_L2] at h
          (conv => cbv)
          refine L_tst hI h (by subst_vars; rfl) ?_ ?_ <;> clear h <;> intro h
          · refine L_call hI h (fun v hv => w_cloth_truths_firsts N (A3_L_cloth_stretch.mk v_49 v_50 v_51) v_196 v hv) (by subst_vars; exact ⟨⟨⟨.inl rfl, rfl, leDLL_refl _⟩, ⟨.inl rfl, rfl, leDLL_refl _⟩, ⟨.inl rfl, rfl, leDLL_refl _⟩, rfl⟩, (leD_refl _), rfl⟩) ?_; clear h; intro r_319 h; (conv => cbv)
            refine L_call hI h (fun v hv => w_cloth_truths_firsts N (A3_L_cloth_stretch.mk v_52 v_53 v_54) v_196 v hv) (by subst_vars; exact ⟨⟨⟨.inl rfl, rfl, leDLL_refl _⟩, ⟨.inl rfl, rfl, leDLL_refl _⟩, ⟨.inl rfl, rfl, leDLL_refl _⟩, rfl⟩, (leD_refl _), rfl⟩) ?_; clear h; intro r_320 h; (conv => cbv)
            refine L_call hI h (fun v hv => w_cloth_truths_firsts N (A3_L_cloth_stretch.mk v_55 v_56 v_57) v_196 v hv) (by subst_vars; exact ⟨⟨⟨.inl rfl, rfl, leDLL_refl _⟩, ⟨.inl rfl, rfl, leDLL_refl _⟩, ⟨.inl rfl, rfl, leDLL_refl _⟩, rfl⟩, (leD_refl _), rfl⟩) ?_; clear h; intro r_321 h; (conv => cbv)
            refine L_mloop hI seat [1000004, 1000005, 1000024, 1000026, 1000028, 1000029, 2000080, 2000092] (by kernel_rfl) h (fun rem_322 q => match q with | v_362 => ⟨127, [(2, .int .i64 p_3), (6, .bool v_194), (7, .bool v_195), (9, .loc 2 0), (12, .int .i64 v_196), (13, .bool v_362), (14, mp_int_bool r_319), (15, mp_int_bool r_320), (16, mp_int_bool r_321), (44, .int .i64 v_196), (60, .osl 3)], [(2, ⟨138, [sl_cloth_stretch false v_49, sl_cloth_stretch false v_50, sl_cloth_stretch false v_51, sl_cloth_stretch false v_52, sl_cloth_stretch false v_53, sl_cloth_stretch false v_54, sl_cloth_stretch false v_55, sl_cloth_stretch false v_56, sl_cloth_stretch false v_57], true⟩)], [(3, ⟨0, 0, [.rw [[mp_int_bool r_319, .ff]], .mp (Int × Bool) (0, false) rem_322 me_int_bool], false, true⟩)], 0⟩) (.exit 4) (fun q => match q with | v_362 => ⟨127, [(2, .int .i64 p_3), (6, .bool v_194), (7, .bool v_195), (9, .loc 2 0), (13, .bool v_362), (14, mp_int_bool r_319), (15, mp_int_bool r_320), (16, mp_int_bool r_321), (44, .int .i64 v_196)], [(2, ⟨138, [sl_cloth_stretch false v_49, sl_cloth_stretch false v_50, sl_cloth_stretch false v_51, sl_cloth_stretch false v_52, sl_cloth_stretch false v_53, sl_cloth_stretch false v_54, sl_cloth_stretch false v_55, sl_cloth_stretch false v_56, sl_cloth_stretch false v_57], true⟩)], [], 0⟩) (fun q => nomatch q) (fun q => nomatch q) (by subst_vars; exact weak_l rfl rfl ⟨lE, lE, lE, lR, lE, lE, lE, lE, lE, lE, lR, trivial⟩ ⟨lB ⟨LV_sl, LV_sl, LV_sl, LV_sl, LV_sl, LV_sl, LV_sl, LV_sl, LV_sl, rfl⟩, trivial⟩ ⟨lO, trivial⟩) (by intro e; exact Exit.noConfusion e) (by intro q; rcases q with ⟨⟩ <;> (intro e; exact Exit.noConfusion e)) ?_ ?_ ?_; all_goals clear h
            · intro rem_322 v_362 R hE hR
              (conv => cbv)
              refine K_mnext hI (fun hz => ?_) (fun i y_324 rem_323 hrem hy => ?_)
              · (conv => cbv)
                exact hE hz _ (by subst_vars; exact weak_l rfl rfl ⟨lE, lE, lE, lR, lE, lE, lE, lE, lE, trivial⟩ ⟨lB ⟨LV_sl, LV_sl, LV_sl, LV_sl, LV_sl, LV_sl, LV_sl, LV_sl, LV_sl, rfl⟩, trivial⟩ trivial)
              · obtain ⟨xo, h, hR, hX⟩ := hR i y_324 rem_323 hrem hy
                rw [m_cloth_Sewn_L3] at h
                (conv => cbv)
                refine L_mloop hI seat [1000004, 1000005, 1000024, 1000026, 1000028, 1000029, 2000080, 2000092] (by kernel_rfl) h (fun rem_400 q => match q with | v_414 => ⟨127, [(2, .int .i64 p_3), (6, .bool v_194), (7, .bool v_195), (9, .loc 2 0), (12, .int .i64 v_196), (13, .bool v_414), (14, mp_int_bool r_319), (15, mp_int_bool r_320), (16, mp_int_bool r_321), (17, .int .i64 y_324.1), (44, .int .i64 v_196), (60, .osl 3), (66, .osl 4)], [(2, ⟨138, [sl_cloth_stretch false v_49, sl_cloth_stretch false v_50, sl_cloth_stretch false v_51, sl_cloth_stretch false v_52, sl_cloth_stretch false v_53, sl_cloth_stretch false v_54, sl_cloth_stretch false v_55, sl_cloth_stretch false v_56, sl_cloth_stretch false v_57], true⟩)], [(4, ⟨0, 0, [.rw [[mp_int_bool r_320, .ff]], .mp (Int × Bool) (0, false) rem_400 me_int_bool], false, true⟩), (3, ⟨0, 0, [.rw [[mp_int_bool r_319, .ff]], .mp (Int × Bool) (0, false) rem_323 me_int_bool], false, true⟩)], 0⟩) (.exit 6) (fun q => match q with | v_414 => ⟨127, [(2, .int .i64 p_3), (6, .bool v_194), (7, .bool v_195), (9, .loc 2 0), (12, .int .i64 v_196), (13, .bool v_414), (14, mp_int_bool r_319), (15, mp_int_bool r_320), (16, mp_int_bool r_321), (44, .int .i64 v_196), (60, .osl 3)], [(2, ⟨138, [sl_cloth_stretch false v_49, sl_cloth_stretch false v_50, sl_cloth_stretch false v_51, sl_cloth_stretch false v_52, sl_cloth_stretch false v_53, sl_cloth_stretch false v_54, sl_cloth_stretch false v_55, sl_cloth_stretch false v_56, sl_cloth_stretch false v_57], true⟩)], [(3, ⟨0, 0, [.rw [[mp_int_bool r_319, .ff]], .mp (Int × Bool) (0, false) rem_323 me_int_bool], false, true⟩)], 0⟩) (fun q => nomatch q) (fun q => nomatch q) (by subst_vars; exact weak_l rfl rfl ⟨lE, lE, lE, lR, lE, lE, lE, lE, lE, lE, lE, lR, lR, trivial⟩ ⟨lB ⟨LV_sl, LV_sl, LV_sl, LV_sl, LV_sl, LV_sl, LV_sl, LV_sl, LV_sl, rfl⟩, trivial⟩ ⟨lO, lO, trivial⟩) (by intro e; exact Exit.noConfusion e) (by intro q; rcases q with ⟨⟩ <;> (intro e; exact Exit.noConfusion e)) ?_ ?_ ?_; all_goals clear h
                · intro rem_400 v_414 R hE hR
                  (conv => cbv)
                  refine K_mnext hI (fun hz => ?_) (fun i y_402 rem_401 hrem hy => ?_)
                  · (conv => cbv)
                    exact hE hz _ (by subst_vars; exact weak_l rfl rfl ⟨lE, lE, lE, lR, lE, lE, lE, lE, lE, lE, lR, trivial⟩ ⟨lB ⟨LV_sl, LV_sl, LV_sl, LV_sl, LV_sl, LV_sl, LV_sl, LV_sl, LV_sl, rfl⟩, trivial⟩ ⟨lO, trivial⟩)
                  · obtain ⟨xo, h, hR, hX⟩ := hR i y_402 rem_401 hrem hy
                    rw [m_cloth_Sewn_L4] at h
                    (conv => cbv)
                    refine L_cut hI seat [1000004, 1000005, 1000024, 1000026, 1000028, 1000029, 2000092] (by kernel_rfl) h (fun q => match q with | v_426 => .normal) (fun q => match q with | v_426 => ⟨127, [(2, .int .i64 p_3), (6, .bool v_194), (7, .bool v_195), (9, .loc 2 0), (12, .int .i64 v_196), (13, .bool v_426), (14, mp_int_bool r_319), (15, mp_int_bool r_320), (16, mp_int_bool r_321), (17, .int .i64 y_324.1), (44, .int .i64 v_196), (60, .osl 3), (66, .osl 4)], [(2, ⟨138, [sl_cloth_stretch false v_49, sl_cloth_stretch false v_50, sl_cloth_stretch false v_51, sl_cloth_stretch false v_52, sl_cloth_stretch false v_53, sl_cloth_stretch false v_54, sl_cloth_stretch false v_55, sl_cloth_stretch false v_56, sl_cloth_stretch false v_57], true⟩)], [(4, ⟨0, 0, [.rw [[mp_int_bool r_320, .ff]], .mp (Int × Bool) (0, false) rem_401 me_int_bool], false, true⟩), (3, ⟨0, 0, [.rw [[mp_int_bool r_319, .ff]], .mp (Int × Bool) (0, false) rem_323 me_int_bool], false, true⟩)], 0⟩) ?_ ?_; all_goals clear h
                    · intro x h R hR
                      (conv => cbv)
                      refine L_tst hI h (by subst_vars; rfl) ?_ ?_ <;> clear h <;> intro h
                      · refine L_cut hI seat [1000004, 1000005, 1000024, 1000028, 1000029, 2000080, 2000092] (by kernel_rfl) h (fun q => match q with | v_427 => .normal) (fun q => match q with | v_427 => ⟨127, [(2, .int .i64 p_3), (6, .bool v_194), (7, .bool v_195), (9, .loc 2 0), (12, .int .i64 v_196), (13, .bool v_427), (14, mp_int_bool r_319), (15, mp_int_bool r_320), (16, mp_int_bool r_321), (17, .int .i64 y_324.1), (44, .int .i64 v_196), (60, .osl 3), (66, .osl 4)], [(2, ⟨138, [sl_cloth_stretch false v_49, sl_cloth_stretch false v_50, sl_cloth_stretch false v_51, sl_cloth_stretch false v_52, sl_cloth_stretch false v_53, sl_cloth_stretch false v_54, sl_cloth_stretch false v_55, sl_cloth_stretch false v_56, sl_cloth_stretch false v_57], true⟩)], [(4, ⟨0, 0, [.rw [[mp_int_bool r_320, .ff]], .mp (Int × Bool) (0, false) rem_401 me_int_bool], false, true⟩), (3, ⟨0, 0, [.rw [[mp_int_bool r_319, .ff]], .mp (Int × Bool) (0, false) rem_323 me_int_bool], false, true⟩)], 0⟩) ?_ ?_; all_goals clear h
                        · intro x h R hR
                          (conv => cbv)
                          refine L_tst hI h (by subst_vars; rfl) ?_ ?_ <;> clear h <;> intro h
                          · exact hR _ _ (Option.some.inj h).symm (by subst_vars; exact weak_l rfl rfl ⟨lE, lE, lE, lR, lE, lE, lE, lE, lE, lE, lE, lR, lR, trivial⟩ ⟨lB ⟨LV_sl, LV_sl, LV_sl, LV_sl, LV_sl, LV_sl, LV_sl, LV_sl, LV_sl, rfl⟩, trivial⟩ ⟨lO, lO, trivial⟩)
                          · replace h := letO_of h; obtain ⟨x_428, hex_428, h⟩ := h
                            replace h := letO_of h; obtain ⟨has_429, hehas_429, h⟩ := h
                            refine K_mget hI menc_int_bool (d := (0, false)) r_321 (iopR .sub .i64 (iopR .add .i64 y_324.1 y_402.1) p_3) false hex_428 hehas_429 (by subst_vars; first | rfl | (simp only [rowsD, KP.rows, KV.toDLL, List.map_append, List.map_cons, List.map_nil, List.append_nil, List.nil_append, List.append_assoc, List.singleton_append, List.cons_append, List.map_replicate]; rfl) | (simp only [primK, rowsD, KP.rows, KV.toDLL, List.map_append, List.map_cons, List.map_nil, List.append_nil, List.map_replicate]; rfl)) (by subst_vars; rfl) rfl ?_; (conv => cbv)
                            exact hR _ _ (Option.some.inj h).symm (by subst_vars; exact weak_l rfl rfl ⟨lE, lE, lE, lR, lE, lE, lE, lE, lE, lE, lE, lR, lR, trivial⟩ ⟨lB ⟨LV_sl, LV_sl, LV_sl, LV_sl, LV_sl, LV_sl, LV_sl, LV_sl, LV_sl, rfl⟩, trivial⟩ ⟨lO, lO, trivial⟩)
                        · intro v_427 h
                          (conv => cbv)
                          exact hR _ _ (Option.some.inj h).symm (by subst_vars; exact weak_l rfl rfl ⟨lE, lE, lE, lR, lE, lE, lE, lE, lE, lE, lE, lR, lR, trivial⟩ ⟨lB ⟨LV_sl, LV_sl, LV_sl, LV_sl, LV_sl, LV_sl, LV_sl, LV_sl, LV_sl, rfl⟩, trivial⟩ ⟨lO, lO, trivial⟩)
                      · refine L_cut hI seat [1000004, 1000005, 1000024, 1000026, 1000028, 1000029, 2000080] (by kernel_rfl) h (fun q => match q with | v_430 => .normal) (fun q => match q with | v_430 => ⟨127, [(2, .int .i64 p_3), (6, .bool v_194), (7, .bool v_195), (9, .loc 2 0), (12, .int .i64 v_196), (13, .bool v_430), (14, mp_int_bool r_319), (15, mp_int_bool r_320), (16, mp_int_bool r_321), (17, .int .i64 y_324.1), (44, .int .i64 v_196), (60, .osl 3), (66, .osl 4)], [(2, ⟨138, [sl_cloth_stretch false v_49, sl_cloth_stretch false v_50, sl_cloth_stretch false v_51, sl_cloth_stretch false v_52, sl_cloth_stretch false v_53, sl_cloth_stretch false v_54, sl_cloth_stretch false v_55, sl_cloth_stretch false v_56, sl_cloth_stretch false v_57], true⟩)], [(4, ⟨0, 0, [.rw [[mp_int_bool r_320, .ff]], .mp (Int × Bool) (0, false) rem_401 me_int_bool], false, true⟩), (3, ⟨0, 0, [.rw [[mp_int_bool r_319, .ff]], .mp (Int × Bool) (0, false) rem_323 me_int_bool], false, true⟩)], 0⟩) ?_ ?_; all_goals clear h
                        · intro x h R hR
                          (conv => cbv)
                          refine L_tst hI h (by subst_vars; rfl) ?_ ?_ <;> clear h <;> intro h
                          · refine L_cut hI seat [1000004, 1000005, 1000024, 1000026, 1000029, 2000080, 2000092] (by kernel_rfl) h (fun q => match q with | v_431 => .normal) (fun q => match q with | v_431 => ⟨127, [(2, .int .i64 p_3), (6, .bool v_194), (7, .bool v_195), (9, .loc 2 0), (12, .int .i64 v_196), (13, .bool v_431), (14, mp_int_bool r_319), (15, mp_int_bool r_320), (16, mp_int_bool r_321), (17, .int .i64 y_324.1), (44, .int .i64 v_196), (60, .osl 3), (66, .osl 4)], [(2, ⟨138, [sl_cloth_stretch false v_49, sl_cloth_stretch false v_50, sl_cloth_stretch false v_51, sl_cloth_stretch false v_52, sl_cloth_stretch false v_53, sl_cloth_stretch false v_54, sl_cloth_stretch false v_55, sl_cloth_stretch false v_56, sl_cloth_stretch false v_57], true⟩)], [(4, ⟨0, 0, [.rw [[mp_int_bool r_320, .ff]], .mp (Int × Bool) (0, false) rem_401 me_int_bool], false, true⟩), (3, ⟨0, 0, [.rw [[mp_int_bool r_319, .ff]], .mp (Int × Bool) (0, false) rem_323 me_int_bool], false, true⟩)], 0⟩) ?_ ?_; all_goals clear h
                            · intro x h R hR
                              (conv => cbv)
                              refine L_tst hI h (by subst_vars; rfl) ?_ ?_ <;> clear h <;> intro h
                              · exact hR _ _ (Option.some.inj h).symm (by subst_vars; exact weak_l rfl rfl ⟨lE, lE, lE, lR, lE, lE, lE, lE, lE, lE, lE, lR, lR, trivial⟩ ⟨lB ⟨LV_sl, LV_sl, LV_sl, LV_sl, LV_sl, LV_sl, LV_sl, LV_sl, LV_sl, rfl⟩, trivial⟩ ⟨lO, lO, trivial⟩)
                              · refine L_tst hI h (by subst_vars; rfl) ?_ ?_ <;> clear h <;> intro h
                                · replace h := letO_of h; obtain ⟨x_432, hex_432, h⟩ := h
                                  replace h := letO_of h; obtain ⟨has_433, hehas_433, h⟩ := h
                                  refine K_mget hI menc_int_bool (d := (0, false)) r_321 y_324.1 false hex_432 hehas_433 (by subst_vars; first | rfl | (simp only [rowsD, KP.rows, KV.toDLL, List.map_append, List.map_cons, List.map_nil, List.append_nil, List.nil_append, List.append_assoc, List.singleton_append, List.cons_append, List.map_replicate]; rfl) | (simp only [primK, rowsD, KP.rows, KV.toDLL, List.map_append, List.map_cons, List.map_nil, List.append_nil, List.map_replicate]; rfl)) (by subst_vars; rfl) rfl ?_; (conv => cbv)
                                  exact hR _ _ (Option.some.inj h).symm (by subst_vars; exact weak_l rfl rfl ⟨lE, lE, lE, lR, lE, lE, lE, lE, lE, lE, lE, lR, lR, trivial⟩ ⟨lB ⟨LV_sl, LV_sl, LV_sl, LV_sl, LV_sl, LV_sl, LV_sl, LV_sl, LV_sl, rfl⟩, trivial⟩ ⟨lO, lO, trivial⟩)
                                · exact hR _ _ (Option.some.inj h).symm (by subst_vars; exact weak_l rfl rfl ⟨lE, lE, lE, lR, lE, lE, lE, lE, lE, lE, lE, lR, lR, trivial⟩ ⟨lB ⟨LV_sl, LV_sl, LV_sl, LV_sl, LV_sl, LV_sl, LV_sl, LV_sl, LV_sl, rfl⟩, trivial⟩ ⟨lO, lO, trivial⟩)
                            · intro v_431 h
                              (conv => cbv)
                              exact hR _ _ (Option.some.inj h).symm (by subst_vars; exact weak_l rfl rfl ⟨lE, lE, lE, lR, lE, lE, lE, lE, lE, lE, lE, lR, lR, trivial⟩ ⟨lB ⟨LV_sl, LV_sl, LV_sl, LV_sl, LV_sl, LV_sl, LV_sl, LV_sl, LV_sl, rfl⟩, trivial⟩ ⟨lO, lO, trivial⟩)
                          · refine L_cut hI seat [1000004, 1000005, 1000026, 1000028, 1000029, 2000080, 2000092] (by kernel_rfl) h (fun q => match q with | v_434 => .normal) (fun q => match q with | v_434 => ⟨127, [(2, .int .i64 p_3), (6, .bool v_194), (7, .bool v_195), (9, .loc 2 0), (12, .int .i64 v_196), (13, .bool v_434), (14, mp_int_bool r_319), (15, mp_int_bool r_320), (16, mp_int_bool r_321), (17, .int .i64 y_324.1), (44, .int .i64 v_196), (60, .osl 3), (66, .osl 4)], [(2, ⟨138, [sl_cloth_stretch false v_49, sl_cloth_stretch false v_50, sl_cloth_stretch false v_51, sl_cloth_stretch false v_52, sl_cloth_stretch false v_53, sl_cloth_stretch false v_54, sl_cloth_stretch false v_55, sl_cloth_stretch false v_56, sl_cloth_stretch false v_57], true⟩)], [(4, ⟨0, 0, [.rw [[mp_int_bool r_320, .ff]], .mp (Int × Bool) (0, false) rem_401 me_int_bool], false, true⟩), (3, ⟨0, 0, [.rw [[mp_int_bool r_319, .ff]], .mp (Int × Bool) (0, false) rem_323 me_int_bool], false, true⟩)], 0⟩) ?_ ?_; all_goals clear h
                            · intro x h R hR
                              (conv => cbv)
                              refine L_tst hI h (by subst_vars; rfl) ?_ ?_ <;> clear h <;> intro h
                              · exact hR _ _ (Option.some.inj h).symm (by subst_vars; exact weak_l rfl rfl ⟨lE, lE, lE, lR, lE, lE, lE, lE, lE, lE, lE, lR, lR, trivial⟩ ⟨lB ⟨LV_sl, LV_sl, LV_sl, LV_sl, LV_sl, LV_sl, LV_sl, LV_sl, LV_sl, rfl⟩, trivial⟩ ⟨lO, lO, trivial⟩)
                              · replace h := letO_of h; obtain ⟨x_435, hex_435, h⟩ := h
                                replace h := letO_of h; obtain ⟨has_436, hehas_436, h⟩ := h
                                refine K_mget hI menc_int_bool (d := (0, false)) r_321 (iopR .add .i64 y_324.1 y_402.1) false hex_435 hehas_436 (by subst_vars; first | rfl | (simp only [rowsD, KP.rows, KV.toDLL, List.map_append, List.map_cons, List.map_nil, List.append_nil, List.nil_append, List.append_assoc, List.singleton_append, List.cons_append, List.map_replicate]; rfl) | (simp only [primK, rowsD, KP.rows, KV.toDLL, List.map_append, List.map_cons, List.map_nil, List.append_nil, List.map_replicate]; rfl)) (by subst_vars; rfl) rfl ?_; (conv => cbv)
                                exact hR _ _ (Option.some.inj h).symm (by subst_vars; exact weak_l rfl rfl ⟨lE, lE, lE, lR, lE, lE, lE, lE, lE, lE, lE, lR, lR, trivial⟩ ⟨lB ⟨LV_sl, LV_sl, LV_sl, LV_sl, LV_sl, LV_sl, LV_sl, LV_sl, LV_sl, rfl⟩, trivial⟩ ⟨lO, lO, trivial⟩)
                            · intro v_434 h
                              (conv => cbv)
                              exact hR _ _ (Option.some.inj h).symm (by subst_vars; exact weak_l rfl rfl ⟨lE, lE, lE, lR, lE, lE, lE, lE, lE, lE, lE, lR, lR, trivial⟩ ⟨lB ⟨LV_sl, LV_sl, LV_sl, LV_sl, LV_sl, LV_sl, LV_sl, LV_sl, LV_sl, rfl⟩, trivial⟩ ⟨lO, lO, trivial⟩)
                        · intro v_430 h
                          (conv => cbv)
                          exact hR _ _ (Option.some.inj h).symm (by subst_vars; exact weak_l rfl rfl ⟨lE, lE, lE, lR, lE, lE, lE, lE, lE, lE, lE, lR, lR, trivial⟩ ⟨lB ⟨LV_sl, LV_sl, LV_sl, LV_sl, LV_sl, LV_sl, LV_sl, LV_sl, LV_sl, rfl⟩, trivial⟩ ⟨lO, lO, trivial⟩)
                    · intro v_426 h
                      (conv => cbv)
                      exact hR _ _ (Option.some.inj h).symm (by subst_vars; exact weak_l rfl rfl ⟨lE, lE, lE, lR, lE, lE, lE, lE, lE, lE, lE, lR, lR, trivial⟩ ⟨lB ⟨LV_sl, LV_sl, LV_sl, LV_sl, LV_sl, LV_sl, LV_sl, LV_sl, LV_sl, rfl⟩, trivial⟩ ⟨lO, lO, trivial⟩)
                · intro v_414 h
                  (conv => cbv)
                  exact hR _ _ (Option.some.inj h).symm (by subst_vars; exact weak_l rfl rfl ⟨lE, lE, lE, lR, lE, lE, lE, lE, lE, lE, lR, trivial⟩ ⟨lB ⟨LV_sl, LV_sl, LV_sl, LV_sl, LV_sl, LV_sl, LV_sl, LV_sl, LV_sl, rfl⟩, trivial⟩ ⟨lO, trivial⟩)
                · intro q h
                  rcases q with ⟨⟩
            · intro v_362 h
              (conv => cbv)
              refine L_cut hI seat [1000004, 1000005, 1000024, 1000026, 1000028, 2000080, 2000092] (by kernel_rfl) h (fun q => match q with | (v_437, v_438) => .normal) (fun q => match q with | (v_437, v_438) => ⟨127, [(2, .int .i64 p_3), (6, .bool v_438), (7, .bool v_437), (9, .loc 2 0), (44, .int .i64 v_196)], [(2, ⟨138, [sl_cloth_stretch false v_49, sl_cloth_stretch false v_50, sl_cloth_stretch false v_51, sl_cloth_stretch false v_52, sl_cloth_stretch false v_53, sl_cloth_stretch false v_54, sl_cloth_stretch false v_55, sl_cloth_stretch false v_56, sl_cloth_stretch false v_57], true⟩)], [], 0⟩) ?_ ?_; all_goals clear h
              · intro x h R hR
                (conv => cbv)
                refine L_tst hI h (by subst_vars; rfl) ?_ ?_ <;> clear h <;> intro h
                · refine L_tst hI h (by subst_vars; rfl) ?_ ?_ <;> clear h <;> intro h
                  · refine L_tst hI h (by subst_vars; rfl) ?_ ?_ <;> clear h <;> intro h
                    · exact hR _ _ (Option.some.inj h).symm (by subst_vars; exact weak_l rfl rfl ⟨lE, lE, lE, lR, lE, trivial⟩ ⟨lB ⟨LV_sl, LV_sl, LV_sl, LV_sl, LV_sl, LV_sl, LV_sl, LV_sl, LV_sl, rfl⟩, trivial⟩ trivial)
                    · exact hR _ _ (Option.some.inj h).symm (by subst_vars; exact weak_l rfl rfl ⟨lE, lE, lE, lR, lE, trivial⟩ ⟨lB ⟨LV_sl, LV_sl, LV_sl, LV_sl, LV_sl, LV_sl, LV_sl, LV_sl, LV_sl, rfl⟩, trivial⟩ trivial)
                  · refine L_tst hI h (by subst_vars; rfl) ?_ ?_ <;> clear h <;> intro h
                    · exact hR _ _ (Option.some.inj h).symm (by subst_vars; exact weak_l rfl rfl ⟨lE, lE, lE, lR, lE, trivial⟩ ⟨lB ⟨LV_sl, LV_sl, LV_sl, LV_sl, LV_sl, LV_sl, LV_sl, LV_sl, LV_sl, rfl⟩, trivial⟩ trivial)
                    · exact hR _ _ (Option.some.inj h).symm (by subst_vars; exact weak_l rfl rfl ⟨lE, lE, lE, lR, lE, trivial⟩ ⟨lB ⟨LV_sl, LV_sl, LV_sl, LV_sl, LV_sl, LV_sl, LV_sl, LV_sl, LV_sl, rfl⟩, trivial⟩ trivial)
                · refine L_tst hI h (by subst_vars; rfl) ?_ ?_ <;> clear h <;> intro h
                  · exact hR _ _ (Option.some.inj h).symm (by subst_vars; exact weak_l rfl rfl ⟨lE, lE, lE, lR, lE, trivial⟩ ⟨lB ⟨LV_sl, LV_sl, LV_sl, LV_sl, LV_sl, LV_sl, LV_sl, LV_sl, LV_sl, rfl⟩, trivial⟩ trivial)
                  · exact hR _ _ (Option.some.inj h).symm (by subst_vars; exact weak_l rfl rfl ⟨lE, lE, lE, lR, lE, trivial⟩ ⟨lB ⟨LV_sl, LV_sl, LV_sl, LV_sl, LV_sl, LV_sl, LV_sl, LV_sl, LV_sl, rfl⟩, trivial⟩ trivial)
              · intro q h
                rcases q with ⟨v_437, v_438⟩
                (conv => cbv)
                exact hR _ _ (Option.some.inj h).symm (by subst_vars; exact weak_l rfl rfl ⟨lE, lE, lE, lR, lE, trivial⟩ ⟨lB ⟨LV_sl, LV_sl, LV_sl, LV_sl, LV_sl, LV_sl, LV_sl, LV_sl, LV_sl, rfl⟩, trivial⟩ trivial)
            · intro q h
              rcases q with ⟨⟩
          · exact hX _ _ (Option.some.inj h).symm (by subst_vars; exact weak_l rfl rfl ⟨lE, lE, trivial⟩ trivial trivial)
        · intro q h
          rcases q with ⟨v_317, v_318⟩
          (conv => cbv)
          cases h
          subst_vars
          exact ⟨(LV_tup ⟨lE, lE, lE, rfl⟩), rfl⟩
def m_ref01_Has_L1 (N : Nat) (l_1 : (List Int)) (n_2 : Int) : Int → Option ((Int) ⊕ ((Unit) ⊕ (Unit)))
  | i_4 =>
    if icmpR .lss i_4 ((l_1.length : Nat) : Int) then
      (getO 0 l_1 i_4).bind fun x_6 =>
      if icmpR .eql x_6 n_2 then
        some (.inr (.inl ()))
      else
        some (.inl (iopR .add .i64 i_4 1))
    else
      some (.inr (.inr ()))
def m_ref01_Has (N : Nat) (l_1 : (List Int)) (n_2 : Int) : Option (Bool) :=
  (loopO (m_ref01_Has_L1 N l_1 n_2) N 0).bind fun q => match q with
  | (.inl ()) =>
    some true
  | (.inr ()) =>
    some false
def m_ref01_Firsts_L1 (N : Nat) (r_3 : (List Tru)) : (Int × (List Int)) → Option ((Int × (List Int)) ⊕ ((List Int)))
  | (i_8, out_9) =>
    if icmpR .lss i_8 ((r_3.length : Nat) : Int) then
      (getO tru0 r_3 i_8).bind fun x_15 =>
      (m_ref01_Has N out_9 x_15.first).bind fun r_16 =>
      (show Option ((List Int)) from
        if !r_16 then
          (getO tru0 r_3 i_8).bind fun x_18 =>
          if fitsN (out_9.length + 1) 8 then
            some (out_9 ++ [x_18.first])
          else none
        else
          some out_9).bind fun q => match q with
      | out_17 =>
        some (.inl (iopR .add .i64 i_8 1, out_17))
    else
      some (.inr out_9)
def m_ref01_Firsts (N : Nat) (c_1 : api_Cloth) (what_2 : Int) : Option ((List Int)) :=
  (m_ref01_Truths N c_1 what_2 []).bind fun r_3 =>
  (loopO (m_ref01_Firsts_L1 N r_3) N (0, [])).bind fun q => match q with
  | out_14 =>
    some out_14
def m_ref01_Sewn_L4 (N : Nat) (r_1379 : (List Int)) (r_1377 : (List Int)) (v_1535 : Int) (r_1378 : (List Int)) (v_1745 : Int) (v_901 : Int) (p_3 : Int) : (Bool × Bool × Int) → Option ((Bool × Bool × Int) ⊕ (Bool × Bool))
  | (v_1813, v_1814, v_1815) =>
    if icmpR .lss v_1815 ((r_1379.length : Nat) : Int) then
      (getO 0 r_1377 v_1535).bind fun x_1833 =>
      (getO 0 r_1378 v_1745).bind fun x_1834 =>
      (getO 0 r_1379 v_1815).bind fun x_1835 =>
      (show Option (Bool) from
        if icmpR .eql v_901 0 then
          (getO 0 r_1377 v_1535).bind fun x_1837 =>
          (getO 0 r_1378 v_1745).bind fun x_1838 =>
          (getO 0 r_1379 v_1815).bind fun x_1839 =>
          some (icmpR .eql (iopR .sub .i64 (iopR .add .i64 x_1837 x_1838) p_3) x_1839)
        else
          some (icmpR .eql (iopR .add .i64 x_1833 x_1834) x_1835)).bind fun q => match q with
      | v_1836 =>
        (show Option (Bool) from
          if icmpR .eql v_901 1 then
            (show Option (Bool) from
              (getO 0 r_1377 v_1535).bind fun x_1842 =>
              (getO 0 r_1379 v_1815).bind fun x_1843 =>
              if icmpR .eql x_1842 x_1843 then
                (getO 0 r_1378 v_1745).bind fun x_1844 =>
                (getO 0 r_1379 v_1815).bind fun x_1845 =>
                some (icmpR .eql x_1844 x_1845)
              else
                some false).bind fun q => match q with
            | v_1841 =>
              some v_1841
          else
            some v_1836).bind fun q => match q with
        | v_1840 =>
          (show Option (Bool × Bool) from
            if v_1813 then
              if v_1814 then
                some (true, v_1840)
              else
                some (v_1840, v_1840)
            else
              if v_1814 then
                some (true, false)
              else
                some (v_1840, false)).bind fun q => match q with
          | (v_1846, v_1847) =>
            some (.inl (v_1847, v_1846, iopR .add .i64 v_1815 1))
    else
      some (.inr (v_1813, v_1814))
def m_ref01_Sewn_L3 (N : Nat) (r_1378 : (List Int)) (r_1379 : (List Int)) (r_1377 : (List Int)) (v_1535 : Int) (v_901 : Int) (p_3 : Int) : (Bool × Bool × Int) → Option ((Bool × Bool × Int) ⊕ (Bool × Bool))
  | (v_1743, v_1744, v_1745) =>
    if icmpR .lss v_1745 ((r_1378.length : Nat) : Int) then
      (loopO (m_ref01_Sewn_L4 N r_1379 r_1377 v_1535 r_1378 v_1745 v_901 p_3) N (v_1743, v_1744, 0)).bind fun q => match q with
      | (v_1831, v_1832) =>
        some (.inl (v_1831, v_1832, iopR .add .i64 v_1745 1))
    else
      some (.inr (v_1743, v_1744))
def m_ref01_Sewn_L2 (N : Nat) (r_1377 : (List Int)) (r_1378 : (List Int)) (r_1379 : (List Int)) (v_901 : Int) (p_3 : Int) : (Bool × Bool × Int) → Option ((Bool × Bool × Int) ⊕ (Bool × Bool))
  | (v_1533, v_1534, v_1535) =>
    if icmpR .lss v_1535 ((r_1377.length : Nat) : Int) then
      (loopO (m_ref01_Sewn_L3 N r_1378 r_1379 r_1377 v_1535 v_901 p_3) N (v_1533, v_1534, 0)).bind fun q => match q with
      | (v_1796, v_1797) =>
        some (.inl (v_1796, v_1797, iopR .add .i64 v_1535 1))
    else
      some (.inr (v_1533, v_1534))
def m_ref01_Sewn_L1 (N : Nat) (p_1 : A2_api_Cloth) (p_2 : api_Cloth) (p_3 : Int) : (Bool × Bool × Int) → Option ((Bool × Bool × Int) ⊕ (Bool × Bool))
  | (v_899, v_900, v_901) =>
    if icmpR .lss v_901 3 then
      (m_ref01_Firsts N p_1.a0 v_901).bind fun r_1377 =>
      (m_ref01_Firsts N p_1.a1 v_901).bind fun r_1378 =>
      (m_ref01_Firsts N p_2 v_901).bind fun r_1379 =>
      (loopO (m_ref01_Sewn_L2 N r_1377 r_1378 r_1379 v_901 p_3) N (true, false, 0)).bind fun q => match q with
      | (v_1691, v_1692) =>
        (show Option (Bool × Bool) from
          if v_899 then
            if v_900 then
              some (v_1692, v_1691)
            else
              some (false, v_1691)
          else
            if v_900 then
              some (v_1692, false)
            else
              some (false, false)).bind fun q => match q with
        | (v_1848, v_1849) =>
          some (.inl (v_1849, v_1848, iopR .add .i64 v_901 1))
    else
      some (.inr (v_899, v_900))
def m_ref01_Sewn (N : Nat) (p_1 : A2_api_Cloth) (p_2 : api_Cloth) (p_3 : Int) : Option (Bool × Bool) :=
  (loopO (m_ref01_Sewn_L1 N p_1 p_2 p_3) N (true, true, 0)).bind fun q => match q with
  | (v_1375, v_1376) =>
    some (v_1375, v_1376)
end
end Go.Proofs.Ytnekemldcjegaaa.Aw

/- Plain law of Sewn: the code's, and the reference's. -/
namespace Go.Proofs.Ytnekemldcjegaaa.Aw
open Go Go.RowKit Go.Proofs
set_option linter.unusedSimpArgs false
set_option linter.unusedVariables false
/-! Maps as sets. -/
theorem mset_fst {k : Int} : ∀ l : List (Int × Bool), (mset l k true).map Prod.fst = if k ∈ l.map Prod.fst then l.map Prod.fst else l.map Prod.fst ++ [k]
  | [] => by simp [mset]
  | p :: r => by
    have ih := mset_fst (k := k) r
    by_cases h : (k == p.1) = true
    · have h' : k = p.1 := by simpa using h
      simp [mset, h, h']
    · have h' : k ≠ p.1 := by simpa using h
      simp only [mset, h, if_false, Bool.false_eq_true, List.map_cons, ih, List.mem_cons, h', false_or]
      split <;> simp
theorem mset_true {k : Int} : ∀ {l : List (Int × Bool)}, (∀ p ∈ l, p.2 = true) → ∀ p ∈ mset l k true, p.2 = true
  | [], h, p, hp => by simp [mset] at hp; rw [hp]
  | q :: r, h, p, hp => by
    simp only [mset] at hp
    split at hp
    · rcases List.mem_cons.1 hp with rfl | hp
      · rfl
      · exact h p (by simp [hp])
    · rcases List.mem_cons.1 hp with rfl | hp
      · exact h p (by simp)
      · exact mset_true (fun p hp => h p (by simp [hp])) p hp
theorem mget_set {k : Int} : ∀ {l : List (Int × Bool)}, (∀ p ∈ l, p.2 = true) → mget l k false = decide (k ∈ l.map Prod.fst)
  | [], _ => by simp [mget, mfind]
  | p :: r, h => by
    have ih := mget_set (k := k) (l := r) (fun p hp => h p (by simp [hp]))
    unfold mget at ih ⊢
    simp only [mfind, List.map_cons, List.mem_cons]
    by_cases hb : (k == p.1) = true
    · have h' : k = p.1 := by simpa using hb
      simp [hb, h', h p (by simp)]
    · have h' : k ≠ p.1 := by simpa using hb
      simp only [hb, if_false, Bool.false_eq_true, h', false_or]; exact ih
/-- A map that holds just some numbers. -/
structure FmIs (m : List (Int × Bool)) (L : List Int) : Prop where
  nd : (m.map Prod.fst).Nodup
  mem : ∀ n, n ∈ m.map Prod.fst ↔ n ∈ L
  all : ∀ p ∈ m, p.2 = true
theorem FmIs.set {m : List (Int × Bool)} {L : List Int} (h : FmIs m L) (n : Int) : FmIs (mset m n true) (L ++ [n]) := by
  refine ⟨?_, fun k => ?_, mset_true h.all⟩
  · rw [mset_fst]
    split
    · exact h.nd
    · rename_i hn
      rw [List.nodup_append]
      exact ⟨h.nd, by simp, fun a ha b hb => by simp at hb; subst hb; exact fun e => hn (e ▸ ha)⟩
  · rw [mset_fst, List.mem_append, List.mem_singleton, ← h.mem k]
    split
    · rename_i hn
      exact ⟨.inl, fun hk => hk.elim id (fun e => e ▸ hn)⟩
    · simp
theorem firstsL (N : Nat) : ∀ (ys : List Int) (m : List (Int × Bool)) (L : List Int), FmIs m L → ∃ m', rangeO (m_cloth_truths_firsts_L1 N) ys m = some (.inl m') ∧ FmIs m' (L ++ ys)
  | [], m, L, h => ⟨m, rfl, by simpa using h⟩
  | y :: ys, m, L, h => by
    obtain ⟨m', h1, h2⟩ := firstsL N ys _ _ (h.set y)
    refine ⟨m', ?_, by simpa using h2⟩
    rw [rangeO, m_cloth_truths_firsts_L1, letO_eq]
    exact h1
theorem firsts_is (N : Nat) {ts : List Track} {ms : List Meas} {w : Int} (ho : (openR ts ms).1 = 0) (h0 : 0 ≤ w) (h1 : w ≤ 2) :
    ∃ m, m_cloth_truths_firsts N (ofTr (openR ts ms).2) w = some m ∧ FmIs m ((truW ts ms noSkip w).map Tru.first) := by
  obtain ⟨hck, _⟩ := open_zero ho
  obtain ⟨hti, hsel⟩ := trIn_of ho h0 h1 (h := 0) (by omega)
  have hit : m_it_values N (ofTr (openR ts ms).2) w 0 = some (valW ts ms w 0) := by
    unfold m_it_values
    rw [toTr_of, onlyIf_pos hti, hsel]; rfl
  have hva : m_cloth_truths_values N (ofTr (openR ts ms).2) w 0 = some (ofTr (openR ts ms).2, w, 0) := rfl
  obtain ⟨m, e1, e2⟩ := firstsL N (valW ts ms w 0) [] [] ⟨List.nodup_nil, fun n => by simp, fun p hp => by cases hp⟩
  refine ⟨m, ?_, e2.nd, fun n => ?_, e2.all⟩
  · unfold m_cloth_truths_firsts
    rw [hva, bindS]
    simp only
    rw [hit, bindS, e1, bindS]
  · rw [e2.mem n, List.nil_append, (vals_perm hck h0 h1 0).mem_iff]
    rfl
/-! Ranges over maps that ask for some. -/
theorem rangeO_any {υ : Type} {rel : υ → Bool} {step : υ → Bool → Option (Bool ⊕ Empty)} : ∀ (l : List υ), (∀ y ∈ l, ∀ v, step y v = some (.inl (v || rel y))) → ∀ v, rangeO step l v = some (.inl (v || l.any rel))
  | [], _, v => by simp [rangeO]
  | y :: r, h, v => by
    rw [rangeO, h y (by simp) v]
    simp only
    rw [rangeO_any r (fun z hz => h z (by simp [hz])), List.any_cons, Bool.or_assoc]
theorem rangeAll_any {υ : Type} {rel : υ → Bool} {step : υ → Bool → Option (Bool ⊕ Empty)} {l : List υ} (h : ∀ y ∈ l, ∀ v, step y v = some (.inl (v || rel y))) (v : Bool) : rangeAll step l v = some (.inl (v || l.any rel)) :=
  rangeAll_spec.2 fun l' hp => by
    rw [rangeO_any l' (fun y hy => h y (hp.mem_iff.1 hy)), hp.any_eq]
/-- Is it the sum? -/
def isR (w seam x y z : Int) : Bool := if w = 0 then decide (x + y - seam = z) else if w = 1 then decide (x = z) && decide (y = z) else decide (x + y = z)
theorem isR_iff {w seam x y z : Int} : isR w seam x y z = true ↔ (w = 0 ∧ x + y - seam = z) ∨ (w = 1 ∧ x = z ∧ y = z) ∨ (w ≠ 0 ∧ w ≠ 1 ∧ x + y = z) := by
  unfold isR
  split
  · simp only [decide_eq_true_eq]; omega
  · split
    · simp only [Bool.and_eq_true, decide_eq_true_eq]; omega
    · simp only [decide_eq_true_eq]; omega
def relS (w seam : Int) (sum : List (Int × Bool)) (x y : Int) : Bool := if w = 0 then mget sum (x + y - seam) false else if w = 1 then decide (x = y) && mget sum x false else mget sum (x + y) false
theorem relS_is {w seam : Int} {sum : List (Int × Bool)} {L : List Int} (h : FmIs sum L) (x y : Int) : relS w seam sum x y = L.any fun z => isR w seam x y z := by
  have key : ∀ k : Int, mget sum k false = L.any fun z => decide (k = z) := fun k => by
    rw [mget_set h.all]
    apply Bool.eq_iff_iff.2
    simp only [decide_eq_true_eq, List.any_eq_true, h.mem]
    exact ⟨fun hk => ⟨k, hk, rfl⟩, fun ⟨z, hz, e⟩ => e ▸ hz⟩
  unfold relS isR
  split
  · exact key _
  · split
    · rw [key]
      apply Bool.eq_iff_iff.2
      simp only [Bool.and_eq_true, decide_eq_true_eq, List.any_eq_true]
      exact ⟨fun ⟨e, z, hz, hx⟩ => ⟨z, hz, hx, e ▸ hx⟩, fun ⟨z, hz, hx, hy⟩ => ⟨hx.trans hy.symm, z, hz, hx⟩⟩
    · exact key _
theorem sewn_L4 (N : Nat) {w seam : Int} {sum : List (Int × Bool)} {x y : Int × Bool} (hx : 0 ≤ x.1 ∧ x.1 ≤ 2000) (hy : 0 ≤ y.1 ∧ y.1 ≤ 2000) (hs : 0 ≤ seam ∧ seam ≤ 20) (v : Bool) :
    m_cloth_Sewn_L4 N w sum x seam y v = some (.inl (v || relS w seam sum x.1 y.1)) := by
  simp only [m_cloth_Sewn_L4, icmp_eql, letO_eq, decide_eq_true_eq, addW (show -9223372036854775808 ≤ x.1 + y.1 ∧ x.1 + y.1 ≤ 9223372036854775807 by omega), subW (show -9223372036854775808 ≤ x.1 + y.1 - seam ∧ x.1 + y.1 - seam ≤ 9223372036854775807 by omega)]
  unfold relS
  by_cases h0 : w = 0
  · simp only [h0, if_true]
    cases v <;> simp [bindS]
  · by_cases h1 : w = 1
    · simp only [h1, if_true]
      by_cases hxy : x.1 = y.1
      · cases v <;> simp [bindS, hxy]
      · cases v <;> simp [bindS, hxy]
    · simp only [h0, h1, if_false]
      cases v <;> simp [bindS]
def someS (w seam : Int) (a b sum : List (Int × Bool)) : Bool := a.any fun x => b.any fun y => relS w seam sum x.1 y.1
theorem sewn_some (N : Nat) {w seam : Int} {a b sum : List (Int × Bool)} (ha : ∀ p ∈ a, 0 ≤ p.1 ∧ p.1 ≤ 2000) (hb : ∀ p ∈ b, 0 ≤ p.1 ∧ p.1 ≤ 2000) (hs : 0 ≤ seam ∧ seam ≤ 20) :
    rangeAll (m_cloth_Sewn_L3 N w sum seam b) a false = some (.inl (someS w seam a b sum)) := by
  rw [rangeAll_any (rel := fun x => b.any fun y => relS w seam sum x.1 y.1) (fun x hx v => ?_)]
  · simp [someS]
  · rw [m_cloth_Sewn_L3, rangeAll_any (rel := fun y => relS w seam sum x.1 y.1) (fun y hy v => sewn_L4 N (ha x hx) (hb y hy) hs v), bindS]
/-! The reference's loops. -/
theorem loop_all_any {υ : Type} (l : List υ) (d : υ) (p q : υ → Bool) {step : Bool × Bool × Int → Option ((Bool × Bool × Int) ⊕ (Bool × Bool))} (h : ∀ (e s : Bool) (i : Nat), i < l.length → step (e, s, (i : Int)) = some (.inl (e && p (l.getD i d), s || q (l.getD i d), (i : Int) + 1)))
    (hend : ∀ e s, step (e, s, (l.length : Int)) = some (.inr (e, s))) : ∀ (k N i : Nat) (e s : Bool), i + k = l.length → k < N → loopO step N (e, s, (i : Int)) = some (e && (l.drop i).all p, s || (l.drop i).any q)
  | 0, N, i, e, s, hi, hN => by
    obtain ⟨M, rfl⟩ : ∃ M, N = M + 1 := ⟨N - 1, by omega⟩
    have : i = l.length := by omega
    subst this
    rw [loopO_inr (hend e s)]
    simp
  | k + 1, N, i, e, s, hi, hN => by
    obtain ⟨M, rfl⟩ : ∃ M, N = M + 1 := ⟨N - 1, by omega⟩
    have hlt : i < l.length := by omega
    rw [loopO_inl (h e s i hlt), show (i : Int) + 1 = ((i + 1 : Nat) : Int) from by omega, loop_all_any l d p q h hend k M (i + 1) _ _ (by omega) (by omega)]
    have hget : l.getD i d = l[i] := by simp [List.getD_eq_getElem?_getD, hlt]
    rw [List.drop_eq_getElem_cons hlt, List.all_cons, List.any_cons, hget, Bool.and_assoc, Bool.or_assoc]
theorem refHas_is (N : Nat) {l : List Int} {n : Int} (hN : l.length < N) (hl : l.length ≤ 1000000) : m_ref01_Has N l n = some (decide (n ∈ l)) := by
  obtain ⟨q, hq, hp⟩ := loopO_of (step := m_ref01_Has_L1 N l n) (fun i => (0 ≤ i ∧ i ≤ l.length) ∧ n ∉ l.take i.toNat) (fun i => (l.length - i).toNat) (fun q => q = if n ∈ l then .inl () else .inr ()) (fun i hi => by
    obtain ⟨⟨i0, i1⟩, hn⟩ := hi
    simp only [m_ref01_Has_L1, icmp_lss, icmp_eql, decide_eq_true_eq]
    by_cases hc : i < (l.length : Int)
    · rw [if_pos hc, getO_of i0 hc, bindS]
      have hlt : i.toNat < l.length := by omega
      have hget : l.getD i.toNat 0 = l[i.toNat] := by simp [List.getD_eq_getElem?_getD, hlt]
      by_cases he : l.getD i.toNat 0 = n
      · right
        rw [if_pos he]
        refine ⟨_, rfl, ?_⟩
        rw [if_pos (by rw [← he, hget]; exact List.getElem_mem hlt)]
      · left
        rw [if_neg he, addW (by omega)]
        refine ⟨_, rfl, ⟨⟨by omega, by omega⟩, ?_⟩, by omega⟩
        rw [show (i + 1).toNat = i.toNat + 1 from by omega, List.take_add_one, List.getElem?_eq_getElem hlt, List.mem_append, not_or]
        refine ⟨hn, ?_⟩
        simp only [Option.toList_some, List.mem_singleton]
        rw [← hget]; exact fun e => he e.symm
    · right
      rw [if_neg hc]
      refine ⟨_, rfl, ?_⟩
      rw [List.take_of_length_le (by omega)] at hn
      rw [if_neg hn]) N 0 ⟨⟨by omega, by omega⟩, by simp⟩ (by omega)
  unfold m_ref01_Has
  rw [hq, bindS, hp]
  by_cases h : n ∈ l <;> simp [h]
theorem refFirsts_is (N : Nat) (hN : 2000000 ≤ N) {ts : List Track} {ms : List Meas} {w : Int} (hck : check ts ms = 0) (h0 : 0 ≤ w) (h1 : w ≤ 2) :
    ∃ F, m_ref01_Firsts N ⟨ts, ms⟩ w = some F ∧ F.Nodup ∧ (∀ n, n ∈ F ↔ n ∈ (truW ts ms noSkip w).map Tru.first) ∧ F.length ≤ 1000000 := by
  have hlen := truW_len hck h0 h1
  have htr : m_ref01_Truths N ⟨ts, ms⟩ w [] = some (truW ts ms noSkip w) := onlyIf_pos ⟨by simp, hck, h0, h1⟩
  generalize truW ts ms noSkip w = T at *
  obtain ⟨F, hq, hp⟩ := loopO_of (step := m_ref01_Firsts_L1 N T) (fun s => (0 ≤ s.1 ∧ s.1 ≤ T.length) ∧ (s.2.length : Int) ≤ s.1 ∧ s.2.Nodup ∧ ∀ n, n ∈ s.2 ↔ n ∈ (T.take s.1.toNat).map Tru.first) (fun s => (T.length - s.1).toNat)
    (fun F => F.Nodup ∧ (∀ n, n ∈ F ↔ n ∈ T.map Tru.first) ∧ F.length ≤ 1000000) (fun s hs => by
    obtain ⟨i, out⟩ := s
    obtain ⟨⟨i0, i1⟩, hl, hnd, hmem⟩ := hs
    simp only at i0 i1 hl hnd hmem
    simp only [m_ref01_Firsts_L1, icmp_lss, decide_eq_true_eq]
    by_cases hc : i < (T.length : Int)
    · left
      have hlt : i.toNat < T.length := by omega
      have hget : T.getD i.toNat tru0 = T[i.toNat] := by simp [List.getD_eq_getElem?_getD, hlt]
      have htk : (T.take (i + 1).toNat).map Tru.first = (T.take i.toNat).map Tru.first ++ [(T.getD i.toNat tru0).first] := by
        rw [show (i + 1).toNat = i.toNat + 1 from by omega, List.take_add_one, List.getElem?_eq_getElem hlt, hget, List.map_append]; rfl
      rw [if_pos hc, getO_of i0 hc, bindS, refHas_is N (by omega) (by omega), bindS, addW (by omega)]
      by_cases hin : (T.getD i.toNat tru0).first ∈ out
      · simp only [hin, decide_true, Bool.not_true, Bool.false_eq_true, if_false, bindS]
        refine ⟨_, rfl, ⟨⟨by simp only; omega, by simp only; omega⟩, by simp only; omega, hnd, fun n => ?_⟩, by simp only; omega⟩
        simp only
        rw [htk, List.mem_append, ← hmem n, List.mem_singleton]
        exact ⟨.inl, fun h => h.elim id (fun e => e ▸ hin)⟩
      · have hf : fitsN (out.length + 1) 8 := ⟨by omega, by omega⟩
        simp only [hin, decide_false, Bool.not_false, if_true, bindS, if_pos hf]
        refine ⟨_, rfl, ⟨⟨by simp only; omega, by simp only; omega⟩, by simp only [List.length_append, List.length_singleton]; omega, ?_, fun n => ?_⟩, by simp only; omega⟩
        · simp only
          rw [List.nodup_append]
          exact ⟨hnd, by simp, fun a ha b hb => by simp at hb; subst hb; exact fun e => hin (e ▸ ha)⟩
        · simp only
          rw [htk, List.mem_append, List.mem_append, ← hmem n]
    · right
      rw [if_neg hc]
      refine ⟨_, rfl, hnd, fun n => ?_, by omega⟩
      rw [hmem n, List.take_of_length_le (by omega)]) N (0, []) ⟨⟨by simp, by simp⟩, by simp, by simp, fun n => by simp⟩ (by simp only; omega)
  refine ⟨F, ?_, hp⟩
  unfold m_ref01_Firsts
  rw [htr, bindS, hq]; rfl
theorem refSewn_L4 (N : Nat) {A B C : List Int} {w seam : Int} {i j : Nat} (hi : i < A.length) (hj : j < B.length) (hN : C.length < N) (hC : C.length ≤ 1000000) (hAr : ∀ n ∈ A, 0 ≤ n ∧ n ≤ 2000) (hBr : ∀ n ∈ B, 0 ≤ n ∧ n ≤ 2000) (hs : 0 ≤ seam ∧ seam ≤ 20) (e s : Bool) :
    loopO (m_ref01_Sewn_L4 N C A (i : Int) B (j : Int) w seam) N (e, s, 0) = some (e && C.all (fun z => isR w seam (A.getD i 0) (B.getD j 0) z), s || C.any (fun z => isR w seam (A.getD i 0) (B.getD j 0) z)) := by
  have ga : A.getD i 0 ∈ A := by rw [List.getD_eq_getElem?_getD, List.getElem?_eq_getElem hi]; exact List.getElem_mem hi
  have gb : B.getD j 0 ∈ B := by rw [List.getD_eq_getElem?_getD, List.getElem?_eq_getElem hj]; exact List.getElem_mem hj
  have ra := hAr _ ga
  have rb := hBr _ gb
  have := loop_all_any C 0 (fun z => isR w seam (A.getD i 0) (B.getD j 0) z) (fun z => isR w seam (A.getD i 0) (B.getD j 0) z) (step := m_ref01_Sewn_L4 N C A (i : Int) B (j : Int) w seam) (fun e s k hk => ?_) (fun e s => ?_) C.length N 0 e s (by omega) hN
  · simpa using this
  · have oa : getO 0 A (i : Int) = some (A.getD i 0) := by rw [getO_of (by omega) (by omega)]; simp
    have ob : getO 0 B (j : Int) = some (B.getD j 0) := by rw [getO_of (by omega) (by omega)]; simp
    have oc : getO 0 C (k : Int) = some (C.getD k 0) := by rw [getO_of (by omega) (by omega)]; simp
    generalize A.getD i 0 = x at *
    generalize B.getD j 0 = y at *
    generalize C.getD k 0 = z at *
    have hlt : (k : Int) < (C.length : Int) := by omega
    simp only [m_ref01_Sewn_L4, icmp_lss, icmp_eql, decide_eq_true_eq, if_pos hlt, oa, ob, oc, bindS, addW (show -9223372036854775808 ≤ x + y ∧ x + y ≤ 9223372036854775807 by omega), subW (show -9223372036854775808 ≤ x + y - seam ∧ x + y - seam ≤ 9223372036854775807 by omega), addW (show -9223372036854775808 ≤ (k : Int) + 1 ∧ (k : Int) + 1 ≤ 9223372036854775807 by omega)]
    unfold isR
    by_cases h0 : w = 0
    · subst h0
      simp only [if_true, show ¬ ((0 : Int) = 1) from by omega, if_false, bindS]
      cases e <;> cases s <;> simp [bindS]
    · by_cases h1 : w = 1
      · subst h1
        simp only [show ¬ ((1 : Int) = 0) from by omega, if_true, if_false, bindS]
        by_cases hxz : x = z
        · cases e <;> cases s <;> simp [bindS, hxz]
        · cases e <;> cases s <;> simp [bindS, hxz]
      · simp only [h0, h1, if_false, bindS]
        cases e <;> cases s <;> simp [bindS]
  · simp only [m_ref01_Sewn_L4, icmp_lss, decide_eq_true_eq, if_neg (Int.lt_irrefl _)]
def allR3 (w seam : Int) (A B C : List Int) : Bool := A.all fun x => B.all fun y => C.all fun z => isR w seam x y z
def anyR3 (w seam : Int) (A B C : List Int) : Bool := A.any fun x => B.any fun y => C.any fun z => isR w seam x y z
theorem refSewn_L2 (N : Nat) {A B C : List Int} {w seam : Int} (hN : 2000000 ≤ N) (hA : A.length ≤ 1000000) (hB : B.length ≤ 1000000) (hC : C.length ≤ 1000000) (hAr : ∀ n ∈ A, 0 ≤ n ∧ n ≤ 2000) (hBr : ∀ n ∈ B, 0 ≤ n ∧ n ≤ 2000) (hs : 0 ≤ seam ∧ seam ≤ 20) (e s : Bool) :
    loopO (m_ref01_Sewn_L2 N A B C w seam) N (e, s, 0) = some (e && allR3 w seam A B C, s || anyR3 w seam A B C) := by
  have := loop_all_any A 0 (fun x => B.all fun y => C.all fun z => isR w seam x y z) (fun x => B.any fun y => C.any fun z => isR w seam x y z) (step := m_ref01_Sewn_L2 N A B C w seam) (fun e s i hi => ?_) (fun e s => ?_) A.length N 0 e s (by omega) (by omega)
  · simpa [allR3, anyR3] using this
  · have h3 := loop_all_any B 0 (fun y => C.all fun z => isR w seam (A.getD i 0) y z) (fun y => C.any fun z => isR w seam (A.getD i 0) y z) (step := m_ref01_Sewn_L3 N B C A (i : Int) w seam) (fun e s j hj => ?_) (fun e s => ?_) B.length N 0 e s (by omega) (by omega)
    · have hlt : (i : Int) < (A.length : Int) := by omega
      simp only [m_ref01_Sewn_L2, icmp_lss, decide_eq_true_eq, if_pos hlt]
      have h4 : loopO (m_ref01_Sewn_L3 N B C A (i : Int) w seam) N (e, s, 0) = _ := h3
      rw [h4, bindS, addW (by omega)]
      simp
    · have hlt : (j : Int) < (B.length : Int) := by omega
      simp only [m_ref01_Sewn_L3, icmp_lss, decide_eq_true_eq, if_pos hlt]
      rw [refSewn_L4 N hi hj (by omega) hC hAr hBr hs, bindS, addW (by omega)]
    · simp only [m_ref01_Sewn_L3, icmp_lss, decide_eq_true_eq, if_neg (Int.lt_irrefl _)]
  · simp only [m_ref01_Sewn_L2, icmp_lss, decide_eq_true_eq, if_neg (Int.lt_irrefl _)]
theorem one_of {α : Type} {l : List α} (hne : l ≠ []) (hnd : l.Nodup) : (∀ a ∈ l, ∀ b ∈ l, a = b) ↔ l.length = 1 := by
  match l, hne with
  | [x], _ => simp
  | x :: y :: r, _ =>
    constructor
    · intro h
      have := h x (by simp) y (by simp)
      rw [List.nodup_cons] at hnd
      exact absurd (by simp [this]) hnd.1
    · intro h; simp at h
/-- All are, just if some are and there is one of each. -/
theorem all_iff {w seam : Int} {A B C : List Int} (ha : A ≠ []) (hb : B ≠ []) (hc : C ≠ []) (na : A.Nodup) (nb : B.Nodup) (nc : C.Nodup) : allR3 w seam A B C = (anyR3 w seam A B C && decide (A.length = 1 ∧ B.length = 1 ∧ C.length = 1)) := by
  have u1 : ∀ x x' y z, isR w seam x y z = true → isR w seam x' y z = true → x = x' := fun x x' y z h h' => by
    rw [isR_iff] at h h'; omega
  have u2 : ∀ x y y' z, isR w seam x y z = true → isR w seam x y' z = true → y = y' := fun x y y' z h h' => by
    rw [isR_iff] at h h'; omega
  have u3 : ∀ x y z z', isR w seam x y z = true → isR w seam x y z' = true → z = z' := fun x y z z' h h' => by
    rw [isR_iff] at h h'; omega
  obtain ⟨a, ha'⟩ := List.exists_mem_of_ne_nil A ha
  obtain ⟨b, hb'⟩ := List.exists_mem_of_ne_nil B hb
  obtain ⟨c, hc'⟩ := List.exists_mem_of_ne_nil C hc
  apply Bool.eq_iff_iff.2
  simp only [allR3, anyR3, List.all_eq_true, List.any_eq_true, Bool.and_eq_true, decide_eq_true_eq]
  constructor
  · intro h
    refine ⟨⟨a, ha', b, hb', c, hc', h a ha' b hb' c hc'⟩, (one_of ha na).1 fun x hx x' hx' => u1 x x' b c (h x hx b hb' c hc') (h x' hx' b hb' c hc'), (one_of hb nb).1 fun y hy y' hy' => u2 a y y' c (h a ha' y hy c hc') (h a ha' y' hy' c hc'), (one_of hc nc).1 fun z hz z' hz' => u3 a b z z' (h a ha' b hb' z hz) (h a ha' b hb' z' hz')⟩
  · rintro ⟨⟨x, hx, y, hy, z, hz, h⟩, l1, l2, l3⟩ x' hx' y' hy' z' hz'
    rw [(one_of ha na).2 l1 x' hx' x hx, (one_of hb nb).2 l2 y' hy' y hy, (one_of hc nc).2 l3 z' hz' z hz]
    exact h
end Go.Proofs.Ytnekemldcjegaaa.Aw

/- Plain model and walk of a law, printed by wip/gen/ch1b.py. -/
namespace Go.Proofs.Ytnekemldcjegaaa.Aw
open Go Go.RowKit Go.Proofs
set_option maxRecDepth 100000
set_option maxHeartbeats 4000000
set_option linter.unusedSimpArgs false
set_option linter.unusedVariables false
noncomputable section
end
end Go.Proofs.Ytnekemldcjegaaa.Aw

/- Plain law of ClothSewn. -/
namespace Go.Proofs.Ytnekemldcjegaaa.Aw
open Go Go.RowKit Go.Proofs
set_option linter.unusedSimpArgs false
set_option linter.unusedVariables false
/-- What a quantity of a cloth can have been at first. -/
noncomputable def fstL (N : Nat) (c : api_Cloth) (w : Int) : List Int := (m_ref01_Firsts N c w).getD []
structure FstIs (N : Nat) (c : api_Cloth) (w : Int) : Prop where
  ref : m_ref01_Firsts N c w = some (fstL N c w)
  nd : (fstL N c w).Nodup
  mem : ∀ n, n ∈ fstL N c w ↔ n ∈ (truW c.Tracks c.Measures noSkip w).map Tru.first
  len : (fstL N c w).length ≤ 1000000
  rng : ∀ n ∈ fstL N c w, 0 ≤ n ∧ n ≤ 2000
  ne : fstL N c w ≠ []
theorem fst_is (N : Nat) (hN : 2000000 ≤ N) {c : api_Cloth} {w : Int} (ho : (openR c.Tracks c.Measures).1 = 0) (h0 : 0 ≤ w) (h1 : w ≤ 2) : FstIs N c w := by
  obtain ⟨hck, htru⟩ := open_zero ho
  obtain ⟨F, e1, e2, e3, e4⟩ := refFirsts_is N hN hck h0 h1
  have e : fstL N c w = F := by
    show (m_ref01_Firsts N ⟨c.Tracks, c.Measures⟩ w).getD [] = F
    rw [e1]; rfl
  refine ⟨by rw [e]; exact e1, by rw [e]; exact e2, fun n => by rw [e]; exact e3 n, by rw [e]; exact e4, fun n hn => ?_, fun h => ?_⟩
  · rw [e, e3] at hn
    obtain ⟨t, ht, rfl⟩ := List.mem_map.1 hn
    exact (tru_fit hck h0 h1 t ht).1
  · have hne := rTrue_ne htru h0 h1
    obtain ⟨t, ht⟩ := List.exists_mem_of_ne_nil _ hne
    have : t.first ∈ F := (e3 _).2 (List.mem_map_of_mem ht)
    rw [← e, h] at this; cases this
theorem loop3 {step : Bool × Bool × Int → Option ((Bool × Bool × Int) ⊕ (Bool × Bool))} (X Y : Int → Bool) (h : ∀ a b w, 0 ≤ w → w ≤ 2 → step (a, b, w) = some (.inl (a && X w, b && Y w, w + 1))) (hend : ∀ a b, step (a, b, 3) = some (.inr (a, b))) {N : Nat} (hN : 4 ≤ N) :
    loopO step N (true, true, 0) = some (X 0 && X 1 && X 2, Y 0 && Y 1 && Y 2) := by
  obtain ⟨M, rfl⟩ : ∃ M, N = M + 4 := ⟨N - 4, by omega⟩
  rw [loopO_inl (h true true 0 (by omega) (by omega)), show (0 : Int) + 1 = 1 from rfl, loopO_inl (h _ _ 1 (by omega) (by omega)), show (1 : Int) + 1 = 2 from rfl, loopO_inl (h _ _ 2 (by omega) (by omega)), show (2 : Int) + 1 = 3 from rfl, loopO_inr (hend _ _)]
  simp
/-- The reference's answer. -/
theorem refSewn_is (N : Nat) (hN : 2000000 ≤ N) {p : A2_api_Cloth} {c : api_Cloth} {seam : Int} (o0 : (openR p.a0.Tracks p.a0.Measures).1 = 0) (o1 : (openR p.a1.Tracks p.a1.Measures).1 = 0) (o2 : (openR c.Tracks c.Measures).1 = 0) (hs : 0 ≤ seam ∧ seam ≤ 20) :
    m_ref01_Sewn N p c seam = some (allR3 0 seam (fstL N p.a0 0) (fstL N p.a1 0) (fstL N c 0) && allR3 1 seam (fstL N p.a0 1) (fstL N p.a1 1) (fstL N c 1) && allR3 2 seam (fstL N p.a0 2) (fstL N p.a1 2) (fstL N c 2),
      anyR3 0 seam (fstL N p.a0 0) (fstL N p.a1 0) (fstL N c 0) && anyR3 1 seam (fstL N p.a0 1) (fstL N p.a1 1) (fstL N c 1) && anyR3 2 seam (fstL N p.a0 2) (fstL N p.a1 2) (fstL N c 2)) := by
  unfold m_ref01_Sewn
  rw [loop3 (fun w => allR3 w seam (fstL N p.a0 w) (fstL N p.a1 w) (fstL N c w)) (fun w => anyR3 w seam (fstL N p.a0 w) (fstL N p.a1 w) (fstL N c w)) (fun a b w h0 h1 => ?_) (fun a b => ?_) (by omega)]
  · rfl
  · have f0 := fst_is N hN o0 h0 h1
    have f1 := fst_is N hN o1 h0 h1
    have f2 := fst_is N hN o2 h0 h1
    have hlt : w < 3 := by omega
    simp only [m_ref01_Sewn_L1, icmp_lss, decide_eq_true_eq, if_pos hlt, f0.ref, f1.ref, f2.ref, bindS, refSewn_L2 N hN f0.len f1.len f2.len f0.rng f1.rng hs, addW (show -9223372036854775808 ≤ w + 1 ∧ w + 1 ≤ 9223372036854775807 by omega)]
    cases a <;> cases b <;> simp [bindS]
  · simp only [m_ref01_Sewn_L1, icmp_lss, decide_eq_true_eq, if_neg (Int.lt_irrefl 3)]
/-- What a map of firsts says, as the reference's list does. -/
theorem FmIs.fst {N : Nat} {c : api_Cloth} {w : Int} {m : List (Int × Bool)} (h : FmIs m ((truW c.Tracks c.Measures noSkip w).map Tru.first)) (f : FstIs N c w) : FmIs m (fstL N c w) ∧ m.length = (fstL N c w).length ∧ (∀ p ∈ m, 0 ≤ p.1 ∧ p.1 ≤ 2000) := by
  have h1 : FmIs m (fstL N c w) := ⟨h.nd, fun n => (h.mem n).trans (f.mem n).symm, h.all⟩
  refine ⟨h1, ?_, fun p hp => f.rng _ ((h1.mem p.1).1 (List.mem_map_of_mem hp))⟩
  have := ((List.perm_ext_iff_of_nodup h1.nd f.nd).2 h1.mem).length_eq
  rwa [List.length_map] at this
theorem any_fst {m : List (Int × Bool)} {L : List Int} (h : FmIs m L) (f : Int → Bool) : (m.any fun p => f p.1) = L.any f := by
  apply Bool.eq_iff_iff.2
  simp only [List.any_eq_true]
  constructor
  · rintro ⟨p, hp, hf⟩; exact ⟨p.1, (h.mem _).1 (List.mem_map_of_mem hp), hf⟩
  · rintro ⟨n, hn, hf⟩
    obtain ⟨p, hp, rfl⟩ := List.mem_map.1 ((h.mem n).2 hn)
    exact ⟨p, hp, hf⟩
theorem someS_is {w seam : Int} {a b c : List (Int × Bool)} {A B C : List Int} (ha : FmIs a A) (hb : FmIs b B) (hc : FmIs c C) : someS w seam a b c = anyR3 w seam A B C := by
  unfold someS anyR3
  rw [any_fst ha (fun x => b.any fun y => relS w seam c x y.1)]
  congr 1
  funext x
  rw [any_fst hb (fun y => relS w seam c x y)]
  congr 1
  funext y
  exact relS_is hc x y
theorem prod_is {a b c : Nat} (ha : a ≤ 1000000) (hb : b ≤ 1000000) (hc : c ≤ 1000000) : icmpR .eql (iopR .mul .i64 (iopR .mul .i64 (a : Int) (b : Int)) (c : Int)) 1 = decide (a = 1 ∧ b = 1 ∧ c = 1) := by
  have h1 : a * b ≤ 1000000 * 1000000 := Nat.mul_le_mul ha hb
  have h2 : a * b * c ≤ 1000000 * 1000000 * 1000000 := Nat.mul_le_mul h1 hc
  have e1 : ((a * b : Nat) : Int) = (a : Int) * b := by simp
  have e2 : ((a * b * c : Nat) : Int) = (a : Int) * b * c := by simp
  rw [mulW (show -9223372036854775808 ≤ (a : Int) * b ∧ (a : Int) * b ≤ 9223372036854775807 by omega), mulW (show -9223372036854775808 ≤ (a : Int) * b * c ∧ (a : Int) * b * c ≤ 9223372036854775807 by omega), icmp_eql, ← e2]
  apply decide_eq_decide.2
  constructor
  · intro h
    have h : a * b * c = 1 := by omega
    have hc1 := Nat.eq_one_of_mul_eq_one_left h
    have hab := Nat.eq_one_of_mul_eq_one_right h
    exact ⟨Nat.eq_one_of_mul_eq_one_right hab, Nat.eq_one_of_mul_eq_one_left hab, hc1⟩
  · rintro ⟨rfl, rfl, rfl⟩; rfl
theorem csewn_loop (N : Nat) (hN : 2000000 ≤ N) {p : A2_api_Cloth} {c : api_Cloth} {seam : Int} (o0 : (openR p.a0.Tracks p.a0.Measures).1 = 0) (o1 : (openR p.a1.Tracks p.a1.Measures).1 = 0) (o2 : (openR c.Tracks c.Measures).1 = 0) (hs : 0 ≤ seam ∧ seam ≤ 20) :
    loopO (m_cloth_Sewn_L2 N (ofTr (openR p.a0.Tracks p.a0.Measures).2).a0 (ofTr (openR p.a0.Tracks p.a0.Measures).2).a1 (ofTr (openR p.a0.Tracks p.a0.Measures).2).a2 (ofTr (openR p.a1.Tracks p.a1.Measures).2).a0 (ofTr (openR p.a1.Tracks p.a1.Measures).2).a1 (ofTr (openR p.a1.Tracks p.a1.Measures).2).a2
      (ofTr (openR c.Tracks c.Measures).2).a0 (ofTr (openR c.Tracks c.Measures).2).a1 (ofTr (openR c.Tracks c.Measures).2).a2 seam) N (true, true, 0) =
    some (allR3 0 seam (fstL N p.a0 0) (fstL N p.a1 0) (fstL N c 0) && allR3 1 seam (fstL N p.a0 1) (fstL N p.a1 1) (fstL N c 1) && allR3 2 seam (fstL N p.a0 2) (fstL N p.a1 2) (fstL N c 2),
      anyR3 0 seam (fstL N p.a0 0) (fstL N p.a1 0) (fstL N c 0) && anyR3 1 seam (fstL N p.a0 1) (fstL N p.a1 1) (fstL N c 1) && anyR3 2 seam (fstL N p.a0 2) (fstL N p.a1 2) (fstL N c 2)) := by
  rw [loop3 (fun w => allR3 w seam (fstL N p.a0 w) (fstL N p.a1 w) (fstL N c w)) (fun w => anyR3 w seam (fstL N p.a0 w) (fstL N p.a1 w) (fstL N c w)) (fun a b w h0 h1 => ?_) (fun a b => ?_) (by omega)]
  · have f0 := fst_is N hN o0 h0 h1
    have f1 := fst_is N hN o1 h0 h1
    have f2 := fst_is N hN o2 h0 h1
    obtain ⟨ma, e0, g0⟩ := firsts_is N o0 h0 h1
    obtain ⟨mb, e1, g1⟩ := firsts_is N o1 h0 h1
    obtain ⟨mc, e2, g2⟩ := firsts_is N o2 h0 h1
    obtain ⟨k0, l0, r0⟩ := FmIs.fst g0 f0
    obtain ⟨k1, l1, r1⟩ := FmIs.fst g1 f1
    obtain ⟨k2, l2, r2⟩ := FmIs.fst g2 f2
    have hlt : w < 3 := by omega
    have hp := prod_is f0.len f1.len f2.len
    have hall := all_iff (w := w) (seam := seam) f0.ne f1.ne f2.ne f0.nd f1.nd f2.nd
    have hsome := sewn_some N (w := w) (seam := seam) (sum := mc) r0 r1 hs
    rw [someS_is k0 k1 k2] at hsome
    simp only [m_cloth_Sewn_L2, icmp_lss, decide_eq_true_eq, if_pos hlt]
    rw [e0, bindS, e1, bindS, e2, bindS, hsome, bindS, l0, l1, l2, hp, hall, addW (by omega)]
    generalize anyR3 w seam (fstL N p.a0 w) (fstL N p.a1 w) (fstL N c w) = X
    cases a <;> cases b <;> cases X <;> simp [bindS]
  · simp only [m_cloth_Sewn_L2, icmp_lss, decide_eq_true_eq, if_neg (Int.lt_irrefl 3)]
theorem sewn_open (N : Nat) (hN : 4 ≤ N) {p : A2_api_Cloth} {c : api_Cloth} (i0 : ClothIn p.a0.Tracks p.a0.Measures) (i1 : ClothIn p.a1.Tracks p.a1.Measures) (i2 : ClothIn c.Tracks c.Measures) :
    loopO (m_cloth_Sewn_L1 N p c) N (0, [], [], [], [], [], [], [], [], []) = some (if (openR p.a0.Tracks p.a0.Measures).1 ≠ 0 then .inl (openR p.a0.Tracks p.a0.Measures).1 else if (openR p.a1.Tracks p.a1.Measures).1 ≠ 0 then .inl (openR p.a1.Tracks p.a1.Measures).1 else
      if (openR c.Tracks c.Measures).1 ≠ 0 then .inl (openR c.Tracks c.Measures).1 else
      .inr ((ofTr (openR p.a0.Tracks p.a0.Measures).2).a0, (ofTr (openR p.a0.Tracks p.a0.Measures).2).a1, (ofTr (openR p.a0.Tracks p.a0.Measures).2).a2, (ofTr (openR p.a1.Tracks p.a1.Measures).2).a0, (ofTr (openR p.a1.Tracks p.a1.Measures).2).a1, (ofTr (openR p.a1.Tracks p.a1.Measures).2).a2,
        (ofTr (openR c.Tracks c.Measures).2).a0, (ofTr (openR c.Tracks c.Measures).2).a1, (ofTr (openR c.Tracks c.Measures).2).a2)) := by
  obtain ⟨M, rfl⟩ : ∃ M, N = M + 4 := ⟨N - 4, by omega⟩
  have c0 : ∀ N, m_cloth_open N ⟨p.a0.Tracks, p.a0.Measures⟩ = some (ofTr (openR p.a0.Tracks p.a0.Measures).2, (openR p.a0.Tracks p.a0.Measures).1) := fun N => onlyIf_pos i0
  have c1 : ∀ N, m_cloth_open N ⟨p.a1.Tracks, p.a1.Measures⟩ = some (ofTr (openR p.a1.Tracks p.a1.Measures).2, (openR p.a1.Tracks p.a1.Measures).1) := fun N => onlyIf_pos i1
  have c2 : ∀ N, m_cloth_open N ⟨c.Tracks, c.Measures⟩ = some (ofTr (openR c.Tracks c.Measures).2, (openR c.Tracks c.Measures).1) := fun N => onlyIf_pos i2
  generalize (openR p.a0.Tracks p.a0.Measures).1 = x0 at *
  generalize (openR p.a1.Tracks p.a1.Measures).1 = x1 at *
  generalize (openR c.Tracks c.Measures).1 = x2 at *
  generalize ofTr (openR p.a0.Tracks p.a0.Measures).2 = t0 at *
  generalize ofTr (openR p.a1.Tracks p.a1.Measures).2 = t1 at *
  generalize ofTr (openR c.Tracks c.Measures).2 = t2 at *
  have a01 : iopR .add .i64 0 1 = 1 := addW (by omega)
  have a12 : iopR .add .i64 1 1 = 2 := addW (by omega)
  have a23 : iopR .add .i64 2 1 = 3 := addW (by omega)
  by_cases h0 : x0 = 0
  · have s0 : m_cloth_Sewn_L1 (M + 4) p c (0, [], [], [], [], [], [], [], [], []) = some (.inl (1, t0.a0, t0.a1, t0.a2, [], [], [], [], [], [])) := by
      simp [m_cloth_Sewn_L1, icmp_lss, icmp_eql, icmp_neq, bindS, c0, h0, a01]
    rw [loopO_inl s0]
    by_cases h1 : x1 = 0
    · have s1 : m_cloth_Sewn_L1 (M + 4) p c (1, t0.a0, t0.a1, t0.a2, [], [], [], [], [], []) = some (.inl (2, t0.a0, t0.a1, t0.a2, t1.a0, t1.a1, t1.a2, [], [], [])) := by
        simp [m_cloth_Sewn_L1, icmp_lss, icmp_eql, icmp_neq, bindS, c1, h1, a12]
      rw [loopO_inl s1]
      by_cases h2 : x2 = 0
      · have s2 : m_cloth_Sewn_L1 (M + 4) p c (2, t0.a0, t0.a1, t0.a2, t1.a0, t1.a1, t1.a2, [], [], []) = some (.inl (3, t0.a0, t0.a1, t0.a2, t1.a0, t1.a1, t1.a2, t2.a0, t2.a1, t2.a2)) := by
          simp [m_cloth_Sewn_L1, icmp_lss, icmp_eql, icmp_neq, bindS, c2, h2, a23]
        have s3 : m_cloth_Sewn_L1 (M + 4) p c (3, t0.a0, t0.a1, t0.a2, t1.a0, t1.a1, t1.a2, t2.a0, t2.a1, t2.a2) = some (.inr (.inr (t0.a0, t0.a1, t0.a2, t1.a0, t1.a1, t1.a2, t2.a0, t2.a1, t2.a2))) := by
          simp [m_cloth_Sewn_L1, icmp_lss]
        rw [loopO_inl s2, loopO_inr s3]
        simp [h0, h1, h2]
      · have s2 : m_cloth_Sewn_L1 (M + 4) p c (2, t0.a0, t0.a1, t0.a2, t1.a0, t1.a1, t1.a2, [], [], []) = some (.inr (.inl x2)) := by
          simp [m_cloth_Sewn_L1, icmp_lss, icmp_eql, icmp_neq, bindS, c2, h2]
        rw [loopO_inr s2]
        simp [h0, h1, h2]
    · have s1 : m_cloth_Sewn_L1 (M + 4) p c (1, t0.a0, t0.a1, t0.a2, [], [], [], [], [], []) = some (.inr (.inl x1)) := by
        simp [m_cloth_Sewn_L1, icmp_lss, icmp_eql, icmp_neq, bindS, c1, h1]
      rw [loopO_inr s1]
      simp [h0, h1]
  · have s0 : m_cloth_Sewn_L1 (M + 4) p c (0, [], [], [], [], [], [], [], [], []) = some (.inr (.inl x0)) := by
      simp [m_cloth_Sewn_L1, icmp_lss, icmp_eql, icmp_neq, bindS, c0, h0]
    rw [loopO_inr s0]
    simp [h0]
/-- The code's answer. -/
theorem csewn_is (N : Nat) (hN : 2000000 ≤ N) {p : A2_api_Cloth} {c : api_Cloth} {seam : Int} (i0 : ClothIn p.a0.Tracks p.a0.Measures) (i1 : ClothIn p.a1.Tracks p.a1.Measures) (i2 : ClothIn c.Tracks c.Measures) :
    m_cloth_Sewn N p c seam = if (openR p.a0.Tracks p.a0.Measures).1 ≠ 0 then some (false, false, (openR p.a0.Tracks p.a0.Measures).1) else if (openR p.a1.Tracks p.a1.Measures).1 ≠ 0 then some (false, false, (openR p.a1.Tracks p.a1.Measures).1) else
      if (openR c.Tracks c.Measures).1 ≠ 0 then some (false, false, (openR c.Tracks c.Measures).1) else if 0 ≤ seam ∧ seam ≤ 20 then (m_ref01_Sewn N p c seam).map fun r => (r.1, r.2, 0) else some (false, false, 3) := by
  unfold m_cloth_Sewn
  rw [sewn_open N (by omega) i0 i1 i2, bindS]
  by_cases h0 : (openR p.a0.Tracks p.a0.Measures).1 = 0
  · by_cases h1 : (openR p.a1.Tracks p.a1.Measures).1 = 0
    · by_cases h2 : (openR c.Tracks c.Measures).1 = 0
      · simp only [h0, h1, h2, ne_eq, not_true, if_false, within_eq N (show 2 ≤ N by omega), bindS]
        by_cases hs : 0 ≤ seam ∧ seam ≤ 20
        · simp only [hs, and_self, decide_true, Bool.not_true, Bool.false_eq_true, if_false, if_true]
          rw [csewn_loop N hN h0 h1 h2 hs, refSewn_is N hN h0 h1 h2 hs]
          rfl
        · simp only [hs, decide_false, Bool.not_false, if_true, if_false]
      · simp [h0, h1, h2]
    · simp [h0, h1]
  · simp [h0]
end Go.Proofs.Ytnekemldcjegaaa.Aw

/- Plain model and walk of a law, printed by wip/gen/ch1two.py. -/
namespace Go.Proofs.Ytnekemldcjegaaa.Aw
open Go Go.RowKit Go.Proofs
set_option maxRecDepth 100000
set_option maxHeartbeats 4000000
set_option linter.unusedSimpArgs false
set_option linter.unusedVariables false
noncomputable section
def m_law01_ClothTwo (N : Nat) (p_1 : law01_Bolt) (p_2 : law01_Bolt) (p_3 : B4) : Option (Bool) :=
  letO (iopR .rem .i64 (IntKind.wrap .i64 p_3.a) 21 : Int) fun v_5 =>
  (show Option ((List B4)) from
    if icmpR .gtr ((p_1.Measures.length : Nat) : Int) 4 then
      if (0 : Int) ≤ 0 then
        if (0 : Int) ≤ 4 then
          if 4 ≤ ((p_1.Measures.length : Nat) : Int) then
            some ((p_1.Measures.take 4).drop 0)
          else none
        else none
      else none
    else
      some p_1.Measures).bind fun q => match q with
  | v_4 =>
    (show Option ((List B4)) from
      if icmpR .gtr ((p_2.Measures.length : Nat) : Int) 4 then
        if (0 : Int) ≤ 0 then
          if (0 : Int) ≤ 4 then
            if 4 ≤ ((p_2.Measures.length : Nat) : Int) then
              some ((p_2.Measures.take 4).drop 0)
            else none
          else none
        else none
      else
        some p_2.Measures).bind fun q => match q with
    | v_6 =>
      (m_law01_Bolt_cloth N (law01_Bolt.mk (A3_A4_u8.mk p_1.Tracks.a0 p_2.Tracks.a1 p_1.Tracks.a2) v_4)).bind fun r_7 =>
      (m_law01_Bolt_cloth N (law01_Bolt.mk p_2.Tracks v_6)).bind fun r_8 =>
      (m_law01_Bolt_truth N (law01_Bolt.mk (A3_A4_u8.mk p_1.Tracks.a0 p_2.Tracks.a1 p_1.Tracks.a2) v_4) 0).bind fun r_9 =>
      (m_law01_Bolt_truth N (law01_Bolt.mk p_2.Tracks v_6) 0).bind fun r_10 =>
      (m_law01_span N r_9.1 r_9.1).bind fun r_11 =>
      if fitsN (1) 32 then
        (m_law01_span N r_10.1 r_10.1).bind fun r_12 =>
        if fitsN (1) 32 then
          (m_law01_Bolt_truth N (law01_Bolt.mk (A3_A4_u8.mk p_1.Tracks.a0 p_2.Tracks.a1 p_1.Tracks.a2) v_4) 1).bind fun r_13 =>
          (m_law01_Bolt_truth N (law01_Bolt.mk p_2.Tracks v_6) 1).bind fun r_14 =>
          (m_law01_span N r_13.1 r_13.1).bind fun r_15 =>
          if fitsN (2) 32 then
            (m_law01_span N r_14.1 r_14.1).bind fun r_16 =>
            if fitsN (2) 32 then
              (m_law01_Bolt_truth N (law01_Bolt.mk (A3_A4_u8.mk p_1.Tracks.a0 p_2.Tracks.a1 p_1.Tracks.a2) v_4) 2).bind fun r_17 =>
              (m_law01_Bolt_truth N (law01_Bolt.mk p_2.Tracks v_6) 2).bind fun r_18 =>
              (m_law01_span N r_17.1 r_17.1).bind fun r_19 =>
              if fitsN (3) 32 then
                (m_law01_span N r_18.1 r_18.1).bind fun r_20 =>
                if fitsN (3) 32 then
                  if icmpR .gtr (iopR .sub .i64 (iopR .add .i64 r_9.1 r_10.1) v_5) 1991 then
                    (m_law01_known N).bind fun r_21 =>
                    some r_21
                  else
                    (m_law01_span N (iopR .sub .i64 (iopR .sub .i64 (iopR .add .i64 r_9.1 r_10.1) v_5) (iopR .rem .i64 (IntKind.wrap .i64 p_3.b) 9)) (iopR .add .i64 (iopR .sub .i64 (iopR .add .i64 r_9.1 r_10.1) v_5) (iopR .rem .i64 (IntKind.wrap .i64 p_3.c) 9))).bind fun r_22 =>
                    if fitsN (1) 32 then
                      (m_law01_span N (iopR .sub .i64 (iopR .add .i64 r_9.1 r_10.1) v_5) (iopR .sub .i64 (iopR .add .i64 r_9.1 r_10.1) v_5)).bind fun r_23 =>
                      if fitsN (1) 32 then
                        if icmpR .gtr r_13.1 1991 then
                          (m_law01_known N).bind fun r_24 =>
                          some r_24
                        else
                          (m_law01_span N (iopR .sub .i64 r_13.1 (iopR .rem .i64 (IntKind.wrap .i64 p_3.b) 9)) (iopR .add .i64 r_13.1 (iopR .rem .i64 (IntKind.wrap .i64 p_3.c) 9))).bind fun r_25 =>
                          if fitsN (2) 32 then
                            (m_law01_span N r_13.1 r_13.1).bind fun r_26 =>
                            if fitsN (2) 32 then
                              if icmpR .gtr (iopR .add .i64 r_17.1 r_18.1) 1991 then
                                (m_law01_known N).bind fun r_27 =>
                                some r_27
                              else
                                (m_law01_span N (iopR .sub .i64 (iopR .add .i64 r_17.1 r_18.1) (iopR .rem .i64 (IntKind.wrap .i64 p_3.b) 9)) (iopR .add .i64 (iopR .add .i64 r_17.1 r_18.1) (iopR .rem .i64 (IntKind.wrap .i64 p_3.c) 9))).bind fun r_28 =>
                                if fitsN (3) 32 then
                                  (m_law01_span N (iopR .add .i64 r_17.1 r_18.1) (iopR .add .i64 r_17.1 r_18.1)).bind fun r_29 =>
                                  if fitsN (3) 32 then
                                    (m_law01_own N r_7).bind fun r_30 =>
                                    (m_law01_own N r_8).bind fun r_31 =>
                                    (m_cloth_Sewn N (A2_api_Cloth.mk r_30 r_31) (api_Cloth.mk [(Track.mk r_22 (Span.mk 0 0)), (Track.mk r_25 (Span.mk 0 0)), (Track.mk r_28 (Span.mk 0 0))] []) v_5).bind fun r_32 =>
                                    (show Option (Bool × Bool × Int) from
                                      (m_law01_own N (api_Cloth.mk [(Track.mk r_11 (Span.mk 0 0)), (Track.mk r_15 (Span.mk 0 0)), (Track.mk r_19 (Span.mk 0 0))] [])).bind fun r_39 =>
                                      (m_law01_own N (api_Cloth.mk [(Track.mk r_12 (Span.mk 0 0)), (Track.mk r_16 (Span.mk 0 0)), (Track.mk r_20 (Span.mk 0 0))] [])).bind fun r_40 =>
                                      (m_law01_own N (api_Cloth.mk [(Track.mk r_23 (Span.mk 0 0)), (Track.mk r_26 (Span.mk 0 0)), (Track.mk r_29 (Span.mk 0 0))] [])).bind fun r_41 =>
                                      (m_cloth_Sewn N (A2_api_Cloth.mk r_39 r_40) r_41 v_5).bind fun r_42 =>
                                      some (r_42.1, r_42.2.1, r_42.2.2)).bind fun q => match q with
                                    | (v_36, v_37, v_38) =>
                                      (m_cloth_Sewn N (A2_api_Cloth.mk (api_Cloth.mk [(Track.mk r_11 (Span.mk 0 0)), (Track.mk r_15 (Span.mk 0 0)), (Track.mk r_19 (Span.mk 0 0))] []) (api_Cloth.mk [(Track.mk r_12 (Span.mk 0 0)), (Track.mk r_16 (Span.mk 0 0)), (Track.mk r_20 (Span.mk 0 0))] [])) (api_Cloth.mk [(Track.mk r_23 (Span.mk 0 0)), (Track.mk r_26 (Span.mk 0 0)), (Track.mk r_29 (Span.mk 0 0))] []) (iopR .rem .i64 (iopR .add .i64 (iopR .add .i64 v_5 1) (iopR .rem .i64 (IntKind.wrap .i64 p_3.d) 20)) 21)).bind fun r_43 =>
                                      (show Option (Bool) from
                                        if icmpR .eql r_32.2.2 0 then
                                          if r_32.2.1 then
                                            if icmpR .eql v_38 0 then
                                              if v_36 then
                                                if v_37 then
                                                  if icmpR .eql r_43.2.2 0 then
                                                    if !r_43.2.1 then
                                                      (m_law01_known N).bind fun r_45 =>
                                                      some r_45
                                                    else
                                                      some false
                                                  else
                                                    some false
                                                else
                                                  some false
                                              else
                                                some false
                                            else
                                              some false
                                          else
                                            some false
                                        else
                                          some false).bind fun q => match q with
                                      | v_44 =>
                                        some v_44
                                  else none
                                else none
                            else none
                          else none
                      else none
                    else none
                else none
              else none
            else none
          else none
        else none
      else none
theorem w_law01_ClothTwo (N : Nat) (p_1 : law01_Bolt) (p_2 : law01_Bolt) (p_3 : B4) (o : Bool) (h : m_law01_ClothTwo N p_1 p_2 p_3 = some o) :
    KC Try.prog 14 [.agg [.int .u8 p_1.Tracks.a0.a, .int .u8 p_1.Tracks.a0.b, .int .u8 p_1.Tracks.a0.c, .int .u8 p_1.Tracks.a0.d, .int .u8 p_1.Tracks.a1.a, .int .u8 p_1.Tracks.a1.b, .int .u8 p_1.Tracks.a1.c, .int .u8 p_1.Tracks.a1.d, .int .u8 p_1.Tracks.a2.a, .int .u8 p_1.Tracks.a2.b, .int .u8 p_1.Tracks.a2.c, .int .u8 p_1.Tracks.a2.d, slB4 false p_1.Measures], .agg [.int .u8 p_2.Tracks.a0.a, .int .u8 p_2.Tracks.a0.b, .int .u8 p_2.Tracks.a0.c, .int .u8 p_2.Tracks.a0.d, .int .u8 p_2.Tracks.a1.a, .int .u8 p_2.Tracks.a1.b, .int .u8 p_2.Tracks.a1.c, .int .u8 p_2.Tracks.a1.d, .int .u8 p_2.Tracks.a2.a, .int .u8 p_2.Tracks.a2.b, .int .u8 p_2.Tracks.a2.c, .int .u8 p_2.Tracks.a2.d, slB4 false p_2.Measures], .agg [.int .u8 p_3.a, .int .u8 p_3.b, .int .u8 p_3.c, .int .u8 p_3.d]] (.bool o) [] := by
  unfold m_law01_ClothTwo at h
  refine con_l [] [1000031, 1000034, 2000041, 2000049] seat Try.func14 rfl ent_14 (by kernel_rfl) rfl rfl (by simp) ?_; intro base I hI; (conv => cbv)
  replace h := letO_of h; obtain ⟨v_5, hev_5, h⟩ := h
  refine L_cut hI seat [1000031, 1000034, 2000049] (by kernel_rfl) h (fun q => match q with | v_4 => .normal) (fun q => match q with | v_4 => ⟨236, [(3, .loc 0 0), (4, .loc 1 0), (5, .loc 2 0), (7, .int .i64 v_5)], [(2, ⟨73, [.int .u8 p_3.a, .int .u8 p_3.b, .int .u8 p_3.c, .int .u8 p_3.d], true⟩), (1, ⟨77, [.int .u8 p_2.Tracks.a0.a, .int .u8 p_2.Tracks.a0.b, .int .u8 p_2.Tracks.a0.c, .int .u8 p_2.Tracks.a0.d, .int .u8 p_2.Tracks.a1.a, .int .u8 p_2.Tracks.a1.b, .int .u8 p_2.Tracks.a1.c, .int .u8 p_2.Tracks.a1.d, .int .u8 p_2.Tracks.a2.a, .int .u8 p_2.Tracks.a2.b, .int .u8 p_2.Tracks.a2.c, .int .u8 p_2.Tracks.a2.d, slB4 false p_2.Measures], true⟩), (0, ⟨77, [.int .u8 p_1.Tracks.a0.a, .int .u8 p_1.Tracks.a0.b, .int .u8 p_1.Tracks.a0.c, .int .u8 p_1.Tracks.a0.d, .int .u8 p_2.Tracks.a1.a, .int .u8 p_2.Tracks.a1.b, .int .u8 p_2.Tracks.a1.c, .int .u8 p_2.Tracks.a1.d, .int .u8 p_1.Tracks.a2.a, .int .u8 p_1.Tracks.a2.b, .int .u8 p_1.Tracks.a2.c, .int .u8 p_1.Tracks.a2.d, slB4 false v_4], true⟩)], [], 0⟩) ?_ ?_; all_goals clear h
  · intro x h R hR
    (conv => cbv)
    refine L_tst hI h (by subst_vars; rfl) ?_ ?_ <;> clear h <;> intro h
    · refine L_conj hI h (fun g => by subst_vars; exact g) ?_; clear h; intro hc h
      refine L_conj hI h (fun g => by subst_vars; exact g) ?_; clear h; intro hc h
      refine L_conj hI h (fun g => by subst_vars; exact g) ?_; clear h; intro hc h
      exact hR _ _ (Option.some.inj h).symm (by subst_vars; exact weak_l rfl rfl ⟨lR, lR, lR, lE, trivial⟩ ⟨lB ⟨lE, lE, lE, lE, rfl⟩, lB ⟨lE, lE, lE, lE, lE, lE, lE, lE, lE, lE, lE, lE, LV_sl, rfl⟩, lB ⟨lE, lE, lE, lE, lE, lE, lE, lE, lE, lE, lE, lE, LV_sl, rfl⟩, trivial⟩ trivial)
    · exact hR _ _ (Option.some.inj h).symm (by subst_vars; exact weak_l rfl rfl ⟨lR, lR, lR, lE, trivial⟩ ⟨lB ⟨lE, lE, lE, lE, rfl⟩, lB ⟨lE, lE, lE, lE, lE, lE, lE, lE, lE, lE, lE, lE, LV_sl, rfl⟩, lB ⟨lE, lE, lE, lE, lE, lE, lE, lE, lE, lE, lE, lE, LV_sl, rfl⟩, trivial⟩ trivial)
  · intro v_4 h
    (conv => cbv)
    refine L_cut hI seat [1000031, 1000034, 2000041] (by kernel_rfl) h (fun q => match q with | v_6 => .normal) (fun q => match q with | v_6 => ⟨236, [(3, .loc 0 0), (4, .loc 1 0), (5, .loc 2 0), (7, .int .i64 v_5)], [(2, ⟨73, [.int .u8 p_3.a, .int .u8 p_3.b, .int .u8 p_3.c, .int .u8 p_3.d], true⟩), (1, ⟨77, [.int .u8 p_2.Tracks.a0.a, .int .u8 p_2.Tracks.a0.b, .int .u8 p_2.Tracks.a0.c, .int .u8 p_2.Tracks.a0.d, .int .u8 p_2.Tracks.a1.a, .int .u8 p_2.Tracks.a1.b, .int .u8 p_2.Tracks.a1.c, .int .u8 p_2.Tracks.a1.d, .int .u8 p_2.Tracks.a2.a, .int .u8 p_2.Tracks.a2.b, .int .u8 p_2.Tracks.a2.c, .int .u8 p_2.Tracks.a2.d, slB4 false v_6], true⟩), (0, ⟨77, [.int .u8 p_1.Tracks.a0.a, .int .u8 p_1.Tracks.a0.b, .int .u8 p_1.Tracks.a0.c, .int .u8 p_1.Tracks.a0.d, .int .u8 p_2.Tracks.a1.a, .int .u8 p_2.Tracks.a1.b, .int .u8 p_2.Tracks.a1.c, .int .u8 p_2.Tracks.a1.d, .int .u8 p_1.Tracks.a2.a, .int .u8 p_1.Tracks.a2.b, .int .u8 p_1.Tracks.a2.c, .int .u8 p_1.Tracks.a2.d, slB4 false v_4], true⟩)], [], 0⟩) ?_ ?_; all_goals clear h
    · intro x h R hR
      (conv => cbv)
      refine L_tst hI h (by subst_vars; rfl) ?_ ?_ <;> clear h <;> intro h
      · refine L_conj hI h (fun g => by subst_vars; exact g) ?_; clear h; intro hc h
        refine L_conj hI h (fun g => by subst_vars; exact g) ?_; clear h; intro hc h
        refine L_conj hI h (fun g => by subst_vars; exact g) ?_; clear h; intro hc h
        exact hR _ _ (Option.some.inj h).symm (by subst_vars; exact weak_l rfl rfl ⟨lR, lR, lR, lE, trivial⟩ ⟨lB ⟨lE, lE, lE, lE, rfl⟩, lB ⟨lE, lE, lE, lE, lE, lE, lE, lE, lE, lE, lE, lE, LV_sl, rfl⟩, lB ⟨lE, lE, lE, lE, lE, lE, lE, lE, lE, lE, lE, lE, LV_sl, rfl⟩, trivial⟩ trivial)
      · exact hR _ _ (Option.some.inj h).symm (by subst_vars; exact weak_l rfl rfl ⟨lR, lR, lR, lE, trivial⟩ ⟨lB ⟨lE, lE, lE, lE, rfl⟩, lB ⟨lE, lE, lE, lE, lE, lE, lE, lE, lE, lE, lE, lE, LV_sl, rfl⟩, lB ⟨lE, lE, lE, lE, lE, lE, lE, lE, lE, lE, lE, lE, LV_sl, rfl⟩, trivial⟩ trivial)
    · intro v_6 h
      (conv => cbv)
      refine L_call hI h (fun v hv => w_law01_Bolt_cloth N (law01_Bolt.mk (A3_A4_u8.mk p_1.Tracks.a0 p_2.Tracks.a1 p_1.Tracks.a2) v_4) v hv) (by subst_vars; exact ⟨⟨(leD_refl _), (leD_refl _), (leD_refl _), (leD_refl _), (leD_refl _), (leD_refl _), (leD_refl _), (leD_refl _), (leD_refl _), (leD_refl _), (leD_refl _), (leD_refl _), ⟨.inl rfl, rfl, leDLL_refl _⟩, rfl⟩, rfl⟩) ?_; clear h; intro r_7 h; (conv => cbv)
      refine L_call hI h (fun v hv => w_law01_Bolt_cloth N (law01_Bolt.mk p_2.Tracks v_6) v hv) (by subst_vars; exact ⟨⟨(leD_refl _), (leD_refl _), (leD_refl _), (leD_refl _), (leD_refl _), (leD_refl _), (leD_refl _), (leD_refl _), (leD_refl _), (leD_refl _), (leD_refl _), (leD_refl _), ⟨.inl rfl, rfl, leDLL_refl _⟩, rfl⟩, rfl⟩) ?_; clear h; intro r_8 h; (conv => cbv)
      refine W_unroll hI seat [1000031, 1000034, 2000041, 2000049] (by kernel_rfl) 5 ?_; (conv => cbv)
      refine L_call hI h (fun v hv => w_law01_Bolt_truth N (law01_Bolt.mk (A3_A4_u8.mk p_1.Tracks.a0 p_2.Tracks.a1 p_1.Tracks.a2) v_4) 0 v hv) (by subst_vars; exact ⟨⟨(leD_refl _), (leD_refl _), (leD_refl _), (leD_refl _), (leD_refl _), (leD_refl _), (leD_refl _), (leD_refl _), (leD_refl _), (leD_refl _), (leD_refl _), (leD_refl _), ⟨.inl rfl, rfl, leDLL_refl _⟩, rfl⟩, (leD_refl _), rfl⟩) ?_; clear h; intro r_9 h; (conv => cbv)
      refine L_call hI h (fun v hv => w_law01_Bolt_truth N (law01_Bolt.mk p_2.Tracks v_6) 0 v hv) (by subst_vars; exact ⟨⟨(leD_refl _), (leD_refl _), (leD_refl _), (leD_refl _), (leD_refl _), (leD_refl _), (leD_refl _), (leD_refl _), (leD_refl _), (leD_refl _), (leD_refl _), (leD_refl _), ⟨.inl rfl, rfl, leDLL_refl _⟩, rfl⟩, (leD_refl _), rfl⟩) ?_; clear h; intro r_10 h; (conv => cbv)
      refine L_call hI h (fun v hv => w_law01_span N r_9.1 r_9.1 v hv) (by subst_vars; exact ⟨(leD_refl _), (leD_refl _), rfl⟩) ?_; clear h; intro r_11 h; (conv => cbv)
      refine L_conj hI h (fun g => by subst_vars; exact g) ?_; clear h; intro hc h
      refine L_call hI h (fun v hv => w_law01_span N r_10.1 r_10.1 v hv) (by subst_vars; exact ⟨(leD_refl _), (leD_refl _), rfl⟩) ?_; clear h; intro r_12 h; (conv => cbv)
      refine L_conj hI h (fun g => by subst_vars; exact g) ?_; clear h; intro hc h
      refine L_call hI h (fun v hv => w_law01_Bolt_truth N (law01_Bolt.mk (A3_A4_u8.mk p_1.Tracks.a0 p_2.Tracks.a1 p_1.Tracks.a2) v_4) 1 v hv) (by subst_vars; exact ⟨⟨(leD_refl _), (leD_refl _), (leD_refl _), (leD_refl _), (leD_refl _), (leD_refl _), (leD_refl _), (leD_refl _), (leD_refl _), (leD_refl _), (leD_refl _), (leD_refl _), ⟨.inl rfl, rfl, leDLL_refl _⟩, rfl⟩, (leD_refl _), rfl⟩) ?_; clear h; intro r_13 h; (conv => cbv)
      refine L_call hI h (fun v hv => w_law01_Bolt_truth N (law01_Bolt.mk p_2.Tracks v_6) 1 v hv) (by subst_vars; exact ⟨⟨(leD_refl _), (leD_refl _), (leD_refl _), (leD_refl _), (leD_refl _), (leD_refl _), (leD_refl _), (leD_refl _), (leD_refl _), (leD_refl _), (leD_refl _), (leD_refl _), ⟨.inl rfl, rfl, leDLL_refl _⟩, rfl⟩, (leD_refl _), rfl⟩) ?_; clear h; intro r_14 h; (conv => cbv)
      refine L_call hI h (fun v hv => w_law01_span N r_13.1 r_13.1 v hv) (by subst_vars; exact ⟨(leD_refl _), (leD_refl _), rfl⟩) ?_; clear h; intro r_15 h; (conv => cbv)
      refine L_conj hI h (fun g => by subst_vars; exact g) ?_; clear h; intro hc h
      refine L_call hI h (fun v hv => w_law01_span N r_14.1 r_14.1 v hv) (by subst_vars; exact ⟨(leD_refl _), (leD_refl _), rfl⟩) ?_; clear h; intro r_16 h; (conv => cbv)
      refine L_conj hI h (fun g => by subst_vars; exact g) ?_; clear h; intro hc h
      refine L_call hI h (fun v hv => w_law01_Bolt_truth N (law01_Bolt.mk (A3_A4_u8.mk p_1.Tracks.a0 p_2.Tracks.a1 p_1.Tracks.a2) v_4) 2 v hv) (by subst_vars; exact ⟨⟨(leD_refl _), (leD_refl _), (leD_refl _), (leD_refl _), (leD_refl _), (leD_refl _), (leD_refl _), (leD_refl _), (leD_refl _), (leD_refl _), (leD_refl _), (leD_refl _), ⟨.inl rfl, rfl, leDLL_refl _⟩, rfl⟩, (leD_refl _), rfl⟩) ?_; clear h; intro r_17 h; (conv => cbv)
      refine L_call hI h (fun v hv => w_law01_Bolt_truth N (law01_Bolt.mk p_2.Tracks v_6) 2 v hv) (by subst_vars; exact ⟨⟨(leD_refl _), (leD_refl _), (leD_refl _), (leD_refl _), (leD_refl _), (leD_refl _), (leD_refl _), (leD_refl _), (leD_refl _), (leD_refl _), (leD_refl _), (leD_refl _), ⟨.inl rfl, rfl, leDLL_refl _⟩, rfl⟩, (leD_refl _), rfl⟩) ?_; clear h; intro r_18 h; (conv => cbv)
      refine L_call hI h (fun v hv => w_law01_span N r_17.1 r_17.1 v hv) (by subst_vars; exact ⟨(leD_refl _), (leD_refl _), rfl⟩) ?_; clear h; intro r_19 h; (conv => cbv)
      refine L_conj hI h (fun g => by subst_vars; exact g) ?_; clear h; intro hc h
      refine L_call hI h (fun v hv => w_law01_span N r_18.1 r_18.1 v hv) (by subst_vars; exact ⟨(leD_refl _), (leD_refl _), rfl⟩) ?_; clear h; intro r_20 h; (conv => cbv)
      refine L_conj hI h (fun g => by subst_vars; exact g) ?_; clear h; intro hc h
      refine W_unroll hI seat [1000031, 1000034, 2000041, 2000049] (by kernel_rfl) 5 ?_; (conv => cbv)
      refine L_tst hI h (by subst_vars; rfl) ?_ ?_ <;> clear h <;> intro h
      · refine L_call hI h (fun v hv => w_law01_known N v hv) (by subst_vars; exact rfl) ?_; clear h; intro r_21 h; (conv => cbv)
        cases h
        subst_vars
        exact ⟨lE, rfl⟩
      · refine L_call hI h (fun v hv => w_law01_span N (iopR .sub .i64 (iopR .sub .i64 (iopR .add .i64 r_9.1 r_10.1) v_5) (iopR .rem .i64 (IntKind.wrap .i64 p_3.b) 9)) (iopR .add .i64 (iopR .sub .i64 (iopR .add .i64 r_9.1 r_10.1) v_5) (iopR .rem .i64 (IntKind.wrap .i64 p_3.c) 9)) v hv) (by subst_vars; exact ⟨(leD_refl _), (leD_refl _), rfl⟩) ?_; clear h; intro r_22 h; (conv => cbv)
        refine L_conj hI h (fun g => by subst_vars; exact g) ?_; clear h; intro hc h
        refine L_call hI h (fun v hv => w_law01_span N (iopR .sub .i64 (iopR .add .i64 r_9.1 r_10.1) v_5) (iopR .sub .i64 (iopR .add .i64 r_9.1 r_10.1) v_5) v hv) (by subst_vars; exact ⟨(leD_refl _), (leD_refl _), rfl⟩) ?_; clear h; intro r_23 h; (conv => cbv)
        refine L_conj hI h (fun g => by subst_vars; exact g) ?_; clear h; intro hc h
        refine L_tst hI h (by subst_vars; rfl) ?_ ?_ <;> clear h <;> intro h
        · refine L_call hI h (fun v hv => w_law01_known N v hv) (by subst_vars; exact rfl) ?_; clear h; intro r_24 h; (conv => cbv)
          cases h
          subst_vars
          exact ⟨lE, rfl⟩
        · refine L_call hI h (fun v hv => w_law01_span N (iopR .sub .i64 r_13.1 (iopR .rem .i64 (IntKind.wrap .i64 p_3.b) 9)) (iopR .add .i64 r_13.1 (iopR .rem .i64 (IntKind.wrap .i64 p_3.c) 9)) v hv) (by subst_vars; exact ⟨(leD_refl _), (leD_refl _), rfl⟩) ?_; clear h; intro r_25 h; (conv => cbv)
          refine L_conj hI h (fun g => by subst_vars; exact g) ?_; clear h; intro hc h
          refine L_call hI h (fun v hv => w_law01_span N r_13.1 r_13.1 v hv) (by subst_vars; exact ⟨(leD_refl _), (leD_refl _), rfl⟩) ?_; clear h; intro r_26 h; (conv => cbv)
          refine L_conj hI h (fun g => by subst_vars; exact g) ?_; clear h; intro hc h
          refine L_tst hI h (by subst_vars; rfl) ?_ ?_ <;> clear h <;> intro h
          · refine L_call hI h (fun v hv => w_law01_known N v hv) (by subst_vars; exact rfl) ?_; clear h; intro r_27 h; (conv => cbv)
            cases h
            subst_vars
            exact ⟨lE, rfl⟩
          · refine L_call hI h (fun v hv => w_law01_span N (iopR .sub .i64 (iopR .add .i64 r_17.1 r_18.1) (iopR .rem .i64 (IntKind.wrap .i64 p_3.b) 9)) (iopR .add .i64 (iopR .add .i64 r_17.1 r_18.1) (iopR .rem .i64 (IntKind.wrap .i64 p_3.c) 9)) v hv) (by subst_vars; exact ⟨(leD_refl _), (leD_refl _), rfl⟩) ?_; clear h; intro r_28 h; (conv => cbv)
            refine L_conj hI h (fun g => by subst_vars; exact g) ?_; clear h; intro hc h
            refine L_call hI h (fun v hv => w_law01_span N (iopR .add .i64 r_17.1 r_18.1) (iopR .add .i64 r_17.1 r_18.1) v hv) (by subst_vars; exact ⟨(leD_refl _), (leD_refl _), rfl⟩) ?_; clear h; intro r_29 h; (conv => cbv)
            refine L_conj hI h (fun g => by subst_vars; exact g) ?_; clear h; intro hc h
            refine L_call hI h (fun v hv => w_law01_own N r_7 v hv) (by subst_vars; exact ⟨(leD_refl _), rfl⟩) ?_; clear h; intro r_30 h; (conv => cbv)
            refine L_call hI h (fun v hv => w_law01_own N r_8 v hv) (by subst_vars; exact ⟨(leD_refl _), rfl⟩) ?_; clear h; intro r_31 h; (conv => cbv)
            refine L_call hI h (fun v hv => w_cloth_Sewn N (A2_api_Cloth.mk r_30 r_31) (api_Cloth.mk [(Track.mk r_22 (Span.mk 0 0)), (Track.mk r_25 (Span.mk 0 0)), (Track.mk r_28 (Span.mk 0 0))] []) v_5 v hv) (by subst_vars; exact ⟨⟨⟨.inl rfl, rfl, leDLL_refl _⟩, ⟨.inl rfl, rfl, leDLL_refl _⟩, ⟨.inl rfl, rfl, leDLL_refl _⟩, ⟨.inl rfl, rfl, leDLL_refl _⟩, rfl⟩, ⟨⟨.inl rfl, rfl, leDLL_refl _⟩, (show ([] : List (List D)) = [] from rfl), rfl⟩, (leD_refl _), rfl⟩) ?_; clear h; intro r_32 h; (conv => cbv)
            refine W_weak hI (S' := ⟨236, [(5, .loc 2 0), (7, .int .i64 v_5), (9, .loc 4 0), (17, .loc 9 0), (20, .bool r_32.2.1), (21, .int .i64 r_32.2.2)], [(9, ⟨25, [.osl 11, .nilsl], true⟩), (4, ⟨99, [.osl 6, .nilsl, .osl 7, .nilsl], true⟩), (2, ⟨73, [.int .u8 p_3.a, .int .u8 p_3.b, .int .u8 p_3.c, .int .u8 p_3.d], true⟩)], [(11, ⟨105, 4, [.rw [[.int .i64 r_23.low, .int .i64 r_23.high, .lit .i64 0, .lit .i64 0], [.int .i64 r_26.low, .int .i64 r_26.high, .lit .i64 0, .lit .i64 0], [.int .i64 r_29.low, .int .i64 r_29.high, .lit .i64 0, .lit .i64 0]]], false, false⟩), (7, ⟨105, 4, [.rw [[.int .i64 r_12.low, .int .i64 r_12.high, .lit .i64 0, .lit .i64 0], [.int .i64 r_16.low, .int .i64 r_16.high, .lit .i64 0, .lit .i64 0], [.int .i64 r_20.low, .int .i64 r_20.high, .lit .i64 0, .lit .i64 0]]], false, false⟩), (6, ⟨105, 4, [.rw [[.int .i64 r_11.low, .int .i64 r_11.high, .lit .i64 0, .lit .i64 0], [.int .i64 r_15.low, .int .i64 r_15.high, .lit .i64 0, .lit .i64 0], [.int .i64 r_19.low, .int .i64 r_19.high, .lit .i64 0, .lit .i64 0]]], false, false⟩)], 0⟩) (by subst_vars; exact weak_f [6, 7, 11] (weak_l rfl rfl ⟨lR, lE, lR, lR, lE, lE, trivial⟩ ⟨lB ⟨lR, lR, rfl⟩, lB ⟨lR, lR, lR, lR, rfl⟩, lB ⟨lE, lE, lE, lE, rfl⟩, trivial⟩ ⟨lO, lO, lO, trivial⟩)) ?_
            refine L_cut hI seat [1000034, 2000041, 2000049] (by kernel_rfl) h (fun q => match q with | (v_36, v_37, v_38) => .normal) (fun q => match q with | (v_36, v_37, v_38) => ⟨236, [(5, .loc 2 0), (7, .int .i64 v_5), (9, .loc 4 0), (17, .loc 9 0), (20, .bool r_32.2.1), (21, .int .i64 r_32.2.2), (22, .bool v_36), (23, .bool v_37), (24, .int .i64 v_38)], [(9, ⟨25, [.osl 11, .nilsl], true⟩), (4, ⟨99, [.osl 6, .nilsl, .osl 7, .nilsl], true⟩), (2, ⟨73, [.int .u8 p_3.a, .int .u8 p_3.b, .int .u8 p_3.c, .int .u8 p_3.d], true⟩)], [(11, ⟨105, 4, [.rw [[.int .i64 r_23.low, .int .i64 r_23.high, .lit .i64 0, .lit .i64 0], [.int .i64 r_26.low, .int .i64 r_26.high, .lit .i64 0, .lit .i64 0], [.int .i64 r_29.low, .int .i64 r_29.high, .lit .i64 0, .lit .i64 0]]], false, false⟩), (7, ⟨105, 4, [.rw [[.int .i64 r_12.low, .int .i64 r_12.high, .lit .i64 0, .lit .i64 0], [.int .i64 r_16.low, .int .i64 r_16.high, .lit .i64 0, .lit .i64 0], [.int .i64 r_20.low, .int .i64 r_20.high, .lit .i64 0, .lit .i64 0]]], false, false⟩), (6, ⟨105, 4, [.rw [[.int .i64 r_11.low, .int .i64 r_11.high, .lit .i64 0, .lit .i64 0], [.int .i64 r_15.low, .int .i64 r_15.high, .lit .i64 0, .lit .i64 0], [.int .i64 r_19.low, .int .i64 r_19.high, .lit .i64 0, .lit .i64 0]]], false, false⟩)], 0⟩) ?_ ?_; all_goals clear h
            · intro x h R hR
              (conv => cbv)
              refine L_call hI h (fun v hv => w_law01_own N (api_Cloth.mk [(Track.mk r_11 (Span.mk 0 0)), (Track.mk r_15 (Span.mk 0 0)), (Track.mk r_19 (Span.mk 0 0))] []) v hv) (by subst_vars; exact ⟨⟨⟨.inl rfl, rfl, leDLL_refl _⟩, (show ([] : List (List D)) = [] from rfl), rfl⟩, rfl⟩) ?_; clear h; intro r_39 h; (conv => cbv)
              refine L_call hI h (fun v hv => w_law01_own N (api_Cloth.mk [(Track.mk r_12 (Span.mk 0 0)), (Track.mk r_16 (Span.mk 0 0)), (Track.mk r_20 (Span.mk 0 0))] []) v hv) (by subst_vars; exact ⟨⟨⟨.inl rfl, rfl, leDLL_refl _⟩, (show ([] : List (List D)) = [] from rfl), rfl⟩, rfl⟩) ?_; clear h; intro r_40 h; (conv => cbv)
              refine L_call hI h (fun v hv => w_law01_own N (api_Cloth.mk [(Track.mk r_23 (Span.mk 0 0)), (Track.mk r_26 (Span.mk 0 0)), (Track.mk r_29 (Span.mk 0 0))] []) v hv) (by subst_vars; exact ⟨⟨⟨.inl rfl, rfl, leDLL_refl _⟩, (show ([] : List (List D)) = [] from rfl), rfl⟩, rfl⟩) ?_; clear h; intro r_41 h; (conv => cbv)
              refine L_call hI h (fun v hv => w_cloth_Sewn N (A2_api_Cloth.mk r_39 r_40) r_41 v_5 v hv) (by subst_vars; exact ⟨⟨⟨.inl rfl, rfl, leDLL_refl _⟩, ⟨.inl rfl, rfl, leDLL_refl _⟩, ⟨.inl rfl, rfl, leDLL_refl _⟩, ⟨.inl rfl, rfl, leDLL_refl _⟩, rfl⟩, (leD_refl _), (leD_refl _), rfl⟩) ?_; clear h; intro r_42 h; (conv => cbv)
              exact hR _ _ (Option.some.inj h).symm (by subst_vars; exact weak_l rfl rfl ⟨lR, lE, lR, lR, lE, lE, lE, lE, lE, trivial⟩ ⟨lB ⟨lR, lR, rfl⟩, lB ⟨lR, lR, lR, lR, rfl⟩, lB ⟨lE, lE, lE, lE, rfl⟩, trivial⟩ ⟨lO, lO, lO, trivial⟩)
            · intro q h
              rcases q with ⟨v_36, v_37, v_38⟩
              (conv => cbv)
              refine L_call hI h (fun v hv => w_cloth_Sewn N (A2_api_Cloth.mk (api_Cloth.mk [(Track.mk r_11 (Span.mk 0 0)), (Track.mk r_15 (Span.mk 0 0)), (Track.mk r_19 (Span.mk 0 0))] []) (api_Cloth.mk [(Track.mk r_12 (Span.mk 0 0)), (Track.mk r_16 (Span.mk 0 0)), (Track.mk r_20 (Span.mk 0 0))] [])) (api_Cloth.mk [(Track.mk r_23 (Span.mk 0 0)), (Track.mk r_26 (Span.mk 0 0)), (Track.mk r_29 (Span.mk 0 0))] []) (iopR .rem .i64 (iopR .add .i64 (iopR .add .i64 v_5 1) (iopR .rem .i64 (IntKind.wrap .i64 p_3.d) 20)) 21) v hv) (by subst_vars; exact ⟨⟨⟨.inl rfl, rfl, leDLL_refl _⟩, (show ([] : List (List D)) = [] from rfl), ⟨.inl rfl, rfl, leDLL_refl _⟩, (show ([] : List (List D)) = [] from rfl), rfl⟩, ⟨⟨.inl rfl, rfl, leDLL_refl _⟩, (show ([] : List (List D)) = [] from rfl), rfl⟩, (leD_refl _), rfl⟩) ?_; clear h; intro r_43 h; (conv => cbv)
              refine L_cut hI seat [1000031, 2000041, 2000049] (by kernel_rfl) h (fun q => match q with | v_44 => .normal) (fun q => match q with | v_44 => ⟨236, [(6, .bool v_44)], [], [], 0⟩) ?_ ?_; all_goals clear h
              · intro x h R hR
                (conv => cbv)
                refine L_tst hI h (by subst_vars; rfl) ?_ ?_ <;> clear h <;> intro h
                · refine L_tst hI h (by subst_vars; rfl) ?_ ?_ <;> clear h <;> intro h
                  · refine L_tst hI h (by subst_vars; rfl) ?_ ?_ <;> clear h <;> intro h
                    · refine L_tst hI h (by subst_vars; rfl) ?_ ?_ <;> clear h <;> intro h
                      · refine L_tst hI h (by subst_vars; rfl) ?_ ?_ <;> clear h <;> intro h
                        · refine L_tst hI h (by subst_vars; rfl) ?_ ?_ <;> clear h <;> intro h
                          · refine L_tst hI h (by subst_vars; rfl) ?_ ?_ <;> clear h <;> intro h
                            · refine L_call hI h (fun v hv => w_law01_known N v hv) (by subst_vars; exact rfl) ?_; clear h; intro r_45 h; (conv => cbv)
                              exact hR _ _ (Option.some.inj h).symm (by subst_vars; exact weak_l rfl rfl ⟨lE, trivial⟩ trivial trivial)
                            · exact hR _ _ (Option.some.inj h).symm (by subst_vars; exact weak_l rfl rfl ⟨lE, trivial⟩ trivial trivial)
                          · exact hR _ _ (Option.some.inj h).symm (by subst_vars; exact weak_l rfl rfl ⟨lE, trivial⟩ trivial trivial)
                        · exact hR _ _ (Option.some.inj h).symm (by subst_vars; exact weak_l rfl rfl ⟨lE, trivial⟩ trivial trivial)
                      · exact hR _ _ (Option.some.inj h).symm (by subst_vars; exact weak_l rfl rfl ⟨lE, trivial⟩ trivial trivial)
                    · exact hR _ _ (Option.some.inj h).symm (by subst_vars; exact weak_l rfl rfl ⟨lE, trivial⟩ trivial trivial)
                  · exact hR _ _ (Option.some.inj h).symm (by subst_vars; exact weak_l rfl rfl ⟨lE, trivial⟩ trivial trivial)
                · exact hR _ _ (Option.some.inj h).symm (by subst_vars; exact weak_l rfl rfl ⟨lE, trivial⟩ trivial trivial)
              · intro v_44 h
                (conv => cbv)
                cases h
                subst_vars
                exact ⟨lE, rfl⟩
end
end Go.Proofs.Ytnekemldcjegaaa.Aw

/- Plain law of ClothTwo. -/
namespace Go.Proofs.Ytnekemldcjegaaa.Aw
open Go Go.RowKit Go.Proofs
set_option linter.unusedSimpArgs false
set_option linter.unusedVariables false
/-- A cloth that was not fulled, of which three spans are known. -/
def kT (a b c : Span) : List Track := [⟨a, ⟨0, 0⟩⟩, ⟨b, ⟨0, 0⟩⟩, ⟨c, ⟨0, 0⟩⟩]
def s3 (a b c : Span) (w : Int) : Span := if w = 0 then a else if w = 1 then b else c
def Span.fine (s : Span) : Prop := 1 ≤ s.low ∧ s.low ≤ s.high ∧ s.high ≤ 2000 ∧ s.high - s.low ≤ 60
theorem kT_check {a b c : Span} (ha : a.fine) (hb : b.fine) (hc : c.fine) : check (kT a b c) [] = 0 := by
  refine check_of rfl (fun t ht => ?_) (by simp) (fun m hm => by cases hm)
  have key : ∀ s : Span, s.fine → isTrack ⟨s, ⟨0, 0⟩⟩ = true := fun s hs => by
    obtain ⟨h1, h2, h3, h4⟩ := hs
    simp only [isTrack, isRate, Bool.and_eq_true, isSpan_iff]
    omega
  simp only [kT, List.mem_cons, List.not_mem_nil, or_false] at ht
  rcases ht with rfl | rfl | rfl
  · exact key _ ha
  · exact key _ hb
  · exact key _ hc
theorem kT_mem {a b c : Span} {w : Int} (h0 : 0 ≤ w) (h1 : w ≤ 2) (n : Int) : n ∈ (truW (kT a b c) [] noSkip w).map Tru.first ↔ (s3 a b c w).low ≤ n ∧ n ≤ (s3 a b c w).high := by
  have hs : (kT a b c).getD w.toNat track0 = ⟨s3 a b c w, ⟨0, 0⟩⟩ := by
    have hw : w = 0 ∨ w = 1 ∨ w = 2 := by omega
    rcases hw with rfl | rfl | rfl <;> rfl
  unfold truW truT
  rw [hs]
  simp only [List.mem_map, mem_truX, okL]
  generalize s3 a b c w = s
  constructor
  · rintro ⟨t, ⟨h2, h3⟩, rfl⟩; omega
  · intro h; exact ⟨⟨n, 0⟩, by refine ⟨⟨h.1, ?_⟩, ?_⟩ <;> simp <;> omega, rfl⟩
theorem kT_open {a b c : Span} (ha : a.fine) (hb : b.fine) (hc : c.fine) : (openR (kT a b c) []).1 = 0 := by
  refine open_of (kT_check ha hb hc) (true_of fun w h0 h1 e => ?_)
  have hf : (s3 a b c w).fine := by unfold s3; split; exact ha; split; exact hb; exact hc
  have := (kT_mem (a := a) (b := b) (c := c) h0 h1 (s3 a b c w).low).2 ⟨Int.le_refl _, hf.2.1⟩
  rw [e] at this; cases this
theorem kT_in {a b c : Span} : ClothIn (kT a b c) [] := ⟨by simp [kT], by simp, fun m hm => by cases hm⟩
theorem any3 {w seam x y z : Int} {A B C : List Int} (hx : x ∈ A) (hy : y ∈ B) (hz : z ∈ C) (h : isR w seam x y z = true) : anyR3 w seam A B C = true := by
  simp only [anyR3, List.any_eq_true]
  exact ⟨x, hx, y, hy, z, hz, h⟩
theorem sewn_ok (N : Nat) (hN : 2000000 ≤ N) {p : A2_api_Cloth} {c : api_Cloth} {seam : Int} (i0 : ClothIn p.a0.Tracks p.a0.Measures) (i1 : ClothIn p.a1.Tracks p.a1.Measures) (i2 : ClothIn c.Tracks c.Measures)
    (o0 : (openR p.a0.Tracks p.a0.Measures).1 = 0) (o1 : (openR p.a1.Tracks p.a1.Measures).1 = 0) (o2 : (openR c.Tracks c.Measures).1 = 0) (hs : 0 ≤ seam ∧ seam ≤ 20) :
    m_cloth_Sewn N p c seam = some (allR3 0 seam (fstL N p.a0 0) (fstL N p.a1 0) (fstL N c 0) && allR3 1 seam (fstL N p.a0 1) (fstL N p.a1 1) (fstL N c 1) && allR3 2 seam (fstL N p.a0 2) (fstL N p.a1 2) (fstL N c 2),
      anyR3 0 seam (fstL N p.a0 0) (fstL N p.a1 0) (fstL N c 0) && anyR3 1 seam (fstL N p.a0 1) (fstL N p.a1 1) (fstL N c 1) && anyR3 2 seam (fstL N p.a0 2) (fstL N p.a1 2) (fstL N c 2), 0) := by
  rw [csewn_is N hN i0 i1 i2, if_neg (by simp [o0]), if_neg (by simp [o1]), if_neg (by simp [o2]), if_pos hs, refSewn_is N hN o0 o1 o2 hs]
  rfl
theorem kT_fst (N : Nat) (hN : 2000000 ≤ N) {a b c : Span} (ha : a.fine) (hb : b.fine) (hc : c.fine) {w : Int} (h0 : 0 ≤ w) (h1 : w ≤ 2) (n : Int) : n ∈ fstL N ⟨kT a b c, []⟩ w ↔ (s3 a b c w).low ≤ n ∧ n ≤ (s3 a b c w).high :=
  ((fst_is N hN (c := ⟨kT a b c, []⟩) (kT_open ha hb hc) h0 h1).mem n).trans (kT_mem h0 h1 n)
theorem one_fst (N : Nat) (hN : 2000000 ≤ N) {a b c : Int} (ha : 1 ≤ a ∧ a ≤ 2000) (hb : 1 ≤ b ∧ b ≤ 2000) (hc : 1 ≤ c ∧ c ≤ 2000) {w : Int} (h0 : 0 ≤ w) (h1 : w ≤ 2) (n : Int) : n ∈ fstL N ⟨kT ⟨a, a⟩ ⟨b, b⟩ ⟨c, c⟩, []⟩ w ↔ n = if w = 0 then a else if w = 1 then b else c := by
  rw [kT_fst N hN (by simp only [Span.fine]; omega) (by simp only [Span.fine]; omega) (by simp only [Span.fine]; omega) h0 h1]
  unfold s3
  split
  · simp only; omega
  · split
    · simp only; omega
    · simp only; omega
theorem all3 {w seam x y z : Int} {A B C : List Int} (hx : ∀ n ∈ A, n = x) (hy : ∀ n ∈ B, n = y) (hz : ∀ n ∈ C, n = z) (h : isR w seam x y z = true) : allR3 w seam A B C = true := by
  simp only [allR3, List.all_eq_true]
  intro a ha b hb c hc
  rw [hx a ha, hy b hb, hz c hc]; exact h
theorem none3 {w seam x y z : Int} {A B C : List Int} (hx : ∀ n ∈ A, n = x) (hy : ∀ n ∈ B, n = y) (hz : ∀ n ∈ C, n = z) (h : isR w seam x y z = false) : anyR3 w seam A B C = false := by
  cases hh : anyR3 w seam A B C with
  | false => rfl
  | true =>
    simp only [anyR3, List.any_eq_true] at hh
    obtain ⟨a, ha, b, hb, c, hc, h1⟩ := hh
    rw [hx a ha, hy b hb, hz c hc, h] at h1; cases h1
theorem take4 {l : List B4} : ∃ m : List B4, (∀ v ∈ m, v ∈ l) ∧ (if icmpR .gtr ((l.length : Nat) : Int) 4 then if (0 : Int) ≤ 0 then if (0 : Int) ≤ 4 then if 4 ≤ ((l.length : Nat) : Int) then some ((l.take 4).drop 0) else none else none else none else some l : Option (List B4)) = some m := by
  by_cases h : ((l.length : Nat) : Int) > 4
  · refine ⟨(l.take 4).drop 0, fun v hv => List.mem_of_mem_take (List.mem_of_mem_drop hv), ?_⟩
    simp only [icmp_gtr, decide_eq_true_eq, if_pos h]
    rw [if_pos (by omega), if_pos (by omega), if_pos (by omega)]
  · refine ⟨l, fun v hv => hv, ?_⟩
    simp only [icmp_gtr, decide_eq_true_eq, if_neg h]
theorem law_ClothTwo (N : Nat) (hN : 2000000 ≤ N) (p q : law01_Bolt) (v : B4) (hp : (toBolt p).ok) (hq : (toBolt q).ok) (hv : v.ok) : m_law01_ClothTwo N p q v = some true := by
  have hkn : m_law01_known N = some true := rfl
  obtain ⟨⟨va0, va1⟩, ⟨vb0, vb1⟩, ⟨vc0, vc1⟩, vd0, vd1⟩ := hv
  obtain ⟨m1, e1, t1⟩ := take4 (l := p.Measures)
  obtain ⟨m2, e2, t2⟩ := take4 (l := q.Measures)
  obtain ⟨bx, hbx⟩ : ∃ x, x = law01_Bolt.mk (A3_A4_u8.mk p.Tracks.a0 q.Tracks.a1 p.Tracks.a2) m1 := ⟨_, rfl⟩
  obtain ⟨by', hby⟩ : ∃ x, x = law01_Bolt.mk q.Tracks m2 := ⟨_, rfl⟩
  have okx : (toBolt bx).ok := by rw [hbx]; exact ⟨hp.1, hq.2.1, hp.2.2.1, fun w hw => hp.2.2.2 w (e1 w hw)⟩
  have oky : (toBolt by').ok := by rw [hby]; exact ⟨hq.1, hq.2.1, hq.2.2.1, fun w hw => hq.2.2.2 w (e2 w hw)⟩
  have h1 : (toBolt bx).sel 1 = (toBolt by').sel 1 := by rw [hbx, hby]; rfl
  have cx : m_law01_Bolt_cloth N bx = some ⟨boltT (toBolt bx), boltM (toBolt bx)⟩ := onlyIf_pos okx
  have cy : m_law01_Bolt_cloth N by' = some ⟨boltT (toBolt by'), boltM (toBolt by')⟩ := onlyIf_pos oky
  have tx : ∀ w : Int, 0 ≤ w → w ≤ 2 → m_law01_Bolt_truth N bx w = some (tFirst ((toBolt bx).sel w), tRate ((toBolt bx).sel w)) := fun w h0 h1 => onlyIf_pos ⟨okx, h0, h1⟩
  have ty : ∀ w : Int, 0 ≤ w → w ≤ 2 → m_law01_Bolt_truth N by' w = some (tFirst ((toBolt by').sel w), tRate ((toBolt by').sel w)) := fun w h0 h1 => onlyIf_pos ⟨oky, h0, h1⟩
  have ox := bolt_open okx
  have oy := bolt_open oky
  have ix := bolt_clothIn _ okx
  have iy := bolt_clothIn _ oky
  have fx : ∀ w : Int, 0 ≤ w → w ≤ 2 → tFirst ((toBolt bx).sel w) ∈ fstL N ⟨boltT (toBolt bx), boltM (toBolt bx)⟩ w := fun w h0 h1 => ((fst_is N hN (c := ⟨boltT (toBolt bx), boltM (toBolt bx)⟩) ox h0 h1).mem _).2 (List.mem_map_of_mem (f := Tru.first) (bolt_in okx h0 h1))
  have fy : ∀ w : Int, 0 ≤ w → w ≤ 2 → tFirst ((toBolt by').sel w) ∈ fstL N ⟨boltT (toBolt by'), boltM (toBolt by')⟩ w := fun w h0 h1 => ((fst_is N hN (c := ⟨boltT (toBolt by'), boltM (toBolt by')⟩) oy h0 h1).mem _).2 (List.mem_map_of_mem (f := Tru.first) (bolt_in oky h0 h1))
  have rx : ∀ w, 60 ≤ tFirst ((toBolt bx).sel w) ∧ tFirst ((toBolt bx).sel w) ≤ 1845 := fun w => by
    obtain ⟨⟨a0, a1⟩, _⟩ := sel_ok okx w
    unfold tFirst; omega
  have ry : ∀ w, 60 ≤ tFirst ((toBolt by').sel w) ∧ tFirst ((toBolt by').sel w) ≤ 1845 := fun w => by
    obtain ⟨⟨a0, a1⟩, _⟩ := sel_ok oky w
    unfold tFirst; omega
  have lx : (boltT (toBolt bx)).length ≤ 1000000 ∧ (boltM (toBolt bx)).length ≤ 1000000 := ⟨by simp [boltT], by have := boltM_len (toBolt bx); omega⟩
  have ly : (boltT (toBolt by')).length ≤ 1000000 ∧ (boltM (toBolt by')).length ≤ 1000000 := ⟨by simp [boltT], by have := boltM_len (toBolt by'); omega⟩
  have wa : IntKind.wrap .i64 v.a = v.a := wrap_i64 (by omega)
  have wb : IntKind.wrap .i64 v.b = v.b := wrap_i64 (by omega)
  have wc : IntKind.wrap .i64 v.c = v.c := wrap_i64 (by omega)
  have wd : IntKind.wrap .i64 v.d = v.d := wrap_i64 (by omega)
  have ra : iopR .rem .i64 v.a 21 = v.a % 21 := remW va0
  have rb : iopR .rem .i64 v.b 9 = v.b % 9 := remW vb0
  have rc : iopR .rem .i64 v.c 9 = v.c % 9 := remW vc0
  have rd : iopR .rem .i64 v.d 20 = v.d % 20 := remW vd0
  unfold m_law01_ClothTwo
  dsimp only [m_law01_span]
  rw [wa, wb, wc, wd, ra, rb, rc, rd, letO_eq, t1, bindS, t2, bindS]
  rw [← hbx, ← hby]
  have f32 : ∀ n, n ≤ 3 → fitsN n 32 := fun n hn => ⟨by omega, by omega⟩
  have gtT : ∀ {a b : Int}, a > b → icmpR .gtr a b = true := fun h => by rw [icmp_gtr]; exact decide_eq_true h
  have gtF : ∀ {a b : Int}, ¬ a > b → ¬ icmpR .gtr a b = true := fun h => by rw [icmp_gtr]; simpa using h
  rw [cx, bindS, cy, bindS, tx 0 (by omega) (by omega), bindS, ty 0 (by omega) (by omega), bindS, bindS, if_pos (f32 1 (by omega)), bindS, if_pos (f32 1 (by omega)), tx 1 (by omega) (by omega), bindS, ty 1 (by omega) (by omega), bindS, bindS, if_pos (f32 2 (by omega)), bindS, if_pos (f32 2 (by omega)),
    tx 2 (by omega) (by omega), bindS, ty 2 (by omega) (by omega), bindS, bindS, if_pos (f32 3 (by omega)), bindS, if_pos (f32 3 (by omega))]
  dsimp only
  have fx0 := fx 0 (by omega) (by omega)
  have fx1 := fx 1 (by omega) (by omega)
  have fx2 := fx 2 (by omega) (by omega)
  have fy0 := fy 0 (by omega) (by omega)
  have fy1 := fy 1 (by omega) (by omega)
  have fy2 := fy 2 (by omega) (by omega)
  have rx0 := rx 0
  have rx1 := rx 1
  have rx2 := rx 2
  have ry0 := ry 0
  have ry1 := ry 1
  have ry2 := ry 2
  have e11 : tFirst ((toBolt bx).sel 1) = tFirst ((toBolt by').sel 1) := by rw [h1]
  obtain ⟨X, hX⟩ : ∃ X : api_Cloth, X = ⟨boltT (toBolt bx), boltM (toBolt bx)⟩ := ⟨_, rfl⟩
  obtain ⟨Y, hY⟩ : ∃ Y : api_Cloth, Y = ⟨boltT (toBolt by'), boltM (toBolt by')⟩ := ⟨_, rfl⟩
  have ox' : (openR X.Tracks X.Measures).1 = 0 := by rw [hX]; exact ox
  have oy' : (openR Y.Tracks Y.Measures).1 = 0 := by rw [hY]; exact oy
  have ix' : ClothIn X.Tracks X.Measures := by rw [hX]; exact ix
  have iy' : ClothIn Y.Tracks Y.Measures := by rw [hY]; exact iy
  have lx' : m_law01_own N X = some X := onlyIf_pos (by rw [hX]; exact lx)
  have ly' : m_law01_own N Y = some Y := onlyIf_pos (by rw [hY]; exact ly)
  rw [← hX] at fx0 fx1 fx2 ⊢
  rw [← hY] at fy0 fy1 fy2 ⊢
  clear hX hY cx cy tx ty fx fy rx ry ox oy ix iy lx ly okx oky hbx hby h1 t1 t2 e1 e2 wa wb wc wd ra rb rc rd
  generalize tFirst ((toBolt bx).sel 0) = a0 at *
  generalize tFirst ((toBolt bx).sel 1) = a1 at *
  generalize tFirst ((toBolt bx).sel 2) = a2 at *
  generalize tFirst ((toBolt by').sel 0) = b0 at *
  generalize tFirst ((toBolt by').sel 1) = b1 at *
  generalize tFirst ((toBolt by').sel 2) = b2 at *
  have hsm : 0 ≤ v.a % 21 ∧ v.a % 21 ≤ 20 := by omega
  have hB : 0 ≤ v.b % 9 ∧ v.b % 9 ≤ 8 := by omega
  have hC : 0 ≤ v.c % 9 ∧ v.c % 9 ≤ 8 := by omega
  have hD : 0 ≤ v.d % 20 ∧ v.d % 20 ≤ 19 := by omega
  generalize v.a % 21 = seam at *
  generalize v.b % 9 = B at *
  generalize v.c % 9 = C at *
  generalize v.d % 20 = E at *
  subst e11
  rw [addW (show -9223372036854775808 ≤ a0 + b0 ∧ a0 + b0 ≤ 9223372036854775807 by omega), subW (show -9223372036854775808 ≤ a0 + b0 - seam ∧ a0 + b0 - seam ≤ 9223372036854775807 by omega), addW (show -9223372036854775808 ≤ a2 + b2 ∧ a2 + b2 ≤ 9223372036854775807 by omega)]
  by_cases g0 : a0 + b0 - seam > 1991
  · rw [if_pos (gtT g0), hkn]; rfl
  rw [if_neg (gtF g0), bindS, if_pos (f32 1 (by omega)), bindS, if_pos (f32 1 (by omega))]
  by_cases g1 : a1 > 1991
  · rw [if_pos (gtT g1), hkn]; rfl
  rw [if_neg (gtF g1), bindS, if_pos (f32 2 (by omega)), bindS, if_pos (f32 2 (by omega))]
  by_cases g2 : a2 + b2 > 1991
  · rw [if_pos (gtT g2), hkn]; rfl
  rw [if_neg (gtF g2), bindS, if_pos (f32 3 (by omega)), bindS, if_pos (f32 3 (by omega))]
  rw [subW (show -9223372036854775808 ≤ a0 + b0 - seam - B ∧ a0 + b0 - seam - B ≤ 9223372036854775807 by omega), addW (show -9223372036854775808 ≤ a0 + b0 - seam + C ∧ a0 + b0 - seam + C ≤ 9223372036854775807 by omega), subW (show -9223372036854775808 ≤ a1 - B ∧ a1 - B ≤ 9223372036854775807 by omega), addW (show -9223372036854775808 ≤ a1 + C ∧ a1 + C ≤ 9223372036854775807 by omega),
    subW (show -9223372036854775808 ≤ a2 + b2 - B ∧ a2 + b2 - B ≤ 9223372036854775807 by omega), addW (show -9223372036854775808 ≤ a2 + b2 + C ∧ a2 + b2 + C ≤ 9223372036854775807 by omega), lx', bindS, ly', bindS, addW (show -9223372036854775808 ≤ seam + 1 ∧ seam + 1 ≤ 9223372036854775807 by omega), addW (show -9223372036854775808 ≤ seam + 1 + E ∧ seam + 1 + E ≤ 9223372036854775807 by omega), remW (show 0 ≤ seam + 1 + E by omega)]
  have own3 : ∀ a b c : Span, m_law01_own N ⟨kT a b c, []⟩ = some ⟨kT a b c, []⟩ := fun a b c => onlyIf_pos ⟨by simp [kT], by simp⟩
  have fW0 : Span.fine ⟨a0 + b0 - seam - B, a0 + b0 - seam + C⟩ := by simp only [Span.fine]; omega
  have fW1 : Span.fine ⟨a1 - B, a1 + C⟩ := by simp only [Span.fine]; omega
  have fW2 : Span.fine ⟨a2 + b2 - B, a2 + b2 + C⟩ := by simp only [Span.fine]; omega
  have fone : ∀ n : Int, 1 ≤ n → n ≤ 2000 → Span.fine ⟨n, n⟩ := fun n h0 h1 => by simp only [Span.fine]; omega
  have hother : 0 ≤ (seam + 1 + E) % 21 ∧ (seam + 1 + E) % 21 ≤ 20 ∧ (seam + 1 + E) % 21 ≠ seam := by omega
  generalize (seam + 1 + E) % 21 = other at *
  -- the three calls
  have S1 := sewn_ok N hN (p := ⟨X, Y⟩) (c := ⟨kT ⟨a0 + b0 - seam - B, a0 + b0 - seam + C⟩ ⟨a1 - B, a1 + C⟩ ⟨a2 + b2 - B, a2 + b2 + C⟩, []⟩) ix' iy' kT_in ox' oy' (kT_open fW0 fW1 fW2) hsm
  have A0 := any3 (w := 0) (seam := seam) fx0 fy0 ((kT_fst N hN fW0 fW1 fW2 (w := 0) (by omega) (by omega) (a0 + b0 - seam)).2 (by simp only [s3, if_true]; omega)) (isR_iff.2 (by omega))
  have A1 := any3 (w := 1) (seam := seam) fx1 fy1 ((kT_fst N hN fW0 fW1 fW2 (w := 1) (by omega) (by omega) a1).2 (by simp [s3]; omega)) (isR_iff.2 (by omega))
  have A2 := any3 (w := 2) (seam := seam) fx2 fy2 ((kT_fst N hN fW0 fW1 fW2 (w := 2) (by omega) (by omega) (a2 + b2)).2 (by simp [s3]; omega)) (isR_iff.2 (by omega))
  have ka : ∀ {w : Int}, 0 ≤ w → w ≤ 2 → ∀ n, n ∈ fstL N ⟨kT ⟨a0, a0⟩ ⟨a1, a1⟩ ⟨a2, a2⟩, []⟩ w ↔ n = if w = 0 then a0 else if w = 1 then a1 else a2 := fun h0 h1 => one_fst N hN (by omega) (by omega) (by omega) h0 h1
  have kb : ∀ {w : Int}, 0 ≤ w → w ≤ 2 → ∀ n, n ∈ fstL N ⟨kT ⟨b0, b0⟩ ⟨a1, a1⟩ ⟨b2, b2⟩, []⟩ w ↔ n = if w = 0 then b0 else if w = 1 then a1 else b2 := fun h0 h1 => one_fst N hN (by omega) (by omega) (by omega) h0 h1
  have kc : ∀ {w : Int}, 0 ≤ w → w ≤ 2 → ∀ n, n ∈ fstL N ⟨kT ⟨a0 + b0 - seam, a0 + b0 - seam⟩ ⟨a1, a1⟩ ⟨a2 + b2, a2 + b2⟩, []⟩ w ↔ n = if w = 0 then a0 + b0 - seam else if w = 1 then a1 else a2 + b2 := fun h0 h1 => one_fst N hN (by omega) (by omega) (by omega) h0 h1
  have oa := kT_open (fone a0 (by omega) (by omega)) (fone a1 (by omega) (by omega)) (fone a2 (by omega) (by omega))
  have ob := kT_open (fone b0 (by omega) (by omega)) (fone a1 (by omega) (by omega)) (fone b2 (by omega) (by omega))
  have oc := kT_open (fone (a0 + b0 - seam) (by omega) (by omega)) (fone a1 (by omega) (by omega)) (fone (a2 + b2) (by omega) (by omega))
  have S2 := fun (seam' : Int) (hs : 0 ≤ seam' ∧ seam' ≤ 20) => sewn_ok N hN (p := ⟨⟨kT ⟨a0, a0⟩ ⟨a1, a1⟩ ⟨a2, a2⟩, []⟩, ⟨kT ⟨b0, b0⟩ ⟨a1, a1⟩ ⟨b2, b2⟩, []⟩⟩) (c := ⟨kT ⟨a0 + b0 - seam, a0 + b0 - seam⟩ ⟨a1, a1⟩ ⟨a2 + b2, a2 + b2⟩, []⟩) kT_in kT_in kT_in oa ob oc hs
  have B0 := all3 (w := 0) (seam := seam) (fun n hn => (ka (w := 0) (by omega) (by omega) n).1 hn) (fun n hn => (kb (w := 0) (by omega) (by omega) n).1 hn) (fun n hn => (kc (w := 0) (by omega) (by omega) n).1 hn) (isR_iff.2 (by simp))
  have B1 := all3 (w := 1) (seam := seam) (fun n hn => (ka (w := 1) (by omega) (by omega) n).1 hn) (fun n hn => (kb (w := 1) (by omega) (by omega) n).1 hn) (fun n hn => (kc (w := 1) (by omega) (by omega) n).1 hn) (isR_iff.2 (by simp))
  have B2 := all3 (w := 2) (seam := seam) (fun n hn => (ka (w := 2) (by omega) (by omega) n).1 hn) (fun n hn => (kb (w := 2) (by omega) (by omega) n).1 hn) (fun n hn => (kc (w := 2) (by omega) (by omega) n).1 hn) (isR_iff.2 (by simp))
  have C0 := any3 (w := 0) (seam := seam) ((ka (w := 0) (by omega) (by omega) _).2 rfl) ((kb (w := 0) (by omega) (by omega) _).2 rfl) ((kc (w := 0) (by omega) (by omega) _).2 rfl) (isR_iff.2 (by simp))
  have C1 := any3 (w := 1) (seam := seam) ((ka (w := 1) (by omega) (by omega) _).2 rfl) ((kb (w := 1) (by omega) (by omega) _).2 rfl) ((kc (w := 1) (by omega) (by omega) _).2 rfl) (isR_iff.2 (by simp))
  have C2 := any3 (w := 2) (seam := seam) ((ka (w := 2) (by omega) (by omega) _).2 rfl) ((kb (w := 2) (by omega) (by omega) _).2 rfl) ((kc (w := 2) (by omega) (by omega) _).2 rfl) (isR_iff.2 (by simp))
  have D0 := none3 (w := 0) (seam := other) (fun n hn => (ka (w := 0) (by omega) (by omega) n).1 hn) (fun n hn => (kb (w := 0) (by omega) (by omega) n).1 hn) (fun n hn => (kc (w := 0) (by omega) (by omega) n).1 hn) (by
    cases hh : isR 0 other (if (0 : Int) = 0 then a0 else if (0 : Int) = 1 then a1 else a2) (if (0 : Int) = 0 then b0 else if (0 : Int) = 1 then a1 else b2) (if (0 : Int) = 0 then a0 + b0 - seam else if (0 : Int) = 1 then a1 else a2 + b2) with
    | false => rfl
    | true => rw [isR_iff] at hh; simp at hh; omega)
  have S2' := S2 seam hsm
  have S3 := S2 other ⟨hother.1, hother.2.1⟩
  rw [B0, B1, B2, C0, C1, C2] at S2'
  rw [D0] at S3
  rw [A0, A1, A2] at S1
  simp only [kT] at S1 S2' S3 own3
  rw [S1, bindS, own3, bindS, own3, bindS, own3, bindS, S2', bindS, S3, bindS]
  simp only [icmp_eql, decide_true, if_true, Bool.and_self, Bool.false_and, Bool.not_false, hkn, bindS]
end Go.Proofs.Ytnekemldcjegaaa.Aw

/- What comes in, for chapter 1: cloths, measurings, spans, read as data. -/
namespace Go.Proofs.Ytnekemldcjegaaa.Aw
open Go Go.RowKit Go.Proofs
set_option maxRecDepth 100000
set_option linter.unusedSimpArgs false
set_option linter.unusedVariables false
theorem Try.own : ownKnob Try.prog.godebug = none := by kernel_rfl
theorem Try.laidOut : laidOutB Try.prog = true := by kernel_rfl
theorem rows_of {α : Type} {g : α → List D} {p : α → Prop} : ∀ {rows : List (List D)}, (∀ row ∈ rows, ∃ a, row = g a ∧ p a) → ∃ l : List α, rows = l.map g ∧ ∀ a ∈ l, p a
  | [], _ => ⟨[], rfl, fun a h => by cases h⟩
  | row :: r, h => by
    obtain ⟨a, e, hp⟩ := h row (by simp)
    obtain ⟨l, e2, hl⟩ := rows_of (g := g) (p := p) (rows := r) (fun x hx => h x (List.mem_cons_of_mem _ hx))
    refine ⟨a :: l, by rw [e, e2]; rfl, fun b hb => ?_⟩
    rcases List.mem_cons.1 hb with rfl | hb
    · exact hp
    · exact hl b hb
end Go.Proofs.Ytnekemldcjegaaa.Aw

/- What comes in, for chapter 1: bolts, bytes, read as data. -/
namespace Go.Proofs.Ytnekemldcjegaaa.Aw
open Go Go.RowKit Go.Proofs
set_option maxRecDepth 100000
set_option linter.unusedSimpArgs false
set_option linter.unusedVariables false
def shU : Sh := .int .u8
def shB4 : Sh := .agg [shU, shU, shU, shU]
def shBolt : Sh := .agg [.agg [shB4, shB4, shB4], .sl shB4]
theorem fit_U {xs : List D} (h : shU.Fit xs) : ∃ n : Int, xs = [.int .u8 n] ∧ 0 ≤ n ∧ n ≤ 255 := by
  unfold shU Sh.Fit at h
  obtain ⟨n, rfl, h1, h2⟩ := h
  exact ⟨n, rfl, h1, h2⟩
theorem fit_B4 {xs : List D} (h : shB4.Fit xs) : ∃ v : B4, xs = rowD 4 0 (fun j => (eB4 v j).toD) ∧ v.ok := by
  unfold shB4 Sh.Fit at h
  simp only [Sh.FitL] at h
  obtain ⟨a, b, rfl, ha, c, d, rfl, hc, e, f, rfl, he, g, i, rfl, hg, rfl⟩ := h
  obtain ⟨x, rfl, hx⟩ := fit_U ha
  obtain ⟨y, rfl, hy⟩ := fit_U hc
  obtain ⟨z, rfl, hz⟩ := fit_U he
  obtain ⟨u, rfl, hu⟩ := fit_U hg
  exact ⟨⟨x, y, z, u⟩, rfl, hx, hy, hz, hu⟩
theorem fit_bolt {xs : List D} (h : shBolt.Fit xs) : ∃ x : Bolt, shBolt.arg xs = (kBolt x).toD ∧ x.ok := by
  unfold shBolt Sh.Fit at h
  simp only [Sh.FitL] at h
  obtain ⟨a, b, rfl, ha, c, d, rfl, hc, rfl⟩ := h
  unfold Sh.Fit at ha hc
  simp only [Sh.FitL] at ha
  obtain ⟨a1, b1, rfl, h1, a2, b2, rfl, h2, a3, b3, rfl, h3, rfl⟩ := ha
  obtain ⟨t0, rfl, k0⟩ := fit_B4 h1
  obtain ⟨t1, rfl, k1⟩ := fit_B4 h2
  obtain ⟨t2, rfl, k2⟩ := fit_B4 h3
  obtain ⟨rc, rfl, lc, hc⟩ := hc
  obtain ⟨ms, rfl, hm⟩ := rows_of (fun row hr => fit_B4 (hc row hr))
  exact ⟨⟨t0, t1, t2, ms⟩, rfl, k0, k1, k2, hm⟩
end Go.Proofs.Ytnekemldcjegaaa.Aw
