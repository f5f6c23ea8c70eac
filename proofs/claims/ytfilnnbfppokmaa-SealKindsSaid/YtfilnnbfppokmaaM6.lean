/- Part 6 of the proof: lemmas. -/
import Derived.Test.YtfilnnbfppokmaaM5
import Derived.Test.YtfilnnbfppokmaaM4
import Derived.Test.YtfilnnbfppokmaaRows
set_option linter.unusedVariables false
set_option linter.unusedSimpArgs false
set_option linter.unusedSectionVars false

namespace Go.Proofs.Ytfilnnbfppokmaa.Aw
open Go Go.RowKit Go.Proofs
set_option maxRecDepth 100000
set_option maxHeartbeats 20000000
noncomputable section
theorem w_slices_Collect_api_SealStrike (N : Nat) (ys_1 : List (api_SealStrike)) (kys_1 : Nat) (dsys_1 : List D) (hdys_1 : noAggD dsys_1 = true) (hitys_1 : IterCon Try.prog kys_1 dsys_1 ((ys_1.map fun y => [.agg [.int .i64 y.Day, .int .i64 y.Number]]).map KV.toDL)) (o : (List api_SealStrike)) (h : m_slices_Collect_api_SealStrike N ys_1 = some o) :
  KC Try.prog 108 [.d (.fn kys_1 dsys_1)] (.osl 0) [⟨66, 2, [.ls api_SealStrike d_api_SealStrike o e_api_SealStrike], false, true⟩] := by
 unfold m_slices_Collect_api_SealStrike at h
 refine con_l [0] [] seat Try.func108 rfl ent_108 (by kernel_rfl) rfl rfl (by simp) ?_; intro base I hI; (conv => cbv)
 refine L_call hI h (fun v hv => w_slices_AppendSeq_Lapi_SealStrike_api_SealStrike N ys_1 kys_1 dsys_1 hdys_1 hitys_1 v hv) (by subst_vars; exact ⟨(leD_refl _), (leD_refl _), rfl⟩) ?_; clear h; intro r_2 h; (conv => cbv)
 cases h
 subst_vars
 exact ⟨lE, (by first | rfl | (simp only [List.map_cons, List.map_nil, KRow.row, rowsD, KP.rows, KV.toDLL, List.map_append, List.append_nil, List.nil_append, List.append_assoc, List.singleton_append, List.cons_append]; rfl))⟩
theorem w_math_bits_Len64 (N : Nat) (x_1 : Int) (o : Int) (h : m_math_bits_Len64 N x_1 = some o) :
  KC Try.prog 125 [.int .u64 x_1] (.int .i64 o) [] := by
 unfold m_math_bits_Len64 at h
 refine con_l [] [2000004, 2000008, 2000014] seat Try.func125 rfl ent_125 (by kernel_rfl) rfl rfl (by simp) ?_; intro base I hI; (conv => cbv)
 refine L_cut hI seat [2000008, 2000014] (by kernel_rfl) h (fun q => match q with | (x_2, n_3) => .normal) (fun q => match q with | (x_2, n_3) => ⟨25, [(0, .int .u64 x_2), (2, .int .i64 n_3)], [], [], 0⟩) ?_ ?_; all_goals clear h
 ·intro x h R hR
  (conv => cbv)
  refine L_tst hI h (by subst_vars; rfl) ?_ ?_ <;> clear h <;> intro h
  ·refine L_conj hI h (fun g => by subst_vars; exact g) ?_; clear h; intro hc h
   exact hR _ _ (Option.some.inj h).symm (by subst_vars; exact weak_l rfl rfl ⟨lE, lE, trivial⟩ trivial trivial)
  ·exact hR _ _ (Option.some.inj h).symm (by subst_vars; exact weak_l rfl rfl ⟨lE, lE, trivial⟩ trivial trivial)
 ·intro q h
  rcases q with ⟨x_2, n_3⟩
  (conv => cbv)
  refine L_cut hI seat [2000004, 2000014] (by kernel_rfl) h (fun q => match q with | (x_4, n_5) => .normal) (fun q => match q with | (x_4, n_5) => ⟨25, [(0, .int .u64 x_4), (2, .int .i64 n_5)], [], [], 0⟩) ?_ ?_; all_goals clear h
  ·intro x h R hR
   (conv => cbv)
   refine L_tst hI h (by subst_vars; rfl) ?_ ?_ <;> clear h <;> intro h
   ·refine L_conj hI h (fun g => by subst_vars; exact g) ?_; clear h; intro hc h
    exact hR _ _ (Option.some.inj h).symm (by subst_vars; exact weak_l rfl rfl ⟨lE, lE, trivial⟩ trivial trivial)
   ·exact hR _ _ (Option.some.inj h).symm (by subst_vars; exact weak_l rfl rfl ⟨lE, lE, trivial⟩ trivial trivial)
  ·intro q h
   rcases q with ⟨x_4, n_5⟩
   (conv => cbv)
   refine L_cut hI seat [2000004, 2000008] (by kernel_rfl) h (fun q => match q with | (x_6, n_7) => .normal) (fun q => match q with | (x_6, n_7) => ⟨25, [(0, .int .u64 x_6), (2, .int .i64 n_7)], [], [], 0⟩) ?_ ?_; all_goals clear h
   ·intro x h R hR
    (conv => cbv)
    refine L_tst hI h (by subst_vars; rfl) ?_ ?_ <;> clear h <;> intro h
    ·refine L_conj hI h (fun g => by subst_vars; exact g) ?_; clear h; intro hc h
     exact hR _ _ (Option.some.inj h).symm (by subst_vars; exact weak_l rfl rfl ⟨lE, lE, trivial⟩ trivial trivial)
    ·exact hR _ _ (Option.some.inj h).symm (by subst_vars; exact weak_l rfl rfl ⟨lE, lE, trivial⟩ trivial trivial)
   ·intro q h
    rcases q with ⟨x_6, n_7⟩
    (conv => cbv)
    refine L_conj hI h (fun g => by subst_vars; exact g) ?_; clear h; intro hc h
    cases h
    subst_vars
    exact ⟨lE, rfl⟩
theorem w_math_bits_Len (N : Nat) (x_1 : Int) (o : Int) (h : m_math_bits_Len N x_1 = some o) :
  KC Try.prog 115 [.int .u64 x_1] (.int .i64 o) [] := by
 unfold m_math_bits_Len at h
 refine con_l [] [] seat Try.func115 rfl ent_115 (by kernel_rfl) rfl rfl (by simp) ?_; intro base I hI; (conv => cbv)
 refine L_call hI h (fun v hv => w_math_bits_Len64 N x_1 v hv) (by subst_vars; exact ⟨(leD_refl _), rfl⟩) ?_; clear h; intro r_2 h; (conv => cbv)
 cases h
 subst_vars
 exact ⟨lE, rfl⟩
theorem w_slices_insertionSortCmpFunc_api_SealStrike (N : Nat) (data_1 : (List api_SealStrike)) (a_2 : Int) (b_3 : Int) (cmp_4 : api_SealStrike -> api_SealStrike -> Option Int) (kcmp_4 : Nat) (dscmp_4 : List D) (hdcmp_4 : noAggD dscmp_4 = true) (hpcmp_4 : ∀ x0 x1 r, cmp_4 x0 x1 = some r -> KD Try.prog kcmp_4 [.agg [.int .i64 x0.Day, .int .i64 x0.Number], .agg [.int .i64 x1.Day, .int .i64 x1.Number]] dscmp_4 (.int .i64 r)) (o : (List api_SealStrike)) (h : m_slices_insertionSortCmpFunc_api_SealStrike N data_1 a_2 b_3 cmp_4 = some o) :
  KCW Try.prog 116 [.osl 100, .int .i64 a_2, .int .i64 b_3, .d (.fn kcmp_4 dscmp_4)] [] [⟨66, 2, [.ls api_SealStrike d_api_SealStrike data_1 e_api_SealStrike], false, true⟩] (.tup []) [] [⟨66, 2, [.ls api_SealStrike d_api_SealStrike o e_api_SealStrike], false, true⟩] := by
 unfold m_slices_insertionSortCmpFunc_api_SealStrike at h
 refine con_w [1000004, 1000006, 7000000] seat Try.func116 rfl ent_116 (by kernel_rfl) rfl rfl rfl rfl ?_; intro yl I PW hI hPW; subst hPW; (conv => cbv)
 replace h := letO_of h; obtain ⟨i_5, hei_5, h⟩ := h
 refine L_loop hI seat [1000004, 1000006, 7000000] (by kernel_rfl) h (fun q => match q with | (i_57, data_58) => ⟨53, [(0, .osl 100), (1, .int .i64 a_2), (2, .int .i64 b_3), (3, .d (.fn kcmp_4 dscmp_4)), (8, .int .i64 i_57)], [], [(100, ⟨66, 2, [.ls api_SealStrike d_api_SealStrike data_58 e_api_SealStrike], false, true⟩)], 0⟩) (fun q => match q with | l_110 => .exit 0) (fun q => match q with | l_110 => ⟨53, [], [], [(100, ⟨66, 2, [.ls api_SealStrike d_api_SealStrike l_110 e_api_SealStrike], false, true⟩)], 0⟩) (by subst_vars; exact weak_l rfl rfl ⟨lR, lE, lE, lR, lE, trivial⟩ trivial ⟨lO, trivial⟩) (by intro q; rcases q with l_110 <;> (intro e; exact Exit.noConfusion e)) ?_ ?_; all_goals clear h
 ·intro q x h R hR hX
  obtain ⟨i_57, data_58⟩ := q
  rw [m_slices_insertionSortCmpFunc_api_SealStrike_L1] at h
  (conv => cbv)
  refine L_tst hI h (by subst_vars; rfl) ?_ ?_ <;> clear h <;> intro h
  ·refine L_loop hI seat [1000004, 1000006, 7000000] (by kernel_rfl) h (fun q => match q with | (j_127, data_128) => ⟨53, [(0, .osl 100), (1, .int .i64 a_2), (2, .int .i64 b_3), (3, .d (.fn kcmp_4 dscmp_4)), (8, .int .i64 i_57), (9, .int .i64 j_127)], [], [(100, ⟨66, 2, [.ls api_SealStrike d_api_SealStrike data_128 e_api_SealStrike], false, true⟩)], 0⟩) (fun q => match q with | data_145 => .exit 2) (fun q => match q with | data_145 => ⟨53, [(0, .osl 100), (1, .int .i64 a_2), (2, .int .i64 b_3), (3, .d (.fn kcmp_4 dscmp_4)), (8, .int .i64 i_57)], [], [(100, ⟨66, 2, [.ls api_SealStrike d_api_SealStrike data_145 e_api_SealStrike], false, true⟩)], 0⟩) (by subst_vars; exact weak_l rfl rfl ⟨lR, lE, lE, lR, lE, lE, trivial⟩ trivial ⟨lO, trivial⟩) (by intro q; rcases q with data_145 <;> (intro e; exact Exit.noConfusion e)) ?_ ?_; all_goals clear h
   ·intro q x h R hR hX
    obtain ⟨j_127, data_128⟩ := q
    rw [m_slices_insertionSortCmpFunc_api_SealStrike_L2] at h
    (conv => cbv)
    refine L_cut hI seat [1000006, 7000000] (by kernel_rfl) h (fun q => match q with | v_149 => .normal) (fun q => match q with | v_149 => ⟨53, [(0, .osl 100), (1, .int .i64 a_2), (2, .int .i64 b_3), (3, .d (.fn kcmp_4 dscmp_4)), (8, .int .i64 i_57), (9, .int .i64 j_127), (34, .bool v_149)], [], [(100, ⟨66, 2, [.ls api_SealStrike d_api_SealStrike data_128 e_api_SealStrike], false, true⟩)], 0⟩) ?_ ?_; all_goals clear h
    ·intro x h R hR
     (conv => cbv)
     refine L_tst hI h (by subst_vars; rfl) ?_ ?_ <;> clear h <;> intro h
     ·refine L_conj hI h (fun g => by subst_vars; exact g) ?_; clear h; intro hc h
      refine L_get hI h (fun g => by subst_vars; exact g) ?_; clear h; intro hc x_150 hxx_150 h
      refine L_conj hI h (fun g => by subst_vars; exact g) ?_; clear h; intro hc h
      refine L_get hI h (fun g => by subst_vars; exact g) ?_; clear h; intro hc x_151 hxx_151 h
      refine K_conj hI (by subst_vars; exact hdcmp_4) ?_
      refine L_callD hI h (args' := [.agg [.int .i64 x_150.Day, .int .i64 x_150.Number], .agg [.int .i64 x_151.Day, .int .i64 x_151.Number]]) (fun v hv => hpcmp_4 x_150 x_151 v hv) (by subst_vars; rfl) ?_; clear h; intro v_152 h; (conv => cbv)
      exact hR _ _ (Option.some.inj h).symm (by subst_vars; exact weak_l rfl rfl ⟨lR, lE, lE, lR, lE, lE, lE, trivial⟩ trivial ⟨lO, trivial⟩)
     ·exact hR _ _ (Option.some.inj h).symm (by subst_vars; exact weak_l rfl rfl ⟨lR, lE, lE, lR, lE, lE, lE, trivial⟩ trivial ⟨lO, trivial⟩)
    ·intro v_149 h
     (conv => cbv)
     refine L_tst hI h (by subst_vars; rfl) ?_ ?_ <;> clear h <;> intro h
     ·refine L_cut hI seat [1000004, 7000000] (by kernel_rfl) h (fun q => match q with | data_157 => .normal) (fun q => match q with | data_157 => ⟨53, [(0, .osl 100), (1, .int .i64 a_2), (2, .int .i64 b_3), (3, .d (.fn kcmp_4 dscmp_4)), (8, .int .i64 i_57), (9, .int .i64 j_127)], [], [(100, ⟨66, 2, [.ls api_SealStrike d_api_SealStrike data_157 e_api_SealStrike], false, true⟩)], 0⟩) ?_ ?_; all_goals clear h
      ·intro x h R hR
       (conv => cbv)
       replace h := guard_of h; obtain ⟨hc1, h⟩ := h
       replace h := get_of h; obtain ⟨hc2, x_158, hxx_158, h⟩ := h
       replace h := guard_of h; obtain ⟨hc3, h⟩ := h
       replace h := get_of h; obtain ⟨hc4, x_159, hxx_159, h⟩ := h
       replace h := guard_of h; obtain ⟨hc5, h⟩ := h
       replace h := guard_of h; obtain ⟨hc6, h⟩ := h
       replace h := letO_of h; obtain ⟨l_160, hel_160, h⟩ := h
       replace h := guard_of h; obtain ⟨hc9, h⟩ := h
       replace h := guard_of h; obtain ⟨hc10, h⟩ := h
       replace h := letO_of h; obtain ⟨l_161, hel_161, h⟩ := h
       repeat' (first | (refine K_conj hI (show I.rnone from by rw [hI]; rfl) ?_; (conv => cbv)) | (refine K_conj hI ((fun g => by subst_vars; exact g) hc1) ?_) | (refine K_conj hI ((fun g => by subst_vars; exact g) hc2) ?_) | (refine K_conj hI ((fun g => by subst_vars; exact g) hc3) ?_) | (refine K_conj hI ((fun g => by subst_vars; exact g) hc4) ?_) | (refine K_conj hI ((fun g => by subst_vars; exact g) hc5) ?_) | (refine K_conj hI ((fun g => by subst_vars; exact g) hc6) ?_) | (refine K_setl2 hI data_128 x_158 l_160 hel_160 (by subst_vars; first | rfl | (simp only [rowsD, KP.rows, KV.toDLL, List.map_append, List.map_cons, List.map_nil, List.append_nil, List.nil_append, List.append_assoc, List.singleton_append, List.cons_append, List.map_replicate]; rfl) | (simp only [primK, rowsD, KP.rows, KV.toDLL, List.map_append, List.map_cons, List.map_nil, List.append_nil, List.map_replicate]; rfl)) hc6 (by subst_vars; rfl) (by subst_vars; rfl) ?_; (conv => cbv)) | (refine K_conj hI ((fun g => by subst_vars; exact g) hc9) ?_) | (refine K_conj hI ((fun g => by subst_vars; exact g) hc10) ?_) | (refine K_setl2 hI l_160 x_159 l_161 hel_161 (by subst_vars; first | rfl | (simp only [rowsD, KP.rows, KV.toDLL, List.map_append, List.map_cons, List.map_nil, List.append_nil, List.nil_append, List.append_assoc, List.singleton_append, List.cons_append, List.map_replicate]; rfl) | (simp only [primK, rowsD, KP.rows, KV.toDLL, List.map_append, List.map_cons, List.map_nil, List.append_nil, List.map_replicate]; rfl)) hc10 (by subst_vars; rfl) (by subst_vars; rfl) ?_; (conv => cbv)) | (exact hR _ _ (Option.some.inj h).symm (by subst_vars; exact weak_l rfl rfl ⟨lR, lE, lE, lR, lE, lE, trivial⟩ trivial ⟨lO, trivial⟩)) | (refine K_conj hI ?_ ?_))
      ·intro data_157 h
       (conv => cbv)
       exact hR _ _ (Option.some.inj h).symm (by subst_vars; exact weak_l rfl rfl ⟨lR, lE, lE, lR, lE, lE, trivial⟩ trivial ⟨lO, trivial⟩)
     ·exact hX _ _ (Option.some.inj h).symm (by subst_vars; exact weak_l rfl rfl ⟨lR, lE, lE, lR, lE, trivial⟩ trivial ⟨lO, trivial⟩)
   ·intro data_145 h
    (conv => cbv)
    exact hR _ _ (Option.some.inj h).symm (by subst_vars; exact weak_l rfl rfl ⟨lR, lE, lE, lR, lE, trivial⟩ trivial ⟨lO, trivial⟩)
  ·exact hX _ _ (Option.some.inj h).symm (by subst_vars; exact weak_l rfl rfl trivial trivial ⟨lO, trivial⟩)
 ·intro l_110 h
  (conv => cbv)
  cases h
  subst_vars
  first | exact ⟨rfl, rfl, (by first | rfl | (simp only [rowsD, KP.rows, KV.toDLL, List.map_append, List.map_cons, List.map_nil, List.append_nil, List.nil_append, List.append_assoc, List.singleton_append, List.cons_append, List.map_replicate]; rfl) | (simp only [primK, rowsD, KP.rows, KV.toDLL, List.map_append, List.map_cons, List.map_nil, List.append_nil, List.map_replicate]; rfl))⟩ | exact ⟨rfl, (by first | rfl | (simp only [rowsD, KP.rows, KV.toDLL, List.map_append, List.map_cons, List.map_nil, List.append_nil, List.nil_append, List.append_assoc, List.singleton_append, List.cons_append, List.map_replicate]; rfl) | (simp only [primK, rowsD, KP.rows, KV.toDLL, List.map_append, List.map_cons, List.map_nil, List.append_nil, List.map_replicate]; rfl))⟩ | exact (by first | rfl | (simp only [rowsD, KP.rows, KV.toDLL, List.map_append, List.map_cons, List.map_nil, List.append_nil, List.nil_append, List.append_assoc, List.singleton_append, List.cons_append, List.map_replicate]; rfl) | (simp only [primK, rowsD, KP.rows, KV.toDLL, List.map_append, List.map_cons, List.map_nil, List.append_nil, List.map_replicate]; rfl))
theorem w_slices_pdqsortCmpFunc_api_SealStrike (N : Nat) (p_1 : (List api_SealStrike)) (p_2 : Int) (p_3 : Int) (p_4 : Int) (p_5 : api_SealStrike -> api_SealStrike -> Option Int) (kp_5 : Nat) (dsp_5 : List D) (hdp_5 : noAggD dsp_5 = true) (hpp_5 : ∀ x0 x1 r, p_5 x0 x1 = some r -> KD Try.prog kp_5 [.agg [.int .i64 x0.Day, .int .i64 x0.Number], .agg [.int .i64 x1.Day, .int .i64 x1.Number]] dsp_5 (.int .i64 r)) (o : (List api_SealStrike)) (h : m_slices_pdqsortCmpFunc_api_SealStrike N p_1 p_2 p_3 p_4 p_5 = some o) :
  KCW Try.prog 114 [.osl 100, .int .i64 p_2, .int .i64 p_3, .int .i64 p_4, .d (.fn kp_5 dsp_5)] [] [⟨66, 2, [.ls api_SealStrike d_api_SealStrike p_1 e_api_SealStrike], false, true⟩] (.tup []) [] [⟨66, 2, [.ls api_SealStrike d_api_SealStrike o e_api_SealStrike], false, true⟩] := by
 unfold m_slices_pdqsortCmpFunc_api_SealStrike at h
 refine con_w [5000116] seat Try.func114 rfl ent_114 (by kernel_rfl) rfl rfl rfl rfl ?_; intro yl I PW hI hPW; subst hPW; (conv => cbv)
 refine L_loop hI seat [5000116] (by kernel_rfl) h (fun q => match q with | () => ⟨148, [(0, .osl 100), (1, .int .i64 p_2), (2, .int .i64 p_3), (3, .int .i64 p_4), (4, .d (.fn kp_5 dsp_5)), (10, .tt), (11, .tt)], [], [(100, ⟨66, 2, [.ls api_SealStrike d_api_SealStrike p_1 e_api_SealStrike], false, true⟩)], 0⟩) (fun q => match q with | l_7 => .ret) (fun q => match q with | l_7 => ⟨148, [], [], [(100, ⟨66, 2, [.ls api_SealStrike d_api_SealStrike l_7 e_api_SealStrike], false, true⟩)], 0⟩) (by subst_vars; exact weak_l rfl rfl ⟨lR, lE, lE, lE, lR, lE, lE, trivial⟩ trivial ⟨lO, trivial⟩) (by intro q; rcases q with l_7 <;> (intro e; exact Exit.noConfusion e)) ?_ ?_; all_goals clear h
 ·intro q x h R hR hX
  obtain ⟨⟩ := q
  rw [m_slices_pdqsortCmpFunc_api_SealStrike_L1] at h
  (conv => cbv)
  refine L_tst hI h (by subst_vars; rfl) ?_ ?_ <;> clear h <;> intro h
  ·refine L_callW hI h (fun v hv => w_slices_insertionSortCmpFunc_api_SealStrike N p_1 p_2 p_3 p_5 kp_5 dsp_5 hdp_5 hpp_5 v hv) (by subst_vars; exact ⟨rfl, (leA_refl _), (leA_refl _), (leA_refl _), rfl⟩) (by subst_vars; rfl) (by subst_vars; first | rfl | (simp only [rowsD, KP.rows, KV.toDLL, List.map_append, List.map_cons, List.map_nil, List.append_nil, List.nil_append, List.append_assoc, List.singleton_append, List.cons_append, List.map_replicate]; rfl) | (simp only [primK, rowsD, KP.rows, KV.toDLL, List.map_append, List.map_cons, List.map_nil, List.append_nil, List.map_replicate]; rfl)) ?_; clear h; intro r_8 h; (conv => cbv)
   refine K_conj hI (by rw [hI]; exact (numsW_ls _ (fun _ => rfl))) ?_; (conv => cbv)
   exact hX _ _ (Option.some.inj h).symm (by subst_vars; exact weak_l rfl rfl trivial trivial ⟨lO, trivial⟩)
  ·cases h
 ·intro l_7 h
  (conv => cbv)
  cases h
  subst_vars
  first | exact ⟨rfl, rfl, (by first | rfl | (simp only [rowsD, KP.rows, KV.toDLL, List.map_append, List.map_cons, List.map_nil, List.append_nil, List.nil_append, List.append_assoc, List.singleton_append, List.cons_append, List.map_replicate]; rfl) | (simp only [primK, rowsD, KP.rows, KV.toDLL, List.map_append, List.map_cons, List.map_nil, List.append_nil, List.map_replicate]; rfl))⟩ | exact ⟨rfl, (by first | rfl | (simp only [rowsD, KP.rows, KV.toDLL, List.map_append, List.map_cons, List.map_nil, List.append_nil, List.nil_append, List.append_assoc, List.singleton_append, List.cons_append, List.map_replicate]; rfl) | (simp only [primK, rowsD, KP.rows, KV.toDLL, List.map_append, List.map_cons, List.map_nil, List.append_nil, List.map_replicate]; rfl))⟩ | exact (by first | rfl | (simp only [rowsD, KP.rows, KV.toDLL, List.map_append, List.map_cons, List.map_nil, List.append_nil, List.nil_append, List.append_assoc, List.singleton_append, List.cons_append, List.map_replicate]; rfl) | (simp only [primK, rowsD, KP.rows, KV.toDLL, List.map_append, List.map_cons, List.map_nil, List.append_nil, List.map_replicate]; rfl))
theorem w_slices_SortFunc_Lapi_SealStrike_api_SealStrike (N : Nat) (x_1 : (List api_SealStrike)) (cmp_2 : api_SealStrike -> api_SealStrike -> Option Int) (kcmp_2 : Nat) (dscmp_2 : List D) (hdcmp_2 : noAggD dscmp_2 = true) (hpcmp_2 : ∀ x0 x1 r, cmp_2 x0 x1 = some r -> KD Try.prog kcmp_2 [.agg [.int .i64 x0.Day, .int .i64 x0.Number], .agg [.int .i64 x1.Day, .int .i64 x1.Number]] dscmp_2 (.int .i64 r)) (o : (List api_SealStrike)) (h : m_slices_SortFunc_Lapi_SealStrike_api_SealStrike N x_1 cmp_2 = some o) :
  KCW Try.prog 109 [.osl 100, .d (.fn kcmp_2 dscmp_2)] [] [⟨66, 2, [.ls api_SealStrike d_api_SealStrike x_1 e_api_SealStrike], false, true⟩] (.tup []) [] [⟨66, 2, [.ls api_SealStrike d_api_SealStrike o e_api_SealStrike], false, true⟩] := by
 unfold m_slices_SortFunc_Lapi_SealStrike_api_SealStrike at h
 refine con_w [5000114] seat Try.func109 rfl ent_109 (by kernel_rfl) rfl rfl rfl rfl ?_; intro yl I PW hI hPW; subst hPW; (conv => cbv)
 refine L_call hI h (fun v hv => w_math_bits_Len N (IntKind.wrap .u64 ((x_1.length : Nat) : Int)) v hv) (by subst_vars; exact ⟨(leD_refl _), rfl⟩) ?_; clear h; intro r_3 h; (conv => cbv)
 refine L_callW hI h (fun v hv => w_slices_pdqsortCmpFunc_api_SealStrike N x_1 0 ((x_1.length : Nat) : Int) r_3 cmp_2 kcmp_2 dscmp_2 hdcmp_2 hpcmp_2 v hv) (by subst_vars; exact ⟨rfl, (leA_refl _), (leA_refl _), (leA_refl _), (leA_refl _), rfl⟩) (by subst_vars; rfl) (by subst_vars; first | rfl | (simp only [rowsD, KP.rows, KV.toDLL, List.map_append, List.map_cons, List.map_nil, List.append_nil, List.nil_append, List.append_assoc, List.singleton_append, List.cons_append, List.map_replicate]; rfl) | (simp only [primK, rowsD, KP.rows, KV.toDLL, List.map_append, List.map_cons, List.map_nil, List.append_nil, List.map_replicate]; rfl)) ?_; clear h; intro r_4 h; (conv => cbv)
 refine K_conj hI (by rw [hI]; exact (numsW_ls _ (fun _ => rfl))) ?_; (conv => cbv)
 cases h
 subst_vars
 first | exact ⟨rfl, rfl, (by first | rfl | (simp only [rowsD, KP.rows, KV.toDLL, List.map_append, List.map_cons, List.map_nil, List.append_nil, List.nil_append, List.append_assoc, List.singleton_append, List.cons_append, List.map_replicate]; rfl) | (simp only [primK, rowsD, KP.rows, KV.toDLL, List.map_append, List.map_cons, List.map_nil, List.append_nil, List.map_replicate]; rfl))⟩ | exact ⟨rfl, (by first | rfl | (simp only [rowsD, KP.rows, KV.toDLL, List.map_append, List.map_cons, List.map_nil, List.append_nil, List.nil_append, List.append_assoc, List.singleton_append, List.cons_append, List.map_replicate]; rfl) | (simp only [primK, rowsD, KP.rows, KV.toDLL, List.map_append, List.map_cons, List.map_nil, List.append_nil, List.map_replicate]; rfl))⟩ | exact (by first | rfl | (simp only [rowsD, KP.rows, KV.toDLL, List.map_append, List.map_cons, List.map_nil, List.append_nil, List.nil_append, List.append_assoc, List.singleton_append, List.cons_append, List.map_replicate]; rfl) | (simp only [primK, rowsD, KP.rows, KV.toDLL, List.map_append, List.map_cons, List.map_nil, List.append_nil, List.map_replicate]; rfl))
theorem w_slices_SortedFunc_api_SealStrike (N : Nat) (ys_1 : List (api_SealStrike)) (kys_1 : Nat) (dsys_1 : List D) (hdys_1 : noAggD dsys_1 = true) (hitys_1 : IterCon Try.prog kys_1 dsys_1 ((ys_1.map fun y => [.agg [.int .i64 y.Day, .int .i64 y.Number]]).map KV.toDL)) (cmp_2 : api_SealStrike -> api_SealStrike -> Option Int) (kcmp_2 : Nat) (dscmp_2 : List D) (hdcmp_2 : noAggD dscmp_2 = true) (hpcmp_2 : ∀ x0 x1 r, cmp_2 x0 x1 = some r -> KD Try.prog kcmp_2 [.agg [.int .i64 x0.Day, .int .i64 x0.Number], .agg [.int .i64 x1.Day, .int .i64 x1.Number]] dscmp_2 (.int .i64 r)) (o : (List api_SealStrike)) (h : m_slices_SortedFunc_api_SealStrike N ys_1 cmp_2 = some o) :
  KC Try.prog 96 [.d (.fn kys_1 dsys_1), .d (.fn kcmp_2 dscmp_2)] (sl_api_SealStrike false o) [] := by
 unfold m_slices_SortedFunc_api_SealStrike at h
 refine con_l [] [5000109] seat Try.func96 rfl ent_96 (by kernel_rfl) rfl rfl (by simp) ?_; intro base I hI; (conv => cbv)
 refine L_call hI h (fun v hv => w_slices_Collect_api_SealStrike N ys_1 kys_1 dsys_1 hdys_1 hitys_1 v hv) (by subst_vars; exact ⟨(leD_refl _), rfl⟩) ?_; clear h; intro r_3 h; (conv => cbv)
 refine L_callW hI h (fun v hv => w_slices_SortFunc_Lapi_SealStrike_api_SealStrike N r_3 cmp_2 kcmp_2 dscmp_2 hdcmp_2 hpcmp_2 v hv) (by subst_vars; exact ⟨rfl, (leA_refl _), rfl⟩) (by subst_vars; rfl) (by subst_vars; first | rfl | (simp only [rowsD, KP.rows, KV.toDLL, List.map_append, List.map_cons, List.map_nil, List.append_nil, List.nil_append, List.append_assoc, List.singleton_append, List.cons_append, List.map_replicate]; rfl) | (simp only [primK, rowsD, KP.rows, KV.toDLL, List.map_append, List.map_cons, List.map_nil, List.append_nil, List.map_replicate]; rfl)) ?_; clear h; intro r_4 h; (conv => cbv)
 refine K_conj hI (by rw [hI]; exact (numsW_ls _ (fun _ => rfl))) ?_; (conv => cbv)
 cases h
 subst_vars
 exact ⟨LV_sl, rfl⟩
theorem i_slices_Values_Lapi_SealStrike_api_SealStrike_1 (N : Nat) (p_1 : (List api_SealStrike)) (o : List api_SealStrike) (h : m_it_slices_Values_Lapi_SealStrike_api_SealStrike_1 N p_1 = some o) :
  IterCon Try.prog 110 (KV.toDL [.ptr [sl_api_SealStrike false p_1]]) ((o.map fun (y : api_SealStrike) => [.agg [.int .i64 y.Day, .int .i64 y.Number]]).map KV.toDL) := by
 unfold m_it_slices_Values_Lapi_SealStrike_api_SealStrike_1 at h
 have h1 := bind_of h; clear h
 obtain ⟨⟨zs, u⟩, h, e⟩ := h1
 cases e
 unfold m_slices_Values_Lapi_SealStrike_api_SealStrike_1 at h
 refine iter_l (en := fun (y : api_SealStrike) => [.agg [.int .i64 y.Day, .int .i64 y.Number]]) [] seat Try.func110 rfl ent_110 (by kernel_rfl) rfl rfl rfl ?_; intro E Inv Fin hTk base s hy I hI; (conv => cbv)
 replace h := letO_of h; obtain ⟨v_2, hev_2, h⟩ := h
 refine L_loopY (Fin := Fin) hI seat [] (by kernel_rfl) h hy (fun q => match q with | v_4 => ⟨16, [(0, .yld), (5, sl_api_SealStrike false p_1), (6, .int .i64 v_2), (7, .int .i64 v_4)], [], [], 0⟩) (fun q => match q with | () => .exit 0) (fun q => match q with | () => ⟨16, [], [], [], 0⟩) (.ret) (by subst_vars; exact weak_l rfl rfl ⟨lR, LV_sl, lE, lE, trivial⟩ trivial trivial) (by intro q; rcases q with _ <;> (intro e; exact Exit.noConfusion e)) (by intro e; exact Exit.noConfusion e) ?_ ?_ ?_; all_goals clear h hy
 ·intro v_4 x zs ps s h hy R hR hX hF
  rw [m_slices_Values_Lapi_SealStrike_api_SealStrike_1_L1] at h
  (conv => cbv)
  refine L_tst hI h (by subst_vars; rfl) ?_ ?_ <;> clear h <;> intro h
  ·refine L_get hI h (fun g => by subst_vars; exact g) ?_; clear h; intro hc x_6 hxx_6 h
   refine L_yield hI hTk (y := x_6) h hy (by subst_vars; rfl) ?_ ?_ <;> clear h hy
   ·intro zs s h hy
    (conv => cbv)
    refine K_tst hI (fun hq => by first | (rw [hI] at hq; cases hq; done) | cases hq) (fun _ => ?_)
    obtain ⟨rfl, rfl⟩ := L_leafY h; exact hR _ _ _ rfl hy (by subst_vars; exact weak_l rfl rfl ⟨lR, LV_sl, lE, lE, trivial⟩ trivial trivial)
   ·intro s hfin
    (conv => cbv)
    refine K_tst hI (fun _ => ?_) (fun hq => by first | (rw [hI] at hq; cases hq; done) | cases hq)
    exact hF _ _ hfin
  ·obtain ⟨rfl, rfl⟩ := L_leafY h; exact hX _ _ _ rfl hy (by subst_vars; exact weak_l rfl rfl trivial trivial trivial)
 ·intro q zs s h hy
  (conv => cbv)
  exact Y_end hTk h hy
 ·intro S1 s hfin
  (conv => cbv)
  exact hfin
theorem w_seal_before (N : Nat) (a_1 : api_SealStrike) (b_2 : api_SealStrike) (o : Int) (h : m_seal_before N a_1 b_2 = some o) :
  KC Try.prog 98 [.agg [.int .i64 a_1.Day, .int .i64 a_1.Number], .agg [.int .i64 b_2.Day, .int .i64 b_2.Number]] (.int .i64 o) [] := by
 unfold m_seal_before at h
 refine con_l [] [] seat Try.func98 rfl ent_98 (by kernel_rfl) rfl rfl (by simp) ?_; intro base I hI; (conv => cbv)
 refine L_tst hI h (by subst_vars; rfl) ?_ ?_ <;> clear h <;> intro h
 ·cases h
  subst_vars
  exact ⟨lE, rfl⟩
 ·cases h
  subst_vars
  exact ⟨lE, rfl⟩
theorem w_seal_own (N : Nat) (l_1 : (List api_SealStrike)) (o : Int) (h : m_seal_own N l_1 = some o) :
  KC Try.prog 75 [sl_api_SealStrike false l_1] (.int .i64 o) [] := by
 unfold m_seal_own at h
 refine con_l [] [2000039] seat Try.func75 rfl ent_75 (by kernel_rfl) rfl rfl (by simp) ?_; intro base I hI; (conv => cbv)
 refine L_call hI h (fun v hv => w_slices_Values_Lapi_SealStrike_api_SealStrike N l_1 v hv) (by subst_vars; exact ⟨(leD_refl _), rfl⟩) ?_; clear h; intro r_2 h; (conv => cbv)
 replace h := bind_of h; obtain ⟨ys_3, hyys_3, h⟩ := h
 refine L_call hI h (fun v hv => w_slices_SortedFunc_api_SealStrike N ys_3 110 (KV.toDL [.ptr [sl_api_SealStrike false r_2]]) rfl (i_slices_Values_Lapi_SealStrike_api_SealStrike_1 N r_2 ys_3 hyys_3) (fun x0 x1 => m_seal_before N x0 x1) 98 (KV.toDL []) rfl (fun x0 x1 r hr => KD_of (caps := []) (w_seal_before N x0 x1 r hr)) v hv) (by subst_vars; exact ⟨(leD_refl _), (leD_refl _), rfl⟩) ?_; clear h; intro r_4 h; (conv => cbv)
 refine L_mk hI h (by first | exact trivial | rfl) (by subst_vars; rfl) ?_; clear h; intro h
 replace h := letO_of h; obtain ⟨v_5, hev_5, h⟩ := h
 replace h := letO_of h; obtain ⟨l_6, hel_6, h⟩ := h
 refine L_loop hI seat [2000039] (by kernel_rfl) h (fun q => match q with | (most_39, v_40, longest_41) => ⟨62, [(3, sl_api_SealStrike false r_4), (4, .int .i64 most_39), (5, .osl 0), (16, sl_api_SealStrike false r_4), (17, .int .i64 v_5), (18, .int .i64 v_40)], [], [(0, ⟨3, 1, [.ls Int 0 longest_41 e_int], true, true⟩)], 0⟩) (fun q => match q with | most_74 => .exit 0) (fun q => match q with | most_74 => ⟨62, [(4, .int .i64 most_74)], [], [], 0⟩) (by subst_vars; exact weak_l rfl rfl ⟨LV_sl, lE, lR, LV_sl, lE, lE, trivial⟩ trivial ⟨lO, trivial⟩) (by intro q; rcases q with most_74 <;> (intro e; exact Exit.noConfusion e)) ?_ ?_; all_goals clear h
 ·intro q x h R hR hX
  obtain ⟨most_39, v_40, longest_41⟩ := q
  rw [m_seal_own_L1] at h
  (conv => cbv)
  refine L_tst hI h (by subst_vars; rfl) ?_ ?_ <;> clear h <;> intro h
  ·refine L_get hI h (fun g => by subst_vars; exact g) ?_; clear h; intro hc x_75 hxx_75 h
   refine L_conj hI h (fun g => by subst_vars; exact g) ?_; clear h; intro hc h
   refine L_conj hI h (fun g => by subst_vars; exact g) ?_; clear h; intro hc h
   replace h := letO_of h; obtain ⟨l_76, hel_76, h⟩ := h
   refine K_setl2 hI longest_41 1 l_76 hel_76 (by subst_vars; first | rfl | (simp only [rowsD, KP.rows, KV.toDLL, List.map_append, List.map_cons, List.map_nil, List.append_nil, List.nil_append, List.append_assoc, List.singleton_append, List.cons_append, List.map_replicate]; rfl) | (simp only [primK, rowsD, KP.rows, KV.toDLL, List.map_append, List.map_cons, List.map_nil, List.append_nil, List.map_replicate]; rfl)) hc (by subst_vars; rfl) (by subst_vars; rfl) ?_; (conv => cbv)
   refine L_conj hI h (fun g => by subst_vars; exact g) ?_; clear h; intro hc h
   refine L_conj hI h (fun g => by subst_vars; exact g) ?_; clear h; intro hc h
   refine L_conj hI h (fun g => by subst_vars; exact g) ?_; clear h; intro hc h
   replace h := letO_of h; obtain ⟨v_77, hev_77, h⟩ := h
   replace h := letO_of h; obtain ⟨v_78, hev_78, h⟩ := h
   refine L_loop hI seat [2000039] (by kernel_rfl) h (fun q => match q with | (v_87, longest_88) => ⟨62, [(3, sl_api_SealStrike false r_4), (4, .int .i64 most_39), (5, .osl 0), (6, .int .i64 v_40), (7, .loc 1 0), (16, sl_api_SealStrike false r_4), (17, .int .i64 v_5), (18, .int .i64 v_40), (28, sl_api_SealStrike false v_77), (29, .int .i64 v_78), (30, .int .i64 v_87)], [(1, ⟨66, [.int .i64 x_75.Day, .int .i64 x_75.Number], true⟩)], [(0, ⟨3, 1, [.ls Int 0 longest_88 e_int], true, true⟩)], 0⟩) (fun q => match q with | longest_97 => .exit 2) (fun q => match q with | longest_97 => ⟨62, [(3, sl_api_SealStrike false r_4), (4, .int .i64 most_39), (5, .osl 0), (6, .int .i64 v_40), (16, sl_api_SealStrike false r_4), (17, .int .i64 v_5), (18, .int .i64 v_40)], [], [(0, ⟨3, 1, [.ls Int 0 longest_97 e_int], true, true⟩)], 0⟩) (by subst_vars; exact weak_l rfl rfl ⟨LV_sl, lE, lR, lE, lR, LV_sl, lE, lE, LV_sl, lE, lE, trivial⟩ ⟨lB ⟨lE, lE, rfl⟩, trivial⟩ ⟨lO, trivial⟩) (by intro q; rcases q with longest_97 <;> (intro e; exact Exit.noConfusion e)) ?_ ?_; all_goals clear h
   ·intro q x h R hR hX
    obtain ⟨v_87, longest_88⟩ := q
    rw [m_seal_own_L2] at h
    (conv => cbv)
    refine L_tst hI h (by subst_vars; rfl) ?_ ?_ <;> clear h <;> intro h
    ·refine L_get hI h (fun g => by subst_vars; exact g) ?_; clear h; intro hc x_98 hxx_98 h
     refine L_cut hI seat [] (by kernel_rfl) h (fun q => match q with | longest_102 => .normal) (fun q => match q with | longest_102 => ⟨62, [(3, sl_api_SealStrike false r_4), (4, .int .i64 most_39), (5, .osl 0), (6, .int .i64 v_40), (7, .loc 1 0), (16, sl_api_SealStrike false r_4), (17, .int .i64 v_5), (18, .int .i64 v_40), (28, sl_api_SealStrike false v_77), (29, .int .i64 v_78), (30, .int .i64 v_87)], [(1, ⟨66, [.int .i64 x_75.Day, .int .i64 x_75.Number], true⟩)], [(0, ⟨3, 1, [.ls Int 0 longest_102 e_int], true, true⟩)], 0⟩) ?_ ?_; all_goals clear h
     ·intro x h R hR
      (conv => cbv)
      refine L_tst hI h (by subst_vars; rfl) ?_ ?_ <;> clear h <;> intro h
      ·refine L_conj hI h (fun g => by subst_vars; exact g) ?_; clear h; intro hc h
       refine L_get hI h (fun g => by subst_vars; exact g) ?_; clear h; intro hc x_103 hxx_103 h
       refine L_conj hI h (fun g => by subst_vars; exact g) ?_; clear h; intro hc h
       refine L_get hI h (fun g => by subst_vars; exact g) ?_; clear h; intro hc x_104 hxx_104 h
       refine L_conj hI h (fun g => by subst_vars; exact g) ?_; clear h; intro hc h
       refine L_conj hI h (fun g => by subst_vars; exact g) ?_; clear h; intro hc h
       replace h := letO_of h; obtain ⟨l_105, hel_105, h⟩ := h
       refine K_setl2 hI longest_88 (max x_103 (iopR .add .i64 x_104 1)) l_105 hel_105 (by subst_vars; first | rfl | (simp only [rowsD, KP.rows, KV.toDLL, List.map_append, List.map_cons, List.map_nil, List.append_nil, List.nil_append, List.append_assoc, List.singleton_append, List.cons_append, List.map_replicate]; rfl) | (simp only [primK, rowsD, KP.rows, KV.toDLL, List.map_append, List.map_cons, List.map_nil, List.append_nil, List.map_replicate]; rfl)) hc (by subst_vars; rfl) (by subst_vars; rfl) ?_; (conv => cbv)
       exact hR _ _ (Option.some.inj h).symm (by subst_vars; exact weak_l rfl rfl ⟨LV_sl, lE, lR, lE, lR, LV_sl, lE, lE, LV_sl, lE, lE, trivial⟩ ⟨lB ⟨lE, lE, rfl⟩, trivial⟩ ⟨lO, trivial⟩)
      ·exact hR _ _ (Option.some.inj h).symm (by subst_vars; exact weak_l rfl rfl ⟨LV_sl, lE, lR, lE, lR, LV_sl, lE, lE, LV_sl, lE, lE, trivial⟩ ⟨lB ⟨lE, lE, rfl⟩, trivial⟩ ⟨lO, trivial⟩)
     ·intro longest_102 h
      (conv => cbv)
      exact hR _ _ (Option.some.inj h).symm (by subst_vars; exact weak_l rfl rfl ⟨LV_sl, lE, lR, lE, lR, LV_sl, lE, lE, LV_sl, lE, lE, trivial⟩ ⟨lB ⟨lE, lE, rfl⟩, trivial⟩ ⟨lO, trivial⟩)
    ·exact hX _ _ (Option.some.inj h).symm (by subst_vars; exact weak_l rfl rfl ⟨LV_sl, lE, lR, lE, LV_sl, lE, lE, trivial⟩ trivial ⟨lO, trivial⟩)
   ·intro longest_97 h
    (conv => cbv)
    refine L_conj hI h (fun g => by subst_vars; exact g) ?_; clear h; intro hc h
    refine L_get hI h (fun g => by subst_vars; exact g) ?_; clear h; intro hc x_106 hxx_106 h
    exact hR _ _ (Option.some.inj h).symm (by subst_vars; exact weak_l rfl rfl ⟨LV_sl, lE, lR, LV_sl, lE, lE, trivial⟩ trivial ⟨lO, trivial⟩)
  ·exact hX _ _ (Option.some.inj h).symm (by subst_vars; exact weak_l rfl rfl ⟨lE, trivial⟩ trivial trivial)
 ·intro most_74 h
  (conv => cbv)
  cases h
  subst_vars
  exact ⟨lE, rfl⟩
theorem c_rest (l : List (Int × api_SealStrike)) (hl : fitsN l.length 16) : KCN Try.prog 74 [.ptr [mp_int_api_SealStrike l]] (fun R => ∃ l' : List api_SealStrike, l'.Perm (l.map (·.2)) /\ R = ⟨66, 2, [.ls api_SealStrike d_api_SealStrike l' e_api_SealStrike], false, true⟩) := by
 refine con_n [1] [] seat Try.func74 rfl ent_74 (by kernel_rfl) rfl rfl (by simp) ?_; intro base I hI; (conv => cbv)
 refine W_weak hI (S' := ⟨15, [(1, .osl 1), (5, .osl 0)], [], [(0, ⟨0, 0, [.rw [[mp_int_api_SealStrike l, .ff]], .mp (Int × api_SealStrike) (0, d_api_SealStrike) l me_int_api_SealStrike], false, true⟩), (1, ⟨66, 2, [.ls api_SealStrike d_api_SealStrike [] e_api_SealStrike], false, true⟩)], 0⟩) ((weak_nil 1 1 66 2 rfl rfl rfl rfl).trans (weak_l rfl rfl ⟨lR, lR, trivial⟩ trivial ⟨lO, lO, trivial⟩)) ?_
 refine W_loop hI seat [] (by kernel_rfl) (fun a : List (Int × api_SealStrike) × List api_SealStrike => a.1.length) (fun a => ⟨15, [(1, .osl 1), (5, .osl 0)], [], [(0, ⟨0, 0, [.rw [[mp_int_api_SealStrike l, .ff]], .mp (Int × api_SealStrike) (0, d_api_SealStrike) a.1 me_int_api_SealStrike], false, true⟩), (1, ⟨66, 2, [.ls api_SealStrike d_api_SealStrike a.2 e_api_SealStrike], false, true⟩)], 0⟩) (fun a _ => (a.2 ++ a.1.map (·.2)).Perm (l.map (·.2))) (l, []) (Weak.refl _) (by simp) ?_
 intro a s hinv R hR
 obtain ⟨rem, acc⟩ := a
 have hlen := hinv.length_eq
 simp only [List.length_append, List.length_map] at hlen hinv
 (conv => cbv)
 refine K_mnext hI (fun hz => ?_) (fun i y rem' hrem hy => ?_)
 ·subst hz
  (conv => cbv)
  rw [hI]
  exact ⟨lE, _, ⟨acc, by simpa using hinv, rfl⟩, rfl⟩
 ·(conv => cbv)
  have hi := (List.getElem?_eq_some_iff.1 hy).1
  obtain ⟨f1, f2⟩ := hl
  refine K_conj hI (by rw [hI]; show plenN _ * _ <= _ /\ plenN _ <= _; simp only [plenN, List.length_cons, List.length_nil, joinP, List.cons_append, List.nil_append]; omega) ?_; (conv => cbv)
  have hp : (y :: rem').Perm rem := hrem ▸ perm_pick hy (List.Perm.refl _)
  refine hR _ _ (rem', acc ++ [y.2]) (by simp only; rw [hrem, List.length_eraseIdx, if_pos hi]; omega) (weak_l rfl rfl ⟨lR, lR, trivial⟩ trivial ⟨lO, lO, trivial⟩) ?_
  have h1 := (hp.map (·.2)).append_left acc
  simp only [List.map_cons] at h1
  simp only [List.append_assoc, List.singleton_append]
  exact h1.trans hinv
theorem w_seal_Forged (N : Nat) (l_1 : (List api_SealStrike)) (o : (List Int) × Int) (h : m_seal_Forged N l_1 = some o) :
  KC Try.prog 38 [sl_api_SealStrike false l_1] (.tup [sl_int false o.1, .int .i64 o.2]) [] := by
 unfold m_seal_Forged at h
 refine con_l [] [9000047] seat Try.func38 rfl ent_38 (by kernel_rfl) rfl rfl (by simp) ?_; intro base I hI; (conv => cbv)
 refine L_tst hI h (by subst_vars; rfl) ?_ ?_ <;> clear h <;> intro h
 ·cases h
  subst_vars
  exact ⟨(LV_tup ⟨LV_nil, lE, rfl⟩), rfl⟩
 ·refine L_call hI h (fun v hv => w_slices_ContainsFunc_Lapi_SealStrike_api_SealStrike N l_1 (fun x0 => m_seal_Forged_1 N x0) 72 (KV.toDL []) rfl (fun x0 r hr => KD_of (caps := []) (w_seal_Forged_1 N x0 r hr)) v hv) (by subst_vars; exact ⟨(leD_refl _), (leD_refl _), rfl⟩) ?_; clear h; intro r_2 h; (conv => cbv)
  refine L_tst hI h (by subst_vars; rfl) ?_ ?_ <;> clear h <;> intro h
  ·cases h
   subst_vars
   exact ⟨(LV_tup ⟨LV_nil, lE, rfl⟩), rfl⟩
  ·replace h := letO_of h; obtain ⟨v_3, hev_3, h⟩ := h
   refine L_loop hI seat [9000047] (by kernel_rfl) h (fun q => match q with | (v_6, l_7) => ⟨60, [(0, sl_api_SealStrike false l_1), (2, .nilsl), (4, .loc 1 0), (19, sl_api_SealStrike false l_1), (20, .int .i64 v_3), (21, .int .i64 v_6)], [(1, ⟨136, [.osl 0], true⟩)], [(0, ⟨0, 0, [.mp (Int × api_SealStrike) (0, d_api_SealStrike) l_7 me_int_api_SealStrike], true, true⟩)], 0⟩) (fun q => match q with | l_10 => .exit 1) (fun q => match q with | l_10 => ⟨60, [(0, sl_api_SealStrike false l_1), (2, .nilsl), (4, .loc 1 0)], [(1, ⟨136, [.osl 0], true⟩)], [(0, ⟨0, 0, [.mp (Int × api_SealStrike) (0, d_api_SealStrike) l_10 me_int_api_SealStrike], true, true⟩)], 0⟩) (by subst_vars; exact weak_l rfl rfl ⟨LV_sl, lR, lR, LV_sl, lE, lE, trivial⟩ ⟨lB ⟨lR, rfl⟩, trivial⟩ ⟨lO, trivial⟩) (by intro q; rcases q with l_10 <;> (intro e; exact Exit.noConfusion e)) ?_ ?_; all_goals clear h
   ·intro q x h R hR hX
    obtain ⟨v_6, l_7⟩ := q
    rw [m_seal_Forged_L1] at h
    (conv => cbv)
    refine L_tst hI h (by subst_vars; rfl) ?_ ?_ <;> clear h <;> intro h
    ·refine L_get hI h (fun g => by subst_vars; exact g) ?_; clear h; intro hc x_11 hxx_11 h
     replace h := letO_of h; obtain ⟨l_12, hel_12, h⟩ := h
     refine K_mset hI menc_int_api_SealStrike (d := (0, d_api_SealStrike)) l_7 v_6 x_11 l_12 hel_12 (by subst_vars; first | rfl | (simp only [rowsD, KP.rows, KV.toDLL, List.map_append, List.map_cons, List.map_nil, List.append_nil, List.nil_append, List.append_assoc, List.singleton_append, List.cons_append, List.map_replicate]; rfl) | (simp only [primK, rowsD, KP.rows, KV.toDLL, List.map_append, List.map_cons, List.map_nil, List.append_nil, List.map_replicate]; rfl)) (by subst_vars; rfl) (by subst_vars; rfl) ?_; (conv => cbv)
     exact hR _ _ (Option.some.inj h).symm (by subst_vars; exact weak_l rfl rfl ⟨LV_sl, lR, lR, LV_sl, lE, lE, trivial⟩ ⟨lB ⟨lR, rfl⟩, trivial⟩ ⟨lO, trivial⟩)
    ·exact hX _ _ (Option.some.inj h).symm (by subst_vars; exact weak_l rfl rfl ⟨LV_sl, lR, lR, trivial⟩ ⟨lB ⟨lR, rfl⟩, trivial⟩ ⟨lO, trivial⟩)
   ·intro l_10 h
    (conv => cbv)
    refine L_call hI h (fun v hv => w_seal_own N l_1 v hv) (by subst_vars; exact ⟨(leD_refl _), rfl⟩) ?_; clear h; intro r_13 h; (conv => cbv)
    replace h := letO_of h; obtain ⟨v_14, hev_14, h⟩ := h
    refine L_loop hI seat [9000047] (by kernel_rfl) h (fun q => match q with | (v_20, l_21, out_22) => ⟨60, [(2, .osl 2), (4, .loc 1 0), (7, .fn 74 [.loc 1 0]), (8, .int .i64 r_13), (33, sl_api_SealStrike false l_1), (34, .int .i64 v_14), (35, .int .i64 v_20)], [(1, ⟨136, [.osl 0], true⟩)], [(0, ⟨0, 0, [.mp (Int × api_SealStrike) (0, d_api_SealStrike) l_21 me_int_api_SealStrike], true, true⟩), (2, ⟨3, 1, [.ls Int 0 out_22 e_int], false, true⟩)], 0⟩) (fun q => match q with | out_28 => .exit 3) (fun q => match q with | out_28 => ⟨60, [(2, .osl 2)], [], [(2, ⟨3, 1, [.ls Int 0 out_28 e_int], false, true⟩)], 0⟩) (by subst_vars; exact (weak_nil 2 2 3 1 rfl rfl rfl rfl).trans (weak_l rfl rfl ⟨lR, lR, lE, lE, LV_sl, lE, lE, trivial⟩ ⟨lB ⟨lR, rfl⟩, trivial⟩ ⟨lO, lO, trivial⟩)) (by intro q; rcases q with out_28 <;> (intro e; exact Exit.noConfusion e)) ?_ ?_; all_goals clear h
    ·intro q x h R hR hX
     obtain ⟨v_20, l_21, out_22⟩ := q
     rw [m_seal_Forged_L2] at h
     (conv => cbv)
     refine L_tst hI h (by subst_vars; rfl) ?_ ?_ <;> clear h <;> intro h
     ·refine L_get hI h (fun g => by subst_vars; exact g) ?_; clear h; intro hc x_29 hxx_29 h
      refine L_tst hI h (by subst_vars; rfl) ?_ ?_ <;> clear h <;> intro h
      ·exact hX _ _ (Option.some.inj h).symm (by subst_vars; exact weak_l rfl rfl ⟨lR, trivial⟩ trivial ⟨lO, trivial⟩)
      ·replace h := letO_of h; obtain ⟨l_30, hel_30, h⟩ := h
       refine K_mdel hI menc_int_api_SealStrike (d := (0, d_api_SealStrike)) l_21 v_20 l_30 hel_30 (by subst_vars; first | rfl | (simp only [rowsD, KP.rows, KV.toDLL, List.map_append, List.map_cons, List.map_nil, List.append_nil, List.nil_append, List.append_assoc, List.singleton_append, List.cons_append, List.map_replicate]; rfl) | (simp only [primK, rowsD, KP.rows, KV.toDLL, List.map_append, List.map_cons, List.map_nil, List.append_nil, List.map_replicate]; rfl)) (by subst_vars; rfl) ?_; (conv => cbv)
       replace h := guard_of h; obtain ⟨hfitr_31, h⟩ := h
       refine L_callN hI h (row := fun l => ⟨66, 2, [.ls api_SealStrike d_api_SealStrike l e_api_SealStrike], false, true⟩) (c_rest l_30 hfitr_31) (by subst_vars; rfl) (fun _ => numsW_ls _ (fun _ => rfl)) ?_; clear h; intro r_31 hpr_31 h; (conv => cbv)
       refine L_call hI h (fun v hv => w_seal_own N r_31 v hv) (by subst_vars; exact ⟨(leD_refl _), rfl⟩) ?_; clear h; intro r_32 h; (conv => cbv)
       refine L_tst hI h (by subst_vars; rfl) ?_ ?_ <;> clear h <;> intro h
       ·refine L_conj hI h (fun g => by subst_vars; exact g) ?_; clear h; intro hc h
        exact hR _ _ (Option.some.inj h).symm (by subst_vars; exact weak_l rfl rfl ⟨lR, lR, lE, lE, LV_sl, lE, lE, trivial⟩ ⟨lB ⟨lR, rfl⟩, trivial⟩ ⟨lO, lO, trivial⟩)
       ·replace h := letO_of h; obtain ⟨l_33, hel_33, h⟩ := h
        refine K_mset hI menc_int_api_SealStrike (d := (0, d_api_SealStrike)) l_30 v_20 x_29 l_33 hel_33 (by subst_vars; first | rfl | (simp only [rowsD, KP.rows, KV.toDLL, List.map_append, List.map_cons, List.map_nil, List.append_nil, List.nil_append, List.append_assoc, List.singleton_append, List.cons_append, List.map_replicate]; rfl) | (simp only [primK, rowsD, KP.rows, KV.toDLL, List.map_append, List.map_cons, List.map_nil, List.append_nil, List.map_replicate]; rfl)) (by subst_vars; rfl) (by subst_vars; rfl) ?_; (conv => cbv)
        exact hR _ _ (Option.some.inj h).symm (by subst_vars; exact weak_l rfl rfl ⟨lR, lR, lE, lE, LV_sl, lE, lE, trivial⟩ ⟨lB ⟨lR, rfl⟩, trivial⟩ ⟨lO, lO, trivial⟩)
     ·exact hX _ _ (Option.some.inj h).symm (by subst_vars; exact weak_l rfl rfl ⟨lR, trivial⟩ trivial ⟨lO, trivial⟩)
    ·intro out_28 h
     (conv => cbv)
     cases h
     subst_vars
     exact ⟨(LV_tup ⟨LV_sl, lE, rfl⟩), rfl⟩
theorem w_seal_isSize (N : Nat) (size_1 : Int) (o : Bool) (h : m_seal_isSize N size_1 = some o) :
  KC Try.prog 101 [.int .i64 size_1] (.bool o) [] := by
 unfold m_seal_isSize at h
 refine con_l [] [] seat Try.func101 rfl ent_101 (by kernel_rfl) rfl rfl (by simp) ?_; intro base I hI; (conv => cbv)
 refine L_call hI h (fun v hv => w_seal_within N 0 2 [size_1] v hv) (by subst_vars; exact ⟨(leD_refl _), (leD_refl _), ⟨.inl rfl, rfl, leDLL_refl _⟩, rfl⟩) ?_; clear h; intro r_2 h; (conv => cbv)
 cases h
 subst_vars
 exact ⟨lE, rfl⟩
theorem w_slices_IndexFunc_Lapi_SealRow_api_SealRow (N : Nat) (s_1 : (List api_SealRow)) (f_2 : api_SealRow -> Option Bool) (kf_2 : Nat) (dsf_2 : List D) (hdf_2 : noAggD dsf_2 = true) (hpf_2 : ∀ x0 r, f_2 x0 = some r -> KD Try.prog kf_2 [.agg [.int .i64 x0.Kind, .int .i64 x0.Reading]] dsf_2 (.bool r)) (o : Int) (h : m_slices_IndexFunc_Lapi_SealRow_api_SealRow N s_1 f_2 = some o) :
  KC Try.prog 111 [sl_api_SealRow false s_1, .d (.fn kf_2 dsf_2)] (.int .i64 o) [] := by
 unfold m_slices_IndexFunc_Lapi_SealRow_api_SealRow at h
 refine con_l [] [] seat Try.func111 rfl ent_111 (by kernel_rfl) rfl rfl (by simp) ?_; intro base I hI; (conv => cbv)
 replace h := letO_of h; obtain ⟨v_3, hev_3, h⟩ := h
 refine L_loop hI seat [] (by kernel_rfl) h (fun q => match q with | v_6 => ⟨19, [(0, sl_api_SealRow false s_1), (1, .d (.fn kf_2 dsf_2)), (7, .int .i64 v_3), (8, .int .i64 v_6)], [], [], 0⟩) (fun q => match q with | (.inl v_9) => .ret | (.inr ()) => .exit 0) (fun q => match q with | (.inl v_9) => ⟨19, [(4, .int .i64 v_9)], [], [], 0⟩ | (.inr ()) => ⟨19, [], [], [], 0⟩) (by subst_vars; exact weak_l rfl rfl ⟨LV_sl, lR, lE, lE, trivial⟩ trivial trivial) (by intro q; rcases q with (v_9 | _) <;> (intro e; exact Exit.noConfusion e)) ?_ ?_; all_goals clear h
 ·intro v_6 x h R hR hX
  rw [m_slices_IndexFunc_Lapi_SealRow_api_SealRow_L1] at h
  (conv => cbv)
  refine L_tst hI h (by subst_vars; rfl) ?_ ?_ <;> clear h <;> intro h
  ·refine L_get hI h (fun g => by subst_vars; exact g) ?_; clear h; intro hc x_10 hxx_10 h
   refine K_conj hI (by subst_vars; exact hdf_2) ?_
   refine L_callD hI h (args' := [.agg [.int .i64 x_10.Kind, .int .i64 x_10.Reading]]) (fun v hv => hpf_2 x_10 v hv) (by subst_vars; rfl) ?_; clear h; intro v_11 h; (conv => cbv)
   refine L_tst hI h (by subst_vars; rfl) ?_ ?_ <;> clear h <;> intro h
   ·exact hX _ _ (Option.some.inj h).symm (by subst_vars; exact weak_l rfl rfl ⟨lE, trivial⟩ trivial trivial)
   ·exact hR _ _ (Option.some.inj h).symm (by subst_vars; exact weak_l rfl rfl ⟨LV_sl, lR, lE, lE, trivial⟩ trivial trivial)
  ·exact hX _ _ (Option.some.inj h).symm (by subst_vars; exact weak_l rfl rfl trivial trivial trivial)
 ·intro q h
  rcases q with (v_9 | _)
  ·(conv => cbv)
   cases h
   subst_vars
   exact ⟨lE, rfl⟩
  ·(conv => cbv)
   cases h
   subst_vars
   exact ⟨lE, rfl⟩
theorem w_slices_ContainsFunc_Lapi_SealRow_api_SealRow (N : Nat) (s_1 : (List api_SealRow)) (f_2 : api_SealRow -> Option Bool) (kf_2 : Nat) (dsf_2 : List D) (hdf_2 : noAggD dsf_2 = true) (hpf_2 : ∀ x0 r, f_2 x0 = some r -> KD Try.prog kf_2 [.agg [.int .i64 x0.Kind, .int .i64 x0.Reading]] dsf_2 (.bool r)) (o : Bool) (h : m_slices_ContainsFunc_Lapi_SealRow_api_SealRow N s_1 f_2 = some o) :
  KC Try.prog 102 [sl_api_SealRow false s_1, .d (.fn kf_2 dsf_2)] (.bool o) [] := by
 unfold m_slices_ContainsFunc_Lapi_SealRow_api_SealRow at h
 refine con_l [] [] seat Try.func102 rfl ent_102 (by kernel_rfl) rfl rfl (by simp) ?_; intro base I hI; (conv => cbv)
 refine L_call hI h (fun v hv => w_slices_IndexFunc_Lapi_SealRow_api_SealRow N s_1 f_2 kf_2 dsf_2 hdf_2 hpf_2 v hv) (by subst_vars; exact ⟨(leD_refl _), (leD_refl _), rfl⟩) ?_; clear h; intro r_3 h; (conv => cbv)
 cases h
 subst_vars
 exact ⟨lE, rfl⟩
theorem w_seal_newBook_1 (N : Nat) (r_1 : api_SealRow) (p_2 : api_SealStatute) (o : Bool) (h : m_seal_newBook_1 N r_1 p_2 = some o) :
  KC Try.prog 100 [.agg [.int .i64 r_1.Kind, .int .i64 r_1.Reading], .ptr [sl_api_SealKind false p_2.Kinds, .int .i64 p_2.Grace, .int .i64 p_2.Fine, sl_int false p_2.Off]] (.bool o) [] := by
 unfold m_seal_newBook_1 at h
 refine con_l [] [1000001] seat Try.func100 rfl ent_100 (by kernel_rfl) rfl rfl (by simp) ?_; intro base I hI; (conv => cbv)
 refine L_cut hI seat [] (by kernel_rfl) h (fun q => match q with | v_5 => .normal) (fun q => match q with | v_5 => ⟨20, [(3, .bool v_5)], [], [], 0⟩) ?_ ?_; all_goals clear h
 ·intro x h R hR
  (conv => cbv)
  refine L_call hI h (fun v hv => w_seal_within N 0 (iopR .sub .i64 ((p_2.Kinds.length : Nat) : Int) 1) [r_1.Kind] v hv) (by subst_vars; exact ⟨(leD_refl _), (leD_refl _), ⟨.inl rfl, rfl, leDLL_refl _⟩, rfl⟩) ?_; clear h; intro r_6 h; (conv => cbv)
  refine L_tst hI h (by subst_vars; rfl) ?_ ?_ <;> clear h <;> intro h
  ·exact hR _ _ (Option.some.inj h).symm (by subst_vars; exact weak_l rfl rfl ⟨lE, trivial⟩ trivial trivial)
  ·refine L_call hI h (fun v hv => w_seal_within N 0 2000 [r_1.Reading] v hv) (by subst_vars; exact ⟨(leD_refl _), (leD_refl _), ⟨.inl rfl, rfl, leDLL_refl _⟩, rfl⟩) ?_; clear h; intro r_7 h; (conv => cbv)
   exact hR _ _ (Option.some.inj h).symm (by subst_vars; exact weak_l rfl rfl ⟨lE, trivial⟩ trivial trivial)
 ·intro v_5 h
  (conv => cbv)
  cases h
  subst_vars
  exact ⟨lE, rfl⟩
theorem w_seal_newBook (N : Nat) (s_1 : api_SealStatute) (rows_2 : (List api_SealRow)) (size_3 : Int) (o : seal_book × Int) (h : m_seal_newBook N s_1 rows_2 size_3 = some o) :
  KC Try.prog 78 [.agg [sl_api_SealKind false s_1.Kinds, .int .i64 s_1.Grace, .int .i64 s_1.Fine, sl_int false s_1.Off], sl_api_SealRow false rows_2, .int .i64 size_3] (.tup [.agg [sl_api_SealKind false o.1.SealStatute.Kinds, .int .i64 o.1.SealStatute.Grace, .int .i64 o.1.SealStatute.Fine, sl_int false o.1.SealStatute.Off, sl_api_SealRow false o.1.rows, .int .i64 o.1.size], .int .i64 o.2]) [] := by
 unfold m_seal_newBook at h
 refine con_l [] [3000001] seat Try.func78 rfl ent_78 (by kernel_rfl) rfl rfl (by simp) ?_; intro base I hI; (conv => cbv)
 refine L_call hI h (fun v hv => w_seal_Check N s_1 v hv) (by subst_vars; exact ⟨(leD_refl _), rfl⟩) ?_; clear h; intro r_4 h; (conv => cbv)
 refine L_tst hI h (by subst_vars; rfl) ?_ ?_ <;> clear h <;> intro h
 ·cases h
  subst_vars
  exact ⟨(LV_tup ⟨(LV_agg ⟨LV_sl, lE, lE, LV_sl, LV_sl, lE, rfl⟩), lE, rfl⟩), rfl⟩
 ·refine L_call hI h (fun v hv => w_seal_isSize N size_3 v hv) (by subst_vars; exact ⟨(leD_refl _), rfl⟩) ?_; clear h; intro r_5 h; (conv => cbv)
  refine L_tst hI h (by subst_vars; rfl) ?_ ?_ <;> clear h <;> intro h
  ·cases h
   subst_vars
   exact ⟨(LV_tup ⟨(LV_agg ⟨LV_sl, lE, lE, LV_sl, LV_sl, lE, rfl⟩), lE, rfl⟩), rfl⟩
  ·refine L_tst hI h (by subst_vars; rfl) ?_ ?_ <;> clear h <;> intro h
   ·cases h
    subst_vars
    exact ⟨(LV_tup ⟨(LV_agg ⟨LV_sl, lE, lE, LV_sl, LV_sl, lE, rfl⟩), lE, rfl⟩), rfl⟩
   ·refine L_call hI h (fun v hv => w_slices_ContainsFunc_Lapi_SealRow_api_SealRow N rows_2 (fun x0 => m_seal_newBook_1 N x0 s_1) 100 (KV.toDL [.ptr [sl_api_SealKind false s_1.Kinds, .int .i64 s_1.Grace, .int .i64 s_1.Fine, sl_int false s_1.Off]]) rfl (fun x0 r hr => KD_of (caps := [.ptr [sl_api_SealKind false s_1.Kinds, .int .i64 s_1.Grace, .int .i64 s_1.Fine, sl_int false s_1.Off]]) (w_seal_newBook_1 N x0 s_1 r hr)) v hv) (by subst_vars; exact ⟨(leD_refl _), (leD_refl _), rfl⟩) ?_; clear h; intro r_6 h; (conv => cbv)
    refine L_tst hI h (by subst_vars; rfl) ?_ ?_ <;> clear h <;> intro h
    ·cases h
     subst_vars
     exact ⟨(LV_tup ⟨(LV_agg ⟨LV_sl, lE, lE, LV_sl, LV_sl, lE, rfl⟩), lE, rfl⟩), rfl⟩
    ·cases h
     subst_vars
     exact ⟨(LV_tup ⟨(LV_agg ⟨LV_sl, lE, lE, LV_sl, LV_sl, lE, rfl⟩), lE, rfl⟩), rfl⟩
theorem w_seal_book_bad (N : Nat) (b_1 : seal_book) (shift_2 : Int) (o : (List Int)) (h : m_seal_book_bad N b_1 shift_2 = some o) :
  KC Try.prog 103 [.agg [sl_api_SealKind false b_1.SealStatute.Kinds, .int .i64 b_1.SealStatute.Grace, .int .i64 b_1.SealStatute.Fine, sl_int false b_1.SealStatute.Off, sl_api_SealRow false b_1.rows, .int .i64 b_1.size], .int .i64 shift_2] (sl_int false o) [] := by
 unfold m_seal_book_bad at h
 refine con_l [] [2000048] seat Try.func103 rfl ent_103 (by kernel_rfl) rfl rfl (by simp) ?_; intro base I hI; (conv => cbv)
 replace h := letO_of h; obtain ⟨v_3, hev_3, h⟩ := h
 refine L_loop hI seat [2000048] (by kernel_rfl) h (fun q => match q with | (v_10, l_11) => ⟨55, [(1, .int .i64 shift_2), (2, .loc 0 0), (4, .osl 1), (10, sl_api_SealRow false b_1.rows), (11, .int .i64 v_3), (12, .int .i64 v_10)], [(0, ⟨143, [sl_api_SealKind false b_1.SealStatute.Kinds, .int .i64 b_1.SealStatute.Grace, .int .i64 b_1.SealStatute.Fine, sl_int false b_1.SealStatute.Off, sl_api_SealRow false b_1.rows, .int .i64 b_1.size], true⟩)], [(1, ⟨3, 1, [.ls Int 0 l_11 e_int], false, true⟩)], 0⟩) (fun q => match q with | l_18 => .exit 0) (fun q => match q with | l_18 => ⟨55, [(4, .osl 1)], [], [(1, ⟨3, 1, [.ls Int 0 l_18 e_int], false, true⟩)], 0⟩) (by subst_vars; exact (weak_nil 4 1 3 1 rfl rfl rfl rfl).trans (weak_l rfl rfl ⟨lE, lR, lR, LV_sl, lE, lE, trivial⟩ ⟨lB ⟨LV_sl, lE, lE, LV_sl, LV_sl, lE, rfl⟩, trivial⟩ ⟨lO, trivial⟩)) (by intro q; rcases q with l_18 <;> (intro e; exact Exit.noConfusion e)) ?_ ?_; all_goals clear h
 ·intro q x h R hR hX
  obtain ⟨v_10, l_11⟩ := q
  rw [m_seal_book_bad_L1] at h
  (conv => cbv)
  refine L_tst hI h (by subst_vars; rfl) ?_ ?_ <;> clear h <;> intro h
  ·refine L_get hI h (fun g => by subst_vars; exact g) ?_; clear h; intro hc x_19 hxx_19 h
   refine L_get hI h (fun g => by subst_vars; exact g) ?_; clear h; intro hc x_20 hxx_20 h
   refine L_get hI h (fun g => by subst_vars; exact g) ?_; clear h; intro hc x_21 hxx_21 h
   refine L_get hI h (fun g => by subst_vars; exact g) ?_; clear h; intro hc x_22 hxx_22 h
   refine L_call hI h (fun v hv => w_seal_meet N (api_Span.mk (iopR .sub .i64 (iopR .add .i64 x_19.Reading shift_2) x_20) (iopR .add .i64 (iopR .add .i64 x_19.Reading shift_2) x_20)) x_22 v hv) (by subst_vars; exact ⟨⟨(leD_refl _), (leD_refl _), rfl⟩, (leD_refl _), rfl⟩) ?_; clear h; intro r_23 h; (conv => cbv)
   refine L_cut hI seat [] (by kernel_rfl) h (fun q => match q with | l_24 => .normal) (fun q => match q with | l_24 => ⟨55, [(1, .int .i64 shift_2), (2, .loc 0 0), (4, .osl 1), (10, sl_api_SealRow false b_1.rows), (11, .int .i64 v_3), (12, .int .i64 v_10)], [(0, ⟨143, [sl_api_SealKind false b_1.SealStatute.Kinds, .int .i64 b_1.SealStatute.Grace, .int .i64 b_1.SealStatute.Fine, sl_int false b_1.SealStatute.Off, sl_api_SealRow false b_1.rows, .int .i64 b_1.size], true⟩)], [(1, ⟨3, 1, [.ls Int 0 l_24 e_int], false, true⟩)], 0⟩) ?_ ?_; all_goals clear h
   ·intro x h R hR
    (conv => cbv)
    refine L_tst hI h (by subst_vars; rfl) ?_ ?_ <;> clear h <;> intro h
    ·refine L_conj hI h (fun g => by subst_vars; exact g) ?_; clear h; intro hc h
     exact hR _ _ (Option.some.inj h).symm (by subst_vars; exact weak_l rfl rfl ⟨lE, lR, lR, LV_sl, lE, lE, trivial⟩ ⟨lB ⟨LV_sl, lE, lE, LV_sl, LV_sl, lE, rfl⟩, trivial⟩ ⟨lO, trivial⟩)
    ·exact hR _ _ (Option.some.inj h).symm (by subst_vars; exact weak_l rfl rfl ⟨lE, lR, lR, LV_sl, lE, lE, trivial⟩ ⟨lB ⟨LV_sl, lE, lE, LV_sl, LV_sl, lE, rfl⟩, trivial⟩ ⟨lO, trivial⟩)
   ·intro l_24 h
    (conv => cbv)
    exact hR _ _ (Option.some.inj h).symm (by subst_vars; exact weak_l rfl rfl ⟨lE, lR, lR, LV_sl, lE, lE, trivial⟩ ⟨lB ⟨LV_sl, lE, lE, LV_sl, LV_sl, lE, rfl⟩, trivial⟩ ⟨lO, trivial⟩)
  ·exact hX _ _ (Option.some.inj h).symm (by subst_vars; exact weak_l rfl rfl ⟨lR, trivial⟩ trivial ⟨lO, trivial⟩)
 ·intro l_18 h
  (conv => cbv)
  cases h
  subst_vars
  exact ⟨LV_sl, rfl⟩
theorem i_seal_book_shifts (N : Nat) (b_1 : seal_book) (o : List (Int × (List Int))) (h : m_it_seal_book_shifts N b_1 = some o) :
  IterConB Try.prog 79 (KV.toDL [.agg [sl_api_SealKind false b_1.SealStatute.Kinds, .int .i64 b_1.SealStatute.Grace, .int .i64 b_1.SealStatute.Fine, sl_int false b_1.SealStatute.Off, sl_api_SealRow false b_1.rows, .int .i64 b_1.size]]) [] ((o.map fun (y : (Int × (List Int))) => [.int .i64 y.1, sl_int false y.2]).map KV.toDL) := by
 unfold m_it_seal_book_shifts at h
 have h1 := bind_of h; clear h
 obtain ⟨⟨zs, u⟩, h, e⟩ := h1
 cases e
 unfold m_seal_book_shifts at h
 refine iter_lB (en := fun (y : (Int × (List Int))) => [.int .i64 y.1, sl_int false y.2]) [] seat Try.func79 rfl ent_79 (by kernel_rfl) rfl rfl rfl ?_; intro E Inv Fin hTk base s hy I hI; (conv => cbv)
 refine L_loopY (Fin := Fin) hI seat [] (by kernel_rfl) h hy (fun q => match q with | shift_3 => ⟨16, [(1, .yld), (2, .loc 0 0), (4, .int .i64 shift_3)], [(0, ⟨143, [sl_api_SealKind false b_1.SealStatute.Kinds, .int .i64 b_1.SealStatute.Grace, .int .i64 b_1.SealStatute.Fine, sl_int false b_1.SealStatute.Off, sl_api_SealRow false b_1.rows, .int .i64 b_1.size], true⟩)], [], 0⟩) (fun q => match q with | () => .exit 0) (fun q => match q with | () => ⟨16, [], [], [], 0⟩) (.ret) (by subst_vars; exact weak_l rfl rfl ⟨lR, lR, lE, trivial⟩ ⟨lB ⟨LV_sl, lE, lE, LV_sl, LV_sl, lE, rfl⟩, trivial⟩ trivial) (by intro q; rcases q with _ <;> (intro e; exact Exit.noConfusion e)) (by intro e; exact Exit.noConfusion e) ?_ ?_ ?_; all_goals clear h hy
 ·intro shift_3 x zs ps s h hy R hR hX hF
  rw [m_seal_book_shifts_L1] at h
  (conv => cbv)
  refine L_tst hI h (by subst_vars; rfl) ?_ ?_ <;> clear h <;> intro h
  ·refine L_call hI h (fun v hv => w_seal_book_bad N b_1 shift_3 v hv) (by subst_vars; exact ⟨(leD_refl _), (leD_refl _), rfl⟩) ?_; clear h; intro r_5 h; (conv => cbv)
   refine L_yield hI hTk (y := (shift_3, r_5)) h hy (by subst_vars; rfl) ?_ ?_ <;> clear h hy
   ·intro zs s h hy
    (conv => cbv)
    refine K_tst hI (fun hq => by first | (rw [hI] at hq; cases hq; done) | cases hq) (fun _ => ?_)
    obtain ⟨rfl, rfl⟩ := L_leafY h; exact hR _ _ _ rfl hy (by subst_vars; exact weak_l rfl rfl ⟨lR, lR, lE, trivial⟩ ⟨lB ⟨LV_sl, lE, lE, LV_sl, LV_sl, lE, rfl⟩, trivial⟩ trivial)
   ·intro s hfin
    (conv => cbv)
    refine K_tst hI (fun _ => ?_) (fun hq => by first | (rw [hI] at hq; cases hq; done) | cases hq)
    exact hF _ _ hfin
  ·obtain ⟨rfl, rfl⟩ := L_leafY h; exact hX _ _ _ rfl hy (by subst_vars; exact weak_l rfl rfl trivial trivial trivial)
 ·intro q zs s h hy
  (conv => cbv)
  exact Y_end hTk h hy
 ·intro S1 s hfin
  (conv => cbv)
  exact hfin
theorem w_seal_Cord (N : Nat) (s_1 : api_SealStatute) (rows_2 : (List api_SealRow)) (size_3 : Int) (o : (List api_Span) × Int) (h : m_seal_Cord N s_1 rows_2 size_3 = some o) :
  KC Try.prog 41 [.agg [sl_api_SealKind false s_1.Kinds, .int .i64 s_1.Grace, .int .i64 s_1.Fine, sl_int false s_1.Off], sl_api_SealRow false rows_2, .int .i64 size_3] (.tup [sl_api_Span false o.1, .int .i64 o.2]) [] := by
 unfold m_seal_Cord at h
 refine con_l [] [1000009] seat Try.func41 rfl ent_41 (by kernel_rfl) rfl rfl (by simp) ?_; intro base I hI; (conv => cbv)
 refine L_call hI h (fun v hv => w_seal_newBook N s_1 rows_2 size_3 v hv) (by subst_vars; exact ⟨(leD_refl _), (leD_refl _), (leD_refl _), rfl⟩) ?_; clear h; intro r_4 h; (conv => cbv)
 refine L_tst hI h (by subst_vars; rfl) ?_ ?_ <;> clear h <;> intro h
 ·cases h
  subst_vars
  exact ⟨(LV_tup ⟨LV_nil, lE, rfl⟩), rfl⟩
 ·replace h := bind_of h; obtain ⟨ys_5, hyys_5, h⟩ := h
  refine W_weak hI (S' := ⟨56, [(6, .loc 1 0), (23, .bfn 79 [.agg [sl_api_SealKind false r_4.1.SealStatute.Kinds, .int .i64 r_4.1.SealStatute.Grace, .int .i64 r_4.1.SealStatute.Fine, sl_int false r_4.1.SealStatute.Off, sl_api_SealRow false r_4.1.rows, .int .i64 r_4.1.size]])], [(1, ⟨71, [.osl 3], true⟩)], [(3, ⟨40, 2, [.ls api_Span d_api_Span [] e_api_Span], false, true⟩)], 0⟩) (by subst_vars; exact (weak_nilH 1 0 3 40 2 ⟨71, [.nilsl], true⟩ rfl rfl rfl rfl).trans (weak_l rfl rfl ⟨lR, lE, trivial⟩ ⟨lB ⟨lR, rfl⟩, trivial⟩ ⟨lO, trivial⟩)) ?_
  refine L_range hI seat [1000009] (by kernel_rfl) (ys := ys_5) (kY := fun y_6 => [.int .i64 y_6.1, sl_int false y_6.2]) ((i_seal_book_shifts N r_4.1 ys_5 hyys_5)) rfl h (fun q => match q with | l_14 => ([(1, ⟨71, [.osl 3], true⟩)], [(3, ⟨40, 2, [.ls api_Span d_api_Span l_14 e_api_Span], false, true⟩)])) (fun q => nomatch q) (fun q => nomatch q) rfl (fun _ => ⟨rfl, rfl⟩) 3 rfl (by subst_vars; exact ⟨lB ⟨lR, rfl⟩, trivial⟩) (by subst_vars; exact ⟨lO, trivial⟩) (by intro q; rcases q with ⟨⟩ <;> (intro e; exact Exit.noConfusion e)) (by intro q; rcases q with ⟨⟩ <;> (intro _ e; exact Exit.noConfusion e)) (by intro q; rcases q with ⟨⟩ <;> (intro e; exact Exit.noConfusion e)) ?_ ?_ ?_; all_goals clear h
  ·intro y_6 l_14 x h l I hI R hR hX
   rw [m_seal_Cord_L1] at h
   (conv => cbv)
   refine L_tst hI h (by subst_vars; rfl) ?_ ?_ <;> clear h <;> intro h
   ·exact hR _ _ (Option.some.inj h).symm (by subst_vars; exact ⟨lB ⟨lR, rfl⟩, trivial⟩) (by subst_vars; exact ⟨lO, trivial⟩)
   ·replace h := letO_of h; obtain ⟨k_22, hek_22, h⟩ := h
    refine L_cut hI seat [] (by kernel_rfl) h (fun q => match q with | v_21 => .normal) (fun q => match q with | v_21 => ⟨56, [(6, .loc 1 0), (9, .int .i64 y_6.1), (11, .int .i64 k_22), (23, .bfn 79 [.agg [sl_api_SealKind false r_4.1.SealStatute.Kinds, .int .i64 r_4.1.SealStatute.Grace, .int .i64 r_4.1.SealStatute.Fine, sl_int false r_4.1.SealStatute.Off, sl_api_SealRow false r_4.1.rows, .int .i64 r_4.1.size]]), (43, .bool v_21)], [(1, ⟨71, [.osl 3], true⟩)], [(3, ⟨40, 2, [.ls api_Span d_api_Span l_14 e_api_Span], false, true⟩)], 3⟩) ?_ ?_; all_goals clear h
    ·intro x h R hR
     (conv => cbv)
     refine L_tst hI h (by subst_vars; rfl) ?_ ?_ <;> clear h <;> intro h
     ·refine L_conj hI h (fun g => by subst_vars; exact g) ?_; clear h; intro hc h
      refine L_get hI h (fun g => by subst_vars; exact g) ?_; clear h; intro hc x_23 hxx_23 h
      exact hR _ _ (Option.some.inj h).symm (by subst_vars; exact weak_l rfl rfl ⟨lR, lE, lE, lE, lE, trivial⟩ ⟨lB ⟨lR, rfl⟩, trivial⟩ ⟨lO, trivial⟩)
     ·exact hR _ _ (Option.some.inj h).symm (by subst_vars; exact weak_l rfl rfl ⟨lR, lE, lE, lE, lE, trivial⟩ ⟨lB ⟨lR, rfl⟩, trivial⟩ ⟨lO, trivial⟩)
    ·intro v_21 h
     (conv => cbv)
     refine L_tst hI h (by subst_vars; rfl) ?_ ?_ <;> clear h <;> intro h
     ·refine L_conj hI h (fun g => by subst_vars; exact g) ?_; clear h; intro hc h
      refine L_conj hI h (fun g => by subst_vars; exact g) ?_; clear h; intro hc h
      replace h := letO_of h; obtain ⟨l_24, hel_24, h⟩ := h
      refine K_setl2 hI l_14 (api_Span.mk ((l_14.getD k_22.toNat d_api_Span).Low) y_6.1) l_24 hel_24 (by subst_vars; first | rfl | (simp only [rowsD, KP.rows, KV.toDLL, List.map_append, List.map_cons, List.map_nil, List.append_nil, List.nil_append, List.append_assoc, List.singleton_append, List.cons_append, List.map_replicate]; rfl) | (simp only [primK, rowsD, KP.rows, KV.toDLL, List.map_append, List.map_cons, List.map_nil, List.append_nil, List.map_replicate]; rfl)) hc (by subst_vars; rfl) (by subst_vars; rfl) ?_; (conv => cbv)
      exact hR _ _ (Option.some.inj h).symm (by subst_vars; exact ⟨lB ⟨lR, rfl⟩, trivial⟩) (by subst_vars; exact ⟨lO, trivial⟩)
     ·refine L_conj hI h (fun g => by subst_vars; exact g) ?_; clear h; intro hc h
      exact hR _ _ (Option.some.inj h).symm (by subst_vars; exact ⟨lB ⟨lR, rfl⟩, trivial⟩) (by subst_vars; exact ⟨lO, trivial⟩)
  ·intro l_14 h
   (conv => cbv)
   cases h
   subst_vars
   exact ⟨(LV_tup ⟨LV_sl, lE, rfl⟩), rfl⟩
  ·intro q h
   rcases q with ⟨⟩
theorem w_cmp_isNaN_int (N : Nat) (x_1 : Int) (o : Bool) (h : m_cmp_isNaN_int N x_1 = some o) :
  KC Try.prog 112 [.int .i64 x_1] (.bool o) [] := by
 unfold m_cmp_isNaN_int at h
 refine con_l [] [] seat Try.func112 rfl ent_112 (by kernel_rfl) rfl rfl (by simp) ?_; intro base I hI; (conv => cbv)
 cases h
 subst_vars
 exact ⟨lE, rfl⟩
theorem w_cmp_Compare_int (N : Nat) (x_1 : Int) (y_2 : Int) (o : Int) (h : m_cmp_Compare_int N x_1 y_2 = some o) :
  KC Try.prog 104 [.int .i64 x_1, .int .i64 y_2] (.int .i64 o) [] := by
 unfold m_cmp_Compare_int at h
 refine con_l [] [] seat Try.func104 rfl ent_104 (by kernel_rfl) rfl rfl (by simp) ?_; intro base I hI; (conv => cbv)
 refine L_call hI h (fun v hv => w_cmp_isNaN_int N x_1 v hv) (by subst_vars; exact ⟨(leD_refl _), rfl⟩) ?_; clear h; intro r_3 h; (conv => cbv)
 refine L_call hI h (fun v hv => w_cmp_isNaN_int N y_2 v hv) (by subst_vars; exact ⟨(leD_refl _), rfl⟩) ?_; clear h; intro r_4 h; (conv => cbv)
 refine L_tst hI h (by subst_vars; rfl) ?_ ?_ <;> clear h <;> intro h
 ·refine L_tst hI h (by subst_vars; rfl) ?_ ?_ <;> clear h <;> intro h
  ·cases h
   subst_vars
   exact ⟨lE, rfl⟩
  ·cases h
   subst_vars
   exact ⟨lE, rfl⟩
 ·refine L_tst hI h (by subst_vars; rfl) ?_ ?_ <;> clear h <;> intro h
  ·cases h
   subst_vars
   exact ⟨lE, rfl⟩
  ·refine L_tst hI h (by subst_vars; rfl) ?_ ?_ <;> clear h <;> intro h
   ·cases h
    subst_vars
    exact ⟨lE, rfl⟩
   ·refine L_tst hI h (by subst_vars; rfl) ?_ ?_ <;> clear h <;> intro h
    ·cases h
     subst_vars
     exact ⟨lE, rfl⟩
    ·cases h
     subst_vars
     exact ⟨lE, rfl⟩
theorem w_slices_Compare_Lint_int (N : Nat) (s1_1 : (List Int)) (s2_2 : (List Int)) (o : Int) (h : m_slices_Compare_Lint_int N s1_1 s2_2 = some o) :
  KC Try.prog 80 [sl_int false s1_1, sl_int false s2_2] (.int .i64 o) [] := by
 unfold m_slices_Compare_Lint_int at h
 refine con_l [] [] seat Try.func80 rfl ent_80 (by kernel_rfl) rfl rfl (by simp) ?_; intro base I hI; (conv => cbv)
 replace h := letO_of h; obtain ⟨v_3, hev_3, h⟩ := h
 refine L_loop hI seat [] (by kernel_rfl) h (fun q => match q with | v_7 => ⟨36, [(0, sl_int false s1_1), (1, sl_int false s2_2), (9, sl_int false s1_1), (10, .int .i64 v_3), (11, .int .i64 v_7)], [], [], 0⟩) (fun q => match q with | (.inl v_11) => .ret | (.inr ()) => .exit 0) (fun q => match q with | (.inl v_11) => ⟨36, [(4, .int .i64 v_11)], [], [], 0⟩ | (.inr ()) => ⟨36, [(0, sl_int false s1_1), (1, sl_int false s2_2)], [], [], 0⟩) (by subst_vars; exact weak_l rfl rfl ⟨LV_sl, LV_sl, LV_sl, lE, lE, trivial⟩ trivial trivial) (by intro q; rcases q with (v_11 | _) <;> (intro e; exact Exit.noConfusion e)) ?_ ?_; all_goals clear h
 ·intro v_7 x h R hR hX
  rw [m_slices_Compare_Lint_int_L1] at h
  (conv => cbv)
  refine L_tst hI h (by subst_vars; rfl) ?_ ?_ <;> clear h <;> intro h
  ·refine L_get hI h (fun g => by subst_vars; exact g) ?_; clear h; intro hc x_12 hxx_12 h
   refine L_tst hI h (by subst_vars; rfl) ?_ ?_ <;> clear h <;> intro h
   ·exact hX _ _ (Option.some.inj h).symm (by subst_vars; exact weak_l rfl rfl ⟨lE, trivial⟩ trivial trivial)
   ·refine L_get hI h (fun g => by subst_vars; exact g) ?_; clear h; intro hc x_13 hxx_13 h
    refine L_call hI h (fun v hv => w_cmp_Compare_int N x_12 x_13 v hv) (by subst_vars; exact ⟨(leD_refl _), (leD_refl _), rfl⟩) ?_; clear h; intro r_14 h; (conv => cbv)
    refine L_tst hI h (by subst_vars; rfl) ?_ ?_ <;> clear h <;> intro h
    ·exact hX _ _ (Option.some.inj h).symm (by subst_vars; exact weak_l rfl rfl ⟨lE, trivial⟩ trivial trivial)
    ·exact hR _ _ (Option.some.inj h).symm (by subst_vars; exact weak_l rfl rfl ⟨LV_sl, LV_sl, LV_sl, lE, lE, trivial⟩ trivial trivial)
  ·exact hX _ _ (Option.some.inj h).symm (by subst_vars; exact weak_l rfl rfl ⟨LV_sl, LV_sl, trivial⟩ trivial trivial)
 ·intro q h
  rcases q with (v_11 | _)
  ·(conv => cbv)
   cases h
   subst_vars
   exact ⟨lE, rfl⟩
  ·(conv => cbv)
   refine L_tst hI h (by subst_vars; rfl) ?_ ?_ <;> clear h <;> intro h
   ·cases h
    subst_vars
    exact ⟨lE, rfl⟩
   ·cases h
    subst_vars
    exact ⟨lE, rfl⟩
theorem w_seal_Wrong (N : Nat) (s_1 : api_SealStatute) (rows_2 : (List api_SealRow)) (size_3 : Int) (o : (List Int) × Int × Int) (h : m_seal_Wrong N s_1 rows_2 size_3 = some o) :
  KC Try.prog 42 [.agg [sl_api_SealKind false s_1.Kinds, .int .i64 s_1.Grace, .int .i64 s_1.Fine, sl_int false s_1.Off], sl_api_SealRow false rows_2, .int .i64 size_3] (.tup [sl_int false o.1, .int .i64 o.2.1, .int .i64 o.2.2]) [] := by
 unfold m_seal_Wrong at h
 refine con_l [] [1000008, 1000012, 7000000] seat Try.func42 rfl ent_42 (by kernel_rfl) rfl rfl (by simp) ?_; intro base I hI; (conv => cbv)
 refine L_call hI h (fun v hv => w_seal_newBook N s_1 rows_2 size_3 v hv) (by subst_vars; exact ⟨(leD_refl _), (leD_refl _), (leD_refl _), rfl⟩) ?_; clear h; intro r_4 h; (conv => cbv)
 refine L_tst hI h (by subst_vars; rfl) ?_ ?_ <;> clear h <;> intro h
 ·cases h
  subst_vars
  exact ⟨(LV_tup ⟨LV_nil, lE, lE, rfl⟩), rfl⟩
 ·replace h := bind_of h; obtain ⟨ys_5, hyys_5, h⟩ := h
  refine W_weak hI (S' := ⟨55, [(6, .loc 1 0), (7, .loc 2 0), (10, .loc 4 0), (24, .bfn 79 [.agg [sl_api_SealKind false r_4.1.SealStatute.Kinds, .int .i64 r_4.1.SealStatute.Grace, .int .i64 r_4.1.SealStatute.Fine, sl_int false r_4.1.SealStatute.Off, sl_api_SealRow false r_4.1.rows, .int .i64 r_4.1.size]])], [(4, ⟨4, [.bool false], true⟩), (2, ⟨3, [.int .i64 0], true⟩), (1, ⟨23, [sl_int false []], true⟩)], [], 0⟩) (by subst_vars; exact weak_l rfl rfl ⟨lR, lR, lR, lE, trivial⟩ ⟨lB ⟨lE, rfl⟩, lB ⟨lE, rfl⟩, lB ⟨LV_nil, rfl⟩, trivial⟩ trivial) ?_
  refine L_range hI seat [1000008, 1000012, 7000000] (by kernel_rfl) (ys := ys_5) (kY := fun y_6 => [.int .i64 y_6.1, sl_int false y_6.2]) ((i_seal_book_shifts N r_4.1 ys_5 hyys_5)) rfl h (fun q => match q with | (found_7, shift_8, wrong_9) => ([(4, ⟨4, [.bool found_7], true⟩), (2, ⟨3, [.int .i64 shift_8], true⟩), (1, ⟨23, [sl_int false wrong_9], true⟩)], [])) (fun q => nomatch q) (fun q => nomatch q) rfl (fun _ => ⟨rfl, rfl⟩) 5 rfl (by subst_vars; exact ⟨lB ⟨lE, rfl⟩, lB ⟨lE, rfl⟩, lB ⟨LV_sl, rfl⟩, trivial⟩) (by subst_vars; exact trivial) (by intro q; rcases q with ⟨⟩ <;> (intro e; exact Exit.noConfusion e)) (by intro q; rcases q with ⟨⟩ <;> (intro _ e; exact Exit.noConfusion e)) (by intro q; rcases q with ⟨⟩ <;> (intro e; exact Exit.noConfusion e)) ?_ ?_ ?_; all_goals clear h
  ·intro y_6 q x h l I hI R hR hX
   obtain ⟨found_7, shift_8, wrong_9⟩ := q
   rw [m_seal_Wrong_L1] at h
   (conv => cbv)
   refine L_cut hI seat [1000012, 7000000] (by kernel_rfl) h (fun q => match q with | v_14 => .normal) (fun q => match q with | v_14 => ⟨55, [(6, .loc 1 0), (7, .loc 2 0), (10, .loc 4 0), (11, .int .i64 y_6.1), (12, sl_int false y_6.2), (24, .bfn 79 [.agg [sl_api_SealKind false r_4.1.SealStatute.Kinds, .int .i64 r_4.1.SealStatute.Grace, .int .i64 r_4.1.SealStatute.Fine, sl_int false r_4.1.SealStatute.Off, sl_api_SealRow false r_4.1.rows, .int .i64 r_4.1.size]]), (47, .bool v_14)], [(4, ⟨4, [.bool found_7], true⟩), (2, ⟨3, [.int .i64 shift_8], true⟩), (1, ⟨23, [sl_int false wrong_9], true⟩)], [], 5⟩) ?_ ?_; all_goals clear h
   ·intro x h R hR
    (conv => cbv)
    refine L_tst hI h (by subst_vars; rfl) ?_ ?_ <;> clear h <;> intro h
    ·refine L_tst hI h (by subst_vars; rfl) ?_ ?_ <;> clear h <;> intro h
     ·exact hR _ _ (Option.some.inj h).symm (by subst_vars; exact weak_l rfl rfl ⟨lR, lR, lR, lE, LV_sl, lE, lE, trivial⟩ ⟨lB ⟨lE, rfl⟩, lB ⟨lE, rfl⟩, lB ⟨LV_sl, rfl⟩, trivial⟩ trivial)
     ·refine L_tst hI h (by subst_vars; rfl) ?_ ?_ <;> clear h <;> intro h
      ·refine L_call hI h (fun v hv => w_slices_Compare_Lint_int N y_6.2 wrong_9 v hv) (by subst_vars; exact ⟨(leD_refl _), (leD_refl _), rfl⟩) ?_; clear h; intro r_15 h; (conv => cbv)
       exact hR _ _ (Option.some.inj h).symm (by subst_vars; exact weak_l rfl rfl ⟨lR, lR, lR, lE, LV_sl, lE, lE, trivial⟩ ⟨lB ⟨lE, rfl⟩, lB ⟨lE, rfl⟩, lB ⟨LV_sl, rfl⟩, trivial⟩ trivial)
      ·exact hR _ _ (Option.some.inj h).symm (by subst_vars; exact weak_l rfl rfl ⟨lR, lR, lR, lE, LV_sl, lE, lE, trivial⟩ ⟨lB ⟨lE, rfl⟩, lB ⟨lE, rfl⟩, lB ⟨LV_sl, rfl⟩, trivial⟩ trivial)
    ·exact hR _ _ (Option.some.inj h).symm (by subst_vars; exact weak_l rfl rfl ⟨lR, lR, lR, lE, LV_sl, lE, lE, trivial⟩ ⟨lB ⟨lE, rfl⟩, lB ⟨lE, rfl⟩, lB ⟨LV_sl, rfl⟩, trivial⟩ trivial)
   ·intro v_14 h
    (conv => cbv)
    refine L_tst hI h (by subst_vars; rfl) ?_ ?_ <;> clear h <;> intro h
    ·exact hR _ _ (Option.some.inj h).symm (by subst_vars; exact ⟨lB ⟨lE, rfl⟩, lB ⟨lE, rfl⟩, lB ⟨LV_sl, rfl⟩, trivial⟩) (by subst_vars; exact trivial)
    ·exact hR _ _ (Option.some.inj h).symm (by subst_vars; exact ⟨lB ⟨lE, rfl⟩, lB ⟨lE, rfl⟩, lB ⟨LV_sl, rfl⟩, trivial⟩) (by subst_vars; exact trivial)
  ·intro q h
   obtain ⟨found_7, shift_8, wrong_9⟩ := q
   (conv => cbv)
   refine L_tst hI h (by subst_vars; rfl) ?_ ?_ <;> clear h <;> intro h
   ·cases h
    subst_vars
    exact ⟨(LV_tup ⟨LV_nil, lE, lE, rfl⟩), rfl⟩
   ·refine L_cut hI seat [1000008, 7000000] (by kernel_rfl) h (fun q => match q with | () => .normal) (fun q => match q with | () => ⟨55, [(6, .loc 1 0), (7, .loc 2 0), (8, .lit .i64 0)], [(2, ⟨3, [.int .i64 shift_8], true⟩), (1, ⟨23, [sl_int false wrong_9], true⟩)], [], 0⟩) ?_ ?_; all_goals clear h
    ·intro x h R hR
     (conv => cbv)
     repeat' (first | (refine K_conj hI (show I.rnone from by rw [hI]; rfl) ?_; (conv => cbv)) | (exact hR _ _ (Option.some.inj h).symm (by subst_vars; exact weak_l rfl rfl ⟨lR, lR, lE, trivial⟩ ⟨lB ⟨lE, rfl⟩, lB ⟨LV_sl, rfl⟩, trivial⟩ trivial)) | (refine K_conj hI ?_ ?_))
    ·intro q h
     (conv => cbv)
     cases h
     subst_vars
     exact ⟨(LV_tup ⟨LV_sl, lE, lE, rfl⟩), rfl⟩
  ·intro q h
   rcases q with ⟨⟩
theorem w_ref07_Ints (N : Nat) (a_1 : (List Int)) (b_2 : (List Int)) (o : Bool) (h : m_ref07_Ints N a_1 b_2 = some o) :
  KC Try.prog 22 [sl_int false a_1, sl_int false b_2] (.bool o) [] := by
 unfold m_ref07_Ints at h
 refine con_l [] [] seat Try.func22 rfl ent_22 (by kernel_rfl) rfl rfl (by simp) ?_; intro base I hI; (conv => cbv)
 refine L_tst hI h (by subst_vars; rfl) ?_ ?_ <;> clear h <;> intro h
 ·cases h
  subst_vars
  exact ⟨lE, rfl⟩
 ·refine L_loop hI seat [] (by kernel_rfl) h (fun q => match q with | i_5 => ⟨26, [(0, sl_int false a_1), (1, sl_int false b_2), (5, .int .i64 i_5)], [], [], 0⟩) (fun q => match q with | (.inl ()) => .ret | (.inr ()) => .exit 0) (fun q => match q with | (.inl ()) => ⟨26, [(4, .ff)], [], [], 0⟩ | (.inr ()) => ⟨26, [], [], [], 0⟩) (by subst_vars; exact weak_l rfl rfl ⟨LV_sl, LV_sl, lE, trivial⟩ trivial trivial) (by intro q; rcases q with (_ | _) <;> (intro e; exact Exit.noConfusion e)) ?_ ?_; all_goals clear h
  ·intro i_5 x h R hR hX
   rw [m_ref07_Ints_L1] at h
   (conv => cbv)
   refine L_tst hI h (by subst_vars; rfl) ?_ ?_ <;> clear h <;> intro h
   ·refine L_get hI h (fun g => by subst_vars; exact g) ?_; clear h; intro hc x_8 hxx_8 h
    refine L_get hI h (fun g => by subst_vars; exact g) ?_; clear h; intro hc x_9 hxx_9 h
    refine L_tst hI h (by subst_vars; rfl) ?_ ?_ <;> clear h <;> intro h
    ·exact hX _ _ (Option.some.inj h).symm (by subst_vars; exact weak_l rfl rfl ⟨lE, trivial⟩ trivial trivial)
    ·exact hR _ _ (Option.some.inj h).symm (by subst_vars; exact weak_l rfl rfl ⟨LV_sl, LV_sl, lE, trivial⟩ trivial trivial)
   ·exact hX _ _ (Option.some.inj h).symm (by subst_vars; exact weak_l rfl rfl trivial trivial trivial)
  ·intro q h
   rcases q with (_ | _)
   ·(conv => cbv)
    cases h
    subst_vars
    exact ⟨lE, rfl⟩
   ·(conv => cbv)
    cases h
    subst_vars
    exact ⟨lE, rfl⟩
theorem w_ref07_Spans (N : Nat) (a_1 : (List api_Span)) (b_2 : (List api_Span)) (o : Bool) (h : m_ref07_Spans N a_1 b_2 = some o) :
  KC Try.prog 45 [sl_api_Span false a_1, sl_api_Span false b_2] (.bool o) [] := by
 unfold m_ref07_Spans at h
 refine con_l [] [] seat Try.func45 rfl ent_45 (by kernel_rfl) rfl rfl (by simp) ?_; intro base I hI; (conv => cbv)
 refine L_tst hI h (by subst_vars; rfl) ?_ ?_ <;> clear h <;> intro h
 ·cases h
  subst_vars
  exact ⟨lE, rfl⟩
 ·refine L_loop hI seat [] (by kernel_rfl) h (fun q => match q with | i_5 => ⟨26, [(0, sl_api_Span false a_1), (1, sl_api_Span false b_2), (5, .int .i64 i_5)], [], [], 0⟩) (fun q => match q with | (.inl ()) => .ret | (.inr ()) => .exit 0) (fun q => match q with | (.inl ()) => ⟨26, [(4, .ff)], [], [], 0⟩ | (.inr ()) => ⟨26, [], [], [], 0⟩) (by subst_vars; exact weak_l rfl rfl ⟨LV_sl, LV_sl, lE, trivial⟩ trivial trivial) (by intro q; rcases q with (_ | _) <;> (intro e; exact Exit.noConfusion e)) ?_ ?_; all_goals clear h
  ·intro i_5 x h R hR hX
   rw [m_ref07_Spans_L1] at h
   (conv => cbv)
   refine L_tst hI h (by subst_vars; rfl) ?_ ?_ <;> clear h <;> intro h
   ·refine L_get hI h (fun g => by subst_vars; exact g) ?_; clear h; intro hc x_8 hxx_8 h
    refine L_get hI h (fun g => by subst_vars; exact g) ?_; clear h; intro hc x_9 hxx_9 h
    refine L_tst hI h (by subst_vars; rfl) ?_ ?_ <;> clear h <;> intro h
    ·exact hX _ _ (Option.some.inj h).symm (by subst_vars; exact weak_l rfl rfl ⟨lE, trivial⟩ trivial trivial)
    ·exact hR _ _ (Option.some.inj h).symm (by subst_vars; exact weak_l rfl rfl ⟨LV_sl, LV_sl, lE, trivial⟩ trivial trivial)
   ·exact hX _ _ (Option.some.inj h).symm (by subst_vars; exact weak_l rfl rfl trivial trivial trivial)
  ·intro q h
   rcases q with (_ | _)
   ·(conv => cbv)
    cases h
    subst_vars
    exact ⟨lE, rfl⟩
   ·(conv => cbv)
    cases h
    subst_vars
    exact ⟨lE, rfl⟩
theorem w_law07_known (N : Nat)  (o : Bool) (h : m_law07_known N  = some o) :
  KC Try.prog 16 [] (.bool o) [] := by
 unfold m_law07_known at h
 refine con_l [] [1000011, 1000013] seat Try.func16 rfl ent_16 (by kernel_rfl) rfl rfl (by simp) ?_; intro base I hI; (conv => cbv)
 refine L_call hI h (fun v hv => w_law07_statute N v hv) (by subst_vars; exact rfl) ?_; clear h; intro r_1 h; (conv => cbv)
 refine L_call hI h (fun v hv => w_seal_Kinds N r_1 [438, 62, 140] v hv) (by subst_vars; exact ⟨(leD_refl _), ⟨.inl rfl, rfl, leDLL_refl _⟩, rfl⟩) ?_; clear h; intro r_2 h; (conv => cbv)
 refine L_call hI h (fun v hv => w_law07_statute N v hv) (by subst_vars; exact rfl) ?_; clear h; intro r_3 h; (conv => cbv)
 refine L_call hI h (fun v hv => w_seal_Fine N r_3 [890, 59, 341] 0 v hv) (by subst_vars; exact ⟨(leD_refl _), ⟨.inl rfl, rfl, leDLL_refl _⟩, (leD_refl _), rfl⟩) ?_; clear h; intro r_4 h; (conv => cbv)
 refine L_call hI h (fun v hv => w_law07_statute N v hv) (by subst_vars; exact rfl) ?_; clear h; intro r_5 h; (conv => cbv)
 refine L_call hI h (fun v hv => w_seal_Best N r_5 [438, 62, 140] v hv) (by subst_vars; exact ⟨(leD_refl _), ⟨.inl rfl, rfl, leDLL_refl _⟩, rfl⟩) ?_; clear h; intro r_6 h; (conv => cbv)
 refine L_call hI h (fun v hv => w_law07_statute N v hv) (by subst_vars; exact rfl) ?_; clear h; intro r_7 h; (conv => cbv)
 refine L_call hI h (fun v hv => w_seal_Look N r_7 [438, 62, 140] v hv) (by subst_vars; exact ⟨(leD_refl _), ⟨.inl rfl, rfl, leDLL_refl _⟩, rfl⟩) ?_; clear h; intro r_8 h; (conv => cbv)
 refine L_call hI h (fun v hv => w_law07_statute N v hv) (by subst_vars; exact rfl) ?_; clear h; intro r_9 h; (conv => cbv)
 refine L_call hI h (fun v hv => w_seal_Alike N r_9 v hv) (by subst_vars; exact ⟨(leD_refl _), rfl⟩) ?_; clear h; intro r_10 h; (conv => cbv)
 refine L_call hI h (fun v hv => w_law07_statute N v hv) (by subst_vars; exact rfl) ?_; clear h; intro r_11 h; (conv => cbv)
 refine L_call hI h (fun v hv => w_seal_Torn N r_11 kstra v hv) (by subst_vars; exact ⟨(leD_refl _), (leD_refl _), rfl⟩) ?_; clear h; intro r_12 h; (conv => cbv)
 refine L_call hI h (fun v hv => w_seal_Forged N [(api_SealStrike.mk 1 5), (api_SealStrike.mk 2 9), (api_SealStrike.mk 3 7), (api_SealStrike.mk 4 8)] v hv) (by subst_vars; exact ⟨⟨.inl rfl, rfl, leDLL_refl _⟩, rfl⟩) ?_; clear h; intro r_13 h; (conv => cbv)
 refine L_call hI h (fun v hv => w_law07_statute N v hv) (by subst_vars; exact rfl) ?_; clear h; intro r_14 h; (conv => cbv)
 refine L_call hI h (fun v hv => w_seal_Cord N r_14 [(api_SealRow.mk 1 385), (api_SealRow.mk 1 420)] 0 v hv) (by subst_vars; exact ⟨(leD_refl _), ⟨.inl rfl, rfl, leDLL_refl _⟩, (leD_refl _), rfl⟩) ?_; clear h; intro r_15 h; (conv => cbv)
 refine L_call hI h (fun v hv => w_law07_statute N v hv) (by subst_vars; exact rfl) ?_; clear h; intro r_16 h; (conv => cbv)
 refine L_conj hI h (fun g => by subst_vars; exact g) ?_; clear h; intro hc h
 refine L_conj hI h (fun g => by subst_vars; exact g) ?_; clear h; intro hc h
 refine L_call hI h (fun v hv => w_seal_Wrong N r_16 [(api_SealRow.mk 1 385), (api_SealRow.mk 1 420), (api_SealRow.mk 1 300)] 0 v hv) (by subst_vars; exact ⟨(leD_refl _), ⟨.inl rfl, rfl, leDLL_refl _⟩, (leD_refl _), rfl⟩) ?_; clear h; intro r_17 h; (conv => cbv)
 refine L_cut hI seat [1000013] (by kernel_rfl) h (fun q => match q with | v_18 => .normal) (fun q => match q with | v_18 => ⟨174, [(1, sl_int false r_2.1), (2, sl_int false r_2.2.1), (4, .loc 0 0), (6, .int .i64 r_6.1), (7, .int .i64 r_6.2.1), (12, sl_api_SealPair false r_10.1), (14, sl_int false r_12.1), (16, sl_int false r_13.1), (19, sl_api_Span false r_15.1), (21, sl_int false r_17.1), (22, .int .i64 r_17.2.1), (122, .bool v_18)], [(0, ⟨40, [.int .i64 r_4.1.Low, .int .i64 r_4.1.High], true⟩)], [], 0⟩) ?_ ?_; all_goals clear h
 ·intro x h R hR
  (conv => cbv)
  refine L_tst hI h (by subst_vars; rfl) ?_ ?_ <;> clear h <;> intro h
  ·exact hR _ _ (Option.some.inj h).symm (by subst_vars; exact weak_l rfl rfl ⟨LV_sl, LV_sl, lR, lE, lE, LV_sl, LV_sl, LV_sl, LV_sl, LV_sl, lE, lE, trivial⟩ ⟨lB ⟨lE, lE, rfl⟩, trivial⟩ trivial)
  ·refine L_tst hI h (by subst_vars; rfl) ?_ ?_ <;> clear h <;> intro h
   ·exact hR _ _ (Option.some.inj h).symm (by subst_vars; exact weak_l rfl rfl ⟨LV_sl, LV_sl, lR, lE, lE, LV_sl, LV_sl, LV_sl, LV_sl, LV_sl, lE, lE, trivial⟩ ⟨lB ⟨lE, lE, rfl⟩, trivial⟩ trivial)
   ·refine L_tst hI h (by subst_vars; rfl) ?_ ?_ <;> clear h <;> intro h
    ·exact hR _ _ (Option.some.inj h).symm (by subst_vars; exact weak_l rfl rfl ⟨LV_sl, LV_sl, lR, lE, lE, LV_sl, LV_sl, LV_sl, LV_sl, LV_sl, lE, lE, trivial⟩ ⟨lB ⟨lE, lE, rfl⟩, trivial⟩ trivial)
    ·refine L_tst hI h (by subst_vars; rfl) ?_ ?_ <;> clear h <;> intro h
     ·exact hR _ _ (Option.some.inj h).symm (by subst_vars; exact weak_l rfl rfl ⟨LV_sl, LV_sl, lR, lE, lE, LV_sl, LV_sl, LV_sl, LV_sl, LV_sl, lE, lE, trivial⟩ ⟨lB ⟨lE, lE, rfl⟩, trivial⟩ trivial)
     ·refine L_tst hI h (by subst_vars; rfl) ?_ ?_ <;> clear h <;> intro h
      ·exact hR _ _ (Option.some.inj h).symm (by subst_vars; exact weak_l rfl rfl ⟨LV_sl, LV_sl, lR, lE, lE, LV_sl, LV_sl, LV_sl, LV_sl, LV_sl, lE, lE, trivial⟩ ⟨lB ⟨lE, lE, rfl⟩, trivial⟩ trivial)
      ·refine L_tst hI h (by subst_vars; rfl) ?_ ?_ <;> clear h <;> intro h
       ·exact hR _ _ (Option.some.inj h).symm (by subst_vars; exact weak_l rfl rfl ⟨LV_sl, LV_sl, lR, lE, lE, LV_sl, LV_sl, LV_sl, LV_sl, LV_sl, lE, lE, trivial⟩ ⟨lB ⟨lE, lE, rfl⟩, trivial⟩ trivial)
       ·refine L_tst hI h (by subst_vars; rfl) ?_ ?_ <;> clear h <;> intro h
        ·exact hR _ _ (Option.some.inj h).symm (by subst_vars; exact weak_l rfl rfl ⟨LV_sl, LV_sl, lR, lE, lE, LV_sl, LV_sl, LV_sl, LV_sl, LV_sl, lE, lE, trivial⟩ ⟨lB ⟨lE, lE, rfl⟩, trivial⟩ trivial)
        ·refine L_tst hI h (by subst_vars; rfl) ?_ ?_ <;> clear h <;> intro h
         ·exact hR _ _ (Option.some.inj h).symm (by subst_vars; exact weak_l rfl rfl ⟨LV_sl, LV_sl, lR, lE, lE, LV_sl, LV_sl, LV_sl, LV_sl, LV_sl, lE, lE, trivial⟩ ⟨lB ⟨lE, lE, rfl⟩, trivial⟩ trivial)
         ·exact hR _ _ (Option.some.inj h).symm (by subst_vars; exact weak_l rfl rfl ⟨LV_sl, LV_sl, lR, lE, lE, LV_sl, LV_sl, LV_sl, LV_sl, LV_sl, lE, lE, trivial⟩ ⟨lB ⟨lE, lE, rfl⟩, trivial⟩ trivial)
 ·intro v_18 h
  (conv => cbv)
  refine L_tst hI h (by subst_vars; rfl) ?_ ?_ <;> clear h <;> intro h
  ·cases h
   subst_vars
   exact ⟨lE, rfl⟩
  ·refine L_cut hI seat [1000011] (by kernel_rfl) h (fun q => match q with | v_26 => .normal) (fun q => match q with | v_26 => ⟨174, [(0, .bool v_26)], [], [], 0⟩) ?_ ?_; all_goals clear h
   ·intro x h R hR
    (conv => cbv)
    refine L_tst hI h (by subst_vars; rfl) ?_ ?_ <;> clear h <;> intro h
    ·refine L_call hI h (fun v hv => w_ref07_Ints N r_2.2.1 [1] v hv) (by subst_vars; exact ⟨(leD_refl _), ⟨.inl rfl, rfl, leDLL_refl _⟩, rfl⟩) ?_; clear h; intro r_27 h; (conv => cbv)
     refine L_tst hI h (by subst_vars; rfl) ?_ ?_ <;> clear h <;> intro h
     ·refine L_call hI h (fun v hv => w_law07_span N 28 60 v hv) (by subst_vars; exact ⟨(leD_refl _), (leD_refl _), rfl⟩) ?_; clear h; intro r_28 h; (conv => cbv)
      refine L_tst hI h (by subst_vars; rfl) ?_ ?_ <;> clear h <;> intro h
      ·refine L_tst hI h (by subst_vars; rfl) ?_ ?_ <;> clear h <;> intro h
       ·refine L_tst hI h (by subst_vars; rfl) ?_ ?_ <;> clear h <;> intro h
        ·refine L_tst hI h (by subst_vars; rfl) ?_ ?_ <;> clear h <;> intro h
         ·refine L_call hI h (fun v hv => w_ref07_Ints N r_12.1 [1] v hv) (by subst_vars; exact ⟨(leD_refl _), ⟨.inl rfl, rfl, leDLL_refl _⟩, rfl⟩) ?_; clear h; intro r_29 h; (conv => cbv)
          refine L_tst hI h (by subst_vars; rfl) ?_ ?_ <;> clear h <;> intro h
          ·refine L_call hI h (fun v hv => w_ref07_Ints N r_13.1 [1] v hv) (by subst_vars; exact ⟨(leD_refl _), ⟨.inl rfl, rfl, leDLL_refl _⟩, rfl⟩) ?_; clear h; intro r_30 h; (conv => cbv)
           refine L_tst hI h (by subst_vars; rfl) ?_ ?_ <;> clear h <;> intro h
           ·refine L_call hI h (fun v hv => w_law07_span N 12 23 v hv) (by subst_vars; exact ⟨(leD_refl _), (leD_refl _), rfl⟩) ?_; clear h; intro r_31 h; (conv => cbv)
            refine L_call hI h (fun v hv => w_ref07_Spans N r_15.1 [r_31] v hv) (by subst_vars; exact ⟨(leD_refl _), ⟨.inl rfl, rfl, leDLL_refl _⟩, rfl⟩) ?_; clear h; intro r_32 h; (conv => cbv)
            refine L_tst hI h (by subst_vars; rfl) ?_ ?_ <;> clear h <;> intro h
            ·refine L_call hI h (fun v hv => w_ref07_Ints N r_17.1 [2] v hv) (by subst_vars; exact ⟨(leD_refl _), ⟨.inl rfl, rfl, leDLL_refl _⟩, rfl⟩) ?_; clear h; intro r_33 h; (conv => cbv)
             refine L_tst hI h (by subst_vars; rfl) ?_ ?_ <;> clear h <;> intro h
             ·exact hR _ _ (Option.some.inj h).symm (by subst_vars; exact weak_l rfl rfl ⟨lE, trivial⟩ trivial trivial)
             ·exact hR _ _ (Option.some.inj h).symm (by subst_vars; exact weak_l rfl rfl ⟨lE, trivial⟩ trivial trivial)
            ·exact hR _ _ (Option.some.inj h).symm (by subst_vars; exact weak_l rfl rfl ⟨lE, trivial⟩ trivial trivial)
           ·exact hR _ _ (Option.some.inj h).symm (by subst_vars; exact weak_l rfl rfl ⟨lE, trivial⟩ trivial trivial)
          ·exact hR _ _ (Option.some.inj h).symm (by subst_vars; exact weak_l rfl rfl ⟨lE, trivial⟩ trivial trivial)
         ·exact hR _ _ (Option.some.inj h).symm (by subst_vars; exact weak_l rfl rfl ⟨lE, trivial⟩ trivial trivial)
        ·exact hR _ _ (Option.some.inj h).symm (by subst_vars; exact weak_l rfl rfl ⟨lE, trivial⟩ trivial trivial)
       ·exact hR _ _ (Option.some.inj h).symm (by subst_vars; exact weak_l rfl rfl ⟨lE, trivial⟩ trivial trivial)
      ·exact hR _ _ (Option.some.inj h).symm (by subst_vars; exact weak_l rfl rfl ⟨lE, trivial⟩ trivial trivial)
     ·exact hR _ _ (Option.some.inj h).symm (by subst_vars; exact weak_l rfl rfl ⟨lE, trivial⟩ trivial trivial)
    ·exact hR _ _ (Option.some.inj h).symm (by subst_vars; exact weak_l rfl rfl ⟨lE, trivial⟩ trivial trivial)
   ·intro v_26 h
    (conv => cbv)
    cases h
    subst_vars
    exact ⟨lE, rfl⟩
theorem w_ref07_Copy (N : Nat) (s_1 : api_SealStatute) (o : api_SealStatute) (h : m_ref07_Copy N s_1 = some o) :
  KC Try.prog 17 [.agg [sl_api_SealKind false s_1.Kinds, .int .i64 s_1.Grace, .int .i64 s_1.Fine, sl_int false s_1.Off]] (.agg [sl_api_SealKind false o.Kinds, .int .i64 o.Grace, .int .i64 o.Fine, sl_int false o.Off]) [] := by
 unfold m_ref07_Copy at h
 refine con_l [] [] seat Try.func17 rfl ent_17 (by kernel_rfl) rfl rfl (by simp) ?_; intro base I hI; (conv => cbv)
 refine L_conj hI h (fun g => by subst_vars; exact g) ?_; clear h; intro hc h
 refine L_loop hI seat [] (by kernel_rfl) h (fun q => match q with | (i_4, l_5) => ⟨42, [(1, .loc 0 0), (2, .loc 1 0), (3, .loc 2 0), (4, .int .i64 i_4)], [(2, ⟨25, [.osl 3, .int .i64 s_1.Grace, .int .i64 s_1.Fine, sl_int false s_1.Off], true⟩), (1, ⟨25, [.nilsl, .lit .i64 0, .lit .i64 0, .nilsl], true⟩), (0, ⟨25, [sl_api_SealKind false s_1.Kinds, .int .i64 s_1.Grace, .int .i64 s_1.Fine, sl_int false s_1.Off], true⟩)], [(3, ⟨106, 2, [.ls api_SealKind d_api_SealKind l_5 e_api_SealKind], false, true⟩)], 0⟩) (fun q => match q with | l_8 => .exit 0) (fun q => match q with | l_8 => ⟨42, [(2, .loc 1 0), (3, .loc 2 0)], [(2, ⟨25, [.osl 3, .int .i64 s_1.Grace, .int .i64 s_1.Fine, sl_int false s_1.Off], true⟩), (1, ⟨25, [.nilsl, .lit .i64 0, .lit .i64 0, .nilsl], true⟩)], [(3, ⟨106, 2, [.ls api_SealKind d_api_SealKind l_8 e_api_SealKind], false, true⟩)], 0⟩) (by subst_vars; exact (weak_nilH 2 0 3 106 2 ⟨25, [.nilsl, .int .i64 s_1.Grace, .int .i64 s_1.Fine, sl_int false s_1.Off], true⟩ rfl rfl rfl rfl).trans (weak_l rfl rfl ⟨lR, lR, lR, lE, trivial⟩ ⟨lB ⟨lR, lE, lE, LV_sl, rfl⟩, lB ⟨lR, lE, lE, lR, rfl⟩, lB ⟨LV_sl, lE, lE, LV_sl, rfl⟩, trivial⟩ ⟨lO, trivial⟩)) (by intro q; rcases q with l_8 <;> (intro e; exact Exit.noConfusion e)) ?_ ?_; all_goals clear h
 ·intro q x h R hR hX
  obtain ⟨i_4, l_5⟩ := q
  rw [m_ref07_Copy_L1] at h
  (conv => cbv)
  refine L_tst hI h (by subst_vars; rfl) ?_ ?_ <;> clear h <;> intro h
  ·refine L_get hI h (fun g => by subst_vars; exact g) ?_; clear h; intro hc x_9 hxx_9 h
   refine L_conj hI h (fun g => by subst_vars; exact g) ?_; clear h; intro hc h
   refine L_get hI h (fun g => by subst_vars; exact g) ?_; clear h; intro hc x_10 hxx_10 h
   refine L_conj hI h (fun g => by subst_vars; exact g) ?_; clear h; intro hc h
   exact hR _ _ (Option.some.inj h).symm (by subst_vars; exact weak_l rfl rfl ⟨lR, lR, lR, lE, trivial⟩ ⟨lB ⟨lR, lE, lE, LV_sl, rfl⟩, lB ⟨lR, lE, lE, lR, rfl⟩, lB ⟨LV_sl, lE, lE, LV_sl, rfl⟩, trivial⟩ ⟨lO, trivial⟩)
  ·exact hX _ _ (Option.some.inj h).symm (by subst_vars; exact weak_l rfl rfl ⟨lR, lR, trivial⟩ ⟨lB ⟨lR, lE, lE, LV_sl, rfl⟩, lB ⟨lR, lE, lE, lR, rfl⟩, trivial⟩ ⟨lO, trivial⟩)
 ·intro l_8 h
  (conv => cbv)
  cases h
  subst_vars
  exact ⟨(LV_agg ⟨LV_sl, lE, lE, LV_sl, rfl⟩), rfl⟩
theorem w_law07_own (N : Nat) (l_1 : (List Int)) (o : (List Int)) (h : m_law07_own N l_1 = some o) :
  KC Try.prog 18 [sl_int false l_1] (sl_int false o) [] := by
 unfold m_law07_own at h
 refine con_l [] [] seat Try.func18 rfl ent_18 (by kernel_rfl) rfl rfl (by simp) ?_; intro base I hI; (conv => cbv)
 refine L_conj hI h (fun g => by subst_vars; exact g) ?_; clear h; intro hc h
 cases h
 subst_vars
 exact ⟨LV_sl, rfl⟩
theorem w_ref07_Same (N : Nat) (p_1 : api_SealStatute) (p_2 : api_SealStatute) (o : Bool) (h : m_ref07_Same N p_1 p_2 = some o) :
  KC Try.prog 21 [.agg [sl_api_SealKind false p_1.Kinds, .int .i64 p_1.Grace, .int .i64 p_1.Fine, sl_int false p_1.Off], .agg [sl_api_SealKind false p_2.Kinds, .int .i64 p_2.Grace, .int .i64 p_2.Fine, sl_int false p_2.Off]] (.bool o) [] := by
 unfold m_ref07_Same at h
 refine con_l [] [1000001, 1000006] seat Try.func21 rfl ent_21 (by kernel_rfl) rfl rfl (by simp) ?_; intro base I hI; (conv => cbv)
 refine L_cut hI seat [1000006] (by kernel_rfl) h (fun q => match q with | v_4 => .normal) (fun q => match q with | v_4 => ⟨71, [(2, .loc 0 0), (3, .loc 1 0), (34, .bool v_4)], [(1, ⟨25, [sl_api_SealKind false p_2.Kinds, .int .i64 p_2.Grace, .int .i64 p_2.Fine, sl_int false p_2.Off], true⟩), (0, ⟨25, [sl_api_SealKind false p_1.Kinds, .int .i64 p_1.Grace, .int .i64 p_1.Fine, sl_int false p_1.Off], true⟩)], [], 0⟩) ?_ ?_; all_goals clear h
 ·intro x h R hR
  (conv => cbv)
  refine L_tst hI h (by subst_vars; rfl) ?_ ?_ <;> clear h <;> intro h
  ·exact hR _ _ (Option.some.inj h).symm (by subst_vars; exact weak_l rfl rfl ⟨lR, lR, lE, trivial⟩ ⟨lB ⟨LV_sl, lE, lE, LV_sl, rfl⟩, lB ⟨LV_sl, lE, lE, LV_sl, rfl⟩, trivial⟩ trivial)
  ·refine L_tst hI h (by subst_vars; rfl) ?_ ?_ <;> clear h <;> intro h
   ·exact hR _ _ (Option.some.inj h).symm (by subst_vars; exact weak_l rfl rfl ⟨lR, lR, lE, trivial⟩ ⟨lB ⟨LV_sl, lE, lE, LV_sl, rfl⟩, lB ⟨LV_sl, lE, lE, LV_sl, rfl⟩, trivial⟩ trivial)
   ·refine L_tst hI h (by subst_vars; rfl) ?_ ?_ <;> clear h <;> intro h
    ·exact hR _ _ (Option.some.inj h).symm (by subst_vars; exact weak_l rfl rfl ⟨lR, lR, lE, trivial⟩ ⟨lB ⟨LV_sl, lE, lE, LV_sl, rfl⟩, lB ⟨LV_sl, lE, lE, LV_sl, rfl⟩, trivial⟩ trivial)
    ·refine L_call hI h (fun v hv => w_ref07_Ints N p_1.Off p_2.Off v hv) (by subst_vars; exact ⟨(leD_refl _), (leD_refl _), rfl⟩) ?_; clear h; intro r_5 h; (conv => cbv)
     exact hR _ _ (Option.some.inj h).symm (by subst_vars; exact weak_l rfl rfl ⟨lR, lR, lE, trivial⟩ ⟨lB ⟨LV_sl, lE, lE, LV_sl, rfl⟩, lB ⟨LV_sl, lE, lE, LV_sl, rfl⟩, trivial⟩ trivial)
 ·intro v_4 h
  (conv => cbv)
  refine L_tst hI h (by subst_vars; rfl) ?_ ?_ <;> clear h <;> intro h
  ·cases h
   subst_vars
   exact ⟨lE, rfl⟩
  ·refine L_loop hI seat [1000001, 1000006] (by kernel_rfl) h (fun q => match q with | v_17 => ⟨71, [(2, .loc 0 0), (3, .loc 1 0), (5, .int .i64 v_17)], [(1, ⟨25, [sl_api_SealKind false p_2.Kinds, .int .i64 p_2.Grace, .int .i64 p_2.Fine, sl_int false p_2.Off], true⟩), (0, ⟨25, [sl_api_SealKind false p_1.Kinds, .int .i64 p_1.Grace, .int .i64 p_1.Fine, sl_int false p_1.Off], true⟩)], [], 0⟩) (fun q => match q with | (.inl ()) => .ret | (.inr ()) => .exit 0) (fun q => match q with | (.inl ()) => ⟨71, [(4, .ff)], [], [], 0⟩ | (.inr ()) => ⟨71, [], [], [], 0⟩) (by subst_vars; exact weak_l rfl rfl ⟨lR, lR, lE, trivial⟩ ⟨lB ⟨LV_sl, lE, lE, LV_sl, rfl⟩, lB ⟨LV_sl, lE, lE, LV_sl, rfl⟩, trivial⟩ trivial) (by intro q; rcases q with (_ | _) <;> (intro e; exact Exit.noConfusion e)) ?_ ?_; all_goals clear h
   ·intro v_17 x h R hR hX
    rw [m_ref07_Same_L1] at h
    (conv => cbv)
    refine L_tst hI h (by subst_vars; rfl) ?_ ?_ <;> clear h <;> intro h
    ·refine L_cut hI seat [1000001] (by kernel_rfl) h (fun q => match q with | v_34 => .normal) (fun q => match q with | v_34 => ⟨71, [(2, .loc 0 0), (3, .loc 1 0), (5, .int .i64 v_17), (70, .bool v_34)], [(1, ⟨25, [sl_api_SealKind false p_2.Kinds, .int .i64 p_2.Grace, .int .i64 p_2.Fine, sl_int false p_2.Off], true⟩), (0, ⟨25, [sl_api_SealKind false p_1.Kinds, .int .i64 p_1.Grace, .int .i64 p_1.Fine, sl_int false p_1.Off], true⟩)], [], 0⟩) ?_ ?_; all_goals clear h
     ·intro x h R hR
      (conv => cbv)
      refine L_get hI h (fun g => by subst_vars; exact g) ?_; clear h; intro hc x_35 hxx_35 h
      refine L_get hI h (fun g => by subst_vars; exact g) ?_; clear h; intro hc x_36 hxx_36 h
      refine L_tst hI h (by subst_vars; rfl) ?_ ?_ <;> clear h <;> intro h
      ·exact hR _ _ (Option.some.inj h).symm (by subst_vars; exact weak_l rfl rfl ⟨lR, lR, lE, lE, trivial⟩ ⟨lB ⟨LV_sl, lE, lE, LV_sl, rfl⟩, lB ⟨LV_sl, lE, lE, LV_sl, rfl⟩, trivial⟩ trivial)
      ·refine L_get hI h (fun g => by subst_vars; exact g) ?_; clear h; intro hc x_37 hxx_37 h
       refine L_get hI h (fun g => by subst_vars; exact g) ?_; clear h; intro hc x_38 hxx_38 h
       refine L_call hI h (fun v hv => w_ref07_Spans N x_37.Sizes x_38.Sizes v hv) (by subst_vars; exact ⟨(leD_refl _), (leD_refl _), rfl⟩) ?_; clear h; intro r_39 h; (conv => cbv)
       exact hR _ _ (Option.some.inj h).symm (by subst_vars; exact weak_l rfl rfl ⟨lR, lR, lE, lE, trivial⟩ ⟨lB ⟨LV_sl, lE, lE, LV_sl, rfl⟩, lB ⟨LV_sl, lE, lE, LV_sl, rfl⟩, trivial⟩ trivial)
     ·intro v_34 h
      (conv => cbv)
      refine L_tst hI h (by subst_vars; rfl) ?_ ?_ <;> clear h <;> intro h
      ·exact hX _ _ (Option.some.inj h).symm (by subst_vars; exact weak_l rfl rfl ⟨lE, trivial⟩ trivial trivial)
      ·exact hR _ _ (Option.some.inj h).symm (by subst_vars; exact weak_l rfl rfl ⟨lR, lR, lE, trivial⟩ ⟨lB ⟨LV_sl, lE, lE, LV_sl, rfl⟩, lB ⟨LV_sl, lE, lE, LV_sl, rfl⟩, trivial⟩ trivial)
    ·exact hX _ _ (Option.some.inj h).symm (by subst_vars; exact weak_l rfl rfl trivial trivial trivial)
   ·intro q h
    rcases q with (_ | _)
    ·(conv => cbv)
     cases h
     subst_vars
     exact ⟨lE, rfl⟩
    ·(conv => cbv)
     cases h
     subst_vars
     exact ⟨lE, rfl⟩
theorem w_ref07_In (N : Nat) (n_1 : Int) (least_2 : Int) (most_3 : Int) (o : Bool) (h : m_ref07_In N n_1 least_2 most_3 = some o) :
  KC Try.prog 29 [.int .i64 n_1, .int .i64 least_2, .int .i64 most_3] (.bool o) [] := by
 unfold m_ref07_In at h
 refine con_l [] [1000001] seat Try.func29 rfl ent_29 (by kernel_rfl) rfl rfl (by simp) ?_; intro base I hI; (conv => cbv)
 refine L_cut hI seat [] (by kernel_rfl) h (fun q => match q with | v_4 => .normal) (fun q => match q with | v_4 => ⟨15, [(6, .bool v_4)], [], [], 0⟩) ?_ ?_; all_goals clear h
 ·intro x h R hR
  (conv => cbv)
  refine L_tst hI h (by subst_vars; rfl) ?_ ?_ <;> clear h <;> intro h
  ·exact hR _ _ (Option.some.inj h).symm (by subst_vars; exact weak_l rfl rfl ⟨lE, trivial⟩ trivial trivial)
  ·exact hR _ _ (Option.some.inj h).symm (by subst_vars; exact weak_l rfl rfl ⟨lE, trivial⟩ trivial trivial)
 ·intro v_4 h
  (conv => cbv)
  cases h
  subst_vars
  exact ⟨lE, rfl⟩
theorem w_ref07_Span (N : Nat) (s_1 : api_Span) (least_2 : Int) (most_3 : Int) (o : Bool) (h : m_ref07_Span N s_1 least_2 most_3 = some o) :
  KC Try.prog 92 [.agg [.int .i64 s_1.Low, .int .i64 s_1.High], .int .i64 least_2, .int .i64 most_3] (.bool o) [] := by
 unfold m_ref07_Span at h
 refine con_l [] [1000001] seat Try.func92 rfl ent_92 (by kernel_rfl) rfl rfl (by simp) ?_; intro base I hI; (conv => cbv)
 refine L_cut hI seat [] (by kernel_rfl) h (fun q => match q with | v_5 => .normal) (fun q => match q with | v_5 => ⟨19, [(6, .bool v_5)], [], [], 0⟩) ?_ ?_; all_goals clear h
 ·intro x h R hR
  (conv => cbv)
  refine L_call hI h (fun v hv => w_ref07_In N s_1.Low least_2 s_1.High v hv) (by subst_vars; exact ⟨(leD_refl _), (leD_refl _), (leD_refl _), rfl⟩) ?_; clear h; intro r_6 h; (conv => cbv)
  refine L_tst hI h (by subst_vars; rfl) ?_ ?_ <;> clear h <;> intro h
  ·exact hR _ _ (Option.some.inj h).symm (by subst_vars; exact weak_l rfl rfl ⟨lE, trivial⟩ trivial trivial)
  ·exact hR _ _ (Option.some.inj h).symm (by subst_vars; exact weak_l rfl rfl ⟨lE, trivial⟩ trivial trivial)
 ·intro v_5 h
  (conv => cbv)
  cases h
  subst_vars
  exact ⟨lE, rfl⟩
theorem w_ref07_Letters (N : Nat) (s_1 : ByteArray) (torn_2 : Bool) (o : Bool) (h : m_ref07_Letters N s_1 torn_2 = some o) :
  KC Try.prog 36 [.str s_1, .bool torn_2] (.bool o) [] := by
 unfold m_ref07_Letters at h
 refine con_l [] [1000004] seat Try.func36 rfl ent_36 (by kernel_rfl) rfl rfl (by simp) ?_; intro base I hI; (conv => cbv)
 refine L_loop hI seat [1000004] (by kernel_rfl) h (fun q => match q with | i_4 => ⟨35, [(0, .str s_1), (1, .bool torn_2), (5, .int .i64 i_4)], [], [], 0⟩) (fun q => match q with | (.inl ()) => .ret | (.inr ()) => .exit 0) (fun q => match q with | (.inl ()) => ⟨35, [(4, .ff)], [], [], 0⟩ | (.inr ()) => ⟨35, [(0, .str s_1)], [], [], 0⟩) (by subst_vars; exact weak_l rfl rfl ⟨lE, lE, lE, trivial⟩ trivial trivial) (by intro q; rcases q with (_ | _) <;> (intro e; exact Exit.noConfusion e)) ?_ ?_; all_goals clear h
 ·intro i_4 x h R hR hX
  rw [m_ref07_Letters_L1] at h
  (conv => cbv)
  refine L_tst hI h (by subst_vars; rfl) ?_ ?_ <;> clear h <;> intro h
  ·refine L_cut hI seat [] (by kernel_rfl) h (fun q => match q with | v_6 => .normal) (fun q => match q with | v_6 => ⟨35, [(0, .str s_1), (1, .bool torn_2), (5, .int .i64 i_4), (31, .bool v_6)], [], [], 0⟩) ?_ ?_; all_goals clear h
   ·intro x h R hR
    (conv => cbv)
    refine L_conj hI h (fun g => by subst_vars; exact g) ?_; clear h; intro hc h
    refine L_tst hI h (by subst_vars; rfl) ?_ ?_ <;> clear h <;> intro h
    ·refine L_tst hI h (by subst_vars; rfl) ?_ ?_ <;> clear h <;> intro h
     ·exact hR _ _ (Option.some.inj h).symm (by subst_vars; exact weak_l rfl rfl ⟨lE, lE, lE, lE, trivial⟩ trivial trivial)
     ·refine L_conj hI h (fun g => by subst_vars; exact g) ?_; clear h; intro hc h
      exact hR _ _ (Option.some.inj h).symm (by subst_vars; exact weak_l rfl rfl ⟨lE, lE, lE, lE, trivial⟩ trivial trivial)
    ·refine L_conj hI h (fun g => by subst_vars; exact g) ?_; clear h; intro hc h
     refine L_tst hI h (by subst_vars; rfl) ?_ ?_ <;> clear h <;> intro h
     ·refine L_tst hI h (by subst_vars; rfl) ?_ ?_ <;> clear h <;> intro h
      ·exact hR _ _ (Option.some.inj h).symm (by subst_vars; exact weak_l rfl rfl ⟨lE, lE, lE, lE, trivial⟩ trivial trivial)
      ·refine L_conj hI h (fun g => by subst_vars; exact g) ?_; clear h; intro hc h
       exact hR _ _ (Option.some.inj h).symm (by subst_vars; exact weak_l rfl rfl ⟨lE, lE, lE, lE, trivial⟩ trivial trivial)
     ·exact hR _ _ (Option.some.inj h).symm (by subst_vars; exact weak_l rfl rfl ⟨lE, lE, lE, lE, trivial⟩ trivial trivial)
   ·intro v_6 h
    (conv => cbv)
    refine L_tst hI h (by subst_vars; rfl) ?_ ?_ <;> clear h <;> intro h
    ·exact hX _ _ (Option.some.inj h).symm (by subst_vars; exact weak_l rfl rfl ⟨lE, trivial⟩ trivial trivial)
    ·exact hR _ _ (Option.some.inj h).symm (by subst_vars; exact weak_l rfl rfl ⟨lE, lE, lE, trivial⟩ trivial trivial)
  ·exact hX _ _ (Option.some.inj h).symm (by subst_vars; exact weak_l rfl rfl ⟨lE, trivial⟩ trivial trivial)
 ·intro q h
  rcases q with (_ | _)
  ·(conv => cbv)
   cases h
   subst_vars
   exact ⟨lE, rfl⟩
  ·(conv => cbv)
   refine L_call hI h (fun v hv => w_ref07_In N (s_1.size : Int) 1 8 v hv) (by subst_vars; exact ⟨(leD_refl _), (leD_refl _), (leD_refl _), rfl⟩) ?_; clear h; intro r_7 h; (conv => cbv)
   cases h
   subst_vars
   exact ⟨lE, rfl⟩
theorem w_ref07_Kind (N : Nat) (k_1 : api_SealKind) (o : Bool) (h : m_ref07_Kind N k_1 = some o) :
  KC Try.prog 62 [.agg [sl_api_Span false k_1.Sizes, .str k_1.Mark]] (.bool o) [] := by
 unfold m_ref07_Kind at h
 refine con_l [] [1000001] seat Try.func62 rfl ent_62 (by kernel_rfl) rfl rfl (by simp) ?_; intro base I hI; (conv => cbv)
 refine L_cut hI seat [] (by kernel_rfl) h (fun q => match q with | v_9 => .normal) (fun q => match q with | v_9 => ⟨33, [(2, .bool v_9)], [], [], 0⟩) ?_ ?_; all_goals clear h
 ·intro x h R hR
  (conv => cbv)
  refine L_tst hI h (by subst_vars; rfl) ?_ ?_ <;> clear h <;> intro h
  ·refine L_get hI h (fun g => by subst_vars; exact g) ?_; clear h; intro hc x_10 hxx_10 h
   refine L_call hI h (fun v hv => w_ref07_Span N x_10 0 2000 v hv) (by subst_vars; exact ⟨(leD_refl _), (leD_refl _), (leD_refl _), rfl⟩) ?_; clear h; intro r_11 h; (conv => cbv)
   refine L_tst hI h (by subst_vars; rfl) ?_ ?_ <;> clear h <;> intro h
   ·refine L_get hI h (fun g => by subst_vars; exact g) ?_; clear h; intro hc x_12 hxx_12 h
    refine L_call hI h (fun v hv => w_ref07_Span N x_12 0 2000 v hv) (by subst_vars; exact ⟨(leD_refl _), (leD_refl _), (leD_refl _), rfl⟩) ?_; clear h; intro r_13 h; (conv => cbv)
    refine L_tst hI h (by subst_vars; rfl) ?_ ?_ <;> clear h <;> intro h
    ·refine L_get hI h (fun g => by subst_vars; exact g) ?_; clear h; intro hc x_14 hxx_14 h
     refine L_call hI h (fun v hv => w_ref07_Span N x_14 0 2000 v hv) (by subst_vars; exact ⟨(leD_refl _), (leD_refl _), (leD_refl _), rfl⟩) ?_; clear h; intro r_15 h; (conv => cbv)
     refine L_tst hI h (by subst_vars; rfl) ?_ ?_ <;> clear h <;> intro h
     ·refine L_call hI h (fun v hv => w_ref07_Letters N k_1.Mark false v hv) (by subst_vars; exact ⟨(leD_refl _), (leD_refl _), rfl⟩) ?_; clear h; intro r_16 h; (conv => cbv)
      exact hR _ _ (Option.some.inj h).symm (by subst_vars; exact weak_l rfl rfl ⟨lE, trivial⟩ trivial trivial)
     ·exact hR _ _ (Option.some.inj h).symm (by subst_vars; exact weak_l rfl rfl ⟨lE, trivial⟩ trivial trivial)
    ·exact hR _ _ (Option.some.inj h).symm (by subst_vars; exact weak_l rfl rfl ⟨lE, trivial⟩ trivial trivial)
   ·exact hR _ _ (Option.some.inj h).symm (by subst_vars; exact weak_l rfl rfl ⟨lE, trivial⟩ trivial trivial)
  ·exact hR _ _ (Option.some.inj h).symm (by subst_vars; exact weak_l rfl rfl ⟨lE, trivial⟩ trivial trivial)
 ·intro v_9 h
  (conv => cbv)
  cases h
  subst_vars
  exact ⟨lE, rfl⟩
theorem w_ref07_Check (N : Nat) (s_1 : api_SealStatute) (o : Int) (h : m_ref07_Check N s_1 = some o) :
  KC Try.prog 23 [.agg [sl_api_SealKind false s_1.Kinds, .int .i64 s_1.Grace, .int .i64 s_1.Fine, sl_int false s_1.Off]] (.int .i64 o) [] := by
 unfold m_ref07_Check at h
 refine con_l [] [1000001, 1000003, 1000007, 1000011] seat Try.func23 rfl ent_23 (by kernel_rfl) rfl rfl (by simp) ?_; intro base I hI; (conv => cbv)
 refine L_cut hI seat [1000003, 1000007, 1000011] (by kernel_rfl) h (fun q => match q with | v_3 => .normal) (fun q => match q with | v_3 => ⟨56, [(1, .loc 0 0), (16, .bool v_3)], [(0, ⟨25, [sl_api_SealKind false s_1.Kinds, .int .i64 s_1.Grace, .int .i64 s_1.Fine, sl_int false s_1.Off], true⟩)], [], 0⟩) ?_ ?_; all_goals clear h
 ·intro x h R hR
  (conv => cbv)
  refine L_call hI h (fun v hv => w_ref07_In N ((s_1.Kinds.length : Nat) : Int) 1 6 v hv) (by subst_vars; exact ⟨(leD_refl _), (leD_refl _), (leD_refl _), rfl⟩) ?_; clear h; intro r_4 h; (conv => cbv)
  refine L_tst hI h (by subst_vars; rfl) ?_ ?_ <;> clear h <;> intro h
  ·exact hR _ _ (Option.some.inj h).symm (by subst_vars; exact weak_l rfl rfl ⟨lR, lE, trivial⟩ ⟨lB ⟨LV_sl, lE, lE, LV_sl, rfl⟩, trivial⟩ trivial)
  ·exact hR _ _ (Option.some.inj h).symm (by subst_vars; exact weak_l rfl rfl ⟨lR, lE, trivial⟩ ⟨lB ⟨LV_sl, lE, lE, LV_sl, rfl⟩, trivial⟩ trivial)
 ·intro v_3 h
  (conv => cbv)
  refine L_tst hI h (by subst_vars; rfl) ?_ ?_ <;> clear h <;> intro h
  ·cases h
   subst_vars
   exact ⟨lE, rfl⟩
  ·refine L_cut hI seat [1000001, 1000007, 1000011] (by kernel_rfl) h (fun q => match q with | ok_7 => .normal) (fun q => match q with | ok_7 => ⟨56, [(1, .loc 0 0), (3, .bool ok_7)], [(0, ⟨25, [sl_api_SealKind false s_1.Kinds, .int .i64 s_1.Grace, .int .i64 s_1.Fine, sl_int false s_1.Off], true⟩)], [], 0⟩) ?_ ?_; all_goals clear h
   ·intro x h R hR
    (conv => cbv)
    refine L_call hI h (fun v hv => w_ref07_In N s_1.Grace 0 50 v hv) (by subst_vars; exact ⟨(leD_refl _), (leD_refl _), (leD_refl _), rfl⟩) ?_; clear h; intro r_8 h; (conv => cbv)
    refine L_tst hI h (by subst_vars; rfl) ?_ ?_ <;> clear h <;> intro h
    ·refine L_call hI h (fun v hv => w_ref07_In N s_1.Fine 0 100 v hv) (by subst_vars; exact ⟨(leD_refl _), (leD_refl _), (leD_refl _), rfl⟩) ?_; clear h; intro r_9 h; (conv => cbv)
     exact hR _ _ (Option.some.inj h).symm (by subst_vars; exact weak_l rfl rfl ⟨lR, lE, trivial⟩ ⟨lB ⟨LV_sl, lE, lE, LV_sl, rfl⟩, trivial⟩ trivial)
    ·exact hR _ _ (Option.some.inj h).symm (by subst_vars; exact weak_l rfl rfl ⟨lR, lE, trivial⟩ ⟨lB ⟨LV_sl, lE, lE, LV_sl, rfl⟩, trivial⟩ trivial)
   ·intro ok_7 h
    (conv => cbv)
    refine W_unroll hI seat [1000001, 1000003, 1000007, 1000011] (by kernel_rfl) 5 ?_; (conv => cbv)
    refine L_cut hI seat [1000001, 1000003, 1000011] (by kernel_rfl) h (fun q => match q with | ok_21 => .normal) (fun q => match q with | ok_21 => ⟨56, [(1, .loc 0 0), (3, .bool ok_21), (4, .lit .i64 0)], [(0, ⟨25, [sl_api_SealKind false s_1.Kinds, .int .i64 s_1.Grace, .int .i64 s_1.Fine, sl_int false s_1.Off], true⟩)], [], 0⟩) ?_ ?_; all_goals clear h
    ·intro x h R hR
     (conv => cbv)
     refine L_tst hI h (by subst_vars; rfl) ?_ ?_ <;> clear h <;> intro h
     ·refine L_get hI h (fun g => by subst_vars; exact g) ?_; clear h; intro hc x_22 hxx_22 h
      refine L_call hI h (fun v hv => w_ref07_In N x_22 0 20 v hv) (by subst_vars; exact ⟨(leD_refl _), (leD_refl _), (leD_refl _), rfl⟩) ?_; clear h; intro r_23 h; (conv => cbv)
      exact hR _ _ (Option.some.inj h).symm (by subst_vars; exact weak_l rfl rfl ⟨lR, lE, lE, trivial⟩ ⟨lB ⟨LV_sl, lE, lE, LV_sl, rfl⟩, trivial⟩ trivial)
     ·exact hR _ _ (Option.some.inj h).symm (by subst_vars; exact weak_l rfl rfl ⟨lR, lE, lE, trivial⟩ ⟨lB ⟨LV_sl, lE, lE, LV_sl, rfl⟩, trivial⟩ trivial)
    ·intro ok_21 h
     (conv => cbv)
     refine L_cut hI seat [1000001, 1000003, 1000011] (by kernel_rfl) h (fun q => match q with | ok_26 => .normal) (fun q => match q with | ok_26 => ⟨56, [(1, .loc 0 0), (3, .bool ok_26), (4, .lit .i64 1)], [(0, ⟨25, [sl_api_SealKind false s_1.Kinds, .int .i64 s_1.Grace, .int .i64 s_1.Fine, sl_int false s_1.Off], true⟩)], [], 0⟩) ?_ ?_; all_goals clear h
     ·intro x h R hR
      (conv => cbv)
      refine L_tst hI h (by subst_vars; rfl) ?_ ?_ <;> clear h <;> intro h
      ·refine L_get hI h (fun g => by subst_vars; exact g) ?_; clear h; intro hc x_27 hxx_27 h
       refine L_call hI h (fun v hv => w_ref07_In N x_27 0 20 v hv) (by subst_vars; exact ⟨(leD_refl _), (leD_refl _), (leD_refl _), rfl⟩) ?_; clear h; intro r_28 h; (conv => cbv)
       exact hR _ _ (Option.some.inj h).symm (by subst_vars; exact weak_l rfl rfl ⟨lR, lE, lE, trivial⟩ ⟨lB ⟨LV_sl, lE, lE, LV_sl, rfl⟩, trivial⟩ trivial)
      ·exact hR _ _ (Option.some.inj h).symm (by subst_vars; exact weak_l rfl rfl ⟨lR, lE, lE, trivial⟩ ⟨lB ⟨LV_sl, lE, lE, LV_sl, rfl⟩, trivial⟩ trivial)
     ·intro ok_26 h
      (conv => cbv)
      refine L_cut hI seat [1000001, 1000003, 1000011] (by kernel_rfl) h (fun q => match q with | ok_31 => .normal) (fun q => match q with | ok_31 => ⟨56, [(1, .loc 0 0), (3, .bool ok_31), (4, .lit .i64 2)], [(0, ⟨25, [sl_api_SealKind false s_1.Kinds, .int .i64 s_1.Grace, .int .i64 s_1.Fine, sl_int false s_1.Off], true⟩)], [], 0⟩) ?_ ?_; all_goals clear h
      ·intro x h R hR
       (conv => cbv)
       refine L_tst hI h (by subst_vars; rfl) ?_ ?_ <;> clear h <;> intro h
       ·refine L_get hI h (fun g => by subst_vars; exact g) ?_; clear h; intro hc x_32 hxx_32 h
        refine L_call hI h (fun v hv => w_ref07_In N x_32 0 20 v hv) (by subst_vars; exact ⟨(leD_refl _), (leD_refl _), (leD_refl _), rfl⟩) ?_; clear h; intro r_33 h; (conv => cbv)
        exact hR _ _ (Option.some.inj h).symm (by subst_vars; exact weak_l rfl rfl ⟨lR, lE, lE, trivial⟩ ⟨lB ⟨LV_sl, lE, lE, LV_sl, rfl⟩, trivial⟩ trivial)
       ·exact hR _ _ (Option.some.inj h).symm (by subst_vars; exact weak_l rfl rfl ⟨lR, lE, lE, trivial⟩ ⟨lB ⟨LV_sl, lE, lE, LV_sl, rfl⟩, trivial⟩ trivial)
      ·intro ok_31 h
       (conv => cbv)
       refine L_loop hI seat [1000001, 1000003, 1000007, 1000011] (by kernel_rfl) h (fun q => match q with | (ok_39, i_40) => ⟨56, [(1, .loc 0 0), (3, .bool ok_39), (5, .int .i64 i_40)], [(0, ⟨25, [sl_api_SealKind false s_1.Kinds, .int .i64 s_1.Grace, .int .i64 s_1.Fine, sl_int false s_1.Off], true⟩)], [], 0⟩) (fun q => match q with | ok_46 => .exit 2) (fun q => match q with | ok_46 => ⟨56, [(3, .bool ok_46)], [], [], 0⟩) (by subst_vars; exact weak_l rfl rfl ⟨lR, lE, lE, trivial⟩ ⟨lB ⟨LV_sl, lE, lE, LV_sl, rfl⟩, trivial⟩ trivial) (by intro q; rcases q with ok_46 <;> (intro e; exact Exit.noConfusion e)) ?_ ?_; all_goals clear h
       ·intro q x h R hR hX
        obtain ⟨ok_39, i_40⟩ := q
        rw [m_ref07_Check_L1] at h
        (conv => cbv)
        refine L_tst hI h (by subst_vars; rfl) ?_ ?_ <;> clear h <;> intro h
        ·refine L_cut hI seat [1000001, 1000003, 1000007] (by kernel_rfl) h (fun q => match q with | ok_49 => .normal) (fun q => match q with | ok_49 => ⟨56, [(1, .loc 0 0), (3, .bool ok_49), (5, .int .i64 i_40)], [(0, ⟨25, [sl_api_SealKind false s_1.Kinds, .int .i64 s_1.Grace, .int .i64 s_1.Fine, sl_int false s_1.Off], true⟩)], [], 0⟩) ?_ ?_; all_goals clear h
         ·intro x h R hR
          (conv => cbv)
          refine L_tst hI h (by subst_vars; rfl) ?_ ?_ <;> clear h <;> intro h
          ·refine L_get hI h (fun g => by subst_vars; exact g) ?_; clear h; intro hc x_50 hxx_50 h
           refine L_call hI h (fun v hv => w_ref07_Kind N x_50 v hv) (by subst_vars; exact ⟨(leD_refl _), rfl⟩) ?_; clear h; intro r_51 h; (conv => cbv)
           exact hR _ _ (Option.some.inj h).symm (by subst_vars; exact weak_l rfl rfl ⟨lR, lE, lE, trivial⟩ ⟨lB ⟨LV_sl, lE, lE, LV_sl, rfl⟩, trivial⟩ trivial)
          ·exact hR _ _ (Option.some.inj h).symm (by subst_vars; exact weak_l rfl rfl ⟨lR, lE, lE, trivial⟩ ⟨lB ⟨LV_sl, lE, lE, LV_sl, rfl⟩, trivial⟩ trivial)
         ·intro ok_49 h
          (conv => cbv)
          exact hR _ _ (Option.some.inj h).symm (by subst_vars; exact weak_l rfl rfl ⟨lR, lE, lE, trivial⟩ ⟨lB ⟨LV_sl, lE, lE, LV_sl, rfl⟩, trivial⟩ trivial)
        ·exact hX _ _ (Option.some.inj h).symm (by subst_vars; exact weak_l rfl rfl ⟨lE, trivial⟩ trivial trivial)
       ·intro ok_46 h
        (conv => cbv)
        refine L_tst hI h (by subst_vars; rfl) ?_ ?_ <;> clear h <;> intro h
        ·cases h
         subst_vars
         exact ⟨lE, rfl⟩
        ·cases h
         subst_vars
         exact ⟨lE, rfl⟩
theorem w_ref07_Read (N : Nat) (s_1 : api_SealStatute) (read_2 : (List Int)) (o : Int) (h : m_ref07_Read N s_1 read_2 = some o) :
  KC Try.prog 24 [.agg [sl_api_SealKind false s_1.Kinds, .int .i64 s_1.Grace, .int .i64 s_1.Fine, sl_int false s_1.Off], sl_int false read_2] (.int .i64 o) [] := by
 unfold m_ref07_Read at h
 refine con_l [] [1000004] seat Try.func24 rfl ent_24 (by kernel_rfl) rfl rfl (by simp) ?_; intro base I hI; (conv => cbv)
 refine L_call hI h (fun v hv => w_ref07_Check N s_1 v hv) (by subst_vars; exact ⟨(leD_refl _), rfl⟩) ?_; clear h; intro r_3 h; (conv => cbv)
 refine L_tst hI h (by subst_vars; rfl) ?_ ?_ <;> clear h <;> intro h
 ·cases h
  subst_vars
  exact ⟨lE, rfl⟩
 ·refine L_cut hI seat [] (by kernel_rfl) h (fun q => match q with | v_10 => .normal) (fun q => match q with | v_10 => ⟨35, [(34, .bool v_10)], [], [], 0⟩) ?_ ?_; all_goals clear h
  ·intro x h R hR
   (conv => cbv)
   refine L_tst hI h (by subst_vars; rfl) ?_ ?_ <;> clear h <;> intro h
   ·exact hR _ _ (Option.some.inj h).symm (by subst_vars; exact weak_l rfl rfl ⟨lE, trivial⟩ trivial trivial)
   ·refine L_get hI h (fun g => by subst_vars; exact g) ?_; clear h; intro hc x_11 hxx_11 h
    refine L_call hI h (fun v hv => w_ref07_In N x_11 0 2000 v hv) (by subst_vars; exact ⟨(leD_refl _), (leD_refl _), (leD_refl _), rfl⟩) ?_; clear h; intro r_12 h; (conv => cbv)
    refine L_tst hI h (by subst_vars; rfl) ?_ ?_ <;> clear h <;> intro h
    ·exact hR _ _ (Option.some.inj h).symm (by subst_vars; exact weak_l rfl rfl ⟨lE, trivial⟩ trivial trivial)
    ·refine L_get hI h (fun g => by subst_vars; exact g) ?_; clear h; intro hc x_13 hxx_13 h
     refine L_call hI h (fun v hv => w_ref07_In N x_13 0 2000 v hv) (by subst_vars; exact ⟨(leD_refl _), (leD_refl _), (leD_refl _), rfl⟩) ?_; clear h; intro r_14 h; (conv => cbv)
     refine L_tst hI h (by subst_vars; rfl) ?_ ?_ <;> clear h <;> intro h
     ·exact hR _ _ (Option.some.inj h).symm (by subst_vars; exact weak_l rfl rfl ⟨lE, trivial⟩ trivial trivial)
     ·refine L_get hI h (fun g => by subst_vars; exact g) ?_; clear h; intro hc x_15 hxx_15 h
      refine L_call hI h (fun v hv => w_ref07_In N x_15 0 2000 v hv) (by subst_vars; exact ⟨(leD_refl _), (leD_refl _), (leD_refl _), rfl⟩) ?_; clear h; intro r_16 h; (conv => cbv)
      exact hR _ _ (Option.some.inj h).symm (by subst_vars; exact weak_l rfl rfl ⟨lE, trivial⟩ trivial trivial)
  ·intro v_10 h
   (conv => cbv)
   refine L_tst hI h (by subst_vars; rfl) ?_ ?_ <;> clear h <;> intro h
   ·cases h
    subst_vars
    exact ⟨lE, rfl⟩
   ·cases h
    subst_vars
    exact ⟨lE, rfl⟩
theorem w_ref07_Truths (N : Nat) (s_1 : api_SealStatute) (read_2 : (List Int)) (size_3 : Int) (o : (List Int)) (h : m_ref07_Truths N s_1 read_2 size_3 = some o) :
  KC Try.prog 65 [.agg [sl_api_SealKind false s_1.Kinds, .int .i64 s_1.Grace, .int .i64 s_1.Fine, sl_int false s_1.Off], sl_int false read_2, .int .i64 size_3] (sl_int false o) [] := by
 unfold m_ref07_Truths at h
 refine con_l [] [] seat Try.func65 rfl ent_65 (by kernel_rfl) rfl rfl (by simp) ?_; intro base I hI; (conv => cbv)
 refine L_get hI h (fun g => by subst_vars; exact g) ?_; clear h; intro hc x_4 hxx_4 h
 refine L_get hI h (fun g => by subst_vars; exact g) ?_; clear h; intro hc x_5 hxx_5 h
 replace h := letO_of h; obtain ⟨n_6, hen_6, h⟩ := h
 refine L_loop hI seat [] (by kernel_rfl) h (fun q => match q with | (n_9, l_10) => ⟨40, [(1, sl_int false read_2), (2, .int .i64 size_3), (3, .loc 0 0), (7, .osl 1), (8, .int .i64 n_9)], [(0, ⟨25, [sl_api_SealKind false s_1.Kinds, .int .i64 s_1.Grace, .int .i64 s_1.Fine, sl_int false s_1.Off], true⟩)], [(1, ⟨3, 1, [.ls Int 0 l_10 e_int], true, true⟩)], 0⟩) (fun q => match q with | l_13 => .exit 0) (fun q => match q with | l_13 => ⟨40, [(7, .osl 1)], [], [(1, ⟨3, 1, [.ls Int 0 l_13 e_int], true, true⟩)], 0⟩) (by subst_vars; exact weak_l rfl rfl ⟨LV_sl, lE, lR, lR, lE, trivial⟩ ⟨lB ⟨LV_sl, lE, lE, LV_sl, rfl⟩, trivial⟩ ⟨lO, trivial⟩) (by intro q; rcases q with l_13 <;> (intro e; exact Exit.noConfusion e)) ?_ ?_; all_goals clear h
 ·intro q x h R hR hX
  obtain ⟨n_9, l_10⟩ := q
  rw [m_ref07_Truths_L1] at h
  (conv => cbv)
  refine L_get hI h (fun g => by subst_vars; exact g) ?_; clear h; intro hc x_14 hxx_14 h
  refine L_get hI h (fun g => by subst_vars; exact g) ?_; clear h; intro hc x_15 hxx_15 h
  refine L_tst hI h (by subst_vars; rfl) ?_ ?_ <;> clear h <;> intro h
  ·refine L_conj hI h (fun g => by subst_vars; exact g) ?_; clear h; intro hc h
   exact hR _ _ (Option.some.inj h).symm (by subst_vars; exact weak_l rfl rfl ⟨LV_sl, lE, lR, lR, lE, trivial⟩ ⟨lB ⟨LV_sl, lE, lE, LV_sl, rfl⟩, trivial⟩ ⟨lO, trivial⟩)
  ·exact hX _ _ (Option.some.inj h).symm (by subst_vars; exact weak_l rfl rfl ⟨lR, trivial⟩ trivial ⟨lO, trivial⟩)
 ·intro l_13 h
  (conv => cbv)
  cases h
  subst_vars
  exact ⟨LV_sl, rfl⟩
theorem w_ref07_Beyond (N : Nat) (n_1 : Int) (s_2 : api_Span) (o : Int) (h : m_ref07_Beyond N n_1 s_2 = some o) :
  KC Try.prog 66 [.int .i64 n_1, .agg [.int .i64 s_2.Low, .int .i64 s_2.High]] (.int .i64 o) [] := by
 unfold m_ref07_Beyond at h
 refine con_l [] [] seat Try.func66 rfl ent_66 (by kernel_rfl) rfl rfl (by simp) ?_; intro base I hI; (conv => cbv)
 cases h
 subst_vars
 exact ⟨lE, rfl⟩
theorem w_ref07_Is (N : Nat) (s_1 : api_SealStatute) (read_2 : (List Int)) (kind_3 : Int) (size_4 : Int) (o : Bool × Bool) (h : m_ref07_Is N s_1 read_2 kind_3 size_4 = some o) :
  KC Try.prog 63 [.agg [sl_api_SealKind false s_1.Kinds, .int .i64 s_1.Grace, .int .i64 s_1.Fine, sl_int false s_1.Off], sl_int false read_2, .int .i64 kind_3, .int .i64 size_4] (.tup [.bool o.1, .bool o.2]) [] := by
 unfold m_ref07_Is at h
 refine con_l [] [1000006] seat Try.func63 rfl ent_63 (by kernel_rfl) rfl rfl (by simp) ?_; intro base I hI; (conv => cbv)
 refine L_call hI h (fun v hv => w_ref07_Truths N s_1 read_2 size_4 v hv) (by subst_vars; exact ⟨(leD_refl _), (leD_refl _), (leD_refl _), rfl⟩) ?_; clear h; intro r_5 h; (conv => cbv)
 refine L_loop hI seat [1000006] (by kernel_rfl) h (fun q => match q with | (every_11, some_12, i_13) => ⟨50, [(2, .int .i64 kind_3), (3, .int .i64 size_4), (4, .loc 0 0), (10, sl_int false r_5), (11, .bool every_11), (12, .bool some_12), (13, .int .i64 i_13)], [(0, ⟨25, [sl_api_SealKind false s_1.Kinds, .int .i64 s_1.Grace, .int .i64 s_1.Fine, sl_int false s_1.Off], true⟩)], [], 0⟩) (fun q => match q with | (every_20, some_21) => .exit 0) (fun q => match q with | (every_20, some_21) => ⟨50, [(11, .bool every_20), (12, .bool some_21)], [], [], 0⟩) (by subst_vars; exact weak_l rfl rfl ⟨lE, lE, lR, LV_sl, lE, lE, lE, trivial⟩ ⟨lB ⟨LV_sl, lE, lE, LV_sl, rfl⟩, trivial⟩ trivial) (by intro q; rcases q with ⟨every_20, some_21⟩ <;> (intro e; exact Exit.noConfusion e)) ?_ ?_; all_goals clear h
 ·intro q x h R hR hX
  obtain ⟨every_11, some_12, i_13⟩ := q
  rw [m_ref07_Is_L1] at h
  (conv => cbv)
  refine L_tst hI h (by subst_vars; rfl) ?_ ?_ <;> clear h <;> intro h
  ·refine L_get hI h (fun g => by subst_vars; exact g) ?_; clear h; intro hc x_22 hxx_22 h
   refine L_get hI h (fun g => by subst_vars; exact g) ?_; clear h; intro hc x_23 hxx_23 h
   refine L_get hI h (fun g => by subst_vars; exact g) ?_; clear h; intro hc x_24 hxx_24 h
   refine L_call hI h (fun v hv => w_ref07_Beyond N x_22 x_24 v hv) (by subst_vars; exact ⟨(leD_refl _), (leD_refl _), rfl⟩) ?_; clear h; intro r_25 h; (conv => cbv)
   refine L_cut hI seat [] (by kernel_rfl) h (fun q => match q with | (some_26, every_27) => .normal) (fun q => match q with | (some_26, every_27) => ⟨50, [(2, .int .i64 kind_3), (3, .int .i64 size_4), (4, .loc 0 0), (10, sl_int false r_5), (11, .bool every_27), (12, .bool some_26), (13, .int .i64 i_13)], [(0, ⟨25, [sl_api_SealKind false s_1.Kinds, .int .i64 s_1.Grace, .int .i64 s_1.Fine, sl_int false s_1.Off], true⟩)], [], 0⟩) ?_ ?_; all_goals clear h
   ·intro x h R hR
    (conv => cbv)
    refine L_tst hI h (by subst_vars; rfl) ?_ ?_ <;> clear h <;> intro h
    ·refine L_tst hI h (by subst_vars; rfl) ?_ ?_ <;> clear h <;> intro h
     ·exact hR _ _ (Option.some.inj h).symm (by subst_vars; exact weak_l rfl rfl ⟨lE, lE, lR, LV_sl, lE, lE, lE, trivial⟩ ⟨lB ⟨LV_sl, lE, lE, LV_sl, rfl⟩, trivial⟩ trivial)
     ·exact hR _ _ (Option.some.inj h).symm (by subst_vars; exact weak_l rfl rfl ⟨lE, lE, lR, LV_sl, lE, lE, lE, trivial⟩ ⟨lB ⟨LV_sl, lE, lE, LV_sl, rfl⟩, trivial⟩ trivial)
    ·refine L_tst hI h (by subst_vars; rfl) ?_ ?_ <;> clear h <;> intro h
     ·exact hR _ _ (Option.some.inj h).symm (by subst_vars; exact weak_l rfl rfl ⟨lE, lE, lR, LV_sl, lE, lE, lE, trivial⟩ ⟨lB ⟨LV_sl, lE, lE, LV_sl, rfl⟩, trivial⟩ trivial)
     ·exact hR _ _ (Option.some.inj h).symm (by subst_vars; exact weak_l rfl rfl ⟨lE, lE, lR, LV_sl, lE, lE, lE, trivial⟩ ⟨lB ⟨LV_sl, lE, lE, LV_sl, rfl⟩, trivial⟩ trivial)
   ·intro q h
    rcases q with ⟨some_26, every_27⟩
    (conv => cbv)
    exact hR _ _ (Option.some.inj h).symm (by subst_vars; exact weak_l rfl rfl ⟨lE, lE, lR, LV_sl, lE, lE, lE, trivial⟩ ⟨lB ⟨LV_sl, lE, lE, LV_sl, rfl⟩, trivial⟩ trivial)
  ·exact hX _ _ (Option.some.inj h).symm (by subst_vars; exact weak_l rfl rfl ⟨lE, lE, trivial⟩ trivial trivial)
 ·intro q h
  rcases q with ⟨every_20, some_21⟩
  (conv => cbv)
  cases h
  subst_vars
  exact ⟨(LV_tup ⟨lE, lE, rfl⟩), rfl⟩
theorem w_ref07_Kinds (N : Nat) (s_1 : api_SealStatute) (read_2 : (List Int)) (o : (List Int) × (List Int)) (h : m_ref07_Kinds N s_1 read_2 = some o) :
  KC Try.prog 25 [.agg [sl_api_SealKind false s_1.Kinds, .int .i64 s_1.Grace, .int .i64 s_1.Fine, sl_int false s_1.Off], sl_int false read_2] (.tup [sl_int false o.1, sl_int false o.2]) [] := by
 unfold m_ref07_Kinds at h
 refine con_l [] [1000010, 2000043, 2000048] seat Try.func25 rfl ent_25 (by kernel_rfl) rfl rfl (by simp) ?_; intro base I hI; (conv => cbv)
 refine L_loop hI seat [1000010, 2000043, 2000048] (by kernel_rfl) h (fun q => match q with | (k_16, possibly_17, surely_18) => ⟨55, [(1, sl_int false read_2), (2, .loc 0 0), (6, .osl 1), (7, .osl 2), (8, .int .i64 k_16)], [(0, ⟨25, [sl_api_SealKind false s_1.Kinds, .int .i64 s_1.Grace, .int .i64 s_1.Fine, sl_int false s_1.Off], true⟩)], [(2, ⟨3, 1, [.ls Int 0 possibly_17 e_int], true, true⟩), (1, ⟨3, 1, [.ls Int 0 surely_18 e_int], true, true⟩)], 0⟩) (fun q => match q with | (possibly_32, surely_33) => .exit 0) (fun q => match q with | (possibly_32, surely_33) => ⟨55, [(6, .osl 1), (7, .osl 2)], [], [(2, ⟨3, 1, [.ls Int 0 possibly_32 e_int], true, true⟩), (1, ⟨3, 1, [.ls Int 0 surely_33 e_int], true, true⟩)], 0⟩) (by subst_vars; exact weak_l rfl rfl ⟨LV_sl, lR, lR, lR, lE, trivial⟩ ⟨lB ⟨LV_sl, lE, lE, LV_sl, rfl⟩, trivial⟩ ⟨lO, lO, trivial⟩) (by intro q; rcases q with ⟨possibly_32, surely_33⟩ <;> (intro e; exact Exit.noConfusion e)) ?_ ?_; all_goals clear h
 ·intro q x h R hR hX
  obtain ⟨k_16, possibly_17, surely_18⟩ := q
  rw [m_ref07_Kinds_L1] at h
  (conv => cbv)
  refine L_tst hI h (by subst_vars; rfl) ?_ ?_ <;> clear h <;> intro h
  ·refine W_unroll hI seat [1000010, 2000043, 2000048] (by kernel_rfl) 5 ?_; (conv => cbv)
   refine L_call hI h (fun v hv => w_ref07_Is N s_1 read_2 k_16 0 v hv) (by subst_vars; exact ⟨(leD_refl _), (leD_refl _), (leD_refl _), (leD_refl _), rfl⟩) ?_; clear h; intro r_34 h; (conv => cbv)
   refine L_cut hI seat [2000043, 2000048] (by kernel_rfl) h (fun q => match q with | () => .normal) (fun q => match q with | () => ⟨55, [(1, sl_int false read_2), (2, .loc 0 0), (6, .osl 1), (7, .osl 2), (8, .int .i64 k_16), (9, .bool r_34.1), (10, .bool r_34.2), (11, .lit .i64 0)], [(0, ⟨25, [sl_api_SealKind false s_1.Kinds, .int .i64 s_1.Grace, .int .i64 s_1.Fine, sl_int false s_1.Off], true⟩)], [(2, ⟨3, 1, [.ls Int 0 possibly_17 e_int], true, true⟩), (1, ⟨3, 1, [.ls Int 0 surely_18 e_int], true, true⟩)], 0⟩) ?_ ?_; all_goals clear h
   ·intro x h R hR
    (conv => cbv)
    exact hR _ _ (Option.some.inj h).symm (by subst_vars; exact weak_l rfl rfl ⟨LV_sl, lR, lR, lR, lE, lE, lE, lE, trivial⟩ ⟨lB ⟨LV_sl, lE, lE, LV_sl, rfl⟩, trivial⟩ ⟨lO, lO, trivial⟩)
   ·intro q h
    (conv => cbv)
    refine L_call hI h (fun v hv => w_ref07_Is N s_1 read_2 k_16 1 v hv) (by subst_vars; exact ⟨(leD_refl _), (leD_refl _), (leD_refl _), (leD_refl _), rfl⟩) ?_; clear h; intro r_39 h; (conv => cbv)
    refine L_cut hI seat [2000043, 2000048] (by kernel_rfl) h (fun q => match q with | (some_40, every_41) => .normal) (fun q => match q with | (some_40, every_41) => ⟨55, [(1, sl_int false read_2), (2, .loc 0 0), (6, .osl 1), (7, .osl 2), (8, .int .i64 k_16), (9, .bool every_41), (10, .bool some_40), (11, .lit .i64 1)], [(0, ⟨25, [sl_api_SealKind false s_1.Kinds, .int .i64 s_1.Grace, .int .i64 s_1.Fine, sl_int false s_1.Off], true⟩)], [(2, ⟨3, 1, [.ls Int 0 possibly_17 e_int], true, true⟩), (1, ⟨3, 1, [.ls Int 0 surely_18 e_int], true, true⟩)], 0⟩) ?_ ?_; all_goals clear h
    ·intro x h R hR
     (conv => cbv)
     refine L_tst hI h (by subst_vars; rfl) ?_ ?_ <;> clear h <;> intro h
     ·refine L_tst hI h (by subst_vars; rfl) ?_ ?_ <;> clear h <;> intro h
      ·exact hR _ _ (Option.some.inj h).symm (by subst_vars; exact weak_l rfl rfl ⟨LV_sl, lR, lR, lR, lE, lE, lE, lE, trivial⟩ ⟨lB ⟨LV_sl, lE, lE, LV_sl, rfl⟩, trivial⟩ ⟨lO, lO, trivial⟩)
      ·exact hR _ _ (Option.some.inj h).symm (by subst_vars; exact weak_l rfl rfl ⟨LV_sl, lR, lR, lR, lE, lE, lE, lE, trivial⟩ ⟨lB ⟨LV_sl, lE, lE, LV_sl, rfl⟩, trivial⟩ ⟨lO, lO, trivial⟩)
     ·refine L_tst hI h (by subst_vars; rfl) ?_ ?_ <;> clear h <;> intro h
      ·exact hR _ _ (Option.some.inj h).symm (by subst_vars; exact weak_l rfl rfl ⟨LV_sl, lR, lR, lR, lE, lE, lE, lE, trivial⟩ ⟨lB ⟨LV_sl, lE, lE, LV_sl, rfl⟩, trivial⟩ ⟨lO, lO, trivial⟩)
      ·exact hR _ _ (Option.some.inj h).symm (by subst_vars; exact weak_l rfl rfl ⟨LV_sl, lR, lR, lR, lE, lE, lE, lE, trivial⟩ ⟨lB ⟨LV_sl, lE, lE, LV_sl, rfl⟩, trivial⟩ ⟨lO, lO, trivial⟩)
    ·intro q h
     rcases q with ⟨some_40, every_41⟩
     (conv => cbv)
     refine L_call hI h (fun v hv => w_ref07_Is N s_1 read_2 k_16 2 v hv) (by subst_vars; exact ⟨(leD_refl _), (leD_refl _), (leD_refl _), (leD_refl _), rfl⟩) ?_; clear h; intro r_42 h; (conv => cbv)
     refine L_cut hI seat [2000043, 2000048] (by kernel_rfl) h (fun q => match q with | (some_43, every_44) => .normal) (fun q => match q with | (some_43, every_44) => ⟨55, [(1, sl_int false read_2), (2, .loc 0 0), (6, .osl 1), (7, .osl 2), (8, .int .i64 k_16), (9, .bool every_44), (10, .bool some_43), (11, .lit .i64 2)], [(0, ⟨25, [sl_api_SealKind false s_1.Kinds, .int .i64 s_1.Grace, .int .i64 s_1.Fine, sl_int false s_1.Off], true⟩)], [(2, ⟨3, 1, [.ls Int 0 possibly_17 e_int], true, true⟩), (1, ⟨3, 1, [.ls Int 0 surely_18 e_int], true, true⟩)], 0⟩) ?_ ?_; all_goals clear h
     ·intro x h R hR
      (conv => cbv)
      refine L_tst hI h (by subst_vars; rfl) ?_ ?_ <;> clear h <;> intro h
      ·refine L_tst hI h (by subst_vars; rfl) ?_ ?_ <;> clear h <;> intro h
       ·exact hR _ _ (Option.some.inj h).symm (by subst_vars; exact weak_l rfl rfl ⟨LV_sl, lR, lR, lR, lE, lE, lE, lE, trivial⟩ ⟨lB ⟨LV_sl, lE, lE, LV_sl, rfl⟩, trivial⟩ ⟨lO, lO, trivial⟩)
       ·exact hR _ _ (Option.some.inj h).symm (by subst_vars; exact weak_l rfl rfl ⟨LV_sl, lR, lR, lR, lE, lE, lE, lE, trivial⟩ ⟨lB ⟨LV_sl, lE, lE, LV_sl, rfl⟩, trivial⟩ ⟨lO, lO, trivial⟩)
      ·refine L_tst hI h (by subst_vars; rfl) ?_ ?_ <;> clear h <;> intro h
       ·exact hR _ _ (Option.some.inj h).symm (by subst_vars; exact weak_l rfl rfl ⟨LV_sl, lR, lR, lR, lE, lE, lE, lE, trivial⟩ ⟨lB ⟨LV_sl, lE, lE, LV_sl, rfl⟩, trivial⟩ ⟨lO, lO, trivial⟩)
       ·exact hR _ _ (Option.some.inj h).symm (by subst_vars; exact weak_l rfl rfl ⟨LV_sl, lR, lR, lR, lE, lE, lE, lE, trivial⟩ ⟨lB ⟨LV_sl, lE, lE, LV_sl, rfl⟩, trivial⟩ ⟨lO, lO, trivial⟩)
     ·intro q h
      rcases q with ⟨some_43, every_44⟩
      (conv => cbv)
      refine L_cut hI seat [1000010, 2000048] (by kernel_rfl) h (fun q => match q with | surely_45 => .normal) (fun q => match q with | surely_45 => ⟨55, [(1, sl_int false read_2), (2, .loc 0 0), (6, .osl 1), (7, .osl 2), (8, .int .i64 k_16), (10, .bool some_43)], [(0, ⟨25, [sl_api_SealKind false s_1.Kinds, .int .i64 s_1.Grace, .int .i64 s_1.Fine, sl_int false s_1.Off], true⟩)], [(2, ⟨3, 1, [.ls Int 0 possibly_17 e_int], true, true⟩), (1, ⟨3, 1, [.ls Int 0 surely_45 e_int], true, true⟩)], 0⟩) ?_ ?_; all_goals clear h
      ·intro x h R hR
       (conv => cbv)
       refine L_tst hI h (by subst_vars; rfl) ?_ ?_ <;> clear h <;> intro h
       ·refine L_conj hI h (fun g => by subst_vars; exact g) ?_; clear h; intro hc h
        exact hR _ _ (Option.some.inj h).symm (by subst_vars; exact weak_l rfl rfl ⟨LV_sl, lR, lR, lR, lE, lE, trivial⟩ ⟨lB ⟨LV_sl, lE, lE, LV_sl, rfl⟩, trivial⟩ ⟨lO, lO, trivial⟩)
       ·exact hR _ _ (Option.some.inj h).symm (by subst_vars; exact weak_l rfl rfl ⟨LV_sl, lR, lR, lR, lE, lE, trivial⟩ ⟨lB ⟨LV_sl, lE, lE, LV_sl, rfl⟩, trivial⟩ ⟨lO, lO, trivial⟩)
      ·intro surely_45 h
       (conv => cbv)
       refine L_cut hI seat [1000010, 2000043] (by kernel_rfl) h (fun q => match q with | possibly_46 => .normal) (fun q => match q with | possibly_46 => ⟨55, [(1, sl_int false read_2), (2, .loc 0 0), (6, .osl 1), (7, .osl 2), (8, .int .i64 k_16)], [(0, ⟨25, [sl_api_SealKind false s_1.Kinds, .int .i64 s_1.Grace, .int .i64 s_1.Fine, sl_int false s_1.Off], true⟩)], [(2, ⟨3, 1, [.ls Int 0 possibly_46 e_int], true, true⟩), (1, ⟨3, 1, [.ls Int 0 surely_45 e_int], true, true⟩)], 0⟩) ?_ ?_; all_goals clear h
       ·intro x h R hR
        (conv => cbv)
        refine L_tst hI h (by subst_vars; rfl) ?_ ?_ <;> clear h <;> intro h
        ·refine L_conj hI h (fun g => by subst_vars; exact g) ?_; clear h; intro hc h
         exact hR _ _ (Option.some.inj h).symm (by subst_vars; exact weak_l rfl rfl ⟨LV_sl, lR, lR, lR, lE, trivial⟩ ⟨lB ⟨LV_sl, lE, lE, LV_sl, rfl⟩, trivial⟩ ⟨lO, lO, trivial⟩)
        ·exact hR _ _ (Option.some.inj h).symm (by subst_vars; exact weak_l rfl rfl ⟨LV_sl, lR, lR, lR, lE, trivial⟩ ⟨lB ⟨LV_sl, lE, lE, LV_sl, rfl⟩, trivial⟩ ⟨lO, lO, trivial⟩)
       ·intro possibly_46 h
        (conv => cbv)
        exact hR _ _ (Option.some.inj h).symm (by subst_vars; exact weak_l rfl rfl ⟨LV_sl, lR, lR, lR, lE, trivial⟩ ⟨lB ⟨LV_sl, lE, lE, LV_sl, rfl⟩, trivial⟩ ⟨lO, lO, trivial⟩)
  ·exact hX _ _ (Option.some.inj h).symm (by subst_vars; exact weak_l rfl rfl ⟨lR, lR, trivial⟩ trivial ⟨lO, lO, trivial⟩)
 ·intro q h
  rcases q with ⟨possibly_32, surely_33⟩
  (conv => cbv)
  cases h
  subst_vars
  exact ⟨(LV_tup ⟨LV_sl, LV_sl, rfl⟩), rfl⟩
theorem w_law07_SealKinds (N : Nat) (p_1 : api_SealStatute) (p_2 : (List Int)) (o : Bool) (h : m_law07_SealKinds N p_1 p_2 = some o) :
  KC Try.prog 3 [.agg [sl_api_SealKind false p_1.Kinds, .int .i64 p_1.Grace, .int .i64 p_1.Fine, sl_int false p_1.Off], sl_int false p_2] (.bool o) [] := by
 unfold m_law07_SealKinds at h
 refine con_l [] [1000006, 1000010, 1000012] seat Try.func3 rfl ent_3 (by kernel_rfl) rfl rfl (by simp) ?_; intro base I hI; (conv => cbv)
 refine L_call hI h (fun v hv => w_law07_large (N + p_1.Kinds.length) p_1 p_2 v hv) (by subst_vars; exact ⟨(leD_refl _), (leD_refl _), rfl⟩) ?_; clear h; intro r_3 h; (conv => cbv)
 refine L_tst hI h (by subst_vars; rfl) ?_ ?_ <;> clear h <;> intro h
 ·refine L_call hI h (fun v hv => w_law07_known N v hv) (by subst_vars; exact rfl) ?_; clear h; intro r_4 h; (conv => cbv)
  cases h
  subst_vars
  exact ⟨lE, rfl⟩
 ·refine L_call hI h (fun v hv => w_ref07_Copy N p_1 v hv) (by subst_vars; exact ⟨(leD_refl _), rfl⟩) ?_; clear h; intro r_5 h; (conv => cbv)
  refine L_call hI h (fun v hv => w_law07_own N p_2 v hv) (by subst_vars; exact ⟨(leD_refl _), rfl⟩) ?_; clear h; intro r_6 h; (conv => cbv)
  refine L_call hI h (fun v hv => w_seal_Check N r_5 v hv) (by subst_vars; exact ⟨(leD_refl _), rfl⟩) ?_; clear h; intro r_7 h; (conv => cbv)
  refine L_call hI h (fun v hv => w_seal_Kinds N r_5 r_6 v hv) (by subst_vars; exact ⟨(leD_refl _), (leD_refl _), rfl⟩) ?_; clear h; intro r_8 h; (conv => cbv)
  refine L_cut hI seat [1000010, 1000012] (by kernel_rfl) h (fun q => match q with | v_12 => .normal) (fun q => match q with | v_12 => ⟨87, [(1, sl_int false p_2), (2, .loc 0 0), (8, sl_int false r_8.1), (9, sl_int false r_8.2.1), (10, .int .i64 r_8.2.2), (46, .bool v_12)], [(0, ⟨25, [sl_api_SealKind false p_1.Kinds, .int .i64 p_1.Grace, .int .i64 p_1.Fine, sl_int false p_1.Off], true⟩)], [], 0⟩) ?_ ?_; all_goals clear h
  ·intro x h R hR
   (conv => cbv)
   refine L_call hI h (fun v hv => w_ref07_Same N r_5 p_1 v hv) (by subst_vars; exact ⟨(leD_refl _), (leD_refl _), rfl⟩) ?_; clear h; intro r_13 h; (conv => cbv)
   refine L_tst hI h (by subst_vars; rfl) ?_ ?_ <;> clear h <;> intro h
   ·exact hR _ _ (Option.some.inj h).symm (by subst_vars; exact weak_l rfl rfl ⟨LV_sl, lR, LV_sl, LV_sl, lE, lE, trivial⟩ ⟨lB ⟨LV_sl, lE, lE, LV_sl, rfl⟩, trivial⟩ trivial)
   ·refine L_call hI h (fun v hv => w_ref07_Ints N r_6 p_2 v hv) (by subst_vars; exact ⟨(leD_refl _), (leD_refl _), rfl⟩) ?_; clear h; intro r_14 h; (conv => cbv)
    refine L_tst hI h (by subst_vars; rfl) ?_ ?_ <;> clear h <;> intro h
    ·exact hR _ _ (Option.some.inj h).symm (by subst_vars; exact weak_l rfl rfl ⟨LV_sl, lR, LV_sl, LV_sl, lE, lE, trivial⟩ ⟨lB ⟨LV_sl, lE, lE, LV_sl, rfl⟩, trivial⟩ trivial)
    ·refine L_call hI h (fun v hv => w_ref07_Check N p_1 v hv) (by subst_vars; exact ⟨(leD_refl _), rfl⟩) ?_; clear h; intro r_15 h; (conv => cbv)
     exact hR _ _ (Option.some.inj h).symm (by subst_vars; exact weak_l rfl rfl ⟨LV_sl, lR, LV_sl, LV_sl, lE, lE, trivial⟩ ⟨lB ⟨LV_sl, lE, lE, LV_sl, rfl⟩, trivial⟩ trivial)
  ·intro v_12 h
   (conv => cbv)
   refine L_tst hI h (by subst_vars; rfl) ?_ ?_ <;> clear h <;> intro h
   ·cases h
    subst_vars
    exact ⟨lE, rfl⟩
   ·refine L_call hI h (fun v hv => w_ref07_Read N p_1 p_2 v hv) (by subst_vars; exact ⟨(leD_refl _), (leD_refl _), rfl⟩) ?_; clear h; intro r_16 h; (conv => cbv)
    refine L_tst hI h (by subst_vars; rfl) ?_ ?_ <;> clear h <;> intro h
    ·refine L_cut hI seat [1000006, 1000012] (by kernel_rfl) h (fun q => match q with | v_18 => .normal) (fun q => match q with | v_18 => ⟨87, [(4, .bool v_18)], [], [], 0⟩) ?_ ?_; all_goals clear h
     ·intro x h R hR
      (conv => cbv)
      refine L_tst hI h (by subst_vars; rfl) ?_ ?_ <;> clear h <;> intro h
      ·refine L_tst hI h (by subst_vars; rfl) ?_ ?_ <;> clear h <;> intro h
       ·refine L_call hI h (fun v hv => w_law07_known N v hv) (by subst_vars; exact rfl) ?_; clear h; intro r_19 h; (conv => cbv)
        exact hR _ _ (Option.some.inj h).symm (by subst_vars; exact weak_l rfl rfl ⟨lE, trivial⟩ trivial trivial)
       ·exact hR _ _ (Option.some.inj h).symm (by subst_vars; exact weak_l rfl rfl ⟨lE, trivial⟩ trivial trivial)
      ·exact hR _ _ (Option.some.inj h).symm (by subst_vars; exact weak_l rfl rfl ⟨lE, trivial⟩ trivial trivial)
     ·intro v_18 h
      (conv => cbv)
      cases h
      subst_vars
      exact ⟨lE, rfl⟩
    ·refine L_call hI h (fun v hv => w_ref07_Kinds N p_1 p_2 v hv) (by subst_vars; exact ⟨(leD_refl _), (leD_refl _), rfl⟩) ?_; clear h; intro r_20 h; (conv => cbv)
     refine L_cut hI seat [1000006, 1000010] (by kernel_rfl) h (fun q => match q with | v_24 => .normal) (fun q => match q with | v_24 => ⟨87, [(4, .bool v_24)], [], [], 0⟩) ?_ ?_; all_goals clear h
     ·intro x h R hR
      (conv => cbv)
      refine L_tst hI h (by subst_vars; rfl) ?_ ?_ <;> clear h <;> intro h
      ·refine L_call hI h (fun v hv => w_ref07_Ints N r_8.1 r_20.1 v hv) (by subst_vars; exact ⟨(leD_refl _), (leD_refl _), rfl⟩) ?_; clear h; intro r_25 h; (conv => cbv)
       refine L_tst hI h (by subst_vars; rfl) ?_ ?_ <;> clear h <;> intro h
       ·refine L_call hI h (fun v hv => w_ref07_Ints N r_8.2.1 r_20.2 v hv) (by subst_vars; exact ⟨(leD_refl _), (leD_refl _), rfl⟩) ?_; clear h; intro r_26 h; (conv => cbv)
        refine L_tst hI h (by subst_vars; rfl) ?_ ?_ <;> clear h <;> intro h
        ·refine L_call hI h (fun v hv => w_law07_known N v hv) (by subst_vars; exact rfl) ?_; clear h; intro r_27 h; (conv => cbv)
         exact hR _ _ (Option.some.inj h).symm (by subst_vars; exact weak_l rfl rfl ⟨lE, trivial⟩ trivial trivial)
        ·exact hR _ _ (Option.some.inj h).symm (by subst_vars; exact weak_l rfl rfl ⟨lE, trivial⟩ trivial trivial)
       ·exact hR _ _ (Option.some.inj h).symm (by subst_vars; exact weak_l rfl rfl ⟨lE, trivial⟩ trivial trivial)
      ·exact hR _ _ (Option.some.inj h).symm (by subst_vars; exact weak_l rfl rfl ⟨lE, trivial⟩ trivial trivial)
     ·intro v_24 h
      (conv => cbv)
      cases h
      subst_vars
      exact ⟨lE, rfl⟩
end
end Go.Proofs.Ytfilnnbfppokmaa.Aw
namespace Go.Proofs.Ytfilnnbfppokmaa.Aw
open Go Go.RowKit Go.Proofs
set_option maxRecDepth 100000
theorem Try.own : ownKnob Try.prog.godebug = none := by kernel_rfl
theorem Try.laidOut : laidOutB Try.prog = true := by kernel_rfl
theorem rows_of {α : Type} {g : α -> List D} {p : α -> Prop} : ∀ {rows : List (List D)}, (∀ row ∈ rows, ∃ a, row = g a /\ p a) -> ∃ l : List α, rows = l.map g /\ ∀ a ∈ l, p a
 | [], _ => ⟨[], rfl, fun a h => by cases h⟩
 | row :: r, h => by
  obtain ⟨a, e, hp⟩ := h row (by simp)
  obtain ⟨l, e2, hl⟩ := rows_of (g := g) (p := p) (rows := r) (fun x hx => h x (List.mem_cons_of_mem _ hx))
  refine ⟨a :: l, by rw [e, e2]; rfl, fun b hb => ?_⟩
  rcases List.mem_cons.1 hb with rfl | hb
  ·exact hp
  ·exact hl b hb
def shI : Sh := .int .i64
theorem fit_I {xs : List D} (h : shI.Fit xs) : ∃ n : Int, xs = [.int .i64 n] := by
 unfold shI Sh.Fit at h
 obtain ⟨n, rfl, _⟩ := h
 exact ⟨n, rfl⟩
def shSpan : Sh := .agg [shI, shI]
theorem fit_Span {xs : List D} (h : shSpan.Fit xs) : ∃ s : api_Span, xs = rowD 2 0 (fun j => (e_api_Span s j).toD) := by
 unfold shSpan Sh.Fit at h
 simp only [Sh.FitL] at h
 obtain ⟨a, b, rfl, ha, c, d, rfl, hc, rfl⟩ := h
 obtain ⟨x, rfl⟩ := fit_I ha
 obtain ⟨y, rfl⟩ := fit_I hc
 exact ⟨⟨x, y⟩, rfl⟩
def shInts : Sh := .sl shI
theorem fit_Ints {xs : List D} (h : shInts.Fit xs) : ∃ l : List Int, xs = [(sl_int false l).toD] := by
 unfold shInts Sh.Fit at h
 obtain ⟨rc, rfl, lc, hc⟩ := h
 obtain ⟨l, rfl, _⟩ := rows_of (g := fun n : Int => [.int .i64 n]) (p := fun _ => True) (fun row hr => by
  obtain ⟨n, e⟩ := fit_I (hc row hr)
  exact ⟨n, e, trivial⟩)
 exact ⟨l, rfl⟩
def shStr : Sh := .str
theorem fit_Str {xs : List D} (h : shStr.Fit xs) : ∃ s : ByteArray, xs = [.str s] := by
 unfold shStr Sh.Fit at h
 obtain ⟨s, rfl, _⟩ := h
 exact ⟨s, rfl⟩
def shKind : Sh := .agg [.sl shSpan, shStr]
theorem fit_Kind {xs : List D} (h : shKind.Fit xs) : ∃ k : api_SealKind, xs = rowD 2 0 (fun j => (e_api_SealKind k j).toD) := by
 unfold shKind Sh.Fit at h
 simp only [Sh.FitL] at h
 obtain ⟨a, b, rfl, ha, c, d, rfl, hc, rfl⟩ := h
 unfold Sh.Fit at ha
 obtain ⟨rc, rfl, lc, hrc⟩ := ha
 obtain ⟨l, rfl, _⟩ := rows_of (g := fun s : api_Span => rowD 2 0 (fun j => (e_api_Span s j).toD)) (p := fun _ => True) (fun row hr => by
  obtain ⟨s, e⟩ := fit_Span (hrc row hr)
  exact ⟨s, e, trivial⟩)
 obtain ⟨m, rfl⟩ := fit_Str hc
 exact ⟨⟨l, m⟩, rfl⟩
def shStat : Sh := .agg [.sl shKind, shI, shI, shInts]
theorem fit_Stat {xs : List D} (h : shStat.Fit xs) : ∃ s : api_SealStatute, shStat.arg xs = (k_api_SealStatute s).toD /\ s.Kinds.length <= 9223372036854775807 := by
 unfold shStat Sh.Fit at h
 simp only [Sh.FitL] at h
 obtain ⟨a, b, rfl, ha, c, d, rfl, hc, e, f, rfl, he, g, i, rfl, hg, rfl⟩ := h
 unfold Sh.Fit at ha
 obtain ⟨rc, rfl, lc, hrc⟩ := ha
 obtain ⟨l, rfl, _⟩ := rows_of (g := fun k : api_SealKind => rowD 2 0 (fun j => (e_api_SealKind k j).toD)) (p := fun _ => True) (fun row hr => by
  obtain ⟨k, e⟩ := fit_Kind (hrc row hr)
  exact ⟨k, e, trivial⟩)
 obtain ⟨x, rfl⟩ := fit_I hc
 obtain ⟨y, rfl⟩ := fit_I he
 obtain ⟨o, rfl⟩ := fit_Ints hg
 exact ⟨⟨l, x, y, o⟩, rfl, by rw [List.length_map] at lc; exact lc⟩
end Go.Proofs.Ytfilnnbfppokmaa.Aw
