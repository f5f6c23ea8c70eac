/- Part 7 of the proof: lemmas. -/
import Derived.Test.YtelnoeamkdpjhaaM6

/- Plain models and walks for the tops of cloth and stream. Printed by wip/gen/pm.py. -/
namespace Go.Proofs.Ytelnoeamkdpjhaa.Aw
open Go Go.RowKit Go.Proofs
set_option maxRecDepth 100000
set_option maxHeartbeats 4000000
set_option linter.unusedSimpArgs false
set_option linter.unusedVariables false
theorem w_top_TopWorkNarrow (N : Nat) (p_1 : top_FirYarn) (p_2 : top_FirBeck) (p_3 : Int) (o : Bool) (h : m_top_TopWorkNarrow N p_1 p_2 p_3 = some o) :
    KC Try.prog 3 [.agg [.int .u8 p_1.Tracks.a0.a0, .int .u8 p_1.Tracks.a0.a1, .int .u8 p_1.Tracks.a0.a2, .int .u8 p_1.Tracks.a0.a3, .int .u8 p_1.Tracks.a1.a0, .int .u8 p_1.Tracks.a1.a1, .int .u8 p_1.Tracks.a1.a2, .int .u8 p_1.Tracks.a1.a3, .int .u8 p_1.Tracks.a2.a0, .int .u8 p_1.Tracks.a2.a1, .int .u8 p_1.Tracks.a2.a2, .int .u8 p_1.Tracks.a2.a3], .agg [.int .u8 p_2.Mill.a0, .int .u8 p_2.Mill.a1, .int .u8 p_2.Mill.a2, .int .u8 p_2.Mill.a3, sl_A2_u8 false p_2.Flows], .int .u8 p_3] (.bool o) [] := by
  unfold m_top_TopWorkNarrow at h
  refine con_l [] [1000006, 1000011, 1000012, 1000019, 1000022] seat Try.func3 rfl ent_3 (by kernel_rfl) rfl rfl (by simp) ?_; intro base I hI; (conv => cbv)
  refine L_call hI h (fun v hv => w_top_FirYarn_made N p_1 v hv) (by subst_vars; exact ⟨(leD_refl _), rfl⟩) ?_; clear h; intro r_4 h; (conv => cbv)
  refine L_call hI h (fun v hv => w_top_FirBeck_made N p_2 v hv) (by subst_vars; exact ⟨(leD_refl _), rfl⟩) ?_; clear h; intro r_5 h; (conv => cbv)
  refine L_get hI h (fun g => by subst_vars; exact g) ?_; clear h; intro hc x_6 hxx_6 h
  refine L_call hI h (fun v hv => w_top_firCloth N r_4 v hv) (by subst_vars; exact ⟨(leD_refl _), rfl⟩) ?_; clear h; intro r_7 h; (conv => cbv)
  refine L_call hI h (fun v hv => w_cloth_Below N r_7 1 (max 0 (iopR .sub .i64 x_6.First.High (iopR .rem .i64 (IntKind.wrap .i64 p_3) 30))) v hv) (by subst_vars; exact ⟨(leD_refl _), (leD_refl _), (leD_refl _), rfl⟩) ?_; clear h; intro r_8 h; (conv => cbv)
  replace h := letO_of h; obtain ⟨v_10, hev_10, h⟩ := h
  refine L_cut hI seat [1000011, 1000012, 1000019, 1000022] (by kernel_rfl) h (fun q => match q with | v_9 => .normal) (fun q => match q with | v_9 => ⟨185, [(7, .loc 2 0), (8, .loc 3 0), (9, sl_api_Span false r_5.2), (10, .int .i64 v_10), (11, .int .i64 r_8.1), (64, .bool v_9)], [(3, ⟨37, [.lit .i64 1, .int .i64 r_5.1.Takes, .int .i64 r_5.1.Blows.Low, .int .i64 r_5.1.Blows.High, .int .i64 r_5.1.Holds, .int .i64 r_5.1.Now.Low, .int .i64 r_5.1.Now.High], true⟩), (2, ⟨32, [sl_api_ClothTrack false r_4.Tracks, sl_api_ClothMeasure false r_4.Measures], true⟩)], [], 0⟩) ?_ ?_; all_goals clear h
  · intro x h R hR
    (conv => cbv)
    refine L_tst hI h (by subst_vars; rfl) ?_ ?_ <;> clear h <;> intro h
    · exact hR _ _ (Option.some.inj h).symm (by subst_vars; exact weak_l rfl rfl ⟨lR, lR, LV_sl, lE, lE, lE, trivial⟩ ⟨lB ⟨lE, lE, lE, lE, lE, lE, lE, rfl⟩, lB ⟨LV_sl, LV_sl, rfl⟩, trivial⟩ trivial)
    · refine L_tst hI h (by subst_vars; rfl) ?_ ?_ <;> clear h <;> intro h
      · exact hR _ _ (Option.some.inj h).symm (by subst_vars; exact weak_l rfl rfl ⟨lR, lR, LV_sl, lE, lE, lE, trivial⟩ ⟨lB ⟨lE, lE, lE, lE, lE, lE, lE, rfl⟩, lB ⟨LV_sl, LV_sl, rfl⟩, trivial⟩ trivial)
      · refine L_tst hI h (by subst_vars; rfl) ?_ ?_ <;> clear h <;> intro h
        · exact hR _ _ (Option.some.inj h).symm (by subst_vars; exact weak_l rfl rfl ⟨lR, lR, LV_sl, lE, lE, lE, trivial⟩ ⟨lB ⟨lE, lE, lE, lE, lE, lE, lE, rfl⟩, lB ⟨LV_sl, LV_sl, rfl⟩, trivial⟩ trivial)
        · exact hR _ _ (Option.some.inj h).symm (by subst_vars; exact weak_l rfl rfl ⟨lR, lR, LV_sl, lE, lE, lE, trivial⟩ ⟨lB ⟨lE, lE, lE, lE, lE, lE, lE, rfl⟩, lB ⟨LV_sl, LV_sl, rfl⟩, trivial⟩ trivial)
  · intro v_9 h
    (conv => cbv)
    refine L_tst hI h (by subst_vars; rfl) ?_ ?_ <;> clear h <;> intro h
    · cases h
      subst_vars
      exact ⟨lE, rfl⟩
    · refine L_call hI h (fun v hv => w_top_firOwn N r_5.2 v hv) (by subst_vars; exact ⟨(leD_refl _), rfl⟩) ?_; clear h; intro r_11 h; (conv => cbv)
      refine L_call hI h (fun v hv => w_stream_Done N (api_StreamMill.mk 1 r_5.1.Takes r_5.1.Blows r_5.1.Holds r_5.1.Now) r_11 r_8.1 v hv) (by subst_vars; exact ⟨⟨(leD_refl _), (leD_refl _), (leD_refl _), (leD_refl _), (leD_refl _), (leD_refl _), (leD_refl _), rfl⟩, (leD_refl _), (leD_refl _), rfl⟩) ?_; clear h; intro r_12 h; (conv => cbv)
      refine L_tst hI h (by subst_vars; rfl) ?_ ?_ <;> clear h <;> intro h
      · refine L_call hI h (fun v hv => w_top_firOwn N r_5.2 v hv) (by subst_vars; exact ⟨(leD_refl _), rfl⟩) ?_; clear h; intro r_13 h; (conv => cbv)
        refine L_call hI h (fun v hv => w_stream_Most N (api_StreamMill.mk 1 r_5.1.Takes r_5.1.Blows r_5.1.Holds r_5.1.Now) r_13 v hv) (by subst_vars; exact ⟨⟨(leD_refl _), (leD_refl _), (leD_refl _), (leD_refl _), (leD_refl _), (leD_refl _), (leD_refl _), rfl⟩, (leD_refl _), rfl⟩) ?_; clear h; intro r_14 h; (conv => cbv)
        refine L_cut hI seat [1000006, 1000012, 1000019, 1000022] (by kernel_rfl) h (fun q => match q with | v_17 => .normal) (fun q => match q with | v_17 => ⟨185, [(6, .bool v_17)], [], [], 0⟩) ?_ ?_; all_goals clear h
        · intro x h R hR
          (conv => cbv)
          refine L_tst hI h (by subst_vars; rfl) ?_ ?_ <;> clear h <;> intro h
          · refine L_tst hI h (by subst_vars; rfl) ?_ ?_ <;> clear h <;> intro h
            · refine L_tst hI h (by subst_vars; rfl) ?_ ?_ <;> clear h <;> intro h
              · refine L_call hI h (fun v hv => w_top_firSum N r_14.1 v hv) (by subst_vars; exact ⟨(leD_refl _), rfl⟩) ?_; clear h; intro r_18 h; (conv => cbv)
                refine L_tst hI h (by subst_vars; rfl) ?_ ?_ <;> clear h <;> intro h
                · refine L_call hI h (fun v hv => w_top_firKnown02 N v hv) (by subst_vars; exact rfl) ?_; clear h; intro r_19 h; (conv => cbv)
                  exact hR _ _ (Option.some.inj h).symm (by subst_vars; exact weak_l rfl rfl ⟨lE, trivial⟩ trivial trivial)
                · exact hR _ _ (Option.some.inj h).symm (by subst_vars; exact weak_l rfl rfl ⟨lE, trivial⟩ trivial trivial)
              · exact hR _ _ (Option.some.inj h).symm (by subst_vars; exact weak_l rfl rfl ⟨lE, trivial⟩ trivial trivial)
            · exact hR _ _ (Option.some.inj h).symm (by subst_vars; exact weak_l rfl rfl ⟨lE, trivial⟩ trivial trivial)
          · exact hR _ _ (Option.some.inj h).symm (by subst_vars; exact weak_l rfl rfl ⟨lE, trivial⟩ trivial trivial)
        · intro v_17 h
          (conv => cbv)
          cases h
          subst_vars
          exact ⟨lE, rfl⟩
      · refine L_cut hI seat [1000006, 1000011, 1000019, 1000022] (by kernel_rfl) h (fun q => match q with | v_20 => .normal) (fun q => match q with | v_20 => ⟨185, [(7, .loc 2 0), (8, .loc 3 0), (9, sl_api_Span false r_5.2), (10, .int .i64 v_10), (11, .int .i64 r_8.1), (14, .int .i64 r_12.1), (109, .bool v_20)], [(3, ⟨37, [.lit .i64 1, .int .i64 r_5.1.Takes, .int .i64 r_5.1.Blows.Low, .int .i64 r_5.1.Blows.High, .int .i64 r_5.1.Holds, .int .i64 r_5.1.Now.Low, .int .i64 r_5.1.Now.High], true⟩), (2, ⟨32, [sl_api_ClothTrack false r_4.Tracks, sl_api_ClothMeasure false r_4.Measures], true⟩)], [], 0⟩) ?_ ?_; all_goals clear h
        · intro x h R hR
          (conv => cbv)
          refine L_tst hI h (by subst_vars; rfl) ?_ ?_ <;> clear h <;> intro h
          · exact hR _ _ (Option.some.inj h).symm (by subst_vars; exact weak_l rfl rfl ⟨lR, lR, LV_sl, lE, lE, lE, lE, trivial⟩ ⟨lB ⟨lE, lE, lE, lE, lE, lE, lE, rfl⟩, lB ⟨LV_sl, LV_sl, rfl⟩, trivial⟩ trivial)
          · exact hR _ _ (Option.some.inj h).symm (by subst_vars; exact weak_l rfl rfl ⟨lR, lR, LV_sl, lE, lE, lE, lE, trivial⟩ ⟨lB ⟨lE, lE, lE, lE, lE, lE, lE, rfl⟩, lB ⟨LV_sl, LV_sl, rfl⟩, trivial⟩ trivial)
        · intro v_20 h
          (conv => cbv)
          refine L_tst hI h (by subst_vars; rfl) ?_ ?_ <;> clear h <;> intro h
          · cases h
            subst_vars
            exact ⟨lE, rfl⟩
          · refine W_unroll hI seat [1000006, 1000011, 1000012, 1000019, 1000022] (by kernel_rfl) 4 ?_; (conv => cbv)
            refine L_tst hI h (by subst_vars; rfl) ?_ ?_ <;> clear h <;> intro h
            · refine L_tst hI h (by subst_vars; rfl) ?_ ?_ <;> clear h <;> intro h
              · refine L_call hI h (fun v hv => w_top_firKnown02 N v hv) (by subst_vars; exact rfl) ?_; clear h; intro r_21 h; (conv => cbv)
                cases h
                subst_vars
                exact ⟨lE, rfl⟩
              · refine L_conj hI h (fun g => by subst_vars; exact g) ?_; clear h; intro hc h
                refine L_conj hI h (fun g => by subst_vars; exact g) ?_; clear h; intro hc h
                refine L_conj hI h (fun g => by subst_vars; exact g) ?_; clear h; intro hc h
                refine L_call hI h (fun v hv => w_top_firOwn N ((r_5.2.take (iopR .sub .i64 r_12.1 1).toNat).drop 0) v hv) (by subst_vars; exact ⟨(leD_refl _), rfl⟩) ?_; clear h; intro r_22 h; (conv => cbv)
                refine L_call hI h (fun v hv => w_stream_Most N (api_StreamMill.mk 1 r_5.1.Takes r_5.1.Blows r_5.1.Holds r_5.1.Now) r_22 v hv) (by subst_vars; exact ⟨⟨(leD_refl _), (leD_refl _), (leD_refl _), (leD_refl _), (leD_refl _), (leD_refl _), (leD_refl _), rfl⟩, (leD_refl _), rfl⟩) ?_; clear h; intro r_23 h; (conv => cbv)
                refine L_cut hI seat [1000006, 1000011, 1000012, 1000022] (by kernel_rfl) h (fun q => match q with | v_46 => .normal) (fun q => match q with | v_46 => ⟨185, [(7, .loc 2 0), (8, .loc 3 0), (9, sl_api_Span false r_5.2), (10, .int .i64 v_10), (11, .int .i64 r_8.1), (14, .int .i64 r_12.1), (18, .lit .i64 1), (19, sl_int false r_23.1), (157, .bool v_46)], [(3, ⟨37, [.lit .i64 1, .int .i64 r_5.1.Takes, .int .i64 r_5.1.Blows.Low, .int .i64 r_5.1.Blows.High, .int .i64 r_5.1.Holds, .int .i64 r_5.1.Now.Low, .int .i64 r_5.1.Now.High], true⟩), (2, ⟨32, [sl_api_ClothTrack false r_4.Tracks, sl_api_ClothMeasure false r_4.Measures], true⟩)], [], 0⟩) ?_ ?_; all_goals clear h
                · intro x h R hR
                  (conv => cbv)
                  refine L_tst hI h (by subst_vars; rfl) ?_ ?_ <;> clear h <;> intro h
                  · exact hR _ _ (Option.some.inj h).symm (by subst_vars; exact weak_l rfl rfl ⟨lR, lR, LV_sl, lE, lE, lE, lE, LV_sl, lE, trivial⟩ ⟨lB ⟨lE, lE, lE, lE, lE, lE, lE, rfl⟩, lB ⟨LV_sl, LV_sl, rfl⟩, trivial⟩ trivial)
                  · refine L_tst hI h (by subst_vars; rfl) ?_ ?_ <;> clear h <;> intro h
                    · exact hR _ _ (Option.some.inj h).symm (by subst_vars; exact weak_l rfl rfl ⟨lR, lR, LV_sl, lE, lE, lE, lE, LV_sl, lE, trivial⟩ ⟨lB ⟨lE, lE, lE, lE, lE, lE, lE, rfl⟩, lB ⟨LV_sl, LV_sl, rfl⟩, trivial⟩ trivial)
                    · refine L_call hI h (fun v hv => w_top_firSum N r_23.1 v hv) (by subst_vars; exact ⟨(leD_refl _), rfl⟩) ?_; clear h; intro r_47 h; (conv => cbv)
                      refine L_tst hI h (by subst_vars; rfl) ?_ ?_ <;> clear h <;> intro h
                      · exact hR _ _ (Option.some.inj h).symm (by subst_vars; exact weak_l rfl rfl ⟨lR, lR, LV_sl, lE, lE, lE, lE, LV_sl, lE, trivial⟩ ⟨lB ⟨lE, lE, lE, lE, lE, lE, lE, rfl⟩, lB ⟨LV_sl, LV_sl, rfl⟩, trivial⟩ trivial)
                      · refine L_call hI h (fun v hv => w_top_firSum N r_23.1 v hv) (by subst_vars; exact ⟨(leD_refl _), rfl⟩) ?_; clear h; intro r_48 h; (conv => cbv)
                        refine L_tst hI h (by subst_vars; rfl) ?_ ?_ <;> clear h <;> intro h
                        · exact hR _ _ (Option.some.inj h).symm (by subst_vars; exact weak_l rfl rfl ⟨lR, lR, LV_sl, lE, lE, lE, lE, LV_sl, lE, trivial⟩ ⟨lB ⟨lE, lE, lE, lE, lE, lE, lE, rfl⟩, lB ⟨LV_sl, LV_sl, rfl⟩, trivial⟩ trivial)
                        · refine L_call hI h (fun v hv => w_top_firSum N r_23.1 v hv) (by subst_vars; exact ⟨(leD_refl _), rfl⟩) ?_; clear h; intro r_49 h; (conv => cbv)
                          exact hR _ _ (Option.some.inj h).symm (by subst_vars; exact weak_l rfl rfl ⟨lR, lR, LV_sl, lE, lE, lE, lE, LV_sl, lE, trivial⟩ ⟨lB ⟨lE, lE, lE, lE, lE, lE, lE, rfl⟩, lB ⟨LV_sl, LV_sl, rfl⟩, trivial⟩ trivial)
                · intro v_46 h
                  (conv => cbv)
                  refine L_tst hI h (by subst_vars; rfl) ?_ ?_ <;> clear h <;> intro h
                  · cases h
                    subst_vars
                    exact ⟨lE, rfl⟩
                  · refine L_call hI h (fun v hv => w_top_firCloth N r_4 v hv) (by subst_vars; exact ⟨(leD_refl _), rfl⟩) ?_; clear h; intro r_50 h; (conv => cbv)
                    refine L_call hI h (fun v hv => w_top_firSum N r_23.1 v hv) (by subst_vars; exact ⟨(leD_refl _), rfl⟩) ?_; clear h; intro r_51 h; (conv => cbv)
                    refine L_call hI h (fun v hv => w_cloth_At N r_50 r_51 v hv) (by subst_vars; exact ⟨(leD_refl _), (leD_refl _), rfl⟩) ?_; clear h; intro r_52 h; (conv => cbv)
                    refine L_cut hI seat [1000006, 1000011, 1000012, 1000019] (by kernel_rfl) h (fun q => match q with | v_54 => .normal) (fun q => match q with | v_54 => ⟨185, [(7, .loc 2 0), (8, .loc 3 0), (9, sl_api_Span false r_5.2), (10, .int .i64 v_10), (11, .int .i64 r_8.1), (14, .int .i64 r_12.1), (18, .lit .i64 1), (183, .bool v_54)], [(3, ⟨37, [.lit .i64 1, .int .i64 r_5.1.Takes, .int .i64 r_5.1.Blows.Low, .int .i64 r_5.1.Blows.High, .int .i64 r_5.1.Holds, .int .i64 r_5.1.Now.Low, .int .i64 r_5.1.Now.High], true⟩), (2, ⟨32, [sl_api_ClothTrack false r_4.Tracks, sl_api_ClothMeasure false r_4.Measures], true⟩)], [], 0⟩) ?_ ?_; all_goals clear h
                    · intro x h R hR
                      (conv => cbv)
                      refine L_tst hI h (by subst_vars; rfl) ?_ ?_ <;> clear h <;> intro h
                      · exact hR _ _ (Option.some.inj h).symm (by subst_vars; exact weak_l rfl rfl ⟨lR, lR, LV_sl, lE, lE, lE, lE, lE, trivial⟩ ⟨lB ⟨lE, lE, lE, lE, lE, lE, lE, rfl⟩, lB ⟨LV_sl, LV_sl, rfl⟩, trivial⟩ trivial)
                      · refine L_tst hI h (by subst_vars; rfl) ?_ ?_ <;> clear h <;> intro h
                        · exact hR _ _ (Option.some.inj h).symm (by subst_vars; exact weak_l rfl rfl ⟨lR, lR, LV_sl, lE, lE, lE, lE, lE, trivial⟩ ⟨lB ⟨lE, lE, lE, lE, lE, lE, lE, rfl⟩, lB ⟨LV_sl, LV_sl, rfl⟩, trivial⟩ trivial)
                        · refine L_get hI h (fun g => by subst_vars; exact g) ?_; clear h; intro hc x_55 hxx_55 h
                          exact hR _ _ (Option.some.inj h).symm (by subst_vars; exact weak_l rfl rfl ⟨lR, lR, LV_sl, lE, lE, lE, lE, lE, trivial⟩ ⟨lB ⟨lE, lE, lE, lE, lE, lE, lE, rfl⟩, lB ⟨LV_sl, LV_sl, rfl⟩, trivial⟩ trivial)
                    · intro v_54 h
                      (conv => cbv)
                      refine L_tst hI h (by subst_vars; rfl) ?_ ?_ <;> clear h <;> intro h
                      · cases h
                        subst_vars
                        exact ⟨lE, rfl⟩
                      · refine L_call hI h (fun v hv => w_top_firKnown02 N v hv) (by subst_vars; exact rfl) ?_; clear h; intro r_56 h; (conv => cbv)
                        cases h
                        subst_vars
                        exact ⟨lE, rfl⟩
            · refine L_conj hI h (fun g => by subst_vars; exact g) ?_; clear h; intro hc h
              refine L_conj hI h (fun g => by subst_vars; exact g) ?_; clear h; intro hc h
              refine L_conj hI h (fun g => by subst_vars; exact g) ?_; clear h; intro hc h
              refine L_call hI h (fun v hv => w_top_firOwn N ((r_5.2.take (iopR .sub .i64 r_12.1 0).toNat).drop 0) v hv) (by subst_vars; exact ⟨(leD_refl _), rfl⟩) ?_; clear h; intro r_57 h; (conv => cbv)
              refine L_call hI h (fun v hv => w_stream_Most N (api_StreamMill.mk 1 r_5.1.Takes r_5.1.Blows r_5.1.Holds r_5.1.Now) r_57 v hv) (by subst_vars; exact ⟨⟨(leD_refl _), (leD_refl _), (leD_refl _), (leD_refl _), (leD_refl _), (leD_refl _), (leD_refl _), rfl⟩, (leD_refl _), rfl⟩) ?_; clear h; intro r_58 h; (conv => cbv)
              refine L_cut hI seat [1000006, 1000011, 1000012, 1000022] (by kernel_rfl) h (fun q => match q with | v_62 => .normal) (fun q => match q with | v_62 => ⟨185, [(7, .loc 2 0), (8, .loc 3 0), (9, sl_api_Span false r_5.2), (10, .int .i64 v_10), (11, .int .i64 r_8.1), (14, .int .i64 r_12.1), (18, .lit .i64 0), (19, sl_int false r_58.1), (157, .bool v_62)], [(3, ⟨37, [.lit .i64 1, .int .i64 r_5.1.Takes, .int .i64 r_5.1.Blows.Low, .int .i64 r_5.1.Blows.High, .int .i64 r_5.1.Holds, .int .i64 r_5.1.Now.Low, .int .i64 r_5.1.Now.High], true⟩), (2, ⟨32, [sl_api_ClothTrack false r_4.Tracks, sl_api_ClothMeasure false r_4.Measures], true⟩)], [], 0⟩) ?_ ?_; all_goals clear h
              · intro x h R hR
                (conv => cbv)
                refine L_tst hI h (by subst_vars; rfl) ?_ ?_ <;> clear h <;> intro h
                · exact hR _ _ (Option.some.inj h).symm (by subst_vars; exact weak_l rfl rfl ⟨lR, lR, LV_sl, lE, lE, lE, lE, LV_sl, lE, trivial⟩ ⟨lB ⟨lE, lE, lE, lE, lE, lE, lE, rfl⟩, lB ⟨LV_sl, LV_sl, rfl⟩, trivial⟩ trivial)
                · refine L_tst hI h (by subst_vars; rfl) ?_ ?_ <;> clear h <;> intro h
                  · exact hR _ _ (Option.some.inj h).symm (by subst_vars; exact weak_l rfl rfl ⟨lR, lR, LV_sl, lE, lE, lE, lE, LV_sl, lE, trivial⟩ ⟨lB ⟨lE, lE, lE, lE, lE, lE, lE, rfl⟩, lB ⟨LV_sl, LV_sl, rfl⟩, trivial⟩ trivial)
                  · refine L_call hI h (fun v hv => w_top_firSum N r_58.1 v hv) (by subst_vars; exact ⟨(leD_refl _), rfl⟩) ?_; clear h; intro r_63 h; (conv => cbv)
                    refine L_tst hI h (by subst_vars; rfl) ?_ ?_ <;> clear h <;> intro h
                    · exact hR _ _ (Option.some.inj h).symm (by subst_vars; exact weak_l rfl rfl ⟨lR, lR, LV_sl, lE, lE, lE, lE, LV_sl, lE, trivial⟩ ⟨lB ⟨lE, lE, lE, lE, lE, lE, lE, rfl⟩, lB ⟨LV_sl, LV_sl, rfl⟩, trivial⟩ trivial)
                    · refine L_call hI h (fun v hv => w_top_firSum N r_58.1 v hv) (by subst_vars; exact ⟨(leD_refl _), rfl⟩) ?_; clear h; intro r_64 h; (conv => cbv)
                      refine L_tst hI h (by subst_vars; rfl) ?_ ?_ <;> clear h <;> intro h
                      · exact hR _ _ (Option.some.inj h).symm (by subst_vars; exact weak_l rfl rfl ⟨lR, lR, LV_sl, lE, lE, lE, lE, LV_sl, lE, trivial⟩ ⟨lB ⟨lE, lE, lE, lE, lE, lE, lE, rfl⟩, lB ⟨LV_sl, LV_sl, rfl⟩, trivial⟩ trivial)
                      · refine L_call hI h (fun v hv => w_top_firSum N r_58.1 v hv) (by subst_vars; exact ⟨(leD_refl _), rfl⟩) ?_; clear h; intro r_65 h; (conv => cbv)
                        exact hR _ _ (Option.some.inj h).symm (by subst_vars; exact weak_l rfl rfl ⟨lR, lR, LV_sl, lE, lE, lE, lE, LV_sl, lE, trivial⟩ ⟨lB ⟨lE, lE, lE, lE, lE, lE, lE, rfl⟩, lB ⟨LV_sl, LV_sl, rfl⟩, trivial⟩ trivial)
              · intro v_62 h
                (conv => cbv)
                refine L_tst hI h (by subst_vars; rfl) ?_ ?_ <;> clear h <;> intro h
                · cases h
                  subst_vars
                  exact ⟨lE, rfl⟩
                · refine L_call hI h (fun v hv => w_top_firCloth N r_4 v hv) (by subst_vars; exact ⟨(leD_refl _), rfl⟩) ?_; clear h; intro r_66 h; (conv => cbv)
                  refine L_call hI h (fun v hv => w_top_firSum N r_58.1 v hv) (by subst_vars; exact ⟨(leD_refl _), rfl⟩) ?_; clear h; intro r_67 h; (conv => cbv)
                  refine L_call hI h (fun v hv => w_cloth_At N r_66 r_67 v hv) (by subst_vars; exact ⟨(leD_refl _), (leD_refl _), rfl⟩) ?_; clear h; intro r_68 h; (conv => cbv)
                  refine L_cut hI seat [1000006, 1000011, 1000012, 1000019] (by kernel_rfl) h (fun q => match q with | v_70 => .normal) (fun q => match q with | v_70 => ⟨185, [(7, .loc 2 0), (8, .loc 3 0), (9, sl_api_Span false r_5.2), (10, .int .i64 v_10), (11, .int .i64 r_8.1), (14, .int .i64 r_12.1), (18, .lit .i64 0), (183, .bool v_70)], [(3, ⟨37, [.lit .i64 1, .int .i64 r_5.1.Takes, .int .i64 r_5.1.Blows.Low, .int .i64 r_5.1.Blows.High, .int .i64 r_5.1.Holds, .int .i64 r_5.1.Now.Low, .int .i64 r_5.1.Now.High], true⟩), (2, ⟨32, [sl_api_ClothTrack false r_4.Tracks, sl_api_ClothMeasure false r_4.Measures], true⟩)], [], 0⟩) ?_ ?_; all_goals clear h
                  · intro x h R hR
                    (conv => cbv)
                    refine L_tst hI h (by subst_vars; rfl) ?_ ?_ <;> clear h <;> intro h
                    · exact hR _ _ (Option.some.inj h).symm (by subst_vars; exact weak_l rfl rfl ⟨lR, lR, LV_sl, lE, lE, lE, lE, lE, trivial⟩ ⟨lB ⟨lE, lE, lE, lE, lE, lE, lE, rfl⟩, lB ⟨LV_sl, LV_sl, rfl⟩, trivial⟩ trivial)
                    · refine L_tst hI h (by subst_vars; rfl) ?_ ?_ <;> clear h <;> intro h
                      · exact hR _ _ (Option.some.inj h).symm (by subst_vars; exact weak_l rfl rfl ⟨lR, lR, LV_sl, lE, lE, lE, lE, lE, trivial⟩ ⟨lB ⟨lE, lE, lE, lE, lE, lE, lE, rfl⟩, lB ⟨LV_sl, LV_sl, rfl⟩, trivial⟩ trivial)
                      · refine L_get hI h (fun g => by subst_vars; exact g) ?_; clear h; intro hc x_71 hxx_71 h
                        exact hR _ _ (Option.some.inj h).symm (by subst_vars; exact weak_l rfl rfl ⟨lR, lR, LV_sl, lE, lE, lE, lE, lE, trivial⟩ ⟨lB ⟨lE, lE, lE, lE, lE, lE, lE, rfl⟩, lB ⟨LV_sl, LV_sl, rfl⟩, trivial⟩ trivial)
                  · intro v_70 h
                    (conv => cbv)
                    refine L_tst hI h (by subst_vars; rfl) ?_ ?_ <;> clear h <;> intro h
                    · cases h
                      subst_vars
                      exact ⟨lE, rfl⟩
                    · refine L_tst hI h (by subst_vars; rfl) ?_ ?_ <;> clear h <;> intro h
                      · refine L_call hI h (fun v hv => w_top_firKnown02 N v hv) (by subst_vars; exact rfl) ?_; clear h; intro r_72 h; (conv => cbv)
                        cases h
                        subst_vars
                        exact ⟨lE, rfl⟩
                      · refine L_conj hI h (fun g => by subst_vars; exact g) ?_; clear h; intro hc h
                        refine L_conj hI h (fun g => by subst_vars; exact g) ?_; clear h; intro hc h
                        refine L_conj hI h (fun g => by subst_vars; exact g) ?_; clear h; intro hc h
                        refine L_call hI h (fun v hv => w_top_firOwn N ((r_5.2.take (iopR .sub .i64 r_12.1 1).toNat).drop 0) v hv) (by subst_vars; exact ⟨(leD_refl _), rfl⟩) ?_; clear h; intro r_73 h; (conv => cbv)
                        refine L_call hI h (fun v hv => w_stream_Most N (api_StreamMill.mk 1 r_5.1.Takes r_5.1.Blows r_5.1.Holds r_5.1.Now) r_73 v hv) (by subst_vars; exact ⟨⟨(leD_refl _), (leD_refl _), (leD_refl _), (leD_refl _), (leD_refl _), (leD_refl _), (leD_refl _), rfl⟩, (leD_refl _), rfl⟩) ?_; clear h; intro r_74 h; (conv => cbv)
                        refine L_cut hI seat [1000006, 1000011, 1000012, 1000022] (by kernel_rfl) h (fun q => match q with | v_78 => .normal) (fun q => match q with | v_78 => ⟨185, [(7, .loc 2 0), (8, .loc 3 0), (9, sl_api_Span false r_5.2), (10, .int .i64 v_10), (11, .int .i64 r_8.1), (14, .int .i64 r_12.1), (18, .lit .i64 1), (19, sl_int false r_74.1), (157, .bool v_78)], [(3, ⟨37, [.lit .i64 1, .int .i64 r_5.1.Takes, .int .i64 r_5.1.Blows.Low, .int .i64 r_5.1.Blows.High, .int .i64 r_5.1.Holds, .int .i64 r_5.1.Now.Low, .int .i64 r_5.1.Now.High], true⟩), (2, ⟨32, [sl_api_ClothTrack false r_4.Tracks, sl_api_ClothMeasure false r_4.Measures], true⟩)], [], 0⟩) ?_ ?_; all_goals clear h
                        · intro x h R hR
                          (conv => cbv)
                          refine L_tst hI h (by subst_vars; rfl) ?_ ?_ <;> clear h <;> intro h
                          · exact hR _ _ (Option.some.inj h).symm (by subst_vars; exact weak_l rfl rfl ⟨lR, lR, LV_sl, lE, lE, lE, lE, LV_sl, lE, trivial⟩ ⟨lB ⟨lE, lE, lE, lE, lE, lE, lE, rfl⟩, lB ⟨LV_sl, LV_sl, rfl⟩, trivial⟩ trivial)
                          · refine L_tst hI h (by subst_vars; rfl) ?_ ?_ <;> clear h <;> intro h
                            · exact hR _ _ (Option.some.inj h).symm (by subst_vars; exact weak_l rfl rfl ⟨lR, lR, LV_sl, lE, lE, lE, lE, LV_sl, lE, trivial⟩ ⟨lB ⟨lE, lE, lE, lE, lE, lE, lE, rfl⟩, lB ⟨LV_sl, LV_sl, rfl⟩, trivial⟩ trivial)
                            · refine L_call hI h (fun v hv => w_top_firSum N r_74.1 v hv) (by subst_vars; exact ⟨(leD_refl _), rfl⟩) ?_; clear h; intro r_79 h; (conv => cbv)
                              refine L_tst hI h (by subst_vars; rfl) ?_ ?_ <;> clear h <;> intro h
                              · exact hR _ _ (Option.some.inj h).symm (by subst_vars; exact weak_l rfl rfl ⟨lR, lR, LV_sl, lE, lE, lE, lE, LV_sl, lE, trivial⟩ ⟨lB ⟨lE, lE, lE, lE, lE, lE, lE, rfl⟩, lB ⟨LV_sl, LV_sl, rfl⟩, trivial⟩ trivial)
                              · refine L_call hI h (fun v hv => w_top_firSum N r_74.1 v hv) (by subst_vars; exact ⟨(leD_refl _), rfl⟩) ?_; clear h; intro r_80 h; (conv => cbv)
                                refine L_tst hI h (by subst_vars; rfl) ?_ ?_ <;> clear h <;> intro h
                                · exact hR _ _ (Option.some.inj h).symm (by subst_vars; exact weak_l rfl rfl ⟨lR, lR, LV_sl, lE, lE, lE, lE, LV_sl, lE, trivial⟩ ⟨lB ⟨lE, lE, lE, lE, lE, lE, lE, rfl⟩, lB ⟨LV_sl, LV_sl, rfl⟩, trivial⟩ trivial)
                                · refine L_call hI h (fun v hv => w_top_firSum N r_74.1 v hv) (by subst_vars; exact ⟨(leD_refl _), rfl⟩) ?_; clear h; intro r_81 h; (conv => cbv)
                                  exact hR _ _ (Option.some.inj h).symm (by subst_vars; exact weak_l rfl rfl ⟨lR, lR, LV_sl, lE, lE, lE, lE, LV_sl, lE, trivial⟩ ⟨lB ⟨lE, lE, lE, lE, lE, lE, lE, rfl⟩, lB ⟨LV_sl, LV_sl, rfl⟩, trivial⟩ trivial)
                        · intro v_78 h
                          (conv => cbv)
                          refine L_tst hI h (by subst_vars; rfl) ?_ ?_ <;> clear h <;> intro h
                          · cases h
                            subst_vars
                            exact ⟨lE, rfl⟩
                          · refine L_call hI h (fun v hv => w_top_firCloth N r_4 v hv) (by subst_vars; exact ⟨(leD_refl _), rfl⟩) ?_; clear h; intro r_82 h; (conv => cbv)
                            refine L_call hI h (fun v hv => w_top_firSum N r_74.1 v hv) (by subst_vars; exact ⟨(leD_refl _), rfl⟩) ?_; clear h; intro r_83 h; (conv => cbv)
                            refine L_call hI h (fun v hv => w_cloth_At N r_82 r_83 v hv) (by subst_vars; exact ⟨(leD_refl _), (leD_refl _), rfl⟩) ?_; clear h; intro r_84 h; (conv => cbv)
                            refine L_cut hI seat [1000006, 1000011, 1000012, 1000019] (by kernel_rfl) h (fun q => match q with | v_86 => .normal) (fun q => match q with | v_86 => ⟨185, [(7, .loc 2 0), (8, .loc 3 0), (9, sl_api_Span false r_5.2), (10, .int .i64 v_10), (11, .int .i64 r_8.1), (14, .int .i64 r_12.1), (18, .lit .i64 1), (183, .bool v_86)], [(3, ⟨37, [.lit .i64 1, .int .i64 r_5.1.Takes, .int .i64 r_5.1.Blows.Low, .int .i64 r_5.1.Blows.High, .int .i64 r_5.1.Holds, .int .i64 r_5.1.Now.Low, .int .i64 r_5.1.Now.High], true⟩), (2, ⟨32, [sl_api_ClothTrack false r_4.Tracks, sl_api_ClothMeasure false r_4.Measures], true⟩)], [], 0⟩) ?_ ?_; all_goals clear h
                            · intro x h R hR
                              (conv => cbv)
                              refine L_tst hI h (by subst_vars; rfl) ?_ ?_ <;> clear h <;> intro h
                              · exact hR _ _ (Option.some.inj h).symm (by subst_vars; exact weak_l rfl rfl ⟨lR, lR, LV_sl, lE, lE, lE, lE, lE, trivial⟩ ⟨lB ⟨lE, lE, lE, lE, lE, lE, lE, rfl⟩, lB ⟨LV_sl, LV_sl, rfl⟩, trivial⟩ trivial)
                              · refine L_tst hI h (by subst_vars; rfl) ?_ ?_ <;> clear h <;> intro h
                                · exact hR _ _ (Option.some.inj h).symm (by subst_vars; exact weak_l rfl rfl ⟨lR, lR, LV_sl, lE, lE, lE, lE, lE, trivial⟩ ⟨lB ⟨lE, lE, lE, lE, lE, lE, lE, rfl⟩, lB ⟨LV_sl, LV_sl, rfl⟩, trivial⟩ trivial)
                                · refine L_get hI h (fun g => by subst_vars; exact g) ?_; clear h; intro hc x_87 hxx_87 h
                                  exact hR _ _ (Option.some.inj h).symm (by subst_vars; exact weak_l rfl rfl ⟨lR, lR, LV_sl, lE, lE, lE, lE, lE, trivial⟩ ⟨lB ⟨lE, lE, lE, lE, lE, lE, lE, rfl⟩, lB ⟨LV_sl, LV_sl, rfl⟩, trivial⟩ trivial)
                            · intro v_86 h
                              (conv => cbv)
                              refine L_tst hI h (by subst_vars; rfl) ?_ ?_ <;> clear h <;> intro h
                              · cases h
                                subst_vars
                                exact ⟨lE, rfl⟩
                              · refine L_call hI h (fun v hv => w_top_firKnown02 N v hv) (by subst_vars; exact rfl) ?_; clear h; intro r_88 h; (conv => cbv)
                                cases h
                                subst_vars
                                exact ⟨lE, rfl⟩
end Go.Proofs.Ytelnoeamkdpjhaa.Aw
