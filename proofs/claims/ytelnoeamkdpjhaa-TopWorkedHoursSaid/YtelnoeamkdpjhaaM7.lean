/- Part 7 of the proof: lemmas. -/
import Derived.Test.YtelnoeamkdpjhaaM6

/- Plain models and walks for the tops of cloth and stream. Printed by wip/gen/pm.py. -/
namespace Go.Proofs.Ytelnoeamkdpjhaa.Aw
open Go Go.RowKit Go.Proofs
set_option maxRecDepth 100000
set_option maxHeartbeats 20000000
set_option linter.unusedSimpArgs false
set_option linter.unusedVariables false
theorem w_stream_newMiller (N : Nat) (p_1 : stream_valley) (hours_2 : Int) (o : stream_miller) (h : m_stream_newMiller N p_1 hours_2 = some o) :
    KC Try.prog 29 [.agg [.int .i64 p_1.StreamMill.Hammers, .int .i64 p_1.StreamMill.Takes, .int .i64 p_1.StreamMill.Blows.Low, .int .i64 p_1.StreamMill.Blows.High, .int .i64 p_1.StreamMill.Holds, .int .i64 p_1.StreamMill.Now.Low, .int .i64 p_1.StreamMill.Now.High, sl_api_Span false p_1.flows], .int .i64 hours_2] (.agg [.int .i64 o.valley.StreamMill.Hammers, .int .i64 o.valley.StreamMill.Takes, .int .i64 o.valley.StreamMill.Blows.Low, .int .i64 o.valley.StreamMill.Blows.High, .int .i64 o.valley.StreamMill.Holds, .int .i64 o.valley.StreamMill.Now.Low, .int .i64 o.valley.StreamMill.Now.High, sl_api_Span false o.valley.flows, .osl 0]) [⟨0, 0, [.mp (stream_spot × Int) (d_stream_spot, 0) o.known me_stream_spot_int], true, true⟩] := by
  unfold m_stream_newMiller at h
  refine con_l [2] [] seat Try.func29 rfl ent_29 (by kernel_rfl) rfl rfl (by simp) ?_; intro base I hI; (conv => cbv)
  refine L_conj hI h (fun g => by subst_vars; exact g) ?_; clear h; intro hc h
  refine L_conj hI h (fun g => by subst_vars; exact g) ?_; clear h; intro hc h
  refine L_conj hI h (fun g => by subst_vars; exact g) ?_; clear h; intro hc h
  cases h
  subst_vars
  exact ⟨(LV_agg ⟨lE, lE, lE, lE, lE, lE, lE, LV_sl, lE, rfl⟩), (by first | rfl | (simp only [List.map_cons, List.map_nil, KRow.row, rowsD, KP.rows, KV.toDLL, List.map_append, List.append_nil, List.nil_append, List.append_assoc, List.singleton_append, List.cons_append]; rfl))⟩
theorem w_stream_miller_after (N : Nat) (x_1 : stream_miller) (s_2 : stream_spot) (hammers_3 : Int) (o : stream_spot) (h : m_stream_miller_after N x_1 s_2 hammers_3 = some o) :
    KC Try.prog 31 [.agg [.int .i64 x_1.valley.StreamMill.Hammers, .int .i64 x_1.valley.StreamMill.Takes, .int .i64 x_1.valley.StreamMill.Blows.Low, .int .i64 x_1.valley.StreamMill.Blows.High, .int .i64 x_1.valley.StreamMill.Holds, .int .i64 x_1.valley.StreamMill.Now.Low, .int .i64 x_1.valley.StreamMill.Now.High, sl_api_Span false x_1.valley.flows, mp_stream_spot_int x_1.known], .agg [.int .i64 s_2.hour, .int .i64 s_2.water], .int .i64 hammers_3] (.agg [.int .i64 o.hour, .int .i64 o.water]) [] := by
  unfold m_stream_miller_after at h
  refine con_l [] [] seat Try.func31 rfl ent_31 (by kernel_rfl) rfl rfl (by simp) ?_; intro base I hI; (conv => cbv)
  refine L_get hI h (fun g => by subst_vars; exact g) ?_; clear h; intro hc x_4 hxx_4 h
  cases h
  subst_vars
  exact ⟨(LV_agg ⟨lE, lE, rfl⟩), rfl⟩
theorem wB_stream_miller_most (N : Nat) (rec_0 : stream_miller → stream_spot → Option (Int × (List (stream_spot × Int)))) (hrec : ∀ (x_1 : stream_miller) (s_2 : stream_spot) (o : Int × (List (stream_spot × Int))), rec_0 x_1 s_2 = some o → KCW Try.prog 30 [.agg [.int .i64 x_1.valley.StreamMill.Hammers, .int .i64 x_1.valley.StreamMill.Takes, .int .i64 x_1.valley.StreamMill.Blows.Low, .int .i64 x_1.valley.StreamMill.Blows.High, .int .i64 x_1.valley.StreamMill.Holds, .int .i64 x_1.valley.StreamMill.Now.Low, .int .i64 x_1.valley.StreamMill.Now.High, sl_api_Span false x_1.valley.flows, .osl 100], .agg [.int .i64 s_2.hour, .int .i64 s_2.water]] [] [⟨0, 0, [.mp (stream_spot × Int) (d_stream_spot, 0) x_1.known me_stream_spot_int], true, true⟩] (.int .i64 o.1) [] [⟨0, 0, [.mp (stream_spot × Int) (d_stream_spot, 0) o.2 me_stream_spot_int], true, true⟩]) (x_1 : stream_miller) (s_2 : stream_spot) (o : Int × (List (stream_spot × Int))) (h : m_stream_miller_most_B N rec_0 x_1 s_2 = some o) :
    KCW Try.prog 30 [.agg [.int .i64 x_1.valley.StreamMill.Hammers, .int .i64 x_1.valley.StreamMill.Takes, .int .i64 x_1.valley.StreamMill.Blows.Low, .int .i64 x_1.valley.StreamMill.Blows.High, .int .i64 x_1.valley.StreamMill.Holds, .int .i64 x_1.valley.StreamMill.Now.Low, .int .i64 x_1.valley.StreamMill.Now.High, sl_api_Span false x_1.valley.flows, .osl 100], .agg [.int .i64 s_2.hour, .int .i64 s_2.water]] [] [⟨0, 0, [.mp (stream_spot × Int) (d_stream_spot, 0) x_1.known me_stream_spot_int], true, true⟩] (.int .i64 o.1) [] [⟨0, 0, [.mp (stream_spot × Int) (d_stream_spot, 0) o.2 me_stream_spot_int], true, true⟩] := by
  unfold m_stream_miller_most_B at h
  refine con_w [2000039, 5000030] seat Try.func30 rfl ent_30 (by kernel_rfl) rfl rfl rfl rfl ?_; intro yl I PW hI hPW; subst hPW; (conv => cbv)
  refine L_tst hI h (by subst_vars; rfl) ?_ ?_ <;> clear h <;> intro h
  · cases h
    subst_vars
    first | exact ⟨rfl, rfl, (by first | rfl | (simp only [rowsD, KP.rows, KV.toDLL, List.map_append, List.map_cons, List.map_nil, List.append_nil, List.nil_append, List.append_assoc, List.singleton_append, List.cons_append, List.map_replicate]; rfl) | (simp only [primK, rowsD, KP.rows, KV.toDLL, List.map_append, List.map_cons, List.map_nil, List.append_nil, List.map_replicate]; rfl))⟩ | exact ⟨rfl, (by first | rfl | (simp only [rowsD, KP.rows, KV.toDLL, List.map_append, List.map_cons, List.map_nil, List.append_nil, List.nil_append, List.append_assoc, List.singleton_append, List.cons_append, List.map_replicate]; rfl) | (simp only [primK, rowsD, KP.rows, KV.toDLL, List.map_append, List.map_cons, List.map_nil, List.append_nil, List.map_replicate]; rfl))⟩ | exact (by first | rfl | (simp only [rowsD, KP.rows, KV.toDLL, List.map_append, List.map_cons, List.map_nil, List.append_nil, List.nil_append, List.append_assoc, List.singleton_append, List.cons_append, List.map_replicate]; rfl) | (simp only [primK, rowsD, KP.rows, KV.toDLL, List.map_append, List.map_cons, List.map_nil, List.append_nil, List.map_replicate]; rfl))
  · replace h := letO_of h; obtain ⟨x_3, hex_3, h⟩ := h
    replace h := letO_of h; obtain ⟨has_4, hehas_4, h⟩ := h
    refine K_mget hI menc_stream_spot_int (d := (d_stream_spot, 0)) x_1.known s_2 0 hex_3 hehas_4 (by subst_vars; first | rfl | (simp only [rowsD, KP.rows, KV.toDLL, List.map_append, List.map_cons, List.map_nil, List.append_nil, List.nil_append, List.append_assoc, List.singleton_append, List.cons_append, List.map_replicate]; rfl) | (simp only [primK, rowsD, KP.rows, KV.toDLL, List.map_append, List.map_cons, List.map_nil, List.append_nil, List.map_replicate]; rfl)) (by subst_vars; rfl) rfl ?_; (conv => cbv)
    refine L_tst hI h (by subst_vars; rfl) ?_ ?_ <;> clear h <;> intro h
    · cases h
      subst_vars
      first | exact ⟨rfl, rfl, (by first | rfl | (simp only [rowsD, KP.rows, KV.toDLL, List.map_append, List.map_cons, List.map_nil, List.append_nil, List.nil_append, List.append_assoc, List.singleton_append, List.cons_append, List.map_replicate]; rfl) | (simp only [primK, rowsD, KP.rows, KV.toDLL, List.map_append, List.map_cons, List.map_nil, List.append_nil, List.map_replicate]; rfl))⟩ | exact ⟨rfl, (by first | rfl | (simp only [rowsD, KP.rows, KV.toDLL, List.map_append, List.map_cons, List.map_nil, List.append_nil, List.nil_append, List.append_assoc, List.singleton_append, List.cons_append, List.map_replicate]; rfl) | (simp only [primK, rowsD, KP.rows, KV.toDLL, List.map_append, List.map_cons, List.map_nil, List.append_nil, List.map_replicate]; rfl))⟩ | exact (by first | rfl | (simp only [rowsD, KP.rows, KV.toDLL, List.map_append, List.map_cons, List.map_nil, List.append_nil, List.nil_append, List.append_assoc, List.singleton_append, List.cons_append, List.map_replicate]; rfl) | (simp only [primK, rowsD, KP.rows, KV.toDLL, List.map_append, List.map_cons, List.map_nil, List.append_nil, List.map_replicate]; rfl))
    · replace h := letO_of h; obtain ⟨v_5, hev_5, h⟩ := h
      refine L_loop hI seat [2000039, 5000030] (by kernel_rfl) h (fun q => match q with | (best_11, v_12, l_13) => ⟨53, [(2, .loc 0 0), (3, .loc 1 0), (4, .int .i64 best_11), (29, .int .i64 v_5), (30, .int .i64 v_12)], [(1, ⟨89, [.int .i64 s_2.hour, .int .i64 s_2.water], true⟩), (0, ⟨85, [.int .i64 x_1.valley.StreamMill.Hammers, .int .i64 x_1.valley.StreamMill.Takes, .int .i64 x_1.valley.StreamMill.Blows.Low, .int .i64 x_1.valley.StreamMill.Blows.High, .int .i64 x_1.valley.StreamMill.Holds, .int .i64 x_1.valley.StreamMill.Now.Low, .int .i64 x_1.valley.StreamMill.Now.High, sl_api_Span false x_1.valley.flows, .osl 100], true⟩)], [(100, ⟨0, 0, [.mp (stream_spot × Int) (d_stream_spot, 0) l_13 me_stream_spot_int], true, true⟩)], 0⟩) (fun q => match q with | (best_19, l_20) => .exit 0) (fun q => match q with | (best_19, l_20) => ⟨53, [(2, .loc 0 0), (3, .loc 1 0), (4, .int .i64 best_19)], [(1, ⟨89, [.int .i64 s_2.hour, .int .i64 s_2.water], true⟩), (0, ⟨85, [.int .i64 x_1.valley.StreamMill.Hammers, .int .i64 x_1.valley.StreamMill.Takes, .int .i64 x_1.valley.StreamMill.Blows.Low, .int .i64 x_1.valley.StreamMill.Blows.High, .int .i64 x_1.valley.StreamMill.Holds, .int .i64 x_1.valley.StreamMill.Now.Low, .int .i64 x_1.valley.StreamMill.Now.High, sl_api_Span false x_1.valley.flows, .osl 100], true⟩)], [(100, ⟨0, 0, [.mp (stream_spot × Int) (d_stream_spot, 0) l_20 me_stream_spot_int], true, true⟩)], 0⟩) (by subst_vars; exact weak_l rfl rfl ⟨lR, lR, lE, lE, lE, trivial⟩ ⟨lB ⟨lE, lE, rfl⟩, lB ⟨lE, lE, lE, lE, lE, lE, lE, LV_sl, lR, rfl⟩, trivial⟩ ⟨lO, trivial⟩) (by intro q; rcases q with ⟨best_19, l_20⟩ <;> (intro e; exact Exit.noConfusion e)) ?_ ?_; all_goals clear h
      · intro q x h R hR hX
        obtain ⟨best_11, v_12, l_13⟩ := q
        rw [m_stream_miller_most_L1] at h
        (conv => cbv)
        refine L_tst hI h (by subst_vars; rfl) ?_ ?_ <;> clear h <;> intro h
        · refine L_call hI h (fun v hv => w_stream_miller_after N (stream_miller.mk x_1.valley l_13) s_2 v_12 v hv) (by subst_vars; exact ⟨⟨(leD_refl _), (leD_refl _), (leD_refl _), (leD_refl _), (leD_refl _), (leD_refl _), (leD_refl _), ⟨.inl rfl, rfl, leDLL_refl _⟩, (leD_refl _), rfl⟩, (leD_refl _), (leD_refl _), rfl⟩) ?_; clear h; intro r_21 h; (conv => cbv)
          refine L_cut hI seat [5000030] (by kernel_rfl) h (fun q => match q with | (best_23, l_24) => .normal) (fun q => match q with | (best_23, l_24) => ⟨53, [(2, .loc 0 0), (3, .loc 1 0), (4, .int .i64 best_23), (29, .int .i64 v_5), (30, .int .i64 v_12)], [(1, ⟨89, [.int .i64 s_2.hour, .int .i64 s_2.water], true⟩), (0, ⟨85, [.int .i64 x_1.valley.StreamMill.Hammers, .int .i64 x_1.valley.StreamMill.Takes, .int .i64 x_1.valley.StreamMill.Blows.Low, .int .i64 x_1.valley.StreamMill.Blows.High, .int .i64 x_1.valley.StreamMill.Holds, .int .i64 x_1.valley.StreamMill.Now.Low, .int .i64 x_1.valley.StreamMill.Now.High, sl_api_Span false x_1.valley.flows, .osl 100], true⟩)], [(100, ⟨0, 0, [.mp (stream_spot × Int) (d_stream_spot, 0) l_24 me_stream_spot_int], true, true⟩)], 0⟩) ?_ ?_; all_goals clear h
          · intro x h R hR
            (conv => cbv)
            refine L_tst hI h (by subst_vars; rfl) ?_ ?_ <;> clear h <;> intro h
            · refine L_callW hI h (fun v hv => hrec (stream_miller.mk x_1.valley l_13) r_21 v hv) (by subst_vars; exact ⟨⟨(leA_refl _), (leA_refl _), (leA_refl _), (leA_refl _), (leA_refl _), (leA_refl _), (leA_refl _), ⟨.inl rfl, rfl, leDLL_refl _⟩, rfl, rfl⟩, (leA_refl _), rfl⟩) (by subst_vars; rfl) (by subst_vars; first | rfl | (simp only [rowsD, KP.rows, KV.toDLL, List.map_append, List.map_cons, List.map_nil, List.append_nil, List.nil_append, List.append_assoc, List.singleton_append, List.cons_append, List.map_replicate]; rfl) | (simp only [primK, rowsD, KP.rows, KV.toDLL, List.map_append, List.map_cons, List.map_nil, List.append_nil, List.map_replicate]; rfl)) ?_; clear h; intro r_25 h; (conv => cbv)
              refine K_conj hI (by rw [hI]; exact (numsW_mp _ (fun _ => rfl))) ?_; (conv => cbv)
              exact hR _ _ (Option.some.inj h).symm (by subst_vars; exact weak_l rfl rfl ⟨lR, lR, lE, lE, lE, trivial⟩ ⟨lB ⟨lE, lE, rfl⟩, lB ⟨lE, lE, lE, lE, lE, lE, lE, LV_sl, lR, rfl⟩, trivial⟩ ⟨lO, trivial⟩)
            · exact hR _ _ (Option.some.inj h).symm (by subst_vars; exact weak_l rfl rfl ⟨lR, lR, lE, lE, lE, trivial⟩ ⟨lB ⟨lE, lE, rfl⟩, lB ⟨lE, lE, lE, lE, lE, lE, lE, LV_sl, lR, rfl⟩, trivial⟩ ⟨lO, trivial⟩)
          · intro q h
            rcases q with ⟨best_23, l_24⟩
            (conv => cbv)
            exact hR _ _ (Option.some.inj h).symm (by subst_vars; exact weak_l rfl rfl ⟨lR, lR, lE, lE, lE, trivial⟩ ⟨lB ⟨lE, lE, rfl⟩, lB ⟨lE, lE, lE, lE, lE, lE, lE, LV_sl, lR, rfl⟩, trivial⟩ ⟨lO, trivial⟩)
        · exact hX _ _ (Option.some.inj h).symm (by subst_vars; exact weak_l rfl rfl ⟨lR, lR, lE, trivial⟩ ⟨lB ⟨lE, lE, rfl⟩, lB ⟨lE, lE, lE, lE, lE, lE, lE, LV_sl, lR, rfl⟩, trivial⟩ ⟨lO, trivial⟩)
      · intro q h
        rcases q with ⟨best_19, l_20⟩
        (conv => cbv)
        replace h := letO_of h; obtain ⟨l_26, hel_26, h⟩ := h
        refine K_mset hI menc_stream_spot_int (d := (d_stream_spot, 0)) l_20 s_2 best_19 l_26 hel_26 (by subst_vars; first | rfl | (simp only [rowsD, KP.rows, KV.toDLL, List.map_append, List.map_cons, List.map_nil, List.append_nil, List.nil_append, List.append_assoc, List.singleton_append, List.cons_append, List.map_replicate]; rfl) | (simp only [primK, rowsD, KP.rows, KV.toDLL, List.map_append, List.map_cons, List.map_nil, List.append_nil, List.map_replicate]; rfl)) (by subst_vars; rfl) (by subst_vars; rfl) ?_; (conv => cbv)
        cases h
        subst_vars
        first | exact ⟨rfl, rfl, (by first | rfl | (simp only [rowsD, KP.rows, KV.toDLL, List.map_append, List.map_cons, List.map_nil, List.append_nil, List.nil_append, List.append_assoc, List.singleton_append, List.cons_append, List.map_replicate]; rfl) | (simp only [primK, rowsD, KP.rows, KV.toDLL, List.map_append, List.map_cons, List.map_nil, List.append_nil, List.map_replicate]; rfl))⟩ | exact ⟨rfl, (by first | rfl | (simp only [rowsD, KP.rows, KV.toDLL, List.map_append, List.map_cons, List.map_nil, List.append_nil, List.nil_append, List.append_assoc, List.singleton_append, List.cons_append, List.map_replicate]; rfl) | (simp only [primK, rowsD, KP.rows, KV.toDLL, List.map_append, List.map_cons, List.map_nil, List.append_nil, List.map_replicate]; rfl))⟩ | exact (by first | rfl | (simp only [rowsD, KP.rows, KV.toDLL, List.map_append, List.map_cons, List.map_nil, List.append_nil, List.nil_append, List.append_assoc, List.singleton_append, List.cons_append, List.map_replicate]; rfl) | (simp only [primK, rowsD, KP.rows, KV.toDLL, List.map_append, List.map_cons, List.map_nil, List.append_nil, List.map_replicate]; rfl))
theorem w_stream_miller_most : ∀ (N : Nat) (x_1 : stream_miller) (s_2 : stream_spot) (o : Int × (List (stream_spot × Int))) (h : m_stream_miller_most N x_1 s_2 = some o),
    KCW Try.prog 30 [.agg [.int .i64 x_1.valley.StreamMill.Hammers, .int .i64 x_1.valley.StreamMill.Takes, .int .i64 x_1.valley.StreamMill.Blows.Low, .int .i64 x_1.valley.StreamMill.Blows.High, .int .i64 x_1.valley.StreamMill.Holds, .int .i64 x_1.valley.StreamMill.Now.Low, .int .i64 x_1.valley.StreamMill.Now.High, sl_api_Span false x_1.valley.flows, .osl 100], .agg [.int .i64 s_2.hour, .int .i64 s_2.water]] [] [⟨0, 0, [.mp (stream_spot × Int) (d_stream_spot, 0) x_1.known me_stream_spot_int], true, true⟩] (.int .i64 o.1) [] [⟨0, 0, [.mp (stream_spot × Int) (d_stream_spot, 0) o.2 me_stream_spot_int], true, true⟩]
  | 0, _, _, _, h => by cases h
  | N + 1, x_1, s_2, o, h => wB_stream_miller_most N (m_stream_miller_most N) (w_stream_miller_most N) x_1 s_2 o h
theorem w_stream_Most (N : Nat) (p_1 : api_StreamMill) (p_2 : (List api_Span)) (o : (List Int) × Int) (h : m_stream_Most N p_1 p_2 = some o) :
    KC Try.prog 12 [.agg [.int .i64 p_1.Hammers, .int .i64 p_1.Takes, .int .i64 p_1.Blows.Low, .int .i64 p_1.Blows.High, .int .i64 p_1.Holds, .int .i64 p_1.Now.Low, .int .i64 p_1.Now.High], sl_api_Span false p_2] (.tup [sl_int false o.1, .int .i64 o.2]) [] := by
  unfold m_stream_Most at h
  refine con_l [] [1000009, 1000014, 5000030, 7000000, 8000009, 8000014] seat Try.func12 rfl ent_12 (by kernel_rfl) rfl rfl (by simp) ?_; intro base I hI; (conv => cbv)
  refine L_call hI h (fun v hv => w_stream_open N p_1 p_2 v hv) (by subst_vars; exact ⟨(leD_refl _), (leD_refl _), rfl⟩) ?_; clear h; intro r_3 h; (conv => cbv)
  refine L_tst hI h (by subst_vars; rfl) ?_ ?_ <;> clear h <;> intro h
  · cases h
    subst_vars
    exact ⟨(LV_tup ⟨LV_nil, lE, rfl⟩), rfl⟩
  · refine L_call hI h (fun v hv => w_stream_newMiller N r_3.1 ((p_2.length : Nat) : Int) v hv) (by subst_vars; exact ⟨(leD_refl _), (leD_refl _), rfl⟩) ?_; clear h; intro r_4 h; (conv => cbv)
    refine L_loop hI seat [1000009, 1000014, 5000030, 7000000, 8000009, 8000014] (by kernel_rfl) h (fun q => match q with | (v_37, v_38, l_39, v_40) => ⟨67, [(1, sl_api_Span false p_2), (4, .osl 5), (7, .loc 3 0), (8, .loc 4 0)], [(4, ⟨89, [.int .i64 v_37, .int .i64 v_38], true⟩), (3, ⟨85, [.int .i64 r_4.valley.StreamMill.Hammers, .int .i64 r_4.valley.StreamMill.Takes, .int .i64 r_4.valley.StreamMill.Blows.Low, .int .i64 r_4.valley.StreamMill.Blows.High, .int .i64 r_4.valley.StreamMill.Holds, .int .i64 r_4.valley.StreamMill.Now.Low, .int .i64 r_4.valley.StreamMill.Now.High, sl_api_Span false r_4.valley.flows, .osl 2], true⟩)], [(2, ⟨0, 0, [.mp (stream_spot × Int) (d_stream_spot, 0) l_39 me_stream_spot_int], true, true⟩), (5, ⟨3, 1, [.ls Int 0 v_40 e_int], false, true⟩)], 0⟩) (fun q => match q with | v_74 => .exit 0) (fun q => match q with | v_74 => ⟨67, [(4, .osl 5)], [], [(5, ⟨3, 1, [.ls Int 0 v_74 e_int], false, true⟩)], 0⟩) (by subst_vars; exact (weak_nil 4 5 3 1 rfl rfl rfl rfl).trans (weak_l rfl rfl ⟨LV_sl, lR, lR, lR, trivial⟩ ⟨lB ⟨lE, lE, rfl⟩, lB ⟨lE, lE, lE, lE, lE, lE, lE, LV_sl, lR, rfl⟩, trivial⟩ ⟨lO, lO, trivial⟩)) (by intro q; rcases q with v_74 <;> (intro e; exact Exit.noConfusion e)) ?_ ?_; all_goals clear h
    · intro q x h R hR hX
      obtain ⟨v_37, v_38, l_39, v_40⟩ := q
      rw [m_stream_Most_L1] at h
      (conv => cbv)
      refine L_tst hI h (by subst_vars; rfl) ?_ ?_ <;> clear h <;> intro h
      · refine L_call hI h (fun v hv => w_stream_miller_after N (stream_miller.mk r_4.valley l_39) (stream_spot.mk v_37 v_38) 0 v hv) (by subst_vars; exact ⟨⟨(leD_refl _), (leD_refl _), (leD_refl _), (leD_refl _), (leD_refl _), (leD_refl _), (leD_refl _), ⟨.inl rfl, rfl, leDLL_refl _⟩, (leD_refl _), rfl⟩, ⟨(leD_refl _), (leD_refl _), rfl⟩, (leD_refl _), rfl⟩) ?_; clear h; intro r_75 h; (conv => cbv)
        refine L_loop hI seat [1000009, 1000014, 5000030, 7000000, 8000009, 8000014] (by kernel_rfl) h (fun q => match q with | (v_83, v_84, v_85, l_86) => ⟨67, [(1, sl_api_Span false p_2), (4, .osl 5), (7, .loc 3 0), (8, .loc 4 0), (9, .int .i64 v_83), (10, .loc 6 0)], [(6, ⟨89, [.int .i64 v_84, .int .i64 v_85], true⟩), (4, ⟨89, [.int .i64 v_37, .int .i64 v_38], true⟩), (3, ⟨85, [.int .i64 r_4.valley.StreamMill.Hammers, .int .i64 r_4.valley.StreamMill.Takes, .int .i64 r_4.valley.StreamMill.Blows.Low, .int .i64 r_4.valley.StreamMill.Blows.High, .int .i64 r_4.valley.StreamMill.Holds, .int .i64 r_4.valley.StreamMill.Now.Low, .int .i64 r_4.valley.StreamMill.Now.High, sl_api_Span false r_4.valley.flows, .osl 2], true⟩)], [(2, ⟨0, 0, [.mp (stream_spot × Int) (d_stream_spot, 0) l_86 me_stream_spot_int], true, true⟩), (5, ⟨3, 1, [.ls Int 0 v_40 e_int], false, true⟩)], 0⟩) (fun q => match q with | (v_94, l_95) => .exit 2) (fun q => match q with | (v_94, l_95) => ⟨67, [(1, sl_api_Span false p_2), (4, .osl 5), (7, .loc 3 0), (8, .loc 4 0), (9, .int .i64 v_94)], [(4, ⟨89, [.int .i64 v_37, .int .i64 v_38], true⟩), (3, ⟨85, [.int .i64 r_4.valley.StreamMill.Hammers, .int .i64 r_4.valley.StreamMill.Takes, .int .i64 r_4.valley.StreamMill.Blows.Low, .int .i64 r_4.valley.StreamMill.Blows.High, .int .i64 r_4.valley.StreamMill.Holds, .int .i64 r_4.valley.StreamMill.Now.Low, .int .i64 r_4.valley.StreamMill.Now.High, sl_api_Span false r_4.valley.flows, .osl 2], true⟩)], [(2, ⟨0, 0, [.mp (stream_spot × Int) (d_stream_spot, 0) l_95 me_stream_spot_int], true, true⟩), (5, ⟨3, 1, [.ls Int 0 v_40 e_int], false, true⟩)], 0⟩) (by subst_vars; exact weak_l rfl rfl ⟨LV_sl, lR, lR, lR, lE, lR, trivial⟩ ⟨lB ⟨lE, lE, rfl⟩, lB ⟨lE, lE, rfl⟩, lB ⟨lE, lE, lE, lE, lE, lE, lE, LV_sl, lR, rfl⟩, trivial⟩ ⟨lO, lO, trivial⟩) (by intro q; rcases q with ⟨v_94, l_95⟩ <;> (intro e; exact Exit.noConfusion e)) ?_ ?_; all_goals clear h
        · intro q x h R hR hX
          obtain ⟨v_83, v_84, v_85, l_86⟩ := q
          rw [m_stream_Most_L2] at h
          (conv => cbv)
          refine L_cut hI seat [1000014, 5000030, 7000000, 8000009, 8000014] (by kernel_rfl) h (fun q => match q with | (v_98, l_99) => .normal) (fun q => match q with | (v_98, l_99) => ⟨67, [(1, sl_api_Span false p_2), (4, .osl 5), (7, .loc 3 0), (8, .loc 4 0), (9, .int .i64 v_83), (10, .loc 6 0), (49, .bool v_98)], [(6, ⟨89, [.int .i64 v_84, .int .i64 v_85], true⟩), (4, ⟨89, [.int .i64 v_37, .int .i64 v_38], true⟩), (3, ⟨85, [.int .i64 r_4.valley.StreamMill.Hammers, .int .i64 r_4.valley.StreamMill.Takes, .int .i64 r_4.valley.StreamMill.Blows.Low, .int .i64 r_4.valley.StreamMill.Blows.High, .int .i64 r_4.valley.StreamMill.Holds, .int .i64 r_4.valley.StreamMill.Now.Low, .int .i64 r_4.valley.StreamMill.Now.High, sl_api_Span false r_4.valley.flows, .osl 2], true⟩)], [(2, ⟨0, 0, [.mp (stream_spot × Int) (d_stream_spot, 0) l_99 me_stream_spot_int], true, true⟩), (5, ⟨3, 1, [.ls Int 0 v_40 e_int], false, true⟩)], 0⟩) ?_ ?_; all_goals clear h
          · intro x h R hR
            (conv => cbv)
            replace h := tst_of h; rcases h with ⟨hc1, h⟩ | ⟨hc1, h⟩
            · repeat' (first | (refine K_conj hI (show I.rnone from by rw [hI]; rfl) ?_; (conv => cbv)) | (refine K_tst_t hI hc1 (by subst_vars; rfl) ?_; (conv => cbv)) | (exact hR _ _ (Option.some.inj h).symm (by subst_vars; exact weak_l rfl rfl ⟨LV_sl, lR, lR, lR, lE, lR, lE, trivial⟩ ⟨lB ⟨lE, lE, rfl⟩, lB ⟨lE, lE, rfl⟩, lB ⟨lE, lE, lE, lE, lE, lE, lE, LV_sl, lR, rfl⟩, trivial⟩ ⟨lO, lO, trivial⟩)) | (refine K_conj hI ?_ ?_))
            · replace h := bind_of h; obtain ⟨r_100, hb3, h⟩ := h
              replace h := bind_of h; obtain ⟨r_101, hb5, h⟩ := h
              repeat' (first | (refine K_conj hI (show I.rnone from by rw [hI]; rfl) ?_; (conv => cbv)) | (refine K_tst_f hI hc1 (by subst_vars; rfl) ?_; (conv => cbv)) | (refine CW_le hI (w_stream_miller_most N (stream_miller.mk r_4.valley l_86) (stream_spot.mk v_84 v_85) r_100 hb3) (by subst_vars; exact ⟨⟨(leA_refl _), (leA_refl _), (leA_refl _), (leA_refl _), (leA_refl _), (leA_refl _), (leA_refl _), ⟨.inl rfl, rfl, leDLL_refl _⟩, rfl, rfl⟩, ⟨(leA_refl _), (leA_refl _), rfl⟩, rfl⟩) (by subst_vars; rfl) (by subst_vars; first | rfl | (simp only [rowsD, KP.rows, KV.toDLL, List.map_append, List.map_cons, List.map_nil, List.append_nil, List.nil_append, List.append_assoc, List.singleton_append, List.cons_append, List.map_replicate]; rfl) | (simp only [primK, rowsD, KP.rows, KV.toDLL, List.map_append, List.map_cons, List.map_nil, List.append_nil, List.map_replicate]; rfl)) ?_; (conv => cbv)) | (refine K_conj hI (by rw [hI]; exact (numsW_mp _ (fun _ => rfl))) ?_; (conv => cbv)) | (refine CW_le hI (w_stream_miller_most N (stream_miller.mk r_4.valley r_100.2) (stream_spot.mk v_37 v_38) r_101 hb5) (by subst_vars; exact ⟨⟨(leA_refl _), (leA_refl _), (leA_refl _), (leA_refl _), (leA_refl _), (leA_refl _), (leA_refl _), ⟨.inl rfl, rfl, leDLL_refl _⟩, rfl, rfl⟩, ⟨(leA_refl _), (leA_refl _), rfl⟩, rfl⟩) (by subst_vars; rfl) (by subst_vars; first | rfl | (simp only [rowsD, KP.rows, KV.toDLL, List.map_append, List.map_cons, List.map_nil, List.append_nil, List.nil_append, List.append_assoc, List.singleton_append, List.cons_append, List.map_replicate]; rfl) | (simp only [primK, rowsD, KP.rows, KV.toDLL, List.map_append, List.map_cons, List.map_nil, List.append_nil, List.map_replicate]; rfl)) ?_; (conv => cbv)) | (refine K_conj hI (by rw [hI]; exact (numsW_mp _ (fun _ => rfl))) ?_; (conv => cbv)) | (exact hR _ _ (Option.some.inj h).symm (by subst_vars; exact weak_l rfl rfl ⟨LV_sl, lR, lR, lR, lE, lR, lE, trivial⟩ ⟨lB ⟨lE, lE, rfl⟩, lB ⟨lE, lE, rfl⟩, lB ⟨lE, lE, lE, lE, lE, lE, lE, LV_sl, lR, rfl⟩, trivial⟩ ⟨lO, lO, trivial⟩)) | (refine K_conj hI ?_ ?_))
          · intro q h
            rcases q with ⟨v_98, l_99⟩
            (conv => cbv)
            refine L_tst hI h (by subst_vars; rfl) ?_ ?_ <;> clear h <;> intro h
            · refine L_call hI h (fun v hv => w_stream_miller_after N (stream_miller.mk r_4.valley l_99) (stream_spot.mk v_37 v_38) (iopR .add .i64 v_83 1) v hv) (by subst_vars; exact ⟨⟨(leD_refl _), (leD_refl _), (leD_refl _), (leD_refl _), (leD_refl _), (leD_refl _), (leD_refl _), ⟨.inl rfl, rfl, leDLL_refl _⟩, (leD_refl _), rfl⟩, ⟨(leD_refl _), (leD_refl _), rfl⟩, (leD_refl _), rfl⟩) ?_; clear h; intro r_102 h; (conv => cbv)
              exact hR _ _ (Option.some.inj h).symm (by first | exact (by apply Weak.trans (S' := KSt.st ⟨67, [(1, sl_api_Span false p_2), (4, .osl 5), (7, .loc 3 0), (8, .loc 4 0), (9, .int .i64 (iopR .add .i64 v_83 1)), (10, .loc 6 0), (49, .tt), (54, .int .i64 v_83), (55, .int .i64 (iopR .add .i64 v_83 1)), (56, .agg [.int .i64 v_84, .int .i64 v_85]), (50, .agg [.int .i64 r_4.valley.StreamMill.Hammers, .int .i64 r_4.valley.StreamMill.Takes, .int .i64 r_4.valley.StreamMill.Blows.Low, .int .i64 r_4.valley.StreamMill.Blows.High, .int .i64 r_4.valley.StreamMill.Holds, .int .i64 r_4.valley.StreamMill.Now.Low, .int .i64 r_4.valley.StreamMill.Now.High, sl_api_Span false r_4.valley.flows, .osl 2]), (51, .agg [.int .i64 v_37, .int .i64 v_38]), (52, .int .i64 (iopR .add .i64 v_83 1)), (53, .agg [.int .i64 r_102.hour, .int .i64 r_102.water])], [(4, ⟨89, [.int .i64 v_37, .int .i64 v_38], true⟩), (3, ⟨85, [.int .i64 r_4.valley.StreamMill.Hammers, .int .i64 r_4.valley.StreamMill.Takes, .int .i64 r_4.valley.StreamMill.Blows.Low, .int .i64 r_4.valley.StreamMill.Blows.High, .int .i64 r_4.valley.StreamMill.Holds, .int .i64 r_4.valley.StreamMill.Now.Low, .int .i64 r_4.valley.StreamMill.Now.High, sl_api_Span false r_4.valley.flows, .osl 2], true⟩), (6, ⟨89, [.int .i64 r_102.hour, .int .i64 r_102.water], true⟩)], [(2, ⟨0, 0, [.mp (stream_spot × Int) (d_stream_spot, 0) l_99 me_stream_spot_int], true, true⟩), (5, ⟨3, 1, [.ls Int 0 v_40 e_int], false, true⟩)], 0⟩); exact weak_renK [(6, 7), (4, 4), (3, 3)] (S' := ⟨67, [(1, sl_api_Span false p_2), (4, .osl 5), (7, .loc 3 0), (8, .loc 4 0), (9, .int .i64 (iopR .add .i64 v_83 1)), (10, .loc 6 0), (49, .tt), (54, .int .i64 v_83), (55, .int .i64 (iopR .add .i64 v_83 1)), (56, .agg [.int .i64 v_84, .int .i64 v_85]), (50, .agg [.int .i64 r_4.valley.StreamMill.Hammers, .int .i64 r_4.valley.StreamMill.Takes, .int .i64 r_4.valley.StreamMill.Blows.Low, .int .i64 r_4.valley.StreamMill.Blows.High, .int .i64 r_4.valley.StreamMill.Holds, .int .i64 r_4.valley.StreamMill.Now.Low, .int .i64 r_4.valley.StreamMill.Now.High, sl_api_Span false r_4.valley.flows, .osl 2]), (51, .agg [.int .i64 v_37, .int .i64 v_38]), (52, .int .i64 (iopR .add .i64 v_83 1)), (53, .agg [.int .i64 r_102.hour, .int .i64 r_102.water])], [(4, ⟨89, [.int .i64 v_37, .int .i64 v_38], true⟩), (3, ⟨85, [.int .i64 r_4.valley.StreamMill.Hammers, .int .i64 r_4.valley.StreamMill.Takes, .int .i64 r_4.valley.StreamMill.Blows.Low, .int .i64 r_4.valley.StreamMill.Blows.High, .int .i64 r_4.valley.StreamMill.Holds, .int .i64 r_4.valley.StreamMill.Now.Low, .int .i64 r_4.valley.StreamMill.Now.High, sl_api_Span false r_4.valley.flows, .osl 2], true⟩), (6, ⟨89, [.int .i64 r_102.hour, .int .i64 r_102.water], true⟩)], [(2, ⟨0, 0, [.mp (stream_spot × Int) (d_stream_spot, 0) l_99 me_stream_spot_int], true, true⟩), (5, ⟨3, 1, [.ls Int 0 v_40 e_int], false, true⟩)], 0⟩) rfl rfl rfl rfl ⟨rfl, rfl, rfl, rfl, rfl, rfl, rfl, rfl, rfl, rfl, rfl, rfl, rfl, rfl, trivial⟩ ⟨rfl, rfl, rfl, trivial⟩ ⟨rfl, rfl, trivial⟩; subst_vars; exact weak_l rfl rfl ⟨LV_sl, lR, lR, lR, lE, lR, trivial⟩ ⟨lB ⟨lE, lE, rfl⟩, lB ⟨lE, lE, rfl⟩, lB ⟨lE, lE, lE, lE, lE, lE, lE, LV_sl, lR, rfl⟩, trivial⟩ ⟨lO, lO, trivial⟩) | (subst_vars; exact (by apply Weak.trans (S' := KSt.st ⟨67, [(1, sl_api_Span false p_2), (4, .osl 5), (7, .loc 3 0), (8, .loc 4 0), (9, .int .i64 (iopR .add .i64 v_83 1)), (10, .loc 6 0), (49, .tt), (54, .int .i64 v_83), (55, .int .i64 (iopR .add .i64 v_83 1)), (56, .agg [.int .i64 v_84, .int .i64 v_85]), (50, .agg [.int .i64 r_4.valley.StreamMill.Hammers, .int .i64 r_4.valley.StreamMill.Takes, .int .i64 r_4.valley.StreamMill.Blows.Low, .int .i64 r_4.valley.StreamMill.Blows.High, .int .i64 r_4.valley.StreamMill.Holds, .int .i64 r_4.valley.StreamMill.Now.Low, .int .i64 r_4.valley.StreamMill.Now.High, sl_api_Span false r_4.valley.flows, .osl 2]), (51, .agg [.int .i64 v_37, .int .i64 v_38]), (52, .int .i64 (iopR .add .i64 v_83 1)), (53, .agg [.int .i64 r_102.hour, .int .i64 r_102.water])], [(4, ⟨89, [.int .i64 v_37, .int .i64 v_38], true⟩), (3, ⟨85, [.int .i64 r_4.valley.StreamMill.Hammers, .int .i64 r_4.valley.StreamMill.Takes, .int .i64 r_4.valley.StreamMill.Blows.Low, .int .i64 r_4.valley.StreamMill.Blows.High, .int .i64 r_4.valley.StreamMill.Holds, .int .i64 r_4.valley.StreamMill.Now.Low, .int .i64 r_4.valley.StreamMill.Now.High, sl_api_Span false r_4.valley.flows, .osl 2], true⟩), (6, ⟨89, [.int .i64 r_102.hour, .int .i64 r_102.water], true⟩)], [(2, ⟨0, 0, [.mp (stream_spot × Int) (d_stream_spot, 0) l_99 me_stream_spot_int], true, true⟩), (5, ⟨3, 1, [.ls Int 0 v_40 e_int], false, true⟩)], 0⟩); exact weak_renK [(6, 7), (4, 4), (3, 3)] (S' := ⟨67, [(1, sl_api_Span false p_2), (4, .osl 5), (7, .loc 3 0), (8, .loc 4 0), (9, .int .i64 (iopR .add .i64 v_83 1)), (10, .loc 6 0), (49, .tt), (54, .int .i64 v_83), (55, .int .i64 (iopR .add .i64 v_83 1)), (56, .agg [.int .i64 v_84, .int .i64 v_85]), (50, .agg [.int .i64 r_4.valley.StreamMill.Hammers, .int .i64 r_4.valley.StreamMill.Takes, .int .i64 r_4.valley.StreamMill.Blows.Low, .int .i64 r_4.valley.StreamMill.Blows.High, .int .i64 r_4.valley.StreamMill.Holds, .int .i64 r_4.valley.StreamMill.Now.Low, .int .i64 r_4.valley.StreamMill.Now.High, sl_api_Span false r_4.valley.flows, .osl 2]), (51, .agg [.int .i64 v_37, .int .i64 v_38]), (52, .int .i64 (iopR .add .i64 v_83 1)), (53, .agg [.int .i64 r_102.hour, .int .i64 r_102.water])], [(4, ⟨89, [.int .i64 v_37, .int .i64 v_38], true⟩), (3, ⟨85, [.int .i64 r_4.valley.StreamMill.Hammers, .int .i64 r_4.valley.StreamMill.Takes, .int .i64 r_4.valley.StreamMill.Blows.Low, .int .i64 r_4.valley.StreamMill.Blows.High, .int .i64 r_4.valley.StreamMill.Holds, .int .i64 r_4.valley.StreamMill.Now.Low, .int .i64 r_4.valley.StreamMill.Now.High, sl_api_Span false r_4.valley.flows, .osl 2], true⟩), (6, ⟨89, [.int .i64 r_102.hour, .int .i64 r_102.water], true⟩)], [(2, ⟨0, 0, [.mp (stream_spot × Int) (d_stream_spot, 0) l_99 me_stream_spot_int], true, true⟩), (5, ⟨3, 1, [.ls Int 0 v_40 e_int], false, true⟩)], 0⟩) rfl rfl rfl rfl ⟨rfl, rfl, rfl, rfl, rfl, rfl, rfl, rfl, rfl, rfl, rfl, rfl, rfl, rfl, trivial⟩ ⟨rfl, rfl, rfl, trivial⟩ ⟨rfl, rfl, trivial⟩; subst_vars; exact weak_l rfl rfl ⟨LV_sl, lR, lR, lR, lE, lR, trivial⟩ ⟨lB ⟨lE, lE, rfl⟩, lB ⟨lE, lE, rfl⟩, lB ⟨lE, lE, lE, lE, lE, lE, lE, LV_sl, lR, rfl⟩, trivial⟩ ⟨lO, lO, trivial⟩)))
            · exact hX _ _ (Option.some.inj h).symm (by subst_vars; exact weak_l rfl rfl ⟨LV_sl, lR, lR, lR, lE, trivial⟩ ⟨lB ⟨lE, lE, rfl⟩, lB ⟨lE, lE, lE, lE, lE, lE, lE, LV_sl, lR, rfl⟩, trivial⟩ ⟨lO, lO, trivial⟩)
        · intro q h
          rcases q with ⟨v_94, l_95⟩
          (conv => cbv)
          replace h := letO_of h; obtain ⟨l_106, hel_106, h⟩ := h
          refine L_cut hI seat [1000009, 5000030, 7000000, 8000009, 8000014] (by kernel_rfl) h (fun q => match q with | (v_104, v_105) => .normal) (fun q => match q with | (v_104, v_105) => ⟨67, [(1, sl_api_Span false p_2), (4, .osl 5), (7, .loc 3 0), (8, .loc 4 0)], [(4, ⟨89, [.int .i64 v_104, .int .i64 v_105], true⟩), (3, ⟨85, [.int .i64 r_4.valley.StreamMill.Hammers, .int .i64 r_4.valley.StreamMill.Takes, .int .i64 r_4.valley.StreamMill.Blows.Low, .int .i64 r_4.valley.StreamMill.Blows.High, .int .i64 r_4.valley.StreamMill.Holds, .int .i64 r_4.valley.StreamMill.Now.Low, .int .i64 r_4.valley.StreamMill.Now.High, sl_api_Span false r_4.valley.flows, .osl 2], true⟩)], [(2, ⟨0, 0, [.mp (stream_spot × Int) (d_stream_spot, 0) l_95 me_stream_spot_int], true, true⟩), (5, ⟨3, 1, [.ls Int 0 l_106 e_int], false, true⟩)], 0⟩) ?_ ?_; all_goals clear h
          · intro x h R hR
            (conv => cbv)
            replace h := guard_of h; obtain ⟨hc1, h⟩ := h
            replace h := bind_of h; obtain ⟨r_107, hb2, h⟩ := h
            repeat' (first | (refine K_conj hI (show I.rnone from by rw [hI]; rfl) ?_; (conv => cbv)) | (refine K_conj hI ((fun g => by subst_vars; exact g) hc1) ?_) | (refine C_le hI (w_stream_miller_after N (stream_miller.mk r_4.valley l_95) (stream_spot.mk v_37 v_38) v_94 r_107 hb2) (by subst_vars; exact ⟨⟨(leD_refl _), (leD_refl _), (leD_refl _), (leD_refl _), (leD_refl _), (leD_refl _), (leD_refl _), ⟨.inl rfl, rfl, leDLL_refl _⟩, (leD_refl _), rfl⟩, ⟨(leD_refl _), (leD_refl _), rfl⟩, (leD_refl _), rfl⟩) ?_; (conv => cbv)) | (exact hR _ _ (Option.some.inj h).symm (by subst_vars; exact weak_l rfl rfl ⟨LV_sl, lR, lR, lR, trivial⟩ ⟨lB ⟨lE, lE, rfl⟩, lB ⟨lE, lE, lE, lE, lE, lE, lE, LV_sl, lR, rfl⟩, trivial⟩ ⟨lO, lO, trivial⟩)) | (refine K_conj hI ?_ ?_))
          · intro q h
            rcases q with ⟨v_104, v_105⟩
            (conv => cbv)
            exact hR _ _ (Option.some.inj h).symm (by first | exact (by apply Weak.trans (S' := KSt.st ⟨67, [(1, sl_api_Span false p_2), (4, .osl 5), (7, .loc 3 0), (8, .loc 4 0), (65, .agg [.int .i64 v_104, .int .i64 v_105])], [(3, ⟨85, [.int .i64 r_4.valley.StreamMill.Hammers, .int .i64 r_4.valley.StreamMill.Takes, .int .i64 r_4.valley.StreamMill.Blows.Low, .int .i64 r_4.valley.StreamMill.Blows.High, .int .i64 r_4.valley.StreamMill.Holds, .int .i64 r_4.valley.StreamMill.Now.Low, .int .i64 r_4.valley.StreamMill.Now.High, sl_api_Span false r_4.valley.flows, .osl 2], true⟩), (4, ⟨89, [.int .i64 v_104, .int .i64 v_105], true⟩)], [(2, ⟨0, 0, [.mp (stream_spot × Int) (d_stream_spot, 0) l_95 me_stream_spot_int], true, true⟩), (5, ⟨3, 1, [.ls Int 0 l_106 e_int], false, true⟩)], 0⟩); exact weak_renK [(4, 6), (3, 3)] (S' := ⟨67, [(1, sl_api_Span false p_2), (4, .osl 5), (7, .loc 3 0), (8, .loc 4 0), (65, .agg [.int .i64 v_104, .int .i64 v_105])], [(3, ⟨85, [.int .i64 r_4.valley.StreamMill.Hammers, .int .i64 r_4.valley.StreamMill.Takes, .int .i64 r_4.valley.StreamMill.Blows.Low, .int .i64 r_4.valley.StreamMill.Blows.High, .int .i64 r_4.valley.StreamMill.Holds, .int .i64 r_4.valley.StreamMill.Now.Low, .int .i64 r_4.valley.StreamMill.Now.High, sl_api_Span false r_4.valley.flows, .osl 2], true⟩), (4, ⟨89, [.int .i64 v_104, .int .i64 v_105], true⟩)], [(2, ⟨0, 0, [.mp (stream_spot × Int) (d_stream_spot, 0) l_95 me_stream_spot_int], true, true⟩), (5, ⟨3, 1, [.ls Int 0 l_106 e_int], false, true⟩)], 0⟩) rfl rfl rfl rfl ⟨rfl, rfl, rfl, rfl, rfl, trivial⟩ ⟨rfl, rfl, trivial⟩ ⟨rfl, rfl, trivial⟩; subst_vars; exact weak_l rfl rfl ⟨LV_sl, lR, lR, lR, trivial⟩ ⟨lB ⟨lE, lE, rfl⟩, lB ⟨lE, lE, lE, lE, lE, lE, lE, LV_sl, lR, rfl⟩, trivial⟩ ⟨lO, lO, trivial⟩) | (subst_vars; exact (by apply Weak.trans (S' := KSt.st ⟨67, [(1, sl_api_Span false p_2), (4, .osl 5), (7, .loc 3 0), (8, .loc 4 0), (65, .agg [.int .i64 v_104, .int .i64 v_105])], [(3, ⟨85, [.int .i64 r_4.valley.StreamMill.Hammers, .int .i64 r_4.valley.StreamMill.Takes, .int .i64 r_4.valley.StreamMill.Blows.Low, .int .i64 r_4.valley.StreamMill.Blows.High, .int .i64 r_4.valley.StreamMill.Holds, .int .i64 r_4.valley.StreamMill.Now.Low, .int .i64 r_4.valley.StreamMill.Now.High, sl_api_Span false r_4.valley.flows, .osl 2], true⟩), (4, ⟨89, [.int .i64 v_104, .int .i64 v_105], true⟩)], [(2, ⟨0, 0, [.mp (stream_spot × Int) (d_stream_spot, 0) l_95 me_stream_spot_int], true, true⟩), (5, ⟨3, 1, [.ls Int 0 l_106 e_int], false, true⟩)], 0⟩); exact weak_renK [(4, 6), (3, 3)] (S' := ⟨67, [(1, sl_api_Span false p_2), (4, .osl 5), (7, .loc 3 0), (8, .loc 4 0), (65, .agg [.int .i64 v_104, .int .i64 v_105])], [(3, ⟨85, [.int .i64 r_4.valley.StreamMill.Hammers, .int .i64 r_4.valley.StreamMill.Takes, .int .i64 r_4.valley.StreamMill.Blows.Low, .int .i64 r_4.valley.StreamMill.Blows.High, .int .i64 r_4.valley.StreamMill.Holds, .int .i64 r_4.valley.StreamMill.Now.Low, .int .i64 r_4.valley.StreamMill.Now.High, sl_api_Span false r_4.valley.flows, .osl 2], true⟩), (4, ⟨89, [.int .i64 v_104, .int .i64 v_105], true⟩)], [(2, ⟨0, 0, [.mp (stream_spot × Int) (d_stream_spot, 0) l_95 me_stream_spot_int], true, true⟩), (5, ⟨3, 1, [.ls Int 0 l_106 e_int], false, true⟩)], 0⟩) rfl rfl rfl rfl ⟨rfl, rfl, rfl, rfl, rfl, trivial⟩ ⟨rfl, rfl, trivial⟩ ⟨rfl, rfl, trivial⟩; subst_vars; exact weak_l rfl rfl ⟨LV_sl, lR, lR, lR, trivial⟩ ⟨lB ⟨lE, lE, rfl⟩, lB ⟨lE, lE, lE, lE, lE, lE, lE, LV_sl, lR, rfl⟩, trivial⟩ ⟨lO, lO, trivial⟩)))
      · exact hX _ _ (Option.some.inj h).symm (by subst_vars; exact weak_l rfl rfl ⟨lR, trivial⟩ trivial ⟨lO, trivial⟩)
    · intro v_74 h
      (conv => cbv)
      cases h
      subst_vars
      exact ⟨(LV_tup ⟨LV_sl, lE, rfl⟩), rfl⟩
end Go.Proofs.Ytelnoeamkdpjhaa.Aw

/- Plain models and walks for the tops of cloth and stream. Printed by wip/gen/pm.py. -/
namespace Go.Proofs.Ytelnoeamkdpjhaa.Aw
open Go Go.RowKit Go.Proofs
set_option maxRecDepth 100000
set_option maxHeartbeats 4000000
set_option linter.unusedSimpArgs false
set_option linter.unusedVariables false
theorem w_top_firSame (N : Nat) (a_1 : (List Int)) (b_2 : (List Int)) (o : Bool) (h : m_top_firSame N a_1 b_2 = some o) :
    KC Try.prog 32 [sl_int false a_1, sl_int false b_2] (.bool o) [] := by
  unfold m_top_firSame at h
  refine con_l [] [] seat Try.func32 rfl ent_32 (by kernel_rfl) rfl rfl (by simp) ?_; intro base I hI; (conv => cbv)
  refine L_tst hI h (by subst_vars; rfl) ?_ ?_ <;> clear h <;> intro h
  · cases h
    subst_vars
    exact ⟨lE, rfl⟩
  · refine L_loop hI seat [] (by kernel_rfl) h (fun q => match q with | i_5 => ⟨26, [(0, sl_int false a_1), (1, sl_int false b_2), (5, .int .i64 i_5)], [], [], 0⟩) (fun q => match q with | (.inl ()) => .ret | (.inr ()) => .exit 0) (fun q => match q with | (.inl ()) => ⟨26, [(4, .ff)], [], [], 0⟩ | (.inr ()) => ⟨26, [], [], [], 0⟩) (by subst_vars; exact weak_l rfl rfl ⟨LV_sl, LV_sl, lE, trivial⟩ trivial trivial) (by intro q; rcases q with (_ | _) <;> (intro e; exact Exit.noConfusion e)) ?_ ?_; all_goals clear h
    · intro i_5 x h R hR hX
      rw [m_top_firSame_L1] at h
      (conv => cbv)
      refine L_tst hI h (by subst_vars; rfl) ?_ ?_ <;> clear h <;> intro h
      · refine L_get hI h (fun g => by subst_vars; exact g) ?_; clear h; intro hc x_8 hxx_8 h
        refine L_get hI h (fun g => by subst_vars; exact g) ?_; clear h; intro hc x_9 hxx_9 h
        refine L_tst hI h (by subst_vars; rfl) ?_ ?_ <;> clear h <;> intro h
        · exact hX _ _ (Option.some.inj h).symm (by subst_vars; exact weak_l rfl rfl ⟨lE, trivial⟩ trivial trivial)
        · exact hR _ _ (Option.some.inj h).symm (by subst_vars; exact weak_l rfl rfl ⟨LV_sl, LV_sl, lE, trivial⟩ trivial trivial)
      · exact hX _ _ (Option.some.inj h).symm (by subst_vars; exact weak_l rfl rfl trivial trivial trivial)
    · intro q h
      rcases q with (_ | _)
      · (conv => cbv)
        cases h
        subst_vars
        exact ⟨lE, rfl⟩
      · (conv => cbv)
        cases h
        subst_vars
        exact ⟨lE, rfl⟩
theorem w_top_firKnown02 (N : Nat)  (o : Bool) (h : m_top_firKnown02 N  = some o) :
    KC Try.prog 14 [] (.bool o) [] := by
  unfold m_top_firKnown02 at h
  refine con_l [] [1000003] seat Try.func14 rfl ent_14 (by kernel_rfl) rfl rfl (by simp) ?_; intro base I hI; (conv => cbv)
  refine L_call hI h (fun v hv => w_top_firSpan N 30 40 v hv) (by subst_vars; exact ⟨(leD_refl _), (leD_refl _), rfl⟩) ?_; clear h; intro r_1 h; (conv => cbv)
  refine L_call hI h (fun v hv => w_top_firSpan N 20 25 v hv) (by subst_vars; exact ⟨(leD_refl _), (leD_refl _), rfl⟩) ?_; clear h; intro r_2 h; (conv => cbv)
  refine L_call hI h (fun v hv => w_top_firSpan N 10 20 v hv) (by subst_vars; exact ⟨(leD_refl _), (leD_refl _), rfl⟩) ?_; clear h; intro r_3 h; (conv => cbv)
  refine L_call hI h (fun v hv => w_top_firSpan N 0 5 v hv) (by subst_vars; exact ⟨(leD_refl _), (leD_refl _), rfl⟩) ?_; clear h; intro r_4 h; (conv => cbv)
  refine L_call hI h (fun v hv => w_top_firSpan N 15 30 v hv) (by subst_vars; exact ⟨(leD_refl _), (leD_refl _), rfl⟩) ?_; clear h; intro r_5 h; (conv => cbv)
  refine L_call hI h (fun v hv => w_stream_Most N (api_StreamMill.mk 3 10 r_1 50 r_2) [r_3, r_4, r_5] v hv) (by subst_vars; exact ⟨⟨(leD_refl _), (leD_refl _), (leD_refl _), (leD_refl _), (leD_refl _), (leD_refl _), (leD_refl _), rfl⟩, ⟨.inl rfl, rfl, leDLL_refl _⟩, rfl⟩) ?_; clear h; intro r_6 h; (conv => cbv)
  refine L_cut hI seat [] (by kernel_rfl) h (fun q => match q with | v_8 => .normal) (fun q => match q with | v_8 => ⟨23, [(0, .bool v_8)], [], [], 0⟩) ?_ ?_; all_goals clear h
  · intro x h R hR
    (conv => cbv)
    refine L_tst hI h (by subst_vars; rfl) ?_ ?_ <;> clear h <;> intro h
    · refine L_call hI h (fun v hv => w_top_firSame N r_6.1 [0, 1, 3] v hv) (by subst_vars; exact ⟨(leD_refl _), ⟨.inl rfl, rfl, leDLL_refl _⟩, rfl⟩) ?_; clear h; intro r_9 h; (conv => cbv)
      exact hR _ _ (Option.some.inj h).symm (by subst_vars; exact weak_l rfl rfl ⟨lE, trivial⟩ trivial trivial)
    · exact hR _ _ (Option.some.inj h).symm (by subst_vars; exact weak_l rfl rfl ⟨lE, trivial⟩ trivial trivial)
  · intro v_8 h
    (conv => cbv)
    cases h
    subst_vars
    exact ⟨lE, rfl⟩
end Go.Proofs.Ytelnoeamkdpjhaa.Aw

/- Plain models and walks for the tops of cloth and stream. Printed by wip/gen/pm.py. -/
namespace Go.Proofs.Ytelnoeamkdpjhaa.Aw
open Go Go.RowKit Go.Proofs
set_option maxRecDepth 100000
set_option maxHeartbeats 4000000
set_option linter.unusedSimpArgs false
set_option linter.unusedVariables false
theorem w_top_TopWorkedHours (N : Nat) (p_1 : top_FirYarn) (p_2 : top_FirBeck) (p_3 : (List Int)) (o : Bool) (h : m_top_TopWorkedHours N p_1 p_2 p_3 = some o) :
    KC Try.prog 5 [.agg [.int .u8 p_1.Tracks.a0.a0, .int .u8 p_1.Tracks.a0.a1, .int .u8 p_1.Tracks.a0.a2, .int .u8 p_1.Tracks.a0.a3, .int .u8 p_1.Tracks.a1.a0, .int .u8 p_1.Tracks.a1.a1, .int .u8 p_1.Tracks.a1.a2, .int .u8 p_1.Tracks.a1.a3, .int .u8 p_1.Tracks.a2.a0, .int .u8 p_1.Tracks.a2.a1, .int .u8 p_1.Tracks.a2.a2, .int .u8 p_1.Tracks.a2.a3], .agg [.int .u8 p_2.Mill.a0, .int .u8 p_2.Mill.a1, .int .u8 p_2.Mill.a2, .int .u8 p_2.Mill.a3, sl_A2_u8 false p_2.Flows], sl_u8 false p_3] (.bool o) [] := by
  unfold m_top_TopWorkedHours at h
  refine con_l [] [1000012, 1000014, 1000019, 1000022, 2000044, 7000000] seat Try.func5 rfl ent_5 (by kernel_rfl) rfl rfl (by simp) ?_; intro base I hI; (conv => cbv)
  refine L_call hI h (fun v hv => w_top_FirYarn_made N p_1 v hv) (by subst_vars; exact ⟨(leD_refl _), rfl⟩) ?_; clear h; intro r_4 h; (conv => cbv)
  refine L_call hI h (fun v hv => w_top_FirBeck_made N p_2 v hv) (by subst_vars; exact ⟨(leD_refl _), rfl⟩) ?_; clear h; intro r_5 h; (conv => cbv)
  refine L_loop hI seat [1000012, 1000014, 1000019, 1000022, 2000044, 7000000] (by kernel_rfl) h (fun q => match q with | (v_9, v_10) => ⟨157, [(2, sl_u8 false p_3), (7, .loc 2 0), (8, .loc 3 0), (9, sl_api_Span false r_5.2), (10, .osl 4), (11, .int .i64 v_9)], [(3, ⟨37, [.lit .i64 1, .int .i64 r_5.1.Takes, .int .i64 r_5.1.Blows.Low, .int .i64 r_5.1.Blows.High, .int .i64 r_5.1.Holds, .int .i64 r_5.1.Now.Low, .int .i64 r_5.1.Now.High], true⟩), (2, ⟨32, [sl_api_ClothTrack false r_4.Tracks, sl_api_ClothMeasure false r_4.Measures], true⟩)], [(4, ⟨3, 1, [.ls Int 0 v_10 e_int], true, true⟩)], 0⟩) (fun q => match q with | v_14 => .exit 0) (fun q => match q with | v_14 => ⟨157, [(7, .loc 2 0), (8, .loc 3 0), (9, sl_api_Span false r_5.2), (10, .osl 4)], [(3, ⟨37, [.lit .i64 1, .int .i64 r_5.1.Takes, .int .i64 r_5.1.Blows.Low, .int .i64 r_5.1.Blows.High, .int .i64 r_5.1.Holds, .int .i64 r_5.1.Now.Low, .int .i64 r_5.1.Now.High], true⟩), (2, ⟨32, [sl_api_ClothTrack false r_4.Tracks, sl_api_ClothMeasure false r_4.Measures], true⟩)], [(4, ⟨3, 1, [.ls Int 0 v_14 e_int], true, true⟩)], 0⟩) (by subst_vars; exact weak_l rfl rfl ⟨LV_sl, lR, lR, LV_sl, lR, lE, trivial⟩ ⟨lB ⟨lE, lE, lE, lE, lE, lE, lE, rfl⟩, lB ⟨LV_sl, LV_sl, rfl⟩, trivial⟩ ⟨lO, trivial⟩) (by intro q; rcases q with v_14 <;> (intro e; exact Exit.noConfusion e)) ?_ ?_; all_goals clear h
  · intro q x h R hR hX
    obtain ⟨v_9, v_10⟩ := q
    rw [m_top_TopWorkedHours_L1] at h
    (conv => cbv)
    refine L_tst hI h (by subst_vars; rfl) ?_ ?_ <;> clear h <;> intro h
    · refine L_cut hI seat [1000012, 1000014, 1000019, 1000022, 7000000] (by kernel_rfl) h (fun q => match q with | v_16 => .normal) (fun q => match q with | v_16 => ⟨157, [(2, sl_u8 false p_3), (7, .loc 2 0), (8, .loc 3 0), (9, sl_api_Span false r_5.2), (10, .osl 4), (11, .int .i64 v_9), (12, .int .i64 v_16)], [(3, ⟨37, [.lit .i64 1, .int .i64 r_5.1.Takes, .int .i64 r_5.1.Blows.Low, .int .i64 r_5.1.Blows.High, .int .i64 r_5.1.Holds, .int .i64 r_5.1.Now.Low, .int .i64 r_5.1.Now.High], true⟩), (2, ⟨32, [sl_api_ClothTrack false r_4.Tracks, sl_api_ClothMeasure false r_4.Measures], true⟩)], [(4, ⟨3, 1, [.ls Int 0 v_10 e_int], true, true⟩)], 0⟩) ?_ ?_; all_goals clear h
      · intro x h R hR
        (conv => cbv)
        refine L_tst hI h (by subst_vars; rfl) ?_ ?_ <;> clear h <;> intro h
        · refine L_get hI h (fun g => by subst_vars; exact g) ?_; clear h; intro hc x_17 hxx_17 h
          exact hR _ _ (Option.some.inj h).symm (by subst_vars; exact weak_l rfl rfl ⟨LV_sl, lR, lR, LV_sl, lR, lE, lE, trivial⟩ ⟨lB ⟨lE, lE, lE, lE, lE, lE, lE, rfl⟩, lB ⟨LV_sl, LV_sl, rfl⟩, trivial⟩ ⟨lO, trivial⟩)
        · exact hR _ _ (Option.some.inj h).symm (by subst_vars; exact weak_l rfl rfl ⟨LV_sl, lR, lR, LV_sl, lR, lE, lE, trivial⟩ ⟨lB ⟨lE, lE, lE, lE, lE, lE, lE, rfl⟩, lB ⟨LV_sl, LV_sl, rfl⟩, trivial⟩ ⟨lO, trivial⟩)
      · intro v_16 h
        (conv => cbv)
        refine L_conj hI h (fun g => by subst_vars; exact g) ?_; clear h; intro hc h
        exact hR _ _ (Option.some.inj h).symm (by subst_vars; exact weak_l rfl rfl ⟨LV_sl, lR, lR, LV_sl, lR, lE, trivial⟩ ⟨lB ⟨lE, lE, lE, lE, lE, lE, lE, rfl⟩, lB ⟨LV_sl, LV_sl, rfl⟩, trivial⟩ ⟨lO, trivial⟩)
    · exact hX _ _ (Option.some.inj h).symm (by subst_vars; exact weak_l rfl rfl ⟨lR, lR, LV_sl, lR, trivial⟩ ⟨lB ⟨lE, lE, lE, lE, lE, lE, lE, rfl⟩, lB ⟨LV_sl, LV_sl, rfl⟩, trivial⟩ ⟨lO, trivial⟩)
  · intro v_14 h
    (conv => cbv)
    refine W_weak hI (S' := ⟨157, [(7, .loc 2 0), (8, .loc 3 0), (9, sl_api_Span false r_5.2), (10, sl_int false v_14)], [(3, ⟨37, [.lit .i64 1, .int .i64 r_5.1.Takes, .int .i64 r_5.1.Blows.Low, .int .i64 r_5.1.Blows.High, .int .i64 r_5.1.Holds, .int .i64 r_5.1.Now.Low, .int .i64 r_5.1.Now.High], true⟩), (2, ⟨32, [sl_api_ClothTrack false r_4.Tracks, sl_api_ClothMeasure false r_4.Measures], true⟩)], [], 0⟩) (by subst_vars; exact weak_f [4] (weak_l rfl rfl ⟨lR, lR, LV_sl, LV_sl, trivial⟩ ⟨lB ⟨lE, lE, lE, lE, lE, lE, lE, rfl⟩, lB ⟨LV_sl, LV_sl, rfl⟩, trivial⟩ trivial)) ?_
    refine L_cut hI seat [1000014, 1000019, 1000022, 2000044, 7000000] (by kernel_rfl) h (fun q => match q with | v_22 => .normal) (fun q => match q with | v_22 => ⟨157, [(7, .loc 2 0), (8, .loc 3 0), (9, sl_api_Span false r_5.2), (10, sl_int false v_14), (15, .int .i64 v_22)], [(3, ⟨37, [.lit .i64 1, .int .i64 r_5.1.Takes, .int .i64 r_5.1.Blows.Low, .int .i64 r_5.1.Blows.High, .int .i64 r_5.1.Holds, .int .i64 r_5.1.Now.Low, .int .i64 r_5.1.Now.High], true⟩), (2, ⟨32, [sl_api_ClothTrack false r_4.Tracks, sl_api_ClothMeasure false r_4.Measures], true⟩)], [], 0⟩) ?_ ?_; all_goals clear h
    · intro x h R hR
      (conv => cbv)
      refine L_call hI h (fun v hv => w_top_firOwn N r_5.2 v hv) (by subst_vars; exact ⟨(leD_refl _), rfl⟩) ?_; clear h; intro r_23 h; (conv => cbv)
      refine L_call hI h (fun v hv => w_top_firInts N v_14 v hv) (by subst_vars; exact ⟨(leD_refl _), rfl⟩) ?_; clear h; intro r_24 h; (conv => cbv)
      refine L_call hI h (fun v hv => w_stream_Goes N (api_StreamMill.mk 1 r_5.1.Takes r_5.1.Blows r_5.1.Holds r_5.1.Now) r_23 r_24 v hv) (by subst_vars; exact ⟨⟨(leD_refl _), (leD_refl _), (leD_refl _), (leD_refl _), (leD_refl _), (leD_refl _), (leD_refl _), rfl⟩, (leD_refl _), (leD_refl _), rfl⟩) ?_; clear h; intro r_25 h; (conv => cbv)
      exact hR _ _ (Option.some.inj h).symm (by subst_vars; exact weak_l rfl rfl ⟨lR, lR, LV_sl, LV_sl, lE, trivial⟩ ⟨lB ⟨lE, lE, lE, lE, lE, lE, lE, rfl⟩, lB ⟨LV_sl, LV_sl, rfl⟩, trivial⟩ trivial)
    · intro v_22 h
      (conv => cbv)
      refine L_call hI h (fun v hv => w_top_firOwn N r_5.2 v hv) (by subst_vars; exact ⟨(leD_refl _), rfl⟩) ?_; clear h; intro r_26 h; (conv => cbv)
      refine L_call hI h (fun v hv => w_top_firInts N v_14 v hv) (by subst_vars; exact ⟨(leD_refl _), rfl⟩) ?_; clear h; intro r_27 h; (conv => cbv)
      refine L_call hI h (fun v hv => w_stream_Levels N (api_StreamMill.mk 1 r_5.1.Takes r_5.1.Blows r_5.1.Holds r_5.1.Now) r_26 r_27 v hv) (by subst_vars; exact ⟨⟨(leD_refl _), (leD_refl _), (leD_refl _), (leD_refl _), (leD_refl _), (leD_refl _), (leD_refl _), rfl⟩, (leD_refl _), (leD_refl _), rfl⟩) ?_; clear h; intro r_28 h; (conv => cbv)
      refine L_cut hI seat [1000012, 1000019, 1000022, 2000044, 7000000] (by kernel_rfl) h (fun q => match q with | v_29 => .normal) (fun q => match q with | v_29 => ⟨157, [(7, .loc 2 0), (8, .loc 3 0), (10, sl_int false v_14), (15, .int .i64 v_22), (97, .bool v_29)], [(3, ⟨37, [.lit .i64 1, .int .i64 r_5.1.Takes, .int .i64 r_5.1.Blows.Low, .int .i64 r_5.1.Blows.High, .int .i64 r_5.1.Holds, .int .i64 r_5.1.Now.Low, .int .i64 r_5.1.Now.High], true⟩), (2, ⟨32, [sl_api_ClothTrack false r_4.Tracks, sl_api_ClothMeasure false r_4.Measures], true⟩)], [], 0⟩) ?_ ?_; all_goals clear h
      · intro x h R hR
        (conv => cbv)
        refine L_tst hI h (by subst_vars; rfl) ?_ ?_ <;> clear h <;> intro h
        · refine L_tst hI h (by subst_vars; rfl) ?_ ?_ <;> clear h <;> intro h
          · exact hR _ _ (Option.some.inj h).symm (by subst_vars; exact weak_l rfl rfl ⟨lR, lR, LV_sl, lE, lE, trivial⟩ ⟨lB ⟨lE, lE, lE, lE, lE, lE, lE, rfl⟩, lB ⟨LV_sl, LV_sl, rfl⟩, trivial⟩ trivial)
          · refine L_tst hI h (by subst_vars; rfl) ?_ ?_ <;> clear h <;> intro h
            · exact hR _ _ (Option.some.inj h).symm (by subst_vars; exact weak_l rfl rfl ⟨lR, lR, LV_sl, lE, lE, trivial⟩ ⟨lB ⟨lE, lE, lE, lE, lE, lE, lE, rfl⟩, lB ⟨LV_sl, LV_sl, rfl⟩, trivial⟩ trivial)
            · refine L_tst hI h (by subst_vars; rfl) ?_ ?_ <;> clear h <;> intro h
              · exact hR _ _ (Option.some.inj h).symm (by subst_vars; exact weak_l rfl rfl ⟨lR, lR, LV_sl, lE, lE, trivial⟩ ⟨lB ⟨lE, lE, lE, lE, lE, lE, lE, rfl⟩, lB ⟨LV_sl, LV_sl, rfl⟩, trivial⟩ trivial)
              · exact hR _ _ (Option.some.inj h).symm (by subst_vars; exact weak_l rfl rfl ⟨lR, lR, LV_sl, lE, lE, trivial⟩ ⟨lB ⟨lE, lE, lE, lE, lE, lE, lE, rfl⟩, lB ⟨LV_sl, LV_sl, rfl⟩, trivial⟩ trivial)
        · refine L_tst hI h (by subst_vars; rfl) ?_ ?_ <;> clear h <;> intro h
          · exact hR _ _ (Option.some.inj h).symm (by subst_vars; exact weak_l rfl rfl ⟨lR, lR, LV_sl, lE, lE, trivial⟩ ⟨lB ⟨lE, lE, lE, lE, lE, lE, lE, rfl⟩, lB ⟨LV_sl, LV_sl, rfl⟩, trivial⟩ trivial)
          · refine L_tst hI h (by subst_vars; rfl) ?_ ?_ <;> clear h <;> intro h
            · exact hR _ _ (Option.some.inj h).symm (by subst_vars; exact weak_l rfl rfl ⟨lR, lR, LV_sl, lE, lE, trivial⟩ ⟨lB ⟨lE, lE, lE, lE, lE, lE, lE, rfl⟩, lB ⟨LV_sl, LV_sl, rfl⟩, trivial⟩ trivial)
            · exact hR _ _ (Option.some.inj h).symm (by subst_vars; exact weak_l rfl rfl ⟨lR, lR, LV_sl, lE, lE, trivial⟩ ⟨lB ⟨lE, lE, lE, lE, lE, lE, lE, rfl⟩, lB ⟨LV_sl, LV_sl, rfl⟩, trivial⟩ trivial)
      · intro v_29 h
        (conv => cbv)
        refine L_tst hI h (by subst_vars; rfl) ?_ ?_ <;> clear h <;> intro h
        · cases h
          subst_vars
          exact ⟨lE, rfl⟩
        · refine L_tst hI h (by subst_vars; rfl) ?_ ?_ <;> clear h <;> intro h
          · refine L_call hI h (fun v hv => w_top_firKnown02 N v hv) (by subst_vars; exact rfl) ?_; clear h; intro r_30 h; (conv => cbv)
            cases h
            subst_vars
            exact ⟨lE, rfl⟩
          · refine L_call hI h (fun v hv => w_top_firSum N v_14 v hv) (by subst_vars; exact ⟨(leD_refl _), rfl⟩) ?_; clear h; intro r_31 h; (conv => cbv)
            refine L_cut hI seat [1000012, 1000014, 1000022, 2000044, 7000000] (by kernel_rfl) h (fun q => match q with | (v_34, v_35, v_36) => .normal) (fun q => match q with | (v_34, v_35, v_36) => ⟨157, [(7, .loc 2 0), (18, .int .i64 r_31), (19, .loc 4 0), (20, .int .i64 v_34)], [(4, ⟨35, [.int .i64 v_35, .int .i64 v_36], true⟩), (2, ⟨32, [sl_api_ClothTrack false r_4.Tracks, sl_api_ClothMeasure false r_4.Measures], true⟩)], [], 0⟩) ?_ ?_; all_goals clear h
            · intro x h R hR
              (conv => cbv)
              replace h := bind_of h; obtain ⟨r_37, hb1, h⟩ := h
              replace h := bind_of h; obtain ⟨r_38, hb2, h⟩ := h
              repeat' (first | (refine K_conj hI (show I.rnone from by rw [hI]; rfl) ?_; (conv => cbv)) | (refine C_le hI (w_top_firInts N v_14 r_37 hb1) (by subst_vars; exact ⟨(leD_refl _), rfl⟩) ?_; (conv => cbv)) | (refine C_le hI (w_stream_Blows N (api_StreamMill.mk 1 r_5.1.Takes r_5.1.Blows r_5.1.Holds r_5.1.Now) r_37 r_38 hb2) (by subst_vars; exact ⟨⟨(leD_refl _), (leD_refl _), (leD_refl _), (leD_refl _), (leD_refl _), (leD_refl _), (leD_refl _), rfl⟩, (leD_refl _), rfl⟩) ?_; (conv => cbv)) | (exact hR _ _ (Option.some.inj h).symm (by subst_vars; exact weak_l rfl rfl ⟨lR, lE, lR, lE, trivial⟩ ⟨lB ⟨lE, lE, rfl⟩, lB ⟨LV_sl, LV_sl, rfl⟩, trivial⟩ trivial)) | (refine K_conj hI ?_ ?_))
            · intro q h
              rcases q with ⟨v_34, v_35, v_36⟩
              (conv => cbv)
              refine L_call hI h (fun v hv => w_top_firCloth N r_4 v hv) (by subst_vars; exact ⟨(leD_refl _), rfl⟩) ?_; clear h; intro r_39 h; (conv => cbv)
              refine L_call hI h (fun v hv => w_cloth_At N r_39 r_31 v hv) (by subst_vars; exact ⟨(leD_refl _), (leD_refl _), rfl⟩) ?_; clear h; intro r_40 h; (conv => cbv)
              refine L_call hI h (fun v hv => w_top_firCloth N r_4 v hv) (by subst_vars; exact ⟨(leD_refl _), rfl⟩) ?_; clear h; intro r_41 h; (conv => cbv)
              refine L_call hI h (fun v hv => w_top_firOwn N r_40.1 v hv) (by subst_vars; exact ⟨(leD_refl _), rfl⟩) ?_; clear h; intro r_42 h; (conv => cbv)
              refine L_call hI h (fun v hv => w_cloth_Hours N r_41 r_42 v hv) (by subst_vars; exact ⟨(leD_refl _), (leD_refl _), rfl⟩) ?_; clear h; intro r_43 h; (conv => cbv)
              refine L_cut hI seat [1000012, 1000014, 1000019, 2000044, 7000000] (by kernel_rfl) h (fun q => match q with | v_45 => .normal) (fun q => match q with | v_45 => ⟨157, [(18, .int .i64 r_31), (23, sl_int false r_43.1), (143, .bool v_45)], [], [], 0⟩) ?_ ?_; all_goals clear h
              · intro x h R hR
                (conv => cbv)
                refine L_tst hI h (by subst_vars; rfl) ?_ ?_ <;> clear h <;> intro h
                · exact hR _ _ (Option.some.inj h).symm (by subst_vars; exact weak_l rfl rfl ⟨lE, LV_sl, lE, trivial⟩ trivial trivial)
                · refine L_tst hI h (by subst_vars; rfl) ?_ ?_ <;> clear h <;> intro h
                  · exact hR _ _ (Option.some.inj h).symm (by subst_vars; exact weak_l rfl rfl ⟨lE, LV_sl, lE, trivial⟩ trivial trivial)
                  · refine L_tst hI h (by subst_vars; rfl) ?_ ?_ <;> clear h <;> intro h
                    · exact hR _ _ (Option.some.inj h).symm (by subst_vars; exact weak_l rfl rfl ⟨lE, LV_sl, lE, trivial⟩ trivial trivial)
                    · refine L_call hI h (fun v hv => w_top_firSpan N (iopR .mul .i64 20 r_31) (iopR .mul .i64 30 r_31) v hv) (by subst_vars; exact ⟨(leD_refl _), (leD_refl _), rfl⟩) ?_; clear h; intro r_46 h; (conv => cbv)
                      exact hR _ _ (Option.some.inj h).symm (by subst_vars; exact weak_l rfl rfl ⟨lE, LV_sl, lE, trivial⟩ trivial trivial)
              · intro v_45 h
                (conv => cbv)
                refine L_tst hI h (by subst_vars; rfl) ?_ ?_ <;> clear h <;> intro h
                · cases h
                  subst_vars
                  exact ⟨lE, rfl⟩
                · refine L_loop hI seat [1000012, 1000014, 1000019, 1000022, 2000044, 7000000] (by kernel_rfl) h (fun q => match q with | v_49 => ⟨157, [(18, .int .i64 r_31), (23, sl_int false r_43.1), (25, .int .i64 v_49)], [], [], 0⟩) (fun q => match q with | (.inl v_52) => .ret | (.inr ()) => .exit 2) (fun q => match q with | (.inl v_52) => ⟨157, [(6, .bool v_52)], [], [], 0⟩ | (.inr ()) => ⟨157, [], [], [], 0⟩) (by subst_vars; exact weak_l rfl rfl ⟨lE, LV_sl, lE, trivial⟩ trivial trivial) (by intro q; rcases q with (v_52 | _) <;> (intro e; exact Exit.noConfusion e)) ?_ ?_; all_goals clear h
                  · intro v_49 x h R hR hX
                    rw [m_top_TopWorkedHours_L2] at h
                    (conv => cbv)
                    refine L_tst hI h (by subst_vars; rfl) ?_ ?_ <;> clear h <;> intro h
                    · refine L_get hI h (fun g => by subst_vars; exact g) ?_; clear h; intro hc x_53 hxx_53 h
                      refine L_tst hI h (by subst_vars; rfl) ?_ ?_ <;> clear h <;> intro h
                      · refine L_call hI h (fun v hv => w_top_firKnown02 N v hv) (by subst_vars; exact rfl) ?_; clear h; intro r_54 h; (conv => cbv)
                        exact hX _ _ (Option.some.inj h).symm (by subst_vars; exact weak_l rfl rfl ⟨lE, trivial⟩ trivial trivial)
                      · exact hR _ _ (Option.some.inj h).symm (by subst_vars; exact weak_l rfl rfl ⟨lE, LV_sl, lE, trivial⟩ trivial trivial)
                    · exact hX _ _ (Option.some.inj h).symm (by subst_vars; exact weak_l rfl rfl trivial trivial trivial)
                  · intro q h
                    rcases q with (v_52 | _)
                    · (conv => cbv)
                      cases h
                      subst_vars
                      exact ⟨lE, rfl⟩
                    · (conv => cbv)
                      cases h
                      subst_vars
                      exact ⟨lE, rfl⟩
end Go.Proofs.Ytelnoeamkdpjhaa.Aw
