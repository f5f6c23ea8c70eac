/- Part 6 of the proof: lemmas. -/
import Derived.Test.YtgefdljjhmjdaaaM4
import Derived.Test.YtgefdljjhmjdaaaM5
import Derived.Test.YtgefdljjhmjdaaaRows

/- Types, printed by wip/gen/tw.py. -/
namespace Go.Proofs.Ytgefdljjhmjdaaa.Aw
open Go Go.RowKit Go.Proofs
set_option maxRecDepth 100000
set_option maxHeartbeats 4000000
set_option linter.unusedSimpArgs false
set_option linter.unusedVariables false
structure A5_u8 where
  a0 : Int
  a1 : Int
  a2 : Int
  a3 : Int
  a4 : Int
def c_A5_u8 (x : A5_u8) : List KV := [.int .u8 x.a0, .int .u8 x.a1, .int .u8 x.a2, .int .u8 x.a3, .int .u8 x.a4]
structure A2_u8 where
  a0 : Int
  a1 : Int
def d_A2_u8 : A2_u8 := ⟨0, 0⟩
def c_A2_u8 (x : A2_u8) : List KV := [.int .u8 x.a0, .int .u8 x.a1]
structure top_ElmMill where
  Mill : A5_u8
  Flows : (List A2_u8)
def e_A2_u8 (x : A2_u8) (j : Nat) : KV := cel (c_A2_u8 x) j
def sl_A2_u8 (c : Bool) (l : List A2_u8) : KV := .sl c 2 A2_u8 d_A2_u8 l e_A2_u8
def c_top_ElmMill (x : top_ElmMill) : List KV := [.int .u8 x.Mill.a0, .int .u8 x.Mill.a1, .int .u8 x.Mill.a2, .int .u8 x.Mill.a3, .int .u8 x.Mill.a4, sl_A2_u8 false x.Flows]
def k_top_ElmMill (x : top_ElmMill) : KV := .agg (c_top_ElmMill x)
structure top_ElmSky where
  Hours : (List A2_u8)
def c_top_ElmSky (x : top_ElmSky) : List KV := [sl_A2_u8 false x.Hours]
def k_top_ElmSky (x : top_ElmSky) : KV := .agg (c_top_ElmSky x)
structure A4_u8 where
  a0 : Int
  a1 : Int
  a2 : Int
  a3 : Int
def c_A4_u8 (x : A4_u8) : List KV := [.int .u8 x.a0, .int .u8 x.a1, .int .u8 x.a2, .int .u8 x.a3]
structure api_Span where
  Low : Int
  High : Int
def d_api_Span : api_Span := ⟨0, 0⟩
def c_api_Span (x : api_Span) : List KV := [.int .i64 x.Low, .int .i64 x.High]
structure api_StreamMill where
  Hammers : Int
  Takes : Int
  Blows : api_Span
  Holds : Int
  Now : api_Span
def e_api_Span (x : api_Span) (j : Nat) : KV := cel (c_api_Span x) j
def sl_api_Span (c : Bool) (l : List api_Span) : KV := .sl c 2 api_Span d_api_Span l e_api_Span
structure stream_valley where
  StreamMill : api_StreamMill
  flows : (List api_Span)
def e_int (x : Int) (j : Nat) : KV := .int .i64 x
def sl_int (c : Bool) (l : List Int) : KV := .sl c 1 Int 0 l e_int
structure stream_tide where
  full : Int
  left : Int
structure api_TenterCloth where
  Long : api_Span
  Water : api_Span
def d_api_TenterCloth : api_TenterCloth := ⟨d_api_Span, d_api_Span⟩
def c_api_TenterCloth (x : api_TenterCloth) : List KV := [.int .i64 x.Long.Low, .int .i64 x.Long.High, .int .i64 x.Water.Low, .int .i64 x.Water.High]
structure api_TenterField where
  Cloths : (List api_TenterCloth)
  Frames : (List Int)
  Gap : Int
  Stretch : Int
def e_api_TenterCloth (x : api_TenterCloth) (j : Nat) : KV := cel (c_api_TenterCloth x) j
def sl_api_TenterCloth (c : Bool) (l : List api_TenterCloth) : KV := .sl c 4 api_TenterCloth d_api_TenterCloth l e_api_TenterCloth
structure tenter_forecast where
  TenterField : api_TenterField
  weather : (List api_Span)
structure tenter_field where
  TenterField : api_TenterField
  hangs : (List api_Span)
end Go.Proofs.Ytgefdljjhmjdaaa.Aw

/- Plain models and walks, printed by wip/gen/tw.py. -/
namespace Go.Proofs.Ytgefdljjhmjdaaa.Aw
open Go Go.RowKit Go.Proofs
set_option maxRecDepth 100000
set_option maxHeartbeats 4000000
set_option linter.unusedSimpArgs false
set_option linter.unusedVariables false
noncomputable section
def m_top_elmSpan (N : Nat) (low_1 : Int) (high_2 : Int) : Option (api_Span) :=
  some (api_Span.mk low_1 high_2)
theorem w_top_elmSpan (N : Nat) (low_1 : Int) (high_2 : Int) (o : api_Span) (h : m_top_elmSpan N low_1 high_2 = some o) :
    KC Try.prog 12 [.int .i64 low_1, .int .i64 high_2] (.agg [.int .i64 o.Low, .int .i64 o.High]) [] := by
  unfold m_top_elmSpan at h
  refine con_l [] [] seat Try.func12 rfl ent_12 (by kernel_rfl) rfl rfl (by simp) ?_; intro base I hI; (conv => cbv)
  cases h
  subst_vars
  exact ⟨(LV_agg ⟨lE, lE, rfl⟩), rfl⟩
def m_top_ElmMill_made_L1 (N : Nat) (p_1 : top_ElmMill) : (Int × (List api_Span)) → Option ((Int × (List api_Span)) ⊕ ((List api_Span)))
  | (v_13, v_14) =>
    (show Option (Bool) from
      if icmpR .eql v_13 0 then
        some true
      else
        if icmpR .lss v_13 ((p_1.Flows.length : Nat) : Int) then
          some (icmpR .lss v_13 12)
        else
          some false).bind fun q => match q with
    | v_21 =>
      if v_21 then
        (show Option (Int × Int) from
          if icmpR .lss v_13 ((p_1.Flows.length : Nat) : Int) then
            (getO d_A2_u8 p_1.Flows v_13).bind fun x_24 =>
            some (x_24.a0, x_24.a1)
          else
            some (20, 4)).bind fun q => match q with
        | (v_22, v_23) =>
          (m_top_elmSpan N (iopR .rem .i64 (IntKind.wrap .i64 v_22) 80) (iopR .add .i64 (iopR .rem .i64 (IntKind.wrap .i64 v_22) 80) (iopR .rem .i64 (IntKind.wrap .i64 v_23) 20))).bind fun r_25 =>
          if fitsN (v_14.length + 1) 16 then
            some (.inl (iopR .add .i64 v_13 1, (v_14 ++ [r_25])))
          else none
      else
        some (.inr v_14)
def m_top_ElmMill_made (N : Nat) (p_1 : top_ElmMill) : Option (api_StreamMill × (List api_Span)) :=
  (m_top_elmSpan N 30 40).bind fun r_2 =>
  (m_top_elmSpan N (min (iopR .add .i64 10 (IntKind.wrap .i64 p_1.Mill.a2)) (IntKind.wrap .i64 p_1.Mill.a3)) (min (iopR .add .i64 10 (IntKind.wrap .i64 p_1.Mill.a2)) (iopR .add .i64 (min (iopR .add .i64 10 (IntKind.wrap .i64 p_1.Mill.a2)) (IntKind.wrap .i64 p_1.Mill.a3)) (iopR .rem .i64 (IntKind.wrap .i64 p_1.Mill.a4) 20)))).bind fun r_3 =>
  letO (iopR .add .i64 1 (iopR .rem .i64 (IntKind.wrap .i64 p_1.Mill.a0) 6) : Int) fun v_4 =>
  letO (iopR .rem .i64 (IntKind.wrap .i64 p_1.Mill.a1) 20 : Int) fun v_5 =>
  letO (iopR .add .i64 10 (IntKind.wrap .i64 p_1.Mill.a2) : Int) fun v_6 =>
  (loopO (m_top_ElmMill_made_L1 N p_1) N (0, [])).bind fun q => match q with
  | v_20 =>
    some ((api_StreamMill.mk v_4 v_5 r_2 v_6 r_3), v_20)
theorem w_top_ElmMill_made (N : Nat) (p_1 : top_ElmMill) (o : api_StreamMill × (List api_Span)) (h : m_top_ElmMill_made N p_1 = some o) :
    KC Try.prog 10 [.agg [.int .u8 p_1.Mill.a0, .int .u8 p_1.Mill.a1, .int .u8 p_1.Mill.a2, .int .u8 p_1.Mill.a3, .int .u8 p_1.Mill.a4, sl_A2_u8 false p_1.Flows]] (.tup [.agg [.int .i64 o.1.Hammers, .int .i64 o.1.Takes, .int .i64 o.1.Blows.Low, .int .i64 o.1.Blows.High, .int .i64 o.1.Holds, .int .i64 o.1.Now.Low, .int .i64 o.1.Now.High], sl_api_Span false o.2]) [] := by
  unfold m_top_ElmMill_made at h
  refine con_l [] [1000006, 2000069] seat Try.func10 rfl ent_10 (by kernel_rfl) rfl rfl (by simp) ?_; intro base I hI; (conv => cbv)
  refine L_call hI h (fun v hv => w_top_elmSpan N 30 40 v hv) (by subst_vars; exact ⟨(leD_refl _), (leD_refl _), rfl⟩) ?_; clear h; intro r_2 h; (conv => cbv)
  refine L_call hI h (fun v hv => w_top_elmSpan N (min (iopR .add .i64 10 (IntKind.wrap .i64 p_1.Mill.a2)) (IntKind.wrap .i64 p_1.Mill.a3)) (min (iopR .add .i64 10 (IntKind.wrap .i64 p_1.Mill.a2)) (iopR .add .i64 (min (iopR .add .i64 10 (IntKind.wrap .i64 p_1.Mill.a2)) (IntKind.wrap .i64 p_1.Mill.a3)) (iopR .rem .i64 (IntKind.wrap .i64 p_1.Mill.a4) 20))) v hv) (by subst_vars; exact ⟨(leD_refl _), (leD_refl _), rfl⟩) ?_; clear h; intro r_3 h; (conv => cbv)
  replace h := letO_of h; obtain ⟨v_4, hev_4, h⟩ := h
  replace h := letO_of h; obtain ⟨v_5, hev_5, h⟩ := h
  replace h := letO_of h; obtain ⟨v_6, hev_6, h⟩ := h
  refine L_loop hI seat [1000006, 2000069] (by kernel_rfl) h (fun q => match q with | (v_13, v_14) => ⟨92, [(1, .loc 0 0), (2, .loc 1 0), (4, .loc 2 0), (6, .osl 3), (7, .int .i64 v_13)], [(2, ⟨32, [.int .i64 v_4, .int .i64 v_5, .int .i64 r_2.Low, .int .i64 r_2.High, .int .i64 v_6, .int .i64 r_3.Low, .int .i64 r_3.High], true⟩), (1, ⟨32, [.lit .i64 0, .lit .i64 0, .lit .i64 0, .lit .i64 0, .lit .i64 0, .lit .i64 0, .lit .i64 0], true⟩), (0, ⟨25, [.int .u8 p_1.Mill.a0, .int .u8 p_1.Mill.a1, .int .u8 p_1.Mill.a2, .int .u8 p_1.Mill.a3, .int .u8 p_1.Mill.a4, sl_A2_u8 false p_1.Flows], true⟩)], [(3, ⟨30, 2, [.ls api_Span d_api_Span v_14 e_api_Span], true, true⟩)], 0⟩) (fun q => match q with | v_20 => .exit 0) (fun q => match q with | v_20 => ⟨92, [(2, .loc 1 0), (4, .loc 2 0), (6, .osl 3)], [(2, ⟨32, [.int .i64 v_4, .int .i64 v_5, .int .i64 r_2.Low, .int .i64 r_2.High, .int .i64 v_6, .int .i64 r_3.Low, .int .i64 r_3.High], true⟩), (1, ⟨32, [.lit .i64 0, .lit .i64 0, .lit .i64 0, .lit .i64 0, .lit .i64 0, .lit .i64 0, .lit .i64 0], true⟩)], [(3, ⟨30, 2, [.ls api_Span d_api_Span v_20 e_api_Span], true, true⟩)], 0⟩) (by subst_vars; exact weak_l rfl rfl ⟨lR, lR, lR, lR, lE, trivial⟩ ⟨lB ⟨lE, lE, lE, lE, lE, lE, lE, rfl⟩, lB ⟨lE, lE, lE, lE, lE, lE, lE, rfl⟩, lB ⟨lE, lE, lE, lE, lE, LV_sl, rfl⟩, trivial⟩ ⟨lO, trivial⟩) (by intro q; rcases q with v_20 <;> (intro e; exact Exit.noConfusion e)) ?_ ?_; all_goals clear h
  · intro q x h R hR hX
    obtain ⟨v_13, v_14⟩ := q
    rw [m_top_ElmMill_made_L1] at h
    (conv => cbv)
    refine L_cut hI seat [2000069] (by kernel_rfl) h (fun q => match q with | v_21 => .normal) (fun q => match q with | v_21 => ⟨92, [(1, .loc 0 0), (2, .loc 1 0), (4, .loc 2 0), (6, .osl 3), (7, .int .i64 v_13), (61, .bool v_21)], [(2, ⟨32, [.int .i64 v_4, .int .i64 v_5, .int .i64 r_2.Low, .int .i64 r_2.High, .int .i64 v_6, .int .i64 r_3.Low, .int .i64 r_3.High], true⟩), (1, ⟨32, [.lit .i64 0, .lit .i64 0, .lit .i64 0, .lit .i64 0, .lit .i64 0, .lit .i64 0, .lit .i64 0], true⟩), (0, ⟨25, [.int .u8 p_1.Mill.a0, .int .u8 p_1.Mill.a1, .int .u8 p_1.Mill.a2, .int .u8 p_1.Mill.a3, .int .u8 p_1.Mill.a4, sl_A2_u8 false p_1.Flows], true⟩)], [(3, ⟨30, 2, [.ls api_Span d_api_Span v_14 e_api_Span], true, true⟩)], 0⟩) ?_ ?_; all_goals clear h
    · intro x h R hR
      (conv => cbv)
      refine L_tst hI h (by subst_vars; rfl) ?_ ?_ <;> clear h <;> intro h
      · exact hR _ _ (Option.some.inj h).symm (by subst_vars; exact weak_l rfl rfl ⟨lR, lR, lR, lR, lE, lE, trivial⟩ ⟨lB ⟨lE, lE, lE, lE, lE, lE, lE, rfl⟩, lB ⟨lE, lE, lE, lE, lE, lE, lE, rfl⟩, lB ⟨lE, lE, lE, lE, lE, LV_sl, rfl⟩, trivial⟩ ⟨lO, trivial⟩)
      · refine L_tst hI h (by subst_vars; rfl) ?_ ?_ <;> clear h <;> intro h
        · exact hR _ _ (Option.some.inj h).symm (by subst_vars; exact weak_l rfl rfl ⟨lR, lR, lR, lR, lE, lE, trivial⟩ ⟨lB ⟨lE, lE, lE, lE, lE, lE, lE, rfl⟩, lB ⟨lE, lE, lE, lE, lE, lE, lE, rfl⟩, lB ⟨lE, lE, lE, lE, lE, LV_sl, rfl⟩, trivial⟩ ⟨lO, trivial⟩)
        · exact hR _ _ (Option.some.inj h).symm (by subst_vars; exact weak_l rfl rfl ⟨lR, lR, lR, lR, lE, lE, trivial⟩ ⟨lB ⟨lE, lE, lE, lE, lE, lE, lE, rfl⟩, lB ⟨lE, lE, lE, lE, lE, lE, lE, rfl⟩, lB ⟨lE, lE, lE, lE, lE, LV_sl, rfl⟩, trivial⟩ ⟨lO, trivial⟩)
    · intro v_21 h
      (conv => cbv)
      refine L_tst hI h (by subst_vars; rfl) ?_ ?_ <;> clear h <;> intro h
      · refine L_cut hI seat [1000006] (by kernel_rfl) h (fun q => match q with | (v_22, v_23) => .normal) (fun q => match q with | (v_22, v_23) => ⟨92, [(1, .loc 0 0), (2, .loc 1 0), (4, .loc 2 0), (6, .osl 3), (7, .int .i64 v_13), (8, .loc 4 0)], [(4, ⟨76, [.int .u8 v_22, .int .u8 v_23], true⟩), (2, ⟨32, [.int .i64 v_4, .int .i64 v_5, .int .i64 r_2.Low, .int .i64 r_2.High, .int .i64 v_6, .int .i64 r_3.Low, .int .i64 r_3.High], true⟩), (1, ⟨32, [.lit .i64 0, .lit .i64 0, .lit .i64 0, .lit .i64 0, .lit .i64 0, .lit .i64 0, .lit .i64 0], true⟩), (0, ⟨25, [.int .u8 p_1.Mill.a0, .int .u8 p_1.Mill.a1, .int .u8 p_1.Mill.a2, .int .u8 p_1.Mill.a3, .int .u8 p_1.Mill.a4, sl_A2_u8 false p_1.Flows], true⟩)], [(3, ⟨30, 2, [.ls api_Span d_api_Span v_14 e_api_Span], true, true⟩)], 0⟩) ?_ ?_; all_goals clear h
        · intro x h R hR
          (conv => cbv)
          refine L_tst hI h (by subst_vars; rfl) ?_ ?_ <;> clear h <;> intro h
          · refine L_get hI h (fun g => by subst_vars; exact g) ?_; clear h; intro hc x_24 hxx_24 h
            exact hR _ _ (Option.some.inj h).symm (by subst_vars; exact weak_l rfl rfl ⟨lR, lR, lR, lR, lE, lR, trivial⟩ ⟨lB ⟨lE, lE, rfl⟩, lB ⟨lE, lE, lE, lE, lE, lE, lE, rfl⟩, lB ⟨lE, lE, lE, lE, lE, lE, lE, rfl⟩, lB ⟨lE, lE, lE, lE, lE, LV_sl, rfl⟩, trivial⟩ ⟨lO, trivial⟩)
          · exact hR _ _ (Option.some.inj h).symm (by subst_vars; exact weak_l rfl rfl ⟨lR, lR, lR, lR, lE, lR, trivial⟩ ⟨lB ⟨lE, lE, rfl⟩, lB ⟨lE, lE, lE, lE, lE, lE, lE, rfl⟩, lB ⟨lE, lE, lE, lE, lE, lE, lE, rfl⟩, lB ⟨lE, lE, lE, lE, lE, LV_sl, rfl⟩, trivial⟩ ⟨lO, trivial⟩)
        · intro q h
          rcases q with ⟨v_22, v_23⟩
          (conv => cbv)
          refine L_call hI h (fun v hv => w_top_elmSpan N (iopR .rem .i64 (IntKind.wrap .i64 v_22) 80) (iopR .add .i64 (iopR .rem .i64 (IntKind.wrap .i64 v_22) 80) (iopR .rem .i64 (IntKind.wrap .i64 v_23) 20)) v hv) (by subst_vars; exact ⟨(leD_refl _), (leD_refl _), rfl⟩) ?_; clear h; intro r_25 h; (conv => cbv)
          refine L_conj hI h (fun g => by subst_vars; exact g) ?_; clear h; intro hc h
          exact hR _ _ (Option.some.inj h).symm (by subst_vars; exact weak_l rfl rfl ⟨lR, lR, lR, lR, lE, trivial⟩ ⟨lB ⟨lE, lE, lE, lE, lE, lE, lE, rfl⟩, lB ⟨lE, lE, lE, lE, lE, lE, lE, rfl⟩, lB ⟨lE, lE, lE, lE, lE, LV_sl, rfl⟩, trivial⟩ ⟨lO, trivial⟩)
      · exact hX _ _ (Option.some.inj h).symm (by subst_vars; exact weak_l rfl rfl ⟨lR, lR, lR, trivial⟩ ⟨lB ⟨lE, lE, lE, lE, lE, lE, lE, rfl⟩, lB ⟨lE, lE, lE, lE, lE, lE, lE, rfl⟩, trivial⟩ ⟨lO, trivial⟩)
  · intro v_20 h
    (conv => cbv)
    cases h
    subst_vars
    exact ⟨(LV_tup ⟨(LV_agg ⟨lE, lE, lE, lE, lE, lE, lE, rfl⟩), LV_sl, rfl⟩), rfl⟩
def m_top_ElmSky_made_L1 (N : Nat) (x_1 : top_ElmSky) : (Int × (List api_Span)) → Option ((Int × (List api_Span)) ⊕ ((List api_Span)))
  | (i_8, l_9) =>
    (show Option (Bool) from
      if icmpR .eql i_8 0 then
        some true
      else
        if icmpR .lss i_8 ((x_1.Hours.length : Nat) : Int) then
          some (icmpR .lss i_8 16)
        else
          some false).bind fun q => match q with
    | v_16 =>
      if v_16 then
        (show Option (Int × Int) from
          if icmpR .lss i_8 ((x_1.Hours.length : Nat) : Int) then
            (getO d_A2_u8 x_1.Hours i_8).bind fun x_19 =>
            some (x_19.a0, x_19.a1)
          else
            some (15, 5)).bind fun q => match q with
        | (v_17, v_18) =>
          (m_top_elmSpan N (iopR .rem .i64 (IntKind.wrap .i64 v_17) 40) (iopR .add .i64 (iopR .rem .i64 (IntKind.wrap .i64 v_17) 40) (iopR .rem .i64 (IntKind.wrap .i64 v_18) 30))).bind fun r_20 =>
          if fitsN (l_9.length + 1) 16 then
            some (.inl (iopR .add .i64 i_8 1, (l_9 ++ [r_20])))
          else none
      else
        some (.inr l_9)
def m_top_ElmSky_made (N : Nat) (x_1 : top_ElmSky) : Option ((List api_Span)) :=
  (loopO (m_top_ElmSky_made_L1 N x_1) N (0, [])).bind fun q => match q with
  | l_15 =>
    some l_15
theorem w_top_ElmSky_made (N : Nat) (x_1 : top_ElmSky) (o : (List api_Span)) (h : m_top_ElmSky_made N x_1 = some o) :
    KC Try.prog 11 [.agg [sl_A2_u8 false x_1.Hours]] (sl_api_Span false o) [] := by
  unfold m_top_ElmSky_made at h
  refine con_l [] [1000003, 2000028] seat Try.func11 rfl ent_11 (by kernel_rfl) rfl rfl (by simp) ?_; intro base I hI; (conv => cbv)
  refine L_loop hI seat [1000003, 2000028] (by kernel_rfl) h (fun q => match q with | (i_8, l_9) => ⟨50, [(1, .loc 0 0), (3, .osl 1), (4, .int .i64 i_8)], [(0, ⟨27, [sl_A2_u8 false x_1.Hours], true⟩)], [(1, ⟨30, 2, [.ls api_Span d_api_Span l_9 e_api_Span], true, true⟩)], 0⟩) (fun q => match q with | l_15 => .exit 0) (fun q => match q with | l_15 => ⟨50, [(3, .osl 1)], [], [(1, ⟨30, 2, [.ls api_Span d_api_Span l_15 e_api_Span], true, true⟩)], 0⟩) (by subst_vars; exact weak_l rfl rfl ⟨lR, lR, lE, trivial⟩ ⟨lB ⟨LV_sl, rfl⟩, trivial⟩ ⟨lO, trivial⟩) (by intro q; rcases q with l_15 <;> (intro e; exact Exit.noConfusion e)) ?_ ?_; all_goals clear h
  · intro q x h R hR hX
    obtain ⟨i_8, l_9⟩ := q
    rw [m_top_ElmSky_made_L1] at h
    (conv => cbv)
    refine L_cut hI seat [2000028] (by kernel_rfl) h (fun q => match q with | v_16 => .normal) (fun q => match q with | v_16 => ⟨50, [(1, .loc 0 0), (3, .osl 1), (4, .int .i64 i_8), (20, .bool v_16)], [(0, ⟨27, [sl_A2_u8 false x_1.Hours], true⟩)], [(1, ⟨30, 2, [.ls api_Span d_api_Span l_9 e_api_Span], true, true⟩)], 0⟩) ?_ ?_; all_goals clear h
    · intro x h R hR
      (conv => cbv)
      refine L_tst hI h (by subst_vars; rfl) ?_ ?_ <;> clear h <;> intro h
      · exact hR _ _ (Option.some.inj h).symm (by subst_vars; exact weak_l rfl rfl ⟨lR, lR, lE, lE, trivial⟩ ⟨lB ⟨LV_sl, rfl⟩, trivial⟩ ⟨lO, trivial⟩)
      · refine L_tst hI h (by subst_vars; rfl) ?_ ?_ <;> clear h <;> intro h
        · exact hR _ _ (Option.some.inj h).symm (by subst_vars; exact weak_l rfl rfl ⟨lR, lR, lE, lE, trivial⟩ ⟨lB ⟨LV_sl, rfl⟩, trivial⟩ ⟨lO, trivial⟩)
        · exact hR _ _ (Option.some.inj h).symm (by subst_vars; exact weak_l rfl rfl ⟨lR, lR, lE, lE, trivial⟩ ⟨lB ⟨LV_sl, rfl⟩, trivial⟩ ⟨lO, trivial⟩)
    · intro v_16 h
      (conv => cbv)
      refine L_tst hI h (by subst_vars; rfl) ?_ ?_ <;> clear h <;> intro h
      · refine L_cut hI seat [1000003] (by kernel_rfl) h (fun q => match q with | (v_17, v_18) => .normal) (fun q => match q with | (v_17, v_18) => ⟨50, [(1, .loc 0 0), (3, .osl 1), (4, .int .i64 i_8), (5, .loc 2 0)], [(2, ⟨76, [.int .u8 v_17, .int .u8 v_18], true⟩), (0, ⟨27, [sl_A2_u8 false x_1.Hours], true⟩)], [(1, ⟨30, 2, [.ls api_Span d_api_Span l_9 e_api_Span], true, true⟩)], 0⟩) ?_ ?_; all_goals clear h
        · intro x h R hR
          (conv => cbv)
          refine L_tst hI h (by subst_vars; rfl) ?_ ?_ <;> clear h <;> intro h
          · refine L_get hI h (fun g => by subst_vars; exact g) ?_; clear h; intro hc x_19 hxx_19 h
            exact hR _ _ (Option.some.inj h).symm (by subst_vars; exact weak_l rfl rfl ⟨lR, lR, lE, lR, trivial⟩ ⟨lB ⟨lE, lE, rfl⟩, lB ⟨LV_sl, rfl⟩, trivial⟩ ⟨lO, trivial⟩)
          · exact hR _ _ (Option.some.inj h).symm (by subst_vars; exact weak_l rfl rfl ⟨lR, lR, lE, lR, trivial⟩ ⟨lB ⟨lE, lE, rfl⟩, lB ⟨LV_sl, rfl⟩, trivial⟩ ⟨lO, trivial⟩)
        · intro q h
          rcases q with ⟨v_17, v_18⟩
          (conv => cbv)
          refine L_call hI h (fun v hv => w_top_elmSpan N (iopR .rem .i64 (IntKind.wrap .i64 v_17) 40) (iopR .add .i64 (iopR .rem .i64 (IntKind.wrap .i64 v_17) 40) (iopR .rem .i64 (IntKind.wrap .i64 v_18) 30)) v hv) (by subst_vars; exact ⟨(leD_refl _), (leD_refl _), rfl⟩) ?_; clear h; intro r_20 h; (conv => cbv)
          refine L_conj hI h (fun g => by subst_vars; exact g) ?_; clear h; intro hc h
          exact hR _ _ (Option.some.inj h).symm (by subst_vars; exact weak_l rfl rfl ⟨lR, lR, lE, trivial⟩ ⟨lB ⟨LV_sl, rfl⟩, trivial⟩ ⟨lO, trivial⟩)
      · exact hX _ _ (Option.some.inj h).symm (by subst_vars; exact weak_l rfl rfl ⟨lR, trivial⟩ trivial ⟨lO, trivial⟩)
  · intro l_15 h
    (conv => cbv)
    cases h
    subst_vars
    exact ⟨LV_sl, rfl⟩
def m_top_elmSpans (N : Nat) (l_1 : (List api_Span)) : Option ((List api_Span)) :=
  if fitsN (l_1.length) 16 then
    some l_1
  else none
theorem w_top_elmSpans (N : Nat) (l_1 : (List api_Span)) (o : (List api_Span)) (h : m_top_elmSpans N l_1 = some o) :
    KC Try.prog 14 [sl_api_Span false l_1] (sl_api_Span false o) [] := by
  unfold m_top_elmSpans at h
  refine con_l [] [] seat Try.func14 rfl ent_14 (by kernel_rfl) rfl rfl (by simp) ?_; intro base I hI; (conv => cbv)
  refine L_conj hI h (fun g => by subst_vars; exact g) ?_; clear h; intro hc h
  cases h
  subst_vars
  exact ⟨LV_sl, rfl⟩
def m_slices_IndexFunc_Lint_int_L1 (N : Nat) (v_3 : Int) (s_1 : (List Int)) (f_2 : Int → Option Bool) : Int → Option ((Int) ⊕ ((Int) ⊕ (Unit)))
  | v_6 =>
    if icmpR .lss v_6 v_3 then
      (getO 0 s_1 v_6).bind fun x_10 =>
      (f_2 x_10).bind fun v_11 =>
      if v_11 then
        some (.inr (.inl v_6))
      else
        some (.inl (iopR .add .i64 v_6 1))
    else
      some (.inr (.inr ()))
def m_slices_IndexFunc_Lint_int (N : Nat) (s_1 : (List Int)) (f_2 : Int → Option Bool) : Option (Int) :=
  letO (((s_1.length : Nat) : Int) : Int) fun v_3 =>
  (loopO (m_slices_IndexFunc_Lint_int_L1 N v_3 s_1 f_2) N 0).bind fun q => match q with
  | (.inl v_9) =>
    some v_9
  | (.inr ()) =>
    some (-1)
theorem w_slices_IndexFunc_Lint_int (N : Nat) (s_1 : (List Int)) (f_2 : Int → Option Bool) (kf_2 : Nat) (dsf_2 : List D) (hdf_2 : noAggD dsf_2 = true) (hpf_2 : ∀ x0 r, f_2 x0 = some r → KD Try.prog kf_2 [.int .i64 x0] dsf_2 (.bool r)) (o : Int) (h : m_slices_IndexFunc_Lint_int N s_1 f_2 = some o) :
    KC Try.prog 134 [sl_int false s_1, .d (.fn kf_2 dsf_2)] (.int .i64 o) [] := by
  unfold m_slices_IndexFunc_Lint_int at h
  refine con_l [] [] seat Try.func134 rfl ent_134 (by kernel_rfl) rfl rfl (by simp) ?_; intro base I hI; (conv => cbv)
  replace h := letO_of h; obtain ⟨v_3, hev_3, h⟩ := h
  refine L_loop hI seat [] (by kernel_rfl) h (fun q => match q with | v_6 => ⟨19, [(0, sl_int false s_1), (1, .d (.fn kf_2 dsf_2)), (7, .int .i64 v_3), (8, .int .i64 v_6)], [], [], 0⟩) (fun q => match q with | (.inl v_9) => .ret | (.inr ()) => .exit 0) (fun q => match q with | (.inl v_9) => ⟨19, [(4, .int .i64 v_9)], [], [], 0⟩ | (.inr ()) => ⟨19, [], [], [], 0⟩) (by subst_vars; exact weak_l rfl rfl ⟨LV_sl, lR, lE, lE, trivial⟩ trivial trivial) (by intro q; rcases q with (v_9 | _) <;> (intro e; exact Exit.noConfusion e)) ?_ ?_; all_goals clear h
  · intro v_6 x h R hR hX
    rw [m_slices_IndexFunc_Lint_int_L1] at h
    (conv => cbv)
    refine L_tst hI h (by subst_vars; rfl) ?_ ?_ <;> clear h <;> intro h
    · refine L_get hI h (fun g => by subst_vars; exact g) ?_; clear h; intro hc x_10 hxx_10 h
      refine K_conj hI (by subst_vars; exact hdf_2) ?_
      refine L_callD hI h (args' := [.int .i64 x_10]) (fun v hv => hpf_2 x_10 v hv) (by subst_vars; rfl) ?_; clear h; intro v_11 h; (conv => cbv)
      refine L_tst hI h (by subst_vars; rfl) ?_ ?_ <;> clear h <;> intro h
      · exact hX _ _ (Option.some.inj h).symm (by subst_vars; exact weak_l rfl rfl ⟨lE, trivial⟩ trivial trivial)
      · exact hR _ _ (Option.some.inj h).symm (by subst_vars; exact weak_l rfl rfl ⟨LV_sl, lR, lE, lE, trivial⟩ trivial trivial)
    · exact hX _ _ (Option.some.inj h).symm (by subst_vars; exact weak_l rfl rfl trivial trivial trivial)
  · intro q h
    rcases q with (v_9 | _)
    · (conv => cbv)
      cases h
      subst_vars
      exact ⟨lE, rfl⟩
    · (conv => cbv)
      cases h
      subst_vars
      exact ⟨lE, rfl⟩
def m_slices_ContainsFunc_Lint_int (N : Nat) (s_1 : (List Int)) (f_2 : Int → Option Bool) : Option (Bool) :=
  (m_slices_IndexFunc_Lint_int N s_1 f_2).bind fun r_3 =>
  some (icmpR .geq r_3 0)
theorem w_slices_ContainsFunc_Lint_int (N : Nat) (s_1 : (List Int)) (f_2 : Int → Option Bool) (kf_2 : Nat) (dsf_2 : List D) (hdf_2 : noAggD dsf_2 = true) (hpf_2 : ∀ x0 r, f_2 x0 = some r → KD Try.prog kf_2 [.int .i64 x0] dsf_2 (.bool r)) (o : Bool) (h : m_slices_ContainsFunc_Lint_int N s_1 f_2 = some o) :
    KC Try.prog 92 [sl_int false s_1, .d (.fn kf_2 dsf_2)] (.bool o) [] := by
  unfold m_slices_ContainsFunc_Lint_int at h
  refine con_l [] [] seat Try.func92 rfl ent_92 (by kernel_rfl) rfl rfl (by simp) ?_; intro base I hI; (conv => cbv)
  refine L_call hI h (fun v hv => w_slices_IndexFunc_Lint_int N s_1 f_2 kf_2 dsf_2 hdf_2 hpf_2 v hv) (by subst_vars; exact ⟨(leD_refl _), (leD_refl _), rfl⟩) ?_; clear h; intro r_3 h; (conv => cbv)
  cases h
  subst_vars
  exact ⟨lE, rfl⟩
def m_stream_within_1 (N : Nat) (n_1 : Int) (p_2 : Int) (p_3 : Int) : Option (Bool) :=
  (show Option (Bool) from
    if icmpR .lss n_1 p_2 then
      some true
    else
      some (icmpR .gtr n_1 p_3)).bind fun q => match q with
  | v_4 =>
    some v_4
theorem w_stream_within_1 (N : Nat) (n_1 : Int) (p_2 : Int) (p_3 : Int) (o : Bool) (h : m_stream_within_1 N n_1 p_2 p_3 = some o) :
    KC Try.prog 93 [.int .i64 n_1, .ptr [.int .i64 p_2], .ptr [.int .i64 p_3]] (.bool o) [] := by
  unfold m_stream_within_1 at h
  refine con_l [] [1000001] seat Try.func93 rfl ent_93 (by kernel_rfl) rfl rfl (by simp) ?_; intro base I hI; (conv => cbv)
  refine L_cut hI seat [] (by kernel_rfl) h (fun q => match q with | v_4 => .normal) (fun q => match q with | v_4 => ⟨13, [(4, .bool v_4)], [], [], 0⟩) ?_ ?_; all_goals clear h
  · intro x h R hR
    (conv => cbv)
    refine L_tst hI h (by subst_vars; rfl) ?_ ?_ <;> clear h <;> intro h
    · exact hR _ _ (Option.some.inj h).symm (by subst_vars; exact weak_l rfl rfl ⟨lE, trivial⟩ trivial trivial)
    · exact hR _ _ (Option.some.inj h).symm (by subst_vars; exact weak_l rfl rfl ⟨lE, trivial⟩ trivial trivial)
  · intro v_4 h
    (conv => cbv)
    cases h
    subst_vars
    exact ⟨lE, rfl⟩
def m_stream_within (N : Nat) (least_1 : Int) (most_2 : Int) (l_3 : (List Int)) : Option (Bool) :=
  (m_slices_ContainsFunc_Lint_int N l_3 (fun x0 => m_stream_within_1 N x0 least_1 most_2)).bind fun r_4 =>
  some (!r_4)
theorem w_stream_within (N : Nat) (least_1 : Int) (most_2 : Int) (l_3 : (List Int)) (o : Bool) (h : m_stream_within N least_1 most_2 l_3 = some o) :
    KC Try.prog 46 [.int .i64 least_1, .int .i64 most_2, sl_int false l_3] (.bool o) [] := by
  unfold m_stream_within at h
  refine con_l [] [] seat Try.func46 rfl ent_46 (by kernel_rfl) rfl rfl (by simp) ?_; intro base I hI; (conv => cbv)
  refine L_call hI h (fun v hv => w_slices_ContainsFunc_Lint_int N l_3 (fun x0 => m_stream_within_1 N x0 least_1 most_2) 93 (KV.toDL [.ptr [.int .i64 least_1], .ptr [.int .i64 most_2]]) rfl (fun x0 r hr => KD_of (caps := [.ptr [.int .i64 least_1], .ptr [.int .i64 most_2]]) (w_stream_within_1 N x0 least_1 most_2 r hr)) v hv) (by subst_vars; exact ⟨(leD_refl _), (leD_refl _), rfl⟩) ?_; clear h; intro r_4 h; (conv => cbv)
  cases h
  subst_vars
  exact ⟨lE, rfl⟩
def m_stream_isSpan (N : Nat) (s_1 : api_Span) (least_2 : Int) (most_3 : Int) : Option (Bool) :=
  (show Option (Bool) from
    (m_stream_within N least_2 most_3 [s_1.Low, s_1.High]).bind fun r_5 =>
    if r_5 then
      some (icmpR .leq s_1.Low s_1.High)
    else
      some false).bind fun q => match q with
  | v_4 =>
    some v_4
theorem w_stream_isSpan (N : Nat) (s_1 : api_Span) (least_2 : Int) (most_3 : Int) (o : Bool) (h : m_stream_isSpan N s_1 least_2 most_3 = some o) :
    KC Try.prog 120 [.agg [.int .i64 s_1.Low, .int .i64 s_1.High], .int .i64 least_2, .int .i64 most_3] (.bool o) [] := by
  unfold m_stream_isSpan at h
  refine con_l [] [1000001] seat Try.func120 rfl ent_120 (by kernel_rfl) rfl rfl (by simp) ?_; intro base I hI; (conv => cbv)
  refine L_cut hI seat [] (by kernel_rfl) h (fun q => match q with | v_4 => .normal) (fun q => match q with | v_4 => ⟨22, [(6, .bool v_4)], [], [], 0⟩) ?_ ?_; all_goals clear h
  · intro x h R hR
    (conv => cbv)
    refine L_call hI h (fun v hv => w_stream_within N least_2 most_3 [s_1.Low, s_1.High] v hv) (by subst_vars; exact ⟨(leD_refl _), (leD_refl _), ⟨.inl rfl, rfl, leDLL_refl _⟩, rfl⟩) ?_; clear h; intro r_5 h; (conv => cbv)
    refine L_tst hI h (by subst_vars; rfl) ?_ ?_ <;> clear h <;> intro h
    · exact hR _ _ (Option.some.inj h).symm (by subst_vars; exact weak_l rfl rfl ⟨lE, trivial⟩ trivial trivial)
    · exact hR _ _ (Option.some.inj h).symm (by subst_vars; exact weak_l rfl rfl ⟨lE, trivial⟩ trivial trivial)
  · intro v_4 h
    (conv => cbv)
    cases h
    subst_vars
    exact ⟨lE, rfl⟩
def m_stream_checkMill (N : Nat) (m_1 : api_StreamMill) : Option (Int) :=
  (show Option (Bool) from
    (m_stream_within N 1 8 [m_1.Hammers]).bind fun r_3 =>
    if !r_3 then
      some true
    else
      (m_stream_within N 0 100 [m_1.Takes]).bind fun r_4 =>
      if !r_4 then
        some true
      else
        (m_stream_isSpan N m_1.Blows 0 5000).bind fun r_5 =>
        if !r_5 then
          some true
        else
          (m_stream_within N 0 500 [m_1.Holds]).bind fun r_6 =>
          if !r_6 then
            some true
          else
            (m_stream_isSpan N m_1.Now 0 m_1.Holds).bind fun r_7 =>
            some (!r_7)).bind fun q => match q with
  | v_2 =>
    if v_2 then
      some 2
    else
      some 0
theorem w_stream_checkMill (N : Nat) (m_1 : api_StreamMill) (o : Int) (h : m_stream_checkMill N m_1 = some o) :
    KC Try.prog 74 [.agg [.int .i64 m_1.Hammers, .int .i64 m_1.Takes, .int .i64 m_1.Blows.Low, .int .i64 m_1.Blows.High, .int .i64 m_1.Holds, .int .i64 m_1.Now.Low, .int .i64 m_1.Now.High]] (.int .i64 o) [] := by
  unfold m_stream_checkMill at h
  refine con_l [] [1000001] seat Try.func74 rfl ent_74 (by kernel_rfl) rfl rfl (by simp) ?_; intro base I hI; (conv => cbv)
  refine L_cut hI seat [] (by kernel_rfl) h (fun q => match q with | v_2 => .normal) (fun q => match q with | v_2 => ⟨36, [(35, .bool v_2)], [], [], 0⟩) ?_ ?_; all_goals clear h
  · intro x h R hR
    (conv => cbv)
    refine L_call hI h (fun v hv => w_stream_within N 1 8 [m_1.Hammers] v hv) (by subst_vars; exact ⟨(leD_refl _), (leD_refl _), ⟨.inl rfl, rfl, leDLL_refl _⟩, rfl⟩) ?_; clear h; intro r_3 h; (conv => cbv)
    refine L_tst hI h (by subst_vars; rfl) ?_ ?_ <;> clear h <;> intro h
    · exact hR _ _ (Option.some.inj h).symm (by subst_vars; exact weak_l rfl rfl ⟨lE, trivial⟩ trivial trivial)
    · refine L_call hI h (fun v hv => w_stream_within N 0 100 [m_1.Takes] v hv) (by subst_vars; exact ⟨(leD_refl _), (leD_refl _), ⟨.inl rfl, rfl, leDLL_refl _⟩, rfl⟩) ?_; clear h; intro r_4 h; (conv => cbv)
      refine L_tst hI h (by subst_vars; rfl) ?_ ?_ <;> clear h <;> intro h
      · exact hR _ _ (Option.some.inj h).symm (by subst_vars; exact weak_l rfl rfl ⟨lE, trivial⟩ trivial trivial)
      · refine L_call hI h (fun v hv => w_stream_isSpan N m_1.Blows 0 5000 v hv) (by subst_vars; exact ⟨(leD_refl _), (leD_refl _), (leD_refl _), rfl⟩) ?_; clear h; intro r_5 h; (conv => cbv)
        refine L_tst hI h (by subst_vars; rfl) ?_ ?_ <;> clear h <;> intro h
        · exact hR _ _ (Option.some.inj h).symm (by subst_vars; exact weak_l rfl rfl ⟨lE, trivial⟩ trivial trivial)
        · refine L_call hI h (fun v hv => w_stream_within N 0 500 [m_1.Holds] v hv) (by subst_vars; exact ⟨(leD_refl _), (leD_refl _), ⟨.inl rfl, rfl, leDLL_refl _⟩, rfl⟩) ?_; clear h; intro r_6 h; (conv => cbv)
          refine L_tst hI h (by subst_vars; rfl) ?_ ?_ <;> clear h <;> intro h
          · exact hR _ _ (Option.some.inj h).symm (by subst_vars; exact weak_l rfl rfl ⟨lE, trivial⟩ trivial trivial)
          · refine L_call hI h (fun v hv => w_stream_isSpan N m_1.Now 0 m_1.Holds v hv) (by subst_vars; exact ⟨(leD_refl _), (leD_refl _), (leD_refl _), rfl⟩) ?_; clear h; intro r_7 h; (conv => cbv)
            exact hR _ _ (Option.some.inj h).symm (by subst_vars; exact weak_l rfl rfl ⟨lE, trivial⟩ trivial trivial)
  · intro v_2 h
    (conv => cbv)
    refine L_tst hI h (by subst_vars; rfl) ?_ ?_ <;> clear h <;> intro h
    · cases h
      subst_vars
      exact ⟨lE, rfl⟩
    · cases h
      subst_vars
      exact ⟨lE, rfl⟩
def m_slices_IndexFunc_Lapi_Span_api_Span_L1 (N : Nat) (v_3 : Int) (s_1 : (List api_Span)) (f_2 : api_Span → Option Bool) : Int → Option ((Int) ⊕ ((Int) ⊕ (Unit)))
  | v_6 =>
    if icmpR .lss v_6 v_3 then
      (getO d_api_Span s_1 v_6).bind fun x_10 =>
      (f_2 x_10).bind fun v_11 =>
      if v_11 then
        some (.inr (.inl v_6))
      else
        some (.inl (iopR .add .i64 v_6 1))
    else
      some (.inr (.inr ()))
def m_slices_IndexFunc_Lapi_Span_api_Span (N : Nat) (s_1 : (List api_Span)) (f_2 : api_Span → Option Bool) : Option (Int) :=
  letO (((s_1.length : Nat) : Int) : Int) fun v_3 =>
  (loopO (m_slices_IndexFunc_Lapi_Span_api_Span_L1 N v_3 s_1 f_2) N 0).bind fun q => match q with
  | (.inl v_9) =>
    some v_9
  | (.inr ()) =>
    some (-1)
theorem w_slices_IndexFunc_Lapi_Span_api_Span (N : Nat) (s_1 : (List api_Span)) (f_2 : api_Span → Option Bool) (kf_2 : Nat) (dsf_2 : List D) (hdf_2 : noAggD dsf_2 = true) (hpf_2 : ∀ x0 r, f_2 x0 = some r → KD Try.prog kf_2 [.agg [.int .i64 x0.Low, .int .i64 x0.High]] dsf_2 (.bool r)) (o : Int) (h : m_slices_IndexFunc_Lapi_Span_api_Span N s_1 f_2 = some o) :
    KC Try.prog 121 [sl_api_Span false s_1, .d (.fn kf_2 dsf_2)] (.int .i64 o) [] := by
  unfold m_slices_IndexFunc_Lapi_Span_api_Span at h
  refine con_l [] [] seat Try.func121 rfl ent_121 (by kernel_rfl) rfl rfl (by simp) ?_; intro base I hI; (conv => cbv)
  replace h := letO_of h; obtain ⟨v_3, hev_3, h⟩ := h
  refine L_loop hI seat [] (by kernel_rfl) h (fun q => match q with | v_6 => ⟨19, [(0, sl_api_Span false s_1), (1, .d (.fn kf_2 dsf_2)), (7, .int .i64 v_3), (8, .int .i64 v_6)], [], [], 0⟩) (fun q => match q with | (.inl v_9) => .ret | (.inr ()) => .exit 0) (fun q => match q with | (.inl v_9) => ⟨19, [(4, .int .i64 v_9)], [], [], 0⟩ | (.inr ()) => ⟨19, [], [], [], 0⟩) (by subst_vars; exact weak_l rfl rfl ⟨LV_sl, lR, lE, lE, trivial⟩ trivial trivial) (by intro q; rcases q with (v_9 | _) <;> (intro e; exact Exit.noConfusion e)) ?_ ?_; all_goals clear h
  · intro v_6 x h R hR hX
    rw [m_slices_IndexFunc_Lapi_Span_api_Span_L1] at h
    (conv => cbv)
    refine L_tst hI h (by subst_vars; rfl) ?_ ?_ <;> clear h <;> intro h
    · refine L_get hI h (fun g => by subst_vars; exact g) ?_; clear h; intro hc x_10 hxx_10 h
      refine K_conj hI (by subst_vars; exact hdf_2) ?_
      refine L_callD hI h (args' := [.agg [.int .i64 x_10.Low, .int .i64 x_10.High]]) (fun v hv => hpf_2 x_10 v hv) (by subst_vars; rfl) ?_; clear h; intro v_11 h; (conv => cbv)
      refine L_tst hI h (by subst_vars; rfl) ?_ ?_ <;> clear h <;> intro h
      · exact hX _ _ (Option.some.inj h).symm (by subst_vars; exact weak_l rfl rfl ⟨lE, trivial⟩ trivial trivial)
      · exact hR _ _ (Option.some.inj h).symm (by subst_vars; exact weak_l rfl rfl ⟨LV_sl, lR, lE, lE, trivial⟩ trivial trivial)
    · exact hX _ _ (Option.some.inj h).symm (by subst_vars; exact weak_l rfl rfl trivial trivial trivial)
  · intro q h
    rcases q with (v_9 | _)
    · (conv => cbv)
      cases h
      subst_vars
      exact ⟨lE, rfl⟩
    · (conv => cbv)
      cases h
      subst_vars
      exact ⟨lE, rfl⟩
def m_slices_ContainsFunc_Lapi_Span_api_Span (N : Nat) (s_1 : (List api_Span)) (f_2 : api_Span → Option Bool) : Option (Bool) :=
  (m_slices_IndexFunc_Lapi_Span_api_Span N s_1 f_2).bind fun r_3 =>
  some (icmpR .geq r_3 0)
theorem w_slices_ContainsFunc_Lapi_Span_api_Span (N : Nat) (s_1 : (List api_Span)) (f_2 : api_Span → Option Bool) (kf_2 : Nat) (dsf_2 : List D) (hdf_2 : noAggD dsf_2 = true) (hpf_2 : ∀ x0 r, f_2 x0 = some r → KD Try.prog kf_2 [.agg [.int .i64 x0.Low, .int .i64 x0.High]] dsf_2 (.bool r)) (o : Bool) (h : m_slices_ContainsFunc_Lapi_Span_api_Span N s_1 f_2 = some o) :
    KC Try.prog 78 [sl_api_Span false s_1, .d (.fn kf_2 dsf_2)] (.bool o) [] := by
  unfold m_slices_ContainsFunc_Lapi_Span_api_Span at h
  refine con_l [] [] seat Try.func78 rfl ent_78 (by kernel_rfl) rfl rfl (by simp) ?_; intro base I hI; (conv => cbv)
  refine L_call hI h (fun v hv => w_slices_IndexFunc_Lapi_Span_api_Span N s_1 f_2 kf_2 dsf_2 hdf_2 hpf_2 v hv) (by subst_vars; exact ⟨(leD_refl _), (leD_refl _), rfl⟩) ?_; clear h; intro r_3 h; (conv => cbv)
  cases h
  subst_vars
  exact ⟨lE, rfl⟩
def m_stream_Check_1 (N : Nat) (s_1 : api_Span) : Option (Bool) :=
  (m_stream_isSpan N s_1 0 500).bind fun r_2 =>
  some (!r_2)
theorem w_stream_Check_1 (N : Nat) (s_1 : api_Span) (o : Bool) (h : m_stream_Check_1 N s_1 = some o) :
    KC Try.prog 133 [.agg [.int .i64 s_1.Low, .int .i64 s_1.High]] (.bool o) [] := by
  unfold m_stream_Check_1 at h
  refine con_l [] [] seat Try.func133 rfl ent_133 (by kernel_rfl) rfl rfl (by simp) ?_; intro base I hI; (conv => cbv)
  refine L_call hI h (fun v hv => w_stream_isSpan N s_1 0 500 v hv) (by subst_vars; exact ⟨(leD_refl _), (leD_refl _), (leD_refl _), rfl⟩) ?_; clear h; intro r_2 h; (conv => cbv)
  cases h
  subst_vars
  exact ⟨lE, rfl⟩
def m_stream_Check (N : Nat) (m_1 : api_StreamMill) (flows_2 : (List api_Span)) : Option (Int) :=
  (m_stream_checkMill N m_1).bind fun r_3 =>
  if icmpR .neq r_3 0 then
    some r_3
  else
    if icmpR .gtr ((flows_2.length : Nat) : Int) 24 then
      some 5
    else
      if icmpR .eql ((flows_2.length : Nat) : Int) 0 then
        some 7
      else
        (m_slices_ContainsFunc_Lapi_Span_api_Span N flows_2 (fun x0 => m_stream_Check_1 N x0)).bind fun r_4 =>
        if r_4 then
          some 3
        else
          some 0
theorem w_stream_Check (N : Nat) (m_1 : api_StreamMill) (flows_2 : (List api_Span)) (o : Int) (h : m_stream_Check N m_1 flows_2 = some o) :
    KC Try.prog 91 [.agg [.int .i64 m_1.Hammers, .int .i64 m_1.Takes, .int .i64 m_1.Blows.Low, .int .i64 m_1.Blows.High, .int .i64 m_1.Holds, .int .i64 m_1.Now.Low, .int .i64 m_1.Now.High], sl_api_Span false flows_2] (.int .i64 o) [] := by
  unfold m_stream_Check at h
  refine con_l [] [] seat Try.func91 rfl ent_91 (by kernel_rfl) rfl rfl (by simp) ?_; intro base I hI; (conv => cbv)
  refine L_call hI h (fun v hv => w_stream_checkMill N m_1 v hv) (by subst_vars; exact ⟨(leD_refl _), rfl⟩) ?_; clear h; intro r_3 h; (conv => cbv)
  refine L_tst hI h (by subst_vars; rfl) ?_ ?_ <;> clear h <;> intro h
  · cases h
    subst_vars
    exact ⟨lE, rfl⟩
  · refine L_tst hI h (by subst_vars; rfl) ?_ ?_ <;> clear h <;> intro h
    · cases h
      subst_vars
      exact ⟨lE, rfl⟩
    · refine L_tst hI h (by subst_vars; rfl) ?_ ?_ <;> clear h <;> intro h
      · cases h
        subst_vars
        exact ⟨lE, rfl⟩
      · refine L_call hI h (fun v hv => w_slices_ContainsFunc_Lapi_Span_api_Span N flows_2 (fun x0 => m_stream_Check_1 N x0) 133 (KV.toDL []) rfl (fun x0 r hr => KD_of (caps := []) (w_stream_Check_1 N x0 r hr)) v hv) (by subst_vars; exact ⟨(leD_refl _), (leD_refl _), rfl⟩) ?_; clear h; intro r_4 h; (conv => cbv)
        refine L_tst hI h (by subst_vars; rfl) ?_ ?_ <;> clear h <;> intro h
        · cases h
          subst_vars
          exact ⟨lE, rfl⟩
        · cases h
          subst_vars
          exact ⟨lE, rfl⟩
def m_stream_open (N : Nat) (m_1 : api_StreamMill) (flows_2 : (List api_Span)) : Option (stream_valley × Int) :=
  (m_stream_Check N m_1 flows_2).bind fun r_3 =>
  some ((stream_valley.mk m_1 flows_2), r_3)
theorem w_stream_open (N : Nat) (m_1 : api_StreamMill) (flows_2 : (List api_Span)) (o : stream_valley × Int) (h : m_stream_open N m_1 flows_2 = some o) :
    KC Try.prog 45 [.agg [.int .i64 m_1.Hammers, .int .i64 m_1.Takes, .int .i64 m_1.Blows.Low, .int .i64 m_1.Blows.High, .int .i64 m_1.Holds, .int .i64 m_1.Now.Low, .int .i64 m_1.Now.High], sl_api_Span false flows_2] (.tup [.agg [.int .i64 o.1.StreamMill.Hammers, .int .i64 o.1.StreamMill.Takes, .int .i64 o.1.StreamMill.Blows.Low, .int .i64 o.1.StreamMill.Blows.High, .int .i64 o.1.StreamMill.Holds, .int .i64 o.1.StreamMill.Now.Low, .int .i64 o.1.StreamMill.Now.High, sl_api_Span false o.1.flows], .int .i64 o.2]) [] := by
  unfold m_stream_open at h
  refine con_l [] [4000001] seat Try.func45 rfl ent_45 (by kernel_rfl) rfl rfl (by simp) ?_; intro base I hI; (conv => cbv)
  refine L_call hI h (fun v hv => w_stream_Check N m_1 flows_2 v hv) (by subst_vars; exact ⟨(leD_refl _), (leD_refl _), rfl⟩) ?_; clear h; intro r_3 h; (conv => cbv)
  cases h
  subst_vars
  exact ⟨(LV_tup ⟨(LV_agg ⟨lE, lE, lE, lE, lE, lE, lE, LV_sl, rfl⟩), lE, rfl⟩), rfl⟩
end
end Go.Proofs.Ytgefdljjhmjdaaa.Aw

/- Plain models and walks, printed by wip/gen/tw.py. -/
namespace Go.Proofs.Ytgefdljjhmjdaaa.Aw
open Go Go.RowKit Go.Proofs
set_option maxRecDepth 100000
set_option maxHeartbeats 4000000
set_option linter.unusedSimpArgs false
set_option linter.unusedVariables false
noncomputable section
def m_stream_valley_tides (N : Nat) (p_1 : stream_valley) (plan_2 : (List Int)) (of_3 : api_Span → Option Int) : Option ((stream_valley × (List Int))) :=
  some (p_1, plan_2)
theorem w_stream_valley_tides (N : Nat) (p_1 : stream_valley) (plan_2 : (List Int)) (of_3 : api_Span → Option Int) (kof_3 : Nat) (dsof_3 : List D) (hdof_3 : noAggD dsof_3 = true) (hpof_3 : ∀ x0 r, of_3 x0 = some r → KD Try.prog kof_3 [.agg [.int .i64 x0.Low, .int .i64 x0.High]] dsof_3 (.int .i64 r)) (o : (stream_valley × (List Int))) (h : m_stream_valley_tides N p_1 plan_2 of_3 = some o) :
    KC Try.prog 73 [.agg [.int .i64 p_1.StreamMill.Hammers, .int .i64 p_1.StreamMill.Takes, .int .i64 p_1.StreamMill.Blows.Low, .int .i64 p_1.StreamMill.Blows.High, .int .i64 p_1.StreamMill.Holds, .int .i64 p_1.StreamMill.Now.Low, .int .i64 p_1.StreamMill.Now.High, sl_api_Span false p_1.flows], sl_int false plan_2, .d (.fn kof_3 dsof_3)] (.dfn 119 [.ptr [.d (.fn kof_3 dsof_3)], .ptr [.int .i64 o.1.StreamMill.Hammers, .int .i64 o.1.StreamMill.Takes, .int .i64 o.1.StreamMill.Blows.Low, .int .i64 o.1.StreamMill.Blows.High, .int .i64 o.1.StreamMill.Holds, .int .i64 o.1.StreamMill.Now.Low, .int .i64 o.1.StreamMill.Now.High, sl_api_Span false o.1.flows], .ptr [sl_int false o.2]]) [] := by
  unfold m_stream_valley_tides at h
  refine con_l [] [] seat Try.func73 rfl ent_73 (by kernel_rfl) rfl rfl (by simp) ?_; intro base I hI; (conv => cbv)
  cases h
  subst_vars
  exact ⟨lE, rfl⟩
def m_stream_valley_tides_1_L1 (N : Nat) (v_5 : Int) (p_3 : (List Int)) (p_2 : stream_valley) (p_1 : api_Span → Option Int) : (Int × Int) → Option (List ((Int × stream_tide)) × ((Int × Int) ⊕ ((Unit) ⊕ (Unit))))
  | (water_9, v_10) =>
    if icmpR .lss v_10 v_5 then
      (getO 0 p_3 v_10).bind fun x_14 =>
      (getO d_api_Span p_2.flows v_10).bind fun x_15 =>
      (p_1 x_15).bind fun v_16 =>
      yieldO (v_10, (stream_tide.mk (min p_2.StreamMill.Holds (iopR .add .i64 water_9 v_16)) (iopR .sub .i64 (min p_2.StreamMill.Holds (iopR .add .i64 water_9 v_16)) (iopR .mul .i64 x_14 p_2.StreamMill.Takes)))) (
        if icmpR .lss (iopR .sub .i64 (min p_2.StreamMill.Holds (iopR .add .i64 water_9 v_16)) (iopR .mul .i64 x_14 p_2.StreamMill.Takes)) 0 then
          some ([], .inr (.inl ()))
        else
          some ([], .inl (iopR .sub .i64 (min p_2.StreamMill.Holds (iopR .add .i64 water_9 v_16)) (iopR .mul .i64 x_14 p_2.StreamMill.Takes), iopR .add .i64 v_10 1)))
    else
      some ([], .inr (.inr ()))
def m_stream_valley_tides_1 (N : Nat) (p_1 : api_Span → Option Int) (p_2 : stream_valley) (p_3 : (List Int)) : Option (List (Int × stream_tide) × Unit) :=
  (p_1 p_2.StreamMill.Now).bind fun v_4 =>
  letO (((p_3.length : Nat) : Int) : Int) fun v_5 =>
  thenY (loopY (m_stream_valley_tides_1_L1 N v_5 p_3 p_2 p_1) N (v_4, 0)) fun q => match q with
  | (.inl ()) =>
    some ([], ())
  | (.inr ()) =>
    some ([], ())
def m_it_stream_valley_tides_1 (N : Nat) (p_1 : api_Span → Option Int) (p_2 : stream_valley) (p_3 : (List Int)) : Option (List (Int × stream_tide)) := (m_stream_valley_tides_1 N p_1 p_2 p_3).bind fun q => some q.1
theorem i_stream_valley_tides_1 (N : Nat) (p_1 : api_Span → Option Int) (kp_1 : Nat) (dsp_1 : List D) (hdp_1 : noAggD dsp_1 = true) (hpp_1 : ∀ x0 r, p_1 x0 = some r → KD Try.prog kp_1 [.agg [.int .i64 x0.Low, .int .i64 x0.High]] dsp_1 (.int .i64 r)) (p_2 : stream_valley) (p_3 : (List Int)) (o : List (Int × stream_tide)) (h : m_it_stream_valley_tides_1 N p_1 p_2 p_3 = some o) :
    IterCon Try.prog 119 (KV.toDL [.ptr [.d (.fn kp_1 dsp_1)], .ptr [.int .i64 p_2.StreamMill.Hammers, .int .i64 p_2.StreamMill.Takes, .int .i64 p_2.StreamMill.Blows.Low, .int .i64 p_2.StreamMill.Blows.High, .int .i64 p_2.StreamMill.Holds, .int .i64 p_2.StreamMill.Now.Low, .int .i64 p_2.StreamMill.Now.High, sl_api_Span false p_2.flows], .ptr [sl_int false p_3]]) ((o.map fun (y : (Int × stream_tide)) => [.int .i64 y.1, .agg [.int .i64 y.2.full, .int .i64 y.2.left]]).map KV.toDL) := by
  unfold m_it_stream_valley_tides_1 at h
  have h1 := bind_of h; clear h
  obtain ⟨⟨zs, u⟩, h, e⟩ := h1
  cases e
  unfold m_stream_valley_tides_1 at h
  refine iter_l (en := fun (y : (Int × stream_tide)) => [.int .i64 y.1, .agg [.int .i64 y.2.full, .int .i64 y.2.left]]) [] seat Try.func119 rfl ent_119 (by kernel_rfl) rfl rfl rfl ?_; intro E Inv Fin hTk base s hy I hI; (conv => cbv)
  refine K_conj hI (by subst_vars; exact hdp_1) ?_
  refine L_callD hI h (args' := [.agg [.int .i64 p_2.StreamMill.Now.Low, .int .i64 p_2.StreamMill.Now.High]]) (fun v hv => hpp_1 p_2.StreamMill.Now v hv) (by subst_vars; rfl) ?_; clear h; intro v_4 h; (conv => cbv)
  replace h := letO_of h; obtain ⟨v_5, hev_5, h⟩ := h
  refine L_loopY (Fin := Fin) hI seat [] (by kernel_rfl) h hy (fun q => match q with | (water_9, v_10) => ⟨53, [(0, .yld), (1, .ptr [.d (.fn kp_1 dsp_1)]), (2, .ptr [.int .i64 p_2.StreamMill.Hammers, .int .i64 p_2.StreamMill.Takes, .int .i64 p_2.StreamMill.Blows.Low, .int .i64 p_2.StreamMill.Blows.High, .int .i64 p_2.StreamMill.Holds, .int .i64 p_2.StreamMill.Now.Low, .int .i64 p_2.StreamMill.Now.High, sl_api_Span false p_2.flows]), (5, .int .i64 water_9), (14, sl_int false p_3), (15, .int .i64 v_5), (16, .int .i64 v_10)], [], [], 0⟩) (fun q => match q with | (.inl ()) => .ret | (.inr ()) => .exit 0) (fun q => match q with | (.inl ()) => ⟨53, [], [], [], 0⟩ | (.inr ()) => ⟨53, [], [], [], 0⟩) (.ret) (by subst_vars; exact weak_l rfl rfl ⟨lR, lE, lE, lE, LV_sl, lE, lE, trivial⟩ trivial trivial) (by intro q; rcases q with (_ | _) <;> (intro e; exact Exit.noConfusion e)) (by intro e; exact Exit.noConfusion e) ?_ ?_ ?_; all_goals clear h hy
  · intro q x zs ps s h hy R hR hX hF
    obtain ⟨water_9, v_10⟩ := q
    rw [m_stream_valley_tides_1_L1] at h
    (conv => cbv)
    refine L_tst hI h (by subst_vars; rfl) ?_ ?_ <;> clear h <;> intro h
    · refine L_get hI h (fun g => by subst_vars; exact g) ?_; clear h; intro hc x_14 hxx_14 h
      refine L_get hI h (fun g => by subst_vars; exact g) ?_; clear h; intro hc x_15 hxx_15 h
      refine K_conj hI (by subst_vars; exact hdp_1) ?_
      refine L_callD hI h (args' := [.agg [.int .i64 x_15.Low, .int .i64 x_15.High]]) (fun v hv => hpp_1 x_15 v hv) (by subst_vars; rfl) ?_; clear h; intro v_16 h; (conv => cbv)
      refine L_yield hI hTk (y := (v_10, (stream_tide.mk (min p_2.StreamMill.Holds (iopR .add .i64 water_9 v_16)) (iopR .sub .i64 (min p_2.StreamMill.Holds (iopR .add .i64 water_9 v_16)) (iopR .mul .i64 x_14 p_2.StreamMill.Takes))))) h hy (by subst_vars; rfl) ?_ ?_ <;> clear h hy
      · intro zs s h hy
        (conv => cbv)
        refine K_tst hI (fun hq => by rw [hI] at hq; cases hq) (fun _ => ?_)
        refine L_tst hI h (by subst_vars; rfl) ?_ ?_ <;> clear h <;> intro h
        · obtain ⟨rfl, rfl⟩ := L_leafY h; exact hX _ _ _ rfl hy (by subst_vars; exact weak_l rfl rfl trivial trivial trivial)
        · obtain ⟨rfl, rfl⟩ := L_leafY h; exact hR _ _ _ rfl hy (by subst_vars; exact weak_l rfl rfl ⟨lR, lE, lE, lE, LV_sl, lE, lE, trivial⟩ trivial trivial)
      · intro s hfin
        (conv => cbv)
        refine K_tst hI (fun _ => ?_) (fun hq => by rw [hI] at hq; cases hq)
        exact hF _ _ hfin
    · obtain ⟨rfl, rfl⟩ := L_leafY h; exact hX _ _ _ rfl hy (by subst_vars; exact weak_l rfl rfl trivial trivial trivial)
  · intro q zs s h hy
    rcases q with (_ | _)
    · (conv => cbv)
      exact Y_end hTk h hy
    · (conv => cbv)
      exact Y_end hTk h hy
  · intro S1 s hfin
    (conv => cbv)
    exact hfin
def m_stream_valley_dry_L1 (N : Nat) : (Int × stream_tide) → Unit → Option ((Unit) ⊕ (Int))
  | y_6, () =>
    if icmpR .lss y_6.2.left 0 then
      some (.inr y_6.1)
    else
      some (.inl ())
def m_stream_valley_dry (N : Nat) (p_1 : stream_valley) (plan_2 : (List Int)) (of_3 : api_Span → Option Int) : Option (Int) :=
  (m_stream_valley_tides N p_1 plan_2 of_3).bind fun r_4 =>
  (m_it_stream_valley_tides_1 N of_3 r_4.1 r_4.2).bind fun ys_5 =>
  (rangeO (m_stream_valley_dry_L1 N) ys_5 ()).bind fun q => match q with
  | .inl () =>
    some (-1)
  | .inr v_7 =>
    some v_7
theorem w_stream_valley_dry (N : Nat) (p_1 : stream_valley) (plan_2 : (List Int)) (of_3 : api_Span → Option Int) (kof_3 : Nat) (dsof_3 : List D) (hdof_3 : noAggD dsof_3 = true) (hpof_3 : ∀ x0 r, of_3 x0 = some r → KD Try.prog kof_3 [.agg [.int .i64 x0.Low, .int .i64 x0.High]] dsof_3 (.int .i64 r)) (o : Int) (h : m_stream_valley_dry N p_1 plan_2 of_3 = some o) :
    KC Try.prog 71 [.agg [.int .i64 p_1.StreamMill.Hammers, .int .i64 p_1.StreamMill.Takes, .int .i64 p_1.StreamMill.Blows.Low, .int .i64 p_1.StreamMill.Blows.High, .int .i64 p_1.StreamMill.Holds, .int .i64 p_1.StreamMill.Now.Low, .int .i64 p_1.StreamMill.Now.High, sl_api_Span false p_1.flows], sl_int false plan_2, .d (.fn kof_3 dsof_3)] (.int .i64 o) [] := by
  unfold m_stream_valley_dry at h
  refine con_l [] [] seat Try.func71 rfl ent_71 (by kernel_rfl) rfl rfl (by simp) ?_; intro base I hI; (conv => cbv)
  refine L_call hI h (fun v hv => w_stream_valley_tides N p_1 plan_2 of_3 kof_3 dsof_3 hdof_3 hpof_3 v hv) (by subst_vars; exact ⟨(leD_refl _), (leD_refl _), (leD_refl _), rfl⟩) ?_; clear h; intro r_4 h; (conv => cbv)
  replace h := bind_of h; obtain ⟨ys_5, hyys_5, h⟩ := h
  refine W_weak hI (S' := ⟨19, [(6, .loc 1 0), (12, .dfn 119 [.ptr [.d (.fn kof_3 dsof_3)], .ptr [.int .i64 r_4.1.StreamMill.Hammers, .int .i64 r_4.1.StreamMill.Takes, .int .i64 r_4.1.StreamMill.Blows.Low, .int .i64 r_4.1.StreamMill.Blows.High, .int .i64 r_4.1.StreamMill.Holds, .int .i64 r_4.1.StreamMill.Now.Low, .int .i64 r_4.1.StreamMill.Now.High, sl_api_Span false r_4.1.flows], .ptr [sl_int false r_4.2]])], [(1, ⟨3, [.lit .i64 0], true⟩)], [], 0⟩) (by subst_vars; exact weak_l rfl rfl ⟨lR, lE, trivial⟩ ⟨lB ⟨lE, rfl⟩, trivial⟩ trivial) ?_
  refine L_range hI seat [] (by kernel_rfl) (ys := ys_5) (kY := fun y_6 => [.int .i64 y_6.1, .agg [.int .i64 y_6.2.full, .int .i64 y_6.2.left]]) ((i_stream_valley_tides_1 N of_3 kof_3 dsof_3 hdof_3 hpof_3 r_4.1 r_4.2 ys_5 hyys_5)) rfl h (fun q => match q with | () => ([(1, ⟨3, [.lit .i64 0], true⟩)], [])) (fun q => match q with | v_7 => .ret) (fun q => match q with | v_7 => ([(1, ⟨3, [.int .i64 v_7], true⟩)], [])) rfl (fun _ => ⟨rfl, rfl⟩) 2 rfl (by subst_vars; exact ⟨lB ⟨lE, rfl⟩, trivial⟩) (by subst_vars; exact trivial) (by intro q; rcases q with v_7 <;> (intro e; exact Exit.noConfusion e)) (by intro q; rcases q with v_7 <;> (intro _ e; exact Exit.noConfusion e)) (by intro q; rcases q with v_7 <;> (intro e; exact Exit.noConfusion e)) ?_ ?_ ?_; all_goals clear h
  · intro y_6 q x h l I hI R hR hX
    obtain ⟨⟩ := q
    rw [m_stream_valley_dry_L1] at h
    (conv => cbv)
    refine L_tst hI h (by subst_vars; rfl) ?_ ?_ <;> clear h <;> intro h
    · exact hX _ _ (Option.some.inj h).symm (by subst_vars; exact ⟨lB ⟨lE, rfl⟩, trivial⟩) (by subst_vars; exact trivial)
    · exact hR _ _ (Option.some.inj h).symm (by subst_vars; exact ⟨lB ⟨lE, rfl⟩, trivial⟩) (by subst_vars; exact trivial)
  · intro q h
    obtain ⟨⟩ := q
    (conv => cbv)
    cases h
    subst_vars
    exact ⟨lE, rfl⟩
  · intro v_7 h
    (conv => cbv)
    cases h
    subst_vars
    exact ⟨lE, rfl⟩
def m_stream_valley_lasts_L1 (N : Nat) (hammers_2 : Int) : (Int × (List Int)) → Option ((Int × (List Int)) ⊕ ((List Int)))
  | (hour_7, plan_8) =>
    if icmpR .lss hour_7 ((plan_8.length : Nat) : Int) then
      if 0 ≤ hour_7 ∧ hour_7 < ((plan_8.length : Nat) : Int) then
        if 0 ≤ hour_7 ∧ hour_7 < ((plan_8.length : Nat) : Int) then
          letO (plan_8.set hour_7.toNat hammers_2) fun l_11 =>
          some (.inl (iopR .add .i64 hour_7 1, l_11))
        else none
      else none
    else
      some (.inr plan_8)
def m_stream_valley_lasts (N : Nat) (p_1 : stream_valley) (hammers_2 : Int) (from_3 : Int) (of_4 : api_Span → Option Int) : Option (Int) :=
  if mkOk ((p_1.flows.length : Nat) : Int) 8 then
    letO (List.replicate ((p_1.flows.length : Nat) : Int).toNat 0 : (List Int)) fun l_5 =>
    (loopO (m_stream_valley_lasts_L1 N hammers_2) N (from_3, List.replicate ((p_1.flows.length : Nat) : Int).toNat 0)).bind fun q => match q with
    | plan_10 =>
      (m_stream_valley_dry N p_1 plan_10 of_4).bind fun r_12 =>
      if icmpR .neq r_12 (-1) then
        some (iopR .sub .i64 r_12 from_3)
      else
        some (iopR .sub .i64 ((plan_10.length : Nat) : Int) from_3)
  else none
theorem w_stream_valley_lasts (N : Nat) (p_1 : stream_valley) (hammers_2 : Int) (from_3 : Int) (of_4 : api_Span → Option Int) (kof_4 : Nat) (dsof_4 : List D) (hdof_4 : noAggD dsof_4 = true) (hpof_4 : ∀ x0 r, of_4 x0 = some r → KD Try.prog kof_4 [.agg [.int .i64 x0.Low, .int .i64 x0.High]] dsof_4 (.int .i64 r)) (o : Int) (h : m_stream_valley_lasts N p_1 hammers_2 from_3 of_4 = some o) :
    KC Try.prog 47 [.agg [.int .i64 p_1.StreamMill.Hammers, .int .i64 p_1.StreamMill.Takes, .int .i64 p_1.StreamMill.Blows.Low, .int .i64 p_1.StreamMill.Blows.High, .int .i64 p_1.StreamMill.Holds, .int .i64 p_1.StreamMill.Now.Low, .int .i64 p_1.StreamMill.Now.High, sl_api_Span false p_1.flows], .int .i64 hammers_2, .int .i64 from_3, .d (.fn kof_4 dsof_4)] (.int .i64 o) [] := by
  unfold m_stream_valley_lasts at h
  refine con_l [] [] seat Try.func47 rfl ent_47 (by kernel_rfl) rfl rfl (by simp) ?_; intro base I hI; (conv => cbv)
  refine L_mk hI h (by first | exact trivial | rfl) (by subst_vars; rfl) ?_; clear h; intro h
  replace h := letO_of h; obtain ⟨l_5, hel_5, h⟩ := h
  refine L_loop hI seat [] (by kernel_rfl) h (fun q => match q with | (hour_7, plan_8) => ⟨40, [(1, .int .i64 hammers_2), (2, .int .i64 from_3), (3, .d (.fn kof_4 dsof_4)), (4, .loc 0 0), (9, .osl 1), (10, .int .i64 hour_7)], [(0, ⟨116, [.int .i64 p_1.StreamMill.Hammers, .int .i64 p_1.StreamMill.Takes, .int .i64 p_1.StreamMill.Blows.Low, .int .i64 p_1.StreamMill.Blows.High, .int .i64 p_1.StreamMill.Holds, .int .i64 p_1.StreamMill.Now.Low, .int .i64 p_1.StreamMill.Now.High, sl_api_Span false p_1.flows], true⟩)], [(1, ⟨3, 1, [.ls Int 0 plan_8 e_int], true, true⟩)], 0⟩) (fun q => match q with | plan_10 => .exit 0) (fun q => match q with | plan_10 => ⟨40, [(2, .int .i64 from_3), (3, .d (.fn kof_4 dsof_4)), (4, .loc 0 0), (9, .osl 1)], [(0, ⟨116, [.int .i64 p_1.StreamMill.Hammers, .int .i64 p_1.StreamMill.Takes, .int .i64 p_1.StreamMill.Blows.Low, .int .i64 p_1.StreamMill.Blows.High, .int .i64 p_1.StreamMill.Holds, .int .i64 p_1.StreamMill.Now.Low, .int .i64 p_1.StreamMill.Now.High, sl_api_Span false p_1.flows], true⟩)], [(1, ⟨3, 1, [.ls Int 0 plan_10 e_int], true, true⟩)], 0⟩) (by subst_vars; exact weak_l rfl rfl ⟨lE, lE, lR, lR, lR, lE, trivial⟩ ⟨lB ⟨lE, lE, lE, lE, lE, lE, lE, LV_sl, rfl⟩, trivial⟩ ⟨lO, trivial⟩) (by intro q; rcases q with plan_10 <;> (intro e; exact Exit.noConfusion e)) ?_ ?_; all_goals clear h
  · intro q x h R hR hX
    obtain ⟨hour_7, plan_8⟩ := q
    rw [m_stream_valley_lasts_L1] at h
    (conv => cbv)
    refine L_tst hI h (by subst_vars; rfl) ?_ ?_ <;> clear h <;> intro h
    · refine L_conj hI h (fun g => by subst_vars; exact g) ?_; clear h; intro hc h
      refine L_conj hI h (fun g => by subst_vars; exact g) ?_; clear h; intro hc h
      replace h := letO_of h; obtain ⟨l_11, hel_11, h⟩ := h
      refine K_setl2 hI plan_8 hammers_2 l_11 hel_11 (by subst_vars; first | rfl | (simp only [rowsD, KP.rows, KV.toDLL, List.map_append, List.map_cons, List.map_nil, List.append_nil, List.nil_append, List.append_assoc, List.singleton_append, List.cons_append, List.map_replicate]; rfl) | (simp only [primK, rowsD, KP.rows, KV.toDLL, List.map_append, List.map_cons, List.map_nil, List.append_nil, List.map_replicate]; rfl)) hc (by subst_vars; rfl) (by subst_vars; rfl) ?_; (conv => cbv)
      exact hR _ _ (Option.some.inj h).symm (by subst_vars; exact weak_l rfl rfl ⟨lE, lE, lR, lR, lR, lE, trivial⟩ ⟨lB ⟨lE, lE, lE, lE, lE, lE, lE, LV_sl, rfl⟩, trivial⟩ ⟨lO, trivial⟩)
    · exact hX _ _ (Option.some.inj h).symm (by subst_vars; exact weak_l rfl rfl ⟨lE, lR, lR, lR, trivial⟩ ⟨lB ⟨lE, lE, lE, lE, lE, lE, lE, LV_sl, rfl⟩, trivial⟩ ⟨lO, trivial⟩)
  · intro plan_10 h
    (conv => cbv)
    refine L_call hI h (fun v hv => w_stream_valley_dry N p_1 plan_10 of_4 kof_4 dsof_4 hdof_4 hpof_4 v hv) (by subst_vars; exact ⟨(leD_refl _), (leD_refl _), (leD_refl _), rfl⟩) ?_; clear h; intro r_12 h; (conv => cbv)
    refine L_tst hI h (by subst_vars; rfl) ?_ ?_ <;> clear h <;> intro h
    · cases h
      subst_vars
      exact ⟨lE, rfl⟩
    · cases h
      subst_vars
      exact ⟨lE, rfl⟩
def m_stream_low (N : Nat) (s_1 : api_Span) : Option (Int) :=
  some s_1.Low
theorem w_stream_low (N : Nat) (s_1 : api_Span) (o : Int) (h : m_stream_low N s_1 = some o) :
    KC Try.prog 48 [.agg [.int .i64 s_1.Low, .int .i64 s_1.High]] (.int .i64 o) [] := by
  unfold m_stream_low at h
  refine con_l [] [] seat Try.func48 rfl ent_48 (by kernel_rfl) rfl rfl (by simp) ?_; intro base I hI; (conv => cbv)
  cases h
  subst_vars
  exact ⟨lE, rfl⟩
def m_stream_Window_L1 (N : Nat) (v_9 : Int) (r_5 : stream_valley × Int) (hammers_3 : Int) (hours_4 : Int) : Int → Option ((Int) ⊕ ((Int) ⊕ (Unit)))
  | v_11 =>
    if icmpR .lss v_11 v_9 then
      (m_stream_valley_lasts N r_5.1 hammers_3 v_11 (fun x0 => m_stream_low N x0)).bind fun r_14 =>
      if icmpR .geq r_14 hours_4 then
        some (.inr (.inl v_11))
      else
        some (.inl (iopR .add .i64 v_11 1))
    else
      some (.inr (.inr ()))
def m_stream_Window (N : Nat) (m_1 : api_StreamMill) (flows_2 : (List api_Span)) (hammers_3 : Int) (hours_4 : Int) : Option (Int × Int) :=
  (m_stream_open N m_1 flows_2).bind fun r_5 =>
  if icmpR .neq r_5.2 0 then
    some (0, r_5.2)
  else
    (m_stream_within N 1 m_1.Hammers [hammers_3]).bind fun r_6 =>
    (show Option (Bool) from
      if !r_6 then
        some true
      else
        (m_stream_within N 1 24 [hours_4]).bind fun r_8 =>
        some (!r_8)).bind fun q => match q with
    | v_7 =>
      (show Option ((Unit) ⊕ (Unit)) from
        if v_7 then
          some (.inl ())
        else
          some (.inr ())).bind fun q => match q with
      | (.inl ()) =>
        some (0, 3)
      | (.inr ()) =>
        letO (((flows_2.length : Nat) : Int) : Int) fun v_9 =>
        (loopO (m_stream_Window_L1 N v_9 r_5 hammers_3 hours_4) N 0).bind fun q => match q with
        | (.inl v_13) =>
          some (v_13, 0)
        | (.inr ()) =>
          some (0, 7)
theorem w_stream_Window (N : Nat) (m_1 : api_StreamMill) (flows_2 : (List api_Span)) (hammers_3 : Int) (hours_4 : Int) (o : Int × Int) (h : m_stream_Window N m_1 flows_2 hammers_3 hours_4 = some o) :
    KC Try.prog 13 [.agg [.int .i64 m_1.Hammers, .int .i64 m_1.Takes, .int .i64 m_1.Blows.Low, .int .i64 m_1.Blows.High, .int .i64 m_1.Holds, .int .i64 m_1.Now.Low, .int .i64 m_1.Now.High], sl_api_Span false flows_2, .int .i64 hammers_3, .int .i64 hours_4] (.tup [.int .i64 o.1, .int .i64 o.2]) [] := by
  unfold m_stream_Window at h
  refine con_l [] [2000023] seat Try.func13 rfl ent_13 (by kernel_rfl) rfl rfl (by simp) ?_; intro base I hI; (conv => cbv)
  refine L_call hI h (fun v hv => w_stream_open N m_1 flows_2 v hv) (by subst_vars; exact ⟨(leD_refl _), (leD_refl _), rfl⟩) ?_; clear h; intro r_5 h; (conv => cbv)
  refine L_tst hI h (by subst_vars; rfl) ?_ ?_ <;> clear h <;> intro h
  · cases h
    subst_vars
    exact ⟨(LV_tup ⟨lE, lE, rfl⟩), rfl⟩
  · refine L_call hI h (fun v hv => w_stream_within N 1 m_1.Hammers [hammers_3] v hv) (by subst_vars; exact ⟨(leD_refl _), (leD_refl _), ⟨.inl rfl, rfl, leDLL_refl _⟩, rfl⟩) ?_; clear h; intro r_6 h; (conv => cbv)
    refine L_cut hI seat [] (by kernel_rfl) h (fun q => match q with | v_7 => .normal) (fun q => match q with | v_7 => ⟨47, [(1, sl_api_Span false flows_2), (2, .int .i64 hammers_3), (3, .int .i64 hours_4), (10, .loc 1 0), (23, .bool v_7)], [(1, ⟨116, [.int .i64 r_5.1.StreamMill.Hammers, .int .i64 r_5.1.StreamMill.Takes, .int .i64 r_5.1.StreamMill.Blows.Low, .int .i64 r_5.1.StreamMill.Blows.High, .int .i64 r_5.1.StreamMill.Holds, .int .i64 r_5.1.StreamMill.Now.Low, .int .i64 r_5.1.StreamMill.Now.High, sl_api_Span false r_5.1.flows], true⟩)], [], 0⟩) ?_ ?_; all_goals clear h
    · intro x h R hR
      (conv => cbv)
      refine L_tst hI h (by subst_vars; rfl) ?_ ?_ <;> clear h <;> intro h
      · exact hR _ _ (Option.some.inj h).symm (by subst_vars; exact weak_l rfl rfl ⟨LV_sl, lE, lE, lR, lE, trivial⟩ ⟨lB ⟨lE, lE, lE, lE, lE, lE, lE, LV_sl, rfl⟩, trivial⟩ trivial)
      · refine L_call hI h (fun v hv => w_stream_within N 1 24 [hours_4] v hv) (by subst_vars; exact ⟨(leD_refl _), (leD_refl _), ⟨.inl rfl, rfl, leDLL_refl _⟩, rfl⟩) ?_; clear h; intro r_8 h; (conv => cbv)
        exact hR _ _ (Option.some.inj h).symm (by subst_vars; exact weak_l rfl rfl ⟨LV_sl, lE, lE, lR, lE, trivial⟩ ⟨lB ⟨lE, lE, lE, lE, lE, lE, lE, LV_sl, rfl⟩, trivial⟩ trivial)
    · intro v_7 h
      (conv => cbv)
      refine L_cut hI seat [] (by kernel_rfl) h (fun q => match q with | (.inl ()) => .ret | (.inr ()) => .normal) (fun q => match q with | (.inl ()) => ⟨47, [(8, .lit .i64 0), (9, .lit .i64 3)], [], [], 0⟩ | (.inr ()) => ⟨47, [(1, sl_api_Span false flows_2), (2, .int .i64 hammers_3), (3, .int .i64 hours_4), (10, .loc 1 0)], [(1, ⟨116, [.int .i64 r_5.1.StreamMill.Hammers, .int .i64 r_5.1.StreamMill.Takes, .int .i64 r_5.1.StreamMill.Blows.Low, .int .i64 r_5.1.StreamMill.Blows.High, .int .i64 r_5.1.StreamMill.Holds, .int .i64 r_5.1.StreamMill.Now.Low, .int .i64 r_5.1.StreamMill.Now.High, sl_api_Span false r_5.1.flows], true⟩)], [], 0⟩) ?_ ?_; all_goals clear h
      · intro x h R hR
        (conv => cbv)
        refine L_tst hI h (by subst_vars; rfl) ?_ ?_ <;> clear h <;> intro h
        · exact hR _ _ (Option.some.inj h).symm (by subst_vars; exact weak_l rfl rfl ⟨lE, lE, trivial⟩ trivial trivial)
        · exact hR _ _ (Option.some.inj h).symm (by subst_vars; exact weak_l rfl rfl ⟨LV_sl, lE, lE, lR, trivial⟩ ⟨lB ⟨lE, lE, lE, lE, lE, lE, lE, LV_sl, rfl⟩, trivial⟩ trivial)
      · intro q h
        rcases q with (_ | _)
        · (conv => cbv)
          cases h
          subst_vars
          exact ⟨(LV_tup ⟨lE, lE, rfl⟩), rfl⟩
        · (conv => cbv)
          replace h := letO_of h; obtain ⟨v_9, hev_9, h⟩ := h
          refine L_loop hI seat [2000023] (by kernel_rfl) h (fun q => match q with | v_11 => ⟨47, [(2, .int .i64 hammers_3), (3, .int .i64 hours_4), (10, .loc 1 0), (35, .int .i64 v_9), (36, .int .i64 v_11)], [(1, ⟨116, [.int .i64 r_5.1.StreamMill.Hammers, .int .i64 r_5.1.StreamMill.Takes, .int .i64 r_5.1.StreamMill.Blows.Low, .int .i64 r_5.1.StreamMill.Blows.High, .int .i64 r_5.1.StreamMill.Holds, .int .i64 r_5.1.StreamMill.Now.Low, .int .i64 r_5.1.StreamMill.Now.High, sl_api_Span false r_5.1.flows], true⟩)], [], 0⟩) (fun q => match q with | (.inl v_13) => .ret | (.inr ()) => .exit 1) (fun q => match q with | (.inl v_13) => ⟨47, [(8, .int .i64 v_13), (9, .lit .i64 0)], [], [], 0⟩ | (.inr ()) => ⟨47, [], [], [], 0⟩) (by subst_vars; exact weak_l rfl rfl ⟨lE, lE, lR, lE, lE, trivial⟩ ⟨lB ⟨lE, lE, lE, lE, lE, lE, lE, LV_sl, rfl⟩, trivial⟩ trivial) (by intro q; rcases q with (v_13 | _) <;> (intro e; exact Exit.noConfusion e)) ?_ ?_; all_goals clear h
          · intro v_11 x h R hR hX
            rw [m_stream_Window_L1] at h
            (conv => cbv)
            refine L_tst hI h (by subst_vars; rfl) ?_ ?_ <;> clear h <;> intro h
            · refine L_call hI h (fun v hv => w_stream_valley_lasts N r_5.1 hammers_3 v_11 (fun x0 => m_stream_low N x0) 48 (KV.toDL []) rfl (fun x0 r hr => KD_of (caps := []) (w_stream_low N x0 r hr)) v hv) (by subst_vars; exact ⟨(leD_refl _), (leD_refl _), (leD_refl _), (leD_refl _), rfl⟩) ?_; clear h; intro r_14 h; (conv => cbv)
              refine L_tst hI h (by subst_vars; rfl) ?_ ?_ <;> clear h <;> intro h
              · exact hX _ _ (Option.some.inj h).symm (by subst_vars; exact weak_l rfl rfl ⟨lE, lE, trivial⟩ trivial trivial)
              · exact hR _ _ (Option.some.inj h).symm (by subst_vars; exact weak_l rfl rfl ⟨lE, lE, lR, lE, lE, trivial⟩ ⟨lB ⟨lE, lE, lE, lE, lE, lE, lE, LV_sl, rfl⟩, trivial⟩ trivial)
            · exact hX _ _ (Option.some.inj h).symm (by subst_vars; exact weak_l rfl rfl trivial trivial trivial)
          · intro q h
            rcases q with (v_13 | _)
            · (conv => cbv)
              cases h
              subst_vars
              exact ⟨(LV_tup ⟨lE, lE, rfl⟩), rfl⟩
            · (conv => cbv)
              cases h
              subst_vars
              exact ⟨(LV_tup ⟨lE, lE, rfl⟩), rfl⟩
def m_top_elmOwn (N : Nat) (f_1 : api_TenterField) : Option (api_TenterField) :=
  if fitsN (f_1.Cloths.length) 32 then
    if fitsN (f_1.Frames.length) 8 then
      some f_1
    else none
  else none
theorem w_top_elmOwn (N : Nat) (f_1 : api_TenterField) (o : api_TenterField) (h : m_top_elmOwn N f_1 = some o) :
    KC Try.prog 16 [.agg [sl_api_TenterCloth false f_1.Cloths, sl_int false f_1.Frames, .int .i64 f_1.Gap, .int .i64 f_1.Stretch]] (.agg [sl_api_TenterCloth false o.Cloths, sl_int false o.Frames, .int .i64 o.Gap, .int .i64 o.Stretch]) [] := by
  unfold m_top_elmOwn at h
  refine con_l [] [4000001] seat Try.func16 rfl ent_16 (by kernel_rfl) rfl rfl (by simp) ?_; intro base I hI; (conv => cbv)
  refine L_conj hI h (fun g => by subst_vars; exact g) ?_; clear h; intro hc h
  refine L_conj hI h (fun g => by subst_vars; exact g) ?_; clear h; intro hc h
  cases h
  subst_vars
  exact ⟨(LV_agg ⟨LV_sl, LV_sl, lE, lE, rfl⟩), rfl⟩
def m_tenter_within_1 (N : Nat) (n_1 : Int) (p_2 : Int) (p_3 : Int) : Option (Bool) :=
  (show Option (Bool) from
    if icmpR .lss n_1 p_2 then
      some true
    else
      some (icmpR .gtr n_1 p_3)).bind fun q => match q with
  | v_4 =>
    some v_4
theorem w_tenter_within_1 (N : Nat) (n_1 : Int) (p_2 : Int) (p_3 : Int) (o : Bool) (h : m_tenter_within_1 N n_1 p_2 p_3 = some o) :
    KC Try.prog 137 [.int .i64 n_1, .ptr [.int .i64 p_2], .ptr [.int .i64 p_3]] (.bool o) [] := by
  unfold m_tenter_within_1 at h
  refine con_l [] [1000001] seat Try.func137 rfl ent_137 (by kernel_rfl) rfl rfl (by simp) ?_; intro base I hI; (conv => cbv)
  refine L_cut hI seat [] (by kernel_rfl) h (fun q => match q with | v_4 => .normal) (fun q => match q with | v_4 => ⟨13, [(4, .bool v_4)], [], [], 0⟩) ?_ ?_; all_goals clear h
  · intro x h R hR
    (conv => cbv)
    refine L_tst hI h (by subst_vars; rfl) ?_ ?_ <;> clear h <;> intro h
    · exact hR _ _ (Option.some.inj h).symm (by subst_vars; exact weak_l rfl rfl ⟨lE, trivial⟩ trivial trivial)
    · exact hR _ _ (Option.some.inj h).symm (by subst_vars; exact weak_l rfl rfl ⟨lE, trivial⟩ trivial trivial)
  · intro v_4 h
    (conv => cbv)
    cases h
    subst_vars
    exact ⟨lE, rfl⟩
def m_tenter_within (N : Nat) (least_1 : Int) (most_2 : Int) (l_3 : (List Int)) : Option (Bool) :=
  (m_slices_ContainsFunc_Lint_int N l_3 (fun x0 => m_tenter_within_1 N x0 least_1 most_2)).bind fun r_4 =>
  some (!r_4)
theorem w_tenter_within (N : Nat) (least_1 : Int) (most_2 : Int) (l_3 : (List Int)) (o : Bool) (h : m_tenter_within N least_1 most_2 l_3 = some o) :
    KC Try.prog 95 [.int .i64 least_1, .int .i64 most_2, sl_int false l_3] (.bool o) [] := by
  unfold m_tenter_within at h
  refine con_l [] [] seat Try.func95 rfl ent_95 (by kernel_rfl) rfl rfl (by simp) ?_; intro base I hI; (conv => cbv)
  refine L_call hI h (fun v hv => w_slices_ContainsFunc_Lint_int N l_3 (fun x0 => m_tenter_within_1 N x0 least_1 most_2) 137 (KV.toDL [.ptr [.int .i64 least_1], .ptr [.int .i64 most_2]]) rfl (fun x0 r hr => KD_of (caps := [.ptr [.int .i64 least_1], .ptr [.int .i64 most_2]]) (w_tenter_within_1 N x0 least_1 most_2 r hr)) v hv) (by subst_vars; exact ⟨(leD_refl _), (leD_refl _), rfl⟩) ?_; clear h; intro r_4 h; (conv => cbv)
  cases h
  subst_vars
  exact ⟨lE, rfl⟩
def m_slices_IndexFunc_Lapi_TenterCloth_api_TenterCloth_L1 (N : Nat) (v_3 : Int) (s_1 : (List api_TenterCloth)) (f_2 : api_TenterCloth → Option Bool) : Int → Option ((Int) ⊕ ((Int) ⊕ (Unit)))
  | v_6 =>
    if icmpR .lss v_6 v_3 then
      (getO d_api_TenterCloth s_1 v_6).bind fun x_10 =>
      (f_2 x_10).bind fun v_11 =>
      if v_11 then
        some (.inr (.inl v_6))
      else
        some (.inl (iopR .add .i64 v_6 1))
    else
      some (.inr (.inr ()))
def m_slices_IndexFunc_Lapi_TenterCloth_api_TenterCloth (N : Nat) (s_1 : (List api_TenterCloth)) (f_2 : api_TenterCloth → Option Bool) : Option (Int) :=
  letO (((s_1.length : Nat) : Int) : Int) fun v_3 =>
  (loopO (m_slices_IndexFunc_Lapi_TenterCloth_api_TenterCloth_L1 N v_3 s_1 f_2) N 0).bind fun q => match q with
  | (.inl v_9) =>
    some v_9
  | (.inr ()) =>
    some (-1)
theorem w_slices_IndexFunc_Lapi_TenterCloth_api_TenterCloth (N : Nat) (s_1 : (List api_TenterCloth)) (f_2 : api_TenterCloth → Option Bool) (kf_2 : Nat) (dsf_2 : List D) (hdf_2 : noAggD dsf_2 = true) (hpf_2 : ∀ x0 r, f_2 x0 = some r → KD Try.prog kf_2 [.agg [.int .i64 x0.Long.Low, .int .i64 x0.Long.High, .int .i64 x0.Water.Low, .int .i64 x0.Water.High]] dsf_2 (.bool r)) (o : Int) (h : m_slices_IndexFunc_Lapi_TenterCloth_api_TenterCloth N s_1 f_2 = some o) :
    KC Try.prog 165 [sl_api_TenterCloth false s_1, .d (.fn kf_2 dsf_2)] (.int .i64 o) [] := by
  unfold m_slices_IndexFunc_Lapi_TenterCloth_api_TenterCloth at h
  refine con_l [] [] seat Try.func165 rfl ent_165 (by kernel_rfl) rfl rfl (by simp) ?_; intro base I hI; (conv => cbv)
  replace h := letO_of h; obtain ⟨v_3, hev_3, h⟩ := h
  refine L_loop hI seat [] (by kernel_rfl) h (fun q => match q with | v_6 => ⟨19, [(0, sl_api_TenterCloth false s_1), (1, .d (.fn kf_2 dsf_2)), (7, .int .i64 v_3), (8, .int .i64 v_6)], [], [], 0⟩) (fun q => match q with | (.inl v_9) => .ret | (.inr ()) => .exit 0) (fun q => match q with | (.inl v_9) => ⟨19, [(4, .int .i64 v_9)], [], [], 0⟩ | (.inr ()) => ⟨19, [], [], [], 0⟩) (by subst_vars; exact weak_l rfl rfl ⟨LV_sl, lR, lE, lE, trivial⟩ trivial trivial) (by intro q; rcases q with (v_9 | _) <;> (intro e; exact Exit.noConfusion e)) ?_ ?_; all_goals clear h
  · intro v_6 x h R hR hX
    rw [m_slices_IndexFunc_Lapi_TenterCloth_api_TenterCloth_L1] at h
    (conv => cbv)
    refine L_tst hI h (by subst_vars; rfl) ?_ ?_ <;> clear h <;> intro h
    · refine L_get hI h (fun g => by subst_vars; exact g) ?_; clear h; intro hc x_10 hxx_10 h
      refine K_conj hI (by subst_vars; exact hdf_2) ?_
      refine L_callD hI h (args' := [.agg [.int .i64 x_10.Long.Low, .int .i64 x_10.Long.High, .int .i64 x_10.Water.Low, .int .i64 x_10.Water.High]]) (fun v hv => hpf_2 x_10 v hv) (by subst_vars; rfl) ?_; clear h; intro v_11 h; (conv => cbv)
      refine L_tst hI h (by subst_vars; rfl) ?_ ?_ <;> clear h <;> intro h
      · exact hX _ _ (Option.some.inj h).symm (by subst_vars; exact weak_l rfl rfl ⟨lE, trivial⟩ trivial trivial)
      · exact hR _ _ (Option.some.inj h).symm (by subst_vars; exact weak_l rfl rfl ⟨LV_sl, lR, lE, lE, trivial⟩ trivial trivial)
    · exact hX _ _ (Option.some.inj h).symm (by subst_vars; exact weak_l rfl rfl trivial trivial trivial)
  · intro q h
    rcases q with (v_9 | _)
    · (conv => cbv)
      cases h
      subst_vars
      exact ⟨lE, rfl⟩
    · (conv => cbv)
      cases h
      subst_vars
      exact ⟨lE, rfl⟩
def m_slices_ContainsFunc_Lapi_TenterCloth_api_TenterCloth (N : Nat) (s_1 : (List api_TenterCloth)) (f_2 : api_TenterCloth → Option Bool) : Option (Bool) :=
  (m_slices_IndexFunc_Lapi_TenterCloth_api_TenterCloth N s_1 f_2).bind fun r_3 =>
  some (icmpR .geq r_3 0)
theorem w_slices_ContainsFunc_Lapi_TenterCloth_api_TenterCloth (N : Nat) (s_1 : (List api_TenterCloth)) (f_2 : api_TenterCloth → Option Bool) (kf_2 : Nat) (dsf_2 : List D) (hdf_2 : noAggD dsf_2 = true) (hpf_2 : ∀ x0 r, f_2 x0 = some r → KD Try.prog kf_2 [.agg [.int .i64 x0.Long.Low, .int .i64 x0.Long.High, .int .i64 x0.Water.Low, .int .i64 x0.Water.High]] dsf_2 (.bool r)) (o : Bool) (h : m_slices_ContainsFunc_Lapi_TenterCloth_api_TenterCloth N s_1 f_2 = some o) :
    KC Try.prog 136 [sl_api_TenterCloth false s_1, .d (.fn kf_2 dsf_2)] (.bool o) [] := by
  unfold m_slices_ContainsFunc_Lapi_TenterCloth_api_TenterCloth at h
  refine con_l [] [] seat Try.func136 rfl ent_136 (by kernel_rfl) rfl rfl (by simp) ?_; intro base I hI; (conv => cbv)
  refine L_call hI h (fun v hv => w_slices_IndexFunc_Lapi_TenterCloth_api_TenterCloth N s_1 f_2 kf_2 dsf_2 hdf_2 hpf_2 v hv) (by subst_vars; exact ⟨(leD_refl _), (leD_refl _), rfl⟩) ?_; clear h; intro r_3 h; (conv => cbv)
  cases h
  subst_vars
  exact ⟨lE, rfl⟩
def m_tenter_isSpan (N : Nat) (s_1 : api_Span) (least_2 : Int) (most_3 : Int) : Option (Bool) :=
  (show Option (Bool) from
    (m_tenter_within N least_2 most_3 [s_1.Low, s_1.High]).bind fun r_5 =>
    if r_5 then
      some (icmpR .leq s_1.Low s_1.High)
    else
      some false).bind fun q => match q with
  | v_4 =>
    some v_4
theorem w_tenter_isSpan (N : Nat) (s_1 : api_Span) (least_2 : Int) (most_3 : Int) (o : Bool) (h : m_tenter_isSpan N s_1 least_2 most_3 = some o) :
    KC Try.prog 97 [.agg [.int .i64 s_1.Low, .int .i64 s_1.High], .int .i64 least_2, .int .i64 most_3] (.bool o) [] := by
  unfold m_tenter_isSpan at h
  refine con_l [] [1000001] seat Try.func97 rfl ent_97 (by kernel_rfl) rfl rfl (by simp) ?_; intro base I hI; (conv => cbv)
  refine L_cut hI seat [] (by kernel_rfl) h (fun q => match q with | v_4 => .normal) (fun q => match q with | v_4 => ⟨22, [(6, .bool v_4)], [], [], 0⟩) ?_ ?_; all_goals clear h
  · intro x h R hR
    (conv => cbv)
    refine L_call hI h (fun v hv => w_tenter_within N least_2 most_3 [s_1.Low, s_1.High] v hv) (by subst_vars; exact ⟨(leD_refl _), (leD_refl _), ⟨.inl rfl, rfl, leDLL_refl _⟩, rfl⟩) ?_; clear h; intro r_5 h; (conv => cbv)
    refine L_tst hI h (by subst_vars; rfl) ?_ ?_ <;> clear h <;> intro h
    · exact hR _ _ (Option.some.inj h).symm (by subst_vars; exact weak_l rfl rfl ⟨lE, trivial⟩ trivial trivial)
    · exact hR _ _ (Option.some.inj h).symm (by subst_vars; exact weak_l rfl rfl ⟨lE, trivial⟩ trivial trivial)
  · intro v_4 h
    (conv => cbv)
    cases h
    subst_vars
    exact ⟨lE, rfl⟩
def m_tenter_Check_1 (N : Nat) (c_1 : api_TenterCloth) : Option (Bool) :=
  (show Option (Bool) from
    (m_tenter_isSpan N c_1.Long 1 2000).bind fun r_3 =>
    if !r_3 then
      some true
    else
      (m_tenter_isSpan N c_1.Water 0 500).bind fun r_4 =>
      some (!r_4)).bind fun q => match q with
  | v_2 =>
    some v_2
theorem w_tenter_Check_1 (N : Nat) (c_1 : api_TenterCloth) (o : Bool) (h : m_tenter_Check_1 N c_1 = some o) :
    KC Try.prog 135 [.agg [.int .i64 c_1.Long.Low, .int .i64 c_1.Long.High, .int .i64 c_1.Water.Low, .int .i64 c_1.Water.High]] (.bool o) [] := by
  unfold m_tenter_Check_1 at h
  refine con_l [] [1000001] seat Try.func135 rfl ent_135 (by kernel_rfl) rfl rfl (by simp) ?_; intro base I hI; (conv => cbv)
  refine L_cut hI seat [] (by kernel_rfl) h (fun q => match q with | v_2 => .normal) (fun q => match q with | v_2 => ⟨13, [(2, .bool v_2)], [], [], 0⟩) ?_ ?_; all_goals clear h
  · intro x h R hR
    (conv => cbv)
    refine L_call hI h (fun v hv => w_tenter_isSpan N c_1.Long 1 2000 v hv) (by subst_vars; exact ⟨(leD_refl _), (leD_refl _), (leD_refl _), rfl⟩) ?_; clear h; intro r_3 h; (conv => cbv)
    refine L_tst hI h (by subst_vars; rfl) ?_ ?_ <;> clear h <;> intro h
    · exact hR _ _ (Option.some.inj h).symm (by subst_vars; exact weak_l rfl rfl ⟨lE, trivial⟩ trivial trivial)
    · refine L_call hI h (fun v hv => w_tenter_isSpan N c_1.Water 0 500 v hv) (by subst_vars; exact ⟨(leD_refl _), (leD_refl _), (leD_refl _), rfl⟩) ?_; clear h; intro r_4 h; (conv => cbv)
      exact hR _ _ (Option.some.inj h).symm (by subst_vars; exact weak_l rfl rfl ⟨lE, trivial⟩ trivial trivial)
  · intro v_2 h
    (conv => cbv)
    cases h
    subst_vars
    exact ⟨lE, rfl⟩
def m_tenter_Check (N : Nat) (f_1 : api_TenterField) : Option (Int) :=
  if icmpR .gtr ((f_1.Cloths.length : Nat) : Int) 7 then
    some 5
  else
    (m_tenter_within N 1 3 [((f_1.Frames.length : Nat) : Int)]).bind fun r_2 =>
    if !r_2 then
      some 4
    else
      (m_slices_ContainsFunc_Lapi_TenterCloth_api_TenterCloth N f_1.Cloths (fun x0 => m_tenter_Check_1 N x0)).bind fun r_3 =>
      (show Option (Bool) from
        if r_3 then
          some true
        else
          (m_tenter_within N 1 2000 f_1.Frames).bind fun r_5 =>
          if !r_5 then
            some true
          else
            (m_tenter_within N 0 50 [f_1.Gap]).bind fun r_6 =>
            if !r_6 then
              some true
            else
              (m_tenter_within N 0 200 [f_1.Stretch]).bind fun r_7 =>
              some (!r_7)).bind fun q => match q with
      | v_4 =>
        (show Option ((Unit) ⊕ (Unit)) from
          if v_4 then
            some (.inl ())
          else
            some (.inr ())).bind fun q => match q with
        | (.inl ()) =>
          some 2
        | (.inr ()) =>
          some 0
theorem w_tenter_Check (N : Nat) (f_1 : api_TenterField) (o : Int) (h : m_tenter_Check N f_1 = some o) :
    KC Try.prog 94 [.agg [sl_api_TenterCloth false f_1.Cloths, sl_int false f_1.Frames, .int .i64 f_1.Gap, .int .i64 f_1.Stretch]] (.int .i64 o) [] := by
  unfold m_tenter_Check at h
  refine con_l [] [2000016] seat Try.func94 rfl ent_94 (by kernel_rfl) rfl rfl (by simp) ?_; intro base I hI; (conv => cbv)
  refine L_tst hI h (by subst_vars; rfl) ?_ ?_ <;> clear h <;> intro h
  · cases h
    subst_vars
    exact ⟨lE, rfl⟩
  · refine L_call hI h (fun v hv => w_tenter_within N 1 3 [((f_1.Frames.length : Nat) : Int)] v hv) (by subst_vars; exact ⟨(leD_refl _), (leD_refl _), ⟨.inl rfl, rfl, leDLL_refl _⟩, rfl⟩) ?_; clear h; intro r_2 h; (conv => cbv)
    refine L_tst hI h (by subst_vars; rfl) ?_ ?_ <;> clear h <;> intro h
    · cases h
      subst_vars
      exact ⟨lE, rfl⟩
    · refine L_call hI h (fun v hv => w_slices_ContainsFunc_Lapi_TenterCloth_api_TenterCloth N f_1.Cloths (fun x0 => m_tenter_Check_1 N x0) 135 (KV.toDL []) rfl (fun x0 r hr => KD_of (caps := []) (w_tenter_Check_1 N x0 r hr)) v hv) (by subst_vars; exact ⟨(leD_refl _), (leD_refl _), rfl⟩) ?_; clear h; intro r_3 h; (conv => cbv)
      refine L_cut hI seat [] (by kernel_rfl) h (fun q => match q with | v_4 => .normal) (fun q => match q with | v_4 => ⟨35, [(16, .bool v_4)], [], [], 0⟩) ?_ ?_; all_goals clear h
      · intro x h R hR
        (conv => cbv)
        refine L_tst hI h (by subst_vars; rfl) ?_ ?_ <;> clear h <;> intro h
        · exact hR _ _ (Option.some.inj h).symm (by subst_vars; exact weak_l rfl rfl ⟨lE, trivial⟩ trivial trivial)
        · refine L_call hI h (fun v hv => w_tenter_within N 1 2000 f_1.Frames v hv) (by subst_vars; exact ⟨(leD_refl _), (leD_refl _), (leD_refl _), rfl⟩) ?_; clear h; intro r_5 h; (conv => cbv)
          refine L_tst hI h (by subst_vars; rfl) ?_ ?_ <;> clear h <;> intro h
          · exact hR _ _ (Option.some.inj h).symm (by subst_vars; exact weak_l rfl rfl ⟨lE, trivial⟩ trivial trivial)
          · refine L_call hI h (fun v hv => w_tenter_within N 0 50 [f_1.Gap] v hv) (by subst_vars; exact ⟨(leD_refl _), (leD_refl _), ⟨.inl rfl, rfl, leDLL_refl _⟩, rfl⟩) ?_; clear h; intro r_6 h; (conv => cbv)
            refine L_tst hI h (by subst_vars; rfl) ?_ ?_ <;> clear h <;> intro h
            · exact hR _ _ (Option.some.inj h).symm (by subst_vars; exact weak_l rfl rfl ⟨lE, trivial⟩ trivial trivial)
            · refine L_call hI h (fun v hv => w_tenter_within N 0 200 [f_1.Stretch] v hv) (by subst_vars; exact ⟨(leD_refl _), (leD_refl _), ⟨.inl rfl, rfl, leDLL_refl _⟩, rfl⟩) ?_; clear h; intro r_7 h; (conv => cbv)
              exact hR _ _ (Option.some.inj h).symm (by subst_vars; exact weak_l rfl rfl ⟨lE, trivial⟩ trivial trivial)
      · intro v_4 h
        (conv => cbv)
        refine L_cut hI seat [] (by kernel_rfl) h (fun q => match q with | (.inl ()) => .ret | (.inr ()) => .normal) (fun q => match q with | (.inl ()) => ⟨35, [(2, .lit .i64 2)], [], [], 0⟩ | (.inr ()) => ⟨35, [], [], [], 0⟩) ?_ ?_; all_goals clear h
        · intro x h R hR
          (conv => cbv)
          refine L_tst hI h (by subst_vars; rfl) ?_ ?_ <;> clear h <;> intro h
          · exact hR _ _ (Option.some.inj h).symm (by subst_vars; exact weak_l rfl rfl ⟨lE, trivial⟩ trivial trivial)
          · exact hR _ _ (Option.some.inj h).symm (by subst_vars; exact weak_l rfl rfl trivial trivial trivial)
        · intro q h
          rcases q with (_ | _)
          · (conv => cbv)
            cases h
            subst_vars
            exact ⟨lE, rfl⟩
          · (conv => cbv)
            cases h
            subst_vars
            exact ⟨lE, rfl⟩
def m_tenter_newForecast_1 (N : Nat) (s_1 : api_Span) : Option (Bool) :=
  (m_tenter_isSpan N s_1 0 100).bind fun r_2 =>
  some (!r_2)
theorem w_tenter_newForecast_1 (N : Nat) (s_1 : api_Span) (o : Bool) (h : m_tenter_newForecast_1 N s_1 = some o) :
    KC Try.prog 96 [.agg [.int .i64 s_1.Low, .int .i64 s_1.High]] (.bool o) [] := by
  unfold m_tenter_newForecast_1 at h
  refine con_l [] [] seat Try.func96 rfl ent_96 (by kernel_rfl) rfl rfl (by simp) ?_; intro base I hI; (conv => cbv)
  refine L_call hI h (fun v hv => w_tenter_isSpan N s_1 0 100 v hv) (by subst_vars; exact ⟨(leD_refl _), (leD_refl _), (leD_refl _), rfl⟩) ?_; clear h; intro r_2 h; (conv => cbv)
  cases h
  subst_vars
  exact ⟨lE, rfl⟩
end
end Go.Proofs.Ytgefdljjhmjdaaa.Aw

/- Plain models and walks, printed by wip/gen/tw.py. -/
namespace Go.Proofs.Ytgefdljjhmjdaaa.Aw
open Go Go.RowKit Go.Proofs
set_option maxRecDepth 100000
set_option maxHeartbeats 4000000
set_option linter.unusedSimpArgs false
set_option linter.unusedVariables false
noncomputable section
def m_tenter_newForecast (N : Nat) (f_1 : api_TenterField) (weather_2 : (List api_Span)) (hour_3 : Int) : Option (tenter_forecast × Int) :=
  (m_tenter_Check N f_1).bind fun r_4 =>
  if icmpR .neq r_4 0 then
    some ((tenter_forecast.mk f_1 weather_2), r_4)
  else
    (m_tenter_within N 1 24 [((weather_2.length : Nat) : Int)]).bind fun r_5 =>
    if !r_5 then
      some ((tenter_forecast.mk f_1 weather_2), 8)
    else
      (m_slices_ContainsFunc_Lapi_Span_api_Span N weather_2 (fun x0 => m_tenter_newForecast_1 N x0)).bind fun r_6 =>
      (show Option (Bool) from
        if r_6 then
          some true
        else
          (m_tenter_within N 0 ((weather_2.length : Nat) : Int) [hour_3]).bind fun r_8 =>
          some (!r_8)).bind fun q => match q with
      | v_7 =>
        (show Option ((Unit) ⊕ (Unit)) from
          if v_7 then
            some (.inl ())
          else
            some (.inr ())).bind fun q => match q with
        | (.inl ()) =>
          some ((tenter_forecast.mk f_1 weather_2), 3)
        | (.inr ()) =>
          some ((tenter_forecast.mk f_1 weather_2), 0)
theorem w_tenter_newForecast (N : Nat) (f_1 : api_TenterField) (weather_2 : (List api_Span)) (hour_3 : Int) (o : tenter_forecast × Int) (h : m_tenter_newForecast N f_1 weather_2 hour_3 = some o) :
    KC Try.prog 49 [.agg [sl_api_TenterCloth false f_1.Cloths, sl_int false f_1.Frames, .int .i64 f_1.Gap, .int .i64 f_1.Stretch], sl_api_Span false weather_2, .int .i64 hour_3] (.tup [.agg [sl_api_TenterCloth false o.1.TenterField.Cloths, sl_int false o.1.TenterField.Frames, .int .i64 o.1.TenterField.Gap, .int .i64 o.1.TenterField.Stretch, sl_api_Span false o.1.weather], .int .i64 o.2]) [] := by
  unfold m_tenter_newForecast at h
  refine con_l [] [2000027, 4000001] seat Try.func49 rfl ent_49 (by kernel_rfl) rfl rfl (by simp) ?_; intro base I hI; (conv => cbv)
  refine L_call hI h (fun v hv => w_tenter_Check N f_1 v hv) (by subst_vars; exact ⟨(leD_refl _), rfl⟩) ?_; clear h; intro r_4 h; (conv => cbv)
  refine L_tst hI h (by subst_vars; rfl) ?_ ?_ <;> clear h <;> intro h
  · cases h
    subst_vars
    exact ⟨(LV_tup ⟨(LV_agg ⟨LV_sl, LV_sl, lE, lE, LV_sl, rfl⟩), lE, rfl⟩), rfl⟩
  · refine L_call hI h (fun v hv => w_tenter_within N 1 24 [((weather_2.length : Nat) : Int)] v hv) (by subst_vars; exact ⟨(leD_refl _), (leD_refl _), ⟨.inl rfl, rfl, leDLL_refl _⟩, rfl⟩) ?_; clear h; intro r_5 h; (conv => cbv)
    refine L_tst hI h (by subst_vars; rfl) ?_ ?_ <;> clear h <;> intro h
    · cases h
      subst_vars
      exact ⟨(LV_tup ⟨(LV_agg ⟨LV_sl, LV_sl, lE, lE, LV_sl, rfl⟩), lE, rfl⟩), rfl⟩
    · refine L_call hI h (fun v hv => w_slices_ContainsFunc_Lapi_Span_api_Span N weather_2 (fun x0 => m_tenter_newForecast_1 N x0) 96 (KV.toDL []) rfl (fun x0 r hr => KD_of (caps := []) (w_tenter_newForecast_1 N x0 r hr)) v hv) (by subst_vars; exact ⟨(leD_refl _), (leD_refl _), rfl⟩) ?_; clear h; intro r_6 h; (conv => cbv)
      refine L_cut hI seat [4000001] (by kernel_rfl) h (fun q => match q with | v_7 => .normal) (fun q => match q with | v_7 => ⟨38, [(6, .loc 1 0), (8, .loc 2 0), (27, .bool v_7)], [(2, ⟨123, [sl_api_TenterCloth false f_1.Cloths, sl_int false f_1.Frames, .int .i64 f_1.Gap, .int .i64 f_1.Stretch, sl_api_Span false weather_2], true⟩), (1, ⟨123, [.nilsl, .nilsl, .lit .i64 0, .lit .i64 0, .nilsl], true⟩)], [], 0⟩) ?_ ?_; all_goals clear h
      · intro x h R hR
        (conv => cbv)
        refine L_tst hI h (by subst_vars; rfl) ?_ ?_ <;> clear h <;> intro h
        · exact hR _ _ (Option.some.inj h).symm (by subst_vars; exact weak_l rfl rfl ⟨lR, lR, lE, trivial⟩ ⟨lB ⟨LV_sl, LV_sl, lE, lE, LV_sl, rfl⟩, lB ⟨lR, lR, lE, lE, lR, rfl⟩, trivial⟩ trivial)
        · refine L_call hI h (fun v hv => w_tenter_within N 0 ((weather_2.length : Nat) : Int) [hour_3] v hv) (by subst_vars; exact ⟨(leD_refl _), (leD_refl _), ⟨.inl rfl, rfl, leDLL_refl _⟩, rfl⟩) ?_; clear h; intro r_8 h; (conv => cbv)
          exact hR _ _ (Option.some.inj h).symm (by subst_vars; exact weak_l rfl rfl ⟨lR, lR, lE, trivial⟩ ⟨lB ⟨LV_sl, LV_sl, lE, lE, LV_sl, rfl⟩, lB ⟨lR, lR, lE, lE, lR, rfl⟩, trivial⟩ trivial)
      · intro v_7 h
        (conv => cbv)
        refine L_cut hI seat [4000001] (by kernel_rfl) h (fun q => match q with | (.inl ()) => .ret | (.inr ()) => .normal) (fun q => match q with | (.inl ()) => ⟨38, [(6, .loc 1 0), (7, .lit .i64 3)], [(1, ⟨123, [sl_api_TenterCloth false f_1.Cloths, sl_int false f_1.Frames, .int .i64 f_1.Gap, .int .i64 f_1.Stretch, sl_api_Span false weather_2], true⟩)], [], 0⟩ | (.inr ()) => ⟨38, [(6, .loc 1 0), (8, .loc 2 0)], [(2, ⟨123, [sl_api_TenterCloth false f_1.Cloths, sl_int false f_1.Frames, .int .i64 f_1.Gap, .int .i64 f_1.Stretch, sl_api_Span false weather_2], true⟩), (1, ⟨123, [.nilsl, .nilsl, .lit .i64 0, .lit .i64 0, .nilsl], true⟩)], [], 0⟩) ?_ ?_; all_goals clear h
        · intro x h R hR
          (conv => cbv)
          refine L_tst hI h (by subst_vars; rfl) ?_ ?_ <;> clear h <;> intro h
          · exact hR _ _ (Option.some.inj h).symm (by subst_vars; exact weak_l rfl rfl ⟨lR, lE, trivial⟩ ⟨lB ⟨LV_sl, LV_sl, lE, lE, LV_sl, rfl⟩, trivial⟩ trivial)
          · exact hR _ _ (Option.some.inj h).symm (by subst_vars; exact weak_l rfl rfl ⟨lR, lR, trivial⟩ ⟨lB ⟨LV_sl, LV_sl, lE, lE, LV_sl, rfl⟩, lB ⟨lR, lR, lE, lE, lR, rfl⟩, trivial⟩ trivial)
        · intro q h
          rcases q with (_ | _)
          · (conv => cbv)
            cases h
            subst_vars
            exact ⟨(LV_tup ⟨(LV_agg ⟨LV_sl, LV_sl, lE, lE, LV_sl, rfl⟩), lE, rfl⟩), rfl⟩
          · (conv => cbv)
            cases h
            subst_vars
            exact ⟨(LV_tup ⟨(LV_agg ⟨LV_sl, LV_sl, lE, lE, LV_sl, rfl⟩), lE, rfl⟩), rfl⟩
def m_tenter_isCloth (N : Nat) (f_1 : api_TenterField) (cloth_2 : Int) : Option (Bool) :=
  (m_tenter_within N 0 (iopR .sub .i64 ((f_1.Cloths.length : Nat) : Int) 1) [cloth_2]).bind fun r_3 =>
  some r_3
theorem w_tenter_isCloth (N : Nat) (f_1 : api_TenterField) (cloth_2 : Int) (o : Bool) (h : m_tenter_isCloth N f_1 cloth_2 = some o) :
    KC Try.prog 50 [.agg [sl_api_TenterCloth false f_1.Cloths, sl_int false f_1.Frames, .int .i64 f_1.Gap, .int .i64 f_1.Stretch], .int .i64 cloth_2] (.bool o) [] := by
  unfold m_tenter_isCloth at h
  refine con_l [] [] seat Try.func50 rfl ent_50 (by kernel_rfl) rfl rfl (by simp) ?_; intro base I hI; (conv => cbv)
  refine L_call hI h (fun v hv => w_tenter_within N 0 (iopR .sub .i64 ((f_1.Cloths.length : Nat) : Int) 1) [cloth_2] v hv) (by subst_vars; exact ⟨(leD_refl _), (leD_refl _), ⟨.inl rfl, rfl, leDLL_refl _⟩, rfl⟩) ?_; clear h; intro r_3 h; (conv => cbv)
  cases h
  subst_vars
  exact ⟨lE, rfl⟩
def m_tenter_forecast_late_L1 (N : Nat) (x_1 : tenter_forecast) : (Int × Int) → Option ((Int × Int) ⊕ (Int))
  | (water_7, hour_8) =>
    (show Option (Bool) from
      if icmpR .leq water_7 0 then
        some true
      else
        some (icmpR .eql hour_8 0)).bind fun q => match q with
    | v_12 =>
      if v_12 then
        if icmpR .gtr water_7 0 then
          some (.inr (-1))
        else
          some (.inr hour_8)
      else
        (getO d_api_Span x_1.weather (iopR .sub .i64 hour_8 1)).bind fun x_13 =>
        some (.inl (iopR .sub .i64 water_7 x_13.Low, iopR .sub .i64 hour_8 1))
def m_tenter_forecast_late (N : Nat) (x_1 : tenter_forecast) (cloth_2 : Int) (rain_3 : Int) : Option (Int) :=
  (getO d_api_TenterCloth x_1.TenterField.Cloths cloth_2).bind fun x_4 =>
  (loopO (m_tenter_forecast_late_L1 N x_1) N (x_4.Water.High, rain_3)).bind fun q => match q with
  | v_11 =>
    some v_11
theorem w_tenter_forecast_late (N : Nat) (x_1 : tenter_forecast) (cloth_2 : Int) (rain_3 : Int) (o : Int) (h : m_tenter_forecast_late N x_1 cloth_2 rain_3 = some o) :
    KC Try.prog 51 [.agg [sl_api_TenterCloth false x_1.TenterField.Cloths, sl_int false x_1.TenterField.Frames, .int .i64 x_1.TenterField.Gap, .int .i64 x_1.TenterField.Stretch, sl_api_Span false x_1.weather], .int .i64 cloth_2, .int .i64 rain_3] (.int .i64 o) [] := by
  unfold m_tenter_forecast_late at h
  refine con_l [] [1000004] seat Try.func51 rfl ent_51 (by kernel_rfl) rfl rfl (by simp) ?_; intro base I hI; (conv => cbv)
  refine L_get hI h (fun g => by subst_vars; exact g) ?_; clear h; intro hc x_4 hxx_4 h
  refine L_loop hI seat [1000004] (by kernel_rfl) h (fun q => match q with | (water_7, hour_8) => ⟨38, [(3, .loc 0 0), (7, .int .i64 water_7), (8, .int .i64 hour_8)], [(0, ⟨123, [sl_api_TenterCloth false x_1.TenterField.Cloths, sl_int false x_1.TenterField.Frames, .int .i64 x_1.TenterField.Gap, .int .i64 x_1.TenterField.Stretch, sl_api_Span false x_1.weather], true⟩)], [], 0⟩) (fun q => match q with | v_11 => .ret) (fun q => match q with | v_11 => ⟨38, [(6, .int .i64 v_11)], [], [], 0⟩) (by subst_vars; exact weak_l rfl rfl ⟨lR, lE, lE, trivial⟩ ⟨lB ⟨LV_sl, LV_sl, lE, lE, LV_sl, rfl⟩, trivial⟩ trivial) (by intro q; rcases q with v_11 <;> (intro e; exact Exit.noConfusion e)) ?_ ?_; all_goals clear h
  · intro q x h R hR hX
    obtain ⟨water_7, hour_8⟩ := q
    rw [m_tenter_forecast_late_L1] at h
    (conv => cbv)
    refine L_cut hI seat [] (by kernel_rfl) h (fun q => match q with | v_12 => .normal) (fun q => match q with | v_12 => ⟨38, [(3, .loc 0 0), (7, .int .i64 water_7), (8, .int .i64 hour_8), (25, .bool v_12)], [(0, ⟨123, [sl_api_TenterCloth false x_1.TenterField.Cloths, sl_int false x_1.TenterField.Frames, .int .i64 x_1.TenterField.Gap, .int .i64 x_1.TenterField.Stretch, sl_api_Span false x_1.weather], true⟩)], [], 0⟩) ?_ ?_; all_goals clear h
    · intro x h R hR
      (conv => cbv)
      refine L_tst hI h (by subst_vars; rfl) ?_ ?_ <;> clear h <;> intro h
      · exact hR _ _ (Option.some.inj h).symm (by subst_vars; exact weak_l rfl rfl ⟨lR, lE, lE, lE, trivial⟩ ⟨lB ⟨LV_sl, LV_sl, lE, lE, LV_sl, rfl⟩, trivial⟩ trivial)
      · exact hR _ _ (Option.some.inj h).symm (by subst_vars; exact weak_l rfl rfl ⟨lR, lE, lE, lE, trivial⟩ ⟨lB ⟨LV_sl, LV_sl, lE, lE, LV_sl, rfl⟩, trivial⟩ trivial)
    · intro v_12 h
      (conv => cbv)
      refine L_tst hI h (by subst_vars; rfl) ?_ ?_ <;> clear h <;> intro h
      · refine L_tst hI h (by subst_vars; rfl) ?_ ?_ <;> clear h <;> intro h
        · exact hX _ _ (Option.some.inj h).symm (by subst_vars; exact weak_l rfl rfl ⟨lE, trivial⟩ trivial trivial)
        · exact hX _ _ (Option.some.inj h).symm (by subst_vars; exact weak_l rfl rfl ⟨lE, trivial⟩ trivial trivial)
      · refine L_get hI h (fun g => by subst_vars; exact g) ?_; clear h; intro hc x_13 hxx_13 h
        exact hR _ _ (Option.some.inj h).symm (by subst_vars; exact weak_l rfl rfl ⟨lR, lE, lE, trivial⟩ ⟨lB ⟨LV_sl, LV_sl, lE, lE, LV_sl, rfl⟩, trivial⟩ trivial)
  · intro v_11 h
    (conv => cbv)
    cases h
    subst_vars
    exact ⟨lE, rfl⟩
def m_tenter_Late (N : Nat) (f_1 : api_TenterField) (weather_2 : (List api_Span)) (cloth_3 : Int) (rain_4 : Int) : Option (Int × Int) :=
  (m_tenter_newForecast N f_1 weather_2 rain_4).bind fun r_5 =>
  if icmpR .neq r_5.2 0 then
    some (0, r_5.2)
  else
    (m_tenter_isCloth N f_1 cloth_3).bind fun r_6 =>
    if !r_6 then
      some (0, 7)
    else
      (m_tenter_forecast_late N r_5.1 cloth_3 rain_4).bind fun r_7 =>
      if icmpR .geq r_7 0 then
        some (r_7, 0)
      else
        some (0, 9)
theorem w_tenter_Late (N : Nat) (f_1 : api_TenterField) (weather_2 : (List api_Span)) (cloth_3 : Int) (rain_4 : Int) (o : Int × Int) (h : m_tenter_Late N f_1 weather_2 cloth_3 rain_4 = some o) :
    KC Try.prog 15 [.agg [sl_api_TenterCloth false f_1.Cloths, sl_int false f_1.Frames, .int .i64 f_1.Gap, .int .i64 f_1.Stretch], sl_api_Span false weather_2, .int .i64 cloth_3, .int .i64 rain_4] (.tup [.int .i64 o.1, .int .i64 o.2]) [] := by
  unfold m_tenter_Late at h
  refine con_l [] [] seat Try.func15 rfl ent_15 (by kernel_rfl) rfl rfl (by simp) ?_; intro base I hI; (conv => cbv)
  refine L_call hI h (fun v hv => w_tenter_newForecast N f_1 weather_2 rain_4 v hv) (by subst_vars; exact ⟨(leD_refl _), (leD_refl _), (leD_refl _), rfl⟩) ?_; clear h; intro r_5 h; (conv => cbv)
  refine L_tst hI h (by subst_vars; rfl) ?_ ?_ <;> clear h <;> intro h
  · cases h
    subst_vars
    exact ⟨(LV_tup ⟨lE, lE, rfl⟩), rfl⟩
  · refine L_call hI h (fun v hv => w_tenter_isCloth N f_1 cloth_3 v hv) (by subst_vars; exact ⟨(leD_refl _), (leD_refl _), rfl⟩) ?_; clear h; intro r_6 h; (conv => cbv)
    refine L_tst hI h (by subst_vars; rfl) ?_ ?_ <;> clear h <;> intro h
    · cases h
      subst_vars
      exact ⟨(LV_tup ⟨lE, lE, rfl⟩), rfl⟩
    · refine L_call hI h (fun v hv => w_tenter_forecast_late N r_5.1 cloth_3 rain_4 v hv) (by subst_vars; exact ⟨(leD_refl _), (leD_refl _), (leD_refl _), rfl⟩) ?_; clear h; intro r_7 h; (conv => cbv)
      refine L_tst hI h (by subst_vars; rfl) ?_ ?_ <;> clear h <;> intro h
      · cases h
        subst_vars
        exact ⟨(LV_tup ⟨lE, lE, rfl⟩), rfl⟩
      · cases h
        subst_vars
        exact ⟨(LV_tup ⟨lE, lE, rfl⟩), rfl⟩
def m_tenter_forecast_dried_L1 (N : Nat) (v_6 : Int) (v_5 : (List api_Span)) (from_2 : Int) (end_4 : api_Span → Option Int) : (Int × Int) → Option ((Int × Int) ⊕ ((Int) ⊕ (Int)))
  | (water_9, v_10) =>
    if icmpR .lss v_10 v_6 then
      (getO d_api_Span v_5 v_10).bind fun x_15 =>
      if icmpR .leq water_9 0 then
        some (.inr (.inl (iopR .add .i64 from_2 v_10)))
      else
        (end_4 x_15).bind fun v_16 =>
        some (.inl (iopR .sub .i64 water_9 v_16, iopR .add .i64 v_10 1))
    else
      some (.inr (.inr water_9))
def m_tenter_forecast_dried (N : Nat) (x_1 : tenter_forecast) (from_2 : Int) (water_3 : Int) (end_4 : api_Span → Option Int) : Option (Int) :=
  if (0 : Int) ≤ from_2 then
    if (from_2 : Int) ≤ ((x_1.weather.length : Nat) : Int) then
      if ((x_1.weather.length : Nat) : Int) ≤ ((x_1.weather.length : Nat) : Int) then
        letO ((x_1.weather.take ((x_1.weather.length : Nat) : Int).toNat).drop from_2.toNat : (List api_Span)) fun v_5 =>
        letO (((((x_1.weather.take ((x_1.weather.length : Nat) : Int).toNat).drop from_2.toNat).length : Nat) : Int) : Int) fun v_6 =>
        (loopO (m_tenter_forecast_dried_L1 N v_6 v_5 from_2 end_4) N (water_3, 0)).bind fun q => match q with
        | (.inl v_13) =>
          some v_13
        | (.inr water_14) =>
          if icmpR .leq water_14 0 then
            some ((x_1.weather.length : Nat) : Int)
          else
            some (iopR .add .i64 ((x_1.weather.length : Nat) : Int) 1)
      else none
    else none
  else none
theorem w_tenter_forecast_dried (N : Nat) (x_1 : tenter_forecast) (from_2 : Int) (water_3 : Int) (end_4 : api_Span → Option Int) (kend_4 : Nat) (dsend_4 : List D) (hdend_4 : noAggD dsend_4 = true) (hpend_4 : ∀ x0 r, end_4 x0 = some r → KD Try.prog kend_4 [.agg [.int .i64 x0.Low, .int .i64 x0.High]] dsend_4 (.int .i64 r)) (o : Int) (h : m_tenter_forecast_dried N x_1 from_2 water_3 end_4 = some o) :
    KC Try.prog 98 [.agg [sl_api_TenterCloth false x_1.TenterField.Cloths, sl_int false x_1.TenterField.Frames, .int .i64 x_1.TenterField.Gap, .int .i64 x_1.TenterField.Stretch, sl_api_Span false x_1.weather], .int .i64 from_2, .int .i64 water_3, .d (.fn kend_4 dsend_4)] (.int .i64 o) [] := by
  unfold m_tenter_forecast_dried at h
  refine con_l [] [] seat Try.func98 rfl ent_98 (by kernel_rfl) rfl rfl (by simp) ?_; intro base I hI; (conv => cbv)
  refine L_conj hI h (fun g => by subst_vars; exact g) ?_; clear h; intro hc h
  refine L_conj hI h (fun g => by subst_vars; exact g) ?_; clear h; intro hc h
  refine L_conj hI h (fun g => by subst_vars; exact g) ?_; clear h; intro hc h
  replace h := letO_of h; obtain ⟨v_5, hev_5, h⟩ := h
  replace h := letO_of h; obtain ⟨v_6, hev_6, h⟩ := h
  refine L_loop hI seat [] (by kernel_rfl) h (fun q => match q with | (water_9, v_10) => ⟨41, [(1, .int .i64 from_2), (2, .int .i64 water_9), (3, .d (.fn kend_4 dsend_4)), (4, .loc 0 0), (14, sl_api_Span false v_5), (15, .int .i64 v_6), (16, .int .i64 v_10)], [(0, ⟨123, [sl_api_TenterCloth false x_1.TenterField.Cloths, sl_int false x_1.TenterField.Frames, .int .i64 x_1.TenterField.Gap, .int .i64 x_1.TenterField.Stretch, sl_api_Span false x_1.weather], true⟩)], [], 0⟩) (fun q => match q with | (.inl v_13) => .ret | (.inr water_14) => .exit 0) (fun q => match q with | (.inl v_13) => ⟨41, [(8, .int .i64 v_13)], [], [], 0⟩ | (.inr water_14) => ⟨41, [(2, .int .i64 water_14), (4, .loc 0 0)], [(0, ⟨123, [sl_api_TenterCloth false x_1.TenterField.Cloths, sl_int false x_1.TenterField.Frames, .int .i64 x_1.TenterField.Gap, .int .i64 x_1.TenterField.Stretch, sl_api_Span false x_1.weather], true⟩)], [], 0⟩) (by subst_vars; exact weak_l rfl rfl ⟨lE, lE, lR, lR, LV_sl, lE, lE, trivial⟩ ⟨lB ⟨LV_sl, LV_sl, lE, lE, LV_sl, rfl⟩, trivial⟩ trivial) (by intro q; rcases q with (v_13 | water_14) <;> (intro e; exact Exit.noConfusion e)) ?_ ?_; all_goals clear h
  · intro q x h R hR hX
    obtain ⟨water_9, v_10⟩ := q
    rw [m_tenter_forecast_dried_L1] at h
    (conv => cbv)
    refine L_tst hI h (by subst_vars; rfl) ?_ ?_ <;> clear h <;> intro h
    · refine L_get hI h (fun g => by subst_vars; exact g) ?_; clear h; intro hc x_15 hxx_15 h
      refine L_tst hI h (by subst_vars; rfl) ?_ ?_ <;> clear h <;> intro h
      · exact hX _ _ (Option.some.inj h).symm (by subst_vars; exact weak_l rfl rfl ⟨lE, trivial⟩ trivial trivial)
      · refine K_conj hI (by subst_vars; exact hdend_4) ?_
        refine L_callD hI h (args' := [.agg [.int .i64 x_15.Low, .int .i64 x_15.High]]) (fun v hv => hpend_4 x_15 v hv) (by subst_vars; rfl) ?_; clear h; intro v_16 h; (conv => cbv)
        exact hR _ _ (Option.some.inj h).symm (by subst_vars; exact weak_l rfl rfl ⟨lE, lE, lR, lR, LV_sl, lE, lE, trivial⟩ ⟨lB ⟨LV_sl, LV_sl, lE, lE, LV_sl, rfl⟩, trivial⟩ trivial)
    · exact hX _ _ (Option.some.inj h).symm (by subst_vars; exact weak_l rfl rfl ⟨lE, lR, trivial⟩ ⟨lB ⟨LV_sl, LV_sl, lE, lE, LV_sl, rfl⟩, trivial⟩ trivial)
  · intro q h
    rcases q with (v_13 | water_14)
    · (conv => cbv)
      cases h
      subst_vars
      exact ⟨lE, rfl⟩
    · (conv => cbv)
      refine L_tst hI h (by subst_vars; rfl) ?_ ?_ <;> clear h <;> intro h
      · cases h
        subst_vars
        exact ⟨lE, rfl⟩
      · cases h
        subst_vars
        exact ⟨lE, rfl⟩
def m_tenter_high (N : Nat) (s_1 : api_Span) : Option (Int) :=
  some s_1.High
theorem w_tenter_high (N : Nat) (s_1 : api_Span) (o : Int) (h : m_tenter_high N s_1 = some o) :
    KC Try.prog 99 [.agg [.int .i64 s_1.Low, .int .i64 s_1.High]] (.int .i64 o) [] := by
  unfold m_tenter_high at h
  refine con_l [] [] seat Try.func99 rfl ent_99 (by kernel_rfl) rfl rfl (by simp) ?_; intro base I hI; (conv => cbv)
  cases h
  subst_vars
  exact ⟨lE, rfl⟩
def m_tenter_low (N : Nat) (s_1 : api_Span) : Option (Int) :=
  some s_1.Low
theorem w_tenter_low (N : Nat) (s_1 : api_Span) (o : Int) (h : m_tenter_low N s_1 = some o) :
    KC Try.prog 100 [.agg [.int .i64 s_1.Low, .int .i64 s_1.High]] (.int .i64 o) [] := by
  unfold m_tenter_low at h
  refine con_l [] [] seat Try.func100 rfl ent_100 (by kernel_rfl) rfl rfl (by simp) ?_; intro base I hI; (conv => cbv)
  cases h
  subst_vars
  exact ⟨lE, rfl⟩
def m_tenter_forecast_dry (N : Nat) (x_1 : tenter_forecast) (cloth_2 : Int) (from_3 : Int) : Option (api_Span) :=
  (getO d_api_TenterCloth x_1.TenterField.Cloths cloth_2).bind fun x_4 =>
  (m_tenter_forecast_dried N x_1 from_3 x_4.Water.Low (fun x0 => m_tenter_high N x0)).bind fun r_5 =>
  (m_tenter_forecast_dried N x_1 from_3 x_4.Water.High (fun x0 => m_tenter_low N x0)).bind fun r_6 =>
  some (api_Span.mk r_5 r_6)
theorem w_tenter_forecast_dry (N : Nat) (x_1 : tenter_forecast) (cloth_2 : Int) (from_3 : Int) (o : api_Span) (h : m_tenter_forecast_dry N x_1 cloth_2 from_3 = some o) :
    KC Try.prog 52 [.agg [sl_api_TenterCloth false x_1.TenterField.Cloths, sl_int false x_1.TenterField.Frames, .int .i64 x_1.TenterField.Gap, .int .i64 x_1.TenterField.Stretch, sl_api_Span false x_1.weather], .int .i64 cloth_2, .int .i64 from_3] (.agg [.int .i64 o.Low, .int .i64 o.High]) [] := by
  unfold m_tenter_forecast_dry at h
  refine con_l [] [] seat Try.func52 rfl ent_52 (by kernel_rfl) rfl rfl (by simp) ?_; intro base I hI; (conv => cbv)
  refine L_get hI h (fun g => by subst_vars; exact g) ?_; clear h; intro hc x_4 hxx_4 h
  refine L_call hI h (fun v hv => w_tenter_forecast_dried N x_1 from_3 x_4.Water.Low (fun x0 => m_tenter_high N x0) 99 (KV.toDL []) rfl (fun x0 r hr => KD_of (caps := []) (w_tenter_high N x0 r hr)) v hv) (by subst_vars; exact ⟨(leD_refl _), (leD_refl _), (leD_refl _), (leD_refl _), rfl⟩) ?_; clear h; intro r_5 h; (conv => cbv)
  refine L_call hI h (fun v hv => w_tenter_forecast_dried N x_1 from_3 x_4.Water.High (fun x0 => m_tenter_low N x0) 100 (KV.toDL []) rfl (fun x0 r hr => KD_of (caps := []) (w_tenter_low N x0 r hr)) v hv) (by subst_vars; exact ⟨(leD_refl _), (leD_refl _), (leD_refl _), (leD_refl _), rfl⟩) ?_; clear h; intro r_6 h; (conv => cbv)
  cases h
  subst_vars
  exact ⟨(LV_agg ⟨lE, lE, rfl⟩), rfl⟩
def m_tenter_Dry_L1 (N : Nat) (v_5 : Int) (r_4 : tenter_forecast × Int) (from_3 : Int) : (Int × (List api_Span)) → Option ((Int × (List api_Span)) ⊕ ((List api_Span)))
  | (v_7, l_8) =>
    if icmpR .lss v_7 v_5 then
      (m_tenter_forecast_dry N r_4.1 v_7 from_3).bind fun r_11 =>
      if fitsN (l_8.length + 1) 16 then
        some (.inl (iopR .add .i64 v_7 1, (l_8 ++ [r_11])))
      else none
    else
      some (.inr l_8)
def m_tenter_Dry (N : Nat) (f_1 : api_TenterField) (weather_2 : (List api_Span)) (from_3 : Int) : Option ((List api_Span) × Int) :=
  (m_tenter_newForecast N f_1 weather_2 from_3).bind fun r_4 =>
  if icmpR .neq r_4.2 0 then
    some ([], r_4.2)
  else
    letO (((f_1.Cloths.length : Nat) : Int) : Int) fun v_5 =>
    (loopO (m_tenter_Dry_L1 N v_5 r_4 from_3) N (0, [])).bind fun q => match q with
    | l_10 =>
      some (l_10, 0)
theorem w_tenter_Dry (N : Nat) (f_1 : api_TenterField) (weather_2 : (List api_Span)) (from_3 : Int) (o : (List api_Span) × Int) (h : m_tenter_Dry N f_1 weather_2 from_3 = some o) :
    KC Try.prog 17 [.agg [sl_api_TenterCloth false f_1.Cloths, sl_int false f_1.Frames, .int .i64 f_1.Gap, .int .i64 f_1.Stretch], sl_api_Span false weather_2, .int .i64 from_3] (.tup [sl_api_Span false o.1, .int .i64 o.2]) [] := by
  unfold m_tenter_Dry at h
  refine con_l [] [] seat Try.func17 rfl ent_17 (by kernel_rfl) rfl rfl (by simp) ?_; intro base I hI; (conv => cbv)
  refine L_call hI h (fun v hv => w_tenter_newForecast N f_1 weather_2 from_3 v hv) (by subst_vars; exact ⟨(leD_refl _), (leD_refl _), (leD_refl _), rfl⟩) ?_; clear h; intro r_4 h; (conv => cbv)
  refine L_tst hI h (by subst_vars; rfl) ?_ ?_ <;> clear h <;> intro h
  · cases h
    subst_vars
    exact ⟨(LV_tup ⟨LV_nil, lE, rfl⟩), rfl⟩
  · replace h := letO_of h; obtain ⟨v_5, hev_5, h⟩ := h
    refine L_loop hI seat [] (by kernel_rfl) h (fun q => match q with | (v_7, l_8) => ⟨35, [(2, .int .i64 from_3), (6, .osl 2), (8, .loc 1 0), (22, .int .i64 v_5), (23, .int .i64 v_7)], [(1, ⟨123, [sl_api_TenterCloth false r_4.1.TenterField.Cloths, sl_int false r_4.1.TenterField.Frames, .int .i64 r_4.1.TenterField.Gap, .int .i64 r_4.1.TenterField.Stretch, sl_api_Span false r_4.1.weather], true⟩)], [(2, ⟨30, 2, [.ls api_Span d_api_Span l_8 e_api_Span], false, true⟩)], 0⟩) (fun q => match q with | l_10 => .exit 0) (fun q => match q with | l_10 => ⟨35, [(6, .osl 2)], [], [(2, ⟨30, 2, [.ls api_Span d_api_Span l_10 e_api_Span], false, true⟩)], 0⟩) (by subst_vars; exact (weak_nil 6 2 30 2 rfl rfl rfl rfl).trans (weak_l rfl rfl ⟨lE, lR, lR, lE, lE, trivial⟩ ⟨lB ⟨LV_sl, LV_sl, lE, lE, LV_sl, rfl⟩, trivial⟩ ⟨lO, trivial⟩)) (by intro q; rcases q with l_10 <;> (intro e; exact Exit.noConfusion e)) ?_ ?_; all_goals clear h
    · intro q x h R hR hX
      obtain ⟨v_7, l_8⟩ := q
      rw [m_tenter_Dry_L1] at h
      (conv => cbv)
      refine L_tst hI h (by subst_vars; rfl) ?_ ?_ <;> clear h <;> intro h
      · refine L_call hI h (fun v hv => w_tenter_forecast_dry N r_4.1 v_7 from_3 v hv) (by subst_vars; exact ⟨(leD_refl _), (leD_refl _), (leD_refl _), rfl⟩) ?_; clear h; intro r_11 h; (conv => cbv)
        refine L_conj hI h (fun g => by subst_vars; exact g) ?_; clear h; intro hc h
        exact hR _ _ (Option.some.inj h).symm (by subst_vars; exact weak_l rfl rfl ⟨lE, lR, lR, lE, lE, trivial⟩ ⟨lB ⟨LV_sl, LV_sl, lE, lE, LV_sl, rfl⟩, trivial⟩ ⟨lO, trivial⟩)
      · exact hX _ _ (Option.some.inj h).symm (by subst_vars; exact weak_l rfl rfl ⟨lR, trivial⟩ trivial ⟨lO, trivial⟩)
    · intro l_10 h
      (conv => cbv)
      cases h
      subst_vars
      exact ⟨(LV_tup ⟨LV_sl, lE, rfl⟩), rfl⟩
def m_top_elmWater (N : Nat)  : Option (Bool) :=
  (m_top_elmSpan N 30 40).bind fun r_1 =>
  (m_top_elmSpan N 20 25).bind fun r_2 =>
  (m_top_elmSpan N 10 20).bind fun r_3 =>
  (m_top_elmSpan N 0 5).bind fun r_4 =>
  (m_top_elmSpan N 15 30).bind fun r_5 =>
  (m_stream_Window N (api_StreamMill.mk 3 10 r_1 50 r_2) [r_3, r_4, r_5] 2 2).bind fun r_6 =>
  (show Option (Bool) from
    if icmpR .eql r_6.2 0 then
      some (icmpR .eql r_6.1 1)
    else
      some false).bind fun q => match q with
  | v_7 =>
    some v_7
theorem w_top_elmWater (N : Nat)  (o : Bool) (h : m_top_elmWater N  = some o) :
    KC Try.prog 18 [] (.bool o) [] := by
  unfold m_top_elmWater at h
  refine con_l [] [1000003] seat Try.func18 rfl ent_18 (by kernel_rfl) rfl rfl (by simp) ?_; intro base I hI; (conv => cbv)
  refine L_call hI h (fun v hv => w_top_elmSpan N 30 40 v hv) (by subst_vars; exact ⟨(leD_refl _), (leD_refl _), rfl⟩) ?_; clear h; intro r_1 h; (conv => cbv)
  refine L_call hI h (fun v hv => w_top_elmSpan N 20 25 v hv) (by subst_vars; exact ⟨(leD_refl _), (leD_refl _), rfl⟩) ?_; clear h; intro r_2 h; (conv => cbv)
  refine L_call hI h (fun v hv => w_top_elmSpan N 10 20 v hv) (by subst_vars; exact ⟨(leD_refl _), (leD_refl _), rfl⟩) ?_; clear h; intro r_3 h; (conv => cbv)
  refine L_call hI h (fun v hv => w_top_elmSpan N 0 5 v hv) (by subst_vars; exact ⟨(leD_refl _), (leD_refl _), rfl⟩) ?_; clear h; intro r_4 h; (conv => cbv)
  refine L_call hI h (fun v hv => w_top_elmSpan N 15 30 v hv) (by subst_vars; exact ⟨(leD_refl _), (leD_refl _), rfl⟩) ?_; clear h; intro r_5 h; (conv => cbv)
  refine L_call hI h (fun v hv => w_stream_Window N (api_StreamMill.mk 3 10 r_1 50 r_2) [r_3, r_4, r_5] 2 2 v hv) (by subst_vars; exact ⟨⟨(leD_refl _), (leD_refl _), (leD_refl _), (leD_refl _), (leD_refl _), (leD_refl _), (leD_refl _), rfl⟩, ⟨.inl rfl, rfl, leDLL_refl _⟩, (leD_refl _), (leD_refl _), rfl⟩) ?_; clear h; intro r_6 h; (conv => cbv)
  refine L_cut hI seat [] (by kernel_rfl) h (fun q => match q with | v_7 => .normal) (fun q => match q with | v_7 => ⟨22, [(0, .bool v_7)], [], [], 0⟩) ?_ ?_; all_goals clear h
  · intro x h R hR
    (conv => cbv)
    refine L_tst hI h (by subst_vars; rfl) ?_ ?_ <;> clear h <;> intro h
    · exact hR _ _ (Option.some.inj h).symm (by subst_vars; exact weak_l rfl rfl ⟨lE, trivial⟩ trivial trivial)
    · exact hR _ _ (Option.some.inj h).symm (by subst_vars; exact weak_l rfl rfl ⟨lE, trivial⟩ trivial trivial)
  · intro v_7 h
    (conv => cbv)
    cases h
    subst_vars
    exact ⟨lE, rfl⟩
def m_tenter_pulled (N : Nat) (f_1 : api_TenterField) (long_2 : Int) : Option (Int) :=
  some (iopR .quo .i64 (iopR .mul .i64 long_2 (iopR .add .i64 1000 f_1.Stretch)) 1000)
theorem w_tenter_pulled (N : Nat) (f_1 : api_TenterField) (long_2 : Int) (o : Int) (h : m_tenter_pulled N f_1 long_2 = some o) :
    KC Try.prog 138 [.agg [sl_api_TenterCloth false f_1.Cloths, sl_int false f_1.Frames, .int .i64 f_1.Gap, .int .i64 f_1.Stretch], .int .i64 long_2] (.int .i64 o) [] := by
  unfold m_tenter_pulled at h
  refine con_l [] [] seat Try.func138 rfl ent_138 (by kernel_rfl) rfl rfl (by simp) ?_; intro base I hI; (conv => cbv)
  cases h
  subst_vars
  exact ⟨lE, rfl⟩
def m_tenter_open_L1 (N : Nat) (v_3 : Int) (f_1 : api_TenterField) : (Int × (List api_Span)) → Option ((Int × (List api_Span)) ⊕ ((List api_Span)))
  | (v_8, l_9) =>
    if icmpR .lss v_8 v_3 then
      (getO d_api_TenterCloth f_1.Cloths v_8).bind fun x_15 =>
      (m_tenter_pulled N f_1 x_15.Long.Low).bind fun r_16 =>
      (show Option (Int × Int) from
        if icmpR .gtr x_15.Long.High r_16 then
          some (1, 0)
        else
          some (x_15.Long.High, r_16)).bind fun q => match q with
      | (s_17, s_18) =>
        if fitsN (l_9.length + 1) 16 then
          some (.inl (iopR .add .i64 v_8 1, (l_9 ++ [(api_Span.mk s_17 s_18)])))
        else none
    else
      some (.inr l_9)
def m_tenter_open (N : Nat) (f_1 : api_TenterField) : Option (tenter_field × Int) :=
  (m_tenter_Check N f_1).bind fun r_2 =>
  if icmpR .neq r_2 0 then
    some ((tenter_field.mk (api_TenterField.mk [] [] 0 0) []), r_2)
  else
    letO (((f_1.Cloths.length : Nat) : Int) : Int) fun v_3 =>
    (loopO (m_tenter_open_L1 N v_3 f_1) N (0, [])).bind fun q => match q with
    | l_14 =>
      some ((tenter_field.mk f_1 l_14), 0)
theorem w_tenter_open (N : Nat) (f_1 : api_TenterField) (o : tenter_field × Int) (h : m_tenter_open N f_1 = some o) :
    KC Try.prog 101 [.agg [sl_api_TenterCloth false f_1.Cloths, sl_int false f_1.Frames, .int .i64 f_1.Gap, .int .i64 f_1.Stretch]] (.tup [.agg [sl_api_TenterCloth false o.1.TenterField.Cloths, sl_int false o.1.TenterField.Frames, .int .i64 o.1.TenterField.Gap, .int .i64 o.1.TenterField.Stretch, sl_api_Span false o.1.hangs], .int .i64 o.2]) [] := by
  unfold m_tenter_open at h
  refine con_l [] [2000036] seat Try.func101 rfl ent_101 (by kernel_rfl) rfl rfl (by simp) ?_; intro base I hI; (conv => cbv)
  refine L_call hI h (fun v hv => w_tenter_Check N f_1 v hv) (by subst_vars; exact ⟨(leD_refl _), rfl⟩) ?_; clear h; intro r_2 h; (conv => cbv)
  refine L_tst hI h (by subst_vars; rfl) ?_ ?_ <;> clear h <;> intro h
  · cases h
    subst_vars
    exact ⟨(LV_tup ⟨(LV_agg ⟨LV_nil, LV_nil, lE, lE, LV_nil, rfl⟩), lE, rfl⟩), rfl⟩
  · replace h := letO_of h; obtain ⟨v_3, hev_3, h⟩ := h
    refine L_loop hI seat [2000036] (by kernel_rfl) h (fun q => match q with | (v_8, l_9) => ⟨46, [(1, .loc 0 0), (2, .loc 1 0), (17, sl_api_TenterCloth false f_1.Cloths), (18, .int .i64 v_3), (19, .int .i64 v_8)], [(1, ⟨194, [sl_api_TenterCloth false f_1.Cloths, sl_int false f_1.Frames, .int .i64 f_1.Gap, .int .i64 f_1.Stretch, .osl 2], true⟩), (0, ⟨43, [sl_api_TenterCloth false f_1.Cloths, sl_int false f_1.Frames, .int .i64 f_1.Gap, .int .i64 f_1.Stretch], true⟩)], [(2, ⟨30, 2, [.ls api_Span d_api_Span l_9 e_api_Span], false, true⟩)], 0⟩) (fun q => match q with | l_14 => .exit 0) (fun q => match q with | l_14 => ⟨46, [(2, .loc 1 0)], [(1, ⟨194, [sl_api_TenterCloth false f_1.Cloths, sl_int false f_1.Frames, .int .i64 f_1.Gap, .int .i64 f_1.Stretch, .osl 2], true⟩)], [(2, ⟨30, 2, [.ls api_Span d_api_Span l_14 e_api_Span], false, true⟩)], 0⟩) (by subst_vars; exact (weak_nilH 1 4 2 30 2 ⟨194, [sl_api_TenterCloth false f_1.Cloths, sl_int false f_1.Frames, .int .i64 f_1.Gap, .int .i64 f_1.Stretch, .nilsl], true⟩ rfl rfl rfl rfl).trans (weak_l rfl rfl ⟨lR, lR, LV_sl, lE, lE, trivial⟩ ⟨lB ⟨LV_sl, LV_sl, lE, lE, lR, rfl⟩, lB ⟨LV_sl, LV_sl, lE, lE, rfl⟩, trivial⟩ ⟨lO, trivial⟩)) (by intro q; rcases q with l_14 <;> (intro e; exact Exit.noConfusion e)) ?_ ?_; all_goals clear h
    · intro q x h R hR hX
      obtain ⟨v_8, l_9⟩ := q
      rw [m_tenter_open_L1] at h
      (conv => cbv)
      refine L_tst hI h (by subst_vars; rfl) ?_ ?_ <;> clear h <;> intro h
      · refine L_get hI h (fun g => by subst_vars; exact g) ?_; clear h; intro hc x_15 hxx_15 h
        refine L_call hI h (fun v hv => w_tenter_pulled N f_1 x_15.Long.Low v hv) (by subst_vars; exact ⟨(leD_refl _), (leD_refl _), rfl⟩) ?_; clear h; intro r_16 h; (conv => cbv)
        refine L_cut hI seat [] (by kernel_rfl) h (fun q => match q with | (s_17, s_18) => .normal) (fun q => match q with | (s_17, s_18) => ⟨46, [(1, .loc 0 0), (2, .loc 1 0), (7, .loc 4 0), (17, sl_api_TenterCloth false f_1.Cloths), (18, .int .i64 v_3), (19, .int .i64 v_8)], [(4, ⟨30, [.int .i64 s_17, .int .i64 s_18], true⟩), (1, ⟨194, [sl_api_TenterCloth false f_1.Cloths, sl_int false f_1.Frames, .int .i64 f_1.Gap, .int .i64 f_1.Stretch, .osl 2], true⟩), (0, ⟨43, [sl_api_TenterCloth false f_1.Cloths, sl_int false f_1.Frames, .int .i64 f_1.Gap, .int .i64 f_1.Stretch], true⟩)], [(2, ⟨30, 2, [.ls api_Span d_api_Span l_9 e_api_Span], false, true⟩)], 0⟩) ?_ ?_; all_goals clear h
        · intro x h R hR
          (conv => cbv)
          refine L_tst hI h (by subst_vars; rfl) ?_ ?_ <;> clear h <;> intro h
          · exact hR _ _ (Option.some.inj h).symm (by subst_vars; exact weak_l rfl rfl ⟨lR, lR, lR, LV_sl, lE, lE, trivial⟩ ⟨lB ⟨lE, lE, rfl⟩, lB ⟨LV_sl, LV_sl, lE, lE, lR, rfl⟩, lB ⟨LV_sl, LV_sl, lE, lE, rfl⟩, trivial⟩ ⟨lO, trivial⟩)
          · exact hR _ _ (Option.some.inj h).symm (by subst_vars; exact weak_l rfl rfl ⟨lR, lR, lR, LV_sl, lE, lE, trivial⟩ ⟨lB ⟨lE, lE, rfl⟩, lB ⟨LV_sl, LV_sl, lE, lE, lR, rfl⟩, lB ⟨LV_sl, LV_sl, lE, lE, rfl⟩, trivial⟩ ⟨lO, trivial⟩)
        · intro q h
          rcases q with ⟨s_17, s_18⟩
          (conv => cbv)
          refine L_conj hI h (fun g => by subst_vars; exact g) ?_; clear h; intro hc h
          exact hR _ _ (Option.some.inj h).symm (by subst_vars; exact weak_l rfl rfl ⟨lR, lR, LV_sl, lE, lE, trivial⟩ ⟨lB ⟨LV_sl, LV_sl, lE, lE, lR, rfl⟩, lB ⟨LV_sl, LV_sl, lE, lE, rfl⟩, trivial⟩ ⟨lO, trivial⟩)
      · exact hX _ _ (Option.some.inj h).symm (by subst_vars; exact weak_l rfl rfl ⟨lR, trivial⟩ ⟨lB ⟨LV_sl, LV_sl, lE, lE, lR, rfl⟩, trivial⟩ ⟨lO, trivial⟩)
    · intro l_14 h
      (conv => cbv)
      cases h
      subst_vars
      exact ⟨(LV_tup ⟨(LV_agg ⟨LV_sl, LV_sl, lE, lE, LV_sl, rfl⟩), lE, rfl⟩), rfl⟩
def m_tenter_Hangs (N : Nat) (f_1 : api_TenterField) : Option ((List api_Span) × Int) :=
  (m_tenter_open N f_1).bind fun r_2 =>
  some (r_2.1.hangs, r_2.2)
theorem w_tenter_Hangs (N : Nat) (f_1 : api_TenterField) (o : (List api_Span) × Int) (h : m_tenter_Hangs N f_1 = some o) :
    KC Try.prog 53 [.agg [sl_api_TenterCloth false f_1.Cloths, sl_int false f_1.Frames, .int .i64 f_1.Gap, .int .i64 f_1.Stretch]] (.tup [sl_api_Span false o.1, .int .i64 o.2]) [] := by
  unfold m_tenter_Hangs at h
  refine con_l [] [] seat Try.func53 rfl ent_53 (by kernel_rfl) rfl rfl (by simp) ?_; intro base I hI; (conv => cbv)
  refine L_call hI h (fun v hv => w_tenter_open N f_1 v hv) (by subst_vars; exact ⟨(leD_refl _), rfl⟩) ?_; clear h; intro r_2 h; (conv => cbv)
  cases h
  subst_vars
  exact ⟨(LV_tup ⟨LV_sl, lE, rfl⟩), rfl⟩
def m_top_elmField (N : Nat)  : Option (Bool) :=
  (m_top_elmSpan N 200 204).bind fun r_1 =>
  (m_tenter_Hangs N (api_TenterField.mk [(api_TenterCloth.mk r_1 (api_Span.mk 0 0))] [520] 0 50)).bind fun r_2 =>
  (show Option (Bool) from
    if icmpR .eql r_2.2 0 then
      if icmpR .eql ((r_2.1.length : Nat) : Int) 1 then
        (getO d_api_Span r_2.1 0).bind fun x_4 =>
        (m_top_elmSpan N 204 210).bind fun r_5 =>
        some (eqI [(.i64, x_4.Low), (.i64, x_4.High)] [(.i64, r_5.Low), (.i64, r_5.High)])
      else
        some false
    else
      some false).bind fun q => match q with
  | v_3 =>
    some v_3
theorem w_top_elmField (N : Nat)  (o : Bool) (h : m_top_elmField N  = some o) :
    KC Try.prog 19 [] (.bool o) [] := by
  unfold m_top_elmField at h
  refine con_l [] [1000002] seat Try.func19 rfl ent_19 (by kernel_rfl) rfl rfl (by simp) ?_; intro base I hI; (conv => cbv)
  refine L_call hI h (fun v hv => w_top_elmSpan N 200 204 v hv) (by subst_vars; exact ⟨(leD_refl _), (leD_refl _), rfl⟩) ?_; clear h; intro r_1 h; (conv => cbv)
  refine L_call hI h (fun v hv => w_tenter_Hangs N (api_TenterField.mk [(api_TenterCloth.mk r_1 (api_Span.mk 0 0))] [520] 0 50) v hv) (by subst_vars; exact ⟨⟨⟨.inl rfl, rfl, leDLL_refl _⟩, ⟨.inl rfl, rfl, leDLL_refl _⟩, (leD_refl _), (leD_refl _), rfl⟩, rfl⟩) ?_; clear h; intro r_2 h; (conv => cbv)
  refine L_cut hI seat [] (by kernel_rfl) h (fun q => match q with | v_3 => .normal) (fun q => match q with | v_3 => ⟨26, [(0, .bool v_3)], [], [], 0⟩) ?_ ?_; all_goals clear h
  · intro x h R hR
    (conv => cbv)
    refine L_tst hI h (by subst_vars; rfl) ?_ ?_ <;> clear h <;> intro h
    · refine L_tst hI h (by subst_vars; rfl) ?_ ?_ <;> clear h <;> intro h
      · refine L_get hI h (fun g => by subst_vars; exact g) ?_; clear h; intro hc x_4 hxx_4 h
        refine L_call hI h (fun v hv => w_top_elmSpan N 204 210 v hv) (by subst_vars; exact ⟨(leD_refl _), (leD_refl _), rfl⟩) ?_; clear h; intro r_5 h; (conv => cbv)
        exact hR _ _ (Option.some.inj h).symm (by subst_vars; exact weak_l rfl rfl ⟨lE, trivial⟩ trivial trivial)
      · exact hR _ _ (Option.some.inj h).symm (by subst_vars; exact weak_l rfl rfl ⟨lE, trivial⟩ trivial trivial)
    · exact hR _ _ (Option.some.inj h).symm (by subst_vars; exact weak_l rfl rfl ⟨lE, trivial⟩ trivial trivial)
  · intro v_3 h
    (conv => cbv)
    cases h
    subst_vars
    exact ⟨lE, rfl⟩
end
end Go.Proofs.Ytgefdljjhmjdaaa.Aw

/- Plain model and walk of the statement, printed by wip/gen/tw.py. -/
namespace Go.Proofs.Ytgefdljjhmjdaaa.Aw
open Go Go.RowKit Go.Proofs
set_option maxRecDepth 100000
set_option maxHeartbeats 4000000
set_option linter.unusedSimpArgs false
set_option linter.unusedVariables false
noncomputable section
def m_top_TopWindowDry_L1 (N : Nat) (r_9 : Int × Int) (r_5 : (List api_Span)) (r_6 : api_Span) (r_7 : api_Span) (v_15 : Int) (r_12 : Int × Int) : Int → Option ((Int) ⊕ ((Unit) ⊕ (Unit)))
  | v_32 =>
    (show Option (Bool) from
      if icmpR .eql r_9.2 0 then
        some (icmpR .leq v_32 ((r_5.length : Nat) : Int))
      else
        some false).bind fun q => match q with
    | v_48 =>
      if v_48 then
        (m_top_elmOwn N (api_TenterField.mk [(api_TenterCloth.mk r_6 r_7)] [60] 0 0)).bind fun r_49 =>
        (m_top_elmSpans N r_5).bind fun r_50 =>
        (m_tenter_Dry N r_49 r_50 v_32).bind fun r_51 =>
        (show Option (Bool) from
          if icmpR .neq r_51.2 0 then
            some true
          else
            if icmpR .neq ((r_51.1.length : Nat) : Int) 1 then
              some true
            else
              if icmpR .leq v_32 v_15 then
                (getO d_api_Span r_51.1 0).bind fun x_53 =>
                if icmpR .eql r_12.2 0 then
                  if !((icmpR .leq x_53.High v_15) == (icmpR .leq v_32 r_12.1)) then
                    some true
                  else
                    (getO d_api_Span r_51.1 0).bind fun x_54 =>
                    if icmpR .lss x_54.Low v_32 then
                      some true
                    else
                      (getO d_api_Span r_51.1 0).bind fun x_55 =>
                      (getO d_api_Span r_51.1 0).bind fun x_56 =>
                      some (icmpR .lss x_55.High x_56.Low)
                else
                  if !((icmpR .leq x_53.High v_15) == false) then
                    some true
                  else
                    (getO d_api_Span r_51.1 0).bind fun x_57 =>
                    if icmpR .lss x_57.Low v_32 then
                      some true
                    else
                      (getO d_api_Span r_51.1 0).bind fun x_58 =>
                      (getO d_api_Span r_51.1 0).bind fun x_59 =>
                      some (icmpR .lss x_58.High x_59.Low)
              else
                (getO d_api_Span r_51.1 0).bind fun x_60 =>
                if icmpR .lss x_60.Low v_32 then
                  some true
                else
                  (getO d_api_Span r_51.1 0).bind fun x_61 =>
                  (getO d_api_Span r_51.1 0).bind fun x_62 =>
                  some (icmpR .lss x_61.High x_62.Low)).bind fun q => match q with
        | v_52 =>
          if v_52 then
            some (.inr (.inl ()))
          else
            some (.inl (iopR .add .i64 v_32 1))
      else
        some (.inr (.inr ()))
def m_top_TopWindowDry (N : Nat) (p_1 : top_ElmMill) (p_2 : top_ElmSky) (p_3 : A4_u8) : Option (Bool) :=
  (m_top_ElmMill_made N p_1).bind fun r_4 =>
  (m_top_ElmSky_made N p_2).bind fun r_5 =>
  if r_4.1.Hammers ≠ 0 then
    (m_top_elmSpan N 50 50).bind fun r_6 =>
    (m_top_elmSpan N (iopR .quo .i64 (IntKind.wrap .i64 p_3.a2) 6) (iopR .add .i64 (iopR .quo .i64 (IntKind.wrap .i64 p_3.a2) 6) 2)).bind fun r_7 =>
    if (iopR .add .i64 ((r_5.length : Nat) : Int) 1) ≠ 0 then
      (m_top_elmSpans N r_4.2).bind fun r_8 =>
      (m_stream_Window N r_4.1 r_8 (iopR .add .i64 1 (iopR .rem .i64 (IntKind.wrap .i64 p_3.a0) r_4.1.Hammers)) (iopR .add .i64 1 (iopR .rem .i64 (IntKind.wrap .i64 p_3.a1) 6))).bind fun r_9 =>
      (m_top_elmOwn N (api_TenterField.mk [(api_TenterCloth.mk r_6 r_7)] [60] 0 0)).bind fun r_10 =>
      (m_top_elmSpans N r_5).bind fun r_11 =>
      (m_tenter_Late N r_10 r_11 0 (iopR .rem .i64 (IntKind.wrap .i64 p_3.a3) (iopR .add .i64 ((r_5.length : Nat) : Int) 1))).bind fun r_12 =>
      letO (iopR .add .i64 1 (iopR .rem .i64 (IntKind.wrap .i64 p_3.a1) 6) : Int) fun v_14 =>
      letO (iopR .rem .i64 (IntKind.wrap .i64 p_3.a3) (iopR .add .i64 ((r_5.length : Nat) : Int) 1) : Int) fun v_15 =>
      (show Option (Bool) from
        if icmpR .neq r_9.2 0 then
          if icmpR .neq r_9.2 7 then
            some true
          else
            if icmpR .neq r_9.1 0 then
              some true
            else
              if icmpR .neq r_12.2 0 then
                if icmpR .neq r_12.2 9 then
                  some true
                else
                  if icmpR .neq r_12.1 0 then
                    some true
                  else
                    if icmpR .lss r_9.1 0 then
                      some true
                    else
                      if icmpR .geq r_9.1 ((r_4.2.length : Nat) : Int) then
                        some true
                      else
                        if icmpR .lss r_12.1 0 then
                          some true
                        else
                          some (icmpR .gtr r_12.1 (iopR .rem .i64 (IntKind.wrap .i64 p_3.a3) (iopR .add .i64 ((r_5.length : Nat) : Int) 1)))
              else
                if icmpR .lss r_9.1 0 then
                  some true
                else
                  if icmpR .geq r_9.1 ((r_4.2.length : Nat) : Int) then
                    some true
                  else
                    if icmpR .lss r_12.1 0 then
                      some true
                    else
                      some (icmpR .gtr r_12.1 (iopR .rem .i64 (IntKind.wrap .i64 p_3.a3) (iopR .add .i64 ((r_5.length : Nat) : Int) 1)))
        else
          if icmpR .neq r_12.2 0 then
            if icmpR .neq r_12.2 9 then
              some true
            else
              if icmpR .neq r_12.1 0 then
                some true
              else
                if icmpR .lss r_9.1 0 then
                  some true
                else
                  if icmpR .geq r_9.1 ((r_4.2.length : Nat) : Int) then
                    some true
                  else
                    if icmpR .lss r_12.1 0 then
                      some true
                    else
                      some (icmpR .gtr r_12.1 (iopR .rem .i64 (IntKind.wrap .i64 p_3.a3) (iopR .add .i64 ((r_5.length : Nat) : Int) 1)))
          else
            if icmpR .lss r_9.1 0 then
              some true
            else
              if icmpR .geq r_9.1 ((r_4.2.length : Nat) : Int) then
                some true
              else
                if icmpR .lss r_12.1 0 then
                  some true
                else
                  some (icmpR .gtr r_12.1 (iopR .rem .i64 (IntKind.wrap .i64 p_3.a3) (iopR .add .i64 ((r_5.length : Nat) : Int) 1)))).bind fun q => match q with
      | v_13 =>
        if v_13 then
          some false
        else
          letO (iopR .add .i64 r_9.1 v_14 : Int) fun v_16 =>
          (loopO (m_top_TopWindowDry_L1 N r_9 r_5 r_6 r_7 v_15 r_12) N (iopR .add .i64 r_9.1 v_14)).bind fun q => match q with
          | (.inl ()) =>
            some false
          | (.inr ()) =>
            (show Option (Bool) from
              (m_top_elmWater N).bind fun r_64 =>
              if r_64 then
                (m_top_elmField N).bind fun r_65 =>
                some r_65
              else
                some false).bind fun q => match q with
            | v_63 =>
              some v_63
    else none
  else none
theorem w_top_TopWindowDry (N : Nat) (p_1 : top_ElmMill) (p_2 : top_ElmSky) (p_3 : A4_u8) (o : Bool) (h : m_top_TopWindowDry N p_1 p_2 p_3 = some o) :
    KC Try.prog 3 [.agg [.int .u8 p_1.Mill.a0, .int .u8 p_1.Mill.a1, .int .u8 p_1.Mill.a2, .int .u8 p_1.Mill.a3, .int .u8 p_1.Mill.a4, sl_A2_u8 false p_1.Flows], .agg [sl_A2_u8 false p_2.Hours], .agg [.int .u8 p_3.a0, .int .u8 p_3.a1, .int .u8 p_3.a2, .int .u8 p_3.a3]] (.bool o) [] := by
  unfold m_top_TopWindowDry at h
  refine con_l [] [1000007, 1000010, 1000013, 1000015] seat Try.func3 rfl ent_3 (by kernel_rfl) rfl rfl (by simp) ?_; intro base I hI; (conv => cbv)
  refine L_call hI h (fun v hv => w_top_ElmMill_made N p_1 v hv) (by subst_vars; exact ⟨(leD_refl _), rfl⟩) ?_; clear h; intro r_4 h; (conv => cbv)
  refine L_call hI h (fun v hv => w_top_ElmSky_made N p_2 v hv) (by subst_vars; exact ⟨(leD_refl _), rfl⟩) ?_; clear h; intro r_5 h; (conv => cbv)
  refine L_conj hI h (fun g => by subst_vars; exact g) ?_; clear h; intro hc h
  refine L_call hI h (fun v hv => w_top_elmSpan N 50 50 v hv) (by subst_vars; exact ⟨(leD_refl _), (leD_refl _), rfl⟩) ?_; clear h; intro r_6 h; (conv => cbv)
  refine L_call hI h (fun v hv => w_top_elmSpan N (iopR .quo .i64 (IntKind.wrap .i64 p_3.a2) 6) (iopR .add .i64 (iopR .quo .i64 (IntKind.wrap .i64 p_3.a2) 6) 2) v hv) (by subst_vars; exact ⟨(leD_refl _), (leD_refl _), rfl⟩) ?_; clear h; intro r_7 h; (conv => cbv)
  refine L_conj hI h (fun g => by subst_vars; exact g) ?_; clear h; intro hc h
  refine L_call hI h (fun v hv => w_top_elmSpans N r_4.2 v hv) (by subst_vars; exact ⟨(leD_refl _), rfl⟩) ?_; clear h; intro r_8 h; (conv => cbv)
  refine L_call hI h (fun v hv => w_stream_Window N r_4.1 r_8 (iopR .add .i64 1 (iopR .rem .i64 (IntKind.wrap .i64 p_3.a0) r_4.1.Hammers)) (iopR .add .i64 1 (iopR .rem .i64 (IntKind.wrap .i64 p_3.a1) 6)) v hv) (by subst_vars; exact ⟨(leD_refl _), (leD_refl _), (leD_refl _), (leD_refl _), rfl⟩) ?_; clear h; intro r_9 h; (conv => cbv)
  refine L_call hI h (fun v hv => w_top_elmOwn N (api_TenterField.mk [(api_TenterCloth.mk r_6 r_7)] [60] 0 0) v hv) (by subst_vars; exact ⟨⟨⟨.inl rfl, rfl, leDLL_refl _⟩, ⟨.inl rfl, rfl, leDLL_refl _⟩, (leD_refl _), (leD_refl _), rfl⟩, rfl⟩) ?_; clear h; intro r_10 h; (conv => cbv)
  refine L_call hI h (fun v hv => w_top_elmSpans N r_5 v hv) (by subst_vars; exact ⟨(leD_refl _), rfl⟩) ?_; clear h; intro r_11 h; (conv => cbv)
  refine L_call hI h (fun v hv => w_tenter_Late N r_10 r_11 0 (iopR .rem .i64 (IntKind.wrap .i64 p_3.a3) (iopR .add .i64 ((r_5.length : Nat) : Int) 1)) v hv) (by subst_vars; exact ⟨(leD_refl _), (leD_refl _), (leD_refl _), (leD_refl _), rfl⟩) ?_; clear h; intro r_12 h; (conv => cbv)
  replace h := letO_of h; obtain ⟨v_14, hev_14, h⟩ := h
  replace h := letO_of h; obtain ⟨v_15, hev_15, h⟩ := h
  refine L_cut hI seat [1000010, 1000013, 1000015] (by kernel_rfl) h (fun q => match q with | v_13 => .normal) (fun q => match q with | v_13 => ⟨194, [(9, sl_api_Span false r_5), (11, .int .i64 v_14), (12, .loc 4 0), (13, .int .i64 v_15), (14, .int .i64 r_9.1), (15, .int .i64 r_9.2), (16, .int .i64 r_12.1), (17, .int .i64 r_12.2), (120, .bool v_13)], [(4, ⟨43, [.slr true 4 [[.int .i64 r_6.Low, .int .i64 r_6.High, .int .i64 r_7.Low, .int .i64 r_7.High]], .slr true 1 [[.lit .i64 60]], .lit .i64 0, .lit .i64 0], true⟩)], [], 0⟩) ?_ ?_; all_goals clear h
  · intro x h R hR
    (conv => cbv)
    refine L_tst hI h (by subst_vars; rfl) ?_ ?_ <;> clear h <;> intro h
    · refine L_tst hI h (by subst_vars; rfl) ?_ ?_ <;> clear h <;> intro h
      · exact hR _ _ (Option.some.inj h).symm (by subst_vars; exact weak_l rfl rfl ⟨LV_sl, lE, lR, lE, lE, lE, lE, lE, lE, trivial⟩ ⟨lB ⟨lR, lR, lE, lE, rfl⟩, trivial⟩ trivial)
      · refine L_tst hI h (by subst_vars; rfl) ?_ ?_ <;> clear h <;> intro h
        · exact hR _ _ (Option.some.inj h).symm (by subst_vars; exact weak_l rfl rfl ⟨LV_sl, lE, lR, lE, lE, lE, lE, lE, lE, trivial⟩ ⟨lB ⟨lR, lR, lE, lE, rfl⟩, trivial⟩ trivial)
        · refine L_tst hI h (by subst_vars; rfl) ?_ ?_ <;> clear h <;> intro h
          · refine L_tst hI h (by subst_vars; rfl) ?_ ?_ <;> clear h <;> intro h
            · exact hR _ _ (Option.some.inj h).symm (by subst_vars; exact weak_l rfl rfl ⟨LV_sl, lE, lR, lE, lE, lE, lE, lE, lE, trivial⟩ ⟨lB ⟨lR, lR, lE, lE, rfl⟩, trivial⟩ trivial)
            · refine L_tst hI h (by subst_vars; rfl) ?_ ?_ <;> clear h <;> intro h
              · exact hR _ _ (Option.some.inj h).symm (by subst_vars; exact weak_l rfl rfl ⟨LV_sl, lE, lR, lE, lE, lE, lE, lE, lE, trivial⟩ ⟨lB ⟨lR, lR, lE, lE, rfl⟩, trivial⟩ trivial)
              · refine L_tst hI h (by subst_vars; rfl) ?_ ?_ <;> clear h <;> intro h
                · exact hR _ _ (Option.some.inj h).symm (by subst_vars; exact weak_l rfl rfl ⟨LV_sl, lE, lR, lE, lE, lE, lE, lE, lE, trivial⟩ ⟨lB ⟨lR, lR, lE, lE, rfl⟩, trivial⟩ trivial)
                · refine L_tst hI h (by subst_vars; rfl) ?_ ?_ <;> clear h <;> intro h
                  · exact hR _ _ (Option.some.inj h).symm (by subst_vars; exact weak_l rfl rfl ⟨LV_sl, lE, lR, lE, lE, lE, lE, lE, lE, trivial⟩ ⟨lB ⟨lR, lR, lE, lE, rfl⟩, trivial⟩ trivial)
                  · refine L_tst hI h (by subst_vars; rfl) ?_ ?_ <;> clear h <;> intro h
                    · exact hR _ _ (Option.some.inj h).symm (by subst_vars; exact weak_l rfl rfl ⟨LV_sl, lE, lR, lE, lE, lE, lE, lE, lE, trivial⟩ ⟨lB ⟨lR, lR, lE, lE, rfl⟩, trivial⟩ trivial)
                    · exact hR _ _ (Option.some.inj h).symm (by subst_vars; exact weak_l rfl rfl ⟨LV_sl, lE, lR, lE, lE, lE, lE, lE, lE, trivial⟩ ⟨lB ⟨lR, lR, lE, lE, rfl⟩, trivial⟩ trivial)
          · refine L_tst hI h (by subst_vars; rfl) ?_ ?_ <;> clear h <;> intro h
            · exact hR _ _ (Option.some.inj h).symm (by subst_vars; exact weak_l rfl rfl ⟨LV_sl, lE, lR, lE, lE, lE, lE, lE, lE, trivial⟩ ⟨lB ⟨lR, lR, lE, lE, rfl⟩, trivial⟩ trivial)
            · refine L_tst hI h (by subst_vars; rfl) ?_ ?_ <;> clear h <;> intro h
              · exact hR _ _ (Option.some.inj h).symm (by subst_vars; exact weak_l rfl rfl ⟨LV_sl, lE, lR, lE, lE, lE, lE, lE, lE, trivial⟩ ⟨lB ⟨lR, lR, lE, lE, rfl⟩, trivial⟩ trivial)
              · refine L_tst hI h (by subst_vars; rfl) ?_ ?_ <;> clear h <;> intro h
                · exact hR _ _ (Option.some.inj h).symm (by subst_vars; exact weak_l rfl rfl ⟨LV_sl, lE, lR, lE, lE, lE, lE, lE, lE, trivial⟩ ⟨lB ⟨lR, lR, lE, lE, rfl⟩, trivial⟩ trivial)
                · exact hR _ _ (Option.some.inj h).symm (by subst_vars; exact weak_l rfl rfl ⟨LV_sl, lE, lR, lE, lE, lE, lE, lE, lE, trivial⟩ ⟨lB ⟨lR, lR, lE, lE, rfl⟩, trivial⟩ trivial)
    · refine L_tst hI h (by subst_vars; rfl) ?_ ?_ <;> clear h <;> intro h
      · refine L_tst hI h (by subst_vars; rfl) ?_ ?_ <;> clear h <;> intro h
        · exact hR _ _ (Option.some.inj h).symm (by subst_vars; exact weak_l rfl rfl ⟨LV_sl, lE, lR, lE, lE, lE, lE, lE, lE, trivial⟩ ⟨lB ⟨lR, lR, lE, lE, rfl⟩, trivial⟩ trivial)
        · refine L_tst hI h (by subst_vars; rfl) ?_ ?_ <;> clear h <;> intro h
          · exact hR _ _ (Option.some.inj h).symm (by subst_vars; exact weak_l rfl rfl ⟨LV_sl, lE, lR, lE, lE, lE, lE, lE, lE, trivial⟩ ⟨lB ⟨lR, lR, lE, lE, rfl⟩, trivial⟩ trivial)
          · refine L_tst hI h (by subst_vars; rfl) ?_ ?_ <;> clear h <;> intro h
            · exact hR _ _ (Option.some.inj h).symm (by subst_vars; exact weak_l rfl rfl ⟨LV_sl, lE, lR, lE, lE, lE, lE, lE, lE, trivial⟩ ⟨lB ⟨lR, lR, lE, lE, rfl⟩, trivial⟩ trivial)
            · refine L_tst hI h (by subst_vars; rfl) ?_ ?_ <;> clear h <;> intro h
              · exact hR _ _ (Option.some.inj h).symm (by subst_vars; exact weak_l rfl rfl ⟨LV_sl, lE, lR, lE, lE, lE, lE, lE, lE, trivial⟩ ⟨lB ⟨lR, lR, lE, lE, rfl⟩, trivial⟩ trivial)
              · refine L_tst hI h (by subst_vars; rfl) ?_ ?_ <;> clear h <;> intro h
                · exact hR _ _ (Option.some.inj h).symm (by subst_vars; exact weak_l rfl rfl ⟨LV_sl, lE, lR, lE, lE, lE, lE, lE, lE, trivial⟩ ⟨lB ⟨lR, lR, lE, lE, rfl⟩, trivial⟩ trivial)
                · exact hR _ _ (Option.some.inj h).symm (by subst_vars; exact weak_l rfl rfl ⟨LV_sl, lE, lR, lE, lE, lE, lE, lE, lE, trivial⟩ ⟨lB ⟨lR, lR, lE, lE, rfl⟩, trivial⟩ trivial)
      · refine L_tst hI h (by subst_vars; rfl) ?_ ?_ <;> clear h <;> intro h
        · exact hR _ _ (Option.some.inj h).symm (by subst_vars; exact weak_l rfl rfl ⟨LV_sl, lE, lR, lE, lE, lE, lE, lE, lE, trivial⟩ ⟨lB ⟨lR, lR, lE, lE, rfl⟩, trivial⟩ trivial)
        · refine L_tst hI h (by subst_vars; rfl) ?_ ?_ <;> clear h <;> intro h
          · exact hR _ _ (Option.some.inj h).symm (by subst_vars; exact weak_l rfl rfl ⟨LV_sl, lE, lR, lE, lE, lE, lE, lE, lE, trivial⟩ ⟨lB ⟨lR, lR, lE, lE, rfl⟩, trivial⟩ trivial)
          · refine L_tst hI h (by subst_vars; rfl) ?_ ?_ <;> clear h <;> intro h
            · exact hR _ _ (Option.some.inj h).symm (by subst_vars; exact weak_l rfl rfl ⟨LV_sl, lE, lR, lE, lE, lE, lE, lE, lE, trivial⟩ ⟨lB ⟨lR, lR, lE, lE, rfl⟩, trivial⟩ trivial)
            · exact hR _ _ (Option.some.inj h).symm (by subst_vars; exact weak_l rfl rfl ⟨LV_sl, lE, lR, lE, lE, lE, lE, lE, lE, trivial⟩ ⟨lB ⟨lR, lR, lE, lE, rfl⟩, trivial⟩ trivial)
  · intro v_13 h
    (conv => cbv)
    refine L_tst hI h (by subst_vars; rfl) ?_ ?_ <;> clear h <;> intro h
    · cases h
      subst_vars
      exact ⟨lE, rfl⟩
    · replace h := letO_of h; obtain ⟨v_16, hev_16, h⟩ := h
      refine L_loop hI seat [1000007, 1000010, 1000013, 1000015] (by kernel_rfl) h (fun q => match q with | v_32 => ⟨194, [(9, sl_api_Span false r_5), (12, .loc 4 0), (13, .int .i64 v_15), (15, .int .i64 r_9.2), (16, .int .i64 r_12.1), (17, .int .i64 r_12.2), (18, .int .i64 v_32)], [(4, ⟨43, [.slr true 4 [[.int .i64 r_6.Low, .int .i64 r_6.High, .int .i64 r_7.Low, .int .i64 r_7.High]], .slr true 1 [[.lit .i64 60]], .lit .i64 0, .lit .i64 0], true⟩)], [], 0⟩) (fun q => match q with | (.inl ()) => .ret | (.inr ()) => .exit 0) (fun q => match q with | (.inl ()) => ⟨194, [(6, .ff)], [], [], 0⟩ | (.inr ()) => ⟨194, [], [], [], 0⟩) (by subst_vars; exact weak_l rfl rfl ⟨LV_sl, lR, lE, lE, lE, lE, lE, trivial⟩ ⟨lB ⟨lR, lR, lE, lE, rfl⟩, trivial⟩ trivial) (by intro q; rcases q with (_ | _) <;> (intro e; exact Exit.noConfusion e)) ?_ ?_; all_goals clear h
      · intro v_32 x h R hR hX
        rw [m_top_TopWindowDry_L1] at h
        (conv => cbv)
        refine L_cut hI seat [1000007, 1000013, 1000015] (by kernel_rfl) h (fun q => match q with | v_48 => .normal) (fun q => match q with | v_48 => ⟨194, [(9, sl_api_Span false r_5), (12, .loc 4 0), (13, .int .i64 v_15), (15, .int .i64 r_9.2), (16, .int .i64 r_12.1), (17, .int .i64 r_12.2), (18, .int .i64 v_32), (131, .bool v_48)], [(4, ⟨43, [.slr true 4 [[.int .i64 r_6.Low, .int .i64 r_6.High, .int .i64 r_7.Low, .int .i64 r_7.High]], .slr true 1 [[.lit .i64 60]], .lit .i64 0, .lit .i64 0], true⟩)], [], 0⟩) ?_ ?_; all_goals clear h
        · intro x h R hR
          (conv => cbv)
          refine L_tst hI h (by subst_vars; rfl) ?_ ?_ <;> clear h <;> intro h
          · exact hR _ _ (Option.some.inj h).symm (by subst_vars; exact weak_l rfl rfl ⟨LV_sl, lR, lE, lE, lE, lE, lE, lE, trivial⟩ ⟨lB ⟨lR, lR, lE, lE, rfl⟩, trivial⟩ trivial)
          · exact hR _ _ (Option.some.inj h).symm (by subst_vars; exact weak_l rfl rfl ⟨LV_sl, lR, lE, lE, lE, lE, lE, lE, trivial⟩ ⟨lB ⟨lR, lR, lE, lE, rfl⟩, trivial⟩ trivial)
        · intro v_48 h
          (conv => cbv)
          refine L_tst hI h (by subst_vars; rfl) ?_ ?_ <;> clear h <;> intro h
          · refine L_call hI h (fun v hv => w_top_elmOwn N (api_TenterField.mk [(api_TenterCloth.mk r_6 r_7)] [60] 0 0) v hv) (by subst_vars; exact ⟨⟨⟨.inl rfl, rfl, leDLL_refl _⟩, ⟨.inl rfl, rfl, leDLL_refl _⟩, (leD_refl _), (leD_refl _), rfl⟩, rfl⟩) ?_; clear h; intro r_49 h; (conv => cbv)
            refine L_call hI h (fun v hv => w_top_elmSpans N r_5 v hv) (by subst_vars; exact ⟨(leD_refl _), rfl⟩) ?_; clear h; intro r_50 h; (conv => cbv)
            refine L_call hI h (fun v hv => w_tenter_Dry N r_49 r_50 v_32 v hv) (by subst_vars; exact ⟨(leD_refl _), (leD_refl _), (leD_refl _), rfl⟩) ?_; clear h; intro r_51 h; (conv => cbv)
            refine L_cut hI seat [1000007, 1000010, 1000015] (by kernel_rfl) h (fun q => match q with | v_52 => .normal) (fun q => match q with | v_52 => ⟨194, [(9, sl_api_Span false r_5), (12, .loc 4 0), (13, .int .i64 v_15), (15, .int .i64 r_9.2), (16, .int .i64 r_12.1), (17, .int .i64 r_12.2), (18, .int .i64 v_32), (189, .bool v_52)], [(4, ⟨43, [.slr true 4 [[.int .i64 r_6.Low, .int .i64 r_6.High, .int .i64 r_7.Low, .int .i64 r_7.High]], .slr true 1 [[.lit .i64 60]], .lit .i64 0, .lit .i64 0], true⟩)], [], 0⟩) ?_ ?_; all_goals clear h
            · intro x h R hR
              (conv => cbv)
              refine L_tst hI h (by subst_vars; rfl) ?_ ?_ <;> clear h <;> intro h
              · exact hR _ _ (Option.some.inj h).symm (by subst_vars; exact weak_l rfl rfl ⟨LV_sl, lR, lE, lE, lE, lE, lE, lE, trivial⟩ ⟨lB ⟨lR, lR, lE, lE, rfl⟩, trivial⟩ trivial)
              · refine L_tst hI h (by subst_vars; rfl) ?_ ?_ <;> clear h <;> intro h
                · exact hR _ _ (Option.some.inj h).symm (by subst_vars; exact weak_l rfl rfl ⟨LV_sl, lR, lE, lE, lE, lE, lE, lE, trivial⟩ ⟨lB ⟨lR, lR, lE, lE, rfl⟩, trivial⟩ trivial)
                · refine L_tst hI h (by subst_vars; rfl) ?_ ?_ <;> clear h <;> intro h
                  · refine L_get hI h (fun g => by subst_vars; exact g) ?_; clear h; intro hc x_53 hxx_53 h
                    refine L_tst hI h (by subst_vars; rfl) ?_ ?_ <;> clear h <;> intro h
                    · refine L_tst hI h (by subst_vars; rfl) ?_ ?_ <;> clear h <;> intro h
                      · exact hR _ _ (Option.some.inj h).symm (by subst_vars; exact weak_l rfl rfl ⟨LV_sl, lR, lE, lE, lE, lE, lE, lE, trivial⟩ ⟨lB ⟨lR, lR, lE, lE, rfl⟩, trivial⟩ trivial)
                      · refine L_get hI h (fun g => by subst_vars; exact g) ?_; clear h; intro hc x_54 hxx_54 h
                        refine L_tst hI h (by subst_vars; rfl) ?_ ?_ <;> clear h <;> intro h
                        · exact hR _ _ (Option.some.inj h).symm (by subst_vars; exact weak_l rfl rfl ⟨LV_sl, lR, lE, lE, lE, lE, lE, lE, trivial⟩ ⟨lB ⟨lR, lR, lE, lE, rfl⟩, trivial⟩ trivial)
                        · refine L_get hI h (fun g => by subst_vars; exact g) ?_; clear h; intro hc x_55 hxx_55 h
                          refine L_get hI h (fun g => by subst_vars; exact g) ?_; clear h; intro hc x_56 hxx_56 h
                          exact hR _ _ (Option.some.inj h).symm (by subst_vars; exact weak_l rfl rfl ⟨LV_sl, lR, lE, lE, lE, lE, lE, lE, trivial⟩ ⟨lB ⟨lR, lR, lE, lE, rfl⟩, trivial⟩ trivial)
                    · refine L_tst hI h (by subst_vars; rfl) ?_ ?_ <;> clear h <;> intro h
                      · exact hR _ _ (Option.some.inj h).symm (by subst_vars; exact weak_l rfl rfl ⟨LV_sl, lR, lE, lE, lE, lE, lE, lE, trivial⟩ ⟨lB ⟨lR, lR, lE, lE, rfl⟩, trivial⟩ trivial)
                      · refine L_get hI h (fun g => by subst_vars; exact g) ?_; clear h; intro hc x_57 hxx_57 h
                        refine L_tst hI h (by subst_vars; rfl) ?_ ?_ <;> clear h <;> intro h
                        · exact hR _ _ (Option.some.inj h).symm (by subst_vars; exact weak_l rfl rfl ⟨LV_sl, lR, lE, lE, lE, lE, lE, lE, trivial⟩ ⟨lB ⟨lR, lR, lE, lE, rfl⟩, trivial⟩ trivial)
                        · refine L_get hI h (fun g => by subst_vars; exact g) ?_; clear h; intro hc x_58 hxx_58 h
                          refine L_get hI h (fun g => by subst_vars; exact g) ?_; clear h; intro hc x_59 hxx_59 h
                          exact hR _ _ (Option.some.inj h).symm (by subst_vars; exact weak_l rfl rfl ⟨LV_sl, lR, lE, lE, lE, lE, lE, lE, trivial⟩ ⟨lB ⟨lR, lR, lE, lE, rfl⟩, trivial⟩ trivial)
                  · refine L_get hI h (fun g => by subst_vars; exact g) ?_; clear h; intro hc x_60 hxx_60 h
                    refine L_tst hI h (by subst_vars; rfl) ?_ ?_ <;> clear h <;> intro h
                    · exact hR _ _ (Option.some.inj h).symm (by subst_vars; exact weak_l rfl rfl ⟨LV_sl, lR, lE, lE, lE, lE, lE, lE, trivial⟩ ⟨lB ⟨lR, lR, lE, lE, rfl⟩, trivial⟩ trivial)
                    · refine L_get hI h (fun g => by subst_vars; exact g) ?_; clear h; intro hc x_61 hxx_61 h
                      refine L_get hI h (fun g => by subst_vars; exact g) ?_; clear h; intro hc x_62 hxx_62 h
                      exact hR _ _ (Option.some.inj h).symm (by subst_vars; exact weak_l rfl rfl ⟨LV_sl, lR, lE, lE, lE, lE, lE, lE, trivial⟩ ⟨lB ⟨lR, lR, lE, lE, rfl⟩, trivial⟩ trivial)
            · intro v_52 h
              (conv => cbv)
              refine L_tst hI h (by subst_vars; rfl) ?_ ?_ <;> clear h <;> intro h
              · exact hX _ _ (Option.some.inj h).symm (by subst_vars; exact weak_l rfl rfl ⟨lE, trivial⟩ trivial trivial)
              · exact hR _ _ (Option.some.inj h).symm (by subst_vars; exact weak_l rfl rfl ⟨LV_sl, lR, lE, lE, lE, lE, lE, trivial⟩ ⟨lB ⟨lR, lR, lE, lE, rfl⟩, trivial⟩ trivial)
          · exact hX _ _ (Option.some.inj h).symm (by subst_vars; exact weak_l rfl rfl trivial trivial trivial)
      · intro q h
        rcases q with (_ | _)
        · (conv => cbv)
          cases h
          subst_vars
          exact ⟨lE, rfl⟩
        · (conv => cbv)
          refine L_cut hI seat [1000007, 1000010, 1000013] (by kernel_rfl) h (fun q => match q with | v_63 => .normal) (fun q => match q with | v_63 => ⟨194, [(6, .bool v_63)], [], [], 0⟩) ?_ ?_; all_goals clear h
          · intro x h R hR
            (conv => cbv)
            refine L_call hI h (fun v hv => w_top_elmWater N v hv) (by subst_vars; exact rfl) ?_; clear h; intro r_64 h; (conv => cbv)
            refine L_tst hI h (by subst_vars; rfl) ?_ ?_ <;> clear h <;> intro h
            · refine L_call hI h (fun v hv => w_top_elmField N v hv) (by subst_vars; exact rfl) ?_; clear h; intro r_65 h; (conv => cbv)
              exact hR _ _ (Option.some.inj h).symm (by subst_vars; exact weak_l rfl rfl ⟨lE, trivial⟩ trivial trivial)
            · exact hR _ _ (Option.some.inj h).symm (by subst_vars; exact weak_l rfl rfl ⟨lE, trivial⟩ trivial trivial)
          · intro v_63 h
            (conv => cbv)
            cases h
            subst_vars
            exact ⟨lE, rfl⟩
end
end Go.Proofs.Ytgefdljjhmjdaaa.Aw

/- Plain: rules for what is printed: checks, iterators that end. -/
namespace Go.Proofs.Ytgefdljjhmjdaaa.Aw
open Go Go.RowKit Go.Proofs
set_option linter.unusedSimpArgs false
set_option linter.unusedVariables false
/-- The round of slices.IndexFunc. -/
def idxStep {α : Type} (d : α) (n : Int) (s : List α) (f : α → Option Bool) : Int → Option (Int ⊕ (Int ⊕ Unit)) := fun i =>
  if icmpR .lss i n then
    (getO d s i).bind fun x => (f x).bind fun v => if v then some (.inr (.inl i)) else some (.inl (iopR .add .i64 i 1))
  else some (.inr (.inr ()))
theorem idx_any {α : Type} {d : α} {s : List α} {f : α → Option Bool} {g : α → Bool} (N : Nat) (hN : 2000000 ≤ N) (hl : s.length ≤ 1000000) (hf : ∀ x ∈ s, f x = some (g x)) :
    ∃ q, loopO (idxStep d ((s.length : Nat) : Int) s f) N 0 = some q ∧ (match q with | .inl i => s.any g = true ∧ 0 ≤ i | .inr _ => s.any g = false) := by
  refine loopO_of (fun i : Int => 0 ≤ i ∧ i ≤ s.length ∧ s.any g = (s.drop i.toNat).any g) (fun i => (s.length - i).toNat) _ (fun i hi => ?_) N 0 ⟨by omega, by omega, by simp⟩ (by omega)
  obtain ⟨i0, i1, i2⟩ := hi
  by_cases hc : i < (s.length : Int)
  · have hlt : i.toNat < s.length := by omega
    have hget : s.getD i.toNat d = s[i.toNat] := by simp [List.getD_eq_getElem?_getD, hlt]
    have hm : s.getD i.toNat d ∈ s := by rw [hget]; exact List.getElem_mem hlt
    rw [List.drop_eq_getElem_cons hlt, ← hget, List.any_cons] at i2
    simp only [idxStep, icmp_lss, decide_eq_true_eq, if_pos hc, getO_of (d := d) i0 hc, bindS, hf _ hm]
    cases hg : g (s.getD i.toNat d) with
    | true =>
      right
      rw [if_pos rfl]
      exact ⟨_, rfl, by rw [i2, hg]; rfl, i0⟩
    | false =>
      left
      rw [if_neg (by simp), addW (by omega)]
      refine ⟨i + 1, rfl, ⟨by omega, by omega, ?_⟩, by omega⟩
      rw [i2, hg, Bool.false_or, show (i + 1).toNat = i.toNat + 1 from by omega]
  · right
    simp only [idxStep, icmp_lss, decide_eq_true_eq, if_neg hc]
    exact ⟨_, rfl, by rw [i2, List.drop_eq_nil_of_le (by omega)]; rfl⟩
/-- slices.ContainsFunc, as printed. -/
def contF {α : Type} (d : α) (N : Nat) (s : List α) (f : α → Option Bool) : Option Bool :=
  (letO (((s.length : Nat) : Int) : Int) fun n => (loopO (idxStep d n s f) N 0).bind fun q => match q with
    | .inl i => some i
    | .inr _ => some (-1)).bind fun r => some (icmpR .geq r 0)
theorem contF_eq {α : Type} {d : α} {s : List α} {f : α → Option Bool} {g : α → Bool} (N : Nat) (hN : 2000000 ≤ N) (hl : s.length ≤ 1000000) (hf : ∀ x ∈ s, f x = some (g x)) : contF d N s f = some (s.any g) := by
  unfold contF
  rw [letO_eq]
  obtain ⟨q, hq, hp⟩ := idx_any (d := d) N hN hl hf
  rw [hq, bindS]
  cases q with
  | inl i =>
    simp only at hp
    simp only [bindS, icmp_geq]
    rw [hp.1]; simp [hp.2]
  | inr u =>
    simp only at hp
    simp only [bindS, icmp_geq]
    rw [hp]; rfl
/-- Loops that never stop short: they end, if each round does. -/
theorem loopY_tot {Y σ ρ : Type} {step : σ → Option (List Y × (σ ⊕ ρ))} (inv : σ → Prop) (m : σ → Nat)
    (h : ∀ s, inv s → ∃ ys x, step s = some (ys, x) ∧ ∀ s', x = .inl s' → inv s' ∧ m s' < m s) : ∀ (n : Nat) (s : σ), inv s → m s < n → ∃ ys q, loopY step n s = some (ys, q)
  | 0, s, _, hm => by omega
  | n + 1, s, hi, hm => by
    obtain ⟨ys, x, e, hx⟩ := h s hi
    rw [loopY, e]
    cases x with
    | inr q => exact ⟨ys, q, rfl⟩
    | inl s' =>
      obtain ⟨h1, h2⟩ := hx s' rfl
      obtain ⟨zs, q, e2⟩ := loopY_tot inv m h n s' h1 (by omega)
      simp only
      rw [e2]
      exact ⟨ys ++ zs, q, rfl⟩
theorem rangeO_tot {υ σ ρ : Type} {step : υ → σ → Option (σ ⊕ ρ)} (h : ∀ y s, ∃ x, step y s = some x) : ∀ (ys : List υ) (s : σ), ∃ q, rangeO step ys s = some q
  | [], s => ⟨_, rfl⟩
  | y :: r, s => by
    obtain ⟨x, e⟩ := h y s
    rw [rangeO, e]
    cases x with
    | inl s' => exact rangeO_tot h r s'
    | inr q => exact ⟨_, rfl⟩
end Go.Proofs.Ytgefdljjhmjdaaa.Aw

/- What comes in, for the statements of the top: bytes, read as data. -/
namespace Go.Proofs.Ytgefdljjhmjdaaa.Aw
open Go Go.RowKit Go.Proofs
set_option maxRecDepth 100000
set_option linter.unusedSimpArgs false
set_option linter.unusedVariables false
theorem Try.own : ownKnob Try.prog.godebug = none := by kernel_rfl
theorem Try.laidOut : laidOutB Try.prog = true := by kernel_rfl
def u8ok (n : Int) : Prop := 0 ≤ n ∧ n ≤ 255
theorem rows_of {α : Type} {g : α → List D} {p : α → Prop} : ∀ {rows : List (List D)}, (∀ row ∈ rows, ∃ a, row = g a ∧ p a) → ∃ l : List α, rows = l.map g ∧ ∀ a ∈ l, p a
  | [], _ => ⟨[], rfl, fun a h => by cases h⟩
  | row :: r, h => by
    obtain ⟨a, e, hp⟩ := h row (by simp)
    obtain ⟨l, e2, hl⟩ := rows_of (g := g) (p := p) (rows := r) (fun x hx => h x (List.mem_cons_of_mem _ hx))
    refine ⟨a :: l, by rw [e, e2]; rfl, fun b hb => ?_⟩
    rcases List.mem_cons.1 hb with rfl | hb
    · exact hp
    · exact hl b hb
def shU : Sh := .int .u8
theorem fit_U {xs : List D} (h : shU.Fit xs) : ∃ n : Int, xs = [.int .u8 n] ∧ u8ok n := by
  unfold shU Sh.Fit at h
  obtain ⟨n, rfl, h1, h2⟩ := h
  exact ⟨n, rfl, h1, h2⟩
def shA2 : Sh := .agg [shU, shU]
theorem fit_A2 {xs : List D} (h : shA2.Fit xs) : ∃ v : A2_u8, xs = rowD 2 0 (fun j => (e_A2_u8 v j).toD) ∧ u8ok v.a0 ∧ u8ok v.a1 := by
  unfold shA2 Sh.Fit at h
  simp only [Sh.FitL] at h
  obtain ⟨a1, b1, rfl, h1, a2, b2, rfl, h2, rfl⟩ := h
  obtain ⟨v0, rfl, k0⟩ := fit_U h1
  obtain ⟨v1, rfl, k1⟩ := fit_U h2
  exact ⟨⟨v0, v1⟩, rfl, k0, k1⟩
def shA4 : Sh := .agg [shU, shU, shU, shU]
theorem fit_A4 {xs : List D} (h : shA4.Fit xs) : ∃ v : A4_u8, xs = KV.toDL (c_A4_u8 v) ∧ u8ok v.a0 ∧ u8ok v.a1 ∧ u8ok v.a2 ∧ u8ok v.a3 := by
  unfold shA4 Sh.Fit at h
  simp only [Sh.FitL] at h
  obtain ⟨a, b, rfl, ha, c, d, rfl, hc, e, f, rfl, he, g, i, rfl, hg, rfl⟩ := h
  obtain ⟨x, rfl, hx⟩ := fit_U ha
  obtain ⟨y, rfl, hy⟩ := fit_U hc
  obtain ⟨z, rfl, hz⟩ := fit_U he
  obtain ⟨u, rfl, hu⟩ := fit_U hg
  exact ⟨⟨x, y, z, u⟩, rfl, hx, hy, hz, hu⟩
def shA5 : Sh := .agg [shU, shU, shU, shU, shU]
theorem fit_A5 {xs : List D} (h : shA5.Fit xs) : ∃ v : A5_u8, xs = KV.toDL (c_A5_u8 v) ∧ u8ok v.a0 ∧ u8ok v.a1 ∧ u8ok v.a2 ∧ u8ok v.a3 ∧ u8ok v.a4 := by
  unfold shA5 Sh.Fit at h
  simp only [Sh.FitL] at h
  obtain ⟨a, b, rfl, ha, c, d, rfl, hc, e, f, rfl, he, g, i, rfl, hg, j, k, rfl, hj, rfl⟩ := h
  obtain ⟨x, rfl, hx⟩ := fit_U ha
  obtain ⟨y, rfl, hy⟩ := fit_U hc
  obtain ⟨z, rfl, hz⟩ := fit_U he
  obtain ⟨u, rfl, hu⟩ := fit_U hg
  obtain ⟨t, rfl, ht⟩ := fit_U hj
  exact ⟨⟨x, y, z, u, t⟩, rfl, hx, hy, hz, hu, ht⟩
def shElmMill : Sh := .agg [shA5, .sl shA2]
theorem fit_ElmMill {xs : List D} (h : shElmMill.Fit xs) : ∃ x : top_ElmMill, shElmMill.arg xs = (k_top_ElmMill x).toD ∧ (u8ok x.Mill.a0 ∧ u8ok x.Mill.a1 ∧ u8ok x.Mill.a2 ∧ u8ok x.Mill.a3 ∧ u8ok x.Mill.a4) ∧ ∀ v ∈ x.Flows, u8ok v.a0 ∧ u8ok v.a1 := by
  unfold shElmMill Sh.Fit at h
  simp only [Sh.FitL] at h
  obtain ⟨a, b, rfl, ha, c, d, rfl, hc, rfl⟩ := h
  obtain ⟨m, rfl, hm⟩ := fit_A5 ha
  unfold Sh.Fit at hc
  obtain ⟨rc, rfl, lc, hc⟩ := hc
  obtain ⟨l, rfl, hl⟩ := rows_of (fun row hr => fit_A2 (hc row hr))
  exact ⟨⟨m, l⟩, rfl, hm, hl⟩
def shElmSky : Sh := .agg [.sl shA2]
theorem fit_ElmSky {xs : List D} (h : shElmSky.Fit xs) : ∃ x : top_ElmSky, shElmSky.arg xs = (k_top_ElmSky x).toD ∧ ∀ v ∈ x.Hours, u8ok v.a0 ∧ u8ok v.a1 := by
  unfold shElmSky Sh.Fit at h
  simp only [Sh.FitL] at h
  obtain ⟨c, d, rfl, hc, rfl⟩ := h
  unfold Sh.Fit at hc
  obtain ⟨rc, rfl, lc, hc⟩ := hc
  obtain ⟨l, rfl, hl⟩ := rows_of (fun row hr => fit_A2 (hc row hr))
  exact ⟨⟨l⟩, rfl, hl⟩
end Go.Proofs.Ytgefdljjhmjdaaa.Aw

/- Plain: TopWindowDry, its inputs, the water. -/
namespace Go.Proofs.Ytgefdljjhmjdaaa.Aw
open Go Go.RowKit Go.Proofs
set_option linter.unusedSimpArgs false
set_option linter.unusedVariables false
theorem cf_int (N : Nat) (s : List Int) (f : Int → Option Bool) : m_slices_ContainsFunc_Lint_int N s f = contF 0 N s f := rfl
theorem cf_span (N : Nat) (s : List api_Span) (f : api_Span → Option Bool) : m_slices_ContainsFunc_Lapi_Span_api_Span N s f = contF d_api_Span N s f := rfl
theorem cf_cloth (N : Nat) (s : List api_TenterCloth) (f : api_TenterCloth → Option Bool) : m_slices_ContainsFunc_Lapi_TenterCloth_api_TenterCloth N s f = contF d_api_TenterCloth N s f := rfl
theorem sw1 (N : Nat) (n a b : Int) : m_stream_within_1 N n a b = some (decide (n < a) || decide (n > b)) := by
  unfold m_stream_within_1
  simp only [icmp_lss, icmp_gtr, decide_eq_true_eq]
  by_cases h : n < a <;> simp [h]
theorem sw_ok (N : Nat) (hN : 2000000 ≤ N) {a b : Int} {l : List Int} (hl : l.length ≤ 1000000) (h : ∀ n ∈ l, a ≤ n ∧ n ≤ b) : m_stream_within N a b l = some true := by
  unfold m_stream_within
  rw [cf_int, contF_eq N hN hl (fun x _ => sw1 N x a b), bindS]
  have : (l.any fun n => decide (n < a) || decide (n > b)) = false := by
    rw [List.any_eq_false]
    intro n hn
    have := h n hn
    simp; omega
  rw [this]; rfl
theorem tw_ok (N : Nat) (hN : 2000000 ≤ N) {a b : Int} {l : List Int} (hl : l.length ≤ 1000000) (h : ∀ n ∈ l, a ≤ n ∧ n ≤ b) : m_tenter_within N a b l = some true := sw_ok N hN hl h
theorem ss_ok (N : Nat) (hN : 2000000 ≤ N) {s : api_Span} {a b : Int} (h1 : a ≤ s.Low) (h2 : s.Low ≤ s.High) (h3 : s.High ≤ b) : m_stream_isSpan N s a b = some true := by
  unfold m_stream_isSpan
  rw [sw_ok N hN (by simp) (by intro n hn; simp only [List.mem_cons, List.not_mem_nil, or_false] at hn; omega)]
  simp [icmp_leq, h2]
theorem ts_ok (N : Nat) (hN : 2000000 ≤ N) {s : api_Span} {a b : Int} (h1 : a ≤ s.Low) (h2 : s.Low ≤ s.High) (h3 : s.High ≤ b) : m_tenter_isSpan N s a b = some true := ss_ok N hN h1 h2 h3
/-! What is made of bytes. -/
structure MillOk (m : api_StreamMill) : Prop where
  ham : 1 ≤ m.Hammers ∧ m.Hammers ≤ 8
  tak : 0 ≤ m.Takes ∧ m.Takes ≤ 100
  blo : 0 ≤ m.Blows.Low ∧ m.Blows.Low ≤ m.Blows.High ∧ m.Blows.High ≤ 5000
  hol : 0 ≤ m.Holds ∧ m.Holds ≤ 500
  now : 0 ≤ m.Now.Low ∧ m.Now.Low ≤ m.Now.High ∧ m.Now.High ≤ m.Holds
def SpOk (b : Int) (s : api_Span) : Prop := 0 ≤ s.Low ∧ s.Low ≤ s.High ∧ s.High ≤ b
theorem made_mill (N : Nat) (hN : 2000000 ≤ N) (p : top_ElmMill) (h : u8ok p.Mill.a0 ∧ u8ok p.Mill.a1 ∧ u8ok p.Mill.a2 ∧ u8ok p.Mill.a3 ∧ u8ok p.Mill.a4) (hf : ∀ v ∈ p.Flows, u8ok v.a0 ∧ u8ok v.a1) :
    ∃ m l, m_top_ElmMill_made N p = some (m, l) ∧ MillOk m ∧ 1 ≤ l.length ∧ l.length ≤ 12 ∧ ∀ s ∈ l, SpOk 500 s := by
  obtain ⟨⟨a0, a1⟩, ⟨b0, b1⟩, ⟨c0, c1⟩, ⟨d0, d1⟩, e0, e1⟩ := h
  obtain ⟨q, hq, hp⟩ := loopO_of (step := m_top_ElmMill_made_L1 N p) (fun s => 0 ≤ s.1 ∧ s.1 ≤ 12 ∧ (s.2.length : Int) = s.1 ∧ ∀ x ∈ s.2, SpOk 500 x) (fun s => (12 - s.1).toNat) (fun q => 1 ≤ q.length ∧ q.length ≤ 12 ∧ ∀ x ∈ q, SpOk 500 x) (fun s hi => by
    obtain ⟨i, l⟩ := s
    obtain ⟨i0, i1, i2, i3⟩ := hi
    simp only at i0 i1 i2 i3
    by_cases hgo : i = 0 ∨ (i < (p.Flows.length : Int) ∧ i < 12)
    · left
      have hc : (if icmpR .eql i 0 = true then some true else if icmpR .lss i ((p.Flows.length : Nat) : Int) = true then some (icmpR .lss i 12) else some false) = some true := by
        simp only [icmp_eql, icmp_lss, decide_eq_true_eq]
        rcases hgo with h | ⟨h1, h2⟩
        · rw [if_pos h]
        · by_cases h0 : i = 0
          · rw [if_pos h0]
          · rw [if_neg h0, if_pos h1, decide_eq_true h2]
      obtain ⟨a, b, hab, ha, hb⟩ : ∃ a b, (if icmpR .lss i ((p.Flows.length : Nat) : Int) = true then (getO d_A2_u8 p.Flows i).bind fun x => some (x.a0, x.a1) else some (20, 4)) = some (a, b) ∧ u8ok a ∧ u8ok b := by
        simp only [icmp_lss, decide_eq_true_eq]
        by_cases h1 : i < (p.Flows.length : Int)
        · rw [if_pos h1, getO_of (d := d_A2_u8) i0 h1, bindS]
          have hm : p.Flows.getD i.toNat d_A2_u8 ∈ p.Flows := by
            rw [List.getD_eq_getElem?_getD, List.getElem?_eq_getElem (by omega)]; exact List.getElem_mem _
          exact ⟨_, _, rfl, (hf _ hm).1, (hf _ hm).2⟩
        · rw [if_neg h1]; exact ⟨_, _, rfl, ⟨by omega, by omega⟩, ⟨by omega, by omega⟩⟩
      obtain ⟨a2, a3⟩ := ha
      obtain ⟨b2, b3⟩ := hb
      have hfit : fitsN (l.length + 1) 16 := ⟨by omega, by omega⟩
      simp only [m_top_ElmMill_made_L1, hc, bindS, if_true, hab, m_top_elmSpan, if_pos hfit]
      rw [wrap_i64 (n := a) (by omega), wrap_i64 (n := b) (by omega), remW (by omega), remW (by omega), addW (by omega), addW (by omega)]
      refine ⟨_, rfl, ⟨by simp only; omega, by simp only; omega, by simp only [List.length_append, List.length_singleton]; omega, fun x hx => ?_⟩, by simp only; omega⟩
      rcases List.mem_append.1 hx with hx | hx
      · exact i3 x hx
      · rw [List.mem_singleton] at hx
        subst hx
        exact ⟨by simp only; omega, by simp only; omega, by simp only; omega⟩
    · right
      have hc : (if icmpR .eql i 0 = true then some true else if icmpR .lss i ((p.Flows.length : Nat) : Int) = true then some (icmpR .lss i 12) else some false) = some false := by
        simp only [icmp_eql, icmp_lss, decide_eq_true_eq]
        rw [if_neg (by omega)]
        by_cases h1 : i < (p.Flows.length : Int)
        · rw [if_pos h1, decide_eq_false (by omega)]
        · rw [if_neg h1]
      simp only [m_top_ElmMill_made_L1, hc, bindS, Bool.false_eq_true, if_false]
      exact ⟨_, rfl, by omega, by omega, i3⟩) N (0, []) ⟨by simp, by simp, by simp, by simp⟩ (by simp only; omega)
  unfold m_top_ElmMill_made
  simp only [m_top_elmSpan, bindS, letO_eq, hq]
  refine ⟨_, _, rfl, ?_, hp⟩
  rw [wrap_i64 (n := p.Mill.a0) (by omega), wrap_i64 (n := p.Mill.a1) (by omega), wrap_i64 (n := p.Mill.a2) (by omega), wrap_i64 (n := p.Mill.a3) (by omega), wrap_i64 (n := p.Mill.a4) (by omega), remW (by omega), remW (by omega), remW (by omega), addW (by omega), addW (by omega), addW (by omega)]
  exact ⟨by simp only; omega, by simp only; omega, by simp only; omega, by simp only; omega, by simp only; omega⟩
theorem made_sky (N : Nat) (hN : 2000000 ≤ N) (p : top_ElmSky) (hf : ∀ v ∈ p.Hours, u8ok v.a0 ∧ u8ok v.a1) :
    ∃ l, m_top_ElmSky_made N p = some l ∧ 1 ≤ l.length ∧ l.length ≤ 16 ∧ ∀ s ∈ l, SpOk 68 s := by
  obtain ⟨q, hq, hp⟩ := loopO_of (step := m_top_ElmSky_made_L1 N p) (fun s => 0 ≤ s.1 ∧ s.1 ≤ 16 ∧ (s.2.length : Int) = s.1 ∧ ∀ x ∈ s.2, SpOk 68 x) (fun s => (16 - s.1).toNat) (fun q => 1 ≤ q.length ∧ q.length ≤ 16 ∧ ∀ x ∈ q, SpOk 68 x) (fun s hi => by
    obtain ⟨i, l⟩ := s
    obtain ⟨i0, i1, i2, i3⟩ := hi
    simp only at i0 i1 i2 i3
    by_cases hgo : i = 0 ∨ (i < (p.Hours.length : Int) ∧ i < 16)
    · left
      have hc : (if icmpR .eql i 0 = true then some true else if icmpR .lss i ((p.Hours.length : Nat) : Int) = true then some (icmpR .lss i 16) else some false) = some true := by
        simp only [icmp_eql, icmp_lss, decide_eq_true_eq]
        rcases hgo with h | ⟨h1, h2⟩
        · rw [if_pos h]
        · by_cases h0 : i = 0
          · rw [if_pos h0]
          · rw [if_neg h0, if_pos h1, decide_eq_true h2]
      obtain ⟨a, b, hab, ha, hb⟩ : ∃ a b, (if icmpR .lss i ((p.Hours.length : Nat) : Int) = true then (getO d_A2_u8 p.Hours i).bind fun x => some (x.a0, x.a1) else some (15, 5)) = some (a, b) ∧ u8ok a ∧ u8ok b := by
        simp only [icmp_lss, decide_eq_true_eq]
        by_cases h1 : i < (p.Hours.length : Int)
        · rw [if_pos h1, getO_of (d := d_A2_u8) i0 h1, bindS]
          have hm : p.Hours.getD i.toNat d_A2_u8 ∈ p.Hours := by
            rw [List.getD_eq_getElem?_getD, List.getElem?_eq_getElem (by omega)]; exact List.getElem_mem _
          exact ⟨_, _, rfl, (hf _ hm).1, (hf _ hm).2⟩
        · rw [if_neg h1]; exact ⟨_, _, rfl, ⟨by omega, by omega⟩, ⟨by omega, by omega⟩⟩
      obtain ⟨a2, a3⟩ := ha
      obtain ⟨b2, b3⟩ := hb
      have hfit : fitsN (l.length + 1) 16 := ⟨by omega, by omega⟩
      simp only [m_top_ElmSky_made_L1, hc, bindS, if_true, hab, m_top_elmSpan, if_pos hfit]
      rw [wrap_i64 (n := a) (by omega), wrap_i64 (n := b) (by omega), remW (by omega), remW (by omega), addW (by omega), addW (by omega)]
      refine ⟨_, rfl, ⟨by simp only; omega, by simp only; omega, by simp only [List.length_append, List.length_singleton]; omega, fun x hx => ?_⟩, by simp only; omega⟩
      rcases List.mem_append.1 hx with hx | hx
      · exact i3 x hx
      · rw [List.mem_singleton] at hx
        subst hx
        exact ⟨by simp only; omega, by simp only; omega, by simp only; omega⟩
    · right
      have hc : (if icmpR .eql i 0 = true then some true else if icmpR .lss i ((p.Hours.length : Nat) : Int) = true then some (icmpR .lss i 16) else some false) = some false := by
        simp only [icmp_eql, icmp_lss, decide_eq_true_eq]
        rw [if_neg (by omega)]
        by_cases h1 : i < (p.Hours.length : Int)
        · rw [if_pos h1, decide_eq_false (by omega)]
        · rw [if_neg h1]
      simp only [m_top_ElmSky_made_L1, hc, bindS, Bool.false_eq_true, if_false]
      exact ⟨_, rfl, by omega, by omega, i3⟩) N (0, []) ⟨by simp, by simp, by simp, by simp⟩ (by simp only; omega)
  unfold m_top_ElmSky_made
  simp only [hq, bindS]
  exact ⟨_, rfl, hp⟩
/-! The water: some hour comes out, or none. -/
theorem dry_tot (N : Nat) (hN : 2000000 ≤ N) (v : stream_valley) (plan : List Int) (hl : plan.length = v.flows.length) (h24 : v.flows.length ≤ 24) : ∃ r, m_stream_valley_dry N v plan (fun x => m_stream_low N x) = some r := by
  obtain ⟨ys, q, hq⟩ := loopY_tot (step := m_stream_valley_tides_1_L1 N ((plan.length : Nat) : Int) plan v (fun x => m_stream_low N x)) (fun s => 0 ≤ s.2) (fun s => (plan.length - s.2).toNat) (fun s hi => by
    obtain ⟨w, i⟩ := s
    simp only at hi
    by_cases hc : i < (plan.length : Int)
    · simp only [m_stream_valley_tides_1_L1, icmp_lss, decide_eq_true_eq, if_pos hc, getO_of (d := (0 : Int)) hi hc, getO_of (d := d_api_Span) (l := v.flows) hi (by omega), bindS, m_stream_low, yieldO]
      split
      · exact ⟨_, _, rfl, fun s' e => by cases e⟩
      · refine ⟨_, _, rfl, fun s' e => ?_⟩
        cases e
        rw [addW (a := i) (b := 1) (by omega)]
        exact ⟨by simp only; omega, by simp only; omega⟩
    · simp only [m_stream_valley_tides_1_L1, icmp_lss, decide_eq_true_eq, if_neg hc]
      exact ⟨_, _, rfl, fun s' e => by cases e⟩) N (v.StreamMill.Now.Low, 0) (by simp) (by simp only; omega)
  unfold m_stream_valley_dry m_stream_valley_tides m_it_stream_valley_tides_1 m_stream_valley_tides_1
  simp only [m_stream_low, bindS, letO_eq, thenY]
  simp only [m_stream_low] at hq
  rw [hq]
  have hr := rangeO_tot (step := m_stream_valley_dry_L1 N) (fun y s => by
    unfold m_stream_valley_dry_L1
    cases s
    simp only
    split
    · exact ⟨_, rfl⟩
    · exact ⟨_, rfl⟩)
  obtain ⟨x, hx⟩ := hr (ys ++ []) ()
  cases q with
  | inl u =>
    simp only [bindS, hx]
    cases x with
    | inl u => exact ⟨_, rfl⟩
    | inr i => exact ⟨_, rfl⟩
  | inr u =>
    simp only [bindS, hx]
    cases x with
    | inl u => exact ⟨_, rfl⟩
    | inr i => exact ⟨_, rfl⟩
theorem lasts_tot (N : Nat) (hN : 2000000 ≤ N) (v : stream_valley) (h24 : v.flows.length ≤ 24) (ham : Int) {from_ : Int} (h0 : 0 ≤ from_) (h1 : from_ ≤ v.flows.length) : ∃ r, m_stream_valley_lasts N v ham from_ (fun x => m_stream_low N x) = some r := by
  obtain ⟨q, hq, hp⟩ := loopO_of (step := m_stream_valley_lasts_L1 N ham) (fun s => 0 ≤ s.1 ∧ s.1 ≤ v.flows.length ∧ s.2.length = v.flows.length) (fun s => (v.flows.length - s.1).toNat) (fun q => q.length = v.flows.length) (fun s hi => by
    obtain ⟨i, l⟩ := s
    obtain ⟨i0, i1, i2⟩ := hi
    simp only at i0 i1 i2
    by_cases hc : i < (l.length : Int)
    · left
      simp only [m_stream_valley_lasts_L1, icmp_lss, decide_eq_true_eq, if_pos hc, if_pos (And.intro i0 hc), letO_eq]
      rw [addW (by omega)]
      exact ⟨_, rfl, ⟨by simp only; omega, by simp only; omega, by simp only [List.length_set]; omega⟩, by simp only; omega⟩
    · right
      simp only [m_stream_valley_lasts_L1, icmp_lss, decide_eq_true_eq, if_neg hc]
      exact ⟨_, rfl, i2⟩) N (from_, List.replicate ((v.flows.length : Nat) : Int).toNat 0) ⟨h0, h1, by simp⟩ (by simp only; omega)
  obtain ⟨r, hr⟩ := dry_tot N hN v q hp h24
  have hm : mkOk ((v.flows.length : Nat) : Int) 8 := by unfold mkOk; omega
  unfold m_stream_valley_lasts
  rw [if_pos hm, letO_eq, hq, bindS]
  simp only [hr, bindS]
  split
  · exact ⟨_, rfl⟩
  · exact ⟨_, rfl⟩
theorem open_ok (N : Nat) (hN : 2000000 ≤ N) {m : api_StreamMill} {l : List api_Span} (hm : MillOk m) (h1 : 1 ≤ l.length) (h2 : l.length ≤ 24) (hl : ∀ s ∈ l, SpOk 500 s) : m_stream_open N m l = some (⟨m, l⟩, 0) := by
  have k1 : m_stream_checkMill N m = some 0 := by
    unfold m_stream_checkMill
    rw [sw_ok N hN (by simp) (by intro n hn; simp only [List.mem_singleton] at hn; have := hm.ham; omega), bindS]
    rw [sw_ok N hN (by simp) (by intro n hn; simp only [List.mem_singleton] at hn; have := hm.tak; omega), bindS]
    rw [ss_ok N hN hm.blo.1 hm.blo.2.1 hm.blo.2.2, bindS]
    rw [sw_ok N hN (by simp) (by intro n hn; simp only [List.mem_singleton] at hn; have := hm.hol; omega), bindS]
    rw [ss_ok N hN hm.now.1 hm.now.2.1 hm.now.2.2, bindS]
    rfl
  unfold m_stream_open m_stream_Check
  rw [k1, bindS]
  have k2 : ∀ x ∈ l, m_stream_Check_1 N x = some false := fun x hx => by
    unfold m_stream_Check_1
    obtain ⟨g1, g2, g3⟩ := hl x hx
    rw [ss_ok N hN g1 g2 g3]; rfl
  rw [cf_span, contF_eq N hN (by omega) k2, bindS]
  have k3 : l.any (fun _ => false) = false := by simp
  rw [k3]
  have c1 : ¬ ((l.length : Nat) : Int) > 24 := by omega
  have c2 : ¬ ((l.length : Nat) : Int) = 0 := by omega
  simp only [icmp_neq, icmp_gtr, icmp_eql, decide_eq_true_eq]
  rw [if_neg (by simp), if_neg c1, if_neg c2]; rfl
theorem window_is (N : Nat) (hN : 2000000 ≤ N) {m : api_StreamMill} {l : List api_Span} (hm : MillOk m) (h1 : 1 ≤ l.length) (h2 : l.length ≤ 24) (hl : ∀ s ∈ l, SpOk 500 s) {ham hours : Int} (hh : 1 ≤ ham ∧ ham ≤ m.Hammers) (ho : 1 ≤ hours ∧ hours ≤ 24) :
    ∃ at_ e, m_stream_Window N m l ham hours = some (at_, e) ∧ ((e = 0 ∧ 0 ≤ at_ ∧ at_ < l.length) ∨ (e = 7 ∧ at_ = 0)) := by
  obtain ⟨q, hq, hp⟩ := loopO_of (step := m_stream_Window_L1 N ((l.length : Nat) : Int) (⟨m, l⟩, 0) ham hours) (fun i => 0 ≤ i ∧ i ≤ l.length) (fun i => (l.length - i).toNat) (fun q => ∀ i, q = .inl i → 0 ≤ i ∧ i < l.length) (fun i hi => by
    obtain ⟨i0, i1⟩ := hi
    by_cases hc : i < (l.length : Int)
    · obtain ⟨r, hr⟩ := lasts_tot N hN ⟨m, l⟩ h2 ham i0 i1
      simp only [m_stream_Window_L1, icmp_lss, decide_eq_true_eq, if_pos hc, hr, bindS]
      split
      · right; exact ⟨_, rfl, fun j e => by cases e; exact ⟨i0, hc⟩⟩
      · left
        rw [addW (by omega)]
        exact ⟨_, rfl, ⟨by omega, by omega⟩, by omega⟩
    · right
      simp only [m_stream_Window_L1, icmp_lss, decide_eq_true_eq, if_neg hc]
      exact ⟨_, rfl, fun j e => by cases e⟩) N 0 ⟨by omega, by omega⟩ (by omega)
  unfold m_stream_Window
  rw [open_ok N hN hm h1 h2 hl, bindS]
  dsimp only
  rw [if_neg (by simp [icmp_neq]), sw_ok N hN (by simp) (by intro n hn; simp only [List.mem_singleton] at hn; omega), bindS]
  rw [sw_ok N hN (by simp) (by intro n hn; simp only [List.mem_singleton] at hn; omega)]
  simp only [Bool.not_true, Bool.false_eq_true, if_false, bindS, letO_eq, hq]
  cases q with
  | inl i =>
    obtain ⟨g1, g2⟩ := hp i rfl
    exact ⟨_, _, rfl, .inl ⟨rfl, g1, g2⟩⟩
  | inr u => exact ⟨_, _, rfl, .inr ⟨rfl, rfl⟩⟩
end Go.Proofs.Ytgefdljjhmjdaaa.Aw

/- Plain: TopWindowDry, the weather, and the statement. -/
namespace Go.Proofs.Ytgefdljjhmjdaaa.Aw
open Go Go.RowKit Go.Proofs
set_option linter.unusedSimpArgs false
set_option linter.unusedVariables false
/-- How much k hours dry, from hour a on. -/
def dS (g : api_Span → Int) (w : List api_Span) (a : Nat) : Nat → Int
  | 0 => 0
  | k + 1 => dS g w a k + g (w.getD (a + k) d_api_Span)
theorem dS_head {g : api_Span → Int} {w : List api_Span} : ∀ {k a : Nat}, dS g w a (k + 1) = g (w.getD a d_api_Span) + dS g w (a + 1) k
  | 0, a => by simp [dS]
  | k + 1, a => by
    rw [dS, dS_head, dS, show a + (k + 1) = a + 1 + k from by omega]; omega
theorem getD_ok2 {w : List api_Span} (hw : ∀ s ∈ w, SpOk 68 s) (i : Nat) : SpOk 68 (w.getD i d_api_Span) := by
  by_cases h : i < w.length
  · rw [List.getD_eq_getElem?_getD, List.getElem?_eq_getElem h]; exact hw _ (List.getElem_mem h)
  · rw [List.getD_eq_getElem?_getD, List.getElem?_eq_none (by omega)]; exact ⟨by decide, by decide, by decide⟩
theorem dS_range {g : api_Span → Int} {w : List api_Span} (hg : ∀ i, 0 ≤ g (w.getD i d_api_Span) ∧ g (w.getD i d_api_Span) ≤ 68) {a : Nat} : ∀ k : Nat, 0 ≤ dS g w a k ∧ dS g w a k ≤ 68 * k
  | 0 => by simp [dS]
  | k + 1 => by
    have := dS_range hg (a := a) k
    have := hg (a + k)
    rw [dS]; omega
theorem dS_mono {g : api_Span → Int} {w : List api_Span} (hg : ∀ i, 0 ≤ g (w.getD i d_api_Span) ∧ g (w.getD i d_api_Span) ≤ 68) {a k : Nat} : ∀ {j : Nat}, k ≤ j → dS g w a k ≤ dS g w a j
  | 0, h => by
    have : k = 0 := by omega
    subst this; omega
  | j + 1, h => by
    by_cases e : k = j + 1
    · subst e; omega
    · have := dS_mono hg (a := a) (k := k) (j := j) (by omega)
      have := hg (a + j)
      rw [dS]; omega
theorem dS_le {g f : api_Span → Int} {w : List api_Span} (h : ∀ i, g (w.getD i d_api_Span) ≤ f (w.getD i d_api_Span)) {a : Nat} : ∀ k : Nat, dS g w a k ≤ dS f w a k
  | 0 => by simp [dS]
  | k + 1 => by
    have := dS_le h (a := a) k
    have := h (a + k)
    rw [dS, dS]; omega
/-- The first hour at which all is dry. -/
def FirstDry (g : api_Span → Int) (w : List api_Span) (water : Int) (a : Nat) (r : Int) : Prop :=
  (∃ i : Nat, a + i ≤ w.length ∧ r = (a : Int) + i ∧ water - dS g w a i ≤ 0 ∧ ∀ j : Nat, j < i → water - dS g w a j > 0) ∨ (r = w.length + 1 ∧ ∀ j : Nat, a + j ≤ w.length → water - dS g w a j > 0)
theorem dried_is (N : Nat) (hN : 2000000 ≤ N) {f : api_TenterField} {w : List api_Span} {g : api_Span → Int} (hw : w.length ≤ 100) (hg : ∀ i, 0 ≤ g (w.getD i d_api_Span) ∧ g (w.getD i d_api_Span) ≤ 68) {a : Nat} (ha : a ≤ w.length) {water : Int} (h0 : 0 ≤ water) (h1 : water ≤ 500) {e : api_Span → Option Int} (he : ∀ s, e s = some (g s)) :
    ∃ r, m_tenter_forecast_dried N ⟨f, w⟩ (a : Int) water e = some r ∧ FirstDry g w water a r := by
  have hlen : ((w.take ((w.length : Nat) : Int).toNat).drop (a : Int).toNat) = w.drop a := by
    rw [List.take_of_length_le (by omega)]; rfl
  have hl2 : (w.drop a).length = w.length - a := by simp
  have hget : ∀ i : Nat, (w.drop a).getD i d_api_Span = w.getD (a + i) d_api_Span := fun i => by
    rw [List.getD_eq_getElem?_getD, List.getD_eq_getElem?_getD, List.getElem?_drop]
  obtain ⟨q, hq, hp⟩ := loopO_of (step := m_tenter_forecast_dried_L1 N (((w.drop a).length : Nat) : Int) (w.drop a) (a : Int) e) (fun s => 0 ≤ s.2 ∧ s.2 ≤ ((w.drop a).length : Nat) ∧ s.1 = water - dS g w a s.2.toNat ∧ ∀ j : Nat, j < s.2.toNat → water - dS g w a j > 0) (fun s => ((w.drop a).length - s.2).toNat)
    (fun q => match q with
      | .inl r => FirstDry g w water a r
      | .inr x => x = water - dS g w a (w.length - a) ∧ ∀ j : Nat, j < w.length - a → water - dS g w a j > 0) (fun s hi => by
    obtain ⟨x, i⟩ := s
    obtain ⟨i0, i1, i2, i3⟩ := hi
    simp only at i0 i1 i2 i3
    by_cases hc : i < ((w.drop a).length : Nat)
    · simp only [m_tenter_forecast_dried_L1, icmp_lss, icmp_leq, decide_eq_true_eq, if_pos hc, getO_of (d := d_api_Span) i0 hc, bindS, he]
      by_cases hx : x ≤ 0
      · right
        rw [if_pos hx, addW (by omega)]
        refine ⟨_, rfl, .inl ⟨i.toNat, by omega, by omega, by omega, i3⟩⟩
      · left
        rw [if_neg hx, hget]
        have hr := dS_range hg (a := a) i.toNat
        have hgi := hg (a + i.toNat)
        rw [subW (by omega), addW (by omega)]
        refine ⟨_, rfl, ⟨by simp only; omega, by simp only; omega, ?_, fun j hj => ?_⟩, by simp only; omega⟩
        · simp only
          rw [show (i + 1).toNat = i.toNat + 1 from by omega, dS]; omega
        · simp only at hj
          by_cases ej : j = i.toNat
          · subst ej; omega
          · exact i3 j (by omega)
    · right
      simp only [m_tenter_forecast_dried_L1, icmp_lss, decide_eq_true_eq, if_neg hc]
      have ei : i.toNat = w.length - a := by omega
      rw [ei] at i2 i3
      exact ⟨_, rfl, i2, i3⟩) N (water, 0) ⟨by simp, by simp, by simp [dS], by simp⟩ (by simp only; omega)
  unfold m_tenter_forecast_dried
  rw [if_pos (by omega), if_pos (by simp only; omega), if_pos (by simp only; omega)]
  simp only [hlen, letO_eq, hq, bindS]
  cases q with
  | inl r => exact ⟨_, rfl, hp⟩
  | inr x =>
    obtain ⟨p1, p2⟩ := hp
    simp only [icmp_leq, decide_eq_true_eq]
    by_cases hx : x ≤ 0
    · rw [if_pos hx]
      exact ⟨_, rfl, .inl ⟨w.length - a, by omega, by omega, by omega, p2⟩⟩
    · rw [if_neg hx, addW (by omega)]
      refine ⟨_, rfl, .inr ⟨rfl, fun j hj => ?_⟩⟩
      by_cases ej : j = w.length - a
      · subst ej; omega
      · exact p2 j (by omega)
/-- What Late says. -/
def LateIs (w : List api_Span) (water : Int) (rain : Nat) (r : Int) : Prop :=
  (∃ l : Nat, l ≤ rain ∧ r = l ∧ water - dS (·.Low) w l (rain - l) ≤ 0 ∧ ∀ h : Nat, l < h → h ≤ rain → water - dS (·.Low) w h (rain - h) > 0) ∨ (r = -1 ∧ ∀ h : Nat, h ≤ rain → water - dS (·.Low) w h (rain - h) > 0)
theorem late_is (N : Nat) (hN : 2000000 ≤ N) {f : api_TenterField} {w : List api_Span} (hw : w.length ≤ 100) (hok : ∀ s ∈ w, SpOk 68 s) {rain : Nat} (hr : rain ≤ w.length) {c : api_TenterCloth} (hc : f.Cloths = [c]) (h0 : 0 ≤ c.Water.High) (h1 : c.Water.High ≤ 500) :
    ∃ r, m_tenter_forecast_late N ⟨f, w⟩ 0 (rain : Int) = some r ∧ LateIs w c.Water.High rain r := by
  have hg : ∀ i, 0 ≤ (w.getD i d_api_Span).Low ∧ (w.getD i d_api_Span).Low ≤ 68 := fun i => by
    obtain ⟨g1, g2, g3⟩ := getD_ok2 hok i; omega
  obtain ⟨q, hq, hp⟩ := loopO_of (step := m_tenter_forecast_late_L1 N ⟨f, w⟩) (fun s => 0 ≤ s.2 ∧ s.2 ≤ rain ∧ s.1 = c.Water.High - dS (·.Low) w s.2.toNat (rain - s.2.toNat) ∧ ∀ h : Nat, s.2.toNat < h → h ≤ rain → c.Water.High - dS (·.Low) w h (rain - h) > 0) (fun s => s.2.toNat) (fun q => LateIs w c.Water.High rain q) (fun s hi => by
    obtain ⟨x, i⟩ := s
    obtain ⟨i0, i1, i2, i3⟩ := hi
    simp only at i0 i1 i2 i3
    by_cases hgo : x ≤ 0 ∨ i = 0
    · right
      have hcd : (if icmpR .leq x 0 = true then some true else some (icmpR .eql i 0)) = some true := by
        simp only [icmp_leq, icmp_eql, decide_eq_true_eq]
        rcases hgo with h | h
        · rw [if_pos h]
        · by_cases h2 : x ≤ 0
          · rw [if_pos h2]
          · rw [if_neg h2, decide_eq_true h]
      simp only [m_tenter_forecast_late_L1, hcd, bindS, if_true, icmp_gtr, decide_eq_true_eq]
      by_cases hx : x > 0
      · rw [if_pos hx]
        have e0 : i = 0 := by omega
        subst e0
        refine ⟨_, rfl, .inr ⟨rfl, fun h hh => ?_⟩⟩
        by_cases eh : h = 0
        · subst eh; simp only [Int.toNat_zero] at i2; omega
        · exact i3 h (by simp; omega) hh
      · rw [if_neg hx]
        exact ⟨_, rfl, .inl ⟨i.toNat, by omega, by omega, by omega, i3⟩⟩
    · left
      have hcd : (if icmpR .leq x 0 = true then some true else some (icmpR .eql i 0)) = some false := by
        simp only [icmp_leq, icmp_eql, decide_eq_true_eq]
        rw [if_neg (by omega), decide_eq_false (by omega)]
      simp only [m_tenter_forecast_late_L1, hcd, bindS, Bool.false_eq_true, if_false]
      rw [subW (a := i) (b := 1) (by omega), getO_of (d := d_api_Span) (by omega) (by omega), bindS]
      have hrng : 0 ≤ dS (fun x => x.Low) w i.toNat (rain - i.toNat) ∧ dS (fun x => x.Low) w i.toNat (rain - i.toNat) ≤ 68 * ((rain - i.toNat : Nat) : Int) := dS_range hg (a := i.toNat) (rain - i.toNat)
      have hgi := hg (i - 1).toNat
      rw [subW (by omega)]
      refine ⟨_, rfl, ⟨by simp only; omega, by simp only; omega, ?_, fun h h2 h3 => ?_⟩, by simp only; omega⟩
      · simp only
        rw [show rain - (i - 1).toNat = (rain - i.toNat) + 1 from by omega, dS_head, show (i - 1).toNat + 1 = i.toNat from by omega]; omega
      · simp only at h2
        by_cases eh : h = i.toNat
        · subst eh; omega
        · exact i3 h (by omega) h3) N (c.Water.High, (rain : Int)) ⟨by simp, by simp, by simp [dS], fun h h2 h3 => by simp at h2; omega⟩ (by simp only; omega)
  unfold m_tenter_forecast_late
  simp only [hc]
  rw [getO_of (d := d_api_TenterCloth) (by omega) (by simp), bindS]
  simp only [Int.toNat_zero, List.getD_cons_zero, hq, bindS]
  exact ⟨_, rfl, hp⟩
/-- The field of the statement. -/
def fld (water : Int) : api_TenterField := ⟨[⟨⟨50, 50⟩, ⟨water, water + 2⟩⟩], [60], 0, 0⟩
theorem check_fld (N : Nat) (hN : 2000000 ≤ N) {water : Int} (h0 : 0 ≤ water) (h1 : water ≤ 100) : m_tenter_Check N (fld water) = some 0 := by
  unfold m_tenter_Check
  have k : ∀ x ∈ (fld water).Cloths, m_tenter_Check_1 N x = some false := fun x hx => by
    simp only [fld, List.mem_singleton] at hx
    subst hx
    unfold m_tenter_Check_1
    rw [ts_ok N hN (by simp only; omega) (by simp only; omega) (by simp only; omega), bindS]
    rw [ts_ok N hN (by simp only; omega) (by simp only; omega) (by simp only; omega)]; rfl
  have hF : (fld water).Frames = [60] := rfl
  have hG : (fld water).Gap = 0 := rfl
  have hS : (fld water).Stretch = 0 := rfl
  have hC : ((fld water).Cloths.length : Int) = 1 := rfl
  have hFl : (((fld water).Frames.length : Nat) : Int) = 1 := rfl
  rw [hC, if_neg (by simp [icmp_gtr]), hFl, tw_ok N hN (by simp) (by intro n hn; simp only [List.mem_singleton] at hn; omega), bindS]
  rw [cf_cloth, contF_eq N hN (by simp [fld]) k, bindS]
  have k3 : (fld water).Cloths.any (fun _ => false) = false := by simp
  rw [k3, hF, hG, hS]
  rw [tw_ok N hN (by simp) (by intro n hn; simp only [List.mem_singleton] at hn; omega)]
  rw [tw_ok N hN (by simp) (by intro n hn; simp only [List.mem_singleton] at hn; omega)]
  rw [tw_ok N hN (by simp) (by intro n hn; simp only [List.mem_singleton] at hn; omega)]
  rfl
theorem forecast_ok (N : Nat) (hN : 2000000 ≤ N) {water : Int} (h0 : 0 ≤ water) (h1 : water ≤ 100) {w : List api_Span} (w1 : 1 ≤ w.length) (w2 : w.length ≤ 16) (hok : ∀ s ∈ w, SpOk 68 s) {h : Int} (h2 : 0 ≤ h) (h3 : h ≤ w.length) :
    m_tenter_newForecast N (fld water) w h = some (⟨fld water, w⟩, 0) := by
  unfold m_tenter_newForecast
  have k : ∀ x ∈ w, m_tenter_newForecast_1 N x = some false := fun x hx => by
    unfold m_tenter_newForecast_1
    obtain ⟨g1, g2, g3⟩ := hok x hx
    rw [ts_ok N hN g1 g2 (by omega)]; rfl
  rw [check_fld N hN h0 h1, bindS, if_neg (by simp [icmp_neq])]
  rw [tw_ok N hN (by simp) (by intro n hn; simp only [List.mem_singleton] at hn; omega), bindS]
  rw [cf_span, contF_eq N hN (by omega) k, bindS]
  have k3 : w.any (fun _ => false) = false := by simp
  rw [k3]
  rw [tw_ok N hN (by simp) (by intro n hn; simp only [List.mem_singleton] at hn; omega)]
  rfl
theorem own_fld (N : Nat) (water : Int) : m_top_elmOwn N (fld water) = some (fld water) := by
  unfold m_top_elmOwn
  rw [if_pos (by unfold fitsN; simp [fld]), if_pos (by unfold fitsN; simp [fld])]
theorem spans_ok (N : Nat) {w : List api_Span} (h : w.length ≤ 16) : m_top_elmSpans N w = some w := by
  unfold m_top_elmSpans
  rw [if_pos (by unfold fitsN; omega)]
theorem Late_is (N : Nat) (hN : 2000000 ≤ N) {water : Int} (h0 : 0 ≤ water) (h1 : water ≤ 100) {w : List api_Span} (w1 : 1 ≤ w.length) (w2 : w.length ≤ 16) (hok : ∀ s ∈ w, SpOk 68 s) {rain : Nat} (hr : rain ≤ w.length) :
    ∃ late e, m_tenter_Late N (fld water) w 0 (rain : Int) = some (late, e) ∧ ((e = 0 ∧ ∃ l : Nat, late = l ∧ LateIs w (water + 2) rain l) ∨ (e = 9 ∧ late = 0 ∧ LateIs w (water + 2) rain (-1))) := by
  obtain ⟨r, hq, hp⟩ := late_is N hN (f := fld water) (w := w) (by omega) hok hr (c := ⟨⟨50, 50⟩, ⟨water, water + 2⟩⟩) rfl (by simp only; omega) (by simp only; omega)
  unfold m_tenter_Late
  rw [forecast_ok N hN h0 h1 w1 w2 hok (by omega) (by omega), bindS]
  dsimp only
  rw [if_neg (by simp [icmp_neq])]
  unfold m_tenter_isCloth
  have hC : (((fld water).Cloths.length : Nat) : Int) = 1 := rfl
  rw [hC, subW (by omega), tw_ok N hN (by simp) (by intro n hn; simp only [List.mem_singleton] at hn; omega), bindS, bindS, if_neg (by simp), hq, bindS]
  simp only [icmp_geq, decide_eq_true_eq]
  by_cases h : r ≥ 0
  · rw [if_pos h]
    refine ⟨_, _, rfl, .inl ⟨rfl, r.toNat, by omega, ?_⟩⟩
    rw [show ((r.toNat : Nat) : Int) = r from by omega]; exact hp
  · rw [if_neg h]
    refine ⟨_, _, rfl, .inr ⟨rfl, rfl, ?_⟩⟩
    rcases hp with ⟨l, _, h3, _⟩ | ⟨h3, h4⟩
    · omega
    · exact .inr ⟨rfl, h4⟩
theorem Dry_is (N : Nat) (hN : 2000000 ≤ N) {water : Int} (h0 : 0 ≤ water) (h1 : water ≤ 100) {w : List api_Span} (w1 : 1 ≤ w.length) (w2 : w.length ≤ 16) (hok : ∀ s ∈ w, SpOk 68 s) {a : Nat} (ha : a ≤ w.length) :
    ∃ lo hi, m_tenter_Dry N (fld water) w (a : Int) = some ([⟨lo, hi⟩], 0) ∧ FirstDry (·.High) w water a lo ∧ FirstDry (·.Low) w (water + 2) a hi := by
  have hgL : ∀ i, 0 ≤ (w.getD i d_api_Span).Low ∧ (w.getD i d_api_Span).Low ≤ 68 := fun i => by
    obtain ⟨g1, g2, g3⟩ := getD_ok2 hok i; omega
  have hgH : ∀ i, 0 ≤ (w.getD i d_api_Span).High ∧ (w.getD i d_api_Span).High ≤ 68 := fun i => by
    obtain ⟨g1, g2, g3⟩ := getD_ok2 hok i; omega
  obtain ⟨lo, q1, p1⟩ := dried_is N hN (f := fld water) (g := (·.High)) (by omega) hgH ha (water := water) h0 (by omega) (e := fun x0 => m_tenter_high N x0) (fun s => rfl)
  obtain ⟨hi, q2, p2⟩ := dried_is N hN (f := fld water) (g := (·.Low)) (by omega) hgL ha (water := water + 2) (by omega) (by omega) (e := fun x0 => m_tenter_low N x0) (fun s => rfl)
  have hd : m_tenter_forecast_dry N ⟨fld water, w⟩ 0 (a : Int) = some ⟨lo, hi⟩ := by
    unfold m_tenter_forecast_dry
    rw [getO_of (d := d_api_TenterCloth) (by omega) (by simp [fld]), bindS]
    simp only [fld, Int.toNat_zero, List.getD_cons_zero]
    simp only [fld] at q1 q2
    rw [q1, bindS, q2, bindS]
  refine ⟨lo, hi, ?_, p1, p2⟩
  unfold m_tenter_Dry
  rw [forecast_ok N hN h0 h1 w1 w2 hok (by omega) (by omega), bindS]
  dsimp only
  have hC : (((fld water).Cloths.length : Nat) : Int) = 1 := rfl
  rw [if_neg (by simp [icmp_neq]), letO_eq, hC]
  have s0 : m_tenter_Dry_L1 N 1 (⟨fld water, w⟩, 0) (a : Int) (0, []) = some (.inl (1, [⟨lo, hi⟩])) := by
    simp only [m_tenter_Dry_L1, hd, bindS]
    rw [if_pos (by simp [icmp_lss]), if_pos (by unfold fitsN; simp)]; rfl
  have s1 : m_tenter_Dry_L1 N 1 (⟨fld water, w⟩, 0) (a : Int) (1, [⟨lo, hi⟩]) = some (.inr [⟨lo, hi⟩]) := by
    simp only [m_tenter_Dry_L1]
    rw [if_neg (by simp [icmp_lss])]
  obtain ⟨K, rfl⟩ : ∃ K, N = K + 2 := ⟨N - 2, by omega⟩
  rw [loopO_inl s0, loopO_inr s1]; rfl
/-! The plain truth. -/
section
variable {w : List api_Span} {water : Int}
theorem dry_rain (hok : ∀ s ∈ w, SpOk 68 s) {a rain : Nat} (hr : rain ≤ w.length) (ha : a ≤ rain) {hi : Int} (h : FirstDry (·.Low) w water a hi) : hi ≤ rain ↔ water - dS (·.Low) w a (rain - a) ≤ 0 := by
  have hg : ∀ i, 0 ≤ (w.getD i d_api_Span).Low ∧ (w.getD i d_api_Span).Low ≤ 68 := fun i => by
    obtain ⟨g1, g2, g3⟩ := getD_ok2 hok i; omega
  rcases h with ⟨i, h1, h2, h3, h4⟩ | ⟨h1, h2⟩
  · constructor
    · intro h
      have : dS (fun x => x.Low) w a i ≤ dS (fun x => x.Low) w a (rain - a) := dS_mono hg (by omega)
      omega
    · intro h
      by_cases hi' : i ≤ rain - a
      · omega
      · have := h4 (rain - a) (by omega); omega
  · have := h2 (rain - a) (by omega)
    constructor
    · intro h; omega
    · intro h; omega
theorem late_from (hok : ∀ s ∈ w, SpOk 68 s) {a rain : Nat} (ha : a ≤ rain) {l : Int} (h : LateIs w water rain l) : ((a : Int) ≤ l ↔ water - dS (·.Low) w a (rain - a) ≤ 0) := by
  have hg : ∀ i, 0 ≤ (w.getD i d_api_Span).Low ∧ (w.getD i d_api_Span).Low ≤ 68 := fun i => by
    obtain ⟨g1, g2, g3⟩ := getD_ok2 hok i; omega
  -- an earlier hour dries no less
  have mono : ∀ d b : Nat, b + d ≤ rain → dS (fun x => x.Low) w (b + d) (rain - (b + d)) ≤ dS (fun x => x.Low) w b (rain - b) := by
    intro d
    induction d with
    | zero => intro b _; exact Int.le_refl _
    | succ d ih =>
      intro b hb
      have h1 := ih (b + 1) (by omega)
      rw [show b + 1 + d = b + (d + 1) from by omega] at h1
      have h2 : dS (fun x => x.Low) w b (rain - b) = (w.getD b d_api_Span).Low + dS (fun x => x.Low) w (b + 1) (rain - (b + 1)) := by
        rw [show rain - b = (rain - (b + 1)) + 1 from by omega]; exact dS_head
      have := hg b
      omega
  rcases h with ⟨l', h1, rfl, h3, h4⟩ | ⟨rfl, h2⟩
  · constructor
    · intro h
      have := mono (l' - a) a (by omega)
      rw [show a + (l' - a) = l' from by omega] at this
      omega
    · intro h
      by_cases hl : a ≤ l'
      · omega
      · have := h4 a (by omega) ha; omega
  · have := h2 a ha
    constructor
    · intro h; omega
    · intro h; omega
theorem dry_order (hok : ∀ s ∈ w, SpOk 68 s) {a : Nat} (ha : a ≤ w.length) {lo hi : Int} (h1 : FirstDry (·.High) w water a lo) (h2 : FirstDry (·.Low) w (water + 2) a hi) : (a : Int) ≤ lo ∧ lo ≤ hi := by
  have hle : ∀ k : Nat, dS (fun x => x.Low) w a k ≤ dS (fun x => x.High) w a k := fun k => dS_le (fun i => by obtain ⟨g1, g2, g3⟩ := getD_ok2 hok i; exact g2) k
  have hlo : (a : Int) ≤ lo ∧ lo ≤ w.length + 1 := by
    rcases h1 with ⟨i, e1, e2, _⟩ | ⟨e1, _⟩ <;> omega
  refine ⟨hlo.1, ?_⟩
  rcases h2 with ⟨i, e1, e2, e3, e4⟩ | ⟨e1, _⟩
  · have := hle i
    rcases h1 with ⟨j, d1, d2, d3, d4⟩ | ⟨d1, d2⟩
    · by_cases hj : j ≤ i
      · omega
      · have := d4 i (by omega); omega
    · have := d2 i (by omega); omega
  · omega
end
end Go.Proofs.Ytgefdljjhmjdaaa.Aw

/- Plain: TopWindowDry. -/
namespace Go.Proofs.Ytgefdljjhmjdaaa.Aw
open Go Go.RowKit Go.Proofs
set_option linter.unusedSimpArgs false
set_option linter.unusedVariables false
theorem elmWater_is : m_top_elmWater 2000000 = some true := by kernel_rfl
theorem elmField_is : m_top_elmField 2000000 = some true := by kernel_rfl
theorem dry_L1 (N : Nat) (hN : 2000000 ≤ N) {water : Int} (h0 : 0 ≤ water) (h1 : water ≤ 100) {w : List api_Span} (w1 : 1 ≤ w.length) (w2 : w.length ≤ 16) (hok : ∀ s ∈ w, SpOk 68 s) {rain : Nat} (hr : rain ≤ w.length) {at_ late g : Int}
    (hl : (g = 0 ∧ ∃ l : Nat, late = l ∧ LateIs w (water + 2) rain l) ∨ (g = 9 ∧ late = 0 ∧ LateIs w (water + 2) rain (-1))) {e : Int} (he : e = 0 ∨ e = 7) {a : Int} (ha : 0 ≤ a) (ha2 : a ≤ 1000) :
    loopO (m_top_TopWindowDry_L1 N (at_, e) w ⟨50, 50⟩ ⟨water, water + 2⟩ (rain : Int) (late, g)) N a = some (.inr ()) := by
  obtain ⟨q, hq, hp⟩ := loopO_of (step := m_top_TopWindowDry_L1 N (at_, e) w ⟨50, 50⟩ ⟨water, water + 2⟩ (rain : Int) (late, g)) (fun k => 0 ≤ k ∧ k ≤ 1001) (fun k => (2000 - k).toNat) (fun q => q = .inr ()) (fun k hi => by
    obtain ⟨k0, k1⟩ := hi
    by_cases hgo : e = 0 ∧ k ≤ (w.length : Int)
    · left
      obtain ⟨rfl, hk⟩ := hgo
      have hc : (if icmpR .eql 0 0 = true then some (icmpR .leq k ((w.length : Nat) : Int)) else some false) = some true := by
        simp only [icmp_eql, icmp_leq, decide_eq_true_eq]
        simp [hk]
      obtain ⟨lo, hi, hd, p1, p2⟩ := Dry_is N hN h0 h1 w1 w2 hok (a := k.toNat) (by omega)
      rw [show ((k.toNat : Nat) : Int) = k from by omega] at hd
      obtain ⟨o1, o2⟩ := dry_order hok (by omega) p1 p2
      have hf : m_top_elmOwn N (api_TenterField.mk [(api_TenterCloth.mk ⟨50, 50⟩ ⟨water, water + 2⟩)] [60] 0 0) = some (fld water) := own_fld N water
      have g0 : getO d_api_Span [(⟨lo, hi⟩ : api_Span)] 0 = some ⟨lo, hi⟩ := by rw [getO_of (by omega) (by simp)]; rfl
      have hln : (([(⟨lo, hi⟩ : api_Span)].length : Nat) : Int) = 1 := rfl
      have c1 : ¬ lo < k := by omega
      have c2 : ¬ hi < lo := by omega
      refine ⟨k + 1, ?_, ⟨by omega, by omega⟩, by omega⟩
      unfold m_top_TopWindowDry_L1
      dsimp only
      rw [hc, bindS]
      rw [if_pos rfl, hf, bindS, spans_ok N w2, bindS, hd, bindS]
      dsimp only
      rw [hln, g0]
      simp only [icmp_neq, icmp_eql, icmp_leq, icmp_lss, bindS, decide_eq_true_eq]
      rw [addW (by omega)]
      by_cases hkr : k ≤ (rain : Int)
      · have hdr := dry_rain hok hr (show k.toNat ≤ rain by omega) p2
        rcases hl with ⟨rfl, l, rfl, hL⟩ | ⟨rfl, rfl, hL⟩
        · have hlf := late_from hok (show k.toNat ≤ rain by omega) hL
          rw [show ((k.toNat : Nat) : Int) = k from by omega] at hlf
          have hiff : hi ≤ (rain : Int) ↔ k ≤ (l : Int) := hdr.trans hlf.symm
          by_cases hh : hi ≤ (rain : Int)
          · have hh2 := hiff.1 hh
            simp [hkr, hh, hh2, c1, c2]
          · have hh2 : ¬ k ≤ (l : Int) := fun h => hh (hiff.2 h)
            simp [hkr, hh, hh2, c1, c2]
        · have hlf := late_from hok (show k.toNat ≤ rain by omega) hL
          have hh : ¬ hi ≤ (rain : Int) := fun h => by have := hlf.2 (hdr.1 h); omega
          simp [hkr, hh, c1, c2]
      · simp [hkr, c1, c2]
    · right
      have hc : (if icmpR .eql e 0 = true then some (icmpR .leq k ((w.length : Nat) : Int)) else some false) = some false := by
        simp only [icmp_eql, icmp_leq, decide_eq_true_eq]
        by_cases h : e = 0
        · rw [if_pos h, decide_eq_false (fun hk => hgo ⟨h, hk⟩)]
        · rw [if_neg h]
      unfold m_top_TopWindowDry_L1
      dsimp only
      rw [hc, bindS]
      rw [if_neg (by simp)]
      exact ⟨_, rfl, rfl⟩) N a ⟨ha, by omega⟩ (by omega)
  rw [hq, hp]
theorem law_TopWindowDry (p : top_ElmMill) (y : top_ElmSky) (v : A4_u8) (hp : u8ok p.Mill.a0 ∧ u8ok p.Mill.a1 ∧ u8ok p.Mill.a2 ∧ u8ok p.Mill.a3 ∧ u8ok p.Mill.a4) (hf : ∀ x ∈ p.Flows, u8ok x.a0 ∧ u8ok x.a1) (hy : ∀ x ∈ y.Hours, u8ok x.a0 ∧ u8ok x.a1) (hv : u8ok v.a0 ∧ u8ok v.a1 ∧ u8ok v.a2 ∧ u8ok v.a3) :
    m_top_TopWindowDry 2000000 p y v = some true := by
  obtain ⟨⟨a0, a1⟩, ⟨b0, b1⟩, ⟨c0, c1⟩, d0, d1⟩ := hv
  have hW := elmWater_is
  have hF := elmField_is
  obtain ⟨N, hN⟩ : ∃ N, N = 2000000 := ⟨_, rfl⟩
  rw [← hN] at hW hF ⊢
  have hN : 2000000 ≤ N := by omega
  obtain ⟨m, l, q1, hm, l1, l2, hl⟩ := made_mill N hN p hp hf
  obtain ⟨w, q2, w1, w2, hw⟩ := made_sky N hN y hy
  obtain ⟨hm1, hm2⟩ := hm.ham
  have hnz : m.Hammers ≠ 0 := by omega
  obtain ⟨ham, eham⟩ : ∃ x, x = 1 + v.a0 % m.Hammers := ⟨_, rfl⟩
  have r1 := Int.emod_nonneg v.a0 hnz
  have r2 := Int.emod_lt_of_pos v.a0 (show 0 < m.Hammers by omega)
  have e1 : iopR .add .i64 1 (iopR .rem .i64 (IntKind.wrap .i64 v.a0) m.Hammers) = ham := by rw [wrap_i64 (n := v.a0) (by omega), remW (by omega), addW (by omega), eham]
  obtain ⟨hrs, ehrs⟩ : ∃ x, x = 1 + v.a1 % 6 := ⟨_, rfl⟩
  have e2 : iopR .add .i64 1 (iopR .rem .i64 (IntKind.wrap .i64 v.a1) 6) = hrs := by rw [wrap_i64 (n := v.a1) (by omega), remW (by omega), addW (by omega), ehrs]
  obtain ⟨wat, ewat⟩ : ∃ x, x = v.a2 / 6 := ⟨_, rfl⟩
  have e3 : iopR .quo .i64 (IntKind.wrap .i64 v.a2) 6 = wat := by rw [wrap_i64 (n := v.a2) (by omega), quoW (by omega) (by omega), ewat]
  have e4 : iopR .add .i64 wat 2 = wat + 2 := addW (by omega)
  have e5 : iopR .add .i64 ((w.length : Nat) : Int) 1 = (w.length : Int) + 1 := addW (by omega)
  obtain ⟨rain, erain⟩ : ∃ x : Nat, (x : Int) = v.a3 % ((w.length : Int) + 1) := by
    have := Int.emod_nonneg v.a3 (show (w.length : Int) + 1 ≠ 0 by omega)
    exact ⟨(v.a3 % ((w.length : Int) + 1)).toNat, by omega⟩
  have r3 := Int.emod_lt_of_pos v.a3 (show 0 < (w.length : Int) + 1 by omega)
  have e6 : iopR .rem .i64 (IntKind.wrap .i64 v.a3) ((w.length : Int) + 1) = (rain : Int) := by rw [wrap_i64 (n := v.a3) (by omega), remW (by omega), erain]
  obtain ⟨at_, e, qW, hat⟩ := window_is N hN hm l1 (by omega) hl (ham := ham) (hours := hrs) (by omega) (by omega)
  obtain ⟨late, g, qL, hla⟩ := Late_is N hN (water := wat) (by omega) (by omega) w1 w2 hw (rain := rain) (by omega)
  have hlr : 0 ≤ late ∧ late ≤ rain := by
    rcases hla with ⟨_, n, rfl, h | h⟩ | ⟨_, rfl, _⟩
    · obtain ⟨n', h1, h2, _⟩ := h; omega
    · omega
    · omega
  have hal : 0 ≤ at_ ∧ at_ < (l.length : Int) := by
    rcases hat with h | h <;> omega
  have hsp : m_top_elmSpans N l = some l := spans_ok N (by omega)
  have hown : m_top_elmOwn N (api_TenterField.mk [(api_TenterCloth.mk ⟨50, 50⟩ ⟨wat, wat + 2⟩)] [60] 0 0) = some (fld wat) := own_fld N wat
  have hloop := dry_L1 N hN (water := wat) (by omega) (by omega) w1 w2 hw (rain := rain) (by omega) (at_ := at_) (late := late) (g := g) hla (e := e) (by rcases hat with h | h <;> omega) (a := at_ + hrs) (by omega) (by omega)
  have e7 : iopR .add .i64 at_ hrs = at_ + hrs := addW (by omega)
  unfold m_top_TopWindowDry
  rw [q1, bindS, q2, bindS]
  dsimp only
  rw [if_pos hnz]
  simp only [m_top_elmSpan, bindS]
  rw [e5, e3, e4, if_pos (by omega), hsp, bindS, e1, e2, qW, bindS, hown, bindS, spans_ok N w2, bindS, e6, qL, bindS]
  simp only [letO_eq]
  have k1 : ¬ at_ < 0 := by omega
  have k2 : ¬ at_ ≥ ((l.length : Nat) : Int) := by omega
  have k3 : ¬ late < 0 := by omega
  have k4 : ¬ late > (rain : Int) := by omega
  simp only [e7, hloop, hW, hF, bindS, icmp_neq, icmp_lss, icmp_geq, icmp_gtr, decide_eq_true_eq]
  rcases hat with ⟨rfl, g1, g2⟩ | ⟨rfl, rfl⟩
  · rcases hla with ⟨rfl, _⟩ | ⟨rfl, rfl, _⟩
    · simp [k1, k2, k3, k4]
    · simp [k1, k2]
  · have hne : ¬ l = [] := fun h => by rw [h] at l1; simp at l1
    rcases hla with ⟨rfl, _⟩ | ⟨rfl, rfl, _⟩
    · simp [hne, k3, k4]
    · simp [hne]
end Go.Proofs.Ytgefdljjhmjdaaa.Aw
