/- Part 6 of the proof: lemmas. -/
import Derived.Test.YtelnoeamkdpjhaaM4
import Derived.Test.YtelnoeamkdpjhaaM5
import Derived.Test.YtelnoeamkdpjhaaRows

/- Plain models and walks for the tops of cloth and stream. Printed by wip/gen/pm.py. -/
namespace Go.Proofs.Ytelnoeamkdpjhaa.Aw
open Go Go.RowKit Go.Proofs
set_option maxRecDepth 100000
set_option maxHeartbeats 4000000
set_option linter.unusedSimpArgs false
set_option linter.unusedVariables false
structure A4_u8 where
  a0 : Int
  a1 : Int
  a2 : Int
  a3 : Int
instance : BEq A4_u8 := ⟨fun x y => (x.a0 == y.a0 && (x.a1 == y.a1 && (x.a2 == y.a2 && (x.a3 == y.a3 && true))))⟩
def c_A4_u8 (x : A4_u8) : List KV := [.int .u8 x.a0, .int .u8 x.a1, .int .u8 x.a2, .int .u8 x.a3]
structure A3_A4_u8 where
  a0 : A4_u8
  a1 : A4_u8
  a2 : A4_u8
instance : BEq A3_A4_u8 := ⟨fun x y => (x.a0.a0 == y.a0.a0 && (x.a0.a1 == y.a0.a1 && (x.a0.a2 == y.a0.a2 && (x.a0.a3 == y.a0.a3 && (x.a1.a0 == y.a1.a0 && (x.a1.a1 == y.a1.a1 && (x.a1.a2 == y.a1.a2 && (x.a1.a3 == y.a1.a3 && (x.a2.a0 == y.a2.a0 && (x.a2.a1 == y.a2.a1 && (x.a2.a2 == y.a2.a2 && (x.a2.a3 == y.a2.a3 && true))))))))))))⟩
structure top_FirYarn where
  Tracks : A3_A4_u8
instance : BEq top_FirYarn := ⟨fun x y => (x.Tracks.a0.a0 == y.Tracks.a0.a0 && (x.Tracks.a0.a1 == y.Tracks.a0.a1 && (x.Tracks.a0.a2 == y.Tracks.a0.a2 && (x.Tracks.a0.a3 == y.Tracks.a0.a3 && (x.Tracks.a1.a0 == y.Tracks.a1.a0 && (x.Tracks.a1.a1 == y.Tracks.a1.a1 && (x.Tracks.a1.a2 == y.Tracks.a1.a2 && (x.Tracks.a1.a3 == y.Tracks.a1.a3 && (x.Tracks.a2.a0 == y.Tracks.a2.a0 && (x.Tracks.a2.a1 == y.Tracks.a2.a1 && (x.Tracks.a2.a2 == y.Tracks.a2.a2 && (x.Tracks.a2.a3 == y.Tracks.a2.a3 && true))))))))))))⟩
def c_top_FirYarn (x : top_FirYarn) : List KV := [.int .u8 x.Tracks.a0.a0, .int .u8 x.Tracks.a0.a1, .int .u8 x.Tracks.a0.a2, .int .u8 x.Tracks.a0.a3, .int .u8 x.Tracks.a1.a0, .int .u8 x.Tracks.a1.a1, .int .u8 x.Tracks.a1.a2, .int .u8 x.Tracks.a1.a3, .int .u8 x.Tracks.a2.a0, .int .u8 x.Tracks.a2.a1, .int .u8 x.Tracks.a2.a2, .int .u8 x.Tracks.a2.a3]
def k_top_FirYarn (x : top_FirYarn) : KV := .agg (c_top_FirYarn x)
structure A2_u8 where
  a0 : Int
  a1 : Int
def d_A2_u8 : A2_u8 := ⟨0, 0⟩
instance : BEq A2_u8 := ⟨fun x y => (x.a0 == y.a0 && (x.a1 == y.a1 && true))⟩
def c_A2_u8 (x : A2_u8) : List KV := [.int .u8 x.a0, .int .u8 x.a1]
structure top_FirBeck where
  Mill : A4_u8
  Flows : (List A2_u8)
def e_A2_u8 (x : A2_u8) (j : Nat) : KV := cel (c_A2_u8 x) j
def sl_A2_u8 (c : Bool) (l : List A2_u8) : KV := .sl c 2 A2_u8 d_A2_u8 l e_A2_u8
def c_top_FirBeck (x : top_FirBeck) : List KV := [.int .u8 x.Mill.a0, .int .u8 x.Mill.a1, .int .u8 x.Mill.a2, .int .u8 x.Mill.a3, sl_A2_u8 false x.Flows]
def k_top_FirBeck (x : top_FirBeck) : KV := .agg (c_top_FirBeck x)
structure api_Span where
  Low : Int
  High : Int
def d_api_Span : api_Span := ⟨0, 0⟩
instance : BEq api_Span := ⟨fun x y => (x.Low == y.Low && (x.High == y.High && true))⟩
def c_api_Span (x : api_Span) : List KV := [.int .i64 x.Low, .int .i64 x.High]
structure api_ClothTrack where
  First : api_Span
  Rate : api_Span
def d_api_ClothTrack : api_ClothTrack := ⟨d_api_Span, d_api_Span⟩
instance : BEq api_ClothTrack := ⟨fun x y => (x.First.Low == y.First.Low && (x.First.High == y.First.High && (x.Rate.Low == y.Rate.Low && (x.Rate.High == y.Rate.High && true))))⟩
def c_api_ClothTrack (x : api_ClothTrack) : List KV := [.int .i64 x.First.Low, .int .i64 x.First.High, .int .i64 x.Rate.Low, .int .i64 x.Rate.High]
structure api_ClothMeasure where
  What : Int
  Hour : Int
  Reading : Int
  Off : Int
def d_api_ClothMeasure : api_ClothMeasure := ⟨0, 0, 0, 0⟩
instance : BEq api_ClothMeasure := ⟨fun x y => (x.What == y.What && (x.Hour == y.Hour && (x.Reading == y.Reading && (x.Off == y.Off && true))))⟩
def c_api_ClothMeasure (x : api_ClothMeasure) : List KV := [.int .i64 x.What, .int .i64 x.Hour, .int .i64 x.Reading, .int .i64 x.Off]
structure api_Cloth where
  Tracks : (List api_ClothTrack)
  Measures : (List api_ClothMeasure)
def e_api_ClothTrack (x : api_ClothTrack) (j : Nat) : KV := cel (c_api_ClothTrack x) j
def sl_api_ClothTrack (c : Bool) (l : List api_ClothTrack) : KV := .sl c 4 api_ClothTrack d_api_ClothTrack l e_api_ClothTrack
def e_api_ClothMeasure (x : api_ClothMeasure) (j : Nat) : KV := cel (c_api_ClothMeasure x) j
def sl_api_ClothMeasure (c : Bool) (l : List api_ClothMeasure) : KV := .sl c 4 api_ClothMeasure d_api_ClothMeasure l e_api_ClothMeasure
structure api_StreamMill where
  Hammers : Int
  Takes : Int
  Blows : api_Span
  Holds : Int
  Now : api_Span
instance : BEq api_StreamMill := ⟨fun x y => (x.Hammers == y.Hammers && (x.Takes == y.Takes && (x.Blows.Low == y.Blows.Low && (x.Blows.High == y.Blows.High && (x.Holds == y.Holds && (x.Now.Low == y.Now.Low && (x.Now.High == y.Now.High && true)))))))⟩
def e_api_Span (x : api_Span) (j : Nat) : KV := cel (c_api_Span x) j
def sl_api_Span (c : Bool) (l : List api_Span) : KV := .sl c 2 api_Span d_api_Span l e_api_Span
structure stream_valley where
  StreamMill : api_StreamMill
  flows : (List api_Span)
def e_int (x : Int) (j : Nat) : KV := .int .i64 x
def sl_int (c : Bool) (l : List Int) : KV := .sl c 1 Int 0 l e_int
structure stream_tide where
  full : Int
  left : Int
instance : BEq stream_tide := ⟨fun x y => (x.full == y.full && (x.left == y.left && true))⟩
structure cloth_stretch where
  Span : api_Span
  rate : Int
def d_cloth_stretch : cloth_stretch := ⟨d_api_Span, 0⟩
instance : BEq cloth_stretch := ⟨fun x y => (x.Span.Low == y.Span.Low && (x.Span.High == y.Span.High && (x.rate == y.rate && true)))⟩
def c_cloth_stretch (x : cloth_stretch) : List KV := [.int .i64 x.Span.Low, .int .i64 x.Span.High, .int .i64 x.rate]
structure A3_L_cloth_stretch where
  a0 : (List cloth_stretch)
  a1 : (List cloth_stretch)
  a2 : (List cloth_stretch)
def e_cloth_stretch (x : cloth_stretch) (j : Nat) : KV := cel (c_cloth_stretch x) j
def sl_cloth_stretch (c : Bool) (l : List cloth_stretch) : KV := .sl c 3 cloth_stretch d_cloth_stretch l e_cloth_stretch
structure stream_spot where
  hour : Int
  water : Int
def d_stream_spot : stream_spot := ⟨0, 0⟩
instance : BEq stream_spot := ⟨fun x y => (x.hour == y.hour && (x.water == y.water && true))⟩
structure stream_miller where
  valley : stream_valley
  known : (List (stream_spot × Int))
def me_stream_spot_int (x : (stream_spot × Int)) (j : Nat) : KV := cel [.agg [.int .i64 x.1.hour, .int .i64 x.1.water], .int .i64 x.2] j
def mp_stream_spot_int (l : List (stream_spot × Int)) : KV := .mp (stream_spot × Int) (d_stream_spot, 0) l me_stream_spot_int
theorem menc_stream_spot_int : MapEnc (.flat 2) me_stream_spot_int (fun x => .agg [.int .i64 x.hour, .int .i64 x.water]) (fun x => .int .i64 x) := ⟨⟨(.ag [.i64, .i64]), rfl, fun _ => by simp [isKeyD, isKeyD0, kindsD, KV.toD, KV.toDL]⟩, fun _ => rfl, fun _ => rfl, fun _ _ => rfl, fun _ => rfl⟩
def m_top_firSpan (N : Nat) (low_1 : Int) (high_2 : Int) : Option (api_Span) :=
  some (api_Span.mk low_1 high_2)
theorem w_top_firSpan (N : Nat) (low_1 : Int) (high_2 : Int) (o : api_Span) (h : m_top_firSpan N low_1 high_2 = some o) :
    KC Try.prog 22 [.int .i64 low_1, .int .i64 high_2] (.agg [.int .i64 o.Low, .int .i64 o.High]) [] := by
  unfold m_top_firSpan at h
  refine con_l [] [] seat Try.func22 rfl ent_22 (by kernel_rfl) rfl rfl (by simp) ?_; intro base I hI; (conv => cbv)
  cases h
  subst_vars
  exact ⟨(LV_agg ⟨lE, lE, rfl⟩), rfl⟩
def m_top_FirYarn_made (N : Nat) (x_1 : top_FirYarn) : Option (api_Cloth) :=
  (m_top_firSpan N (iopR .add .i64 100 (IntKind.wrap .i64 x_1.Tracks.a0.a0)) (iopR .add .i64 (iopR .add .i64 100 (IntKind.wrap .i64 x_1.Tracks.a0.a0)) (iopR .mul .i64 2 (iopR .rem .i64 (IntKind.wrap .i64 x_1.Tracks.a0.a1) 20)))).bind fun r_2 =>
  (m_top_firSpan N (iopR .rem .i64 (IntKind.wrap .i64 x_1.Tracks.a0.a2) 70) (iopR .add .i64 (iopR .rem .i64 (IntKind.wrap .i64 x_1.Tracks.a0.a2) 70) (iopR .rem .i64 (IntKind.wrap .i64 x_1.Tracks.a0.a3) 20))).bind fun r_3 =>
  if fitsN (1) 32 then
    (m_top_firSpan N (iopR .add .i64 100 (IntKind.wrap .i64 x_1.Tracks.a1.a0)) (iopR .add .i64 (iopR .add .i64 100 (IntKind.wrap .i64 x_1.Tracks.a1.a0)) (iopR .mul .i64 2 (iopR .rem .i64 (IntKind.wrap .i64 x_1.Tracks.a1.a1) 20)))).bind fun r_4 =>
    (m_top_firSpan N (iopR .rem .i64 (IntKind.wrap .i64 x_1.Tracks.a1.a2) 70) (iopR .add .i64 (iopR .rem .i64 (IntKind.wrap .i64 x_1.Tracks.a1.a2) 70) (iopR .rem .i64 (IntKind.wrap .i64 x_1.Tracks.a1.a3) 20))).bind fun r_5 =>
    if fitsN (2) 32 then
      (m_top_firSpan N (iopR .add .i64 100 (IntKind.wrap .i64 x_1.Tracks.a2.a0)) (iopR .add .i64 (iopR .add .i64 100 (IntKind.wrap .i64 x_1.Tracks.a2.a0)) (iopR .mul .i64 2 (iopR .rem .i64 (IntKind.wrap .i64 x_1.Tracks.a2.a1) 20)))).bind fun r_6 =>
      (m_top_firSpan N (iopR .rem .i64 (IntKind.wrap .i64 x_1.Tracks.a2.a2) 70) (iopR .add .i64 (iopR .rem .i64 (IntKind.wrap .i64 x_1.Tracks.a2.a2) 70) (iopR .rem .i64 (IntKind.wrap .i64 x_1.Tracks.a2.a3) 20))).bind fun r_7 =>
      if fitsN (3) 32 then
        some (api_Cloth.mk [(api_ClothTrack.mk r_2 r_3), (api_ClothTrack.mk r_4 r_5), (api_ClothTrack.mk r_6 r_7)] [])
      else none
    else none
  else none
theorem w_top_FirYarn_made (N : Nat) (x_1 : top_FirYarn) (o : api_Cloth) (h : m_top_FirYarn_made N x_1 = some o) :
    KC Try.prog 6 [.agg [.int .u8 x_1.Tracks.a0.a0, .int .u8 x_1.Tracks.a0.a1, .int .u8 x_1.Tracks.a0.a2, .int .u8 x_1.Tracks.a0.a3, .int .u8 x_1.Tracks.a1.a0, .int .u8 x_1.Tracks.a1.a1, .int .u8 x_1.Tracks.a1.a2, .int .u8 x_1.Tracks.a1.a3, .int .u8 x_1.Tracks.a2.a0, .int .u8 x_1.Tracks.a2.a1, .int .u8 x_1.Tracks.a2.a2, .int .u8 x_1.Tracks.a2.a3]] (.agg [sl_api_ClothTrack false o.Tracks, sl_api_ClothMeasure false o.Measures]) [] := by
  unfold m_top_FirYarn_made at h
  refine con_l [] [] seat Try.func6 rfl ent_6 (by kernel_rfl) rfl rfl (by simp) ?_; intro base I hI; (conv => cbv)
  refine W_unroll hI seat [] (by kernel_rfl) 5 ?_; (conv => cbv)
  refine L_call hI h (fun v hv => w_top_firSpan N (iopR .add .i64 100 (IntKind.wrap .i64 x_1.Tracks.a0.a0)) (iopR .add .i64 (iopR .add .i64 100 (IntKind.wrap .i64 x_1.Tracks.a0.a0)) (iopR .mul .i64 2 (iopR .rem .i64 (IntKind.wrap .i64 x_1.Tracks.a0.a1) 20))) v hv) (by subst_vars; exact ⟨(leD_refl _), (leD_refl _), rfl⟩) ?_; clear h; intro r_2 h; (conv => cbv)
  refine L_call hI h (fun v hv => w_top_firSpan N (iopR .rem .i64 (IntKind.wrap .i64 x_1.Tracks.a0.a2) 70) (iopR .add .i64 (iopR .rem .i64 (IntKind.wrap .i64 x_1.Tracks.a0.a2) 70) (iopR .rem .i64 (IntKind.wrap .i64 x_1.Tracks.a0.a3) 20)) v hv) (by subst_vars; exact ⟨(leD_refl _), (leD_refl _), rfl⟩) ?_; clear h; intro r_3 h; (conv => cbv)
  refine L_conj hI h (fun g => by subst_vars; exact g) ?_; clear h; intro hc h
  refine L_call hI h (fun v hv => w_top_firSpan N (iopR .add .i64 100 (IntKind.wrap .i64 x_1.Tracks.a1.a0)) (iopR .add .i64 (iopR .add .i64 100 (IntKind.wrap .i64 x_1.Tracks.a1.a0)) (iopR .mul .i64 2 (iopR .rem .i64 (IntKind.wrap .i64 x_1.Tracks.a1.a1) 20))) v hv) (by subst_vars; exact ⟨(leD_refl _), (leD_refl _), rfl⟩) ?_; clear h; intro r_4 h; (conv => cbv)
  refine L_call hI h (fun v hv => w_top_firSpan N (iopR .rem .i64 (IntKind.wrap .i64 x_1.Tracks.a1.a2) 70) (iopR .add .i64 (iopR .rem .i64 (IntKind.wrap .i64 x_1.Tracks.a1.a2) 70) (iopR .rem .i64 (IntKind.wrap .i64 x_1.Tracks.a1.a3) 20)) v hv) (by subst_vars; exact ⟨(leD_refl _), (leD_refl _), rfl⟩) ?_; clear h; intro r_5 h; (conv => cbv)
  refine L_conj hI h (fun g => by subst_vars; exact g) ?_; clear h; intro hc h
  refine L_call hI h (fun v hv => w_top_firSpan N (iopR .add .i64 100 (IntKind.wrap .i64 x_1.Tracks.a2.a0)) (iopR .add .i64 (iopR .add .i64 100 (IntKind.wrap .i64 x_1.Tracks.a2.a0)) (iopR .mul .i64 2 (iopR .rem .i64 (IntKind.wrap .i64 x_1.Tracks.a2.a1) 20))) v hv) (by subst_vars; exact ⟨(leD_refl _), (leD_refl _), rfl⟩) ?_; clear h; intro r_6 h; (conv => cbv)
  refine L_call hI h (fun v hv => w_top_firSpan N (iopR .rem .i64 (IntKind.wrap .i64 x_1.Tracks.a2.a2) 70) (iopR .add .i64 (iopR .rem .i64 (IntKind.wrap .i64 x_1.Tracks.a2.a2) 70) (iopR .rem .i64 (IntKind.wrap .i64 x_1.Tracks.a2.a3) 20)) v hv) (by subst_vars; exact ⟨(leD_refl _), (leD_refl _), rfl⟩) ?_; clear h; intro r_7 h; (conv => cbv)
  refine L_conj hI h (fun g => by subst_vars; exact g) ?_; clear h; intro hc h
  cases h
  subst_vars
  exact ⟨(LV_agg ⟨(LV_slr rfl), LV_nil, rfl⟩), rfl⟩
def m_top_FirBeck_made_L1 (N : Nat) (p_1 : top_FirBeck) : (Int × (List api_Span)) → Option ((Int × (List api_Span)) ⊕ ((List api_Span)))
  | (v_67, v_68) =>
    (show Option (Bool) from
      if icmpR .eql v_67 0 then
        some true
      else
        if icmpR .lss v_67 ((p_1.Flows.length : Nat) : Int) then
          some (icmpR .lss v_67 12)
        else
          some false).bind fun q => match q with
    | v_76 =>
      if v_76 then
        (show Option (Int × Int) from
          if icmpR .lss v_67 ((p_1.Flows.length : Nat) : Int) then
            (getO d_A2_u8 p_1.Flows v_67).bind fun x_80 =>
            some (x_80.a0, x_80.a1)
          else
            some (10, 2)).bind fun q => match q with
        | (v_78, v_79) =>
          (m_top_firSpan N (iopR .rem .i64 (IntKind.wrap .i64 v_78) 50) (iopR .add .i64 (iopR .rem .i64 (IntKind.wrap .i64 v_78) 50) (iopR .rem .i64 (IntKind.wrap .i64 v_79) 9))).bind fun r_81 =>
          if fitsN (v_68.length + 1) 16 then
            some (.inl (iopR .add .i64 v_67 1, (v_68 ++ [r_81])))
          else none
      else
        some (.inr v_68)
def m_top_FirBeck_made (N : Nat) (p_1 : top_FirBeck) : Option (api_StreamMill × (List api_Span)) :=
  if (iopR .add .i64 (iopR .add .i64 20 (iopR .rem .i64 (IntKind.wrap .i64 p_1.Mill.a2) 80)) 1) ≠ 0 then
    (m_top_firSpan N 20 30).bind fun r_2 =>
    (m_top_firSpan N (iopR .rem .i64 (IntKind.wrap .i64 p_1.Mill.a3) (iopR .add .i64 (iopR .add .i64 20 (iopR .rem .i64 (IntKind.wrap .i64 p_1.Mill.a2) 80)) 1)) (min (iopR .add .i64 20 (iopR .rem .i64 (IntKind.wrap .i64 p_1.Mill.a2) 80)) (iopR .add .i64 (iopR .rem .i64 (IntKind.wrap .i64 p_1.Mill.a3) (iopR .add .i64 (iopR .add .i64 20 (iopR .rem .i64 (IntKind.wrap .i64 p_1.Mill.a2) 80)) 1)) 5))).bind fun r_3 =>
    letO (iopR .add .i64 1 (iopR .rem .i64 (IntKind.wrap .i64 p_1.Mill.a0) 4) : Int) fun v_4 =>
    letO (iopR .rem .i64 (IntKind.wrap .i64 p_1.Mill.a1) 20 : Int) fun v_5 =>
    letO (iopR .add .i64 20 (iopR .rem .i64 (IntKind.wrap .i64 p_1.Mill.a2) 80) : Int) fun v_6 =>
    (loopO (m_top_FirBeck_made_L1 N p_1) N (0, [])).bind fun q => match q with
    | v_75 =>
      some ((api_StreamMill.mk v_4 v_5 r_2 v_6 r_3), v_75)
  else none
theorem w_top_FirBeck_made (N : Nat) (p_1 : top_FirBeck) (o : api_StreamMill × (List api_Span)) (h : m_top_FirBeck_made N p_1 = some o) :
    KC Try.prog 7 [.agg [.int .u8 p_1.Mill.a0, .int .u8 p_1.Mill.a1, .int .u8 p_1.Mill.a2, .int .u8 p_1.Mill.a3, sl_A2_u8 false p_1.Flows]] (.tup [.agg [.int .i64 o.1.Hammers, .int .i64 o.1.Takes, .int .i64 o.1.Blows.Low, .int .i64 o.1.Blows.High, .int .i64 o.1.Holds, .int .i64 o.1.Now.Low, .int .i64 o.1.Now.High], sl_api_Span false o.2]) [] := by
  unfold m_top_FirBeck_made at h
  refine con_l [] [1000006, 2000065] seat Try.func7 rfl ent_7 (by kernel_rfl) rfl rfl (by simp) ?_; intro base I hI; (conv => cbv)
  refine L_conj hI h (fun g => by subst_vars; exact g) ?_; clear h; intro hc h
  refine L_call hI h (fun v hv => w_top_firSpan N 20 30 v hv) (by subst_vars; exact ⟨(leD_refl _), (leD_refl _), rfl⟩) ?_; clear h; intro r_2 h; (conv => cbv)
  refine L_call hI h (fun v hv => w_top_firSpan N (iopR .rem .i64 (IntKind.wrap .i64 p_1.Mill.a3) (iopR .add .i64 (iopR .add .i64 20 (iopR .rem .i64 (IntKind.wrap .i64 p_1.Mill.a2) 80)) 1)) (min (iopR .add .i64 20 (iopR .rem .i64 (IntKind.wrap .i64 p_1.Mill.a2) 80)) (iopR .add .i64 (iopR .rem .i64 (IntKind.wrap .i64 p_1.Mill.a3) (iopR .add .i64 (iopR .add .i64 20 (iopR .rem .i64 (IntKind.wrap .i64 p_1.Mill.a2) 80)) 1)) 5)) v hv) (by subst_vars; exact ⟨(leD_refl _), (leD_refl _), rfl⟩) ?_; clear h; intro r_3 h; (conv => cbv)
  replace h := letO_of h; obtain ⟨v_4, hev_4, h⟩ := h
  replace h := letO_of h; obtain ⟨v_5, hev_5, h⟩ := h
  replace h := letO_of h; obtain ⟨v_6, hev_6, h⟩ := h
  refine L_loop hI seat [1000006, 2000065] (by kernel_rfl) h (fun q => match q with | (v_67, v_68) => ⟨88, [(1, .loc 0 0), (2, .loc 1 0), (6, .loc 2 0), (7, .osl 3), (8, .int .i64 v_67)], [(2, ⟨37, [.int .i64 v_4, .int .i64 v_5, .int .i64 r_2.Low, .int .i64 r_2.High, .int .i64 v_6, .int .i64 r_3.Low, .int .i64 r_3.High], true⟩), (1, ⟨37, [.lit .i64 0, .lit .i64 0, .lit .i64 0, .lit .i64 0, .lit .i64 0, .lit .i64 0, .lit .i64 0], true⟩), (0, ⟨28, [.int .u8 p_1.Mill.a0, .int .u8 p_1.Mill.a1, .int .u8 p_1.Mill.a2, .int .u8 p_1.Mill.a3, sl_A2_u8 false p_1.Flows], true⟩)], [(3, ⟨35, 2, [.ls api_Span d_api_Span v_68 e_api_Span], true, true⟩)], 0⟩) (fun q => match q with | v_75 => .exit 0) (fun q => match q with | v_75 => ⟨88, [(2, .loc 1 0), (6, .loc 2 0), (7, .osl 3)], [(2, ⟨37, [.int .i64 v_4, .int .i64 v_5, .int .i64 r_2.Low, .int .i64 r_2.High, .int .i64 v_6, .int .i64 r_3.Low, .int .i64 r_3.High], true⟩), (1, ⟨37, [.lit .i64 0, .lit .i64 0, .lit .i64 0, .lit .i64 0, .lit .i64 0, .lit .i64 0, .lit .i64 0], true⟩)], [(3, ⟨35, 2, [.ls api_Span d_api_Span v_75 e_api_Span], true, true⟩)], 0⟩) (by subst_vars; exact weak_l rfl rfl ⟨lR, lR, lR, lR, lE, trivial⟩ ⟨lB ⟨lE, lE, lE, lE, lE, lE, lE, rfl⟩, lB ⟨lE, lE, lE, lE, lE, lE, lE, rfl⟩, lB ⟨lE, lE, lE, lE, LV_sl, rfl⟩, trivial⟩ ⟨lO, trivial⟩) (by intro q; rcases q with v_75 <;> (intro e; exact Exit.noConfusion e)) ?_ ?_; all_goals clear h
  · intro q x h R hR hX
    obtain ⟨v_67, v_68⟩ := q
    rw [m_top_FirBeck_made_L1] at h
    (conv => cbv)
    refine L_cut hI seat [2000065] (by kernel_rfl) h (fun q => match q with | v_76 => .normal) (fun q => match q with | v_76 => ⟨88, [(1, .loc 0 0), (2, .loc 1 0), (6, .loc 2 0), (7, .osl 3), (8, .int .i64 v_67), (57, .bool v_76)], [(2, ⟨37, [.int .i64 v_4, .int .i64 v_5, .int .i64 r_2.Low, .int .i64 r_2.High, .int .i64 v_6, .int .i64 r_3.Low, .int .i64 r_3.High], true⟩), (1, ⟨37, [.lit .i64 0, .lit .i64 0, .lit .i64 0, .lit .i64 0, .lit .i64 0, .lit .i64 0, .lit .i64 0], true⟩), (0, ⟨28, [.int .u8 p_1.Mill.a0, .int .u8 p_1.Mill.a1, .int .u8 p_1.Mill.a2, .int .u8 p_1.Mill.a3, sl_A2_u8 false p_1.Flows], true⟩)], [(3, ⟨35, 2, [.ls api_Span d_api_Span v_68 e_api_Span], true, true⟩)], 0⟩) ?_ ?_; all_goals clear h
    · intro x h R hR
      (conv => cbv)
      refine L_tst hI h (by subst_vars; rfl) ?_ ?_ <;> clear h <;> intro h
      · exact hR _ _ (Option.some.inj h).symm (by subst_vars; exact weak_l rfl rfl ⟨lR, lR, lR, lR, lE, lE, trivial⟩ ⟨lB ⟨lE, lE, lE, lE, lE, lE, lE, rfl⟩, lB ⟨lE, lE, lE, lE, lE, lE, lE, rfl⟩, lB ⟨lE, lE, lE, lE, LV_sl, rfl⟩, trivial⟩ ⟨lO, trivial⟩)
      · refine L_tst hI h (by subst_vars; rfl) ?_ ?_ <;> clear h <;> intro h
        · exact hR _ _ (Option.some.inj h).symm (by subst_vars; exact weak_l rfl rfl ⟨lR, lR, lR, lR, lE, lE, trivial⟩ ⟨lB ⟨lE, lE, lE, lE, lE, lE, lE, rfl⟩, lB ⟨lE, lE, lE, lE, lE, lE, lE, rfl⟩, lB ⟨lE, lE, lE, lE, LV_sl, rfl⟩, trivial⟩ ⟨lO, trivial⟩)
        · exact hR _ _ (Option.some.inj h).symm (by subst_vars; exact weak_l rfl rfl ⟨lR, lR, lR, lR, lE, lE, trivial⟩ ⟨lB ⟨lE, lE, lE, lE, lE, lE, lE, rfl⟩, lB ⟨lE, lE, lE, lE, lE, lE, lE, rfl⟩, lB ⟨lE, lE, lE, lE, LV_sl, rfl⟩, trivial⟩ ⟨lO, trivial⟩)
    · intro v_76 h
      (conv => cbv)
      refine L_tst hI h (by subst_vars; rfl) ?_ ?_ <;> clear h <;> intro h
      · refine L_cut hI seat [1000006] (by kernel_rfl) h (fun q => match q with | (v_78, v_79) => .normal) (fun q => match q with | (v_78, v_79) => ⟨88, [(1, .loc 0 0), (2, .loc 1 0), (6, .loc 2 0), (7, .osl 3), (8, .int .i64 v_67), (9, .loc 4 0)], [(4, ⟨59, [.int .u8 v_78, .int .u8 v_79], true⟩), (2, ⟨37, [.int .i64 v_4, .int .i64 v_5, .int .i64 r_2.Low, .int .i64 r_2.High, .int .i64 v_6, .int .i64 r_3.Low, .int .i64 r_3.High], true⟩), (1, ⟨37, [.lit .i64 0, .lit .i64 0, .lit .i64 0, .lit .i64 0, .lit .i64 0, .lit .i64 0, .lit .i64 0], true⟩), (0, ⟨28, [.int .u8 p_1.Mill.a0, .int .u8 p_1.Mill.a1, .int .u8 p_1.Mill.a2, .int .u8 p_1.Mill.a3, sl_A2_u8 false p_1.Flows], true⟩)], [(3, ⟨35, 2, [.ls api_Span d_api_Span v_68 e_api_Span], true, true⟩)], 0⟩) ?_ ?_; all_goals clear h
        · intro x h R hR
          (conv => cbv)
          refine L_tst hI h (by subst_vars; rfl) ?_ ?_ <;> clear h <;> intro h
          · refine L_get hI h (fun g => by subst_vars; exact g) ?_; clear h; intro hc x_80 hxx_80 h
            exact hR _ _ (Option.some.inj h).symm (by subst_vars; exact weak_l rfl rfl ⟨lR, lR, lR, lR, lE, lR, trivial⟩ ⟨lB ⟨lE, lE, rfl⟩, lB ⟨lE, lE, lE, lE, lE, lE, lE, rfl⟩, lB ⟨lE, lE, lE, lE, lE, lE, lE, rfl⟩, lB ⟨lE, lE, lE, lE, LV_sl, rfl⟩, trivial⟩ ⟨lO, trivial⟩)
          · exact hR _ _ (Option.some.inj h).symm (by subst_vars; exact weak_l rfl rfl ⟨lR, lR, lR, lR, lE, lR, trivial⟩ ⟨lB ⟨lE, lE, rfl⟩, lB ⟨lE, lE, lE, lE, lE, lE, lE, rfl⟩, lB ⟨lE, lE, lE, lE, lE, lE, lE, rfl⟩, lB ⟨lE, lE, lE, lE, LV_sl, rfl⟩, trivial⟩ ⟨lO, trivial⟩)
        · intro q h
          rcases q with ⟨v_78, v_79⟩
          (conv => cbv)
          refine L_call hI h (fun v hv => w_top_firSpan N (iopR .rem .i64 (IntKind.wrap .i64 v_78) 50) (iopR .add .i64 (iopR .rem .i64 (IntKind.wrap .i64 v_78) 50) (iopR .rem .i64 (IntKind.wrap .i64 v_79) 9)) v hv) (by subst_vars; exact ⟨(leD_refl _), (leD_refl _), rfl⟩) ?_; clear h; intro r_81 h; (conv => cbv)
          refine L_conj hI h (fun g => by subst_vars; exact g) ?_; clear h; intro hc h
          exact hR _ _ (Option.some.inj h).symm (by subst_vars; exact weak_l rfl rfl ⟨lR, lR, lR, lR, lE, trivial⟩ ⟨lB ⟨lE, lE, lE, lE, lE, lE, lE, rfl⟩, lB ⟨lE, lE, lE, lE, lE, lE, lE, rfl⟩, lB ⟨lE, lE, lE, lE, LV_sl, rfl⟩, trivial⟩ ⟨lO, trivial⟩)
      · exact hX _ _ (Option.some.inj h).symm (by subst_vars; exact weak_l rfl rfl ⟨lR, lR, lR, trivial⟩ ⟨lB ⟨lE, lE, lE, lE, lE, lE, lE, rfl⟩, lB ⟨lE, lE, lE, lE, lE, lE, lE, rfl⟩, trivial⟩ ⟨lO, trivial⟩)
  · intro v_75 h
    (conv => cbv)
    cases h
    subst_vars
    exact ⟨(LV_tup ⟨(LV_agg ⟨lE, lE, lE, lE, lE, lE, lE, rfl⟩), LV_sl, rfl⟩), rfl⟩
def m_top_firOwn (N : Nat) (l_1 : (List api_Span)) : Option ((List api_Span)) :=
  if fitsN (l_1.length) 16 then
    some l_1
  else none
theorem w_top_firOwn (N : Nat) (l_1 : (List api_Span)) (o : (List api_Span)) (h : m_top_firOwn N l_1 = some o) :
    KC Try.prog 11 [sl_api_Span false l_1] (sl_api_Span false o) [] := by
  unfold m_top_firOwn at h
  refine con_l [] [] seat Try.func11 rfl ent_11 (by kernel_rfl) rfl rfl (by simp) ?_; intro base I hI; (conv => cbv)
  refine L_conj hI h (fun g => by subst_vars; exact g) ?_; clear h; intro hc h
  cases h
  subst_vars
  exact ⟨LV_sl, rfl⟩
def m_slices_IndexFunc_Lint_int_L1 (N : Nat) (v_3 : Int) (s_1 : (List Int)) (f_2 : Int → Option Bool) : Int → Option ((Int) ⊕ ((Int) ⊕ (Unit)))
  | v_6 =>
    if icmpR .lss v_6 v_3 then
      (getO 0 s_1 v_6).bind fun x_10 =>
      (f_2 x_10).bind fun v_11 =>
      if v_11 then
        some (.inr (.inl v_6))
      else
        some (.inl (iopR .add .i64 v_6 1))
    else
      some (.inr (.inr ()))
def m_slices_IndexFunc_Lint_int (N : Nat) (s_1 : (List Int)) (f_2 : Int → Option Bool) : Option (Int) :=
  letO (((s_1.length : Nat) : Int) : Int) fun v_3 =>
  (loopO (m_slices_IndexFunc_Lint_int_L1 N v_3 s_1 f_2) N 0).bind fun q => match q with
  | (.inl v_9) =>
    some v_9
  | (.inr ()) =>
    some (-1)
theorem w_slices_IndexFunc_Lint_int (N : Nat) (s_1 : (List Int)) (f_2 : Int → Option Bool) (kf_2 : Nat) (dsf_2 : List D) (hdf_2 : noAggD dsf_2 = true) (hpf_2 : ∀ x0 r, f_2 x0 = some r → KD Try.prog kf_2 [.int .i64 x0] dsf_2 (.bool r)) (o : Int) (h : m_slices_IndexFunc_Lint_int N s_1 f_2 = some o) :
    KC Try.prog 70 [sl_int false s_1, .d (.fn kf_2 dsf_2)] (.int .i64 o) [] := by
  unfold m_slices_IndexFunc_Lint_int at h
  refine con_l [] [] seat Try.func70 rfl ent_70 (by kernel_rfl) rfl rfl (by simp) ?_; intro base I hI; (conv => cbv)
  replace h := letO_of h; obtain ⟨v_3, hev_3, h⟩ := h
  refine L_loop hI seat [] (by kernel_rfl) h (fun q => match q with | v_6 => ⟨19, [(0, sl_int false s_1), (1, .d (.fn kf_2 dsf_2)), (7, .int .i64 v_3), (8, .int .i64 v_6)], [], [], 0⟩) (fun q => match q with | (.inl v_9) => .ret | (.inr ()) => .exit 0) (fun q => match q with | (.inl v_9) => ⟨19, [(4, .int .i64 v_9)], [], [], 0⟩ | (.inr ()) => ⟨19, [], [], [], 0⟩) (by subst_vars; exact weak_l rfl rfl ⟨LV_sl, lR, lE, lE, trivial⟩ trivial trivial) (by intro q; rcases q with (v_9 | _) <;> (intro e; exact Exit.noConfusion e)) ?_ ?_; all_goals clear h
  · intro v_6 x h R hR hX
    rw [m_slices_IndexFunc_Lint_int_L1] at h
    (conv => cbv)
    refine L_tst hI h (by subst_vars; rfl) ?_ ?_ <;> clear h <;> intro h
    · refine L_get hI h (fun g => by subst_vars; exact g) ?_; clear h; intro hc x_10 hxx_10 h
      refine K_conj hI (by subst_vars; exact hdf_2) ?_
      refine L_callD hI h (args' := [.int .i64 x_10]) (fun v hv => hpf_2 x_10 v hv) (by subst_vars; rfl) ?_; clear h; intro v_11 h; (conv => cbv)
      refine L_tst hI h (by subst_vars; rfl) ?_ ?_ <;> clear h <;> intro h
      · exact hX _ _ (Option.some.inj h).symm (by subst_vars; exact weak_l rfl rfl ⟨lE, trivial⟩ trivial trivial)
      · exact hR _ _ (Option.some.inj h).symm (by subst_vars; exact weak_l rfl rfl ⟨LV_sl, lR, lE, lE, trivial⟩ trivial trivial)
    · exact hX _ _ (Option.some.inj h).symm (by subst_vars; exact weak_l rfl rfl trivial trivial trivial)
  · intro q h
    rcases q with (v_9 | _)
    · (conv => cbv)
      cases h
      subst_vars
      exact ⟨lE, rfl⟩
    · (conv => cbv)
      cases h
      subst_vars
      exact ⟨lE, rfl⟩
def m_slices_ContainsFunc_Lint_int (N : Nat) (s_1 : (List Int)) (f_2 : Int → Option Bool) : Option (Bool) :=
  (m_slices_IndexFunc_Lint_int N s_1 f_2).bind fun r_3 =>
  some (icmpR .geq r_3 0)
theorem w_slices_ContainsFunc_Lint_int (N : Nat) (s_1 : (List Int)) (f_2 : Int → Option Bool) (kf_2 : Nat) (dsf_2 : List D) (hdf_2 : noAggD dsf_2 = true) (hpf_2 : ∀ x0 r, f_2 x0 = some r → KD Try.prog kf_2 [.int .i64 x0] dsf_2 (.bool r)) (o : Bool) (h : m_slices_ContainsFunc_Lint_int N s_1 f_2 = some o) :
    KC Try.prog 50 [sl_int false s_1, .d (.fn kf_2 dsf_2)] (.bool o) [] := by
  unfold m_slices_ContainsFunc_Lint_int at h
  refine con_l [] [] seat Try.func50 rfl ent_50 (by kernel_rfl) rfl rfl (by simp) ?_; intro base I hI; (conv => cbv)
  refine L_call hI h (fun v hv => w_slices_IndexFunc_Lint_int N s_1 f_2 kf_2 dsf_2 hdf_2 hpf_2 v hv) (by subst_vars; exact ⟨(leD_refl _), (leD_refl _), rfl⟩) ?_; clear h; intro r_3 h; (conv => cbv)
  cases h
  subst_vars
  exact ⟨lE, rfl⟩
def m_stream_within_1 (N : Nat) (n_1 : Int) (p_2 : Int) (p_3 : Int) : Option (Bool) :=
  (show Option (Bool) from
    if icmpR .lss n_1 p_2 then
      some true
    else
      some (icmpR .gtr n_1 p_3)).bind fun q => match q with
  | v_4 =>
    some v_4
theorem w_stream_within_1 (N : Nat) (n_1 : Int) (p_2 : Int) (p_3 : Int) (o : Bool) (h : m_stream_within_1 N n_1 p_2 p_3 = some o) :
    KC Try.prog 56 [.int .i64 n_1, .ptr [.int .i64 p_2], .ptr [.int .i64 p_3]] (.bool o) [] := by
  unfold m_stream_within_1 at h
  refine con_l [] [1000001] seat Try.func56 rfl ent_56 (by kernel_rfl) rfl rfl (by simp) ?_; intro base I hI; (conv => cbv)
  refine L_cut hI seat [] (by kernel_rfl) h (fun q => match q with | v_4 => .normal) (fun q => match q with | v_4 => ⟨13, [(4, .bool v_4)], [], [], 0⟩) ?_ ?_; all_goals clear h
  · intro x h R hR
    (conv => cbv)
    refine L_tst hI h (by subst_vars; rfl) ?_ ?_ <;> clear h <;> intro h
    · exact hR _ _ (Option.some.inj h).symm (by subst_vars; exact weak_l rfl rfl ⟨lE, trivial⟩ trivial trivial)
    · exact hR _ _ (Option.some.inj h).symm (by subst_vars; exact weak_l rfl rfl ⟨lE, trivial⟩ trivial trivial)
  · intro v_4 h
    (conv => cbv)
    cases h
    subst_vars
    exact ⟨lE, rfl⟩
def m_stream_within (N : Nat) (least_1 : Int) (most_2 : Int) (l_3 : (List Int)) : Option (Bool) :=
  (m_slices_ContainsFunc_Lint_int N l_3 (fun x0 => m_stream_within_1 N x0 least_1 most_2)).bind fun r_4 =>
  some (!r_4)
theorem w_stream_within (N : Nat) (least_1 : Int) (most_2 : Int) (l_3 : (List Int)) (o : Bool) (h : m_stream_within N least_1 most_2 l_3 = some o) :
    KC Try.prog 28 [.int .i64 least_1, .int .i64 most_2, sl_int false l_3] (.bool o) [] := by
  unfold m_stream_within at h
  refine con_l [] [] seat Try.func28 rfl ent_28 (by kernel_rfl) rfl rfl (by simp) ?_; intro base I hI; (conv => cbv)
  refine L_call hI h (fun v hv => w_slices_ContainsFunc_Lint_int N l_3 (fun x0 => m_stream_within_1 N x0 least_1 most_2) 56 (KV.toDL [.ptr [.int .i64 least_1], .ptr [.int .i64 most_2]]) rfl (fun x0 r hr => KD_of (caps := [.ptr [.int .i64 least_1], .ptr [.int .i64 most_2]]) (w_stream_within_1 N x0 least_1 most_2 r hr)) v hv) (by subst_vars; exact ⟨(leD_refl _), (leD_refl _), rfl⟩) ?_; clear h; intro r_4 h; (conv => cbv)
  cases h
  subst_vars
  exact ⟨lE, rfl⟩
def m_stream_isSpan (N : Nat) (s_1 : api_Span) (least_2 : Int) (most_3 : Int) : Option (Bool) :=
  (show Option (Bool) from
    (m_stream_within N least_2 most_3 [s_1.Low, s_1.High]).bind fun r_6 =>
    if r_6 then
      some (icmpR .leq s_1.Low s_1.High)
    else
      some false).bind fun q => match q with
  | v_5 =>
    some v_5
theorem w_stream_isSpan (N : Nat) (s_1 : api_Span) (least_2 : Int) (most_3 : Int) (o : Bool) (h : m_stream_isSpan N s_1 least_2 most_3 = some o) :
    KC Try.prog 58 [.agg [.int .i64 s_1.Low, .int .i64 s_1.High], .int .i64 least_2, .int .i64 most_3] (.bool o) [] := by
  unfold m_stream_isSpan at h
  refine con_l [] [1000001] seat Try.func58 rfl ent_58 (by kernel_rfl) rfl rfl (by simp) ?_; intro base I hI; (conv => cbv)
  refine L_cut hI seat [] (by kernel_rfl) h (fun q => match q with | v_5 => .normal) (fun q => match q with | v_5 => ⟨22, [(6, .bool v_5)], [], [], 0⟩) ?_ ?_; all_goals clear h
  · intro x h R hR
    (conv => cbv)
    refine L_call hI h (fun v hv => w_stream_within N least_2 most_3 [s_1.Low, s_1.High] v hv) (by subst_vars; exact ⟨(leD_refl _), (leD_refl _), ⟨.inl rfl, rfl, leDLL_refl _⟩, rfl⟩) ?_; clear h; intro r_6 h; (conv => cbv)
    refine L_tst hI h (by subst_vars; rfl) ?_ ?_ <;> clear h <;> intro h
    · exact hR _ _ (Option.some.inj h).symm (by subst_vars; exact weak_l rfl rfl ⟨lE, trivial⟩ trivial trivial)
    · exact hR _ _ (Option.some.inj h).symm (by subst_vars; exact weak_l rfl rfl ⟨lE, trivial⟩ trivial trivial)
  · intro v_5 h
    (conv => cbv)
    cases h
    subst_vars
    exact ⟨lE, rfl⟩
def m_stream_checkMill (N : Nat) (m_1 : api_StreamMill) : Option (Int) :=
  (show Option (Bool) from
    (m_stream_within N 1 8 [m_1.Hammers]).bind fun r_8 =>
    if !r_8 then
      some true
    else
      (m_stream_within N 0 100 [m_1.Takes]).bind fun r_9 =>
      if !r_9 then
        some true
      else
        (m_stream_isSpan N m_1.Blows 0 5000).bind fun r_10 =>
        if !r_10 then
          some true
        else
          (m_stream_within N 0 500 [m_1.Holds]).bind fun r_11 =>
          if !r_11 then
            some true
          else
            (m_stream_isSpan N m_1.Now 0 m_1.Holds).bind fun r_12 =>
            some (!r_12)).bind fun q => match q with
  | v_7 =>
    if v_7 then
      some 2
    else
      some 0
theorem w_stream_checkMill (N : Nat) (m_1 : api_StreamMill) (o : Int) (h : m_stream_checkMill N m_1 = some o) :
    KC Try.prog 40 [.agg [.int .i64 m_1.Hammers, .int .i64 m_1.Takes, .int .i64 m_1.Blows.Low, .int .i64 m_1.Blows.High, .int .i64 m_1.Holds, .int .i64 m_1.Now.Low, .int .i64 m_1.Now.High]] (.int .i64 o) [] := by
  unfold m_stream_checkMill at h
  refine con_l [] [1000001] seat Try.func40 rfl ent_40 (by kernel_rfl) rfl rfl (by simp) ?_; intro base I hI; (conv => cbv)
  refine L_cut hI seat [] (by kernel_rfl) h (fun q => match q with | v_7 => .normal) (fun q => match q with | v_7 => ⟨36, [(35, .bool v_7)], [], [], 0⟩) ?_ ?_; all_goals clear h
  · intro x h R hR
    (conv => cbv)
    refine L_call hI h (fun v hv => w_stream_within N 1 8 [m_1.Hammers] v hv) (by subst_vars; exact ⟨(leD_refl _), (leD_refl _), ⟨.inl rfl, rfl, leDLL_refl _⟩, rfl⟩) ?_; clear h; intro r_8 h; (conv => cbv)
    refine L_tst hI h (by subst_vars; rfl) ?_ ?_ <;> clear h <;> intro h
    · exact hR _ _ (Option.some.inj h).symm (by subst_vars; exact weak_l rfl rfl ⟨lE, trivial⟩ trivial trivial)
    · refine L_call hI h (fun v hv => w_stream_within N 0 100 [m_1.Takes] v hv) (by subst_vars; exact ⟨(leD_refl _), (leD_refl _), ⟨.inl rfl, rfl, leDLL_refl _⟩, rfl⟩) ?_; clear h; intro r_9 h; (conv => cbv)
      refine L_tst hI h (by subst_vars; rfl) ?_ ?_ <;> clear h <;> intro h
      · exact hR _ _ (Option.some.inj h).symm (by subst_vars; exact weak_l rfl rfl ⟨lE, trivial⟩ trivial trivial)
      · refine L_call hI h (fun v hv => w_stream_isSpan N m_1.Blows 0 5000 v hv) (by subst_vars; exact ⟨(leD_refl _), (leD_refl _), (leD_refl _), rfl⟩) ?_; clear h; intro r_10 h; (conv => cbv)
        refine L_tst hI h (by subst_vars; rfl) ?_ ?_ <;> clear h <;> intro h
        · exact hR _ _ (Option.some.inj h).symm (by subst_vars; exact weak_l rfl rfl ⟨lE, trivial⟩ trivial trivial)
        · refine L_call hI h (fun v hv => w_stream_within N 0 500 [m_1.Holds] v hv) (by subst_vars; exact ⟨(leD_refl _), (leD_refl _), ⟨.inl rfl, rfl, leDLL_refl _⟩, rfl⟩) ?_; clear h; intro r_11 h; (conv => cbv)
          refine L_tst hI h (by subst_vars; rfl) ?_ ?_ <;> clear h <;> intro h
          · exact hR _ _ (Option.some.inj h).symm (by subst_vars; exact weak_l rfl rfl ⟨lE, trivial⟩ trivial trivial)
          · refine L_call hI h (fun v hv => w_stream_isSpan N m_1.Now 0 m_1.Holds v hv) (by subst_vars; exact ⟨(leD_refl _), (leD_refl _), (leD_refl _), rfl⟩) ?_; clear h; intro r_12 h; (conv => cbv)
            exact hR _ _ (Option.some.inj h).symm (by subst_vars; exact weak_l rfl rfl ⟨lE, trivial⟩ trivial trivial)
  · intro v_7 h
    (conv => cbv)
    refine L_tst hI h (by subst_vars; rfl) ?_ ?_ <;> clear h <;> intro h
    · cases h
      subst_vars
      exact ⟨lE, rfl⟩
    · cases h
      subst_vars
      exact ⟨lE, rfl⟩
def m_slices_IndexFunc_Lapi_Span_api_Span_L1 (N : Nat) (v_3 : Int) (s_1 : (List api_Span)) (f_2 : api_Span → Option Bool) : Int → Option ((Int) ⊕ ((Int) ⊕ (Unit)))
  | v_6 =>
    if icmpR .lss v_6 v_3 then
      (getO d_api_Span s_1 v_6).bind fun x_10 =>
      (f_2 x_10).bind fun v_11 =>
      if v_11 then
        some (.inr (.inl v_6))
      else
        some (.inl (iopR .add .i64 v_6 1))
    else
      some (.inr (.inr ()))
def m_slices_IndexFunc_Lapi_Span_api_Span (N : Nat) (s_1 : (List api_Span)) (f_2 : api_Span → Option Bool) : Option (Int) :=
  letO (((s_1.length : Nat) : Int) : Int) fun v_3 =>
  (loopO (m_slices_IndexFunc_Lapi_Span_api_Span_L1 N v_3 s_1 f_2) N 0).bind fun q => match q with
  | (.inl v_9) =>
    some v_9
  | (.inr ()) =>
    some (-1)
theorem w_slices_IndexFunc_Lapi_Span_api_Span (N : Nat) (s_1 : (List api_Span)) (f_2 : api_Span → Option Bool) (kf_2 : Nat) (dsf_2 : List D) (hdf_2 : noAggD dsf_2 = true) (hpf_2 : ∀ x0 r, f_2 x0 = some r → KD Try.prog kf_2 [.agg [.int .i64 x0.Low, .int .i64 x0.High]] dsf_2 (.bool r)) (o : Int) (h : m_slices_IndexFunc_Lapi_Span_api_Span N s_1 f_2 = some o) :
    KC Try.prog 59 [sl_api_Span false s_1, .d (.fn kf_2 dsf_2)] (.int .i64 o) [] := by
  unfold m_slices_IndexFunc_Lapi_Span_api_Span at h
  refine con_l [] [] seat Try.func59 rfl ent_59 (by kernel_rfl) rfl rfl (by simp) ?_; intro base I hI; (conv => cbv)
  replace h := letO_of h; obtain ⟨v_3, hev_3, h⟩ := h
  refine L_loop hI seat [] (by kernel_rfl) h (fun q => match q with | v_6 => ⟨19, [(0, sl_api_Span false s_1), (1, .d (.fn kf_2 dsf_2)), (7, .int .i64 v_3), (8, .int .i64 v_6)], [], [], 0⟩) (fun q => match q with | (.inl v_9) => .ret | (.inr ()) => .exit 0) (fun q => match q with | (.inl v_9) => ⟨19, [(4, .int .i64 v_9)], [], [], 0⟩ | (.inr ()) => ⟨19, [], [], [], 0⟩) (by subst_vars; exact weak_l rfl rfl ⟨LV_sl, lR, lE, lE, trivial⟩ trivial trivial) (by intro q; rcases q with (v_9 | _) <;> (intro e; exact Exit.noConfusion e)) ?_ ?_; all_goals clear h
  · intro v_6 x h R hR hX
    rw [m_slices_IndexFunc_Lapi_Span_api_Span_L1] at h
    (conv => cbv)
    refine L_tst hI h (by subst_vars; rfl) ?_ ?_ <;> clear h <;> intro h
    · refine L_get hI h (fun g => by subst_vars; exact g) ?_; clear h; intro hc x_10 hxx_10 h
      refine K_conj hI (by subst_vars; exact hdf_2) ?_
      refine L_callD hI h (args' := [.agg [.int .i64 x_10.Low, .int .i64 x_10.High]]) (fun v hv => hpf_2 x_10 v hv) (by subst_vars; rfl) ?_; clear h; intro v_11 h; (conv => cbv)
      refine L_tst hI h (by subst_vars; rfl) ?_ ?_ <;> clear h <;> intro h
      · exact hX _ _ (Option.some.inj h).symm (by subst_vars; exact weak_l rfl rfl ⟨lE, trivial⟩ trivial trivial)
      · exact hR _ _ (Option.some.inj h).symm (by subst_vars; exact weak_l rfl rfl ⟨LV_sl, lR, lE, lE, trivial⟩ trivial trivial)
    · exact hX _ _ (Option.some.inj h).symm (by subst_vars; exact weak_l rfl rfl trivial trivial trivial)
  · intro q h
    rcases q with (v_9 | _)
    · (conv => cbv)
      cases h
      subst_vars
      exact ⟨lE, rfl⟩
    · (conv => cbv)
      cases h
      subst_vars
      exact ⟨lE, rfl⟩
def m_slices_ContainsFunc_Lapi_Span_api_Span (N : Nat) (s_1 : (List api_Span)) (f_2 : api_Span → Option Bool) : Option (Bool) :=
  (m_slices_IndexFunc_Lapi_Span_api_Span N s_1 f_2).bind fun r_3 =>
  some (icmpR .geq r_3 0)
theorem w_slices_ContainsFunc_Lapi_Span_api_Span (N : Nat) (s_1 : (List api_Span)) (f_2 : api_Span → Option Bool) (kf_2 : Nat) (dsf_2 : List D) (hdf_2 : noAggD dsf_2 = true) (hpf_2 : ∀ x0 r, f_2 x0 = some r → KD Try.prog kf_2 [.agg [.int .i64 x0.Low, .int .i64 x0.High]] dsf_2 (.bool r)) (o : Bool) (h : m_slices_ContainsFunc_Lapi_Span_api_Span N s_1 f_2 = some o) :
    KC Try.prog 44 [sl_api_Span false s_1, .d (.fn kf_2 dsf_2)] (.bool o) [] := by
  unfold m_slices_ContainsFunc_Lapi_Span_api_Span at h
  refine con_l [] [] seat Try.func44 rfl ent_44 (by kernel_rfl) rfl rfl (by simp) ?_; intro base I hI; (conv => cbv)
  refine L_call hI h (fun v hv => w_slices_IndexFunc_Lapi_Span_api_Span N s_1 f_2 kf_2 dsf_2 hdf_2 hpf_2 v hv) (by subst_vars; exact ⟨(leD_refl _), (leD_refl _), rfl⟩) ?_; clear h; intro r_3 h; (conv => cbv)
  cases h
  subst_vars
  exact ⟨lE, rfl⟩
def m_stream_Check_1 (N : Nat) (s_1 : api_Span) : Option (Bool) :=
  (m_stream_isSpan N s_1 0 500).bind fun r_2 =>
  some (!r_2)
theorem w_stream_Check_1 (N : Nat) (s_1 : api_Span) (o : Bool) (h : m_stream_Check_1 N s_1 = some o) :
    KC Try.prog 72 [.agg [.int .i64 s_1.Low, .int .i64 s_1.High]] (.bool o) [] := by
  unfold m_stream_Check_1 at h
  refine con_l [] [] seat Try.func72 rfl ent_72 (by kernel_rfl) rfl rfl (by simp) ?_; intro base I hI; (conv => cbv)
  refine L_call hI h (fun v hv => w_stream_isSpan N s_1 0 500 v hv) (by subst_vars; exact ⟨(leD_refl _), (leD_refl _), (leD_refl _), rfl⟩) ?_; clear h; intro r_2 h; (conv => cbv)
  cases h
  subst_vars
  exact ⟨lE, rfl⟩
def m_stream_Check (N : Nat) (m_1 : api_StreamMill) (flows_2 : (List api_Span)) : Option (Int) :=
  (m_stream_checkMill N m_1).bind fun r_3 =>
  if icmpR .neq r_3 0 then
    some r_3
  else
    if icmpR .gtr ((flows_2.length : Nat) : Int) 24 then
      some 5
    else
      if icmpR .eql ((flows_2.length : Nat) : Int) 0 then
        some 7
      else
        (m_slices_ContainsFunc_Lapi_Span_api_Span N flows_2 (fun x0 => m_stream_Check_1 N x0)).bind fun r_4 =>
        if r_4 then
          some 3
        else
          some 0
theorem w_stream_Check (N : Nat) (m_1 : api_StreamMill) (flows_2 : (List api_Span)) (o : Int) (h : m_stream_Check N m_1 flows_2 = some o) :
    KC Try.prog 55 [.agg [.int .i64 m_1.Hammers, .int .i64 m_1.Takes, .int .i64 m_1.Blows.Low, .int .i64 m_1.Blows.High, .int .i64 m_1.Holds, .int .i64 m_1.Now.Low, .int .i64 m_1.Now.High], sl_api_Span false flows_2] (.int .i64 o) [] := by
  unfold m_stream_Check at h
  refine con_l [] [] seat Try.func55 rfl ent_55 (by kernel_rfl) rfl rfl (by simp) ?_; intro base I hI; (conv => cbv)
  refine L_call hI h (fun v hv => w_stream_checkMill N m_1 v hv) (by subst_vars; exact ⟨(leD_refl _), rfl⟩) ?_; clear h; intro r_3 h; (conv => cbv)
  refine L_tst hI h (by subst_vars; rfl) ?_ ?_ <;> clear h <;> intro h
  · cases h
    subst_vars
    exact ⟨lE, rfl⟩
  · refine L_tst hI h (by subst_vars; rfl) ?_ ?_ <;> clear h <;> intro h
    · cases h
      subst_vars
      exact ⟨lE, rfl⟩
    · refine L_tst hI h (by subst_vars; rfl) ?_ ?_ <;> clear h <;> intro h
      · cases h
        subst_vars
        exact ⟨lE, rfl⟩
      · refine L_call hI h (fun v hv => w_slices_ContainsFunc_Lapi_Span_api_Span N flows_2 (fun x0 => m_stream_Check_1 N x0) 72 (KV.toDL []) rfl (fun x0 r hr => KD_of (caps := []) (w_stream_Check_1 N x0 r hr)) v hv) (by subst_vars; exact ⟨(leD_refl _), (leD_refl _), rfl⟩) ?_; clear h; intro r_4 h; (conv => cbv)
        refine L_tst hI h (by subst_vars; rfl) ?_ ?_ <;> clear h <;> intro h
        · cases h
          subst_vars
          exact ⟨lE, rfl⟩
        · cases h
          subst_vars
          exact ⟨lE, rfl⟩
def m_stream_open (N : Nat) (m_1 : api_StreamMill) (flows_2 : (List api_Span)) : Option (stream_valley × Int) :=
  (m_stream_Check N m_1 flows_2).bind fun r_3 =>
  some ((stream_valley.mk m_1 flows_2), r_3)
theorem w_stream_open (N : Nat) (m_1 : api_StreamMill) (flows_2 : (List api_Span)) (o : stream_valley × Int) (h : m_stream_open N m_1 flows_2 = some o) :
    KC Try.prog 27 [.agg [.int .i64 m_1.Hammers, .int .i64 m_1.Takes, .int .i64 m_1.Blows.Low, .int .i64 m_1.Blows.High, .int .i64 m_1.Holds, .int .i64 m_1.Now.Low, .int .i64 m_1.Now.High], sl_api_Span false flows_2] (.tup [.agg [.int .i64 o.1.StreamMill.Hammers, .int .i64 o.1.StreamMill.Takes, .int .i64 o.1.StreamMill.Blows.Low, .int .i64 o.1.StreamMill.Blows.High, .int .i64 o.1.StreamMill.Holds, .int .i64 o.1.StreamMill.Now.Low, .int .i64 o.1.StreamMill.Now.High, sl_api_Span false o.1.flows], .int .i64 o.2]) [] := by
  unfold m_stream_open at h
  refine con_l [] [4000001] seat Try.func27 rfl ent_27 (by kernel_rfl) rfl rfl (by simp) ?_; intro base I hI; (conv => cbv)
  refine L_call hI h (fun v hv => w_stream_Check N m_1 flows_2 v hv) (by subst_vars; exact ⟨(leD_refl _), (leD_refl _), rfl⟩) ?_; clear h; intro r_3 h; (conv => cbv)
  cases h
  subst_vars
  exact ⟨(LV_tup ⟨(LV_agg ⟨lE, lE, lE, lE, lE, lE, lE, LV_sl, rfl⟩), lE, rfl⟩), rfl⟩
def m_top_firCloth (N : Nat) (c_1 : api_Cloth) : Option (api_Cloth) :=
  if fitsN (c_1.Tracks.length) 32 then
    if fitsN (c_1.Measures.length) 32 then
      some c_1
    else none
  else none
theorem w_top_firCloth (N : Nat) (c_1 : api_Cloth) (o : api_Cloth) (h : m_top_firCloth N c_1 = some o) :
    KC Try.prog 9 [.agg [sl_api_ClothTrack false c_1.Tracks, sl_api_ClothMeasure false c_1.Measures]] (.agg [sl_api_ClothTrack false o.Tracks, sl_api_ClothMeasure false o.Measures]) [] := by
  unfold m_top_firCloth at h
  refine con_l [] [] seat Try.func9 rfl ent_9 (by kernel_rfl) rfl rfl (by simp) ?_; intro base I hI; (conv => cbv)
  refine L_conj hI h (fun g => by subst_vars; exact g) ?_; clear h; intro hc h
  refine L_conj hI h (fun g => by subst_vars; exact g) ?_; clear h; intro hc h
  cases h
  subst_vars
  exact ⟨(LV_agg ⟨LV_sl, LV_sl, rfl⟩), rfl⟩
def m_slices_IndexFunc_Lapi_ClothTrack_api_ClothTrack_L1 (N : Nat) (v_3 : Int) (s_1 : (List api_ClothTrack)) (f_2 : api_ClothTrack → Option Bool) : Int → Option ((Int) ⊕ ((Int) ⊕ (Unit)))
  | v_6 =>
    if icmpR .lss v_6 v_3 then
      (getO d_api_ClothTrack s_1 v_6).bind fun x_10 =>
      (f_2 x_10).bind fun v_11 =>
      if v_11 then
        some (.inr (.inl v_6))
      else
        some (.inl (iopR .add .i64 v_6 1))
    else
      some (.inr (.inr ()))
def m_slices_IndexFunc_Lapi_ClothTrack_api_ClothTrack (N : Nat) (s_1 : (List api_ClothTrack)) (f_2 : api_ClothTrack → Option Bool) : Option (Int) :=
  letO (((s_1.length : Nat) : Int) : Int) fun v_3 =>
  (loopO (m_slices_IndexFunc_Lapi_ClothTrack_api_ClothTrack_L1 N v_3 s_1 f_2) N 0).bind fun q => match q with
  | (.inl v_9) =>
    some v_9
  | (.inr ()) =>
    some (-1)
theorem w_slices_IndexFunc_Lapi_ClothTrack_api_ClothTrack (N : Nat) (s_1 : (List api_ClothTrack)) (f_2 : api_ClothTrack → Option Bool) (kf_2 : Nat) (dsf_2 : List D) (hdf_2 : noAggD dsf_2 = true) (hpf_2 : ∀ x0 r, f_2 x0 = some r → KD Try.prog kf_2 [.agg [.int .i64 x0.First.Low, .int .i64 x0.First.High, .int .i64 x0.Rate.Low, .int .i64 x0.Rate.High]] dsf_2 (.bool r)) (o : Int) (h : m_slices_IndexFunc_Lapi_ClothTrack_api_ClothTrack N s_1 f_2 = some o) :
    KC Try.prog 74 [sl_api_ClothTrack false s_1, .d (.fn kf_2 dsf_2)] (.int .i64 o) [] := by
  unfold m_slices_IndexFunc_Lapi_ClothTrack_api_ClothTrack at h
  refine con_l [] [] seat Try.func74 rfl ent_74 (by kernel_rfl) rfl rfl (by simp) ?_; intro base I hI; (conv => cbv)
  replace h := letO_of h; obtain ⟨v_3, hev_3, h⟩ := h
  refine L_loop hI seat [] (by kernel_rfl) h (fun q => match q with | v_6 => ⟨19, [(0, sl_api_ClothTrack false s_1), (1, .d (.fn kf_2 dsf_2)), (7, .int .i64 v_3), (8, .int .i64 v_6)], [], [], 0⟩) (fun q => match q with | (.inl v_9) => .ret | (.inr ()) => .exit 0) (fun q => match q with | (.inl v_9) => ⟨19, [(4, .int .i64 v_9)], [], [], 0⟩ | (.inr ()) => ⟨19, [], [], [], 0⟩) (by subst_vars; exact weak_l rfl rfl ⟨LV_sl, lR, lE, lE, trivial⟩ trivial trivial) (by intro q; rcases q with (v_9 | _) <;> (intro e; exact Exit.noConfusion e)) ?_ ?_; all_goals clear h
  · intro v_6 x h R hR hX
    rw [m_slices_IndexFunc_Lapi_ClothTrack_api_ClothTrack_L1] at h
    (conv => cbv)
    refine L_tst hI h (by subst_vars; rfl) ?_ ?_ <;> clear h <;> intro h
    · refine L_get hI h (fun g => by subst_vars; exact g) ?_; clear h; intro hc x_10 hxx_10 h
      refine K_conj hI (by subst_vars; exact hdf_2) ?_
      refine L_callD hI h (args' := [.agg [.int .i64 x_10.First.Low, .int .i64 x_10.First.High, .int .i64 x_10.Rate.Low, .int .i64 x_10.Rate.High]]) (fun v hv => hpf_2 x_10 v hv) (by subst_vars; rfl) ?_; clear h; intro v_11 h; (conv => cbv)
      refine L_tst hI h (by subst_vars; rfl) ?_ ?_ <;> clear h <;> intro h
      · exact hX _ _ (Option.some.inj h).symm (by subst_vars; exact weak_l rfl rfl ⟨lE, trivial⟩ trivial trivial)
      · exact hR _ _ (Option.some.inj h).symm (by subst_vars; exact weak_l rfl rfl ⟨LV_sl, lR, lE, lE, trivial⟩ trivial trivial)
    · exact hX _ _ (Option.some.inj h).symm (by subst_vars; exact weak_l rfl rfl trivial trivial trivial)
  · intro q h
    rcases q with (v_9 | _)
    · (conv => cbv)
      cases h
      subst_vars
      exact ⟨lE, rfl⟩
    · (conv => cbv)
      cases h
      subst_vars
      exact ⟨lE, rfl⟩
def m_slices_ContainsFunc_Lapi_ClothTrack_api_ClothTrack (N : Nat) (s_1 : (List api_ClothTrack)) (f_2 : api_ClothTrack → Option Bool) : Option (Bool) :=
  (m_slices_IndexFunc_Lapi_ClothTrack_api_ClothTrack N s_1 f_2).bind fun r_3 =>
  some (icmpR .geq r_3 0)
theorem w_slices_ContainsFunc_Lapi_ClothTrack_api_ClothTrack (N : Nat) (s_1 : (List api_ClothTrack)) (f_2 : api_ClothTrack → Option Bool) (kf_2 : Nat) (dsf_2 : List D) (hdf_2 : noAggD dsf_2 = true) (hpf_2 : ∀ x0 r, f_2 x0 = some r → KD Try.prog kf_2 [.agg [.int .i64 x0.First.Low, .int .i64 x0.First.High, .int .i64 x0.Rate.Low, .int .i64 x0.Rate.High]] dsf_2 (.bool r)) (o : Bool) (h : m_slices_ContainsFunc_Lapi_ClothTrack_api_ClothTrack N s_1 f_2 = some o) :
    KC Try.prog 61 [sl_api_ClothTrack false s_1, .d (.fn kf_2 dsf_2)] (.bool o) [] := by
  unfold m_slices_ContainsFunc_Lapi_ClothTrack_api_ClothTrack at h
  refine con_l [] [] seat Try.func61 rfl ent_61 (by kernel_rfl) rfl rfl (by simp) ?_; intro base I hI; (conv => cbv)
  refine L_call hI h (fun v hv => w_slices_IndexFunc_Lapi_ClothTrack_api_ClothTrack N s_1 f_2 kf_2 dsf_2 hdf_2 hpf_2 v hv) (by subst_vars; exact ⟨(leD_refl _), (leD_refl _), rfl⟩) ?_; clear h; intro r_3 h; (conv => cbv)
  cases h
  subst_vars
  exact ⟨lE, rfl⟩
def m_cloth_within_1 (N : Nat) (n_1 : Int) (p_2 : Int) (p_3 : Int) : Option (Bool) :=
  (show Option (Bool) from
    if icmpR .lss n_1 p_2 then
      some true
    else
      some (icmpR .gtr n_1 p_3)).bind fun q => match q with
  | v_4 =>
    some v_4
theorem w_cloth_within_1 (N : Nat) (n_1 : Int) (p_2 : Int) (p_3 : Int) (o : Bool) (h : m_cloth_within_1 N n_1 p_2 p_3 = some o) :
    KC Try.prog 51 [.int .i64 n_1, .ptr [.int .i64 p_2], .ptr [.int .i64 p_3]] (.bool o) [] := by
  unfold m_cloth_within_1 at h
  refine con_l [] [1000001] seat Try.func51 rfl ent_51 (by kernel_rfl) rfl rfl (by simp) ?_; intro base I hI; (conv => cbv)
  refine L_cut hI seat [] (by kernel_rfl) h (fun q => match q with | v_4 => .normal) (fun q => match q with | v_4 => ⟨13, [(4, .bool v_4)], [], [], 0⟩) ?_ ?_; all_goals clear h
  · intro x h R hR
    (conv => cbv)
    refine L_tst hI h (by subst_vars; rfl) ?_ ?_ <;> clear h <;> intro h
    · exact hR _ _ (Option.some.inj h).symm (by subst_vars; exact weak_l rfl rfl ⟨lE, trivial⟩ trivial trivial)
    · exact hR _ _ (Option.some.inj h).symm (by subst_vars; exact weak_l rfl rfl ⟨lE, trivial⟩ trivial trivial)
  · intro v_4 h
    (conv => cbv)
    cases h
    subst_vars
    exact ⟨lE, rfl⟩
def m_cloth_within (N : Nat) (least_1 : Int) (most_2 : Int) (l_3 : (List Int)) : Option (Bool) :=
  (m_slices_ContainsFunc_Lint_int N l_3 (fun x0 => m_cloth_within_1 N x0 least_1 most_2)).bind fun r_4 =>
  some (!r_4)
theorem w_cloth_within (N : Nat) (least_1 : Int) (most_2 : Int) (l_3 : (List Int)) (o : Bool) (h : m_cloth_within N least_1 most_2 l_3 = some o) :
    KC Try.prog 25 [.int .i64 least_1, .int .i64 most_2, sl_int false l_3] (.bool o) [] := by
  unfold m_cloth_within at h
  refine con_l [] [] seat Try.func25 rfl ent_25 (by kernel_rfl) rfl rfl (by simp) ?_; intro base I hI; (conv => cbv)
  refine L_call hI h (fun v hv => w_slices_ContainsFunc_Lint_int N l_3 (fun x0 => m_cloth_within_1 N x0 least_1 most_2) 51 (KV.toDL [.ptr [.int .i64 least_1], .ptr [.int .i64 most_2]]) rfl (fun x0 r hr => KD_of (caps := [.ptr [.int .i64 least_1], .ptr [.int .i64 most_2]]) (w_cloth_within_1 N x0 least_1 most_2 r hr)) v hv) (by subst_vars; exact ⟨(leD_refl _), (leD_refl _), rfl⟩) ?_; clear h; intro r_4 h; (conv => cbv)
  cases h
  subst_vars
  exact ⟨lE, rfl⟩
def m_cloth_isSpan (N : Nat) (s_1 : api_Span) (least_2 : Int) (most_3 : Int) (wide_4 : Int) : Option (Bool) :=
  (show Option (Bool) from
    (m_cloth_within N least_2 most_3 [s_1.Low, s_1.High]).bind fun r_8 =>
    if r_8 then
      (m_cloth_within N 0 wide_4 [iopR .sub .i64 s_1.High s_1.Low]).bind fun r_9 =>
      some r_9
    else
      some false).bind fun q => match q with
  | v_7 =>
    some v_7
theorem w_cloth_isSpan (N : Nat) (s_1 : api_Span) (least_2 : Int) (most_3 : Int) (wide_4 : Int) (o : Bool) (h : m_cloth_isSpan N s_1 least_2 most_3 wide_4 = some o) :
    KC Try.prog 43 [.agg [.int .i64 s_1.Low, .int .i64 s_1.High], .int .i64 least_2, .int .i64 most_3, .int .i64 wide_4] (.bool o) [] := by
  unfold m_cloth_isSpan at h
  refine con_l [] [1000001] seat Try.func43 rfl ent_43 (by kernel_rfl) rfl rfl (by simp) ?_; intro base I hI; (conv => cbv)
  refine L_cut hI seat [] (by kernel_rfl) h (fun q => match q with | v_7 => .normal) (fun q => match q with | v_7 => ⟨27, [(8, .bool v_7)], [], [], 0⟩) ?_ ?_; all_goals clear h
  · intro x h R hR
    (conv => cbv)
    refine L_call hI h (fun v hv => w_cloth_within N least_2 most_3 [s_1.Low, s_1.High] v hv) (by subst_vars; exact ⟨(leD_refl _), (leD_refl _), ⟨.inl rfl, rfl, leDLL_refl _⟩, rfl⟩) ?_; clear h; intro r_8 h; (conv => cbv)
    refine L_tst hI h (by subst_vars; rfl) ?_ ?_ <;> clear h <;> intro h
    · refine L_call hI h (fun v hv => w_cloth_within N 0 wide_4 [iopR .sub .i64 s_1.High s_1.Low] v hv) (by subst_vars; exact ⟨(leD_refl _), (leD_refl _), ⟨.inl rfl, rfl, leDLL_refl _⟩, rfl⟩) ?_; clear h; intro r_9 h; (conv => cbv)
      exact hR _ _ (Option.some.inj h).symm (by subst_vars; exact weak_l rfl rfl ⟨lE, trivial⟩ trivial trivial)
    · exact hR _ _ (Option.some.inj h).symm (by subst_vars; exact weak_l rfl rfl ⟨lE, trivial⟩ trivial trivial)
  · intro v_7 h
    (conv => cbv)
    cases h
    subst_vars
    exact ⟨lE, rfl⟩
def m_cloth_isRate (N : Nat) (s_1 : api_Span) : Option (Bool) :=
  (m_cloth_isSpan N s_1 0 100 30).bind fun r_2 =>
  some r_2
theorem w_cloth_isRate (N : Nat) (s_1 : api_Span) (o : Bool) (h : m_cloth_isRate N s_1 = some o) :
    KC Try.prog 75 [.agg [.int .i64 s_1.Low, .int .i64 s_1.High]] (.bool o) [] := by
  unfold m_cloth_isRate at h
  refine con_l [] [] seat Try.func75 rfl ent_75 (by kernel_rfl) rfl rfl (by simp) ?_; intro base I hI; (conv => cbv)
  refine L_call hI h (fun v hv => w_cloth_isSpan N s_1 0 100 30 v hv) (by subst_vars; exact ⟨(leD_refl _), (leD_refl _), (leD_refl _), (leD_refl _), rfl⟩) ?_; clear h; intro r_2 h; (conv => cbv)
  cases h
  subst_vars
  exact ⟨lE, rfl⟩
def m_cloth_isTrack (N : Nat) (t_1 : api_ClothTrack) : Option (Bool) :=
  (show Option (Bool) from
    (m_cloth_isSpan N t_1.First 1 2000 60).bind fun r_5 =>
    if r_5 then
      (m_cloth_isRate N t_1.Rate).bind fun r_6 =>
      some r_6
    else
      some false).bind fun q => match q with
  | v_4 =>
    some v_4
theorem w_cloth_isTrack (N : Nat) (t_1 : api_ClothTrack) (o : Bool) (h : m_cloth_isTrack N t_1 = some o) :
    KC Try.prog 63 [.agg [.int .i64 t_1.First.Low, .int .i64 t_1.First.High, .int .i64 t_1.Rate.Low, .int .i64 t_1.Rate.High]] (.bool o) [] := by
  unfold m_cloth_isTrack at h
  refine con_l [] [1000001] seat Try.func63 rfl ent_63 (by kernel_rfl) rfl rfl (by simp) ?_; intro base I hI; (conv => cbv)
  refine L_cut hI seat [] (by kernel_rfl) h (fun q => match q with | v_4 => .normal) (fun q => match q with | v_4 => ⟨11, [(2, .bool v_4)], [], [], 0⟩) ?_ ?_; all_goals clear h
  · intro x h R hR
    (conv => cbv)
    refine L_call hI h (fun v hv => w_cloth_isSpan N t_1.First 1 2000 60 v hv) (by subst_vars; exact ⟨(leD_refl _), (leD_refl _), (leD_refl _), (leD_refl _), rfl⟩) ?_; clear h; intro r_5 h; (conv => cbv)
    refine L_tst hI h (by subst_vars; rfl) ?_ ?_ <;> clear h <;> intro h
    · refine L_call hI h (fun v hv => w_cloth_isRate N t_1.Rate v hv) (by subst_vars; exact ⟨(leD_refl _), rfl⟩) ?_; clear h; intro r_6 h; (conv => cbv)
      exact hR _ _ (Option.some.inj h).symm (by subst_vars; exact weak_l rfl rfl ⟨lE, trivial⟩ trivial trivial)
    · exact hR _ _ (Option.some.inj h).symm (by subst_vars; exact weak_l rfl rfl ⟨lE, trivial⟩ trivial trivial)
  · intro v_4 h
    (conv => cbv)
    cases h
    subst_vars
    exact ⟨lE, rfl⟩
def m_cloth_Check_1 (N : Nat) (t_1 : api_ClothTrack) : Option (Bool) :=
  (m_cloth_isTrack N t_1).bind fun r_2 =>
  some (!r_2)
theorem w_cloth_Check_1 (N : Nat) (t_1 : api_ClothTrack) (o : Bool) (h : m_cloth_Check_1 N t_1 = some o) :
    KC Try.prog 62 [.agg [.int .i64 t_1.First.Low, .int .i64 t_1.First.High, .int .i64 t_1.Rate.Low, .int .i64 t_1.Rate.High]] (.bool o) [] := by
  unfold m_cloth_Check_1 at h
  refine con_l [] [] seat Try.func62 rfl ent_62 (by kernel_rfl) rfl rfl (by simp) ?_; intro base I hI; (conv => cbv)
  refine L_call hI h (fun v hv => w_cloth_isTrack N t_1 v hv) (by subst_vars; exact ⟨(leD_refl _), rfl⟩) ?_; clear h; intro r_2 h; (conv => cbv)
  cases h
  subst_vars
  exact ⟨lE, rfl⟩
def m_slices_IndexFunc_Lapi_ClothMeasure_api_ClothMeasure_L1 (N : Nat) (v_3 : Int) (s_1 : (List api_ClothMeasure)) (f_2 : api_ClothMeasure → Option Bool) : Int → Option ((Int) ⊕ ((Int) ⊕ (Unit)))
  | v_6 =>
    if icmpR .lss v_6 v_3 then
      (getO d_api_ClothMeasure s_1 v_6).bind fun x_10 =>
      (f_2 x_10).bind fun v_11 =>
      if v_11 then
        some (.inr (.inl v_6))
      else
        some (.inl (iopR .add .i64 v_6 1))
    else
      some (.inr (.inr ()))
def m_slices_IndexFunc_Lapi_ClothMeasure_api_ClothMeasure (N : Nat) (s_1 : (List api_ClothMeasure)) (f_2 : api_ClothMeasure → Option Bool) : Option (Int) :=
  letO (((s_1.length : Nat) : Int) : Int) fun v_3 =>
  (loopO (m_slices_IndexFunc_Lapi_ClothMeasure_api_ClothMeasure_L1 N v_3 s_1 f_2) N 0).bind fun q => match q with
  | (.inl v_9) =>
    some v_9
  | (.inr ()) =>
    some (-1)
theorem w_slices_IndexFunc_Lapi_ClothMeasure_api_ClothMeasure (N : Nat) (s_1 : (List api_ClothMeasure)) (f_2 : api_ClothMeasure → Option Bool) (kf_2 : Nat) (dsf_2 : List D) (hdf_2 : noAggD dsf_2 = true) (hpf_2 : ∀ x0 r, f_2 x0 = some r → KD Try.prog kf_2 [.agg [.int .i64 x0.What, .int .i64 x0.Hour, .int .i64 x0.Reading, .int .i64 x0.Off]] dsf_2 (.bool r)) (o : Int) (h : m_slices_IndexFunc_Lapi_ClothMeasure_api_ClothMeasure N s_1 f_2 = some o) :
    KC Try.prog 76 [sl_api_ClothMeasure false s_1, .d (.fn kf_2 dsf_2)] (.int .i64 o) [] := by
  unfold m_slices_IndexFunc_Lapi_ClothMeasure_api_ClothMeasure at h
  refine con_l [] [] seat Try.func76 rfl ent_76 (by kernel_rfl) rfl rfl (by simp) ?_; intro base I hI; (conv => cbv)
  replace h := letO_of h; obtain ⟨v_3, hev_3, h⟩ := h
  refine L_loop hI seat [] (by kernel_rfl) h (fun q => match q with | v_6 => ⟨19, [(0, sl_api_ClothMeasure false s_1), (1, .d (.fn kf_2 dsf_2)), (7, .int .i64 v_3), (8, .int .i64 v_6)], [], [], 0⟩) (fun q => match q with | (.inl v_9) => .ret | (.inr ()) => .exit 0) (fun q => match q with | (.inl v_9) => ⟨19, [(4, .int .i64 v_9)], [], [], 0⟩ | (.inr ()) => ⟨19, [], [], [], 0⟩) (by subst_vars; exact weak_l rfl rfl ⟨LV_sl, lR, lE, lE, trivial⟩ trivial trivial) (by intro q; rcases q with (v_9 | _) <;> (intro e; exact Exit.noConfusion e)) ?_ ?_; all_goals clear h
  · intro v_6 x h R hR hX
    rw [m_slices_IndexFunc_Lapi_ClothMeasure_api_ClothMeasure_L1] at h
    (conv => cbv)
    refine L_tst hI h (by subst_vars; rfl) ?_ ?_ <;> clear h <;> intro h
    · refine L_get hI h (fun g => by subst_vars; exact g) ?_; clear h; intro hc x_10 hxx_10 h
      refine K_conj hI (by subst_vars; exact hdf_2) ?_
      refine L_callD hI h (args' := [.agg [.int .i64 x_10.What, .int .i64 x_10.Hour, .int .i64 x_10.Reading, .int .i64 x_10.Off]]) (fun v hv => hpf_2 x_10 v hv) (by subst_vars; rfl) ?_; clear h; intro v_11 h; (conv => cbv)
      refine L_tst hI h (by subst_vars; rfl) ?_ ?_ <;> clear h <;> intro h
      · exact hX _ _ (Option.some.inj h).symm (by subst_vars; exact weak_l rfl rfl ⟨lE, trivial⟩ trivial trivial)
      · exact hR _ _ (Option.some.inj h).symm (by subst_vars; exact weak_l rfl rfl ⟨LV_sl, lR, lE, lE, trivial⟩ trivial trivial)
    · exact hX _ _ (Option.some.inj h).symm (by subst_vars; exact weak_l rfl rfl trivial trivial trivial)
  · intro q h
    rcases q with (v_9 | _)
    · (conv => cbv)
      cases h
      subst_vars
      exact ⟨lE, rfl⟩
    · (conv => cbv)
      cases h
      subst_vars
      exact ⟨lE, rfl⟩
def m_slices_ContainsFunc_Lapi_ClothMeasure_api_ClothMeasure (N : Nat) (s_1 : (List api_ClothMeasure)) (f_2 : api_ClothMeasure → Option Bool) : Option (Bool) :=
  (m_slices_IndexFunc_Lapi_ClothMeasure_api_ClothMeasure N s_1 f_2).bind fun r_3 =>
  some (icmpR .geq r_3 0)
theorem w_slices_ContainsFunc_Lapi_ClothMeasure_api_ClothMeasure (N : Nat) (s_1 : (List api_ClothMeasure)) (f_2 : api_ClothMeasure → Option Bool) (kf_2 : Nat) (dsf_2 : List D) (hdf_2 : noAggD dsf_2 = true) (hpf_2 : ∀ x0 r, f_2 x0 = some r → KD Try.prog kf_2 [.agg [.int .i64 x0.What, .int .i64 x0.Hour, .int .i64 x0.Reading, .int .i64 x0.Off]] dsf_2 (.bool r)) (o : Bool) (h : m_slices_ContainsFunc_Lapi_ClothMeasure_api_ClothMeasure N s_1 f_2 = some o) :
    KC Try.prog 64 [sl_api_ClothMeasure false s_1, .d (.fn kf_2 dsf_2)] (.bool o) [] := by
  unfold m_slices_ContainsFunc_Lapi_ClothMeasure_api_ClothMeasure at h
  refine con_l [] [] seat Try.func64 rfl ent_64 (by kernel_rfl) rfl rfl (by simp) ?_; intro base I hI; (conv => cbv)
  refine L_call hI h (fun v hv => w_slices_IndexFunc_Lapi_ClothMeasure_api_ClothMeasure N s_1 f_2 kf_2 dsf_2 hdf_2 hpf_2 v hv) (by subst_vars; exact ⟨(leD_refl _), (leD_refl _), rfl⟩) ?_; clear h; intro r_3 h; (conv => cbv)
  cases h
  subst_vars
  exact ⟨lE, rfl⟩
def m_cloth_isWhat (N : Nat) (what_1 : Int) : Option (Bool) :=
  (m_cloth_within N 0 2 [what_1]).bind fun r_2 =>
  some r_2
theorem w_cloth_isWhat (N : Nat) (what_1 : Int) (o : Bool) (h : m_cloth_isWhat N what_1 = some o) :
    KC Try.prog 24 [.int .i64 what_1] (.bool o) [] := by
  unfold m_cloth_isWhat at h
  refine con_l [] [] seat Try.func24 rfl ent_24 (by kernel_rfl) rfl rfl (by simp) ?_; intro base I hI; (conv => cbv)
  refine L_call hI h (fun v hv => w_cloth_within N 0 2 [what_1] v hv) (by subst_vars; exact ⟨(leD_refl _), (leD_refl _), ⟨.inl rfl, rfl, leDLL_refl _⟩, rfl⟩) ?_; clear h; intro r_2 h; (conv => cbv)
  cases h
  subst_vars
  exact ⟨lE, rfl⟩
def m_cloth_isMeasure (N : Nat) (m_1 : api_ClothMeasure) : Option (Bool) :=
  (show Option (Bool) from
    (m_cloth_isWhat N m_1.What).bind fun r_7 =>
    if r_7 then
      (m_cloth_within N 0 48 [m_1.Hour]).bind fun r_8 =>
      if r_8 then
        (m_cloth_within N 0 2000 [m_1.Reading]).bind fun r_9 =>
        if r_9 then
          (m_cloth_within N 0 20 [m_1.Off]).bind fun r_10 =>
          some r_10
        else
          some false
      else
        some false
    else
      some false).bind fun q => match q with
  | v_6 =>
    some v_6
theorem w_cloth_isMeasure (N : Nat) (m_1 : api_ClothMeasure) (o : Bool) (h : m_cloth_isMeasure N m_1 = some o) :
    KC Try.prog 66 [.agg [.int .i64 m_1.What, .int .i64 m_1.Hour, .int .i64 m_1.Reading, .int .i64 m_1.Off]] (.bool o) [] := by
  unfold m_cloth_isMeasure at h
  refine con_l [] [1000001] seat Try.func66 rfl ent_66 (by kernel_rfl) rfl rfl (by simp) ?_; intro base I hI; (conv => cbv)
  refine L_cut hI seat [] (by kernel_rfl) h (fun q => match q with | v_6 => .normal) (fun q => match q with | v_6 => ⟨24, [(2, .bool v_6)], [], [], 0⟩) ?_ ?_; all_goals clear h
  · intro x h R hR
    (conv => cbv)
    refine L_call hI h (fun v hv => w_cloth_isWhat N m_1.What v hv) (by subst_vars; exact ⟨(leD_refl _), rfl⟩) ?_; clear h; intro r_7 h; (conv => cbv)
    refine L_tst hI h (by subst_vars; rfl) ?_ ?_ <;> clear h <;> intro h
    · refine L_call hI h (fun v hv => w_cloth_within N 0 48 [m_1.Hour] v hv) (by subst_vars; exact ⟨(leD_refl _), (leD_refl _), ⟨.inl rfl, rfl, leDLL_refl _⟩, rfl⟩) ?_; clear h; intro r_8 h; (conv => cbv)
      refine L_tst hI h (by subst_vars; rfl) ?_ ?_ <;> clear h <;> intro h
      · refine L_call hI h (fun v hv => w_cloth_within N 0 2000 [m_1.Reading] v hv) (by subst_vars; exact ⟨(leD_refl _), (leD_refl _), ⟨.inl rfl, rfl, leDLL_refl _⟩, rfl⟩) ?_; clear h; intro r_9 h; (conv => cbv)
        refine L_tst hI h (by subst_vars; rfl) ?_ ?_ <;> clear h <;> intro h
        · refine L_call hI h (fun v hv => w_cloth_within N 0 20 [m_1.Off] v hv) (by subst_vars; exact ⟨(leD_refl _), (leD_refl _), ⟨.inl rfl, rfl, leDLL_refl _⟩, rfl⟩) ?_; clear h; intro r_10 h; (conv => cbv)
          exact hR _ _ (Option.some.inj h).symm (by subst_vars; exact weak_l rfl rfl ⟨lE, trivial⟩ trivial trivial)
        · exact hR _ _ (Option.some.inj h).symm (by subst_vars; exact weak_l rfl rfl ⟨lE, trivial⟩ trivial trivial)
      · exact hR _ _ (Option.some.inj h).symm (by subst_vars; exact weak_l rfl rfl ⟨lE, trivial⟩ trivial trivial)
    · exact hR _ _ (Option.some.inj h).symm (by subst_vars; exact weak_l rfl rfl ⟨lE, trivial⟩ trivial trivial)
  · intro v_6 h
    (conv => cbv)
    cases h
    subst_vars
    exact ⟨lE, rfl⟩
def m_cloth_Check_2 (N : Nat) (m_1 : api_ClothMeasure) : Option (Bool) :=
  (m_cloth_isMeasure N m_1).bind fun r_2 =>
  some (!r_2)
theorem w_cloth_Check_2 (N : Nat) (m_1 : api_ClothMeasure) (o : Bool) (h : m_cloth_Check_2 N m_1 = some o) :
    KC Try.prog 65 [.agg [.int .i64 m_1.What, .int .i64 m_1.Hour, .int .i64 m_1.Reading, .int .i64 m_1.Off]] (.bool o) [] := by
  unfold m_cloth_Check_2 at h
  refine con_l [] [] seat Try.func65 rfl ent_65 (by kernel_rfl) rfl rfl (by simp) ?_; intro base I hI; (conv => cbv)
  refine L_call hI h (fun v hv => w_cloth_isMeasure N m_1 v hv) (by subst_vars; exact ⟨(leD_refl _), rfl⟩) ?_; clear h; intro r_2 h; (conv => cbv)
  cases h
  subst_vars
  exact ⟨lE, rfl⟩
def m_cloth_Check (N : Nat) (c_1 : api_Cloth) : Option (Int) :=
  (show Option (Bool) from
    if icmpR .neq ((c_1.Tracks.length : Nat) : Int) 3 then
      some true
    else
      (m_slices_ContainsFunc_Lapi_ClothTrack_api_ClothTrack N c_1.Tracks (fun x0 => m_cloth_Check_1 N x0)).bind fun r_4 =>
      some r_4).bind fun q => match q with
  | v_3 =>
    (show Option ((Int) ⊕ (Unit)) from
      if v_3 then
        some (.inl 4)
      else
        if icmpR .gtr ((c_1.Measures.length : Nat) : Int) 8 then
          some (.inl 5)
        else
          (m_slices_ContainsFunc_Lapi_ClothMeasure_api_ClothMeasure N c_1.Measures (fun x0 => m_cloth_Check_2 N x0)).bind fun r_7 =>
          if r_7 then
            some (.inl 2)
          else
            some (.inr ())).bind fun q => match q with
    | (.inl v_6) =>
      some v_6
    | (.inr ()) =>
      some 0
theorem w_cloth_Check (N : Nat) (c_1 : api_Cloth) (o : Int) (h : m_cloth_Check N c_1 = some o) :
    KC Try.prog 46 [.agg [sl_api_ClothTrack false c_1.Tracks, sl_api_ClothMeasure false c_1.Measures]] (.int .i64 o) [] := by
  unfold m_cloth_Check at h
  refine con_l [] [2000003] seat Try.func46 rfl ent_46 (by kernel_rfl) rfl rfl (by simp) ?_; intro base I hI; (conv => cbv)
  refine L_cut hI seat [] (by kernel_rfl) h (fun q => match q with | v_3 => .normal) (fun q => match q with | v_3 => ⟨20, [(1, .loc 0 0), (3, .bool v_3)], [(0, ⟨32, [sl_api_ClothTrack false c_1.Tracks, sl_api_ClothMeasure false c_1.Measures], true⟩)], [], 0⟩) ?_ ?_; all_goals clear h
  · intro x h R hR
    (conv => cbv)
    refine L_tst hI h (by subst_vars; rfl) ?_ ?_ <;> clear h <;> intro h
    · exact hR _ _ (Option.some.inj h).symm (by subst_vars; exact weak_l rfl rfl ⟨lR, lE, trivial⟩ ⟨lB ⟨LV_sl, LV_sl, rfl⟩, trivial⟩ trivial)
    · refine L_call hI h (fun v hv => w_slices_ContainsFunc_Lapi_ClothTrack_api_ClothTrack N c_1.Tracks (fun x0 => m_cloth_Check_1 N x0) 62 (KV.toDL []) rfl (fun x0 r hr => KD_of (caps := []) (w_cloth_Check_1 N x0 r hr)) v hv) (by subst_vars; exact ⟨(leD_refl _), (leD_refl _), rfl⟩) ?_; clear h; intro r_4 h; (conv => cbv)
      exact hR _ _ (Option.some.inj h).symm (by subst_vars; exact weak_l rfl rfl ⟨lR, lE, trivial⟩ ⟨lB ⟨LV_sl, LV_sl, rfl⟩, trivial⟩ trivial)
  · intro v_3 h
    (conv => cbv)
    refine L_cut hI seat [] (by kernel_rfl) h (fun q => match q with | (.inl v_6) => .ret | (.inr ()) => .normal) (fun q => match q with | (.inl v_6) => ⟨20, [(2, .int .i64 v_6)], [], [], 0⟩ | (.inr ()) => ⟨20, [], [], [], 0⟩) ?_ ?_; all_goals clear h
    · intro x h R hR
      (conv => cbv)
      refine L_tst hI h (by subst_vars; rfl) ?_ ?_ <;> clear h <;> intro h
      · exact hR _ _ (Option.some.inj h).symm (by subst_vars; exact weak_l rfl rfl ⟨lE, trivial⟩ trivial trivial)
      · refine L_tst hI h (by subst_vars; rfl) ?_ ?_ <;> clear h <;> intro h
        · exact hR _ _ (Option.some.inj h).symm (by subst_vars; exact weak_l rfl rfl ⟨lE, trivial⟩ trivial trivial)
        · refine L_call hI h (fun v hv => w_slices_ContainsFunc_Lapi_ClothMeasure_api_ClothMeasure N c_1.Measures (fun x0 => m_cloth_Check_2 N x0) 65 (KV.toDL []) rfl (fun x0 r hr => KD_of (caps := []) (w_cloth_Check_2 N x0 r hr)) v hv) (by subst_vars; exact ⟨(leD_refl _), (leD_refl _), rfl⟩) ?_; clear h; intro r_7 h; (conv => cbv)
          refine L_tst hI h (by subst_vars; rfl) ?_ ?_ <;> clear h <;> intro h
          · exact hR _ _ (Option.some.inj h).symm (by subst_vars; exact weak_l rfl rfl ⟨lE, trivial⟩ trivial trivial)
          · exact hR _ _ (Option.some.inj h).symm (by subst_vars; exact weak_l rfl rfl trivial trivial trivial)
    · intro q h
      rcases q with (v_6 | _)
      · (conv => cbv)
        cases h
        subst_vars
        exact ⟨lE, rfl⟩
      · (conv => cbv)
        cases h
        subst_vars
        exact ⟨lE, rfl⟩
def m_cloth_stretches (N : Nat) (c_1 : api_Cloth) (what_2 : Int) (without_3 : Int → Option Bool) : Option ((api_ClothTrack × api_Cloth × Int)) :=
  (getO d_api_ClothTrack c_1.Tracks what_2).bind fun x_4 =>
  some (x_4, c_1, what_2)
theorem w_cloth_stretches (N : Nat) (c_1 : api_Cloth) (what_2 : Int) (without_3 : Int → Option Bool) (kwithout_3 : Nat) (dswithout_3 : List D) (hdwithout_3 : noAggD dswithout_3 = true) (hpwithout_3 : ∀ x0 r, without_3 x0 = some r → KD Try.prog kwithout_3 [.int .i64 x0] dswithout_3 (.bool r)) (o : (api_ClothTrack × api_Cloth × Int)) (h : m_cloth_stretches N c_1 what_2 without_3 = some o) :
    KC Try.prog 48 [.agg [sl_api_ClothTrack false c_1.Tracks, sl_api_ClothMeasure false c_1.Measures], .int .i64 what_2, .d (.fn kwithout_3 dswithout_3)] (.dfn 68 [.ptr [.int .i64 o.1.First.Low, .int .i64 o.1.First.High, .int .i64 o.1.Rate.Low, .int .i64 o.1.Rate.High], .ptr [sl_api_ClothTrack false o.2.1.Tracks, sl_api_ClothMeasure false o.2.1.Measures], .ptr [.int .i64 o.2.2], .ptr [.d (.fn kwithout_3 dswithout_3)]]) [] := by
  unfold m_cloth_stretches at h
  refine con_l [] [] seat Try.func48 rfl ent_48 (by kernel_rfl) rfl rfl (by simp) ?_; intro base I hI; (conv => cbv)
  refine L_get hI h (fun g => by subst_vars; exact g) ?_; clear h; intro hc x_4 hxx_4 h
  cases h
  subst_vars
  exact ⟨lE, rfl⟩
def m_cloth_none (N : Nat) (i_1 : Int) : Option (Bool) :=
  some false
theorem w_cloth_none (N : Nat) (i_1 : Int) (o : Bool) (h : m_cloth_none N i_1 = some o) :
    KC Try.prog 49 [.int .i64 i_1] (.bool o) [] := by
  unfold m_cloth_none at h
  refine con_l [] [] seat Try.func49 rfl ent_49 (by kernel_rfl) rfl rfl (by simp) ?_; intro base I hI; (conv => cbv)
  cases h
  subst_vars
  exact ⟨lE, rfl⟩
def m_slices_AppendSeq_Lcloth_stretch_cloth_stretch_L1 (N : Nat) : cloth_stretch → (List cloth_stretch) → Option (((List cloth_stretch)) ⊕ (Empty))
  | y_2, l_3 =>
    if fitsN (l_3.length + 1) 24 then
      some (.inl (l_3 ++ [y_2]))
    else none
def m_slices_AppendSeq_Lcloth_stretch_cloth_stretch (N : Nat) (ys_1 : List (cloth_stretch)) : Option ((List cloth_stretch)) :=
  (rangeO (m_slices_AppendSeq_Lcloth_stretch_cloth_stretch_L1 N) ys_1 []).bind fun q => match q with
  | .inl l_3 =>
    some l_3
theorem w_slices_AppendSeq_Lcloth_stretch_cloth_stretch (N : Nat) (ys_1 : List (cloth_stretch)) (kys_1 : Nat) (dsys_1 : List D) (hdys_1 : noAggD dsys_1 = true) (hitys_1 : IterCon Try.prog kys_1 dsys_1 ((ys_1.map fun y => [.agg [.int .i64 y.Span.Low, .int .i64 y.Span.High, .int .i64 y.rate]]).map KV.toDL)) (o : (List cloth_stretch)) (h : m_slices_AppendSeq_Lcloth_stretch_cloth_stretch N ys_1 = some o) :
    KC Try.prog 67 [.nilsl, .d (.fn kys_1 dsys_1)] (sl_cloth_stretch false o) [] := by
  unfold m_slices_AppendSeq_Lcloth_stretch_cloth_stretch at h
  refine con_l [] [] seat Try.func67 rfl ent_67 (by kernel_rfl) rfl rfl (by simp) ?_; intro base I hI; (conv => cbv)
  refine W_weak hI (S' := ⟨13, [(2, .loc 0 0), (6, .d (.fn kys_1 dsys_1))], [(0, ⟨72, [.osl 1], true⟩)], [(1, ⟨109, 3, [.ls cloth_stretch d_cloth_stretch [] e_cloth_stretch], false, true⟩)], 0⟩) (by subst_vars; exact (weak_nilH 0 0 1 109 3 ⟨72, [.nilsl], true⟩ rfl rfl rfl rfl).trans (weak_l rfl rfl ⟨lR, lR, trivial⟩ ⟨lB ⟨lR, rfl⟩, trivial⟩ ⟨lO, trivial⟩)) ?_
  refine L_range hI seat [] (by kernel_rfl) (ys := ys_1) (kY := fun y_2 => [.agg [.int .i64 y_2.Span.Low, .int .i64 y_2.Span.High, .int .i64 y_2.rate]]) (hitys_1) hdys_1 h (fun q => match q with | l_3 => ([(0, ⟨72, [.osl 1], true⟩)], [(1, ⟨109, 3, [.ls cloth_stretch d_cloth_stretch l_3 e_cloth_stretch], false, true⟩)])) (fun q => nomatch q) (fun q => nomatch q) rfl (fun _ => ⟨rfl, rfl⟩) 1 rfl (by subst_vars; exact ⟨lB ⟨lR, rfl⟩, trivial⟩) (by subst_vars; exact ⟨lO, trivial⟩) (by intro q; rcases q with ⟨⟩ <;> (intro e; exact Exit.noConfusion e)) (by intro q; rcases q with ⟨⟩ <;> (intro _ e; exact Exit.noConfusion e)) (by intro q; rcases q with ⟨⟩ <;> (intro e; exact Exit.noConfusion e)) ?_ ?_ ?_; all_goals clear h
  · intro y_2 l_3 x h l I hI R hR hX
    rw [m_slices_AppendSeq_Lcloth_stretch_cloth_stretch_L1] at h
    (conv => cbv)
    refine L_conj hI h (fun g => by subst_vars; exact g) ?_; clear h; intro hc h
    exact hR _ _ (Option.some.inj h).symm (by subst_vars; exact ⟨lB ⟨lR, rfl⟩, trivial⟩) (by subst_vars; exact ⟨lO, trivial⟩)
  · intro l_3 h
    (conv => cbv)
    cases h
    subst_vars
    exact ⟨LV_sl, rfl⟩
  · intro q h
    rcases q with ⟨⟩
def m_slices_Collect_cloth_stretch (N : Nat) (ys_1 : List (cloth_stretch)) : Option ((List cloth_stretch)) :=
  (m_slices_AppendSeq_Lcloth_stretch_cloth_stretch N ys_1).bind fun r_2 =>
  some r_2
theorem w_slices_Collect_cloth_stretch (N : Nat) (ys_1 : List (cloth_stretch)) (kys_1 : Nat) (dsys_1 : List D) (hdys_1 : noAggD dsys_1 = true) (hitys_1 : IterCon Try.prog kys_1 dsys_1 ((ys_1.map fun y => [.agg [.int .i64 y.Span.Low, .int .i64 y.Span.High, .int .i64 y.rate]]).map KV.toDL)) (o : (List cloth_stretch)) (h : m_slices_Collect_cloth_stretch N ys_1 = some o) :
    KC Try.prog 47 [.d (.fn kys_1 dsys_1)] (sl_cloth_stretch false o) [] := by
  unfold m_slices_Collect_cloth_stretch at h
  refine con_l [] [] seat Try.func47 rfl ent_47 (by kernel_rfl) rfl rfl (by simp) ?_; intro base I hI; (conv => cbv)
  refine L_call hI h (fun v hv => w_slices_AppendSeq_Lcloth_stretch_cloth_stretch N ys_1 kys_1 dsys_1 hdys_1 hitys_1 v hv) (by subst_vars; exact ⟨(leD_refl _), (leD_refl _), rfl⟩) ?_; clear h; intro r_2 h; (conv => cbv)
  cases h
  subst_vars
  exact ⟨LV_sl, rfl⟩
def m_cloth_after_L1 (N : Nat) (hours_3 : Int) (rate_2 : Int) : (Int × Int) → Option ((Int × Int) ⊕ (Int))
  | (x_4, v_5) =>
    if icmpR .lss v_5 hours_3 then
      some (.inl (iopR .sub .i64 x_4 (iopR .quo .i64 (iopR .mul .i64 x_4 rate_2) 1000), iopR .add .i64 v_5 1))
    else
      some (.inr x_4)
def m_cloth_after (N : Nat) (x_1 : Int) (rate_2 : Int) (hours_3 : Int) : Option (Int) :=
  (loopO (m_cloth_after_L1 N hours_3 rate_2) N (x_1, 0)).bind fun q => match q with
  | x_6 =>
    some x_6
theorem w_cloth_after (N : Nat) (x_1 : Int) (rate_2 : Int) (hours_3 : Int) (o : Int) (h : m_cloth_after N x_1 rate_2 hours_3 = some o) :
    KC Try.prog 69 [.int .i64 x_1, .int .i64 rate_2, .int .i64 hours_3] (.int .i64 o) [] := by
  unfold m_cloth_after at h
  refine con_l [] [] seat Try.func69 rfl ent_69 (by kernel_rfl) rfl rfl (by simp) ?_; intro base I hI; (conv => cbv)
  refine L_loop hI seat [] (by kernel_rfl) h (fun q => match q with | (x_4, v_5) => ⟨18, [(0, .int .i64 x_4), (1, .int .i64 rate_2), (7, .int .i64 hours_3), (8, .int .i64 v_5)], [], [], 0⟩) (fun q => match q with | x_6 => .exit 0) (fun q => match q with | x_6 => ⟨18, [(0, .int .i64 x_6)], [], [], 0⟩) (by subst_vars; exact weak_l rfl rfl ⟨lE, lE, lE, lE, trivial⟩ trivial trivial) (by intro q; rcases q with x_6 <;> (intro e; exact Exit.noConfusion e)) ?_ ?_; all_goals clear h
  · intro q x h R hR hX
    obtain ⟨x_4, v_5⟩ := q
    rw [m_cloth_after_L1] at h
    (conv => cbv)
    refine L_tst hI h (by subst_vars; rfl) ?_ ?_ <;> clear h <;> intro h
    · exact hR _ _ (Option.some.inj h).symm (by subst_vars; exact weak_l rfl rfl ⟨lE, lE, lE, lE, trivial⟩ trivial trivial)
    · exact hX _ _ (Option.some.inj h).symm (by subst_vars; exact weak_l rfl rfl ⟨lE, trivial⟩ trivial trivial)
  · intro x_6 h
    (conv => cbv)
    cases h
    subst_vars
    exact ⟨lE, rfl⟩
def m_cloth_stretches_1_L3 (N : Nat) (v_203 : Int) (v_89 : Int) (x_232 : api_ClothMeasure) : Int → Option ((Int) ⊕ (Int))
  | v_239 =>
    (show Option (Bool) from
      if icmpR .leq v_239 v_203 then
        (m_cloth_after N v_239 v_89 x_232.Hour).bind fun r_246 =>
        some (icmpR .lss r_246 (iopR .sub .i64 x_232.Reading x_232.Off))
      else
        some false).bind fun q => match q with
    | v_245 =>
      if v_245 then
        some (.inl (iopR .add .i64 v_239 1))
      else
        some (.inr v_239)
def m_cloth_stretches_1_L4 (N : Nat) (v_243 : Int) (v_89 : Int) (x_232 : api_ClothMeasure) : Int → Option ((Int) ⊕ (Int))
  | v_250 =>
    (show Option (Bool) from
      if icmpR .leq v_243 v_250 then
        (m_cloth_after N v_250 v_89 x_232.Hour).bind fun r_257 =>
        some (icmpR .gtr r_257 (iopR .add .i64 x_232.Reading x_232.Off))
      else
        some false).bind fun q => match q with
    | v_256 =>
      if v_256 then
        some (.inl (iopR .sub .i64 v_250 1))
      else
        some (.inr v_250)
def m_cloth_stretches_1_L2 (N : Nat) (v_174 : Int) (p_2 : api_Cloth) (p_3 : Int) (p_4 : Int → Option Bool) (v_89 : Int) : (Int × Int × Int) → Option ((Int × Int × Int) ⊕ (Int × Int))
  | (v_201, v_202, v_203) =>
    if icmpR .lss v_201 v_174 then
      (getO d_api_ClothMeasure p_2.Measures v_201).bind fun x_232 =>
      (show Option (Bool) from
        if icmpR .neq x_232.What p_3 then
          some true
        else
          (p_4 v_201).bind fun v_235 =>
          some v_235).bind fun q => match q with
      | v_234 =>
        if v_234 then
          some (.inl (iopR .add .i64 v_201 1, v_202, v_203))
        else
          (loopO (m_cloth_stretches_1_L3 N v_203 v_89 x_232) N v_202).bind fun q => match q with
          | v_243 =>
            (loopO (m_cloth_stretches_1_L4 N v_243 v_89 x_232) N v_203).bind fun q => match q with
            | v_254 =>
              some (.inl (iopR .add .i64 v_201 1, v_243, v_254))
    else
      some (.inr (v_202, v_203))
def m_cloth_stretches_1_L1 (N : Nat) (p_1 : api_ClothTrack) (p_2 : api_Cloth) (p_3 : Int) (p_4 : Int → Option Bool) : Int → Option (List (cloth_stretch) × ((Int) ⊕ (Unit)))
  | v_89 =>
    if icmpR .leq v_89 p_1.Rate.High then
      letO (((p_2.Measures.length : Nat) : Int) : Int) fun v_174 =>
      (loopO (m_cloth_stretches_1_L2 N v_174 p_2 p_3 p_4 v_89) N (0, p_1.First.Low, p_1.First.High)).bind fun q => match q with
      | (v_230, v_231) =>
        if icmpR .leq v_230 v_231 then
          yieldO (cloth_stretch.mk (api_Span.mk v_230 v_231) v_89) (
            some ([], .inl (iopR .add .i64 v_89 1)))
        else
          some ([], .inl (iopR .add .i64 v_89 1))
    else
      some ([], .inr ())
def m_cloth_stretches_1 (N : Nat) (p_1 : api_ClothTrack) (p_2 : api_Cloth) (p_3 : Int) (p_4 : Int → Option Bool) : Option (List cloth_stretch × Unit) :=
  thenY (loopY (m_cloth_stretches_1_L1 N p_1 p_2 p_3 p_4) N p_1.Rate.Low) fun q => match q with
  | () =>
    some ([], ())
def m_it_cloth_stretches_1 (N : Nat) (p_1 : api_ClothTrack) (p_2 : api_Cloth) (p_3 : Int) (p_4 : Int → Option Bool) : Option (List cloth_stretch) := (m_cloth_stretches_1 N p_1 p_2 p_3 p_4).bind fun q => some q.1
theorem i_cloth_stretches_1 (N : Nat) (p_1 : api_ClothTrack) (p_2 : api_Cloth) (p_3 : Int) (p_4 : Int → Option Bool) (kp_4 : Nat) (dsp_4 : List D) (hdp_4 : noAggD dsp_4 = true) (hpp_4 : ∀ x0 r, p_4 x0 = some r → KD Try.prog kp_4 [.int .i64 x0] dsp_4 (.bool r)) (o : List cloth_stretch) (h : m_it_cloth_stretches_1 N p_1 p_2 p_3 p_4 = some o) :
    IterCon Try.prog 68 (KV.toDL [.ptr [.int .i64 p_1.First.Low, .int .i64 p_1.First.High, .int .i64 p_1.Rate.Low, .int .i64 p_1.Rate.High], .ptr [sl_api_ClothTrack false p_2.Tracks, sl_api_ClothMeasure false p_2.Measures], .ptr [.int .i64 p_3], .ptr [.d (.fn kp_4 dsp_4)]]) ((o.map fun (y : cloth_stretch) => [.agg [.int .i64 y.Span.Low, .int .i64 y.Span.High, .int .i64 y.rate]]).map KV.toDL) := by
  unfold m_it_cloth_stretches_1 at h
  have h1 := bind_of h; clear h
  obtain ⟨⟨zs, u⟩, h, e⟩ := h1
  cases e
  unfold m_cloth_stretches_1 at h
  refine iter_l (en := fun (y : cloth_stretch) => [.agg [.int .i64 y.Span.Low, .int .i64 y.Span.High, .int .i64 y.rate]]) [1000007, 1000008, 1000010] seat Try.func68 rfl ent_68 (by kernel_rfl) rfl rfl rfl ?_; intro E Inv Fin hTk base s hy I hI; (conv => cbv)
  refine L_loopY (Fin := Fin) hI seat [1000007, 1000008, 1000010] (by kernel_rfl) h hy (fun q => match q with | v_89 => ⟨111, [(0, .yld), (1, .ptr [.int .i64 p_1.First.Low, .int .i64 p_1.First.High, .int .i64 p_1.Rate.Low, .int .i64 p_1.Rate.High]), (2, .ptr [sl_api_ClothTrack false p_2.Tracks, sl_api_ClothMeasure false p_2.Measures]), (3, .ptr [.int .i64 p_3]), (4, .ptr [.d (.fn kp_4 dsp_4)]), (6, .int .i64 v_89)], [], [], 0⟩) (fun q => match q with | () => .exit 0) (fun q => match q with | () => ⟨111, [], [], [], 0⟩) (.ret) (by subst_vars; exact weak_l rfl rfl ⟨lR, lE, lE, lE, lE, lE, trivial⟩ trivial trivial) (by intro q; rcases q with _ <;> (intro e; exact Exit.noConfusion e)) (by intro e; exact Exit.noConfusion e) ?_ ?_ ?_; all_goals clear h hy
  · intro v_89 x zs ps s h hy R hR hX hF
    rw [m_cloth_stretches_1_L1] at h
    (conv => cbv)
    refine L_tst hI h (by subst_vars; rfl) ?_ ?_ <;> clear h <;> intro h
    · replace h := letO_of h; obtain ⟨v_174, hev_174, h⟩ := h
      refine L_loop hI seat [1000007, 1000008, 1000010] (by kernel_rfl) h (fun q => match q with | (v_201, v_202, v_203) => ⟨111, [(0, .yld), (1, .ptr [.int .i64 p_1.First.Low, .int .i64 p_1.First.High, .int .i64 p_1.Rate.Low, .int .i64 p_1.Rate.High]), (2, .ptr [sl_api_ClothTrack false p_2.Tracks, sl_api_ClothMeasure false p_2.Measures]), (3, .ptr [.int .i64 p_3]), (4, .ptr [.d (.fn kp_4 dsp_4)]), (6, .int .i64 v_89), (7, .loc 0 0), (25, sl_api_ClothMeasure false p_2.Measures), (26, .int .i64 v_174), (27, .int .i64 v_201)], [(0, ⟨109, [.int .i64 v_202, .int .i64 v_203, .int .i64 v_89], true⟩)], [], 0⟩) (fun q => match q with | (v_230, v_231) => .exit 2) (fun q => match q with | (v_230, v_231) => ⟨111, [(0, .yld), (1, .ptr [.int .i64 p_1.First.Low, .int .i64 p_1.First.High, .int .i64 p_1.Rate.Low, .int .i64 p_1.Rate.High]), (2, .ptr [sl_api_ClothTrack false p_2.Tracks, sl_api_ClothMeasure false p_2.Measures]), (3, .ptr [.int .i64 p_3]), (4, .ptr [.d (.fn kp_4 dsp_4)]), (6, .int .i64 v_89), (7, .loc 0 0)], [(0, ⟨109, [.int .i64 v_230, .int .i64 v_231, .int .i64 v_89], true⟩)], [], 0⟩) (by subst_vars; exact weak_l rfl rfl ⟨lR, lE, lE, lE, lE, lE, lR, LV_sl, lE, lE, trivial⟩ ⟨lB ⟨lE, lE, lE, rfl⟩, trivial⟩ trivial) (by intro q; rcases q with ⟨v_230, v_231⟩ <;> (intro e; exact Exit.noConfusion e)) ?_ ?_; all_goals clear h
      · intro q x h R hR hX
        obtain ⟨v_201, v_202, v_203⟩ := q
        rw [m_cloth_stretches_1_L2] at h
        (conv => cbv)
        refine L_tst hI h (by subst_vars; rfl) ?_ ?_ <;> clear h <;> intro h
        · refine L_get hI h (fun g => by subst_vars; exact g) ?_; clear h; intro hc x_232 hxx_232 h
          refine L_cut hI seat [1000008, 1000010] (by kernel_rfl) h (fun q => match q with | v_234 => .normal) (fun q => match q with | v_234 => ⟨111, [(0, .yld), (1, .ptr [.int .i64 p_1.First.Low, .int .i64 p_1.First.High, .int .i64 p_1.Rate.Low, .int .i64 p_1.Rate.High]), (2, .ptr [sl_api_ClothTrack false p_2.Tracks, sl_api_ClothMeasure false p_2.Measures]), (3, .ptr [.int .i64 p_3]), (4, .ptr [.d (.fn kp_4 dsp_4)]), (6, .int .i64 v_89), (7, .loc 0 0), (9, .loc 1 0), (25, sl_api_ClothMeasure false p_2.Measures), (26, .int .i64 v_174), (27, .int .i64 v_201), (40, .bool v_234)], [(1, ⟨129, [.int .i64 x_232.What, .int .i64 x_232.Hour, .int .i64 x_232.Reading, .int .i64 x_232.Off], true⟩), (0, ⟨109, [.int .i64 v_202, .int .i64 v_203, .int .i64 v_89], true⟩)], [], 0⟩) ?_ ?_; all_goals clear h
          · intro x h R hR
            (conv => cbv)
            refine L_tst hI h (by subst_vars; rfl) ?_ ?_ <;> clear h <;> intro h
            · exact hR _ _ (Option.some.inj h).symm (by subst_vars; exact weak_l rfl rfl ⟨lR, lE, lE, lE, lE, lE, lR, lR, LV_sl, lE, lE, lE, trivial⟩ ⟨lB ⟨lE, lE, lE, lE, rfl⟩, lB ⟨lE, lE, lE, rfl⟩, trivial⟩ trivial)
            · refine K_conj hI (by subst_vars; exact hdp_4) ?_
              refine L_callD hI h (args' := [.int .i64 v_201]) (fun v hv => hpp_4 v_201 v hv) (by subst_vars; rfl) ?_; clear h; intro v_235 h; (conv => cbv)
              exact hR _ _ (Option.some.inj h).symm (by subst_vars; exact weak_l rfl rfl ⟨lR, lE, lE, lE, lE, lE, lR, lR, LV_sl, lE, lE, lE, trivial⟩ ⟨lB ⟨lE, lE, lE, lE, rfl⟩, lB ⟨lE, lE, lE, rfl⟩, trivial⟩ trivial)
          · intro v_234 h
            (conv => cbv)
            refine L_tst hI h (by subst_vars; rfl) ?_ ?_ <;> clear h <;> intro h
            · exact hR _ _ (Option.some.inj h).symm (by subst_vars; exact weak_l rfl rfl ⟨lR, lE, lE, lE, lE, lE, lR, LV_sl, lE, lE, trivial⟩ ⟨lB ⟨lE, lE, lE, rfl⟩, trivial⟩ trivial)
            · refine L_loop hI seat [1000007, 1000008, 1000010] (by kernel_rfl) h (fun q => match q with | v_239 => ⟨111, [(0, .yld), (1, .ptr [.int .i64 p_1.First.Low, .int .i64 p_1.First.High, .int .i64 p_1.Rate.Low, .int .i64 p_1.Rate.High]), (2, .ptr [sl_api_ClothTrack false p_2.Tracks, sl_api_ClothMeasure false p_2.Measures]), (3, .ptr [.int .i64 p_3]), (4, .ptr [.d (.fn kp_4 dsp_4)]), (6, .int .i64 v_89), (7, .loc 0 0), (9, .loc 1 0), (25, sl_api_ClothMeasure false p_2.Measures), (26, .int .i64 v_174), (27, .int .i64 v_201)], [(1, ⟨129, [.int .i64 x_232.What, .int .i64 x_232.Hour, .int .i64 x_232.Reading, .int .i64 x_232.Off], true⟩), (0, ⟨109, [.int .i64 v_239, .int .i64 v_203, .int .i64 v_89], true⟩)], [], 0⟩) (fun q => match q with | v_243 => .exit 4) (fun q => match q with | v_243 => ⟨111, [(0, .yld), (1, .ptr [.int .i64 p_1.First.Low, .int .i64 p_1.First.High, .int .i64 p_1.Rate.Low, .int .i64 p_1.Rate.High]), (2, .ptr [sl_api_ClothTrack false p_2.Tracks, sl_api_ClothMeasure false p_2.Measures]), (3, .ptr [.int .i64 p_3]), (4, .ptr [.d (.fn kp_4 dsp_4)]), (6, .int .i64 v_89), (7, .loc 0 0), (9, .loc 1 0), (25, sl_api_ClothMeasure false p_2.Measures), (26, .int .i64 v_174), (27, .int .i64 v_201)], [(1, ⟨129, [.int .i64 x_232.What, .int .i64 x_232.Hour, .int .i64 x_232.Reading, .int .i64 x_232.Off], true⟩), (0, ⟨109, [.int .i64 v_243, .int .i64 v_203, .int .i64 v_89], true⟩)], [], 0⟩) (by subst_vars; exact weak_l rfl rfl ⟨lR, lE, lE, lE, lE, lE, lR, lR, LV_sl, lE, lE, trivial⟩ ⟨lB ⟨lE, lE, lE, lE, rfl⟩, lB ⟨lE, lE, lE, rfl⟩, trivial⟩ trivial) (by intro q; rcases q with v_243 <;> (intro e; exact Exit.noConfusion e)) ?_ ?_; all_goals clear h
              · intro v_239 x h R hR hX
                rw [m_cloth_stretches_1_L3] at h
                (conv => cbv)
                refine L_cut hI seat [1000007, 1000010] (by kernel_rfl) h (fun q => match q with | v_245 => .normal) (fun q => match q with | v_245 => ⟨111, [(0, .yld), (1, .ptr [.int .i64 p_1.First.Low, .int .i64 p_1.First.High, .int .i64 p_1.Rate.Low, .int .i64 p_1.Rate.High]), (2, .ptr [sl_api_ClothTrack false p_2.Tracks, sl_api_ClothMeasure false p_2.Measures]), (3, .ptr [.int .i64 p_3]), (4, .ptr [.d (.fn kp_4 dsp_4)]), (6, .int .i64 v_89), (7, .loc 0 0), (9, .loc 1 0), (25, sl_api_ClothMeasure false p_2.Measures), (26, .int .i64 v_174), (27, .int .i64 v_201), (62, .bool v_245)], [(1, ⟨129, [.int .i64 x_232.What, .int .i64 x_232.Hour, .int .i64 x_232.Reading, .int .i64 x_232.Off], true⟩), (0, ⟨109, [.int .i64 v_239, .int .i64 v_203, .int .i64 v_89], true⟩)], [], 0⟩) ?_ ?_; all_goals clear h
                · intro x h R hR
                  (conv => cbv)
                  refine L_tst hI h (by subst_vars; rfl) ?_ ?_ <;> clear h <;> intro h
                  · refine L_call hI h (fun v hv => w_cloth_after N v_239 v_89 x_232.Hour v hv) (by subst_vars; exact ⟨(leD_refl _), (leD_refl _), (leD_refl _), rfl⟩) ?_; clear h; intro r_246 h; (conv => cbv)
                    exact hR _ _ (Option.some.inj h).symm (by subst_vars; exact weak_l rfl rfl ⟨lR, lE, lE, lE, lE, lE, lR, lR, LV_sl, lE, lE, lE, trivial⟩ ⟨lB ⟨lE, lE, lE, lE, rfl⟩, lB ⟨lE, lE, lE, rfl⟩, trivial⟩ trivial)
                  · exact hR _ _ (Option.some.inj h).symm (by subst_vars; exact weak_l rfl rfl ⟨lR, lE, lE, lE, lE, lE, lR, lR, LV_sl, lE, lE, lE, trivial⟩ ⟨lB ⟨lE, lE, lE, lE, rfl⟩, lB ⟨lE, lE, lE, rfl⟩, trivial⟩ trivial)
                · intro v_245 h
                  (conv => cbv)
                  refine L_tst hI h (by subst_vars; rfl) ?_ ?_ <;> clear h <;> intro h
                  · exact hR _ _ (Option.some.inj h).symm (by subst_vars; exact weak_l rfl rfl ⟨lR, lE, lE, lE, lE, lE, lR, lR, LV_sl, lE, lE, trivial⟩ ⟨lB ⟨lE, lE, lE, lE, rfl⟩, lB ⟨lE, lE, lE, rfl⟩, trivial⟩ trivial)
                  · exact hX _ _ (Option.some.inj h).symm (by subst_vars; exact weak_l rfl rfl ⟨lR, lE, lE, lE, lE, lE, lR, lR, LV_sl, lE, lE, trivial⟩ ⟨lB ⟨lE, lE, lE, lE, rfl⟩, lB ⟨lE, lE, lE, rfl⟩, trivial⟩ trivial)
              · intro v_243 h
                (conv => cbv)
                refine L_loop hI seat [1000007, 1000008, 1000010] (by kernel_rfl) h (fun q => match q with | v_250 => ⟨111, [(0, .yld), (1, .ptr [.int .i64 p_1.First.Low, .int .i64 p_1.First.High, .int .i64 p_1.Rate.Low, .int .i64 p_1.Rate.High]), (2, .ptr [sl_api_ClothTrack false p_2.Tracks, sl_api_ClothMeasure false p_2.Measures]), (3, .ptr [.int .i64 p_3]), (4, .ptr [.d (.fn kp_4 dsp_4)]), (6, .int .i64 v_89), (7, .loc 0 0), (9, .loc 1 0), (25, sl_api_ClothMeasure false p_2.Measures), (26, .int .i64 v_174), (27, .int .i64 v_201)], [(1, ⟨129, [.int .i64 x_232.What, .int .i64 x_232.Hour, .int .i64 x_232.Reading, .int .i64 x_232.Off], true⟩), (0, ⟨109, [.int .i64 v_243, .int .i64 v_250, .int .i64 v_89], true⟩)], [], 0⟩) (fun q => match q with | v_254 => .exit 6) (fun q => match q with | v_254 => ⟨111, [(0, .yld), (1, .ptr [.int .i64 p_1.First.Low, .int .i64 p_1.First.High, .int .i64 p_1.Rate.Low, .int .i64 p_1.Rate.High]), (2, .ptr [sl_api_ClothTrack false p_2.Tracks, sl_api_ClothMeasure false p_2.Measures]), (3, .ptr [.int .i64 p_3]), (4, .ptr [.d (.fn kp_4 dsp_4)]), (6, .int .i64 v_89), (7, .loc 0 0), (25, sl_api_ClothMeasure false p_2.Measures), (26, .int .i64 v_174), (27, .int .i64 v_201)], [(0, ⟨109, [.int .i64 v_243, .int .i64 v_254, .int .i64 v_89], true⟩)], [], 0⟩) (by subst_vars; exact weak_l rfl rfl ⟨lR, lE, lE, lE, lE, lE, lR, lR, LV_sl, lE, lE, trivial⟩ ⟨lB ⟨lE, lE, lE, lE, rfl⟩, lB ⟨lE, lE, lE, rfl⟩, trivial⟩ trivial) (by intro q; rcases q with v_254 <;> (intro e; exact Exit.noConfusion e)) ?_ ?_; all_goals clear h
                · intro v_250 x h R hR hX
                  rw [m_cloth_stretches_1_L4] at h
                  (conv => cbv)
                  refine L_cut hI seat [1000007, 1000008] (by kernel_rfl) h (fun q => match q with | v_256 => .normal) (fun q => match q with | v_256 => ⟨111, [(0, .yld), (1, .ptr [.int .i64 p_1.First.Low, .int .i64 p_1.First.High, .int .i64 p_1.Rate.Low, .int .i64 p_1.Rate.High]), (2, .ptr [sl_api_ClothTrack false p_2.Tracks, sl_api_ClothMeasure false p_2.Measures]), (3, .ptr [.int .i64 p_3]), (4, .ptr [.d (.fn kp_4 dsp_4)]), (6, .int .i64 v_89), (7, .loc 0 0), (9, .loc 1 0), (25, sl_api_ClothMeasure false p_2.Measures), (26, .int .i64 v_174), (27, .int .i64 v_201), (90, .bool v_256)], [(1, ⟨129, [.int .i64 x_232.What, .int .i64 x_232.Hour, .int .i64 x_232.Reading, .int .i64 x_232.Off], true⟩), (0, ⟨109, [.int .i64 v_243, .int .i64 v_250, .int .i64 v_89], true⟩)], [], 0⟩) ?_ ?_; all_goals clear h
                  · intro x h R hR
                    (conv => cbv)
                    refine L_tst hI h (by subst_vars; rfl) ?_ ?_ <;> clear h <;> intro h
                    · refine L_call hI h (fun v hv => w_cloth_after N v_250 v_89 x_232.Hour v hv) (by subst_vars; exact ⟨(leD_refl _), (leD_refl _), (leD_refl _), rfl⟩) ?_; clear h; intro r_257 h; (conv => cbv)
                      exact hR _ _ (Option.some.inj h).symm (by subst_vars; exact weak_l rfl rfl ⟨lR, lE, lE, lE, lE, lE, lR, lR, LV_sl, lE, lE, lE, trivial⟩ ⟨lB ⟨lE, lE, lE, lE, rfl⟩, lB ⟨lE, lE, lE, rfl⟩, trivial⟩ trivial)
                    · exact hR _ _ (Option.some.inj h).symm (by subst_vars; exact weak_l rfl rfl ⟨lR, lE, lE, lE, lE, lE, lR, lR, LV_sl, lE, lE, lE, trivial⟩ ⟨lB ⟨lE, lE, lE, lE, rfl⟩, lB ⟨lE, lE, lE, rfl⟩, trivial⟩ trivial)
                  · intro v_256 h
                    (conv => cbv)
                    refine L_tst hI h (by subst_vars; rfl) ?_ ?_ <;> clear h <;> intro h
                    · exact hR _ _ (Option.some.inj h).symm (by subst_vars; exact weak_l rfl rfl ⟨lR, lE, lE, lE, lE, lE, lR, lR, LV_sl, lE, lE, trivial⟩ ⟨lB ⟨lE, lE, lE, lE, rfl⟩, lB ⟨lE, lE, lE, rfl⟩, trivial⟩ trivial)
                    · exact hX _ _ (Option.some.inj h).symm (by subst_vars; exact weak_l rfl rfl ⟨lR, lE, lE, lE, lE, lE, lR, LV_sl, lE, lE, trivial⟩ ⟨lB ⟨lE, lE, lE, rfl⟩, trivial⟩ trivial)
                · intro v_254 h
                  (conv => cbv)
                  exact hR _ _ (Option.some.inj h).symm (by subst_vars; exact weak_l rfl rfl ⟨lR, lE, lE, lE, lE, lE, lR, LV_sl, lE, lE, trivial⟩ ⟨lB ⟨lE, lE, lE, rfl⟩, trivial⟩ trivial)
        · exact hX _ _ (Option.some.inj h).symm (by subst_vars; exact weak_l rfl rfl ⟨lR, lE, lE, lE, lE, lE, lR, trivial⟩ ⟨lB ⟨lE, lE, lE, rfl⟩, trivial⟩ trivial)
      · intro q h
        rcases q with ⟨v_230, v_231⟩
        (conv => cbv)
        refine L_tst hI h (by subst_vars; rfl) ?_ ?_ <;> clear h <;> intro h
        · refine L_yield hI hTk (y := (cloth_stretch.mk (api_Span.mk v_230 v_231) v_89)) h hy (by subst_vars; rfl) ?_ ?_ <;> clear h hy
          · intro zs s h hy
            (conv => cbv)
            refine K_tst hI (fun hq => by first | (rw [hI] at hq; cases hq; done) | cases hq) (fun _ => ?_)
            obtain ⟨rfl, rfl⟩ := L_leafY h; exact hR _ _ _ rfl hy (by subst_vars; exact weak_l rfl rfl ⟨lR, lE, lE, lE, lE, lE, trivial⟩ trivial trivial)
          · intro s hfin
            (conv => cbv)
            refine K_tst hI (fun _ => ?_) (fun hq => by first | (rw [hI] at hq; cases hq; done) | cases hq)
            exact hF _ _ hfin
        · obtain ⟨rfl, rfl⟩ := L_leafY h; exact hR _ _ _ rfl hy (by subst_vars; exact weak_l rfl rfl ⟨lR, lE, lE, lE, lE, lE, trivial⟩ trivial trivial)
    · obtain ⟨rfl, rfl⟩ := L_leafY h; exact hX _ _ _ rfl hy (by subst_vars; exact weak_l rfl rfl trivial trivial trivial)
  · intro q zs s h hy
    (conv => cbv)
    exact Y_end hTk h hy
  · intro S1 s hfin
    (conv => cbv)
    exact hfin
def m_cloth_open (N : Nat) (c_1 : api_Cloth) : Option (A3_L_cloth_stretch × Int) :=
  (m_cloth_Check N c_1).bind fun r_2 =>
  if icmpR .neq r_2 0 then
    some ((A3_L_cloth_stretch.mk [] [] []), r_2)
  else
    (m_cloth_stretches N c_1 0 (fun x0 => m_cloth_none N x0)).bind fun r_3 =>
    (m_it_cloth_stretches_1 N r_3.1 r_3.2.1 r_3.2.2 (fun x0 => m_cloth_none N x0)).bind fun ys_4 =>
    (m_slices_Collect_cloth_stretch N ys_4).bind fun r_5 =>
    if icmpR .eql ((r_5.length : Nat) : Int) 0 then
      some ((A3_L_cloth_stretch.mk r_5 [] []), 9)
    else
      (m_cloth_stretches N c_1 1 (fun x0 => m_cloth_none N x0)).bind fun r_6 =>
      (m_it_cloth_stretches_1 N r_6.1 r_6.2.1 r_6.2.2 (fun x0 => m_cloth_none N x0)).bind fun ys_7 =>
      (m_slices_Collect_cloth_stretch N ys_7).bind fun r_8 =>
      if icmpR .eql ((r_8.length : Nat) : Int) 0 then
        some ((A3_L_cloth_stretch.mk r_5 r_8 []), 9)
      else
        (m_cloth_stretches N c_1 2 (fun x0 => m_cloth_none N x0)).bind fun r_9 =>
        (m_it_cloth_stretches_1 N r_9.1 r_9.2.1 r_9.2.2 (fun x0 => m_cloth_none N x0)).bind fun ys_10 =>
        (m_slices_Collect_cloth_stretch N ys_10).bind fun r_11 =>
        if icmpR .eql ((r_11.length : Nat) : Int) 0 then
          some ((A3_L_cloth_stretch.mk r_5 r_8 r_11), 9)
        else
          some ((A3_L_cloth_stretch.mk r_5 r_8 r_11), 0)
theorem w_cloth_open (N : Nat) (c_1 : api_Cloth) (o : A3_L_cloth_stretch × Int) (h : m_cloth_open N c_1 = some o) :
    KC Try.prog 23 [.agg [sl_api_ClothTrack false c_1.Tracks, sl_api_ClothMeasure false c_1.Measures]] (.tup [.agg [sl_cloth_stretch false o.1.a0, sl_cloth_stretch false o.1.a1, sl_cloth_stretch false o.1.a2], .int .i64 o.2]) [] := by
  unfold m_cloth_open at h
  refine con_l [] [] seat Try.func23 rfl ent_23 (by kernel_rfl) rfl rfl (by simp) ?_; intro base I hI; (conv => cbv)
  refine L_call hI h (fun v hv => w_cloth_Check N c_1 v hv) (by subst_vars; exact ⟨(leD_refl _), rfl⟩) ?_; clear h; intro r_2 h; (conv => cbv)
  refine L_tst hI h (by subst_vars; rfl) ?_ ?_ <;> clear h <;> intro h
  · cases h
    subst_vars
    exact ⟨(LV_tup ⟨(LV_agg ⟨LV_nil, LV_nil, LV_nil, rfl⟩), lE, rfl⟩), rfl⟩
  · refine W_unroll hI seat [] (by kernel_rfl) 5 ?_; (conv => cbv)
    refine L_call hI h (fun v hv => w_cloth_stretches N c_1 0 (fun x0 => m_cloth_none N x0) 49 (KV.toDL []) rfl (fun x0 r hr => KD_of (caps := []) (w_cloth_none N x0 r hr)) v hv) (by subst_vars; exact ⟨(leD_refl _), (leD_refl _), (leD_refl _), rfl⟩) ?_; clear h; intro r_3 h; (conv => cbv)
    replace h := bind_of h; obtain ⟨ys_4, hyys_4, h⟩ := h
    refine L_call hI h (fun v hv => w_slices_Collect_cloth_stretch N ys_4 68 (KV.toDL [.ptr [.int .i64 r_3.1.First.Low, .int .i64 r_3.1.First.High, .int .i64 r_3.1.Rate.Low, .int .i64 r_3.1.Rate.High], .ptr [sl_api_ClothTrack false r_3.2.1.Tracks, sl_api_ClothMeasure false r_3.2.1.Measures], .ptr [.int .i64 r_3.2.2], .ptr [.dfn 49 []]]) rfl (i_cloth_stretches_1 N r_3.1 r_3.2.1 r_3.2.2 (fun x0 => m_cloth_none N x0) 49 (KV.toDL []) rfl (fun x0 r hr => KD_of (caps := []) (w_cloth_none N x0 r hr)) ys_4 hyys_4) v hv) (by subst_vars; exact ⟨(leD_refl _), rfl⟩) ?_; clear h; intro r_5 h; (conv => cbv)
    refine L_tst hI h (by subst_vars; rfl) ?_ ?_ <;> clear h <;> intro h
    · cases h
      subst_vars
      exact ⟨(LV_tup ⟨(LV_agg ⟨LV_sl, LV_nil, LV_nil, rfl⟩), lE, rfl⟩), rfl⟩
    · refine L_call hI h (fun v hv => w_cloth_stretches N c_1 1 (fun x0 => m_cloth_none N x0) 49 (KV.toDL []) rfl (fun x0 r hr => KD_of (caps := []) (w_cloth_none N x0 r hr)) v hv) (by subst_vars; exact ⟨(leD_refl _), (leD_refl _), (leD_refl _), rfl⟩) ?_; clear h; intro r_6 h; (conv => cbv)
      replace h := bind_of h; obtain ⟨ys_7, hyys_7, h⟩ := h
      refine L_call hI h (fun v hv => w_slices_Collect_cloth_stretch N ys_7 68 (KV.toDL [.ptr [.int .i64 r_6.1.First.Low, .int .i64 r_6.1.First.High, .int .i64 r_6.1.Rate.Low, .int .i64 r_6.1.Rate.High], .ptr [sl_api_ClothTrack false r_6.2.1.Tracks, sl_api_ClothMeasure false r_6.2.1.Measures], .ptr [.int .i64 r_6.2.2], .ptr [.dfn 49 []]]) rfl (i_cloth_stretches_1 N r_6.1 r_6.2.1 r_6.2.2 (fun x0 => m_cloth_none N x0) 49 (KV.toDL []) rfl (fun x0 r hr => KD_of (caps := []) (w_cloth_none N x0 r hr)) ys_7 hyys_7) v hv) (by subst_vars; exact ⟨(leD_refl _), rfl⟩) ?_; clear h; intro r_8 h; (conv => cbv)
      refine L_tst hI h (by subst_vars; rfl) ?_ ?_ <;> clear h <;> intro h
      · cases h
        subst_vars
        exact ⟨(LV_tup ⟨(LV_agg ⟨LV_sl, LV_sl, LV_nil, rfl⟩), lE, rfl⟩), rfl⟩
      · refine L_call hI h (fun v hv => w_cloth_stretches N c_1 2 (fun x0 => m_cloth_none N x0) 49 (KV.toDL []) rfl (fun x0 r hr => KD_of (caps := []) (w_cloth_none N x0 r hr)) v hv) (by subst_vars; exact ⟨(leD_refl _), (leD_refl _), (leD_refl _), rfl⟩) ?_; clear h; intro r_9 h; (conv => cbv)
        replace h := bind_of h; obtain ⟨ys_10, hyys_10, h⟩ := h
        refine L_call hI h (fun v hv => w_slices_Collect_cloth_stretch N ys_10 68 (KV.toDL [.ptr [.int .i64 r_9.1.First.Low, .int .i64 r_9.1.First.High, .int .i64 r_9.1.Rate.Low, .int .i64 r_9.1.Rate.High], .ptr [sl_api_ClothTrack false r_9.2.1.Tracks, sl_api_ClothMeasure false r_9.2.1.Measures], .ptr [.int .i64 r_9.2.2], .ptr [.dfn 49 []]]) rfl (i_cloth_stretches_1 N r_9.1 r_9.2.1 r_9.2.2 (fun x0 => m_cloth_none N x0) 49 (KV.toDL []) rfl (fun x0 r hr => KD_of (caps := []) (w_cloth_none N x0 r hr)) ys_10 hyys_10) v hv) (by subst_vars; exact ⟨(leD_refl _), rfl⟩) ?_; clear h; intro r_11 h; (conv => cbv)
        refine L_tst hI h (by subst_vars; rfl) ?_ ?_ <;> clear h <;> intro h
        · cases h
          subst_vars
          exact ⟨(LV_tup ⟨(LV_agg ⟨LV_sl, LV_sl, LV_sl, rfl⟩), lE, rfl⟩), rfl⟩
        · cases h
          subst_vars
          exact ⟨(LV_tup ⟨(LV_agg ⟨LV_sl, LV_sl, LV_sl, rfl⟩), lE, rfl⟩), rfl⟩
def m_cloth_hull (N : Nat) (a_1 : api_Span) (b_2 : api_Span) : Option (api_Span) :=
  some (api_Span.mk (min a_1.Low b_2.Low) (max a_1.High b_2.High))
theorem w_cloth_hull (N : Nat) (a_1 : api_Span) (b_2 : api_Span) (o : api_Span) (h : m_cloth_hull N a_1 b_2 = some o) :
    KC Try.prog 71 [.agg [.int .i64 a_1.Low, .int .i64 a_1.High], .agg [.int .i64 b_2.Low, .int .i64 b_2.High]] (.agg [.int .i64 o.Low, .int .i64 o.High]) [] := by
  unfold m_cloth_hull at h
  refine con_l [] [] seat Try.func71 rfl ent_71 (by kernel_rfl) rfl rfl (by simp) ?_; intro base I hI; (conv => cbv)
  cases h
  subst_vars
  exact ⟨(LV_agg ⟨lE, lE, rfl⟩), rfl⟩
def m_cloth_hulled_L1 (N : Nat) (v_6 : Int) (v_5 : (List cloth_stretch)) (of_2 : cloth_stretch → Option api_Span) : (Int × Int × Int) → Option ((Int × Int × Int) ⊕ (Int × Int))
  | (v_10, out_11, out_12) =>
    if icmpR .lss v_10 v_6 then
      (getO d_cloth_stretch v_5 v_10).bind fun x_18 =>
      (of_2 x_18).bind fun v_19 =>
      (m_cloth_hull N (api_Span.mk out_11 out_12) v_19).bind fun r_20 =>
      some (.inl (iopR .add .i64 v_10 1, r_20.Low, r_20.High))
    else
      some (.inr (out_11, out_12))
def m_cloth_hulled (N : Nat) (l_1 : (List cloth_stretch)) (of_2 : cloth_stretch → Option api_Span) : Option (api_Span) :=
  (getO d_cloth_stretch l_1 0).bind fun x_3 =>
  (of_2 x_3).bind fun v_4 =>
  if (0 : Int) ≤ 1 then
    if (1 : Int) ≤ ((l_1.length : Nat) : Int) then
      if ((l_1.length : Nat) : Int) ≤ ((l_1.length : Nat) : Int) then
        letO ((l_1.take ((l_1.length : Nat) : Int).toNat).drop 1 : (List cloth_stretch)) fun v_5 =>
        letO (((((l_1.take ((l_1.length : Nat) : Int).toNat).drop 1).length : Nat) : Int) : Int) fun v_6 =>
        (loopO (m_cloth_hulled_L1 N v_6 v_5 of_2) N (0, v_4.Low, v_4.High)).bind fun q => match q with
        | (out_16, out_17) =>
          some (api_Span.mk out_16 out_17)
      else none
    else none
  else none
theorem w_cloth_hulled (N : Nat) (l_1 : (List cloth_stretch)) (of_2 : cloth_stretch → Option api_Span) (kof_2 : Nat) (dsof_2 : List D) (hdof_2 : noAggD dsof_2 = true) (hpof_2 : ∀ x0 r, of_2 x0 = some r → KD Try.prog kof_2 [.agg [.int .i64 x0.Span.Low, .int .i64 x0.Span.High, .int .i64 x0.rate]] dsof_2 (.agg [.int .i64 r.Low, .int .i64 r.High])) (o : api_Span) (h : m_cloth_hulled N l_1 of_2 = some o) :
    KC Try.prog 52 [sl_cloth_stretch false l_1, .d (.fn kof_2 dsof_2)] (.agg [.int .i64 o.Low, .int .i64 o.High]) [] := by
  unfold m_cloth_hulled at h
  refine con_l [] [] seat Try.func52 rfl ent_52 (by kernel_rfl) rfl rfl (by simp) ?_; intro base I hI; (conv => cbv)
  refine L_get hI h (fun g => by subst_vars; exact g) ?_; clear h; intro hc x_3 hxx_3 h
  refine K_conj hI (by subst_vars; exact hdof_2) ?_
  refine L_callD hI h (args' := [.agg [.int .i64 x_3.Span.Low, .int .i64 x_3.Span.High, .int .i64 x_3.rate]]) (fun v hv => hpof_2 x_3 v hv) (by subst_vars; rfl) ?_; clear h; intro v_4 h; (conv => cbv)
  refine L_conj hI h (fun g => by subst_vars; exact g) ?_; clear h; intro hc h
  refine L_conj hI h (fun g => by subst_vars; exact g) ?_; clear h; intro hc h
  refine L_conj hI h (fun g => by subst_vars; exact g) ?_; clear h; intro hc h
  replace h := letO_of h; obtain ⟨v_5, hev_5, h⟩ := h
  replace h := letO_of h; obtain ⟨v_6, hev_6, h⟩ := h
  refine L_loop hI seat [] (by kernel_rfl) h (fun q => match q with | (v_10, out_11, out_12) => ⟨27, [(1, .d (.fn kof_2 dsof_2)), (4, .loc 0 0), (5, .loc 1 0), (14, sl_cloth_stretch false v_5), (15, .int .i64 v_6), (16, .int .i64 v_10)], [(1, ⟨35, [.int .i64 out_11, .int .i64 out_12], true⟩), (0, ⟨35, [.lit .i64 0, .lit .i64 0], true⟩)], [], 0⟩) (fun q => match q with | (out_16, out_17) => .exit 0) (fun q => match q with | (out_16, out_17) => ⟨27, [(4, .loc 0 0), (5, .loc 1 0)], [(1, ⟨35, [.int .i64 out_16, .int .i64 out_17], true⟩), (0, ⟨35, [.lit .i64 0, .lit .i64 0], true⟩)], [], 0⟩) (by subst_vars; exact weak_l rfl rfl ⟨lR, lR, lR, LV_sl, lE, lE, trivial⟩ ⟨lB ⟨lE, lE, rfl⟩, lB ⟨lE, lE, rfl⟩, trivial⟩ trivial) (by intro q; rcases q with ⟨out_16, out_17⟩ <;> (intro e; exact Exit.noConfusion e)) ?_ ?_; all_goals clear h
  · intro q x h R hR hX
    obtain ⟨v_10, out_11, out_12⟩ := q
    rw [m_cloth_hulled_L1] at h
    (conv => cbv)
    refine L_tst hI h (by subst_vars; rfl) ?_ ?_ <;> clear h <;> intro h
    · refine L_get hI h (fun g => by subst_vars; exact g) ?_; clear h; intro hc x_18 hxx_18 h
      refine K_conj hI (by subst_vars; exact hdof_2) ?_
      refine L_callD hI h (args' := [.agg [.int .i64 x_18.Span.Low, .int .i64 x_18.Span.High, .int .i64 x_18.rate]]) (fun v hv => hpof_2 x_18 v hv) (by subst_vars; rfl) ?_; clear h; intro v_19 h; (conv => cbv)
      refine L_call hI h (fun v hv => w_cloth_hull N (api_Span.mk out_11 out_12) v_19 v hv) (by subst_vars; exact ⟨⟨(leD_refl _), (leD_refl _), rfl⟩, (leD_refl _), rfl⟩) ?_; clear h; intro r_20 h; (conv => cbv)
      exact hR _ _ (Option.some.inj h).symm (by subst_vars; exact weak_l rfl rfl ⟨lR, lR, lR, LV_sl, lE, lE, trivial⟩ ⟨lB ⟨lE, lE, rfl⟩, lB ⟨lE, lE, rfl⟩, trivial⟩ trivial)
    · exact hX _ _ (Option.some.inj h).symm (by subst_vars; exact weak_l rfl rfl ⟨lR, lR, trivial⟩ ⟨lB ⟨lE, lE, rfl⟩, lB ⟨lE, lE, rfl⟩, trivial⟩ trivial)
  · intro q h
    rcases q with ⟨out_16, out_17⟩
    (conv => cbv)
    cases h
    subst_vars
    exact ⟨(LV_agg ⟨lE, lE, rfl⟩), rfl⟩
def m_cloth_stretch_at (N : Nat) (s_1 : cloth_stretch) (hour_2 : Int) : Option (api_Span) :=
  (m_cloth_after N s_1.Span.Low s_1.rate hour_2).bind fun r_3 =>
  (m_cloth_after N s_1.Span.High s_1.rate hour_2).bind fun r_4 =>
  some (api_Span.mk r_3 r_4)
theorem w_cloth_stretch_at (N : Nat) (s_1 : cloth_stretch) (hour_2 : Int) (o : api_Span) (h : m_cloth_stretch_at N s_1 hour_2 = some o) :
    KC Try.prog 54 [.agg [.int .i64 s_1.Span.Low, .int .i64 s_1.Span.High, .int .i64 s_1.rate], .int .i64 hour_2] (.agg [.int .i64 o.Low, .int .i64 o.High]) [] := by
  unfold m_cloth_stretch_at at h
  refine con_l [] [] seat Try.func54 rfl ent_54 (by kernel_rfl) rfl rfl (by simp) ?_; intro base I hI; (conv => cbv)
  refine L_call hI h (fun v hv => w_cloth_after N s_1.Span.Low s_1.rate hour_2 v hv) (by subst_vars; exact ⟨(leD_refl _), (leD_refl _), (leD_refl _), rfl⟩) ?_; clear h; intro r_3 h; (conv => cbv)
  refine L_call hI h (fun v hv => w_cloth_after N s_1.Span.High s_1.rate hour_2 v hv) (by subst_vars; exact ⟨(leD_refl _), (leD_refl _), (leD_refl _), rfl⟩) ?_; clear h; intro r_4 h; (conv => cbv)
  cases h
  subst_vars
  exact ⟨(LV_agg ⟨lE, lE, rfl⟩), rfl⟩
def m_cloth_truths_at_1 (N : Nat) (s_1 : cloth_stretch) (p_2 : Int) : Option (api_Span) :=
  (m_cloth_stretch_at N s_1 p_2).bind fun r_3 =>
  some r_3
theorem w_cloth_truths_at_1 (N : Nat) (s_1 : cloth_stretch) (p_2 : Int) (o : api_Span) (h : m_cloth_truths_at_1 N s_1 p_2 = some o) :
    KC Try.prog 53 [.agg [.int .i64 s_1.Span.Low, .int .i64 s_1.Span.High, .int .i64 s_1.rate], .ptr [.int .i64 p_2]] (.agg [.int .i64 o.Low, .int .i64 o.High]) [] := by
  unfold m_cloth_truths_at_1 at h
  refine con_l [] [] seat Try.func53 rfl ent_53 (by kernel_rfl) rfl rfl (by simp) ?_; intro base I hI; (conv => cbv)
  refine L_call hI h (fun v hv => w_cloth_stretch_at N s_1 p_2 v hv) (by subst_vars; exact ⟨(leD_refl _), (leD_refl _), rfl⟩) ?_; clear h; intro r_3 h; (conv => cbv)
  cases h
  subst_vars
  exact ⟨(LV_agg ⟨lE, lE, rfl⟩), rfl⟩
def m_cloth_truths_at (N : Nat) (t_1 : A3_L_cloth_stretch) (what_2 : Int) (hour_3 : Int) : Option (api_Span) :=
  (show Option (Int × Int) from
    if 0 ≤ what_2 ∧ what_2 < (3 : Int) then
      if icmpR .eql what_2 0 then
        (m_cloth_hulled N t_1.a0 (fun x0 => m_cloth_truths_at_1 N x0 hour_3)).bind fun r_9 =>
        some (r_9.Low, r_9.High)
      else
        if icmpR .eql what_2 1 then
          (m_cloth_hulled N t_1.a1 (fun x0 => m_cloth_truths_at_1 N x0 hour_3)).bind fun r_10 =>
          some (r_10.Low, r_10.High)
        else
          (m_cloth_hulled N t_1.a2 (fun x0 => m_cloth_truths_at_1 N x0 hour_3)).bind fun r_11 =>
          some (r_11.Low, r_11.High)
    else none).bind fun q => match q with
  | (v_7, v_8) =>
    some (api_Span.mk v_7 v_8)
theorem w_cloth_truths_at (N : Nat) (t_1 : A3_L_cloth_stretch) (what_2 : Int) (hour_3 : Int) (o : api_Span) (h : m_cloth_truths_at N t_1 what_2 hour_3 = some o) :
    KC Try.prog 26 [.agg [sl_cloth_stretch false t_1.a0, sl_cloth_stretch false t_1.a1, sl_cloth_stretch false t_1.a2], .int .i64 what_2, .int .i64 hour_3] (.agg [.int .i64 o.Low, .int .i64 o.High]) [] := by
  unfold m_cloth_truths_at at h
  refine con_l [] [1000001] seat Try.func26 rfl ent_26 (by kernel_rfl) rfl rfl (by simp) ?_; intro base I hI; (conv => cbv)
  refine L_cut hI seat [] (by kernel_rfl) h (fun q => match q with | (v_7, v_8) => .normal) (fun q => match q with | (v_7, v_8) => ⟨12, [(6, .loc 2 0)], [(2, ⟨35, [.int .i64 v_7, .int .i64 v_8], true⟩)], [], 0⟩) ?_ ?_; all_goals clear h
  · intro x h R hR
    (conv => cbv)
    refine L_conj hI h (fun g => by subst_vars; exact g) ?_; clear h; intro hc h
    refine L_tst hI h (by subst_vars; rfl) ?_ ?_ <;> clear h <;> intro h
    · refine L_call hI h (fun v hv => w_cloth_hulled N t_1.a0 (fun x0 => m_cloth_truths_at_1 N x0 hour_3) 53 (KV.toDL [.ptr [.int .i64 hour_3]]) rfl (fun x0 r hr => KD_of (caps := [.ptr [.int .i64 hour_3]]) (w_cloth_truths_at_1 N x0 hour_3 r hr)) v hv) (by subst_vars; exact ⟨(leD_refl _), (leD_refl _), rfl⟩) ?_; clear h; intro r_9 h; (conv => cbv)
      exact hR _ _ (Option.some.inj h).symm (by subst_vars; exact weak_l rfl rfl ⟨lR, trivial⟩ ⟨lB ⟨lE, lE, rfl⟩, trivial⟩ trivial)
    · refine L_tst hI h (by subst_vars; rfl) ?_ ?_ <;> clear h <;> intro h
      · refine L_call hI h (fun v hv => w_cloth_hulled N t_1.a1 (fun x0 => m_cloth_truths_at_1 N x0 hour_3) 53 (KV.toDL [.ptr [.int .i64 hour_3]]) rfl (fun x0 r hr => KD_of (caps := [.ptr [.int .i64 hour_3]]) (w_cloth_truths_at_1 N x0 hour_3 r hr)) v hv) (by subst_vars; exact ⟨(leD_refl _), (leD_refl _), rfl⟩) ?_; clear h; intro r_10 h; (conv => cbv)
        exact hR _ _ (Option.some.inj h).symm (by subst_vars; exact weak_l rfl rfl ⟨lR, trivial⟩ ⟨lB ⟨lE, lE, rfl⟩, trivial⟩ trivial)
      · refine L_call hI h (fun v hv => w_cloth_hulled N t_1.a2 (fun x0 => m_cloth_truths_at_1 N x0 hour_3) 53 (KV.toDL [.ptr [.int .i64 hour_3]]) rfl (fun x0 r hr => KD_of (caps := [.ptr [.int .i64 hour_3]]) (w_cloth_truths_at_1 N x0 hour_3 r hr)) v hv) (by subst_vars; exact ⟨(leD_refl _), (leD_refl _), rfl⟩) ?_; clear h; intro r_11 h; (conv => cbv)
        exact hR _ _ (Option.some.inj h).symm (by subst_vars; exact weak_l rfl rfl ⟨lR, trivial⟩ ⟨lB ⟨lE, lE, rfl⟩, trivial⟩ trivial)
  · intro q h
    rcases q with ⟨v_7, v_8⟩
    (conv => cbv)
    cases h
    subst_vars
    exact ⟨(LV_agg ⟨lE, lE, rfl⟩), rfl⟩
def m_cloth_At (N : Nat) (c_1 : api_Cloth) (hour_2 : Int) : Option ((List api_Span) × Int) :=
  (m_cloth_open N c_1).bind fun r_3 =>
  if icmpR .neq r_3.2 0 then
    some ([], r_3.2)
  else
    (m_cloth_within N 0 48 [hour_2]).bind fun r_4 =>
    if !r_4 then
      some ([], 3)
    else
      (m_cloth_truths_at N r_3.1 0 hour_2).bind fun r_5 =>
      if fitsN (1) 16 then
        (m_cloth_truths_at N r_3.1 1 hour_2).bind fun r_6 =>
        if fitsN (2) 16 then
          (m_cloth_truths_at N r_3.1 2 hour_2).bind fun r_7 =>
          if fitsN (3) 16 then
            some ([r_5, r_6, r_7], 0)
          else none
        else none
      else none
theorem w_cloth_At (N : Nat) (c_1 : api_Cloth) (hour_2 : Int) (o : (List api_Span) × Int) (h : m_cloth_At N c_1 hour_2 = some o) :
    KC Try.prog 15 [.agg [sl_api_ClothTrack false c_1.Tracks, sl_api_ClothMeasure false c_1.Measures], .int .i64 hour_2] (.tup [sl_api_Span false o.1, .int .i64 o.2]) [] := by
  unfold m_cloth_At at h
  refine con_l [] [] seat Try.func15 rfl ent_15 (by kernel_rfl) rfl rfl (by simp) ?_; intro base I hI; (conv => cbv)
  refine L_call hI h (fun v hv => w_cloth_open N c_1 v hv) (by subst_vars; exact ⟨(leD_refl _), rfl⟩) ?_; clear h; intro r_3 h; (conv => cbv)
  refine L_tst hI h (by subst_vars; rfl) ?_ ?_ <;> clear h <;> intro h
  · cases h
    subst_vars
    exact ⟨(LV_tup ⟨LV_nil, lE, rfl⟩), rfl⟩
  · refine L_call hI h (fun v hv => w_cloth_within N 0 48 [hour_2] v hv) (by subst_vars; exact ⟨(leD_refl _), (leD_refl _), ⟨.inl rfl, rfl, leDLL_refl _⟩, rfl⟩) ?_; clear h; intro r_4 h; (conv => cbv)
    refine L_tst hI h (by subst_vars; rfl) ?_ ?_ <;> clear h <;> intro h
    · cases h
      subst_vars
      exact ⟨(LV_tup ⟨LV_nil, lE, rfl⟩), rfl⟩
    · refine W_unroll hI seat [] (by kernel_rfl) 5 ?_; (conv => cbv)
      refine L_call hI h (fun v hv => w_cloth_truths_at N r_3.1 0 hour_2 v hv) (by subst_vars; exact ⟨(leD_refl _), (leD_refl _), (leD_refl _), rfl⟩) ?_; clear h; intro r_5 h; (conv => cbv)
      refine L_conj hI h (fun g => by subst_vars; exact g) ?_; clear h; intro hc h
      refine L_call hI h (fun v hv => w_cloth_truths_at N r_3.1 1 hour_2 v hv) (by subst_vars; exact ⟨(leD_refl _), (leD_refl _), (leD_refl _), rfl⟩) ?_; clear h; intro r_6 h; (conv => cbv)
      refine L_conj hI h (fun g => by subst_vars; exact g) ?_; clear h; intro hc h
      refine L_call hI h (fun v hv => w_cloth_truths_at N r_3.1 2 hour_2 v hv) (by subst_vars; exact ⟨(leD_refl _), (leD_refl _), (leD_refl _), rfl⟩) ?_; clear h; intro r_7 h; (conv => cbv)
      refine L_conj hI h (fun g => by subst_vars; exact g) ?_; clear h; intro hc h
      cases h
      subst_vars
      exact ⟨(LV_tup ⟨(LV_slr rfl), lE, rfl⟩), rfl⟩
end Go.Proofs.Ytelnoeamkdpjhaa.Aw

/- Plain models for the tops of cloth and stream. Printed by wip/gen/pm.py. -/
namespace Go.Proofs.Ytelnoeamkdpjhaa.Aw
open Go Go.RowKit Go.Proofs
set_option maxRecDepth 100000
set_option maxHeartbeats 4000000
set_option linter.unusedSimpArgs false
set_option linter.unusedVariables false
def m_stream_newMiller (N : Nat) (p_1 : stream_valley) (hours_2 : Int) : Option (stream_miller) :=
  if (0 : Int) ≤ 0 then
    if (0 : Int) ≤ hours_2 then
      if hours_2 ≤ ((p_1.flows.length : Nat) : Int) then
        some (stream_miller.mk (stream_valley.mk p_1.StreamMill ((p_1.flows.take hours_2.toNat).drop 0)) [])
      else none
    else none
  else none
def m_stream_miller_after (N : Nat) (x_1 : stream_miller) (s_2 : stream_spot) (hammers_3 : Int) : Option (stream_spot) :=
  (getO d_api_Span x_1.valley.flows s_2.hour).bind fun x_4 =>
  some (stream_spot.mk (iopR .add .i64 s_2.hour 1) (iopR .sub .i64 (min x_1.valley.StreamMill.Holds (iopR .add .i64 s_2.water x_4.Low)) (iopR .mul .i64 hammers_3 x_1.valley.StreamMill.Takes)))
def m_stream_miller_most_L1 (N : Nat) (v_5 : Int) (x_1 : stream_miller) (s_2 : stream_spot) (rec_0 : stream_miller → stream_spot → Option (Int × (List (stream_spot × Int)))) : (Int × Int × (List (stream_spot × Int))) → Option ((Int × Int × (List (stream_spot × Int))) ⊕ (Int × (List (stream_spot × Int))))
  | (best_11, v_12, l_13) =>
    if icmpR .lss v_12 v_5 then
      (m_stream_miller_after N (stream_miller.mk x_1.valley l_13) s_2 v_12).bind fun r_21 =>
      (show Option (Int × (List (stream_spot × Int))) from
        if icmpR .geq r_21.water 0 then
          (rec_0 (stream_miller.mk x_1.valley l_13) r_21).bind fun r_25 =>
          some (max best_11 (iopR .add .i64 v_12 r_25.1), r_25.2)
        else
          some (best_11, l_13)).bind fun q => match q with
      | (best_23, l_24) =>
        some (.inl (best_23, iopR .add .i64 v_12 1, l_24))
    else
      some (.inr (best_11, l_13))
def m_stream_miller_most_B (N : Nat) (rec_0 : stream_miller → stream_spot → Option (Int × (List (stream_spot × Int)))) (x_1 : stream_miller) (s_2 : stream_spot) : Option (Int × (List (stream_spot × Int))) :=
  if icmpR .eql s_2.hour ((x_1.valley.flows.length : Nat) : Int) then
    some (0, x_1.known)
  else
    letO (mget x_1.known s_2 0) fun x_3 =>
    letO (mhas x_1.known s_2) fun has_4 =>
    if has_4 then
      some (x_3, x_1.known)
    else
      letO (iopR .add .i64 x_1.valley.StreamMill.Hammers 1 : Int) fun v_5 =>
      (loopO (m_stream_miller_most_L1 N v_5 x_1 s_2 rec_0) N (0, 0, x_1.known)).bind fun q => match q with
      | (best_19, l_20) =>
        letO (mset l_20 s_2 best_19) fun l_26 =>
        some (best_19, l_26)
def m_stream_miller_most : Nat → stream_miller → stream_spot → Option (Int × (List (stream_spot × Int)))
  | 0 => fun _ _ => none
  | N + 1 => fun x_1 s_2 => m_stream_miller_most_B N (m_stream_miller_most N) x_1 s_2
def m_stream_Most_L2 (N : Nat) (r_4 : stream_miller) (v_37 : Int) (v_38 : Int) : (Int × Int × Int × (List (stream_spot × Int))) → Option ((Int × Int × Int × (List (stream_spot × Int))) ⊕ (Int × (List (stream_spot × Int))))
  | (v_83, v_84, v_85, l_86) =>
    (show Option (Bool × (List (stream_spot × Int))) from
      if icmpR .lss v_85 0 then
        some (true, l_86)
      else
        (m_stream_miller_most N (stream_miller.mk r_4.valley l_86) (stream_spot.mk v_84 v_85)).bind fun r_100 =>
        (m_stream_miller_most N (stream_miller.mk r_4.valley r_100.2) (stream_spot.mk v_37 v_38)).bind fun r_101 =>
        some (icmpR .lss (iopR .add .i64 v_83 r_100.1) r_101.1, r_101.2)).bind fun q => match q with
    | (v_98, l_99) =>
      if v_98 then
        (m_stream_miller_after N (stream_miller.mk r_4.valley l_99) (stream_spot.mk v_37 v_38) (iopR .add .i64 v_83 1)).bind fun r_102 =>
        some (.inl (iopR .add .i64 v_83 1, r_102.hour, r_102.water, l_99))
      else
        some (.inr (v_83, l_99))
def m_stream_Most_L1 (N : Nat) (p_2 : (List api_Span)) (r_4 : stream_miller) : (Int × Int × (List (stream_spot × Int)) × (List Int)) → Option ((Int × Int × (List (stream_spot × Int)) × (List Int)) ⊕ ((List Int)))
  | (v_37, v_38, l_39, v_40) =>
    if icmpR .lss v_37 ((p_2.length : Nat) : Int) then
      (m_stream_miller_after N (stream_miller.mk r_4.valley l_39) (stream_spot.mk v_37 v_38) 0).bind fun r_75 =>
      (loopO (m_stream_Most_L2 N r_4 v_37 v_38) N (0, r_75.hour, r_75.water, l_39)).bind fun q => match q with
      | (v_94, l_95) =>
        letO ((v_40 ++ [v_94]) : (List Int)) fun l_106 =>
        (show Option (Int × Int) from
          if fitsN (v_40.length + 1) 8 then
            (m_stream_miller_after N (stream_miller.mk r_4.valley l_95) (stream_spot.mk v_37 v_38) v_94).bind fun r_107 =>
            some (r_107.hour, r_107.water)
          else none).bind fun q => match q with
        | (v_104, v_105) =>
          some (.inl (v_104, v_105, l_95, l_106))
    else
      some (.inr v_40)
def m_stream_Most (N : Nat) (p_1 : api_StreamMill) (p_2 : (List api_Span)) : Option ((List Int) × Int) :=
  (m_stream_open N p_1 p_2).bind fun r_3 =>
  if icmpR .neq r_3.2 0 then
    some ([], r_3.2)
  else
    (m_stream_newMiller N r_3.1 ((p_2.length : Nat) : Int)).bind fun r_4 =>
    (loopO (m_stream_Most_L1 N p_2 r_4) N (0, p_1.Now.Low, r_4.known, [])).bind fun q => match q with
    | v_74 =>
      some (v_74, 0)
def m_top_firSame_L1 (N : Nat) (a_1 : (List Int)) (b_2 : (List Int)) : Int → Option ((Int) ⊕ ((Unit) ⊕ (Unit)))
  | i_5 =>
    if icmpR .lss i_5 ((a_1.length : Nat) : Int) then
      (getO 0 a_1 i_5).bind fun x_8 =>
      (getO 0 b_2 i_5).bind fun x_9 =>
      if icmpR .neq x_8 x_9 then
        some (.inr (.inl ()))
      else
        some (.inl (iopR .add .i64 i_5 1))
    else
      some (.inr (.inr ()))
def m_top_firSame (N : Nat) (a_1 : (List Int)) (b_2 : (List Int)) : Option (Bool) :=
  if icmpR .neq ((a_1.length : Nat) : Int) ((b_2.length : Nat) : Int) then
    some false
  else
    (loopO (m_top_firSame_L1 N a_1 b_2) N 0).bind fun q => match q with
    | (.inl ()) =>
      some false
    | (.inr ()) =>
      some true
def m_top_firKnown02 (N : Nat)  : Option (Bool) :=
  (m_top_firSpan N 30 40).bind fun r_1 =>
  (m_top_firSpan N 20 25).bind fun r_2 =>
  (m_top_firSpan N 10 20).bind fun r_3 =>
  (m_top_firSpan N 0 5).bind fun r_4 =>
  (m_top_firSpan N 15 30).bind fun r_5 =>
  (m_stream_Most N (api_StreamMill.mk 3 10 r_1 50 r_2) [r_3, r_4, r_5]).bind fun r_6 =>
  (show Option (Bool) from
    if icmpR .eql r_6.2 0 then
      (m_top_firSame N r_6.1 [0, 1, 3]).bind fun r_9 =>
      some r_9
    else
      some false).bind fun q => match q with
  | v_8 =>
    some v_8
end Go.Proofs.Ytelnoeamkdpjhaa.Aw

/- Plain models for the tops of cloth and stream. Printed by wip/gen/pm.py. -/
namespace Go.Proofs.Ytelnoeamkdpjhaa.Aw
open Go Go.RowKit Go.Proofs
set_option maxRecDepth 100000
set_option maxHeartbeats 4000000
set_option linter.unusedSimpArgs false
set_option linter.unusedVariables false
def m_top_firSum_L1 (N : Nat) (l_1 : (List Int)) : (Int × Int) → Option ((Int × Int) ⊕ (Int))
  | (n_3, i_4) =>
    if icmpR .lss i_4 ((l_1.length : Nat) : Int) then
      (getO 0 l_1 i_4).bind fun x_7 =>
      some (.inl (iopR .add .i64 n_3 x_7, iopR .add .i64 i_4 1))
    else
      some (.inr n_3)
def m_top_firSum (N : Nat) (l_1 : (List Int)) : Option (Int) :=
  (loopO (m_top_firSum_L1 N l_1) N (0, 0)).bind fun q => match q with
  | n_6 =>
    some n_6
def m_stream_sum_L1 (N : Nat) (v_2 : Int) (l_1 : (List Int)) : (Int × Int) → Option ((Int × Int) ⊕ (Int))
  | (n_4, v_5) =>
    if icmpR .lss v_5 v_2 then
      (getO 0 l_1 v_5).bind fun x_8 =>
      some (.inl (iopR .add .i64 n_4 x_8, iopR .add .i64 v_5 1))
    else
      some (.inr n_4)
end Go.Proofs.Ytelnoeamkdpjhaa.Aw

/- Plain models for the tops of cloth and stream. Printed by wip/gen/pm.py. -/
namespace Go.Proofs.Ytelnoeamkdpjhaa.Aw
open Go Go.RowKit Go.Proofs
set_option maxRecDepth 100000
set_option maxHeartbeats 4000000
set_option linter.unusedSimpArgs false
set_option linter.unusedVariables false
def m_cloth_Below_L1 (N : Nat) (r_4 : A3_L_cloth_stretch × Int) (what_2 : Int) (limit_3 : Int) : (Int × Int × Int) → Option ((Int × Int × Int) ⊕ (Int × Int))
  | (surely_27, possibly_28, hour_29) =>
    if icmpR .geq hour_29 0 then
      (m_cloth_truths_at N r_4.1 what_2 hour_29).bind fun r_35 =>
      (show Option (Int) from
        if icmpR .leq r_35.High limit_3 then
          some hour_29
        else
          some surely_27).bind fun q => match q with
      | surely_36 =>
        (show Option (Int) from
          if icmpR .leq r_35.Low limit_3 then
            some hour_29
          else
            some possibly_28).bind fun q => match q with
        | possibly_37 =>
          some (.inl (surely_36, possibly_37, iopR .sub .i64 hour_29 1))
    else
      some (.inr (surely_27, possibly_28))
def m_cloth_Below (N : Nat) (c_1 : api_Cloth) (what_2 : Int) (limit_3 : Int) : Option (Int × Int × Int) :=
  (m_cloth_open N c_1).bind fun r_4 =>
  if icmpR .neq r_4.2 0 then
    some (0, 0, r_4.2)
  else
    (m_cloth_isWhat N what_2).bind fun r_5 =>
    if !r_5 then
      some (0, 0, 7)
    else
      (m_cloth_within N 0 2000 [limit_3]).bind fun r_6 =>
      if !r_6 then
        some (0, 0, 3)
      else
        (loopO (m_cloth_Below_L1 N r_4 what_2 limit_3) N (49, 49, 48)).bind fun q => match q with
        | (surely_33, possibly_34) =>
          some (surely_33, possibly_34, 0)
def m_stream_Done_L1 (N : Nat) (v_6 : Int) (r_4 : stream_valley × Int) (m_1 : api_StreamMill) (work_3 : Int) : Int → Option ((Int) ⊕ ((Int) ⊕ (Unit)))
  | v_12 =>
    if icmpR .lss v_12 v_6 then
      (show Option (Bool) from
        (m_stream_newMiller N r_4.1 v_12).bind fun r_22 =>
        (m_stream_miller_most N r_22 (stream_spot.mk 0 m_1.Now.Low)).bind fun r_23 =>
        some (icmpR .geq r_23.1 work_3)).bind fun q => match q with
      | v_21 =>
        if v_21 then
          some (.inr (.inl v_12))
        else
          some (.inl (iopR .add .i64 v_12 1))
    else
      some (.inr (.inr ()))
def m_stream_Done (N : Nat) (m_1 : api_StreamMill) (flows_2 : (List api_Span)) (work_3 : Int) : Option (Int × Int) :=
  (m_stream_open N m_1 flows_2).bind fun r_4 =>
  if icmpR .neq r_4.2 0 then
    some (0, r_4.2)
  else
    (m_stream_within N 0 200 [work_3]).bind fun r_5 =>
    if !r_5 then
      some (0, 3)
    else
      letO (iopR .add .i64 ((flows_2.length : Nat) : Int) 1 : Int) fun v_6 =>
      (loopO (m_stream_Done_L1 N v_6 r_4 m_1 work_3) N 0).bind fun q => match q with
      | (.inl v_18) =>
        some (v_18, 0)
      | (.inr ()) =>
        some (0, 7)
def m_top_TopWorkNarrow (N : Nat) (p_1 : top_FirYarn) (p_2 : top_FirBeck) (p_3 : Int) : Option (Bool) :=
  (m_top_FirYarn_made N p_1).bind fun r_4 =>
  (m_top_FirBeck_made N p_2).bind fun r_5 =>
  (getO d_api_ClothTrack r_4.Tracks 1).bind fun x_6 =>
  (m_top_firCloth N r_4).bind fun r_7 =>
  (m_cloth_Below N r_7 1 (max 0 (iopR .sub .i64 x_6.First.High (iopR .rem .i64 (IntKind.wrap .i64 p_3) 30)))).bind fun r_8 =>
  letO (max 0 (iopR .sub .i64 x_6.First.High (iopR .rem .i64 (IntKind.wrap .i64 p_3) 30)) : Int) fun v_10 =>
  (show Option (Bool) from
    if icmpR .neq r_8.2.2 0 then
      some true
    else
      if icmpR .lss r_8.2.1 0 then
        some true
      else
        if icmpR .lss r_8.1 r_8.2.1 then
          some true
        else
          some (icmpR .gtr r_8.1 49)).bind fun q => match q with
  | v_9 =>
    if v_9 then
      some false
    else
      (m_top_firOwn N r_5.2).bind fun r_11 =>
      (m_stream_Done N (api_StreamMill.mk 1 r_5.1.Takes r_5.1.Blows r_5.1.Holds r_5.1.Now) r_11 r_8.1).bind fun r_12 =>
      if icmpR .neq r_12.2 0 then
        (m_top_firOwn N r_5.2).bind fun r_13 =>
        (m_stream_Most N (api_StreamMill.mk 1 r_5.1.Takes r_5.1.Blows r_5.1.Holds r_5.1.Now) r_13).bind fun r_14 =>
        (show Option (Bool) from
          if icmpR .eql r_12.2 7 then
            if icmpR .eql r_12.1 0 then
              if icmpR .eql r_14.2 0 then
                (m_top_firSum N r_14.1).bind fun r_18 =>
                if icmpR .lss r_18 r_8.1 then
                  (m_top_firKnown02 N).bind fun r_19 =>
                  some r_19
                else
                  some false
              else
                some false
            else
              some false
          else
            some false).bind fun q => match q with
        | v_17 =>
          some v_17
      else
        (show Option (Bool) from
          if icmpR .lss r_12.1 r_8.1 then
            some true
          else
            some (icmpR .gtr r_12.1 ((r_5.2.length : Nat) : Int))).bind fun q => match q with
        | v_20 =>
          if v_20 then
            some false
          else
            if icmpR .lss (iopR .sub .i64 r_12.1 0) 1 then
              if icmpR .lss (iopR .sub .i64 r_12.1 1) 1 then
                (m_top_firKnown02 N).bind fun r_21 =>
                some r_21
              else
                if (0 : Int) ≤ 0 then
                  if (0 : Int) ≤ iopR .sub .i64 r_12.1 1 then
                    if iopR .sub .i64 r_12.1 1 ≤ ((r_5.2.length : Nat) : Int) then
                      (m_top_firOwn N ((r_5.2.take (iopR .sub .i64 r_12.1 1).toNat).drop 0)).bind fun r_22 =>
                      (m_stream_Most N (api_StreamMill.mk 1 r_5.1.Takes r_5.1.Blows r_5.1.Holds r_5.1.Now) r_22).bind fun r_23 =>
                      (show Option (Bool) from
                        if icmpR .neq r_23.2 0 then
                          some true
                        else
                          if icmpR .neq ((r_23.1.length : Nat) : Int) (iopR .sub .i64 r_12.1 1) then
                            some true
                          else
                            (m_top_firSum N r_23.1).bind fun r_47 =>
                            if icmpR .lss r_47 0 then
                              some true
                            else
                              (m_top_firSum N r_23.1).bind fun r_48 =>
                              if icmpR .gtr r_48 12 then
                                some true
                              else
                                (m_top_firSum N r_23.1).bind fun r_49 =>
                                some (!((icmpR .geq r_49 r_8.1) == false))).bind fun q => match q with
                      | v_46 =>
                        if v_46 then
                          some false
                        else
                          (m_top_firCloth N r_4).bind fun r_50 =>
                          (m_top_firSum N r_23.1).bind fun r_51 =>
                          (m_cloth_At N r_50 r_51).bind fun r_52 =>
                          (show Option (Bool) from
                            if icmpR .neq r_52.2 0 then
                              some true
                            else
                              if icmpR .neq ((r_52.1.length : Nat) : Int) 3 then
                                some true
                              else
                                (getO d_api_Span r_52.1 1).bind fun x_55 =>
                                some (!((icmpR .leq x_55.High v_10) == false))).bind fun q => match q with
                          | v_54 =>
                            if v_54 then
                              some false
                            else
                              (m_top_firKnown02 N).bind fun r_56 =>
                              some r_56
                    else none
                  else none
                else none
            else
              if (0 : Int) ≤ 0 then
                if (0 : Int) ≤ iopR .sub .i64 r_12.1 0 then
                  if iopR .sub .i64 r_12.1 0 ≤ ((r_5.2.length : Nat) : Int) then
                    (m_top_firOwn N ((r_5.2.take (iopR .sub .i64 r_12.1 0).toNat).drop 0)).bind fun r_57 =>
                    (m_stream_Most N (api_StreamMill.mk 1 r_5.1.Takes r_5.1.Blows r_5.1.Holds r_5.1.Now) r_57).bind fun r_58 =>
                    (show Option (Bool) from
                      if icmpR .neq r_58.2 0 then
                        some true
                      else
                        if icmpR .neq ((r_58.1.length : Nat) : Int) (iopR .sub .i64 r_12.1 0) then
                          some true
                        else
                          (m_top_firSum N r_58.1).bind fun r_63 =>
                          if icmpR .lss r_63 0 then
                            some true
                          else
                            (m_top_firSum N r_58.1).bind fun r_64 =>
                            if icmpR .gtr r_64 12 then
                              some true
                            else
                              (m_top_firSum N r_58.1).bind fun r_65 =>
                              some (!((icmpR .geq r_65 r_8.1) == true))).bind fun q => match q with
                    | v_62 =>
                      if v_62 then
                        some false
                      else
                        (m_top_firCloth N r_4).bind fun r_66 =>
                        (m_top_firSum N r_58.1).bind fun r_67 =>
                        (m_cloth_At N r_66 r_67).bind fun r_68 =>
                        (show Option (Bool) from
                          if icmpR .neq r_68.2 0 then
                            some true
                          else
                            if icmpR .neq ((r_68.1.length : Nat) : Int) 3 then
                              some true
                            else
                              (getO d_api_Span r_68.1 1).bind fun x_71 =>
                              some (!((icmpR .leq x_71.High v_10) == true))).bind fun q => match q with
                        | v_70 =>
                          if v_70 then
                            some false
                          else
                            if icmpR .lss (iopR .sub .i64 r_12.1 1) 1 then
                              (m_top_firKnown02 N).bind fun r_72 =>
                              some r_72
                            else
                              if (0 : Int) ≤ 0 then
                                if (0 : Int) ≤ iopR .sub .i64 r_12.1 1 then
                                  if iopR .sub .i64 r_12.1 1 ≤ ((r_5.2.length : Nat) : Int) then
                                    (m_top_firOwn N ((r_5.2.take (iopR .sub .i64 r_12.1 1).toNat).drop 0)).bind fun r_73 =>
                                    (m_stream_Most N (api_StreamMill.mk 1 r_5.1.Takes r_5.1.Blows r_5.1.Holds r_5.1.Now) r_73).bind fun r_74 =>
                                    (show Option (Bool) from
                                      if icmpR .neq r_74.2 0 then
                                        some true
                                      else
                                        if icmpR .neq ((r_74.1.length : Nat) : Int) (iopR .sub .i64 r_12.1 1) then
                                          some true
                                        else
                                          (m_top_firSum N r_74.1).bind fun r_79 =>
                                          if icmpR .lss r_79 0 then
                                            some true
                                          else
                                            (m_top_firSum N r_74.1).bind fun r_80 =>
                                            if icmpR .gtr r_80 12 then
                                              some true
                                            else
                                              (m_top_firSum N r_74.1).bind fun r_81 =>
                                              some (!((icmpR .geq r_81 r_8.1) == false))).bind fun q => match q with
                                    | v_78 =>
                                      if v_78 then
                                        some false
                                      else
                                        (m_top_firCloth N r_4).bind fun r_82 =>
                                        (m_top_firSum N r_74.1).bind fun r_83 =>
                                        (m_cloth_At N r_82 r_83).bind fun r_84 =>
                                        (show Option (Bool) from
                                          if icmpR .neq r_84.2 0 then
                                            some true
                                          else
                                            if icmpR .neq ((r_84.1.length : Nat) : Int) 3 then
                                              some true
                                            else
                                              (getO d_api_Span r_84.1 1).bind fun x_87 =>
                                              some (!((icmpR .leq x_87.High v_10) == false))).bind fun q => match q with
                                        | v_86 =>
                                          if v_86 then
                                            some false
                                          else
                                            (m_top_firKnown02 N).bind fun r_88 =>
                                            some r_88
                                  else none
                                else none
                              else none
                  else none
                else none
              else none
end Go.Proofs.Ytelnoeamkdpjhaa.Aw

/- Plain: rules for what is printed: checks, iterators that end. -/
namespace Go.Proofs.Ytelnoeamkdpjhaa.Aw
open Go Go.RowKit Go.Proofs
set_option linter.unusedSimpArgs false
set_option linter.unusedVariables false
/-- The round of slices.IndexFunc. -/
def idxStep {α : Type} (d : α) (n : Int) (s : List α) (f : α → Option Bool) : Int → Option (Int ⊕ (Int ⊕ Unit)) := fun i =>
  if icmpR .lss i n then
    (getO d s i).bind fun x => (f x).bind fun v => if v then some (.inr (.inl i)) else some (.inl (iopR .add .i64 i 1))
  else some (.inr (.inr ()))
theorem idx_any {α : Type} {d : α} {s : List α} {f : α → Option Bool} {g : α → Bool} (N : Nat) (hN : 2000000 ≤ N) (hl : s.length ≤ 1000000) (hf : ∀ x ∈ s, f x = some (g x)) :
    ∃ q, loopO (idxStep d ((s.length : Nat) : Int) s f) N 0 = some q ∧ (match q with | .inl i => s.any g = true ∧ 0 ≤ i | .inr _ => s.any g = false) := by
  refine loopO_of (fun i : Int => 0 ≤ i ∧ i ≤ s.length ∧ s.any g = (s.drop i.toNat).any g) (fun i => (s.length - i).toNat) _ (fun i hi => ?_) N 0 ⟨by omega, by omega, by simp⟩ (by omega)
  obtain ⟨i0, i1, i2⟩ := hi
  by_cases hc : i < (s.length : Int)
  · have hlt : i.toNat < s.length := by omega
    have hget : s.getD i.toNat d = s[i.toNat] := by simp [List.getD_eq_getElem?_getD, hlt]
    have hm : s.getD i.toNat d ∈ s := by rw [hget]; exact List.getElem_mem hlt
    rw [List.drop_eq_getElem_cons hlt, ← hget, List.any_cons] at i2
    simp only [idxStep, icmp_lss, decide_eq_true_eq, if_pos hc, getO_of (d := d) i0 hc, bindS, hf _ hm]
    cases hg : g (s.getD i.toNat d) with
    | true =>
      right
      rw [if_pos rfl]
      exact ⟨_, rfl, by rw [i2, hg]; rfl, i0⟩
    | false =>
      left
      rw [if_neg (by simp), addW (by omega)]
      refine ⟨i + 1, rfl, ⟨by omega, by omega, ?_⟩, by omega⟩
      rw [i2, hg, Bool.false_or, show (i + 1).toNat = i.toNat + 1 from by omega]
  · right
    simp only [idxStep, icmp_lss, decide_eq_true_eq, if_neg hc]
    exact ⟨_, rfl, by rw [i2, List.drop_eq_nil_of_le (by omega)]; rfl⟩
/-- slices.ContainsFunc, as printed. -/
def contF {α : Type} (d : α) (N : Nat) (s : List α) (f : α → Option Bool) : Option Bool :=
  (letO (((s.length : Nat) : Int) : Int) fun n => (loopO (idxStep d n s f) N 0).bind fun q => match q with
    | .inl i => some i
    | .inr _ => some (-1)).bind fun r => some (icmpR .geq r 0)
theorem contF_eq {α : Type} {d : α} {s : List α} {f : α → Option Bool} {g : α → Bool} (N : Nat) (hN : 2000000 ≤ N) (hl : s.length ≤ 1000000) (hf : ∀ x ∈ s, f x = some (g x)) : contF d N s f = some (s.any g) := by
  unfold contF
  rw [letO_eq]
  obtain ⟨q, hq, hp⟩ := idx_any (d := d) N hN hl hf
  rw [hq, bindS]
  cases q with
  | inl i =>
    simp only at hp
    simp only [bindS, icmp_geq]
    rw [hp.1]; simp [hp.2]
  | inr u =>
    simp only at hp
    simp only [bindS, icmp_geq]
    rw [hp]; rfl
end Go.Proofs.Ytelnoeamkdpjhaa.Aw

/- What comes in, for the statements of the top: bytes, read as data. -/
namespace Go.Proofs.Ytelnoeamkdpjhaa.Aw
open Go Go.RowKit Go.Proofs
set_option maxRecDepth 100000
set_option linter.unusedSimpArgs false
set_option linter.unusedVariables false
theorem Try.own : ownKnob Try.prog.godebug = none := by kernel_rfl
theorem Try.laidOut : laidOutB Try.prog = true := by kernel_rfl
def u8ok (n : Int) : Prop := 0 ≤ n ∧ n ≤ 255
theorem rows_of {α : Type} {g : α → List D} {p : α → Prop} : ∀ {rows : List (List D)}, (∀ row ∈ rows, ∃ a, row = g a ∧ p a) → ∃ l : List α, rows = l.map g ∧ ∀ a ∈ l, p a
  | [], _ => ⟨[], rfl, fun a h => by cases h⟩
  | row :: r, h => by
    obtain ⟨a, e, hp⟩ := h row (by simp)
    obtain ⟨l, e2, hl⟩ := rows_of (g := g) (p := p) (rows := r) (fun x hx => h x (List.mem_cons_of_mem _ hx))
    refine ⟨a :: l, by rw [e, e2]; rfl, fun b hb => ?_⟩
    rcases List.mem_cons.1 hb with rfl | hb
    · exact hp
    · exact hl b hb
def shU : Sh := .int .u8
theorem fit_U {xs : List D} (h : shU.Fit xs) : ∃ n : Int, xs = [.int .u8 n] ∧ u8ok n := by
  unfold shU Sh.Fit at h
  obtain ⟨n, rfl, h1, h2⟩ := h
  exact ⟨n, rfl, h1, h2⟩
def shA2 : Sh := .agg [shU, shU]
theorem fit_A2 {xs : List D} (h : shA2.Fit xs) : ∃ v : A2_u8, xs = rowD 2 0 (fun j => (e_A2_u8 v j).toD) ∧ u8ok v.a0 ∧ u8ok v.a1 := by
  unfold shA2 Sh.Fit at h
  simp only [Sh.FitL] at h
  obtain ⟨a1, b1, rfl, h1, a2, b2, rfl, h2, rfl⟩ := h
  obtain ⟨v0, rfl, k0⟩ := fit_U h1
  obtain ⟨v1, rfl, k1⟩ := fit_U h2
  exact ⟨⟨v0, v1⟩, rfl, k0, k1⟩
def shA4 : Sh := .agg [shU, shU, shU, shU]
theorem fit_A4 {xs : List D} (h : shA4.Fit xs) : ∃ v : A4_u8, xs = KV.toDL (c_A4_u8 v) ∧ u8ok v.a0 ∧ u8ok v.a1 ∧ u8ok v.a2 ∧ u8ok v.a3 := by
  unfold shA4 Sh.Fit at h
  simp only [Sh.FitL] at h
  obtain ⟨a, b, rfl, ha, c, d, rfl, hc, e, f, rfl, he, g, i, rfl, hg, rfl⟩ := h
  obtain ⟨x, rfl, hx⟩ := fit_U ha
  obtain ⟨y, rfl, hy⟩ := fit_U hc
  obtain ⟨z, rfl, hz⟩ := fit_U he
  obtain ⟨u, rfl, hu⟩ := fit_U hg
  exact ⟨⟨x, y, z, u⟩, rfl, hx, hy, hz, hu⟩
def shFirYarn : Sh := .agg [.agg [shA4, shA4, shA4]]
theorem fit_FirYarn {xs : List D} (h : shFirYarn.Fit xs) : ∃ x : top_FirYarn, shFirYarn.arg xs = (k_top_FirYarn x).toD ∧ (u8ok x.Tracks.a0.a0 ∧ u8ok x.Tracks.a0.a1 ∧ u8ok x.Tracks.a0.a2 ∧ u8ok x.Tracks.a0.a3) ∧ (u8ok x.Tracks.a1.a0 ∧ u8ok x.Tracks.a1.a1 ∧ u8ok x.Tracks.a1.a2 ∧ u8ok x.Tracks.a1.a3) ∧ u8ok x.Tracks.a2.a0 ∧ u8ok x.Tracks.a2.a1 ∧ u8ok x.Tracks.a2.a2 ∧ u8ok x.Tracks.a2.a3 := by
  unfold shFirYarn Sh.Fit at h
  simp only [Sh.FitL] at h
  obtain ⟨t, u, rfl, h, rfl⟩ := h
  unfold Sh.Fit at h
  simp only [Sh.FitL] at h
  obtain ⟨a, b, rfl, ha, c, d, rfl, hc, e, f, rfl, he, rfl⟩ := h
  obtain ⟨x, rfl, hx⟩ := fit_A4 ha
  obtain ⟨y, rfl, hy⟩ := fit_A4 hc
  obtain ⟨z, rfl, hz⟩ := fit_A4 he
  exact ⟨⟨⟨x, y, z⟩⟩, rfl, hx, hy, hz⟩
def shFirBeck : Sh := .agg [shA4, .sl shA2]
theorem fit_FirBeck {xs : List D} (h : shFirBeck.Fit xs) : ∃ x : top_FirBeck, shFirBeck.arg xs = (k_top_FirBeck x).toD ∧ (u8ok x.Mill.a0 ∧ u8ok x.Mill.a1 ∧ u8ok x.Mill.a2 ∧ u8ok x.Mill.a3) ∧ ∀ v ∈ x.Flows, u8ok v.a0 ∧ u8ok v.a1 := by
  unfold shFirBeck Sh.Fit at h
  simp only [Sh.FitL] at h
  obtain ⟨a, b, rfl, ha, c, d, rfl, hc, rfl⟩ := h
  obtain ⟨m, rfl, hm⟩ := fit_A4 ha
  unfold Sh.Fit at hc
  obtain ⟨rc, rfl, lc, hc⟩ := hc
  obtain ⟨l, rfl, hl⟩ := rows_of (fun row hr => fit_A2 (hc row hr))
  exact ⟨⟨m, l⟩, rfl, hm, hl⟩
end Go.Proofs.Ytelnoeamkdpjhaa.Aw

/- Plain: hammers and beaten cloths: inputs, checks. -/
namespace Go.Proofs.Ytelnoeamkdpjhaa.Aw
open Go Go.RowKit Go.Proofs
set_option linter.unusedSimpArgs false
set_option linter.unusedVariables false
theorem cf_int (N : Nat) (s : List Int) (f : Int → Option Bool) : m_slices_ContainsFunc_Lint_int N s f = contF 0 N s f := rfl
theorem cf_span (N : Nat) (s : List api_Span) (f : api_Span → Option Bool) : m_slices_ContainsFunc_Lapi_Span_api_Span N s f = contF d_api_Span N s f := rfl
theorem sw1 (N : Nat) (n a b : Int) : m_stream_within_1 N n a b = some (decide (n < a) || decide (n > b)) := by
  unfold m_stream_within_1
  simp only [icmp_lss, icmp_gtr, decide_eq_true_eq]
  by_cases h : n < a <;> simp [h]
theorem sw_ok (N : Nat) (hN : 2000000 ≤ N) {a b : Int} {l : List Int} (hl : l.length ≤ 1000000) (h : ∀ n ∈ l, a ≤ n ∧ n ≤ b) : m_stream_within N a b l = some true := by
  unfold m_stream_within
  rw [cf_int, contF_eq N hN hl (fun x _ => sw1 N x a b), bindS]
  have : (l.any fun n => decide (n < a) || decide (n > b)) = false := by
    rw [List.any_eq_false]
    intro n hn
    have := h n hn
    simp; omega
  rw [this]; rfl
theorem ss_ok (N : Nat) (hN : 2000000 ≤ N) {s : api_Span} {a b : Int} (h1 : a ≤ s.Low) (h2 : s.Low ≤ s.High) (h3 : s.High ≤ b) : m_stream_isSpan N s a b = some true := by
  unfold m_stream_isSpan
  rw [sw_ok N hN (by simp) (by intro n hn; simp only [List.mem_cons, List.not_mem_nil, or_false] at hn; omega)]
  simp [icmp_leq, h2]
/-! What is made of bytes. -/
structure MillOk (m : api_StreamMill) : Prop where
  ham : 1 ≤ m.Hammers ∧ m.Hammers ≤ 8
  tak : 0 ≤ m.Takes ∧ m.Takes ≤ 100
  blo : 0 ≤ m.Blows.Low ∧ m.Blows.Low ≤ m.Blows.High ∧ m.Blows.High ≤ 5000
  hol : 0 ≤ m.Holds ∧ m.Holds ≤ 500
  now : 0 ≤ m.Now.Low ∧ m.Now.Low ≤ m.Now.High ∧ m.Now.High ≤ m.Holds
def SpOk (b : Int) (s : api_Span) : Prop := 0 ≤ s.Low ∧ s.Low ≤ s.High ∧ s.High ≤ b
theorem made_beck (N : Nat) (hN : 2000000 ≤ N) (p : top_FirBeck) (h : u8ok p.Mill.a0 ∧ u8ok p.Mill.a1 ∧ u8ok p.Mill.a2 ∧ u8ok p.Mill.a3) (hf : ∀ v ∈ p.Flows, u8ok v.a0 ∧ u8ok v.a1) :
    ∃ m l, m_top_FirBeck_made N p = some (m, l) ∧ MillOk m ∧ 1 ≤ l.length ∧ l.length ≤ 12 ∧ ∀ s ∈ l, SpOk 500 s := by
  obtain ⟨⟨a0, a1⟩, ⟨b0, b1⟩, ⟨c0, c1⟩, d0, d1⟩ := h
  obtain ⟨q, hq, hp⟩ := loopO_of (step := m_top_FirBeck_made_L1 N p) (fun s => 0 ≤ s.1 ∧ s.1 ≤ 12 ∧ (s.2.length : Int) = s.1 ∧ ∀ x ∈ s.2, SpOk 500 x) (fun s => (12 - s.1).toNat) (fun q => 1 ≤ q.length ∧ q.length ≤ 12 ∧ ∀ x ∈ q, SpOk 500 x) (fun s hi => by
    obtain ⟨i, l⟩ := s
    obtain ⟨i0, i1, i2, i3⟩ := hi
    simp only at i0 i1 i2 i3
    by_cases hgo : i = 0 ∨ (i < (p.Flows.length : Int) ∧ i < 12)
    · left
      have hc : (if icmpR .eql i 0 = true then some true else if icmpR .lss i ((p.Flows.length : Nat) : Int) = true then some (icmpR .lss i 12) else some false) = some true := by
        simp only [icmp_eql, icmp_lss, decide_eq_true_eq]
        rcases hgo with h | ⟨h1, h2⟩
        · rw [if_pos h]
        · by_cases h0 : i = 0
          · rw [if_pos h0]
          · rw [if_neg h0, if_pos h1, decide_eq_true h2]
      obtain ⟨a, b, hab, ha, hb⟩ : ∃ a b, (if icmpR .lss i ((p.Flows.length : Nat) : Int) = true then (getO d_A2_u8 p.Flows i).bind fun x => some (x.a0, x.a1) else some (10, 2)) = some (a, b) ∧ u8ok a ∧ u8ok b := by
        simp only [icmp_lss, decide_eq_true_eq]
        by_cases h1 : i < (p.Flows.length : Int)
        · rw [if_pos h1, getO_of (d := d_A2_u8) i0 h1, bindS]
          have hm : p.Flows.getD i.toNat d_A2_u8 ∈ p.Flows := by
            rw [List.getD_eq_getElem?_getD, List.getElem?_eq_getElem (by omega)]; exact List.getElem_mem _
          exact ⟨_, _, rfl, (hf _ hm).1, (hf _ hm).2⟩
        · rw [if_neg h1]; exact ⟨_, _, rfl, ⟨by omega, by omega⟩, ⟨by omega, by omega⟩⟩
      obtain ⟨a2, a3⟩ := ha
      obtain ⟨b2, b3⟩ := hb
      have hfit : fitsN (l.length + 1) 16 := ⟨by omega, by omega⟩
      simp only [m_top_FirBeck_made_L1, hc, bindS, if_true, hab, m_top_firSpan, if_pos hfit]
      rw [wrap_i64 (n := a) (by omega), wrap_i64 (n := b) (by omega), remW (by omega), remW (by omega), addW (by omega), addW (by omega)]
      refine ⟨_, rfl, ⟨by simp only; omega, by simp only; omega, by simp only [List.length_append, List.length_singleton]; omega, fun x hx => ?_⟩, by simp only; omega⟩
      rcases List.mem_append.1 hx with hx | hx
      · exact i3 x hx
      · rw [List.mem_singleton] at hx
        subst hx
        exact ⟨by simp only; omega, by simp only; omega, by simp only; omega⟩
    · right
      have hc : (if icmpR .eql i 0 = true then some true else if icmpR .lss i ((p.Flows.length : Nat) : Int) = true then some (icmpR .lss i 12) else some false) = some false := by
        simp only [icmp_eql, icmp_lss, decide_eq_true_eq]
        rw [if_neg (by omega)]
        by_cases h1 : i < (p.Flows.length : Int)
        · rw [if_pos h1, decide_eq_false (by omega)]
        · rw [if_neg h1]
      simp only [m_top_FirBeck_made_L1, hc, bindS, Bool.false_eq_true, if_false]
      exact ⟨_, rfl, by omega, by omega, i3⟩) N (0, []) ⟨by simp, by simp, by simp, by simp⟩ (by simp only; omega)
  unfold m_top_FirBeck_made
  simp only [m_top_firSpan, bindS, letO_eq, hq]
  obtain ⟨ho, eho⟩ : ∃ x, x = 20 + p.Mill.a2 % 80 := ⟨_, rfl⟩
  have e1 : iopR .add .i64 20 (iopR .rem .i64 (IntKind.wrap .i64 p.Mill.a2) 80) = ho := by rw [wrap_i64 (n := p.Mill.a2) (by omega), remW (by omega), addW (by omega), eho]
  have e2 : iopR .add .i64 ho 1 = ho + 1 := addW (by omega)
  obtain ⟨nw, enw⟩ : ∃ x, x = p.Mill.a3 % (ho + 1) := ⟨_, rfl⟩
  have n0 := Int.emod_nonneg p.Mill.a3 (show ho + 1 ≠ 0 by omega)
  have n1 := Int.emod_lt_of_pos p.Mill.a3 (show 0 < ho + 1 by omega)
  have e3 : iopR .rem .i64 (IntKind.wrap .i64 p.Mill.a3) (ho + 1) = nw := by rw [wrap_i64 (n := p.Mill.a3) (by omega), remW (by omega), enw]
  have e4 : iopR .add .i64 nw 5 = nw + 5 := addW (by omega)
  simp only [e1, e2, e3, e4]
  rw [if_pos (by omega)]
  refine ⟨_, _, rfl, ?_, hp⟩
  rw [wrap_i64 (n := p.Mill.a0) (by omega), wrap_i64 (n := p.Mill.a1) (by omega), remW (by omega), remW (by omega), addW (by omega)]
  exact ⟨by simp only; omega, by simp only; omega, by simp only; omega, by simp only; omega, by simp only; omega⟩
theorem open_ok (N : Nat) (hN : 2000000 ≤ N) {m : api_StreamMill} {l : List api_Span} (hm : MillOk m) (h1 : 1 ≤ l.length) (h2 : l.length ≤ 24) (hl : ∀ s ∈ l, SpOk 500 s) : m_stream_open N m l = some (⟨m, l⟩, 0) := by
  have k1 : m_stream_checkMill N m = some 0 := by
    unfold m_stream_checkMill
    rw [sw_ok N hN (by simp) (by intro n hn; simp only [List.mem_singleton] at hn; have := hm.ham; omega), bindS]
    rw [sw_ok N hN (by simp) (by intro n hn; simp only [List.mem_singleton] at hn; have := hm.tak; omega), bindS]
    rw [ss_ok N hN hm.blo.1 hm.blo.2.1 hm.blo.2.2, bindS]
    rw [sw_ok N hN (by simp) (by intro n hn; simp only [List.mem_singleton] at hn; have := hm.hol; omega), bindS]
    rw [ss_ok N hN hm.now.1 hm.now.2.1 hm.now.2.2, bindS]
    rfl
  unfold m_stream_open m_stream_Check
  rw [k1, bindS]
  have k2 : ∀ x ∈ l, m_stream_Check_1 N x = some false := fun x hx => by
    unfold m_stream_Check_1
    obtain ⟨g1, g2, g3⟩ := hl x hx
    rw [ss_ok N hN g1 g2 g3]; rfl
  rw [cf_span, contF_eq N hN (by omega) k2, bindS]
  have k3 : l.any (fun _ => false) = false := by simp
  rw [k3]
  have c1 : ¬ ((l.length : Nat) : Int) > 24 := by omega
  have c2 : ¬ ((l.length : Nat) : Int) = 0 := by omega
  simp only [icmp_neq, icmp_gtr, icmp_eql, decide_eq_true_eq]
  rw [if_neg (by simp), if_neg c1, if_neg c2]; rfl
end Go.Proofs.Ytelnoeamkdpjhaa.Aw

/- Plain: for how long hammers last. -/
namespace Go.Proofs.Ytelnoeamkdpjhaa.Aw
open Go Go.RowKit Go.Proofs
set_option linter.unusedSimpArgs false
set_option linter.unusedVariables false
theorem getD_mem {α : Type} {l : List α} {d : α} {i : Nat} (h : i < l.length) : l.getD i d ∈ l := by
  rw [List.getD_eq_getElem?_getD, List.getElem?_eq_getElem h]; exact List.getElem_mem _
end Go.Proofs.Ytelnoeamkdpjhaa.Aw

/- Plain: beaten cloths without measurings. -/
namespace Go.Proofs.Ytelnoeamkdpjhaa.Aw
open Go Go.RowKit Go.Proofs
set_option linter.unusedSimpArgs false
set_option linter.unusedVariables false
theorem cw_ok (N : Nat) (hN : 2000000 ≤ N) {a b : Int} {l : List Int} (hl : l.length ≤ 1000000) (h : ∀ n ∈ l, a ≤ n ∧ n ≤ b) : m_cloth_within N a b l = some true := sw_ok N hN hl h
theorem cs_ok (N : Nat) (hN : 2000000 ≤ N) {s : api_Span} {a b w : Int} (h0 : 0 ≤ a) (hb : b ≤ 10000) (h1 : a ≤ s.Low) (h2 : s.Low ≤ s.High) (h3 : s.High ≤ b) (h4 : s.High - s.Low ≤ w) : m_cloth_isSpan N s a b w = some true := by
  unfold m_cloth_isSpan
  rw [cw_ok N hN (by simp) (by intro n hn; simp only [List.mem_cons, List.not_mem_nil, or_false] at hn; omega), bindS, if_pos rfl, subW (by omega)]
  rw [cw_ok N hN (by simp) (by intro n hn; simp only [List.mem_singleton] at hn; omega)]
  rfl
structure TrackOk (t : api_ClothTrack) : Prop where
  first : 1 ≤ t.First.Low ∧ t.First.Low ≤ t.First.High ∧ t.First.High ≤ 2000 ∧ t.First.High - t.First.Low ≤ 60
  rate : 0 ≤ t.Rate.Low ∧ t.Rate.Low ≤ t.Rate.High ∧ t.Rate.High ≤ 100 ∧ t.Rate.High - t.Rate.Low ≤ 30
theorem track_ok (N : Nat) (hN : 2000000 ≤ N) {t : api_ClothTrack} (h : TrackOk t) : m_cloth_Check_1 N t = some false := by
  obtain ⟨a1, a2, a3, a4⟩ := h.first
  obtain ⟨b1, b2, b3, b4⟩ := h.rate
  unfold m_cloth_Check_1 m_cloth_isTrack m_cloth_isRate
  rw [cs_ok N hN (by omega) (by omega) a1 a2 a3 a4, bindS, if_pos rfl, cs_ok N hN (by omega) (by omega) b1 b2 b3 b4]
  rfl
theorem cf_track (N : Nat) (s : List api_ClothTrack) (f : api_ClothTrack → Option Bool) : m_slices_ContainsFunc_Lapi_ClothTrack_api_ClothTrack N s f = contF d_api_ClothTrack N s f := rfl
theorem cf_measure (N : Nat) (s : List api_ClothMeasure) (f : api_ClothMeasure → Option Bool) : m_slices_ContainsFunc_Lapi_ClothMeasure_api_ClothMeasure N s f = contF d_api_ClothMeasure N s f := rfl
theorem check_ok (N : Nat) (hN : 2000000 ≤ N) {a b c : api_ClothTrack} (ha : TrackOk a) (hb : TrackOk b) (hc : TrackOk c) : m_cloth_Check N ⟨[a, b, c], []⟩ = some 0 := by
  have h1 : ∀ x ∈ [a, b, c], m_cloth_Check_1 N x = some ((fun _ => false) x) := fun x hx => by
    simp only [List.mem_cons, List.not_mem_nil, or_false] at hx
    rcases hx with rfl | rfl | rfl
    · exact track_ok N hN ha
    · exact track_ok N hN hb
    · exact track_ok N hN hc
  have h2 : ∀ x ∈ ([] : List api_ClothMeasure), m_cloth_Check_2 N x = some ((fun _ => false) x) := fun x hx => by cases hx
  unfold m_cloth_Check
  rw [cf_track, contF_eq N hN (by simp) h1, cf_measure, contF_eq N hN (by simp) h2]
  rfl
/-! Stretches. -/
def strs (s : api_Span) (r : Int) : Nat → List cloth_stretch
  | 0 => []
  | n + 1 => ⟨s, r⟩ :: strs s (r + 1) n
theorem strs_len {s : api_Span} : ∀ (n : Nat) (r : Int), (strs s r n).length = n
  | 0, _ => rfl
  | n + 1, r => by simp [strs, strs_len n]
theorem strs_mem {s : api_Span} : ∀ {n : Nat} {r : Int} {x : cloth_stretch}, x ∈ strs s r n → x.Span = s ∧ r ≤ x.rate ∧ x.rate < r + n
  | 0, _, _, h => by cases h
  | n + 1, r, x, h => by
    rcases List.mem_cons.1 h with rfl | h
    · exact ⟨rfl, Int.le_refl _, by simp only; omega⟩
    · obtain ⟨h1, h2, h3⟩ := strs_mem h
      exact ⟨h1, by omega, by omega⟩
theorem loopO_done {σ ρ : Type} {step : σ → Option (σ ⊕ ρ)} {s : σ} {q : ρ} (h : step s = some (.inr q)) {N : Nat} (hN : 1 ≤ N) : loopO step N s = some q := by
  obtain ⟨n, rfl⟩ : ∃ n, N = n + 1 := ⟨N - 1, by omega⟩
  rw [loopO, h]
theorem loopY_strs (N : Nat) (hN : 2000000 ≤ N) {t : api_ClothTrack} (ht : TrackOk t) (tr : List api_ClothTrack) (w : Int) (f : Int → Option Bool) : ∀ (n k : Nat) (r : Int), (t.Rate.High + 1 - r).toNat = k → k < n → 0 ≤ r → r ≤ t.Rate.High + 1 →
    loopY (m_cloth_stretches_1_L1 N t ⟨tr, []⟩ w f) n r = some (strs t.First r k, ())
  | 0, k, r, _, hk, _, _ => by omega
  | n + 1, k, r, e, hk, h0, h1 => by
    obtain ⟨b1, b2, b3, b4⟩ := ht.rate
    obtain ⟨a1, a2, a3, a4⟩ := ht.first
    by_cases hc : r ≤ t.Rate.High
    · obtain ⟨k, rfl⟩ : ∃ j, k = j + 1 := ⟨k - 1, by omega⟩
      have hs : m_cloth_stretches_1_L1 N t ⟨tr, []⟩ w f r = some ([⟨t.First, r⟩], .inl (r + 1)) := by
        have h2 : loopO (m_cloth_stretches_1_L2 N ((([] : List api_ClothMeasure).length : Nat) : Int) ⟨tr, []⟩ w f r) N (0, t.First.Low, t.First.High) = some (t.First.Low, t.First.High) :=
          loopO_done (by simp only [m_cloth_stretches_1_L2, icmp_lss, decide_eq_true_eq]; rw [if_neg (by simp)]) (by omega)
        simp only [m_cloth_stretches_1_L1, icmp_leq, decide_eq_true_eq, if_pos hc, letO_eq]
        rw [h2, bindS]
        simp only
        rw [if_pos a2, addW (by omega)]
        rfl
      rw [loopY, hs]
      simp only
      rw [loopY_strs N hN ht tr w f n k (r + 1) (by omega) (by omega) (by omega) (by omega)]
      rfl
    · have hk0 : k = 0 := by omega
      subst hk0
      rw [loopY]
      simp only [m_cloth_stretches_1_L1, icmp_leq, decide_eq_true_eq, if_neg hc]
      rfl
theorem collect_is (N : Nat) : ∀ (ys l : List cloth_stretch), l.length + ys.length ≤ 1000 → rangeO (m_slices_AppendSeq_Lcloth_stretch_cloth_stretch_L1 N) ys l = some (.inl (l ++ ys))
  | [], l, _ => by simp [rangeO]
  | y :: r, l, h => by
    simp only [List.length_cons] at h
    have hfit : fitsN (l.length + 1) 24 := ⟨by omega, by omega⟩
    simp only [rangeO, m_slices_AppendSeq_Lcloth_stretch_cloth_stretch_L1, if_pos hfit]
    rw [collect_is N r (l ++ [y]) (by simp only [List.length_append, List.length_singleton]; omega)]
    simp
def cnt (t : api_ClothTrack) : Nat := (t.Rate.High - t.Rate.Low).toNat
def strT (t : api_ClothTrack) : List cloth_stretch := strs t.First t.Rate.Low (cnt t + 1)
theorem quantity_is (N : Nat) (hN : 2000000 ≤ N) {t : api_ClothTrack} (ht : TrackOk t) (tr : List api_ClothTrack) (w : Int) (f : Int → Option Bool) :
    ∃ ys, m_it_cloth_stretches_1 N t ⟨tr, []⟩ w f = some ys ∧ m_slices_Collect_cloth_stretch N ys = some (strT t) := by
  obtain ⟨b1, b2, b3, b4⟩ := ht.rate
  have h := loopY_strs N hN ht tr w f N (cnt t + 1) t.Rate.Low (by unfold cnt; omega) (by unfold cnt; omega) b1 (by omega)
  refine ⟨strT t, ?_, ?_⟩
  · unfold m_it_cloth_stretches_1 m_cloth_stretches_1
    rw [thenY, h]
    simp [bindS, strT]
  · unfold m_slices_Collect_cloth_stretch m_slices_AppendSeq_Lcloth_stretch_cloth_stretch
    rw [collect_is N (strT t) [] (by unfold strT; rw [strs_len]; simp only [List.length_nil]; unfold cnt; omega)]
    rfl
theorem copen_ok (N : Nat) (hN : 2000000 ≤ N) {a b c : api_ClothTrack} (ha : TrackOk a) (hb : TrackOk b) (hc : TrackOk c) : m_cloth_open N ⟨[a, b, c], []⟩ = some (⟨strT a, strT b, strT c⟩, 0) := by
  have ln : ∀ t, ¬ (((strT t).length : Nat) : Int) = 0 := fun t => by unfold strT; rw [strs_len]; omega
  obtain ⟨y1, p1, q1⟩ := quantity_is N hN ha [a, b, c] 0 (fun x0 => m_cloth_none N x0)
  obtain ⟨y2, p2, q2⟩ := quantity_is N hN hb [a, b, c] 1 (fun x0 => m_cloth_none N x0)
  obtain ⟨y3, p3, q3⟩ := quantity_is N hN hc [a, b, c] 2 (fun x0 => m_cloth_none N x0)
  have s1 : m_cloth_stretches N ⟨[a, b, c], []⟩ 0 (fun x0 => m_cloth_none N x0) = some (a, ⟨[a, b, c], []⟩, 0) := rfl
  have s2 : m_cloth_stretches N ⟨[a, b, c], []⟩ 1 (fun x0 => m_cloth_none N x0) = some (b, ⟨[a, b, c], []⟩, 1) := rfl
  have s3 : m_cloth_stretches N ⟨[a, b, c], []⟩ 2 (fun x0 => m_cloth_none N x0) = some (c, ⟨[a, b, c], []⟩, 2) := rfl
  unfold m_cloth_open
  rw [check_ok N hN ha hb hc, bindS]
  simp only [icmp_neq, icmp_eql, decide_eq_true_eq]
  rw [if_neg (by simp), s1, bindS]
  simp only
  rw [p1, bindS, q1, bindS, if_neg (ln a), s2, bindS]
  simp only
  rw [p2, bindS, q2, bindS, if_neg (ln b), s3, bindS]
  simp only
  rw [p3, bindS, q3, bindS, if_neg (ln c)]
/-! What becomes of numbers. -/
def aft (x r : Int) : Nat → Int
  | 0 => x
  | n + 1 => aft x r n - aft x r n * r / 1000
theorem aft_step {x r : Int} (hr : 0 ≤ r ∧ r ≤ 100) (hx : 0 ≤ x) : ∀ n, 0 ≤ aft x r n ∧ aft x r (n + 1) ≤ aft x r n ∧ aft x r n ≤ x
  | 0 => by
    have h1 : 0 ≤ x * r := Int.mul_nonneg hx hr.1
    have h2 : 0 ≤ x * r / 1000 := Int.ediv_nonneg h1 (by omega)
    simp only [aft]
    exact ⟨hx, by omega, Int.le_refl _⟩
  | n + 1 => by
    obtain ⟨h1, h2, h3⟩ := aft_step hr hx n
    have h4 : 0 ≤ aft x r n * r := Int.mul_nonneg h1 hr.1
    have h5 : aft x r n * r ≤ aft x r n * 100 := Int.mul_le_mul_of_nonneg_left hr.2 h1
    have h6 : 0 ≤ aft x r (n + 1) := by
      rw [aft]
      generalize aft x r n * r = z at h4 h5
      omega
    have h7 : 0 ≤ aft x r (n + 1) * r := Int.mul_nonneg h6 hr.1
    have h8 : 0 ≤ aft x r (n + 1) * r / 1000 := Int.ediv_nonneg h7 (by omega)
    refine ⟨h6, ?_, by omega⟩
    rw [aft]
    omega
theorem aft_anti {x r : Int} (hr : 0 ≤ r ∧ r ≤ 100) (hx : 0 ≤ x) {n m : Nat} (h : n ≤ m) : aft x r m ≤ aft x r n := by
  induction h with
  | refl => exact Int.le_refl _
  | step _ ih => exact Int.le_trans (aft_step hr hx _).2.1 ih
theorem after_is (N : Nat) (hN : 2000000 ≤ N) {x r : Int} (hr : 0 ≤ r ∧ r ≤ 100) (hx : 0 ≤ x ∧ x ≤ 2000) {h : Nat} (hh : h ≤ 48) : m_cloth_after N x r h = some (aft x r h) := by
  obtain ⟨q, hq, hp⟩ := loopO_of (step := m_cloth_after_L1 N h r) (fun s => 0 ≤ s.2 ∧ s.2 ≤ h ∧ s.1 = aft x r s.2.toNat) (fun s => (h - s.2).toNat) (fun q => q = aft x r h) (fun s hi => by
    obtain ⟨y, i⟩ := s
    obtain ⟨i0, i1, i2⟩ := hi
    simp only at i0 i1 i2
    obtain ⟨k, rfl⟩ : ∃ k : Nat, i = k := ⟨i.toNat, by omega⟩
    simp only [Int.toNat_natCast] at i2
    by_cases hc : (k : Int) < (h : Int)
    · left
      obtain ⟨g1, g2, g3⟩ := aft_step hr hx.1 k
      have h4 : 0 ≤ aft x r k * r := Int.mul_nonneg g1 hr.1
      have h5 : aft x r k * r ≤ aft x r k * 100 := Int.mul_le_mul_of_nonneg_left hr.2 g1
      have e1 : iopR .mul .i64 y r = aft x r k * r := by rw [i2, mulW (by omega)]
      have e2 : iopR .quo .i64 (aft x r k * r) 1000 = aft x r k * r / 1000 := quoW (by omega) (by omega)
      have e3 : iopR .sub .i64 y (aft x r k * r / 1000) = aft x r (k + 1) := by rw [i2, subW (by generalize aft x r k * r = z at h4 h5; omega), aft]
      simp only [m_cloth_after_L1, icmp_lss, decide_eq_true_eq, if_pos hc]
      rw [e1, e2, e3, addW (by omega)]
      exact ⟨_, rfl, ⟨by simp only; omega, by simp only; omega, by simp only; rw [show ((k : Int) + 1).toNat = k + 1 by omega]⟩, by simp only; omega⟩
    · right
      simp only [m_cloth_after_L1, icmp_lss, decide_eq_true_eq, if_neg hc]
      exact ⟨_, rfl, by rw [i2, show k = h by omega]⟩) N (x, 0) ⟨by simp, by simp, by simp [aft]⟩ (by simp only; omega)
  unfold m_cloth_after
  rw [hq, bindS, hp]
/-! Hulls. -/
def hul (f : cloth_stretch → api_Span) : List cloth_stretch → Int → Int → Int × Int
  | [], a, b => (a, b)
  | x :: r, a, b => hul f r (min a (f x).Low) (max b (f x).High)
theorem hul_mono {f g : cloth_stretch → api_Span} : ∀ {l : List cloth_stretch} {a b a' b' : Int}, (∀ x ∈ l, (f x).Low ≤ (g x).Low ∧ (f x).High ≤ (g x).High) → a ≤ a' → b ≤ b' → (hul f l a b).1 ≤ (hul g l a' b').1 ∧ (hul f l a b).2 ≤ (hul g l a' b').2
  | [], _, _, _, _, _, h1, h2 => ⟨h1, h2⟩
  | x :: r, a, b, a', b', h, h1, h2 => by
    have := h x (by simp)
    rw [hul, hul]
    exact hul_mono (l := r) (fun y hy => h y (List.mem_cons_of_mem _ hy)) (by omega) (by omega)
def spanAt (h : Nat) (x : cloth_stretch) : api_Span := ⟨aft x.Span.Low x.rate h, aft x.Span.High x.rate h⟩
def atT (t : api_ClothTrack) (h : Nat) : api_Span :=
  ⟨(hul (spanAt h) (strs t.First (t.Rate.Low + 1) (cnt t)) (aft t.First.Low t.Rate.Low h) (aft t.First.High t.Rate.Low h)).1, (hul (spanAt h) (strs t.First (t.Rate.Low + 1) (cnt t)) (aft t.First.Low t.Rate.Low h) (aft t.First.High t.Rate.Low h)).2⟩
theorem atT_anti {t : api_ClothTrack} (ht : TrackOk t) {n m : Nat} (h : n ≤ m) : (atT t m).Low ≤ (atT t n).Low ∧ (atT t m).High ≤ (atT t n).High := by
  obtain ⟨b1, b2, b3, b4⟩ := ht.rate
  obtain ⟨a1, a2, a3, a4⟩ := ht.first
  unfold atT
  refine hul_mono (fun x hx => ?_) (aft_anti (by omega) (by omega) h) (aft_anti (by omega) (by omega) h)
  obtain ⟨e, r1, r2⟩ := strs_mem hx
  unfold cnt at r2
  unfold spanAt
  rw [e]
  exact ⟨aft_anti (by omega) (by omega) h, aft_anti (by omega) (by omega) h⟩
theorem hulled_is (N : Nat) (hN : 2000000 ≤ N) {t : api_ClothTrack} (ht : TrackOk t) {h : Nat} (hh : h ≤ 48) : m_cloth_hulled N (strT t) (fun x0 => m_cloth_truths_at_1 N x0 h) = some (atT t h) := by
  obtain ⟨b1, b2, b3, b4⟩ := ht.rate
  obtain ⟨a1, a2, a3, a4⟩ := ht.first
  have hof : ∀ x : cloth_stretch, x.Span = t.First → 0 ≤ x.rate → x.rate ≤ 100 → m_cloth_truths_at_1 N x h = some (spanAt h x) := fun x e h0 h1 => by
    unfold m_cloth_truths_at_1 m_cloth_stretch_at
    rw [e, after_is N hN ⟨h0, h1⟩ (by omega) hh, bindS, after_is N hN ⟨h0, h1⟩ (by omega) hh]
    simp only [bindS, spanAt, e]
  obtain ⟨R, eR⟩ : ∃ R, R = strs t.First (t.Rate.Low + 1) (cnt t) := ⟨_, rfl⟩
  have hR : strT t = ⟨t.First, t.Rate.Low⟩ :: R := by rw [eR]; rfl
  have hRl : R.length ≤ 100 := by rw [eR, strs_len]; unfold cnt; omega
  have hRm : ∀ x ∈ R, m_cloth_truths_at_1 N x h = some (spanAt h x) := fun x hx => by
    rw [eR] at hx
    obtain ⟨e, r1, r2⟩ := strs_mem hx
    unfold cnt at r2
    exact hof x e (by omega) (by omega)
  have h0 : m_cloth_truths_at_1 N ⟨t.First, t.Rate.Low⟩ h = some ⟨aft t.First.Low t.Rate.Low h, aft t.First.High t.Rate.Low h⟩ := hof _ rfl (by simp only; omega) (by simp only; omega)
  have hg : getO d_cloth_stretch (strT t) 0 = some ⟨t.First, t.Rate.Low⟩ := by rw [hR, getO_of (by omega) (by simp only [List.length_cons]; omega)]; rfl
  have hd : ((strT t).take ((((strT t).length : Nat) : Int)).toNat).drop 1 = R := by rw [Int.toNat_natCast, List.take_length, hR]; rfl
  obtain ⟨q, hq, hp⟩ := loopO_of (step := m_cloth_hulled_L1 N ((R.length : Nat) : Int) R (fun x0 => m_cloth_truths_at_1 N x0 h)) (fun s => 0 ≤ s.1 ∧ s.1 ≤ R.length ∧ hul (spanAt h) (R.drop s.1.toNat) s.2.1 s.2.2 = ((atT t h).Low, (atT t h).High)) (fun s => (R.length - s.1).toNat) (fun q => q = ((atT t h).Low, (atT t h).High)) (fun s hi => by
    obtain ⟨i, a, b⟩ := s
    obtain ⟨i0, i1, i2⟩ := hi
    simp only at i0 i1 i2
    by_cases hc : i < (R.length : Int)
    · left
      have hlt : i.toNat < R.length := by omega
      have hget : R.getD i.toNat d_cloth_stretch = R[i.toNat] := by simp [List.getD_eq_getElem?_getD, hlt]
      have hm : R[i.toNat] ∈ R := List.getElem_mem hlt
      simp only [m_cloth_hulled_L1, icmp_lss, decide_eq_true_eq, if_pos hc, getO_of (d := d_cloth_stretch) i0 hc, bindS, hget, hRm _ hm, m_cloth_hull]
      rw [addW (by omega)]
      refine ⟨_, rfl, ⟨by simp only; omega, by simp only; omega, ?_⟩, by simp only; omega⟩
      simp only
      rw [show (i + 1).toNat = i.toNat + 1 by omega]
      rw [List.drop_eq_getElem_cons hlt, hul] at i2
      exact i2
    · right
      simp only [m_cloth_hulled_L1, icmp_lss, decide_eq_true_eq, if_neg hc]
      rw [List.drop_eq_nil_of_le (by omega), hul] at i2
      exact ⟨_, rfl, i2⟩) N (0, aft t.First.Low t.Rate.Low h, aft t.First.High t.Rate.Low h) ⟨by simp, by simp, by simp only [Int.toNat_zero, List.drop_zero, atT, eR]⟩ (by simp only; omega)
  have hl1 : (1 : Int) ≤ (((strT t).length : Nat) : Int) := by rw [hR]; simp only [List.length_cons]; omega
  unfold m_cloth_hulled
  rw [hg, bindS]
  simp only
  rw [h0, bindS, if_pos (by omega), if_pos hl1, if_pos (by omega)]
  simp only [letO_eq, hd]
  rw [hq, bindS, hp]
theorem At_is (N : Nat) (hN : 2000000 ≤ N) {a b c : api_ClothTrack} (ha : TrackOk a) (hb : TrackOk b) (hc : TrackOk c) {h : Nat} (hh : h ≤ 48) : m_cloth_At N ⟨[a, b, c], []⟩ h = some ([atT a h, atT b h, atT c h], 0) := by
  have t0 : m_cloth_truths_at N ⟨strT a, strT b, strT c⟩ 0 h = some (atT a h) := by
    unfold m_cloth_truths_at
    simp only [icmp_eql, decide_eq_true_eq]
    rw [if_pos (by omega), if_pos trivial, hulled_is N hN ha hh]
    rfl
  have t1 : m_cloth_truths_at N ⟨strT a, strT b, strT c⟩ 1 h = some (atT b h) := by
    unfold m_cloth_truths_at
    simp only [icmp_eql, decide_eq_true_eq]
    rw [if_pos (by omega), if_neg (by omega), if_pos trivial, hulled_is N hN hb hh]
    rfl
  have t2 : m_cloth_truths_at N ⟨strT a, strT b, strT c⟩ 2 h = some (atT c h) := by
    unfold m_cloth_truths_at
    simp only [icmp_eql, decide_eq_true_eq]
    rw [if_pos (by omega), if_neg (by omega), if_neg (by omega), hulled_is N hN hc hh]
    rfl
  have f1 : fitsN 1 16 := ⟨by omega, by omega⟩
  have f2 : fitsN 2 16 := ⟨by omega, by omega⟩
  have f3 : fitsN 3 16 := ⟨by omega, by omega⟩
  unfold m_cloth_At
  rw [copen_ok N hN ha hb hc, bindS]
  simp only [icmp_neq, decide_eq_true_eq]
  rw [if_neg (by simp), cw_ok N hN (by simp) (by intro n hn; simp only [List.mem_singleton] at hn; omega), bindS]
  simp only [Bool.not_true, Bool.false_eq_true, if_false]
  rw [t0, bindS, if_pos f1, t1, bindS, if_pos f2, t2, bindS, if_pos f3]
/-! What is made of bytes. -/
theorem made_yarn (N : Nat) (p : top_FirYarn) (h : (u8ok p.Tracks.a0.a0 ∧ u8ok p.Tracks.a0.a1 ∧ u8ok p.Tracks.a0.a2 ∧ u8ok p.Tracks.a0.a3) ∧ (u8ok p.Tracks.a1.a0 ∧ u8ok p.Tracks.a1.a1 ∧ u8ok p.Tracks.a1.a2 ∧ u8ok p.Tracks.a1.a3) ∧ u8ok p.Tracks.a2.a0 ∧ u8ok p.Tracks.a2.a1 ∧ u8ok p.Tracks.a2.a2 ∧ u8ok p.Tracks.a2.a3) :
    ∃ a b c, m_top_FirYarn_made N p = some ⟨[a, b, c], []⟩ ∧ TrackOk a ∧ TrackOk b ∧ TrackOk c := by
  have one : ∀ v : A4_u8, u8ok v.a0 ∧ u8ok v.a1 ∧ u8ok v.a2 ∧ u8ok v.a3 →
      TrackOk ⟨⟨iopR .add .i64 100 (IntKind.wrap .i64 v.a0), iopR .add .i64 (iopR .add .i64 100 (IntKind.wrap .i64 v.a0)) (iopR .mul .i64 2 (iopR .rem .i64 (IntKind.wrap .i64 v.a1) 20))⟩, ⟨iopR .rem .i64 (IntKind.wrap .i64 v.a2) 70, iopR .add .i64 (iopR .rem .i64 (IntKind.wrap .i64 v.a2) 70) (iopR .rem .i64 (IntKind.wrap .i64 v.a3) 20)⟩⟩ := fun v hv => by
    obtain ⟨⟨a0, a1⟩, ⟨b0, b1⟩, ⟨c0, c1⟩, d0, d1⟩ := hv
    rw [wrap_i64 (n := v.a0) (by omega), wrap_i64 (n := v.a1) (by omega), wrap_i64 (n := v.a2) (by omega), wrap_i64 (n := v.a3) (by omega), remW (by omega), remW (by omega), remW (by omega), mulW (by omega), addW (a := 100) (by omega), addW (by omega), addW (by omega)]
    exact ⟨⟨by simp only; omega, by simp only; omega, by simp only; omega, by simp only; omega⟩, ⟨by simp only; omega, by simp only; omega, by simp only; omega, by simp only; omega⟩⟩
  have f1 : fitsN 1 32 := ⟨by omega, by omega⟩
  have f2 : fitsN 2 32 := ⟨by omega, by omega⟩
  have f3 : fitsN 3 32 := ⟨by omega, by omega⟩
  refine ⟨_, _, _, ?_, one _ h.1, one _ h.2.1, one _ h.2.2⟩
  unfold m_top_FirYarn_made
  simp only [m_top_firSpan, bindS, if_pos f1, if_pos f2, if_pos f3]
end Go.Proofs.Ytelnoeamkdpjhaa.Aw

/- Plain: hammers that go by a plan (Goes, Levels, Blows), hours that a cloth can have been beaten (Hours). -/
namespace Go.Proofs.Ytelnoeamkdpjhaa.Aw
open Go Go.RowKit Go.Proofs
set_option linter.unusedSimpArgs false
set_option linter.unusedVariables false
/-! Sums. -/
def isum : List Int → Int
  | [] => 0
  | x :: r => x + isum r
theorem sum_is (N : Nat) (hN : 2000000 ≤ N) {l : List Int} (hl : l.length ≤ 1000) (h : ∀ p ∈ l, 0 ≤ p ∧ p ≤ 8) : loopO (m_stream_sum_L1 N ((l.length : Nat) : Int) l) N (0, 0) = some (isum l) := by
  obtain ⟨q, hq, hp⟩ := loopO_of (step := m_stream_sum_L1 N ((l.length : Nat) : Int) l) (fun s => 0 ≤ s.2 ∧ s.2 ≤ l.length ∧ 0 ≤ s.1 ∧ s.1 ≤ 8 * s.2 ∧ s.1 + isum (l.drop s.2.toNat) = isum l) (fun s => (l.length - s.2).toNat) (fun q => q = isum l) (fun s hi => by
    obtain ⟨n, i⟩ := s
    obtain ⟨i0, i1, i2, i3, i4⟩ := hi
    simp only at i0 i1 i2 i3 i4
    by_cases hc : i < (l.length : Int)
    · left
      have hlt : i.toNat < l.length := by omega
      have hget : l.getD i.toNat 0 = l[i.toNat] := by simp [List.getD_eq_getElem?_getD, hlt]
      have hm := h _ (List.getElem_mem hlt)
      rw [List.drop_eq_getElem_cons hlt, isum] at i4
      simp only [m_stream_sum_L1, icmp_lss, decide_eq_true_eq, if_pos hc, getO_of (d := (0 : Int)) i0 hc, bindS, hget]
      rw [addW (by omega), addW (by omega)]
      refine ⟨_, rfl, ⟨by simp only; omega, by simp only; omega, by simp only; omega, by simp only; omega, ?_⟩, by simp only; omega⟩
      simp only
      rw [show (i + 1).toNat = i.toNat + 1 by omega]
      omega
    · right
      simp only [m_stream_sum_L1, icmp_lss, decide_eq_true_eq, if_neg hc]
      rw [List.drop_eq_nil_of_le (by omega), isum] at i4
      exact ⟨_, rfl, by omega⟩) N (0, 0) ⟨by simp, by simp only; omega, by simp, by simp, by simp⟩ (by simp only; omega)
  rw [hq, hp]
theorem fsum_is (N : Nat) (hN : 2000000 ≤ N) {l : List Int} (hl : l.length ≤ 1000) (h : ∀ p ∈ l, 0 ≤ p ∧ p ≤ 8) : m_top_firSum N l = some (isum l) := by
  unfold m_top_firSum
  have e : m_top_firSum_L1 N l = m_stream_sum_L1 N ((l.length : Nat) : Int) l := rfl
  rw [e, sum_is N hN hl h]
  rfl
/-! Hours. -/
theorem aft_mono {x y r : Int} (hr : 0 ≤ r ∧ r ≤ 100) (h : x ≤ y) : ∀ n, aft x r n ≤ aft y r n
  | 0 => h
  | n + 1 => by
    have ih := aft_mono hr h n
    rw [aft, aft]
    obtain ⟨a, ea⟩ : ∃ a, a = aft x r n := ⟨_, rfl⟩
    obtain ⟨b, eb⟩ : ∃ b, b = aft y r n := ⟨_, rfl⟩
    rw [← ea, ← eb] at ih ⊢
    have h1 : (b - a) * r ≤ (b - a) * 100 := Int.mul_le_mul_of_nonneg_left hr.2 (by omega)
    rw [Int.sub_mul, Int.sub_mul] at h1
    omega
theorem hul_le {f : cloth_stretch → api_Span} : ∀ {l : List cloth_stretch} {a b : Int}, (hul f l a b).1 ≤ a ∧ b ≤ (hul f l a b).2
  | [], a, b => ⟨Int.le_refl _, Int.le_refl _⟩
  | x :: r, a, b => by
    have := hul_le (f := f) (l := r) (a := min a (f x).Low) (b := max b (f x).High)
    rw [hul]
    omega
theorem hul_in {f : cloth_stretch → api_Span} {c d : Int} : ∀ {l : List cloth_stretch} {a b : Int}, (∀ x ∈ l, c ≤ (f x).Low ∧ (f x).High ≤ d) → c ≤ a → b ≤ d → c ≤ (hul f l a b).1 ∧ (hul f l a b).2 ≤ d
  | [], a, b, _, h1, h2 => ⟨h1, h2⟩
  | x :: r, a, b, h, h1, h2 => by
    have := h x (by simp)
    rw [hul]
    exact hul_in (l := r) (fun y hy => h y (List.mem_cons_of_mem _ hy)) (by omega) (by omega)
theorem atT_in {t : api_ClothTrack} (ht : TrackOk t) (h : Nat) : 0 ≤ (atT t h).Low ∧ (atT t h).Low ≤ aft t.First.Low t.Rate.Low h ∧ aft t.First.Low t.Rate.Low h ≤ (atT t h).High ∧ (atT t h).High ≤ 2000 := by
  obtain ⟨b1, b2, b3, b4⟩ := ht.rate
  obtain ⟨a1, a2, a3, a4⟩ := ht.first
  have h1 := hul_le (f := spanAt h) (l := strs t.First (t.Rate.Low + 1) (cnt t)) (a := aft t.First.Low t.Rate.Low h) (b := aft t.First.High t.Rate.Low h)
  have h2 := aft_mono (x := t.First.Low) (y := t.First.High) (r := t.Rate.Low) (by omega) a2 h
  have h3 := aft_step (x := t.First.Low) (r := t.Rate.Low) (by omega) (by omega) h
  have h4 := aft_step (x := t.First.High) (r := t.Rate.Low) (by omega) (by omega) h
  have h5 := hul_in (f := spanAt h) (c := 0) (d := 2000) (l := strs t.First (t.Rate.Low + 1) (cnt t)) (a := aft t.First.Low t.Rate.Low h) (b := aft t.First.High t.Rate.Low h) (fun x hx => by
    obtain ⟨e, r1, r2⟩ := strs_mem hx
    unfold cnt at r2
    unfold spanAt
    rw [e]
    have k1 := aft_step (x := t.First.Low) (r := x.rate) (by omega) (by omega) h
    have k2 := aft_step (x := t.First.High) (r := x.rate) (by omega) (by omega) h
    simp only
    omega) (by omega) (by omega)
  unfold atT
  simp only
  omega
end Go.Proofs.Ytelnoeamkdpjhaa.Aw

/- Plain: the most work that can be done by one hammer (miller.most, Most, Done). -/
namespace Go.Proofs.Ytelnoeamkdpjhaa.Aw
open Go Go.RowKit Go.Proofs
set_option linter.unusedSimpArgs false
set_option linter.unusedVariables false
/-- How many hours one hammer can go, at most. -/
def best (ho ta : Int) : List api_Span → Int → Int
  | [], _ => 0
  | x :: r, w => if 0 ≤ min ho (w + x.Low) - ta then max (max 0 (best ho ta r (min ho (w + x.Low)))) (1 + best ho ta r (min ho (w + x.Low) - ta)) else max 0 (best ho ta r (min ho (w + x.Low)))
theorem best_le (ho ta : Int) : ∀ (l : List api_Span) (w : Int), 0 ≤ best ho ta l w ∧ best ho ta l w ≤ l.length
  | [], w => by simp [best]
  | x :: r, w => by
    have h1 := best_le ho ta r (min ho (w + x.Low))
    have h2 := best_le ho ta r (min ho (w + x.Low) - ta)
    simp only [best, List.length_cons]
    split <;> omega
/-- What a miller knows is right. -/
def knows (ho ta : Int) (fl : List api_Span) (K : List (stream_spot × Int)) : Prop := ∀ s n, mfind K s = some n → n = best ho ta (fl.drop s.hour.toNat) s.water
theorem spot_eq {a b : stream_spot} : (a == b) = true ↔ a = b := by
  obtain ⟨a1, a2⟩ := a
  obtain ⟨b1, b2⟩ := b
  show ((a1 == b1 && (a2 == b2 && true)) = true) ↔ _
  simp
theorem mfind_set {s t : stream_spot} {v n : Int} : ∀ {K : List (stream_spot × Int)}, mfind (mset K s v) t = some n → (t = s ∧ n = v) ∨ mfind K t = some n
  | [], h => by
    simp only [mset, mfind] at h
    split at h
    · rename_i e
      exact .inl ⟨spot_eq.1 e, by cases h; rfl⟩
    · cases h
  | p :: r, h => by
    simp only [mset] at h
    split at h
    · rename_i e
      simp only [mfind] at h ⊢
      split at h
      · rename_i e2
        exact .inl ⟨spot_eq.1 e2, by cases h; rfl⟩
      · rename_i e2
        right
        rw [← spot_eq.1 e, if_neg e2]
        exact h
    · simp only [mfind] at h ⊢
      split at h
      · rename_i e2
        right; rw [if_pos e2]; exact h
      · rename_i e2
        rw [if_neg e2]
        exact mfind_set h
theorem knows_set {ho ta : Int} {fl : List api_Span} {K : List (stream_spot × Int)} (h : knows ho ta fl K) {s : stream_spot} {n : Int} (e : n = best ho ta (fl.drop s.hour.toNat) s.water) : knows ho ta fl (mset K s n) := by
  intro t k hk
  rcases mfind_set hk with ⟨rfl, rfl⟩ | hk
  · exact e
  · exact h t k hk
theorem knows_nil (ho ta : Int) (fl : List api_Span) : knows ho ta fl [] := by intro s n h; cases h
theorem mhas_get {K : List (stream_spot × Int)} {s : stream_spot} (h : mhas K s = true) : mfind K s = some (mget K s 0) := by
  unfold mhas at h
  unfold mget
  cases hf : mfind K s with
  | none => rw [hf] at h; cases h
  | some n => rfl
structure OneOk (m : api_StreamMill) (fl : List api_Span) : Prop where
  ok : MillOk m
  one : m.Hammers = 1
  len : fl.length ≤ 24
  sp : ∀ s ∈ fl, SpOk 500 s
theorem after_one (N : Nat) {m : api_StreamMill} {fl : List api_Span} (h : OneOk m fl) (K : List (stream_spot × Int)) {k : Nat} (hk : k < fl.length) {w : Int} (hw : 0 ≤ w ∧ w ≤ 500) {ham : Int} (hh : 0 ≤ ham ∧ ham ≤ 1) :
    m_stream_miller_after N ⟨⟨m, fl⟩, K⟩ ⟨k, w⟩ ham = some ⟨((k + 1 : Nat) : Int), min m.Holds (w + (fl.getD k d_api_Span).Low) - ham * m.Takes⟩ := by
  obtain ⟨t0, t1⟩ := h.ok.tak
  obtain ⟨b0, b1⟩ := h.ok.hol
  obtain ⟨x, ex⟩ : ∃ x, x = fl.getD k d_api_Span := ⟨_, rfl⟩
  have hx := h.sp _ (getD_mem (d := d_api_Span) hk)
  rw [← ex] at hx ⊢
  unfold SpOk at hx
  have hk1 : (k : Int) < (fl.length : Int) := by omega
  have hg : getO d_api_Span fl (k : Int) = some x := by rw [getO_of (by omega) hk1, ex]; simp
  have m0 : 0 ≤ ham * m.Takes := Int.mul_nonneg hh.1 t0
  have m1 : ham * m.Takes ≤ 1 * 100 := Int.mul_le_mul hh.2 t1 t0 (by omega)
  have hlen := h.len
  unfold m_stream_miller_after
  simp only [hg, bindS]
  rw [addW (by omega), addW (by omega), mulW (by omega), subW (by omega)]
  rfl
theorem drop_get {fl : List api_Span} {k : Nat} (hk : k < fl.length) : fl.drop k = fl.getD k d_api_Span :: fl.drop (k + 1) := by
  rw [List.drop_eq_getElem_cons hk]
  congr 1
  simp [List.getD_eq_getElem?_getD, hk]
theorem most_is {m : api_StreamMill} {fl : List api_Span} (h : OneOk m fl) : ∀ (N k : Nat) (w : Int) (K : List (stream_spot × Int)), k ≤ fl.length → fl.length - k + 10 ≤ N → 0 ≤ w → w ≤ m.Holds → knows m.Holds m.Takes fl K →
    ∃ K', m_stream_miller_most N ⟨⟨m, fl⟩, K⟩ ⟨k, w⟩ = some (best m.Holds m.Takes (fl.drop k) w, K') ∧ knows m.Holds m.Takes fl K'
  | 0, k, w, K, _, hN, _, _, _ => by omega
  | N + 1, k, w, K, hk, hN, w0, w1, hK => by
    obtain ⟨t0, t1⟩ := h.ok.tak
    obtain ⟨b0, b1⟩ := h.ok.hol
    rw [m_stream_miller_most]
    unfold m_stream_miller_most_B
    simp only [icmp_eql, decide_eq_true_eq, letO_eq]
    by_cases hc : k = fl.length
    · subst hc
      rw [if_pos rfl, List.drop_length, best]
      exact ⟨K, rfl, hK⟩
    · have hk' : k < fl.length := by omega
      rw [if_neg (by omega)]
      by_cases hh : mhas K ⟨k, w⟩ = true
      · rw [if_pos hh, hK _ _ (mhas_get hh)]
        simp only [Int.toNat_natCast]
        exact ⟨K, rfl, hK⟩
      · rw [if_neg hh, h.one, show iopR .add .i64 1 1 = 2 from rfl]
        obtain ⟨x, ex⟩ : ∃ x, x = fl.getD k d_api_Span := ⟨_, rfl⟩
        have hx := h.sp _ (getD_mem (d := d_api_Span) hk')
        rw [← ex] at hx
        unfold SpOk at hx
        obtain ⟨f, ef⟩ : ∃ f, f = min m.Holds (w + x.Low) := ⟨_, rfl⟩
        have a0 : ∀ K, m_stream_miller_after N ⟨⟨m, fl⟩, K⟩ ⟨k, w⟩ 0 = some ⟨((k + 1 : Nat) : Int), f⟩ := fun K => by
          rw [after_one N h K hk' ⟨w0, by omega⟩ ⟨by omega, by omega⟩, ← ex, ← ef]; simp
        have a1 : ∀ K, m_stream_miller_after N ⟨⟨m, fl⟩, K⟩ ⟨k, w⟩ 1 = some ⟨((k + 1 : Nat) : Int), f - m.Takes⟩ := fun K => by
          rw [after_one N h K hk' ⟨w0, by omega⟩ ⟨by omega, by omega⟩, ← ex, ← ef]; simp
        obtain ⟨K1, e1, h1⟩ := most_is h N (k + 1) f K (by omega) (by omega) (by omega) (by omega) hK
        have hbest : best m.Holds m.Takes (fl.drop k) w = if 0 ≤ f - m.Takes then max (max 0 (best m.Holds m.Takes (fl.drop (k + 1)) f)) (1 + best m.Holds m.Takes (fl.drop (k + 1)) (f - m.Takes)) else max 0 (best m.Holds m.Takes (fl.drop (k + 1)) f) := by
          rw [drop_get hk', best, ← ex, ← ef]
        obtain ⟨B1, eB1⟩ : ∃ b, b = best m.Holds m.Takes (fl.drop (k + 1)) f := ⟨_, rfl⟩
        have l1 := best_le m.Holds m.Takes (fl.drop (k + 1)) f
        have hld : (fl.drop (k + 1)).length ≤ 24 := by simp only [List.length_drop]; have := h.len; omega
        rw [← eB1] at e1 hbest l1
        have s0 : m_stream_miller_most_L1 N 2 ⟨⟨m, fl⟩, K⟩ ⟨k, w⟩ (m_stream_miller_most N) (0, 0, K) = some (.inl (max 0 B1, 1, K1)) := by
          simp only [m_stream_miller_most_L1, icmp_lss, icmp_geq, decide_eq_true_eq, a0, bindS]
          rw [if_pos (by omega), if_pos (by omega), e1]
          simp only [bindS]
          rw [addW (a := 0) (b := B1) (by omega), show iopR .add .i64 0 1 = 1 from rfl, Int.zero_add]
        have s2 : ∀ q K2, m_stream_miller_most_L1 N 2 ⟨⟨m, fl⟩, K⟩ ⟨k, w⟩ (m_stream_miller_most N) (q, 2, K2) = some (.inr (q, K2)) := fun q K2 => by
          simp only [m_stream_miller_most_L1, icmp_lss]
          rfl
        obtain ⟨M, hM⟩ : ∃ M, N = M + 3 := ⟨N - 3, by omega⟩
        have hloop : ∃ q K2, loopO (m_stream_miller_most_L1 N 2 ⟨⟨m, fl⟩, K⟩ ⟨k, w⟩ (m_stream_miller_most N)) N (0, 0, K) = some (q, K2) ∧ q = best m.Holds m.Takes (fl.drop k) w ∧ knows m.Holds m.Takes fl K2 := by
          by_cases hf : 0 ≤ f - m.Takes
          · obtain ⟨K2, e2, h2⟩ := most_is h N (k + 1) (f - m.Takes) K1 (by omega) (by omega) hf (by omega) h1
            obtain ⟨B2, eB2⟩ : ∃ b, b = best m.Holds m.Takes (fl.drop (k + 1)) (f - m.Takes) := ⟨_, rfl⟩
            have l2 := best_le m.Holds m.Takes (fl.drop (k + 1)) (f - m.Takes)
            rw [← eB2] at e2 hbest l2
            have s1 : m_stream_miller_most_L1 N 2 ⟨⟨m, fl⟩, K⟩ ⟨k, w⟩ (m_stream_miller_most N) (max 0 B1, 1, K1) = some (.inl (max (max 0 B1) (1 + B2), 2, K2)) := by
              simp only [m_stream_miller_most_L1, icmp_lss, icmp_geq, decide_eq_true_eq, a1, bindS]
              rw [if_pos (by omega), if_pos (by omega), e2]
              simp only [bindS]
              rw [addW (a := 1) (b := B2) (by omega), show iopR .add .i64 1 1 = 2 from rfl]
            rw [if_pos hf] at hbest
            refine ⟨_, K2, ?_, hbest.symm, h2⟩
            generalize m_stream_miller_most_L1 N 2 ⟨⟨m, fl⟩, K⟩ ⟨k, w⟩ (m_stream_miller_most N) = step at s0 s1 s2
            rw [hM, loopO_inl s0, loopO_inl s1, loopO_inr (s2 _ _)]
          · have s1 : m_stream_miller_most_L1 N 2 ⟨⟨m, fl⟩, K⟩ ⟨k, w⟩ (m_stream_miller_most N) (max 0 B1, 1, K1) = some (.inl (max 0 B1, 2, K1)) := by
              simp only [m_stream_miller_most_L1, icmp_lss, icmp_geq, decide_eq_true_eq, a1, bindS]
              rw [if_pos (by omega), if_neg (by omega)]
              simp only [bindS]
              rw [show iopR .add .i64 1 1 = 2 from rfl]
            rw [if_neg hf] at hbest
            refine ⟨_, K1, ?_, hbest.symm, h1⟩
            generalize m_stream_miller_most_L1 N 2 ⟨⟨m, fl⟩, K⟩ ⟨k, w⟩ (m_stream_miller_most N) = step at s0 s1 s2
            rw [hM, loopO_inl s0, loopO_inl s1, loopO_inr (s2 _ _)]
        obtain ⟨q, K2, e2, eq, h2⟩ := hloop
        rw [e2, bindS]
        simp only
        refine ⟨mset K2 ⟨k, w⟩ q, by rw [eq], knows_set h2 (by simp only [Int.toNat_natCast]; exact eq)⟩
/-- Most's plan has the most work. -/
theorem Most_is (N : Nat) (hN : 2000000 ≤ N) {m : api_StreamMill} {fl : List api_Span} (h : OneOk m fl) (h1 : 1 ≤ fl.length) :
    ∃ plan, m_stream_Most N m fl = some (plan, 0) ∧ plan.length = fl.length ∧ (∀ p ∈ plan, 0 ≤ p ∧ p ≤ 1) ∧ isum plan = best m.Holds m.Takes fl m.Now.Low := by
  obtain ⟨t0, t1⟩ := h.ok.tak
  obtain ⟨b0, b1⟩ := h.ok.hol
  have hlen := h.len
  have hnow := h.ok.now
  have isapp : ∀ (l : List Int) (x : Int), isum (l ++ [x]) = isum l + x := by
    intro l x
    induction l with
    | nil => simp [isum]
    | cons y r ih => simp only [List.cons_append, isum, ih]; omega
  obtain ⟨plan, hq, p1, p2, p3⟩ := loopO_of (step := m_stream_Most_L1 N fl ⟨⟨m, fl⟩, []⟩) (fun s => 0 ≤ s.1 ∧ s.1 ≤ fl.length ∧ 0 ≤ s.2.1 ∧ s.2.1 ≤ m.Holds ∧ knows m.Holds m.Takes fl s.2.2.1 ∧ (s.2.2.2.length : Int) = s.1 ∧ (∀ p ∈ s.2.2.2, 0 ≤ p ∧ p ≤ 1) ∧ isum s.2.2.2 + best m.Holds m.Takes (fl.drop s.1.toNat) s.2.1 = best m.Holds m.Takes fl m.Now.Low) (fun s => (fl.length - s.1).toNat) (fun q => q.length = fl.length ∧ (∀ p ∈ q, 0 ≤ p ∧ p ≤ 1) ∧ isum q = best m.Holds m.Takes fl m.Now.Low) (fun s hi => by
    obtain ⟨i, w, K, pl⟩ := s
    obtain ⟨i0, i1, w0, w1, hK, hl, hp, hb⟩ := hi
    simp only at i0 i1 w0 w1 hK hl hp hb
    obtain ⟨k, rfl⟩ : ∃ k : Nat, i = k := ⟨i.toNat, by omega⟩
    simp only [Int.toNat_natCast] at hb
    by_cases hc : k < fl.length
    · left
      have hc1 : (k : Int) < ((fl.length : Nat) : Int) := by omega
      obtain ⟨x, ex⟩ : ∃ x, x = fl.getD k d_api_Span := ⟨_, rfl⟩
      have hx := h.sp _ (getD_mem (d := d_api_Span) hc)
      rw [← ex] at hx
      unfold SpOk at hx
      obtain ⟨f, ef⟩ : ∃ f, f = min m.Holds (w + x.Low) := ⟨_, rfl⟩
      have a0 : ∀ K, m_stream_miller_after N ⟨⟨m, fl⟩, K⟩ ⟨k, w⟩ 0 = some ⟨((k + 1 : Nat) : Int), f⟩ := fun K => by
        rw [after_one N h K hc ⟨w0, by omega⟩ ⟨by omega, by omega⟩, ← ex, ← ef]; simp
      have a1 : ∀ K, m_stream_miller_after N ⟨⟨m, fl⟩, K⟩ ⟨k, w⟩ 1 = some ⟨((k + 1 : Nat) : Int), f - m.Takes⟩ := fun K => by
        rw [after_one N h K hc ⟨w0, by omega⟩ ⟨by omega, by omega⟩, ← ex, ← ef]; simp
      have hbest : best m.Holds m.Takes (fl.drop k) w = if 0 ≤ f - m.Takes then max (max 0 (best m.Holds m.Takes (fl.drop (k + 1)) f)) (1 + best m.Holds m.Takes (fl.drop (k + 1)) (f - m.Takes)) else max 0 (best m.Holds m.Takes (fl.drop (k + 1)) f) := by
        rw [drop_get hc, best, ← ex, ← ef]
      have hld : (fl.drop (k + 1)).length ≤ 24 := by simp only [List.length_drop]; omega
      have l1 := best_le m.Holds m.Takes (fl.drop (k + 1)) f
      have l2 := best_le m.Holds m.Takes (fl.drop (k + 1)) (f - m.Takes)
      have l3 := best_le m.Holds m.Takes (fl.drop k) w
      have hld' : (fl.drop k).length ≤ 24 := by simp only [List.length_drop]; omega
      obtain ⟨M, hM⟩ : ∃ M, N = M + 2 := ⟨N - 2, by omega⟩
      have hin : ∃ n K', loopO (m_stream_Most_L2 N ⟨⟨m, fl⟩, []⟩ k w) N (0, ((k + 1 : Nat) : Int), f, K) = some (n, K') ∧ knows m.Holds m.Takes fl K' ∧ 0 ≤ n ∧ n ≤ 1 ∧ 0 ≤ f - n * m.Takes ∧ best m.Holds m.Takes (fl.drop k) w = n + best m.Holds m.Takes (fl.drop (k + 1)) (f - n * m.Takes) := by
        obtain ⟨K1, e1, h1⟩ := most_is h N (k + 1) f K (by omega) (by omega) (by omega) (by omega) hK
        obtain ⟨K2, e2, h2⟩ := most_is h N k w K1 (by omega) (by omega) w0 w1 h1
        by_cases hlt : best m.Holds m.Takes (fl.drop (k + 1)) f < best m.Holds m.Takes (fl.drop k) w
        · have hf : 0 ≤ f - m.Takes := by
            by_cases hf : 0 ≤ f - m.Takes
            · exact hf
            · rw [if_neg hf] at hbest; omega
          rw [if_pos hf] at hbest
          obtain ⟨K3, e3, h3⟩ := most_is h N (k + 1) (f - m.Takes) K2 (by omega) (by omega) hf (by omega) h2
          obtain ⟨K4, e4, h4⟩ := most_is h N k w K3 (by omega) (by omega) w0 w1 h3
          refine ⟨1, K4, ?_, h4, by omega, by omega, by rw [Int.one_mul]; exact hf, by rw [Int.one_mul]; omega⟩
          have s0 : m_stream_Most_L2 N ⟨⟨m, fl⟩, []⟩ k w (0, ((k + 1 : Nat) : Int), f, K) = some (.inl (1, ((k + 1 : Nat) : Int), f - m.Takes, K2)) := by
            simp only [m_stream_Most_L2, icmp_lss, decide_eq_true_eq]
            rw [if_neg (by omega), e1]
            simp only [bindS]
            rw [e2]
            simp only [bindS]
            rw [addW (a := 0) (by omega), Int.zero_add, if_pos (decide_eq_true hlt), show iopR .add .i64 0 1 = 1 from rfl, a1]
            rfl
          have s1 : m_stream_Most_L2 N ⟨⟨m, fl⟩, []⟩ k w (1, ((k + 1 : Nat) : Int), f - m.Takes, K2) = some (.inr (1, K4)) := by
            simp only [m_stream_Most_L2, icmp_lss, decide_eq_true_eq]
            rw [if_neg (by omega), e3]
            simp only [bindS]
            rw [e4]
            simp only [bindS]
            rw [addW (a := 1) (by omega), if_neg (by simp only [decide_eq_true_eq]; omega)]
          generalize m_stream_Most_L2 N ⟨⟨m, fl⟩, []⟩ k w = step at s0 s1
          rw [hM, loopO_inl s0, loopO_inr s1]
        · refine ⟨0, K2, ?_, h2, by omega, by omega, by rw [Int.zero_mul]; omega, ?_⟩
          · have s0 : m_stream_Most_L2 N ⟨⟨m, fl⟩, []⟩ k w (0, ((k + 1 : Nat) : Int), f, K) = some (.inr (0, K2)) := by
              simp only [m_stream_Most_L2, icmp_lss, decide_eq_true_eq]
              rw [if_neg (by omega), e1]
              simp only [bindS]
              rw [e2]
              simp only [bindS]
              rw [addW (a := 0) (by omega), Int.zero_add, if_neg (by simp only [decide_eq_true_eq]; exact hlt)]
            generalize m_stream_Most_L2 N ⟨⟨m, fl⟩, []⟩ k w = step at s0
            rw [hM, loopO_inr s0]
          · rw [Int.zero_mul, Int.sub_zero, Int.zero_add]
            split at hbest <;> omega
      obtain ⟨n, K', e1, h1, n0, n1, hf, hbn⟩ := hin
      have hfit : fitsN (pl.length + 1) 8 := ⟨by omega, by omega⟩
      have a2 : m_stream_miller_after N ⟨⟨m, fl⟩, K'⟩ ⟨k, w⟩ n = some ⟨((k + 1 : Nat) : Int), f - n * m.Takes⟩ := by
        rw [after_one N h K' hc ⟨w0, by omega⟩ ⟨n0, n1⟩, ← ex, ← ef]
      have hnt : 0 ≤ n * m.Takes := Int.mul_nonneg n0 t0
      simp only [m_stream_Most_L1, icmp_lss, decide_eq_true_eq, if_pos hc1, a0, bindS, e1, letO_eq, if_pos hfit, a2]
      refine ⟨_, rfl, ⟨by simp only; omega, by simp only; omega, by simp only; omega, by simp only; omega, h1, by simp only [List.length_append, List.length_singleton]; omega, fun p hp' => ?_, ?_⟩, by simp only; omega⟩
      · simp only at hp'
        rcases List.mem_append.1 hp' with hp' | hp'
        · exact hp p hp'
        · rw [List.mem_singleton] at hp'
          subst hp'
          exact ⟨n0, n1⟩
      · simp only [Int.toNat_natCast]
        rw [isapp]
        omega
    · right
      have hc1 : ¬ (k : Int) < ((fl.length : Nat) : Int) := by omega
      simp only [m_stream_Most_L1, icmp_lss, decide_eq_true_eq, if_neg hc1]
      rw [List.drop_eq_nil_of_le (by omega), best] at hb
      exact ⟨_, rfl, by omega, hp, by omega⟩) N (0, m.Now.Low, [], []) ⟨by simp, by simp only; omega, by simp only; omega, by simp only; omega, knows_nil _ _ _, by simp, by simp, by simp [isum]⟩ (by simp only; omega)
  have hnew : m_stream_newMiller N ⟨m, fl⟩ ((fl.length : Nat) : Int) = some ⟨⟨m, fl⟩, []⟩ := by
    unfold m_stream_newMiller
    rw [if_pos (by omega), if_pos (by omega), if_pos (by simp)]
    simp
  refine ⟨plan, ?_, p1, p2, p3⟩
  unfold m_stream_Most
  rw [open_ok N hN h.ok h1 hlen h.sp, bindS]
  simp only [icmp_neq, decide_eq_true_eq]
  rw [if_neg (by simp), hnew, bindS, hq]
  rfl
/-- After how many hours some work is done. -/
theorem Done_is (N : Nat) (hN : 2000000 ≤ N) {m : api_StreamMill} {fl : List api_Span} (h : OneOk m fl) (h1 : 1 ≤ fl.length) {work : Int} (hw : 0 ≤ work ∧ work ≤ 200) :
    (m_stream_Done N m fl work = some (0, 7) ∧ best m.Holds m.Takes fl m.Now.Low < work) ∨
    ∃ v : Nat, m_stream_Done N m fl work = some ((v : Int), 0) ∧ v ≤ fl.length ∧ work ≤ best m.Holds m.Takes (fl.take v) m.Now.Low ∧ ∀ u, u < v → best m.Holds m.Takes (fl.take u) m.Now.Low < work := by
  obtain ⟨b0, b1⟩ := h.ok.hol
  have hlen := h.len
  have hnow := h.ok.now
  obtain ⟨q, hq, hp⟩ := loopO_of (step := m_stream_Done_L1 N (((fl.length : Nat) : Int) + 1) (⟨m, fl⟩, 0) m work) (fun i => 0 ≤ i ∧ i ≤ fl.length + 1 ∧ ∀ u : Nat, (u : Int) < i → best m.Holds m.Takes (fl.take u) m.Now.Low < work) (fun i => (fl.length + 1 - i).toNat)
    (fun q => match q with
      | .inl i => ∃ v : Nat, i = v ∧ v ≤ fl.length ∧ work ≤ best m.Holds m.Takes (fl.take v) m.Now.Low ∧ ∀ u, u < v → best m.Holds m.Takes (fl.take u) m.Now.Low < work
      | .inr _ => best m.Holds m.Takes fl m.Now.Low < work) (fun i hi => by
    obtain ⟨i0, i1, i2⟩ := hi
    obtain ⟨k, rfl⟩ : ∃ k : Nat, i = k := ⟨i.toNat, by omega⟩
    by_cases hc : (k : Int) < ((fl.length : Nat) : Int) + 1
    · have hnew : m_stream_newMiller N ⟨m, fl⟩ (k : Int) = some ⟨⟨m, fl.take k⟩, []⟩ := by
        unfold m_stream_newMiller
        rw [if_pos (by omega), if_pos (by omega), if_pos (by simp only; omega)]
        simp
      have hone : OneOk m (fl.take k) := ⟨h.ok, h.one, by simp only [List.length_take]; omega, fun s hs => h.sp s (List.mem_of_mem_take hs)⟩
      obtain ⟨K', e1, h1⟩ := most_is hone N 0 m.Now.Low [] (by omega) (by simp only [List.length_take]; omega) hnow.1 (by omega) (knows_nil _ _ _)
      have e1 : m_stream_miller_most N ⟨⟨m, fl.take k⟩, []⟩ ⟨0, m.Now.Low⟩ = some (best m.Holds m.Takes (fl.take k) m.Now.Low, K') := e1
      simp only [m_stream_Done_L1, icmp_lss, icmp_geq, decide_eq_true_eq, if_pos hc, hnew, bindS, e1]
      by_cases hb : best m.Holds m.Takes (fl.take k) m.Now.Low ≥ work
      · right
        rw [if_pos hb]
        exact ⟨_, rfl, k, rfl, by omega, hb, fun u hu => i2 u (by omega)⟩
      · left
        rw [if_neg hb, addW (by omega)]
        refine ⟨_, rfl, ⟨by omega, by omega, fun u hu => ?_⟩, by omega⟩
        by_cases he : u = k
        · subst he; omega
        · exact i2 u (by omega)
    · right
      simp only [m_stream_Done_L1, icmp_lss, decide_eq_true_eq, if_neg hc]
      refine ⟨_, rfl, ?_⟩
      have := i2 fl.length (by omega)
      rw [List.take_length] at this
      exact this) N 0 ⟨by omega, by omega, fun u hu => by omega⟩ (by omega)
  unfold m_stream_Done
  rw [open_ok N hN h.ok h1 hlen h.sp, bindS]
  simp only [icmp_neq, decide_eq_true_eq, letO_eq]
  rw [if_neg (by simp), sw_ok N hN (by simp) (by intro n hn; simp only [List.mem_singleton] at hn; omega), bindS, addW (by omega)]
  simp only [Bool.not_true, Bool.false_eq_true, if_false]
  rw [hq, bindS]
  cases q with
  | inl i =>
    obtain ⟨v, rfl, v1, v2, v3⟩ := hp
    exact .inr ⟨v, rfl, v1, v2, v3⟩
  | inr u => exact .inl ⟨rfl, hp⟩
/-- From which hours on a cloth is no wider. -/
theorem Below_is (N : Nat) (hN : 2000000 ≤ N) {a b c : api_ClothTrack} (ha : TrackOk a) (hb : TrackOk b) (hc : TrackOk c) {limit : Int} (hl : 0 ≤ limit ∧ limit ≤ 2000) :
    ∃ s p : Int, m_cloth_Below N ⟨[a, b, c], []⟩ 1 limit = some (s, p, 0) ∧ 0 ≤ p ∧ p ≤ s ∧ s ≤ 49 ∧ ∀ h : Nat, h ≤ 48 → ((atT b h).High ≤ limit ↔ s ≤ h) := by
  obtain ⟨q, hq, p1, p2, p3, p4⟩ := loopO_of (step := m_cloth_Below_L1 N (⟨strT a, strT b, strT c⟩, 0) 1 limit) (fun s => -1 ≤ s.2.2 ∧ s.2.2 ≤ 48 ∧ s.2.2 < s.2.1 ∧ s.2.1 ≤ s.1 ∧ s.1 ≤ 49 ∧ ∀ h : Nat, s.2.2 < h → h ≤ 48 → ((atT b h).High ≤ limit ↔ s.1 ≤ h)) (fun s => (s.2.2 + 1).toNat) (fun q => 0 ≤ q.2 ∧ q.2 ≤ q.1 ∧ q.1 ≤ 49 ∧ ∀ h : Nat, h ≤ 48 → ((atT b h).High ≤ limit ↔ q.1 ≤ h)) (fun s hi => by
    obtain ⟨su, po, i⟩ := s
    obtain ⟨i0, i1, i2, i3, i4, i5⟩ := hi
    simp only at i0 i1 i2 i3 i4 i5
    by_cases hc' : i ≥ 0
    · left
      obtain ⟨k, rfl⟩ : ∃ k : Nat, i = k := ⟨i.toNat, by omega⟩
      have t1 : m_cloth_truths_at N ⟨strT a, strT b, strT c⟩ 1 k = some (atT b k) := by
        unfold m_cloth_truths_at
        simp only [icmp_eql, decide_eq_true_eq]
        rw [if_pos (by omega), if_neg (by omega), if_pos trivial, hulled_is N hN hb (by omega)]
        rfl
      obtain ⟨r0, r1, r2, r3⟩ := atT_in hb k
      have hanti : ∀ h : Nat, k ≤ h → (atT b h).High ≤ (atT b k).High := fun h hh => (atT_anti hb hh).2
      simp only [m_cloth_Below_L1, icmp_geq, icmp_leq, decide_eq_true_eq, if_pos hc', t1, bindS]
      rw [subW (by omega)]
      by_cases c1 : (atT b k).High ≤ limit
      · have c2 : (atT b k).Low ≤ limit := by omega
        simp only [if_pos c1, if_pos c2, bindS]
        refine ⟨_, rfl, ⟨by simp only; omega, by simp only; omega, by simp only; omega, by simp only; omega, by simp only; omega, fun h h1 h2 => ?_⟩, by simp only; omega⟩
        simp only at h1 ⊢
        have := hanti h (by omega)
        constructor
        · intro _; omega
        · intro _; omega
      · have hsu : (k : Int) < su := by omega
        have hR : ∀ h : Nat, (k : Int) - 1 < h → h ≤ 48 → ((atT b h).High ≤ limit ↔ su ≤ h) := fun h h1 h2 => by
          by_cases he : h = k
          · subst he
            constructor
            · intro h; exact absurd h c1
            · intro h; omega
          · exact i5 h (by omega) h2
        by_cases c2 : (atT b k).Low ≤ limit
        · simp only [if_neg c1, if_pos c2, bindS]
          exact ⟨_, rfl, ⟨by simp only; omega, by simp only; omega, by simp only; omega, by simp only; omega, by simp only; omega, hR⟩, by simp only; omega⟩
        · simp only [if_neg c1, if_neg c2, bindS]
          exact ⟨_, rfl, ⟨by simp only; omega, by simp only; omega, by simp only; omega, by simp only; omega, by simp only; omega, hR⟩, by simp only; omega⟩
    · right
      simp only [m_cloth_Below_L1, icmp_geq, decide_eq_true_eq, if_neg hc']
      exact ⟨_, rfl, by simp only; omega, by simp only; omega, by simp only; omega, fun h hh => i5 h (by omega) hh⟩) N (49, 49, 48) ⟨by simp, by simp, by simp, by simp, by simp, fun h h1 h2 => by simp only at h1; omega⟩ (by simp only; omega)
  obtain ⟨s, p⟩ := q
  refine ⟨s, p, ?_, p1, p2, p3, p4⟩
  have hwhat : m_cloth_isWhat N 1 = some true := by
    unfold m_cloth_isWhat
    rw [cw_ok N hN (by simp) (by intro n hn; simp only [List.mem_singleton] at hn; omega)]
    rfl
  unfold m_cloth_Below
  rw [copen_ok N hN ha hb hc, bindS]
  simp only [icmp_neq, decide_eq_true_eq]
  rw [if_neg (by simp), hwhat, bindS, cw_ok N hN (by simp) (by intro n hn; simp only [List.mem_singleton] at hn; omega)]
  simp only [Bool.not_true, Bool.false_eq_true, if_false, bindS]
  rw [hq]
  rfl
end Go.Proofs.Ytelnoeamkdpjhaa.Aw

/- Plain: TopBeatenLonger. -/
namespace Go.Proofs.Ytelnoeamkdpjhaa.Aw
open Go Go.RowKit Go.Proofs
set_option linter.unusedSimpArgs false
set_option linter.unusedVariables false
theorem firKnown02_is : m_top_firKnown02 2000000 = some true := by kernel_rfl
end Go.Proofs.Ytelnoeamkdpjhaa.Aw

/- Plain: TopWorkNarrow. -/
namespace Go.Proofs.Ytelnoeamkdpjhaa.Aw
open Go Go.RowKit Go.Proofs
set_option linter.unusedSimpArgs false
set_option linter.unusedVariables false
theorem some_hours (N : Nat) (hN : 2000000 ≤ N) {a b c : api_ClothTrack} (ha : TrackOk a) (hb : TrackOk b) (hc : TrackOk c) {m : api_StreamMill} {l : List api_Span} (h : OneOk m l) (hl : l.length ≤ 12) {u : Nat} (h1 : 1 ≤ u) (h2 : u ≤ l.length) :
    ∃ (plan : List Int) (B : Nat), m_top_firOwn N ((l.take u).drop 0) = some (l.take u) ∧ m_stream_Most N m (l.take u) = some (plan, 0) ∧ ((plan.length : Nat) : Int) = u ∧ m_top_firSum N plan = some (B : Int) ∧ B ≤ 12 ∧ (B : Int) = best m.Holds m.Takes (l.take u) m.Now.Low ∧
      m_cloth_At N ⟨[a, b, c], []⟩ B = some ([atT a B, atT b B, atT c B], 0) := by
  have hlt : (l.take u).length = u := by simp only [List.length_take]; omega
  have hone : OneOk m (l.take u) := ⟨h.ok, h.one, by omega, fun s hs => h.sp s (List.mem_of_mem_take hs)⟩
  obtain ⟨plan, e1, p1, p2, p3⟩ := Most_is N hN hone (by omega)
  have hb2 := best_le m.Holds m.Takes (l.take u) m.Now.Low
  rw [hlt] at hb2
  obtain ⟨B, eB⟩ : ∃ B : Nat, best m.Holds m.Takes (l.take u) m.Now.Low = B := ⟨_, (Int.toNat_of_nonneg hb2.1).symm⟩
  refine ⟨plan, B, ?_, e1, by omega, ?_, by omega, eB.symm, At_is N hN ha hb hc (by omega)⟩
  · unfold m_top_firOwn
    rw [List.drop_zero, if_pos ⟨by omega, by omega⟩]
  · rw [fsum_is N hN (by omega) (fun p h => by have := p2 p h; omega), p3, eB]
theorem law_TopWorkNarrow (p : top_FirYarn) (y : top_FirBeck) (v : Int)
    (hp : (u8ok p.Tracks.a0.a0 ∧ u8ok p.Tracks.a0.a1 ∧ u8ok p.Tracks.a0.a2 ∧ u8ok p.Tracks.a0.a3) ∧ (u8ok p.Tracks.a1.a0 ∧ u8ok p.Tracks.a1.a1 ∧ u8ok p.Tracks.a1.a2 ∧ u8ok p.Tracks.a1.a3) ∧ u8ok p.Tracks.a2.a0 ∧ u8ok p.Tracks.a2.a1 ∧ u8ok p.Tracks.a2.a2 ∧ u8ok p.Tracks.a2.a3)
    (hy : (u8ok y.Mill.a0 ∧ u8ok y.Mill.a1 ∧ u8ok y.Mill.a2 ∧ u8ok y.Mill.a3) ∧ ∀ x ∈ y.Flows, u8ok x.a0 ∧ u8ok x.a1) (hv : u8ok v) :
    m_top_TopWorkNarrow 2000000 p y v = some true := by
  have hK := firKnown02_is
  obtain ⟨N, hN⟩ : ∃ N, N = 2000000 := ⟨_, rfl⟩
  rw [← hN] at hK ⊢
  have hN : 2000000 ≤ N := by omega
  obtain ⟨v0, v1⟩ := hv
  obtain ⟨a, b, c, q1, ha, hb, hc⟩ := made_yarn N p hp
  obtain ⟨m, l, q2, hm, l1, l2, hl⟩ := made_beck N hN y hy.1 hy.2
  obtain ⟨w, ew⟩ : ∃ w, w = api_StreamMill.mk 1 m.Takes m.Blows m.Holds m.Now := ⟨_, rfl⟩
  have hw : MillOk w := by
    subst ew
    exact ⟨by simp only; omega, hm.tak, hm.blo, hm.hol, hm.now⟩
  have hone : OneOk w l := ⟨hw, by rw [ew], by omega, hl⟩
  have hown : m_top_firOwn N l = some l := by unfold m_top_firOwn; rw [if_pos ⟨by omega, by omega⟩]
  have hcl : m_top_firCloth N ⟨[a, b, c], []⟩ = some ⟨[a, b, c], []⟩ := by
    unfold m_top_firCloth
    rw [if_pos ⟨by simp, by simp⟩, if_pos ⟨by simp, by simp⟩]
  have k1 : getO d_api_ClothTrack [a, b, c] 1 = some b := by rw [getO_of (by omega) (by simp)]; rfl
  have g1 : ∀ x y z : api_Span, getO d_api_Span [x, y, z] 1 = some y := fun x y z => by rw [getO_of (by omega) (by simp)]; rfl
  have hln : ∀ x y z : api_Span, (([x, y, z] : List api_Span).length : Int) = 3 := fun _ _ _ => rfl
  obtain ⟨f1, f2, f3, f4⟩ := hb.first
  obtain ⟨lim, elim⟩ : ∃ x, x = max 0 (b.First.High - v % 30) := ⟨_, rfl⟩
  have e1 : max 0 (iopR .sub .i64 b.First.High (iopR .rem .i64 (IntKind.wrap .i64 v) 30)) = lim := by
    rw [wrap_i64 (n := v) (by omega), remW (by omega), subW (by omega), elim]
  obtain ⟨s, po, q3, s1, s2, s3, s4⟩ := Below_is N hN ha hb hc (limit := lim) (by omega)
  unfold m_top_TopWorkNarrow
  rw [q1, bindS, q2, bindS]
  simp only
  rw [← ew, k1, bindS, hcl, bindS, e1, q3, bindS]
  simp only [icmp_neq, icmp_lss, icmp_gtr, icmp_leq, icmp_geq, icmp_eql, decide_eq_true_eq, letO_eq]
  have n1 : ¬ po < 0 := by omega
  have n2 : ¬ s < po := by omega
  have n3 : ¬ s > 49 := by omega
  rw [if_neg (by simp), if_neg n1, if_neg n2, decide_eq_false n3]
  simp only [bindS, Bool.false_eq_true, if_false]
  rw [hown]
  simp only [bindS]
  rcases Done_is N hN hone l1 (work := s) (by omega) with ⟨q4, hlt⟩ | ⟨u, q4, u1, u2, u3⟩
  · obtain ⟨plan, q5, p1, p2, p3⟩ := Most_is N hN hone l1
    have hsum := fsum_is N hN (l := plan) (by omega) (fun p h => by have := p2 p h; omega)
    rw [p3] at hsum
    rw [q4]
    simp only [bindS]
    rw [if_pos (by omega), q5]
    simp only [bindS]
    rw [if_pos trivial, if_pos trivial, if_pos trivial, hsum]
    simp only [bindS, decide_eq_true_eq]
    rw [if_pos hlt, hK]
    rfl
  · have hbu := best_le w.Holds w.Takes (l.take u) w.Now.Low
    have hlu : (l.take u).length = u := by simp only [List.length_take]; omega
    rw [hlu] at hbu
    have d1 : ¬ (u : Int) < s := by omega
    have d2 : ¬ (u : Int) > ((l.length : Nat) : Int) := by omega
    rw [q4]
    simp only [bindS]
    rw [if_neg (by simp), if_neg d1, decide_eq_false d2]
    simp only [bindS, Bool.false_eq_true, if_false]
    rw [subW (a := (u : Int)) (b := 0) (by omega), subW (a := (u : Int)) (b := 1) (by omega), Int.sub_zero]
    by_cases h0 : u = 0
    · subst h0
      rw [if_pos (by omega), if_pos (by omega), hK]
      rfl
    · have c1 : ¬ (u : Int) < 1 := by omega
      rw [if_neg c1, if_pos (by omega), if_pos (by omega), if_pos (by omega)]
      obtain ⟨plan, B, r1, r2, r3, r4, r5, r6, r7⟩ := some_hours N hN ha hb hc hone l2 (u := u) (by omega) u1
      have d3 : ¬ (B : Int) < 0 := by omega
      have d4 : ¬ (B : Int) > 12 := by omega
      have d5 : (B : Int) ≥ s := by omega
      have d6 : (atT b B).High ≤ lim := (s4 B (by omega)).2 d5
      rw [Int.toNat_natCast, r1, bindS, r2, bindS]
      simp only [r3, r4, bindS, decide_eq_true d5, decide_eq_false d4, if_neg d3, if_neg d4, ne_eq, not_true_eq_false, if_false, BEq.rfl, Bool.not_true, Bool.false_eq_true, hcl]
      rw [r7]
      simp only [bindS, hln, g1, decide_eq_true d6, ne_eq, not_true_eq_false, if_false, BEq.rfl, Bool.not_true, Bool.false_eq_true]
      by_cases h1 : u = 1
      · subst h1
        rw [if_pos (by omega), hK]
        rfl
      · have c2 : ¬ (u : Int) - 1 < 1 := by omega
        rw [if_neg c2, if_pos (by omega), if_pos (by omega), if_pos (by omega)]
        obtain ⟨plan', B', r1, r2, r3, r4, r5, r6, r7⟩ := some_hours N hN ha hb hc hone l2 (u := u - 1) (by omega) (by omega)
        have hlast := u3 (u - 1) (by omega)
        have d3 : ¬ (B' : Int) < 0 := by omega
        have d4 : ¬ (B' : Int) > 12 := by omega
        have d5 : ¬ (B' : Int) ≥ s := by omega
        have d6 : ¬ (atT b B').High ≤ lim := fun h => d5 ((s4 B' (by omega)).1 h)
        have ec : ((u - 1 : Nat) : Int) = (u : Int) - 1 := by omega
        rw [show ((u : Int) - 1).toNat = u - 1 by omega, r1, bindS, r2, bindS]
        simp only [r3, ec, r4, bindS, decide_eq_false d5, decide_eq_false d4, if_neg d3, if_neg d4, ne_eq, not_true_eq_false, if_false, BEq.rfl, Bool.not_true, Bool.false_eq_true, hcl]
        rw [r7]
        simp only [bindS, hln, g1, decide_eq_false d6, ne_eq, not_true_eq_false, if_false, BEq.rfl, Bool.not_true, Bool.false_eq_true]
        rw [hK]
        rfl
end Go.Proofs.Ytelnoeamkdpjhaa.Aw

/- Plain models and walks for the tops of cloth and stream. Printed by wip/gen/pm.py. -/
namespace Go.Proofs.Ytelnoeamkdpjhaa.Aw
open Go Go.RowKit Go.Proofs
set_option maxRecDepth 100000
set_option maxHeartbeats 20000000
set_option linter.unusedSimpArgs false
set_option linter.unusedVariables false
theorem w_stream_newMiller (N : Nat) (p_1 : stream_valley) (hours_2 : Int) (o : stream_miller) (h : m_stream_newMiller N p_1 hours_2 = some o) :
    KC Try.prog 29 [.agg [.int .i64 p_1.StreamMill.Hammers, .int .i64 p_1.StreamMill.Takes, .int .i64 p_1.StreamMill.Blows.Low, .int .i64 p_1.StreamMill.Blows.High, .int .i64 p_1.StreamMill.Holds, .int .i64 p_1.StreamMill.Now.Low, .int .i64 p_1.StreamMill.Now.High, sl_api_Span false p_1.flows], .int .i64 hours_2] (.agg [.int .i64 o.valley.StreamMill.Hammers, .int .i64 o.valley.StreamMill.Takes, .int .i64 o.valley.StreamMill.Blows.Low, .int .i64 o.valley.StreamMill.Blows.High, .int .i64 o.valley.StreamMill.Holds, .int .i64 o.valley.StreamMill.Now.Low, .int .i64 o.valley.StreamMill.Now.High, sl_api_Span false o.valley.flows, .osl 0]) [⟨0, 0, [.mp (stream_spot × Int) (d_stream_spot, 0) o.known me_stream_spot_int], true, true⟩] := by
  unfold m_stream_newMiller at h
  refine con_l [2] [] seat Try.func29 rfl ent_29 (by kernel_rfl) rfl rfl (by simp) ?_; intro base I hI; (conv => cbv)
  refine L_conj hI h (fun g => by subst_vars; exact g) ?_; clear h; intro hc h
  refine L_conj hI h (fun g => by subst_vars; exact g) ?_; clear h; intro hc h
  refine L_conj hI h (fun g => by subst_vars; exact g) ?_; clear h; intro hc h
  cases h
  subst_vars
  exact ⟨(LV_agg ⟨lE, lE, lE, lE, lE, lE, lE, LV_sl, lE, rfl⟩), (by first | rfl | (simp only [List.map_cons, List.map_nil, KRow.row, rowsD, KP.rows, KV.toDLL, List.map_append, List.append_nil, List.nil_append, List.append_assoc, List.singleton_append, List.cons_append]; rfl))⟩
theorem w_stream_miller_after (N : Nat) (x_1 : stream_miller) (s_2 : stream_spot) (hammers_3 : Int) (o : stream_spot) (h : m_stream_miller_after N x_1 s_2 hammers_3 = some o) :
    KC Try.prog 31 [.agg [.int .i64 x_1.valley.StreamMill.Hammers, .int .i64 x_1.valley.StreamMill.Takes, .int .i64 x_1.valley.StreamMill.Blows.Low, .int .i64 x_1.valley.StreamMill.Blows.High, .int .i64 x_1.valley.StreamMill.Holds, .int .i64 x_1.valley.StreamMill.Now.Low, .int .i64 x_1.valley.StreamMill.Now.High, sl_api_Span false x_1.valley.flows, mp_stream_spot_int x_1.known], .agg [.int .i64 s_2.hour, .int .i64 s_2.water], .int .i64 hammers_3] (.agg [.int .i64 o.hour, .int .i64 o.water]) [] := by
  unfold m_stream_miller_after at h
  refine con_l [] [] seat Try.func31 rfl ent_31 (by kernel_rfl) rfl rfl (by simp) ?_; intro base I hI; (conv => cbv)
  refine L_get hI h (fun g => by subst_vars; exact g) ?_; clear h; intro hc x_4 hxx_4 h
  cases h
  subst_vars
  exact ⟨(LV_agg ⟨lE, lE, rfl⟩), rfl⟩
theorem wB_stream_miller_most (N : Nat) (rec_0 : stream_miller → stream_spot → Option (Int × (List (stream_spot × Int)))) (hrec : ∀ (x_1 : stream_miller) (s_2 : stream_spot) (o : Int × (List (stream_spot × Int))), rec_0 x_1 s_2 = some o → KCW Try.prog 30 [.agg [.int .i64 x_1.valley.StreamMill.Hammers, .int .i64 x_1.valley.StreamMill.Takes, .int .i64 x_1.valley.StreamMill.Blows.Low, .int .i64 x_1.valley.StreamMill.Blows.High, .int .i64 x_1.valley.StreamMill.Holds, .int .i64 x_1.valley.StreamMill.Now.Low, .int .i64 x_1.valley.StreamMill.Now.High, sl_api_Span false x_1.valley.flows, .osl 100], .agg [.int .i64 s_2.hour, .int .i64 s_2.water]] [] [⟨0, 0, [.mp (stream_spot × Int) (d_stream_spot, 0) x_1.known me_stream_spot_int], true, true⟩] (.int .i64 o.1) [] [⟨0, 0, [.mp (stream_spot × Int) (d_stream_spot, 0) o.2 me_stream_spot_int], true, true⟩]) (x_1 : stream_miller) (s_2 : stream_spot) (o : Int × (List (stream_spot × Int))) (h : m_stream_miller_most_B N rec_0 x_1 s_2 = some o) :
    KCW Try.prog 30 [.agg [.int .i64 x_1.valley.StreamMill.Hammers, .int .i64 x_1.valley.StreamMill.Takes, .int .i64 x_1.valley.StreamMill.Blows.Low, .int .i64 x_1.valley.StreamMill.Blows.High, .int .i64 x_1.valley.StreamMill.Holds, .int .i64 x_1.valley.StreamMill.Now.Low, .int .i64 x_1.valley.StreamMill.Now.High, sl_api_Span false x_1.valley.flows, .osl 100], .agg [.int .i64 s_2.hour, .int .i64 s_2.water]] [] [⟨0, 0, [.mp (stream_spot × Int) (d_stream_spot, 0) x_1.known me_stream_spot_int], true, true⟩] (.int .i64 o.1) [] [⟨0, 0, [.mp (stream_spot × Int) (d_stream_spot, 0) o.2 me_stream_spot_int], true, true⟩] := by
  unfold m_stream_miller_most_B at h
  refine con_w [2000039, 5000030] seat Try.func30 rfl ent_30 (by kernel_rfl) rfl rfl rfl rfl ?_; intro yl I PW hI hPW; subst hPW; (conv => cbv)
  refine L_tst hI h (by subst_vars; rfl) ?_ ?_ <;> clear h <;> intro h
  · cases h
    subst_vars
    first | exact ⟨rfl, rfl, (by first | rfl | (simp only [rowsD, KP.rows, KV.toDLL, List.map_append, List.map_cons, List.map_nil, List.append_nil, List.nil_append, List.append_assoc, List.singleton_append, List.cons_append, List.map_replicate]; rfl) | (simp only [primK, rowsD, KP.rows, KV.toDLL, List.map_append, List.map_cons, List.map_nil, List.append_nil, List.map_replicate]; rfl))⟩ | exact ⟨rfl, (by first | rfl | (simp only [rowsD, KP.rows, KV.toDLL, List.map_append, List.map_cons, List.map_nil, List.append_nil, List.nil_append, List.append_assoc, List.singleton_append, List.cons_append, List.map_replicate]; rfl) | (simp only [primK, rowsD, KP.rows, KV.toDLL, List.map_append, List.map_cons, List.map_nil, List.append_nil, List.map_replicate]; rfl))⟩ | exact (by first | rfl | (simp only [rowsD, KP.rows, KV.toDLL, List.map_append, List.map_cons, List.map_nil, List.append_nil, List.nil_append, List.append_assoc, List.singleton_append, List.cons_append, List.map_replicate]; rfl) | (simp only [primK, rowsD, KP.rows, KV.toDLL, List.map_append, List.map_cons, List.map_nil, List.append_nil, List.map_replicate]; rfl))
  · replace h := letO_of h; obtain ⟨x_3, hex_3, h⟩ := h
    replace h := letO_of h; obtain ⟨has_4, hehas_4, h⟩ := h
    refine K_mget hI menc_stream_spot_int (d := (d_stream_spot, 0)) x_1.known s_2 0 hex_3 hehas_4 (by subst_vars; first | rfl | (simp only [rowsD, KP.rows, KV.toDLL, List.map_append, List.map_cons, List.map_nil, List.append_nil, List.nil_append, List.append_assoc, List.singleton_append, List.cons_append, List.map_replicate]; rfl) | (simp only [primK, rowsD, KP.rows, KV.toDLL, List.map_append, List.map_cons, List.map_nil, List.append_nil, List.map_replicate]; rfl)) (by subst_vars; rfl) rfl ?_; (conv => cbv)
    refine L_tst hI h (by subst_vars; rfl) ?_ ?_ <;> clear h <;> intro h
    · cases h
      subst_vars
      first | exact ⟨rfl, rfl, (by first | rfl | (simp only [rowsD, KP.rows, KV.toDLL, List.map_append, List.map_cons, List.map_nil, List.append_nil, List.nil_append, List.append_assoc, List.singleton_append, List.cons_append, List.map_replicate]; rfl) | (simp only [primK, rowsD, KP.rows, KV.toDLL, List.map_append, List.map_cons, List.map_nil, List.append_nil, List.map_replicate]; rfl))⟩ | exact ⟨rfl, (by first | rfl | (simp only [rowsD, KP.rows, KV.toDLL, List.map_append, List.map_cons, List.map_nil, List.append_nil, List.nil_append, List.append_assoc, List.singleton_append, List.cons_append, List.map_replicate]; rfl) | (simp only [primK, rowsD, KP.rows, KV.toDLL, List.map_append, List.map_cons, List.map_nil, List.append_nil, List.map_replicate]; rfl))⟩ | exact (by first | rfl | (simp only [rowsD, KP.rows, KV.toDLL, List.map_append, List.map_cons, List.map_nil, List.append_nil, List.nil_append, List.append_assoc, List.singleton_append, List.cons_append, List.map_replicate]; rfl) | (simp only [primK, rowsD, KP.rows, KV.toDLL, List.map_append, List.map_cons, List.map_nil, List.append_nil, List.map_replicate]; rfl))
    · replace h := letO_of h; obtain ⟨v_5, hev_5, h⟩ := h
      refine L_loop hI seat [2000039, 5000030] (by kernel_rfl) h (fun q => match q with | (best_11, v_12, l_13) => ⟨53, [(2, .loc 0 0), (3, .loc 1 0), (4, .int .i64 best_11), (29, .int .i64 v_5), (30, .int .i64 v_12)], [(1, ⟨89, [.int .i64 s_2.hour, .int .i64 s_2.water], true⟩), (0, ⟨85, [.int .i64 x_1.valley.StreamMill.Hammers, .int .i64 x_1.valley.StreamMill.Takes, .int .i64 x_1.valley.StreamMill.Blows.Low, .int .i64 x_1.valley.StreamMill.Blows.High, .int .i64 x_1.valley.StreamMill.Holds, .int .i64 x_1.valley.StreamMill.Now.Low, .int .i64 x_1.valley.StreamMill.Now.High, sl_api_Span false x_1.valley.flows, .osl 100], true⟩)], [(100, ⟨0, 0, [.mp (stream_spot × Int) (d_stream_spot, 0) l_13 me_stream_spot_int], true, true⟩)], 0⟩) (fun q => match q with | (best_19, l_20) => .exit 0) (fun q => match q with | (best_19, l_20) => ⟨53, [(2, .loc 0 0), (3, .loc 1 0), (4, .int .i64 best_19)], [(1, ⟨89, [.int .i64 s_2.hour, .int .i64 s_2.water], true⟩), (0, ⟨85, [.int .i64 x_1.valley.StreamMill.Hammers, .int .i64 x_1.valley.StreamMill.Takes, .int .i64 x_1.valley.StreamMill.Blows.Low, .int .i64 x_1.valley.StreamMill.Blows.High, .int .i64 x_1.valley.StreamMill.Holds, .int .i64 x_1.valley.StreamMill.Now.Low, .int .i64 x_1.valley.StreamMill.Now.High, sl_api_Span false x_1.valley.flows, .osl 100], true⟩)], [(100, ⟨0, 0, [.mp (stream_spot × Int) (d_stream_spot, 0) l_20 me_stream_spot_int], true, true⟩)], 0⟩) (by subst_vars; exact weak_l rfl rfl ⟨lR, lR, lE, lE, lE, trivial⟩ ⟨lB ⟨lE, lE, rfl⟩, lB ⟨lE, lE, lE, lE, lE, lE, lE, LV_sl, lR, rfl⟩, trivial⟩ ⟨lO, trivial⟩) (by intro q; rcases q with ⟨best_19, l_20⟩ <;> (intro e; exact Exit.noConfusion e)) ?_ ?_; all_goals clear h
      · intro q x h R hR hX
        obtain ⟨best_11, v_12, l_13⟩ := q
        rw [m_stream_miller_most_L1] at h
        (conv => cbv)
        refine L_tst hI h (by subst_vars; rfl) ?_ ?_ <;> clear h <;> intro h
        · refine L_call hI h (fun v hv => w_stream_miller_after N (stream_miller.mk x_1.valley l_13) s_2 v_12 v hv) (by subst_vars; exact ⟨⟨(leD_refl _), (leD_refl _), (leD_refl _), (leD_refl _), (leD_refl _), (leD_refl _), (leD_refl _), ⟨.inl rfl, rfl, leDLL_refl _⟩, (leD_refl _), rfl⟩, (leD_refl _), (leD_refl _), rfl⟩) ?_; clear h; intro r_21 h; (conv => cbv)
          refine L_cut hI seat [5000030] (by kernel_rfl) h (fun q => match q with | (best_23, l_24) => .normal) (fun q => match q with | (best_23, l_24) => ⟨53, [(2, .loc 0 0), (3, .loc 1 0), (4, .int .i64 best_23), (29, .int .i64 v_5), (30, .int .i64 v_12)], [(1, ⟨89, [.int .i64 s_2.hour, .int .i64 s_2.water], true⟩), (0, ⟨85, [.int .i64 x_1.valley.StreamMill.Hammers, .int .i64 x_1.valley.StreamMill.Takes, .int .i64 x_1.valley.StreamMill.Blows.Low, .int .i64 x_1.valley.StreamMill.Blows.High, .int .i64 x_1.valley.StreamMill.Holds, .int .i64 x_1.valley.StreamMill.Now.Low, .int .i64 x_1.valley.StreamMill.Now.High, sl_api_Span false x_1.valley.flows, .osl 100], true⟩)], [(100, ⟨0, 0, [.mp (stream_spot × Int) (d_stream_spot, 0) l_24 me_stream_spot_int], true, true⟩)], 0⟩) ?_ ?_; all_goals clear h
          · intro x h R hR
            (conv => cbv)
            refine L_tst hI h (by subst_vars; rfl) ?_ ?_ <;> clear h <;> intro h
            · refine L_callW hI h (fun v hv => hrec (stream_miller.mk x_1.valley l_13) r_21 v hv) (by subst_vars; exact ⟨⟨(leA_refl _), (leA_refl _), (leA_refl _), (leA_refl _), (leA_refl _), (leA_refl _), (leA_refl _), ⟨.inl rfl, rfl, leDLL_refl _⟩, rfl, rfl⟩, (leA_refl _), rfl⟩) (by subst_vars; rfl) (by subst_vars; first | rfl | (simp only [rowsD, KP.rows, KV.toDLL, List.map_append, List.map_cons, List.map_nil, List.append_nil, List.nil_append, List.append_assoc, List.singleton_append, List.cons_append, List.map_replicate]; rfl) | (simp only [primK, rowsD, KP.rows, KV.toDLL, List.map_append, List.map_cons, List.map_nil, List.append_nil, List.map_replicate]; rfl)) ?_; clear h; intro r_25 h; (conv => cbv)
              refine K_conj hI (by rw [hI]; exact (numsW_mp _ (fun _ => rfl))) ?_; (conv => cbv)
              exact hR _ _ (Option.some.inj h).symm (by subst_vars; exact weak_l rfl rfl ⟨lR, lR, lE, lE, lE, trivial⟩ ⟨lB ⟨lE, lE, rfl⟩, lB ⟨lE, lE, lE, lE, lE, lE, lE, LV_sl, lR, rfl⟩, trivial⟩ ⟨lO, trivial⟩)
            · exact hR _ _ (Option.some.inj h).symm (by subst_vars; exact weak_l rfl rfl ⟨lR, lR, lE, lE, lE, trivial⟩ ⟨lB ⟨lE, lE, rfl⟩, lB ⟨lE, lE, lE, lE, lE, lE, lE, LV_sl, lR, rfl⟩, trivial⟩ ⟨lO, trivial⟩)
          · intro q h
            rcases q with ⟨best_23, l_24⟩
            (conv => cbv)
            exact hR _ _ (Option.some.inj h).symm (by subst_vars; exact weak_l rfl rfl ⟨lR, lR, lE, lE, lE, trivial⟩ ⟨lB ⟨lE, lE, rfl⟩, lB ⟨lE, lE, lE, lE, lE, lE, lE, LV_sl, lR, rfl⟩, trivial⟩ ⟨lO, trivial⟩)
        · exact hX _ _ (Option.some.inj h).symm (by subst_vars; exact weak_l rfl rfl ⟨lR, lR, lE, trivial⟩ ⟨lB ⟨lE, lE, rfl⟩, lB ⟨lE, lE, lE, lE, lE, lE, lE, LV_sl, lR, rfl⟩, trivial⟩ ⟨lO, trivial⟩)
      · intro q h
        rcases q with ⟨best_19, l_20⟩
        (conv => cbv)
        replace h := letO_of h; obtain ⟨l_26, hel_26, h⟩ := h
        refine K_mset hI menc_stream_spot_int (d := (d_stream_spot, 0)) l_20 s_2 best_19 l_26 hel_26 (by subst_vars; first | rfl | (simp only [rowsD, KP.rows, KV.toDLL, List.map_append, List.map_cons, List.map_nil, List.append_nil, List.nil_append, List.append_assoc, List.singleton_append, List.cons_append, List.map_replicate]; rfl) | (simp only [primK, rowsD, KP.rows, KV.toDLL, List.map_append, List.map_cons, List.map_nil, List.append_nil, List.map_replicate]; rfl)) (by subst_vars; rfl) (by subst_vars; rfl) ?_; (conv => cbv)
        cases h
        subst_vars
        first | exact ⟨rfl, rfl, (by first | rfl | (simp only [rowsD, KP.rows, KV.toDLL, List.map_append, List.map_cons, List.map_nil, List.append_nil, List.nil_append, List.append_assoc, List.singleton_append, List.cons_append, List.map_replicate]; rfl) | (simp only [primK, rowsD, KP.rows, KV.toDLL, List.map_append, List.map_cons, List.map_nil, List.append_nil, List.map_replicate]; rfl))⟩ | exact ⟨rfl, (by first | rfl | (simp only [rowsD, KP.rows, KV.toDLL, List.map_append, List.map_cons, List.map_nil, List.append_nil, List.nil_append, List.append_assoc, List.singleton_append, List.cons_append, List.map_replicate]; rfl) | (simp only [primK, rowsD, KP.rows, KV.toDLL, List.map_append, List.map_cons, List.map_nil, List.append_nil, List.map_replicate]; rfl))⟩ | exact (by first | rfl | (simp only [rowsD, KP.rows, KV.toDLL, List.map_append, List.map_cons, List.map_nil, List.append_nil, List.nil_append, List.append_assoc, List.singleton_append, List.cons_append, List.map_replicate]; rfl) | (simp only [primK, rowsD, KP.rows, KV.toDLL, List.map_append, List.map_cons, List.map_nil, List.append_nil, List.map_replicate]; rfl))
theorem w_stream_miller_most : ∀ (N : Nat) (x_1 : stream_miller) (s_2 : stream_spot) (o : Int × (List (stream_spot × Int))) (h : m_stream_miller_most N x_1 s_2 = some o),
    KCW Try.prog 30 [.agg [.int .i64 x_1.valley.StreamMill.Hammers, .int .i64 x_1.valley.StreamMill.Takes, .int .i64 x_1.valley.StreamMill.Blows.Low, .int .i64 x_1.valley.StreamMill.Blows.High, .int .i64 x_1.valley.StreamMill.Holds, .int .i64 x_1.valley.StreamMill.Now.Low, .int .i64 x_1.valley.StreamMill.Now.High, sl_api_Span false x_1.valley.flows, .osl 100], .agg [.int .i64 s_2.hour, .int .i64 s_2.water]] [] [⟨0, 0, [.mp (stream_spot × Int) (d_stream_spot, 0) x_1.known me_stream_spot_int], true, true⟩] (.int .i64 o.1) [] [⟨0, 0, [.mp (stream_spot × Int) (d_stream_spot, 0) o.2 me_stream_spot_int], true, true⟩]
  | 0, _, _, _, h => by cases h
  | N + 1, x_1, s_2, o, h => wB_stream_miller_most N (m_stream_miller_most N) (w_stream_miller_most N) x_1 s_2 o h
theorem w_stream_Most (N : Nat) (p_1 : api_StreamMill) (p_2 : (List api_Span)) (o : (List Int) × Int) (h : m_stream_Most N p_1 p_2 = some o) :
    KC Try.prog 12 [.agg [.int .i64 p_1.Hammers, .int .i64 p_1.Takes, .int .i64 p_1.Blows.Low, .int .i64 p_1.Blows.High, .int .i64 p_1.Holds, .int .i64 p_1.Now.Low, .int .i64 p_1.Now.High], sl_api_Span false p_2] (.tup [sl_int false o.1, .int .i64 o.2]) [] := by
  unfold m_stream_Most at h
  refine con_l [] [1000009, 1000014, 5000030, 7000000, 8000009, 8000014] seat Try.func12 rfl ent_12 (by kernel_rfl) rfl rfl (by simp) ?_; intro base I hI; (conv => cbv)
  refine L_call hI h (fun v hv => w_stream_open N p_1 p_2 v hv) (by subst_vars; exact ⟨(leD_refl _), (leD_refl _), rfl⟩) ?_; clear h; intro r_3 h; (conv => cbv)
  refine L_tst hI h (by subst_vars; rfl) ?_ ?_ <;> clear h <;> intro h
  · cases h
    subst_vars
    exact ⟨(LV_tup ⟨LV_nil, lE, rfl⟩), rfl⟩
  · refine L_call hI h (fun v hv => w_stream_newMiller N r_3.1 ((p_2.length : Nat) : Int) v hv) (by subst_vars; exact ⟨(leD_refl _), (leD_refl _), rfl⟩) ?_; clear h; intro r_4 h; (conv => cbv)
    refine L_loop hI seat [1000009, 1000014, 5000030, 7000000, 8000009, 8000014] (by kernel_rfl) h (fun q => match q with | (v_37, v_38, l_39, v_40) => ⟨67, [(1, sl_api_Span false p_2), (4, .osl 5), (7, .loc 3 0), (8, .loc 4 0)], [(4, ⟨89, [.int .i64 v_37, .int .i64 v_38], true⟩), (3, ⟨85, [.int .i64 r_4.valley.StreamMill.Hammers, .int .i64 r_4.valley.StreamMill.Takes, .int .i64 r_4.valley.StreamMill.Blows.Low, .int .i64 r_4.valley.StreamMill.Blows.High, .int .i64 r_4.valley.StreamMill.Holds, .int .i64 r_4.valley.StreamMill.Now.Low, .int .i64 r_4.valley.StreamMill.Now.High, sl_api_Span false r_4.valley.flows, .osl 2], true⟩)], [(2, ⟨0, 0, [.mp (stream_spot × Int) (d_stream_spot, 0) l_39 me_stream_spot_int], true, true⟩), (5, ⟨3, 1, [.ls Int 0 v_40 e_int], false, true⟩)], 0⟩) (fun q => match q with | v_74 => .exit 0) (fun q => match q with | v_74 => ⟨67, [(4, .osl 5)], [], [(5, ⟨3, 1, [.ls Int 0 v_74 e_int], false, true⟩)], 0⟩) (by subst_vars; exact (weak_nil 4 5 3 1 rfl rfl rfl rfl).trans (weak_l rfl rfl ⟨LV_sl, lR, lR, lR, trivial⟩ ⟨lB ⟨lE, lE, rfl⟩, lB ⟨lE, lE, lE, lE, lE, lE, lE, LV_sl, lR, rfl⟩, trivial⟩ ⟨lO, lO, trivial⟩)) (by intro q; rcases q with v_74 <;> (intro e; exact Exit.noConfusion e)) ?_ ?_; all_goals clear h
    · intro q x h R hR hX
      obtain ⟨v_37, v_38, l_39, v_40⟩ := q
      rw [m_stream_Most_L1] at h
      (conv => cbv)
      refine L_tst hI h (by subst_vars; rfl) ?_ ?_ <;> clear h <;> intro h
      · refine L_call hI h (fun v hv => w_stream_miller_after N (stream_miller.mk r_4.valley l_39) (stream_spot.mk v_37 v_38) 0 v hv) (by subst_vars; exact ⟨⟨(leD_refl _), (leD_refl _), (leD_refl _), (leD_refl _), (leD_refl _), (leD_refl _), (leD_refl _), ⟨.inl rfl, rfl, leDLL_refl _⟩, (leD_refl _), rfl⟩, ⟨(leD_refl _), (leD_refl _), rfl⟩, (leD_refl _), rfl⟩) ?_; clear h; intro r_75 h; (conv => cbv)
        refine L_loop hI seat [1000009, 1000014, 5000030, 7000000, 8000009, 8000014] (by kernel_rfl) h (fun q => match q with | (v_83, v_84, v_85, l_86) => ⟨67, [(1, sl_api_Span false p_2), (4, .osl 5), (7, .loc 3 0), (8, .loc 4 0), (9, .int .i64 v_83), (10, .loc 6 0)], [(6, ⟨89, [.int .i64 v_84, .int .i64 v_85], true⟩), (4, ⟨89, [.int .i64 v_37, .int .i64 v_38], true⟩), (3, ⟨85, [.int .i64 r_4.valley.StreamMill.Hammers, .int .i64 r_4.valley.StreamMill.Takes, .int .i64 r_4.valley.StreamMill.Blows.Low, .int .i64 r_4.valley.StreamMill.Blows.High, .int .i64 r_4.valley.StreamMill.Holds, .int .i64 r_4.valley.StreamMill.Now.Low, .int .i64 r_4.valley.StreamMill.Now.High, sl_api_Span false r_4.valley.flows, .osl 2], true⟩)], [(2, ⟨0, 0, [.mp (stream_spot × Int) (d_stream_spot, 0) l_86 me_stream_spot_int], true, true⟩), (5, ⟨3, 1, [.ls Int 0 v_40 e_int], false, true⟩)], 0⟩) (fun q => match q with | (v_94, l_95) => .exit 2) (fun q => match q with | (v_94, l_95) => ⟨67, [(1, sl_api_Span false p_2), (4, .osl 5), (7, .loc 3 0), (8, .loc 4 0), (9, .int .i64 v_94)], [(4, ⟨89, [.int .i64 v_37, .int .i64 v_38], true⟩), (3, ⟨85, [.int .i64 r_4.valley.StreamMill.Hammers, .int .i64 r_4.valley.StreamMill.Takes, .int .i64 r_4.valley.StreamMill.Blows.Low, .int .i64 r_4.valley.StreamMill.Blows.High, .int .i64 r_4.valley.StreamMill.Holds, .int .i64 r_4.valley.StreamMill.Now.Low, .int .i64 r_4.valley.StreamMill.Now.High, sl_api_Span false r_4.valley.flows, .osl 2], true⟩)], [(2, ⟨0, 0, [.mp (stream_spot × Int) (d_stream_spot, 0) l_95 me_stream_spot_int], true, true⟩), (5, ⟨3, 1, [.ls Int 0 v_40 e_int], false, true⟩)], 0⟩) (by subst_vars; exact weak_l rfl rfl ⟨LV_sl, lR, lR, lR, lE, lR, trivial⟩ ⟨lB ⟨lE, lE, rfl⟩, lB ⟨lE, lE, rfl⟩, lB ⟨lE, lE, lE, lE, lE, lE, lE, LV_sl, lR, rfl⟩, trivial⟩ ⟨lO, lO, trivial⟩) (by intro q; rcases q with ⟨v_94, l_95⟩ <;> (intro e; exact Exit.noConfusion e)) ?_ ?_; all_goals clear h
        · intro q x h R hR hX
          obtain ⟨v_83, v_84, v_85, l_86⟩ := q
          rw [m_stream_Most_L2] at h
          (conv => cbv)
          refine L_cut hI seat [1000014, 5000030, 7000000, 8000009, 8000014] (by kernel_rfl) h (fun q => match q with | (v_98, l_99) => .normal) (fun q => match q with | (v_98, l_99) => ⟨67, [(1, sl_api_Span false p_2), (4, .osl 5), (7, .loc 3 0), (8, .loc 4 0), (9, .int .i64 v_83), (10, .loc 6 0), (49, .bool v_98)], [(6, ⟨89, [.int .i64 v_84, .int .i64 v_85], true⟩), (4, ⟨89, [.int .i64 v_37, .int .i64 v_38], true⟩), (3, ⟨85, [.int .i64 r_4.valley.StreamMill.Hammers, .int .i64 r_4.valley.StreamMill.Takes, .int .i64 r_4.valley.StreamMill.Blows.Low, .int .i64 r_4.valley.StreamMill.Blows.High, .int .i64 r_4.valley.StreamMill.Holds, .int .i64 r_4.valley.StreamMill.Now.Low, .int .i64 r_4.valley.StreamMill.Now.High, sl_api_Span false r_4.valley.flows, .osl 2], true⟩)], [(2, ⟨0, 0, [.mp (stream_spot × Int) (d_stream_spot, 0) l_99 me_stream_spot_int], true, true⟩), (5, ⟨3, 1, [.ls Int 0 v_40 e_int], false, true⟩)], 0⟩) ?_ ?_; all_goals clear h
          · intro x h R hR
            (conv => cbv)
            replace h := tst_of h; rcases h with ⟨hc1, h⟩ | ⟨hc1, h⟩
            · repeat' (first | (refine K_conj hI (show I.rnone from by rw [hI]; rfl) ?_; (conv => cbv)) | (refine K_tst_t hI hc1 (by subst_vars; rfl) ?_; (conv => cbv)) | (exact hR _ _ (Option.some.inj h).symm (by subst_vars; exact weak_l rfl rfl ⟨LV_sl, lR, lR, lR, lE, lR, lE, trivial⟩ ⟨lB ⟨lE, lE, rfl⟩, lB ⟨lE, lE, rfl⟩, lB ⟨lE, lE, lE, lE, lE, lE, lE, LV_sl, lR, rfl⟩, trivial⟩ ⟨lO, lO, trivial⟩)) | (refine K_conj hI ?_ ?_))
            · replace h := bind_of h; obtain ⟨r_100, hb3, h⟩ := h
              replace h := bind_of h; obtain ⟨r_101, hb5, h⟩ := h
              repeat' (first | (refine K_conj hI (show I.rnone from by rw [hI]; rfl) ?_; (conv => cbv)) | (refine K_tst_f hI hc1 (by subst_vars; rfl) ?_; (conv => cbv)) | (refine CW_le hI (w_stream_miller_most N (stream_miller.mk r_4.valley l_86) (stream_spot.mk v_84 v_85) r_100 hb3) (by subst_vars; exact ⟨⟨(leA_refl _), (leA_refl _), (leA_refl _), (leA_refl _), (leA_refl _), (leA_refl _), (leA_refl _), ⟨.inl rfl, rfl, leDLL_refl _⟩, rfl, rfl⟩, ⟨(leA_refl _), (leA_refl _), rfl⟩, rfl⟩) (by subst_vars; rfl) (by subst_vars; first | rfl | (simp only [rowsD, KP.rows, KV.toDLL, List.map_append, List.map_cons, List.map_nil, List.append_nil, List.nil_append, List.append_assoc, List.singleton_append, List.cons_append, List.map_replicate]; rfl) | (simp only [primK, rowsD, KP.rows, KV.toDLL, List.map_append, List.map_cons, List.map_nil, List.append_nil, List.map_replicate]; rfl)) ?_; (conv => cbv)) | (refine K_conj hI (by rw [hI]; exact (numsW_mp _ (fun _ => rfl))) ?_; (conv => cbv)) | (refine CW_le hI (w_stream_miller_most N (stream_miller.mk r_4.valley r_100.2) (stream_spot.mk v_37 v_38) r_101 hb5) (by subst_vars; exact ⟨⟨(leA_refl _), (leA_refl _), (leA_refl _), (leA_refl _), (leA_refl _), (leA_refl _), (leA_refl _), ⟨.inl rfl, rfl, leDLL_refl _⟩, rfl, rfl⟩, ⟨(leA_refl _), (leA_refl _), rfl⟩, rfl⟩) (by subst_vars; rfl) (by subst_vars; first | rfl | (simp only [rowsD, KP.rows, KV.toDLL, List.map_append, List.map_cons, List.map_nil, List.append_nil, List.nil_append, List.append_assoc, List.singleton_append, List.cons_append, List.map_replicate]; rfl) | (simp only [primK, rowsD, KP.rows, KV.toDLL, List.map_append, List.map_cons, List.map_nil, List.append_nil, List.map_replicate]; rfl)) ?_; (conv => cbv)) | (refine K_conj hI (by rw [hI]; exact (numsW_mp _ (fun _ => rfl))) ?_; (conv => cbv)) | (exact hR _ _ (Option.some.inj h).symm (by subst_vars; exact weak_l rfl rfl ⟨LV_sl, lR, lR, lR, lE, lR, lE, trivial⟩ ⟨lB ⟨lE, lE, rfl⟩, lB ⟨lE, lE, rfl⟩, lB ⟨lE, lE, lE, lE, lE, lE, lE, LV_sl, lR, rfl⟩, trivial⟩ ⟨lO, lO, trivial⟩)) | (refine K_conj hI ?_ ?_))
          · intro q h
            rcases q with ⟨v_98, l_99⟩
            (conv => cbv)
            refine L_tst hI h (by subst_vars; rfl) ?_ ?_ <;> clear h <;> intro h
            · refine L_call hI h (fun v hv => w_stream_miller_after N (stream_miller.mk r_4.valley l_99) (stream_spot.mk v_37 v_38) (iopR .add .i64 v_83 1) v hv) (by subst_vars; exact ⟨⟨(leD_refl _), (leD_refl _), (leD_refl _), (leD_refl _), (leD_refl _), (leD_refl _), (leD_refl _), ⟨.inl rfl, rfl, leDLL_refl _⟩, (leD_refl _), rfl⟩, ⟨(leD_refl _), (leD_refl _), rfl⟩, (leD_refl _), rfl⟩) ?_; clear h; intro r_102 h; (conv => cbv)
              exact hR _ _ (Option.some.inj h).symm (by first | exact (by apply Weak.trans (S' := KSt.st ⟨67, [(1, sl_api_Span false p_2), (4, .osl 5), (7, .loc 3 0), (8, .loc 4 0), (9, .int .i64 (iopR .add .i64 v_83 1)), (10, .loc 6 0), (49, .tt), (54, .int .i64 v_83), (55, .int .i64 (iopR .add .i64 v_83 1)), (56, .agg [.int .i64 v_84, .int .i64 v_85]), (50, .agg [.int .i64 r_4.valley.StreamMill.Hammers, .int .i64 r_4.valley.StreamMill.Takes, .int .i64 r_4.valley.StreamMill.Blows.Low, .int .i64 r_4.valley.StreamMill.Blows.High, .int .i64 r_4.valley.StreamMill.Holds, .int .i64 r_4.valley.StreamMill.Now.Low, .int .i64 r_4.valley.StreamMill.Now.High, sl_api_Span false r_4.valley.flows, .osl 2]), (51, .agg [.int .i64 v_37, .int .i64 v_38]), (52, .int .i64 (iopR .add .i64 v_83 1)), (53, .agg [.int .i64 r_102.hour, .int .i64 r_102.water])], [(4, ⟨89, [.int .i64 v_37, .int .i64 v_38], true⟩), (3, ⟨85, [.int .i64 r_4.valley.StreamMill.Hammers, .int .i64 r_4.valley.StreamMill.Takes, .int .i64 r_4.valley.StreamMill.Blows.Low, .int .i64 r_4.valley.StreamMill.Blows.High, .int .i64 r_4.valley.StreamMill.Holds, .int .i64 r_4.valley.StreamMill.Now.Low, .int .i64 r_4.valley.StreamMill.Now.High, sl_api_Span false r_4.valley.flows, .osl 2], true⟩), (6, ⟨89, [.int .i64 r_102.hour, .int .i64 r_102.water], true⟩)], [(2, ⟨0, 0, [.mp (stream_spot × Int) (d_stream_spot, 0) l_99 me_stream_spot_int], true, true⟩), (5, ⟨3, 1, [.ls Int 0 v_40 e_int], false, true⟩)], 0⟩); exact weak_renK [(6, 7), (4, 4), (3, 3)] (S' := ⟨67, [(1, sl_api_Span false p_2), (4, .osl 5), (7, .loc 3 0), (8, .loc 4 0), (9, .int .i64 (iopR .add .i64 v_83 1)), (10, .loc 6 0), (49, .tt), (54, .int .i64 v_83), (55, .int .i64 (iopR .add .i64 v_83 1)), (56, .agg [.int .i64 v_84, .int .i64 v_85]), (50, .agg [.int .i64 r_4.valley.StreamMill.Hammers, .int .i64 r_4.valley.StreamMill.Takes, .int .i64 r_4.valley.StreamMill.Blows.Low, .int .i64 r_4.valley.StreamMill.Blows.High, .int .i64 r_4.valley.StreamMill.Holds, .int .i64 r_4.valley.StreamMill.Now.Low, .int .i64 r_4.valley.StreamMill.Now.High, sl_api_Span false r_4.valley.flows, .osl 2]), (51, .agg [.int .i64 v_37, .int .i64 v_38]), (52, .int .i64 (iopR .add .i64 v_83 1)), (53, .agg [.int .i64 r_102.hour, .int .i64 r_102.water])], [(4, ⟨89, [.int .i64 v_37, .int .i64 v_38], true⟩), (3, ⟨85, [.int .i64 r_4.valley.StreamMill.Hammers, .int .i64 r_4.valley.StreamMill.Takes, .int .i64 r_4.valley.StreamMill.Blows.Low, .int .i64 r_4.valley.StreamMill.Blows.High, .int .i64 r_4.valley.StreamMill.Holds, .int .i64 r_4.valley.StreamMill.Now.Low, .int .i64 r_4.valley.StreamMill.Now.High, sl_api_Span false r_4.valley.flows, .osl 2], true⟩), (6, ⟨89, [.int .i64 r_102.hour, .int .i64 r_102.water], true⟩)], [(2, ⟨0, 0, [.mp (stream_spot × Int) (d_stream_spot, 0) l_99 me_stream_spot_int], true, true⟩), (5, ⟨3, 1, [.ls Int 0 v_40 e_int], false, true⟩)], 0⟩) rfl rfl rfl rfl ⟨rfl, rfl, rfl, rfl, rfl, rfl, rfl, rfl, rfl, rfl, rfl, rfl, rfl, rfl, trivial⟩ ⟨rfl, rfl, rfl, trivial⟩ ⟨rfl, rfl, trivial⟩; subst_vars; exact weak_l rfl rfl ⟨LV_sl, lR, lR, lR, lE, lR, trivial⟩ ⟨lB ⟨lE, lE, rfl⟩, lB ⟨lE, lE, rfl⟩, lB ⟨lE, lE, lE, lE, lE, lE, lE, LV_sl, lR, rfl⟩, trivial⟩ ⟨lO, lO, trivial⟩) | (subst_vars; exact (by apply Weak.trans (S' := KSt.st ⟨67, [(1, sl_api_Span false p_2), (4, .osl 5), (7, .loc 3 0), (8, .loc 4 0), (9, .int .i64 (iopR .add .i64 v_83 1)), (10, .loc 6 0), (49, .tt), (54, .int .i64 v_83), (55, .int .i64 (iopR .add .i64 v_83 1)), (56, .agg [.int .i64 v_84, .int .i64 v_85]), (50, .agg [.int .i64 r_4.valley.StreamMill.Hammers, .int .i64 r_4.valley.StreamMill.Takes, .int .i64 r_4.valley.StreamMill.Blows.Low, .int .i64 r_4.valley.StreamMill.Blows.High, .int .i64 r_4.valley.StreamMill.Holds, .int .i64 r_4.valley.StreamMill.Now.Low, .int .i64 r_4.valley.StreamMill.Now.High, sl_api_Span false r_4.valley.flows, .osl 2]), (51, .agg [.int .i64 v_37, .int .i64 v_38]), (52, .int .i64 (iopR .add .i64 v_83 1)), (53, .agg [.int .i64 r_102.hour, .int .i64 r_102.water])], [(4, ⟨89, [.int .i64 v_37, .int .i64 v_38], true⟩), (3, ⟨85, [.int .i64 r_4.valley.StreamMill.Hammers, .int .i64 r_4.valley.StreamMill.Takes, .int .i64 r_4.valley.StreamMill.Blows.Low, .int .i64 r_4.valley.StreamMill.Blows.High, .int .i64 r_4.valley.StreamMill.Holds, .int .i64 r_4.valley.StreamMill.Now.Low, .int .i64 r_4.valley.StreamMill.Now.High, sl_api_Span false r_4.valley.flows, .osl 2], true⟩), (6, ⟨89, [.int .i64 r_102.hour, .int .i64 r_102.water], true⟩)], [(2, ⟨0, 0, [.mp (stream_spot × Int) (d_stream_spot, 0) l_99 me_stream_spot_int], true, true⟩), (5, ⟨3, 1, [.ls Int 0 v_40 e_int], false, true⟩)], 0⟩); exact weak_renK [(6, 7), (4, 4), (3, 3)] (S' := ⟨67, [(1, sl_api_Span false p_2), (4, .osl 5), (7, .loc 3 0), (8, .loc 4 0), (9, .int .i64 (iopR .add .i64 v_83 1)), (10, .loc 6 0), (49, .tt), (54, .int .i64 v_83), (55, .int .i64 (iopR .add .i64 v_83 1)), (56, .agg [.int .i64 v_84, .int .i64 v_85]), (50, .agg [.int .i64 r_4.valley.StreamMill.Hammers, .int .i64 r_4.valley.StreamMill.Takes, .int .i64 r_4.valley.StreamMill.Blows.Low, .int .i64 r_4.valley.StreamMill.Blows.High, .int .i64 r_4.valley.StreamMill.Holds, .int .i64 r_4.valley.StreamMill.Now.Low, .int .i64 r_4.valley.StreamMill.Now.High, sl_api_Span false r_4.valley.flows, .osl 2]), (51, .agg [.int .i64 v_37, .int .i64 v_38]), (52, .int .i64 (iopR .add .i64 v_83 1)), (53, .agg [.int .i64 r_102.hour, .int .i64 r_102.water])], [(4, ⟨89, [.int .i64 v_37, .int .i64 v_38], true⟩), (3, ⟨85, [.int .i64 r_4.valley.StreamMill.Hammers, .int .i64 r_4.valley.StreamMill.Takes, .int .i64 r_4.valley.StreamMill.Blows.Low, .int .i64 r_4.valley.StreamMill.Blows.High, .int .i64 r_4.valley.StreamMill.Holds, .int .i64 r_4.valley.StreamMill.Now.Low, .int .i64 r_4.valley.StreamMill.Now.High, sl_api_Span false r_4.valley.flows, .osl 2], true⟩), (6, ⟨89, [.int .i64 r_102.hour, .int .i64 r_102.water], true⟩)], [(2, ⟨0, 0, [.mp (stream_spot × Int) (d_stream_spot, 0) l_99 me_stream_spot_int], true, true⟩), (5, ⟨3, 1, [.ls Int 0 v_40 e_int], false, true⟩)], 0⟩) rfl rfl rfl rfl ⟨rfl, rfl, rfl, rfl, rfl, rfl, rfl, rfl, rfl, rfl, rfl, rfl, rfl, rfl, trivial⟩ ⟨rfl, rfl, rfl, trivial⟩ ⟨rfl, rfl, trivial⟩; subst_vars; exact weak_l rfl rfl ⟨LV_sl, lR, lR, lR, lE, lR, trivial⟩ ⟨lB ⟨lE, lE, rfl⟩, lB ⟨lE, lE, rfl⟩, lB ⟨lE, lE, lE, lE, lE, lE, lE, LV_sl, lR, rfl⟩, trivial⟩ ⟨lO, lO, trivial⟩)))
            · exact hX _ _ (Option.some.inj h).symm (by subst_vars; exact weak_l rfl rfl ⟨LV_sl, lR, lR, lR, lE, trivial⟩ ⟨lB ⟨lE, lE, rfl⟩, lB ⟨lE, lE, lE, lE, lE, lE, lE, LV_sl, lR, rfl⟩, trivial⟩ ⟨lO, lO, trivial⟩)
        · intro q h
          rcases q with ⟨v_94, l_95⟩
          (conv => cbv)
          replace h := letO_of h; obtain ⟨l_106, hel_106, h⟩ := h
          refine L_cut hI seat [1000009, 5000030, 7000000, 8000009, 8000014] (by kernel_rfl) h (fun q => match q with | (v_104, v_105) => .normal) (fun q => match q with | (v_104, v_105) => ⟨67, [(1, sl_api_Span false p_2), (4, .osl 5), (7, .loc 3 0), (8, .loc 4 0)], [(4, ⟨89, [.int .i64 v_104, .int .i64 v_105], true⟩), (3, ⟨85, [.int .i64 r_4.valley.StreamMill.Hammers, .int .i64 r_4.valley.StreamMill.Takes, .int .i64 r_4.valley.StreamMill.Blows.Low, .int .i64 r_4.valley.StreamMill.Blows.High, .int .i64 r_4.valley.StreamMill.Holds, .int .i64 r_4.valley.StreamMill.Now.Low, .int .i64 r_4.valley.StreamMill.Now.High, sl_api_Span false r_4.valley.flows, .osl 2], true⟩)], [(2, ⟨0, 0, [.mp (stream_spot × Int) (d_stream_spot, 0) l_95 me_stream_spot_int], true, true⟩), (5, ⟨3, 1, [.ls Int 0 l_106 e_int], false, true⟩)], 0⟩) ?_ ?_; all_goals clear h
          · intro x h R hR
            (conv => cbv)
            replace h := guard_of h; obtain ⟨hc1, h⟩ := h
            replace h := bind_of h; obtain ⟨r_107, hb2, h⟩ := h
            repeat' (first | (refine K_conj hI (show I.rnone from by rw [hI]; rfl) ?_; (conv => cbv)) | (refine K_conj hI ((fun g => by subst_vars; exact g) hc1) ?_) | (refine C_le hI (w_stream_miller_after N (stream_miller.mk r_4.valley l_95) (stream_spot.mk v_37 v_38) v_94 r_107 hb2) (by subst_vars; exact ⟨⟨(leD_refl _), (leD_refl _), (leD_refl _), (leD_refl _), (leD_refl _), (leD_refl _), (leD_refl _), ⟨.inl rfl, rfl, leDLL_refl _⟩, (leD_refl _), rfl⟩, ⟨(leD_refl _), (leD_refl _), rfl⟩, (leD_refl _), rfl⟩) ?_; (conv => cbv)) | (exact hR _ _ (Option.some.inj h).symm (by subst_vars; exact weak_l rfl rfl ⟨LV_sl, lR, lR, lR, trivial⟩ ⟨lB ⟨lE, lE, rfl⟩, lB ⟨lE, lE, lE, lE, lE, lE, lE, LV_sl, lR, rfl⟩, trivial⟩ ⟨lO, lO, trivial⟩)) | (refine K_conj hI ?_ ?_))
          · intro q h
            rcases q with ⟨v_104, v_105⟩
            (conv => cbv)
            exact hR _ _ (Option.some.inj h).symm (by first | exact (by apply Weak.trans (S' := KSt.st ⟨67, [(1, sl_api_Span false p_2), (4, .osl 5), (7, .loc 3 0), (8, .loc 4 0), (65, .agg [.int .i64 v_104, .int .i64 v_105])], [(3, ⟨85, [.int .i64 r_4.valley.StreamMill.Hammers, .int .i64 r_4.valley.StreamMill.Takes, .int .i64 r_4.valley.StreamMill.Blows.Low, .int .i64 r_4.valley.StreamMill.Blows.High, .int .i64 r_4.valley.StreamMill.Holds, .int .i64 r_4.valley.StreamMill.Now.Low, .int .i64 r_4.valley.StreamMill.Now.High, sl_api_Span false r_4.valley.flows, .osl 2], true⟩), (4, ⟨89, [.int .i64 v_104, .int .i64 v_105], true⟩)], [(2, ⟨0, 0, [.mp (stream_spot × Int) (d_stream_spot, 0) l_95 me_stream_spot_int], true, true⟩), (5, ⟨3, 1, [.ls Int 0 l_106 e_int], false, true⟩)], 0⟩); exact weak_renK [(4, 6), (3, 3)] (S' := ⟨67, [(1, sl_api_Span false p_2), (4, .osl 5), (7, .loc 3 0), (8, .loc 4 0), (65, .agg [.int .i64 v_104, .int .i64 v_105])], [(3, ⟨85, [.int .i64 r_4.valley.StreamMill.Hammers, .int .i64 r_4.valley.StreamMill.Takes, .int .i64 r_4.valley.StreamMill.Blows.Low, .int .i64 r_4.valley.StreamMill.Blows.High, .int .i64 r_4.valley.StreamMill.Holds, .int .i64 r_4.valley.StreamMill.Now.Low, .int .i64 r_4.valley.StreamMill.Now.High, sl_api_Span false r_4.valley.flows, .osl 2], true⟩), (4, ⟨89, [.int .i64 v_104, .int .i64 v_105], true⟩)], [(2, ⟨0, 0, [.mp (stream_spot × Int) (d_stream_spot, 0) l_95 me_stream_spot_int], true, true⟩), (5, ⟨3, 1, [.ls Int 0 l_106 e_int], false, true⟩)], 0⟩) rfl rfl rfl rfl ⟨rfl, rfl, rfl, rfl, rfl, trivial⟩ ⟨rfl, rfl, trivial⟩ ⟨rfl, rfl, trivial⟩; subst_vars; exact weak_l rfl rfl ⟨LV_sl, lR, lR, lR, trivial⟩ ⟨lB ⟨lE, lE, rfl⟩, lB ⟨lE, lE, lE, lE, lE, lE, lE, LV_sl, lR, rfl⟩, trivial⟩ ⟨lO, lO, trivial⟩) | (subst_vars; exact (by apply Weak.trans (S' := KSt.st ⟨67, [(1, sl_api_Span false p_2), (4, .osl 5), (7, .loc 3 0), (8, .loc 4 0), (65, .agg [.int .i64 v_104, .int .i64 v_105])], [(3, ⟨85, [.int .i64 r_4.valley.StreamMill.Hammers, .int .i64 r_4.valley.StreamMill.Takes, .int .i64 r_4.valley.StreamMill.Blows.Low, .int .i64 r_4.valley.StreamMill.Blows.High, .int .i64 r_4.valley.StreamMill.Holds, .int .i64 r_4.valley.StreamMill.Now.Low, .int .i64 r_4.valley.StreamMill.Now.High, sl_api_Span false r_4.valley.flows, .osl 2], true⟩), (4, ⟨89, [.int .i64 v_104, .int .i64 v_105], true⟩)], [(2, ⟨0, 0, [.mp (stream_spot × Int) (d_stream_spot, 0) l_95 me_stream_spot_int], true, true⟩), (5, ⟨3, 1, [.ls Int 0 l_106 e_int], false, true⟩)], 0⟩); exact weak_renK [(4, 6), (3, 3)] (S' := ⟨67, [(1, sl_api_Span false p_2), (4, .osl 5), (7, .loc 3 0), (8, .loc 4 0), (65, .agg [.int .i64 v_104, .int .i64 v_105])], [(3, ⟨85, [.int .i64 r_4.valley.StreamMill.Hammers, .int .i64 r_4.valley.StreamMill.Takes, .int .i64 r_4.valley.StreamMill.Blows.Low, .int .i64 r_4.valley.StreamMill.Blows.High, .int .i64 r_4.valley.StreamMill.Holds, .int .i64 r_4.valley.StreamMill.Now.Low, .int .i64 r_4.valley.StreamMill.Now.High, sl_api_Span false r_4.valley.flows, .osl 2], true⟩), (4, ⟨89, [.int .i64 v_104, .int .i64 v_105], true⟩)], [(2, ⟨0, 0, [.mp (stream_spot × Int) (d_stream_spot, 0) l_95 me_stream_spot_int], true, true⟩), (5, ⟨3, 1, [.ls Int 0 l_106 e_int], false, true⟩)], 0⟩) rfl rfl rfl rfl ⟨rfl, rfl, rfl, rfl, rfl, trivial⟩ ⟨rfl, rfl, trivial⟩ ⟨rfl, rfl, trivial⟩; subst_vars; exact weak_l rfl rfl ⟨LV_sl, lR, lR, lR, trivial⟩ ⟨lB ⟨lE, lE, rfl⟩, lB ⟨lE, lE, lE, lE, lE, lE, lE, LV_sl, lR, rfl⟩, trivial⟩ ⟨lO, lO, trivial⟩)))
      · exact hX _ _ (Option.some.inj h).symm (by subst_vars; exact weak_l rfl rfl ⟨lR, trivial⟩ trivial ⟨lO, trivial⟩)
    · intro v_74 h
      (conv => cbv)
      cases h
      subst_vars
      exact ⟨(LV_tup ⟨LV_sl, lE, rfl⟩), rfl⟩
end Go.Proofs.Ytelnoeamkdpjhaa.Aw

/- Plain models and walks for the tops of cloth and stream. Printed by wip/gen/pm.py. -/
namespace Go.Proofs.Ytelnoeamkdpjhaa.Aw
open Go Go.RowKit Go.Proofs
set_option maxRecDepth 100000
set_option maxHeartbeats 4000000
set_option linter.unusedSimpArgs false
set_option linter.unusedVariables false
theorem w_cloth_Below (N : Nat) (c_1 : api_Cloth) (what_2 : Int) (limit_3 : Int) (o : Int × Int × Int) (h : m_cloth_Below N c_1 what_2 limit_3 = some o) :
    KC Try.prog 8 [.agg [sl_api_ClothTrack false c_1.Tracks, sl_api_ClothMeasure false c_1.Measures], .int .i64 what_2, .int .i64 limit_3] (.tup [.int .i64 o.1, .int .i64 o.2.1, .int .i64 o.2.2]) [] := by
  unfold m_cloth_Below at h
  refine con_l [] [2000041, 2000046] seat Try.func8 rfl ent_8 (by kernel_rfl) rfl rfl (by simp) ?_; intro base I hI; (conv => cbv)
  refine L_call hI h (fun v hv => w_cloth_open N c_1 v hv) (by subst_vars; exact ⟨(leD_refl _), rfl⟩) ?_; clear h; intro r_4 h; (conv => cbv)
  refine L_tst hI h (by subst_vars; rfl) ?_ ?_ <;> clear h <;> intro h
  · cases h
    subst_vars
    exact ⟨(LV_tup ⟨lE, lE, lE, rfl⟩), rfl⟩
  · refine L_call hI h (fun v hv => w_cloth_isWhat N what_2 v hv) (by subst_vars; exact ⟨(leD_refl _), rfl⟩) ?_; clear h; intro r_5 h; (conv => cbv)
    refine L_tst hI h (by subst_vars; rfl) ?_ ?_ <;> clear h <;> intro h
    · cases h
      subst_vars
      exact ⟨(LV_tup ⟨lE, lE, lE, rfl⟩), rfl⟩
    · refine L_call hI h (fun v hv => w_cloth_within N 0 2000 [limit_3] v hv) (by subst_vars; exact ⟨(leD_refl _), (leD_refl _), ⟨.inl rfl, rfl, leDLL_refl _⟩, rfl⟩) ?_; clear h; intro r_6 h; (conv => cbv)
      refine L_tst hI h (by subst_vars; rfl) ?_ ?_ <;> clear h <;> intro h
      · cases h
        subst_vars
        exact ⟨(LV_tup ⟨lE, lE, lE, rfl⟩), rfl⟩
      · refine L_loop hI seat [2000041, 2000046] (by kernel_rfl) h (fun q => match q with | (surely_27, possibly_28, hour_29) => ⟨50, [(1, .int .i64 what_2), (2, .int .i64 limit_3), (6, .int .i64 surely_27), (7, .int .i64 possibly_28), (9, .loc 1 0), (10, .int .i64 hour_29)], [(1, ⟨74, [sl_cloth_stretch false r_4.1.a0, sl_cloth_stretch false r_4.1.a1, sl_cloth_stretch false r_4.1.a2], true⟩)], [], 0⟩) (fun q => match q with | (surely_33, possibly_34) => .exit 1) (fun q => match q with | (surely_33, possibly_34) => ⟨50, [(6, .int .i64 surely_33), (7, .int .i64 possibly_34)], [], [], 0⟩) (by subst_vars; exact weak_l rfl rfl ⟨lE, lE, lE, lE, lR, lE, trivial⟩ ⟨lB ⟨LV_sl, LV_sl, LV_sl, rfl⟩, trivial⟩ trivial) (by intro q; rcases q with ⟨surely_33, possibly_34⟩ <;> (intro e; exact Exit.noConfusion e)) ?_ ?_; all_goals clear h
        · intro q x h R hR hX
          obtain ⟨surely_27, possibly_28, hour_29⟩ := q
          rw [m_cloth_Below_L1] at h
          (conv => cbv)
          refine L_tst hI h (by subst_vars; rfl) ?_ ?_ <;> clear h <;> intro h
          · refine L_call hI h (fun v hv => w_cloth_truths_at N r_4.1 what_2 hour_29 v hv) (by subst_vars; exact ⟨(leD_refl _), (leD_refl _), (leD_refl _), rfl⟩) ?_; clear h; intro r_35 h; (conv => cbv)
            refine L_cut hI seat [2000046] (by kernel_rfl) h (fun q => match q with | surely_36 => .normal) (fun q => match q with | surely_36 => ⟨50, [(1, .int .i64 what_2), (2, .int .i64 limit_3), (6, .int .i64 surely_36), (7, .int .i64 possibly_28), (9, .loc 1 0), (10, .int .i64 hour_29), (11, .loc 2 0)], [(2, ⟨35, [.int .i64 r_35.Low, .int .i64 r_35.High], true⟩), (1, ⟨74, [sl_cloth_stretch false r_4.1.a0, sl_cloth_stretch false r_4.1.a1, sl_cloth_stretch false r_4.1.a2], true⟩)], [], 0⟩) ?_ ?_; all_goals clear h
            · intro x h R hR
              (conv => cbv)
              refine L_tst hI h (by subst_vars; rfl) ?_ ?_ <;> clear h <;> intro h
              · exact hR _ _ (Option.some.inj h).symm (by subst_vars; exact weak_l rfl rfl ⟨lE, lE, lE, lE, lR, lE, lR, trivial⟩ ⟨lB ⟨lE, lE, rfl⟩, lB ⟨LV_sl, LV_sl, LV_sl, rfl⟩, trivial⟩ trivial)
              · exact hR _ _ (Option.some.inj h).symm (by subst_vars; exact weak_l rfl rfl ⟨lE, lE, lE, lE, lR, lE, lR, trivial⟩ ⟨lB ⟨lE, lE, rfl⟩, lB ⟨LV_sl, LV_sl, LV_sl, rfl⟩, trivial⟩ trivial)
            · intro surely_36 h
              (conv => cbv)
              refine L_cut hI seat [2000041] (by kernel_rfl) h (fun q => match q with | possibly_37 => .normal) (fun q => match q with | possibly_37 => ⟨50, [(1, .int .i64 what_2), (2, .int .i64 limit_3), (6, .int .i64 surely_36), (7, .int .i64 possibly_37), (9, .loc 1 0), (10, .int .i64 hour_29)], [(1, ⟨74, [sl_cloth_stretch false r_4.1.a0, sl_cloth_stretch false r_4.1.a1, sl_cloth_stretch false r_4.1.a2], true⟩)], [], 0⟩) ?_ ?_; all_goals clear h
              · intro x h R hR
                (conv => cbv)
                refine L_tst hI h (by subst_vars; rfl) ?_ ?_ <;> clear h <;> intro h
                · exact hR _ _ (Option.some.inj h).symm (by subst_vars; exact weak_l rfl rfl ⟨lE, lE, lE, lE, lR, lE, trivial⟩ ⟨lB ⟨LV_sl, LV_sl, LV_sl, rfl⟩, trivial⟩ trivial)
                · exact hR _ _ (Option.some.inj h).symm (by subst_vars; exact weak_l rfl rfl ⟨lE, lE, lE, lE, lR, lE, trivial⟩ ⟨lB ⟨LV_sl, LV_sl, LV_sl, rfl⟩, trivial⟩ trivial)
              · intro possibly_37 h
                (conv => cbv)
                exact hR _ _ (Option.some.inj h).symm (by subst_vars; exact weak_l rfl rfl ⟨lE, lE, lE, lE, lR, lE, trivial⟩ ⟨lB ⟨LV_sl, LV_sl, LV_sl, rfl⟩, trivial⟩ trivial)
          · exact hX _ _ (Option.some.inj h).symm (by subst_vars; exact weak_l rfl rfl ⟨lE, lE, trivial⟩ trivial trivial)
        · intro q h
          rcases q with ⟨surely_33, possibly_34⟩
          (conv => cbv)
          cases h
          subst_vars
          exact ⟨(LV_tup ⟨lE, lE, lE, rfl⟩), rfl⟩
theorem w_stream_Done (N : Nat) (m_1 : api_StreamMill) (flows_2 : (List api_Span)) (work_3 : Int) (o : Int × Int) (h : m_stream_Done N m_1 flows_2 work_3 = some o) :
    KC Try.prog 10 [.agg [.int .i64 m_1.Hammers, .int .i64 m_1.Takes, .int .i64 m_1.Blows.Low, .int .i64 m_1.Blows.High, .int .i64 m_1.Holds, .int .i64 m_1.Now.Low, .int .i64 m_1.Now.High], sl_api_Span false flows_2, .int .i64 work_3] (.tup [.int .i64 o.1, .int .i64 o.2]) [] := by
  unfold m_stream_Done at h
  refine con_l [] [1000009, 5000030, 7000000, 8000009] seat Try.func10 rfl ent_10 (by kernel_rfl) rfl rfl (by simp) ?_; intro base I hI; (conv => cbv)
  refine L_call hI h (fun v hv => w_stream_open N m_1 flows_2 v hv) (by subst_vars; exact ⟨(leD_refl _), (leD_refl _), rfl⟩) ?_; clear h; intro r_4 h; (conv => cbv)
  refine L_tst hI h (by subst_vars; rfl) ?_ ?_ <;> clear h <;> intro h
  · cases h
    subst_vars
    exact ⟨(LV_tup ⟨lE, lE, rfl⟩), rfl⟩
  · refine L_call hI h (fun v hv => w_stream_within N 0 200 [work_3] v hv) (by subst_vars; exact ⟨(leD_refl _), (leD_refl _), ⟨.inl rfl, rfl, leDLL_refl _⟩, rfl⟩) ?_; clear h; intro r_5 h; (conv => cbv)
    refine L_tst hI h (by subst_vars; rfl) ?_ ?_ <;> clear h <;> intro h
    · cases h
      subst_vars
      exact ⟨(LV_tup ⟨lE, lE, rfl⟩), rfl⟩
    · replace h := letO_of h; obtain ⟨v_6, hev_6, h⟩ := h
      refine L_loop hI seat [1000009, 5000030, 7000000, 8000009] (by kernel_rfl) h (fun q => match q with | v_12 => ⟨44, [(2, .int .i64 work_3), (3, .loc 0 0), (8, .loc 1 0), (28, .int .i64 v_6), (29, .int .i64 v_12)], [(1, ⟨80, [.int .i64 r_4.1.StreamMill.Hammers, .int .i64 r_4.1.StreamMill.Takes, .int .i64 r_4.1.StreamMill.Blows.Low, .int .i64 r_4.1.StreamMill.Blows.High, .int .i64 r_4.1.StreamMill.Holds, .int .i64 r_4.1.StreamMill.Now.Low, .int .i64 r_4.1.StreamMill.Now.High, sl_api_Span false r_4.1.flows], true⟩), (0, ⟨37, [.int .i64 m_1.Hammers, .int .i64 m_1.Takes, .int .i64 m_1.Blows.Low, .int .i64 m_1.Blows.High, .int .i64 m_1.Holds, .int .i64 m_1.Now.Low, .int .i64 m_1.Now.High], true⟩)], [], 0⟩) (fun q => match q with | (.inl v_18) => .ret | (.inr ()) => .exit 1) (fun q => match q with | (.inl v_18) => ⟨44, [(6, .int .i64 v_18), (7, .lit .i64 0)], [], [], 0⟩ | (.inr ()) => ⟨44, [], [], [], 0⟩) (by subst_vars; exact weak_l rfl rfl ⟨lE, lR, lR, lE, lE, trivial⟩ ⟨lB ⟨lE, lE, lE, lE, lE, lE, lE, LV_sl, rfl⟩, lB ⟨lE, lE, lE, lE, lE, lE, lE, rfl⟩, trivial⟩ trivial) (by intro q; rcases q with (v_18 | _) <;> (intro e; exact Exit.noConfusion e)) ?_ ?_; all_goals clear h
      · intro v_12 x h R hR hX
        rw [m_stream_Done_L1] at h
        (conv => cbv)
        refine L_tst hI h (by subst_vars; rfl) ?_ ?_ <;> clear h <;> intro h
        · refine L_cut hI seat [5000030, 7000000, 8000009] (by kernel_rfl) h (fun q => match q with | v_21 => .normal) (fun q => match q with | v_21 => ⟨44, [(2, .int .i64 work_3), (3, .loc 0 0), (8, .loc 1 0), (10, .int .i64 v_12), (28, .int .i64 v_6), (29, .int .i64 v_12), (41, .bool v_21)], [(1, ⟨80, [.int .i64 r_4.1.StreamMill.Hammers, .int .i64 r_4.1.StreamMill.Takes, .int .i64 r_4.1.StreamMill.Blows.Low, .int .i64 r_4.1.StreamMill.Blows.High, .int .i64 r_4.1.StreamMill.Holds, .int .i64 r_4.1.StreamMill.Now.Low, .int .i64 r_4.1.StreamMill.Now.High, sl_api_Span false r_4.1.flows], true⟩), (0, ⟨37, [.int .i64 m_1.Hammers, .int .i64 m_1.Takes, .int .i64 m_1.Blows.Low, .int .i64 m_1.Blows.High, .int .i64 m_1.Holds, .int .i64 m_1.Now.Low, .int .i64 m_1.Now.High], true⟩)], [], 0⟩) ?_ ?_; all_goals clear h
          · intro x h R hR
            (conv => cbv)
            replace h := bind_of h; obtain ⟨r_22, hb1, h⟩ := h
            replace h := bind_of h; obtain ⟨r_23, hb2, h⟩ := h
            repeat' (first | (refine K_conj hI (show I.rnone from by rw [hI]; rfl) ?_; (conv => cbv)) | (refine C_le hI (w_stream_newMiller N r_4.1 v_12 r_22 hb1) (by subst_vars; exact ⟨(leD_refl _), (leD_refl _), rfl⟩) ?_; (conv => cbv)) | (refine CW_le hI (w_stream_miller_most N r_22 (stream_spot.mk 0 m_1.Now.Low) r_23 hb2) (by subst_vars; exact ⟨⟨(leA_refl _), (leA_refl _), (leA_refl _), (leA_refl _), (leA_refl _), (leA_refl _), (leA_refl _), (leA_refl _), rfl, rfl⟩, ⟨(leA_refl _), (leA_refl _), rfl⟩, rfl⟩) (by subst_vars; rfl) (by subst_vars; first | rfl | (simp only [rowsD, KP.rows, KV.toDLL, List.map_append, List.map_cons, List.map_nil, List.append_nil, List.nil_append, List.append_assoc, List.singleton_append, List.cons_append, List.map_replicate]; rfl) | (simp only [primK, rowsD, KP.rows, KV.toDLL, List.map_append, List.map_cons, List.map_nil, List.append_nil, List.map_replicate]; rfl)) ?_; (conv => cbv)) | (refine K_conj hI (by rw [hI]; exact (numsW_mp _ (fun _ => rfl))) ?_; (conv => cbv)) | (exact hR _ _ (Option.some.inj h).symm (by subst_vars; exact weak_l rfl rfl ⟨lE, lR, lR, lE, lE, lE, lE, trivial⟩ ⟨lB ⟨lE, lE, lE, lE, lE, lE, lE, LV_sl, rfl⟩, lB ⟨lE, lE, lE, lE, lE, lE, lE, rfl⟩, trivial⟩ trivial)) | (refine K_conj hI ?_ ?_))
          · intro v_21 h
            (conv => cbv)
            refine L_tst hI h (by subst_vars; rfl) ?_ ?_ <;> clear h <;> intro h
            · exact hX _ _ (Option.some.inj h).symm (by subst_vars; exact weak_l rfl rfl ⟨lE, lE, trivial⟩ trivial trivial)
            · exact hR _ _ (Option.some.inj h).symm (by subst_vars; exact weak_l rfl rfl ⟨lE, lR, lR, lE, lE, trivial⟩ ⟨lB ⟨lE, lE, lE, lE, lE, lE, lE, LV_sl, rfl⟩, lB ⟨lE, lE, lE, lE, lE, lE, lE, rfl⟩, trivial⟩ trivial)
        · exact hX _ _ (Option.some.inj h).symm (by subst_vars; exact weak_l rfl rfl trivial trivial trivial)
      · intro q h
        rcases q with (v_18 | _)
        · (conv => cbv)
          cases h
          subst_vars
          exact ⟨(LV_tup ⟨lE, lE, rfl⟩), rfl⟩
        · (conv => cbv)
          cases h
          subst_vars
          exact ⟨(LV_tup ⟨lE, lE, rfl⟩), rfl⟩
end Go.Proofs.Ytelnoeamkdpjhaa.Aw

/- Plain models and walks for the tops of cloth and stream. Printed by wip/gen/pm.py. -/
namespace Go.Proofs.Ytelnoeamkdpjhaa.Aw
open Go Go.RowKit Go.Proofs
set_option maxRecDepth 100000
set_option maxHeartbeats 4000000
set_option linter.unusedSimpArgs false
set_option linter.unusedVariables false
theorem w_top_firSum (N : Nat) (l_1 : (List Int)) (o : Int) (h : m_top_firSum N l_1 = some o) :
    KC Try.prog 13 [sl_int false l_1] (.int .i64 o) [] := by
  unfold m_top_firSum at h
  refine con_l [] [] seat Try.func13 rfl ent_13 (by kernel_rfl) rfl rfl (by simp) ?_; intro base I hI; (conv => cbv)
  refine L_loop hI seat [] (by kernel_rfl) h (fun q => match q with | (n_3, i_4) => ⟨18, [(0, sl_int false l_1), (3, .int .i64 n_3), (4, .int .i64 i_4)], [], [], 0⟩) (fun q => match q with | n_6 => .exit 0) (fun q => match q with | n_6 => ⟨18, [(3, .int .i64 n_6)], [], [], 0⟩) (by subst_vars; exact weak_l rfl rfl ⟨LV_sl, lE, lE, trivial⟩ trivial trivial) (by intro q; rcases q with n_6 <;> (intro e; exact Exit.noConfusion e)) ?_ ?_; all_goals clear h
  · intro q x h R hR hX
    obtain ⟨n_3, i_4⟩ := q
    rw [m_top_firSum_L1] at h
    (conv => cbv)
    refine L_tst hI h (by subst_vars; rfl) ?_ ?_ <;> clear h <;> intro h
    · refine L_get hI h (fun g => by subst_vars; exact g) ?_; clear h; intro hc x_7 hxx_7 h
      exact hR _ _ (Option.some.inj h).symm (by subst_vars; exact weak_l rfl rfl ⟨LV_sl, lE, lE, trivial⟩ trivial trivial)
    · exact hX _ _ (Option.some.inj h).symm (by subst_vars; exact weak_l rfl rfl ⟨lE, trivial⟩ trivial trivial)
  · intro n_6 h
    (conv => cbv)
    cases h
    subst_vars
    exact ⟨lE, rfl⟩
end Go.Proofs.Ytelnoeamkdpjhaa.Aw

/- Plain models and walks for the tops of cloth and stream. Printed by wip/gen/pm.py. -/
namespace Go.Proofs.Ytelnoeamkdpjhaa.Aw
open Go Go.RowKit Go.Proofs
set_option maxRecDepth 100000
set_option maxHeartbeats 4000000
set_option linter.unusedSimpArgs false
set_option linter.unusedVariables false
theorem w_top_firSame (N : Nat) (a_1 : (List Int)) (b_2 : (List Int)) (o : Bool) (h : m_top_firSame N a_1 b_2 = some o) :
    KC Try.prog 32 [sl_int false a_1, sl_int false b_2] (.bool o) [] := by
  unfold m_top_firSame at h
  refine con_l [] [] seat Try.func32 rfl ent_32 (by kernel_rfl) rfl rfl (by simp) ?_; intro base I hI; (conv => cbv)
  refine L_tst hI h (by subst_vars; rfl) ?_ ?_ <;> clear h <;> intro h
  · cases h
    subst_vars
    exact ⟨lE, rfl⟩
  · refine L_loop hI seat [] (by kernel_rfl) h (fun q => match q with | i_5 => ⟨26, [(0, sl_int false a_1), (1, sl_int false b_2), (5, .int .i64 i_5)], [], [], 0⟩) (fun q => match q with | (.inl ()) => .ret | (.inr ()) => .exit 0) (fun q => match q with | (.inl ()) => ⟨26, [(4, .ff)], [], [], 0⟩ | (.inr ()) => ⟨26, [], [], [], 0⟩) (by subst_vars; exact weak_l rfl rfl ⟨LV_sl, LV_sl, lE, trivial⟩ trivial trivial) (by intro q; rcases q with (_ | _) <;> (intro e; exact Exit.noConfusion e)) ?_ ?_; all_goals clear h
    · intro i_5 x h R hR hX
      rw [m_top_firSame_L1] at h
      (conv => cbv)
      refine L_tst hI h (by subst_vars; rfl) ?_ ?_ <;> clear h <;> intro h
      · refine L_get hI h (fun g => by subst_vars; exact g) ?_; clear h; intro hc x_8 hxx_8 h
        refine L_get hI h (fun g => by subst_vars; exact g) ?_; clear h; intro hc x_9 hxx_9 h
        refine L_tst hI h (by subst_vars; rfl) ?_ ?_ <;> clear h <;> intro h
        · exact hX _ _ (Option.some.inj h).symm (by subst_vars; exact weak_l rfl rfl ⟨lE, trivial⟩ trivial trivial)
        · exact hR _ _ (Option.some.inj h).symm (by subst_vars; exact weak_l rfl rfl ⟨LV_sl, LV_sl, lE, trivial⟩ trivial trivial)
      · exact hX _ _ (Option.some.inj h).symm (by subst_vars; exact weak_l rfl rfl trivial trivial trivial)
    · intro q h
      rcases q with (_ | _)
      · (conv => cbv)
        cases h
        subst_vars
        exact ⟨lE, rfl⟩
      · (conv => cbv)
        cases h
        subst_vars
        exact ⟨lE, rfl⟩
theorem w_top_firKnown02 (N : Nat)  (o : Bool) (h : m_top_firKnown02 N  = some o) :
    KC Try.prog 14 [] (.bool o) [] := by
  unfold m_top_firKnown02 at h
  refine con_l [] [1000003] seat Try.func14 rfl ent_14 (by kernel_rfl) rfl rfl (by simp) ?_; intro base I hI; (conv => cbv)
  refine L_call hI h (fun v hv => w_top_firSpan N 30 40 v hv) (by subst_vars; exact ⟨(leD_refl _), (leD_refl _), rfl⟩) ?_; clear h; intro r_1 h; (conv => cbv)
  refine L_call hI h (fun v hv => w_top_firSpan N 20 25 v hv) (by subst_vars; exact ⟨(leD_refl _), (leD_refl _), rfl⟩) ?_; clear h; intro r_2 h; (conv => cbv)
  refine L_call hI h (fun v hv => w_top_firSpan N 10 20 v hv) (by subst_vars; exact ⟨(leD_refl _), (leD_refl _), rfl⟩) ?_; clear h; intro r_3 h; (conv => cbv)
  refine L_call hI h (fun v hv => w_top_firSpan N 0 5 v hv) (by subst_vars; exact ⟨(leD_refl _), (leD_refl _), rfl⟩) ?_; clear h; intro r_4 h; (conv => cbv)
  refine L_call hI h (fun v hv => w_top_firSpan N 15 30 v hv) (by subst_vars; exact ⟨(leD_refl _), (leD_refl _), rfl⟩) ?_; clear h; intro r_5 h; (conv => cbv)
  refine L_call hI h (fun v hv => w_stream_Most N (api_StreamMill.mk 3 10 r_1 50 r_2) [r_3, r_4, r_5] v hv) (by subst_vars; exact ⟨⟨(leD_refl _), (leD_refl _), (leD_refl _), (leD_refl _), (leD_refl _), (leD_refl _), (leD_refl _), rfl⟩, ⟨.inl rfl, rfl, leDLL_refl _⟩, rfl⟩) ?_; clear h; intro r_6 h; (conv => cbv)
  refine L_cut hI seat [] (by kernel_rfl) h (fun q => match q with | v_8 => .normal) (fun q => match q with | v_8 => ⟨23, [(0, .bool v_8)], [], [], 0⟩) ?_ ?_; all_goals clear h
  · intro x h R hR
    (conv => cbv)
    refine L_tst hI h (by subst_vars; rfl) ?_ ?_ <;> clear h <;> intro h
    · refine L_call hI h (fun v hv => w_top_firSame N r_6.1 [0, 1, 3] v hv) (by subst_vars; exact ⟨(leD_refl _), ⟨.inl rfl, rfl, leDLL_refl _⟩, rfl⟩) ?_; clear h; intro r_9 h; (conv => cbv)
      exact hR _ _ (Option.some.inj h).symm (by subst_vars; exact weak_l rfl rfl ⟨lE, trivial⟩ trivial trivial)
    · exact hR _ _ (Option.some.inj h).symm (by subst_vars; exact weak_l rfl rfl ⟨lE, trivial⟩ trivial trivial)
  · intro v_8 h
    (conv => cbv)
    cases h
    subst_vars
    exact ⟨lE, rfl⟩
end Go.Proofs.Ytelnoeamkdpjhaa.Aw
