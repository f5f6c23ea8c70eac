/- Part 6 of the proof: lemmas. -/
import Derived.Test.YtelnoeamkdpjhaaM4
import Derived.Test.YtelnoeamkdpjhaaM5
import Derived.Test.YtelnoeamkdpjhaaRows

/- Plain models and walks for the tops of cloth and stream. Printed by wip/gen/pm.py. -/
namespace Go.Proofs.Ytelnoeamkdpjhaa.Aw
open Go Go.RowKit Go.Proofs
set_option maxRecDepth 100000
set_option maxHeartbeats 4000000
set_option linter.unusedSimpArgs false
set_option linter.unusedVariables false
structure A4_u8 where
  a0 : Int
  a1 : Int
  a2 : Int
  a3 : Int
instance : BEq A4_u8 := ⟨fun x y => (x.a0 == y.a0 && (x.a1 == y.a1 && (x.a2 == y.a2 && (x.a3 == y.a3 && true))))⟩
def c_A4_u8 (x : A4_u8) : List KV := [.int .u8 x.a0, .int .u8 x.a1, .int .u8 x.a2, .int .u8 x.a3]
structure A3_A4_u8 where
  a0 : A4_u8
  a1 : A4_u8
  a2 : A4_u8
instance : BEq A3_A4_u8 := ⟨fun x y => (x.a0.a0 == y.a0.a0 && (x.a0.a1 == y.a0.a1 && (x.a0.a2 == y.a0.a2 && (x.a0.a3 == y.a0.a3 && (x.a1.a0 == y.a1.a0 && (x.a1.a1 == y.a1.a1 && (x.a1.a2 == y.a1.a2 && (x.a1.a3 == y.a1.a3 && (x.a2.a0 == y.a2.a0 && (x.a2.a1 == y.a2.a1 && (x.a2.a2 == y.a2.a2 && (x.a2.a3 == y.a2.a3 && true))))))))))))⟩
structure top_FirYarn where
  Tracks : A3_A4_u8
instance : BEq top_FirYarn := ⟨fun x y => (x.Tracks.a0.a0 == y.Tracks.a0.a0 && (x.Tracks.a0.a1 == y.Tracks.a0.a1 && (x.Tracks.a0.a2 == y.Tracks.a0.a2 && (x.Tracks.a0.a3 == y.Tracks.a0.a3 && (x.Tracks.a1.a0 == y.Tracks.a1.a0 && (x.Tracks.a1.a1 == y.Tracks.a1.a1 && (x.Tracks.a1.a2 == y.Tracks.a1.a2 && (x.Tracks.a1.a3 == y.Tracks.a1.a3 && (x.Tracks.a2.a0 == y.Tracks.a2.a0 && (x.Tracks.a2.a1 == y.Tracks.a2.a1 && (x.Tracks.a2.a2 == y.Tracks.a2.a2 && (x.Tracks.a2.a3 == y.Tracks.a2.a3 && true))))))))))))⟩
def c_top_FirYarn (x : top_FirYarn) : List KV := [.int .u8 x.Tracks.a0.a0, .int .u8 x.Tracks.a0.a1, .int .u8 x.Tracks.a0.a2, .int .u8 x.Tracks.a0.a3, .int .u8 x.Tracks.a1.a0, .int .u8 x.Tracks.a1.a1, .int .u8 x.Tracks.a1.a2, .int .u8 x.Tracks.a1.a3, .int .u8 x.Tracks.a2.a0, .int .u8 x.Tracks.a2.a1, .int .u8 x.Tracks.a2.a2, .int .u8 x.Tracks.a2.a3]
def k_top_FirYarn (x : top_FirYarn) : KV := .agg (c_top_FirYarn x)
structure A2_u8 where
  a0 : Int
  a1 : Int
def d_A2_u8 : A2_u8 := ⟨0, 0⟩
instance : BEq A2_u8 := ⟨fun x y => (x.a0 == y.a0 && (x.a1 == y.a1 && true))⟩
def c_A2_u8 (x : A2_u8) : List KV := [.int .u8 x.a0, .int .u8 x.a1]
structure top_FirBeck where
  Mill : A4_u8
  Flows : (List A2_u8)
def e_A2_u8 (x : A2_u8) (j : Nat) : KV := cel (c_A2_u8 x) j
def sl_A2_u8 (c : Bool) (l : List A2_u8) : KV := .sl c 2 A2_u8 d_A2_u8 l e_A2_u8
def c_top_FirBeck (x : top_FirBeck) : List KV := [.int .u8 x.Mill.a0, .int .u8 x.Mill.a1, .int .u8 x.Mill.a2, .int .u8 x.Mill.a3, sl_A2_u8 false x.Flows]
def k_top_FirBeck (x : top_FirBeck) : KV := .agg (c_top_FirBeck x)
structure api_Span where
  Low : Int
  High : Int
def d_api_Span : api_Span := ⟨0, 0⟩
instance : BEq api_Span := ⟨fun x y => (x.Low == y.Low && (x.High == y.High && true))⟩
def c_api_Span (x : api_Span) : List KV := [.int .i64 x.Low, .int .i64 x.High]
structure api_ClothTrack where
  First : api_Span
  Rate : api_Span
def d_api_ClothTrack : api_ClothTrack := ⟨d_api_Span, d_api_Span⟩
instance : BEq api_ClothTrack := ⟨fun x y => (x.First.Low == y.First.Low && (x.First.High == y.First.High && (x.Rate.Low == y.Rate.Low && (x.Rate.High == y.Rate.High && true))))⟩
def c_api_ClothTrack (x : api_ClothTrack) : List KV := [.int .i64 x.First.Low, .int .i64 x.First.High, .int .i64 x.Rate.Low, .int .i64 x.Rate.High]
structure api_ClothMeasure where
  What : Int
  Hour : Int
  Reading : Int
  Off : Int
def d_api_ClothMeasure : api_ClothMeasure := ⟨0, 0, 0, 0⟩
instance : BEq api_ClothMeasure := ⟨fun x y => (x.What == y.What && (x.Hour == y.Hour && (x.Reading == y.Reading && (x.Off == y.Off && true))))⟩
def c_api_ClothMeasure (x : api_ClothMeasure) : List KV := [.int .i64 x.What, .int .i64 x.Hour, .int .i64 x.Reading, .int .i64 x.Off]
structure api_Cloth where
  Tracks : (List api_ClothTrack)
  Measures : (List api_ClothMeasure)
def e_api_ClothTrack (x : api_ClothTrack) (j : Nat) : KV := cel (c_api_ClothTrack x) j
def sl_api_ClothTrack (c : Bool) (l : List api_ClothTrack) : KV := .sl c 4 api_ClothTrack d_api_ClothTrack l e_api_ClothTrack
def e_api_ClothMeasure (x : api_ClothMeasure) (j : Nat) : KV := cel (c_api_ClothMeasure x) j
def sl_api_ClothMeasure (c : Bool) (l : List api_ClothMeasure) : KV := .sl c 4 api_ClothMeasure d_api_ClothMeasure l e_api_ClothMeasure
structure api_StreamMill where
  Hammers : Int
  Takes : Int
  Blows : api_Span
  Holds : Int
  Now : api_Span
instance : BEq api_StreamMill := ⟨fun x y => (x.Hammers == y.Hammers && (x.Takes == y.Takes && (x.Blows.Low == y.Blows.Low && (x.Blows.High == y.Blows.High && (x.Holds == y.Holds && (x.Now.Low == y.Now.Low && (x.Now.High == y.Now.High && true)))))))⟩
def e_api_Span (x : api_Span) (j : Nat) : KV := cel (c_api_Span x) j
def sl_api_Span (c : Bool) (l : List api_Span) : KV := .sl c 2 api_Span d_api_Span l e_api_Span
structure stream_valley where
  StreamMill : api_StreamMill
  flows : (List api_Span)
def e_int (x : Int) (j : Nat) : KV := .int .i64 x
def sl_int (c : Bool) (l : List Int) : KV := .sl c 1 Int 0 l e_int
structure stream_tide where
  full : Int
  left : Int
instance : BEq stream_tide := ⟨fun x y => (x.full == y.full && (x.left == y.left && true))⟩
structure cloth_stretch where
  Span : api_Span
  rate : Int
def d_cloth_stretch : cloth_stretch := ⟨d_api_Span, 0⟩
instance : BEq cloth_stretch := ⟨fun x y => (x.Span.Low == y.Span.Low && (x.Span.High == y.Span.High && (x.rate == y.rate && true)))⟩
def c_cloth_stretch (x : cloth_stretch) : List KV := [.int .i64 x.Span.Low, .int .i64 x.Span.High, .int .i64 x.rate]
structure A3_L_cloth_stretch where
  a0 : (List cloth_stretch)
  a1 : (List cloth_stretch)
  a2 : (List cloth_stretch)
def e_cloth_stretch (x : cloth_stretch) (j : Nat) : KV := cel (c_cloth_stretch x) j
def sl_cloth_stretch (c : Bool) (l : List cloth_stretch) : KV := .sl c 3 cloth_stretch d_cloth_stretch l e_cloth_stretch
structure stream_spot where
  hour : Int
  water : Int
def d_stream_spot : stream_spot := ⟨0, 0⟩
instance : BEq stream_spot := ⟨fun x y => (x.hour == y.hour && (x.water == y.water && true))⟩
structure stream_miller where
  valley : stream_valley
  known : (List (stream_spot × Int))
def me_stream_spot_int (x : (stream_spot × Int)) (j : Nat) : KV := cel [.agg [.int .i64 x.1.hour, .int .i64 x.1.water], .int .i64 x.2] j
def mp_stream_spot_int (l : List (stream_spot × Int)) : KV := .mp (stream_spot × Int) (d_stream_spot, 0) l me_stream_spot_int
theorem menc_stream_spot_int : MapEnc (.flat 2) me_stream_spot_int (fun x => .agg [.int .i64 x.hour, .int .i64 x.water]) (fun x => .int .i64 x) := ⟨⟨(.ag [.i64, .i64]), rfl, fun _ => by simp [isKeyD, isKeyD0, kindsD, KV.toD, KV.toDL]⟩, fun _ => rfl, fun _ => rfl, fun _ _ => rfl, fun _ => rfl⟩
def m_top_firSpan (N : Nat) (low_1 : Int) (high_2 : Int) : Option (api_Span) :=
  some (api_Span.mk low_1 high_2)
theorem w_top_firSpan (N : Nat) (low_1 : Int) (high_2 : Int) (o : api_Span) (h : m_top_firSpan N low_1 high_2 = some o) :
    KC Try.prog 22 [.int .i64 low_1, .int .i64 high_2] (.agg [.int .i64 o.Low, .int .i64 o.High]) [] := by
  unfold m_top_firSpan at h
  refine con_l [] [] seat Try.func22 rfl ent_22 (by kernel_rfl) rfl rfl (by simp) ?_; intro base I hI; (conv => cbv)
  cases h
  subst_vars
  exact ⟨(LV_agg ⟨lE, lE, rfl⟩), rfl⟩
def m_top_FirYarn_made (N : Nat) (x_1 : top_FirYarn) : Option (api_Cloth) :=
  (m_top_firSpan N (iopR .add .i64 100 (IntKind.wrap .i64 x_1.Tracks.a0.a0)) (iopR .add .i64 (iopR .add .i64 100 (IntKind.wrap .i64 x_1.Tracks.a0.a0)) (iopR .mul .i64 2 (iopR .rem .i64 (IntKind.wrap .i64 x_1.Tracks.a0.a1) 20)))).bind fun r_2 =>
  (m_top_firSpan N (iopR .rem .i64 (IntKind.wrap .i64 x_1.Tracks.a0.a2) 70) (iopR .add .i64 (iopR .rem .i64 (IntKind.wrap .i64 x_1.Tracks.a0.a2) 70) (iopR .rem .i64 (IntKind.wrap .i64 x_1.Tracks.a0.a3) 20))).bind fun r_3 =>
  if fitsN (1) 32 then
    (m_top_firSpan N (iopR .add .i64 100 (IntKind.wrap .i64 x_1.Tracks.a1.a0)) (iopR .add .i64 (iopR .add .i64 100 (IntKind.wrap .i64 x_1.Tracks.a1.a0)) (iopR .mul .i64 2 (iopR .rem .i64 (IntKind.wrap .i64 x_1.Tracks.a1.a1) 20)))).bind fun r_4 =>
    (m_top_firSpan N (iopR .rem .i64 (IntKind.wrap .i64 x_1.Tracks.a1.a2) 70) (iopR .add .i64 (iopR .rem .i64 (IntKind.wrap .i64 x_1.Tracks.a1.a2) 70) (iopR .rem .i64 (IntKind.wrap .i64 x_1.Tracks.a1.a3) 20))).bind fun r_5 =>
    if fitsN (2) 32 then
      (m_top_firSpan N (iopR .add .i64 100 (IntKind.wrap .i64 x_1.Tracks.a2.a0)) (iopR .add .i64 (iopR .add .i64 100 (IntKind.wrap .i64 x_1.Tracks.a2.a0)) (iopR .mul .i64 2 (iopR .rem .i64 (IntKind.wrap .i64 x_1.Tracks.a2.a1) 20)))).bind fun r_6 =>
      (m_top_firSpan N (iopR .rem .i64 (IntKind.wrap .i64 x_1.Tracks.a2.a2) 70) (iopR .add .i64 (iopR .rem .i64 (IntKind.wrap .i64 x_1.Tracks.a2.a2) 70) (iopR .rem .i64 (IntKind.wrap .i64 x_1.Tracks.a2.a3) 20))).bind fun r_7 =>
      if fitsN (3) 32 then
        some (api_Cloth.mk [(api_ClothTrack.mk r_2 r_3), (api_ClothTrack.mk r_4 r_5), (api_ClothTrack.mk r_6 r_7)] [])
      else none
    else none
  else none
theorem w_top_FirYarn_made (N : Nat) (x_1 : top_FirYarn) (o : api_Cloth) (h : m_top_FirYarn_made N x_1 = some o) :
    KC Try.prog 6 [.agg [.int .u8 x_1.Tracks.a0.a0, .int .u8 x_1.Tracks.a0.a1, .int .u8 x_1.Tracks.a0.a2, .int .u8 x_1.Tracks.a0.a3, .int .u8 x_1.Tracks.a1.a0, .int .u8 x_1.Tracks.a1.a1, .int .u8 x_1.Tracks.a1.a2, .int .u8 x_1.Tracks.a1.a3, .int .u8 x_1.Tracks.a2.a0, .int .u8 x_1.Tracks.a2.a1, .int .u8 x_1.Tracks.a2.a2, .int .u8 x_1.Tracks.a2.a3]] (.agg [sl_api_ClothTrack false o.Tracks, sl_api_ClothMeasure false o.Measures]) [] := by
  unfold m_top_FirYarn_made at h
  refine con_l [] [] seat Try.func6 rfl ent_6 (by kernel_rfl) rfl rfl (by simp) ?_; intro base I hI; (conv => cbv)
  refine W_unroll hI seat [] (by kernel_rfl) 5 ?_; (conv => cbv)
  refine L_call hI h (fun v hv => w_top_firSpan N (iopR .add .i64 100 (IntKind.wrap .i64 x_1.Tracks.a0.a0)) (iopR .add .i64 (iopR .add .i64 100 (IntKind.wrap .i64 x_1.Tracks.a0.a0)) (iopR .mul .i64 2 (iopR .rem .i64 (IntKind.wrap .i64 x_1.Tracks.a0.a1) 20))) v hv) (by subst_vars; exact ⟨(leD_refl _), (leD_refl _), rfl⟩) ?_; clear h; intro r_2 h; (conv => cbv)
  refine L_call hI h (fun v hv => w_top_firSpan N (iopR .rem .i64 (IntKind.wrap .i64 x_1.Tracks.a0.a2) 70) (iopR .add .i64 (iopR .rem .i64 (IntKind.wrap .i64 x_1.Tracks.a0.a2) 70) (iopR .rem .i64 (IntKind.wrap .i64 x_1.Tracks.a0.a3) 20)) v hv) (by subst_vars; exact ⟨(leD_refl _), (leD_refl _), rfl⟩) ?_; clear h; intro r_3 h; (conv => cbv)
  refine L_conj hI h (fun g => by subst_vars; exact g) ?_; clear h; intro hc h
  refine L_call hI h (fun v hv => w_top_firSpan N (iopR .add .i64 100 (IntKind.wrap .i64 x_1.Tracks.a1.a0)) (iopR .add .i64 (iopR .add .i64 100 (IntKind.wrap .i64 x_1.Tracks.a1.a0)) (iopR .mul .i64 2 (iopR .rem .i64 (IntKind.wrap .i64 x_1.Tracks.a1.a1) 20))) v hv) (by subst_vars; exact ⟨(leD_refl _), (leD_refl _), rfl⟩) ?_; clear h; intro r_4 h; (conv => cbv)
  refine L_call hI h (fun v hv => w_top_firSpan N (iopR .rem .i64 (IntKind.wrap .i64 x_1.Tracks.a1.a2) 70) (iopR .add .i64 (iopR .rem .i64 (IntKind.wrap .i64 x_1.Tracks.a1.a2) 70) (iopR .rem .i64 (IntKind.wrap .i64 x_1.Tracks.a1.a3) 20)) v hv) (by subst_vars; exact ⟨(leD_refl _), (leD_refl _), rfl⟩) ?_; clear h; intro r_5 h; (conv => cbv)
  refine L_conj hI h (fun g => by subst_vars; exact g) ?_; clear h; intro hc h
  refine L_call hI h (fun v hv => w_top_firSpan N (iopR .add .i64 100 (IntKind.wrap .i64 x_1.Tracks.a2.a0)) (iopR .add .i64 (iopR .add .i64 100 (IntKind.wrap .i64 x_1.Tracks.a2.a0)) (iopR .mul .i64 2 (iopR .rem .i64 (IntKind.wrap .i64 x_1.Tracks.a2.a1) 20))) v hv) (by subst_vars; exact ⟨(leD_refl _), (leD_refl _), rfl⟩) ?_; clear h; intro r_6 h; (conv => cbv)
  refine L_call hI h (fun v hv => w_top_firSpan N (iopR .rem .i64 (IntKind.wrap .i64 x_1.Tracks.a2.a2) 70) (iopR .add .i64 (iopR .rem .i64 (IntKind.wrap .i64 x_1.Tracks.a2.a2) 70) (iopR .rem .i64 (IntKind.wrap .i64 x_1.Tracks.a2.a3) 20)) v hv) (by subst_vars; exact ⟨(leD_refl _), (leD_refl _), rfl⟩) ?_; clear h; intro r_7 h; (conv => cbv)
  refine L_conj hI h (fun g => by subst_vars; exact g) ?_; clear h; intro hc h
  cases h
  subst_vars
  exact ⟨(LV_agg ⟨(LV_slr rfl), LV_nil, rfl⟩), rfl⟩
def m_top_FirBeck_made_L1 (N : Nat) (p_1 : top_FirBeck) : (Int × (List api_Span)) → Option ((Int × (List api_Span)) ⊕ ((List api_Span)))
  | (v_67, v_68) =>
    (show Option (Bool) from
      if icmpR .eql v_67 0 then
        some true
      else
        if icmpR .lss v_67 ((p_1.Flows.length : Nat) : Int) then
          some (icmpR .lss v_67 12)
        else
          some false).bind fun q => match q with
    | v_76 =>
      if v_76 then
        (show Option (Int × Int) from
          if icmpR .lss v_67 ((p_1.Flows.length : Nat) : Int) then
            (getO d_A2_u8 p_1.Flows v_67).bind fun x_80 =>
            some (x_80.a0, x_80.a1)
          else
            some (10, 2)).bind fun q => match q with
        | (v_78, v_79) =>
          (m_top_firSpan N (iopR .rem .i64 (IntKind.wrap .i64 v_78) 50) (iopR .add .i64 (iopR .rem .i64 (IntKind.wrap .i64 v_78) 50) (iopR .rem .i64 (IntKind.wrap .i64 v_79) 9))).bind fun r_81 =>
          if fitsN (v_68.length + 1) 16 then
            some (.inl (iopR .add .i64 v_67 1, (v_68 ++ [r_81])))
          else none
      else
        some (.inr v_68)
def m_top_FirBeck_made (N : Nat) (p_1 : top_FirBeck) : Option (api_StreamMill × (List api_Span)) :=
  if (iopR .add .i64 (iopR .add .i64 20 (iopR .rem .i64 (IntKind.wrap .i64 p_1.Mill.a2) 80)) 1) ≠ 0 then
    (m_top_firSpan N 20 30).bind fun r_2 =>
    (m_top_firSpan N (iopR .rem .i64 (IntKind.wrap .i64 p_1.Mill.a3) (iopR .add .i64 (iopR .add .i64 20 (iopR .rem .i64 (IntKind.wrap .i64 p_1.Mill.a2) 80)) 1)) (min (iopR .add .i64 20 (iopR .rem .i64 (IntKind.wrap .i64 p_1.Mill.a2) 80)) (iopR .add .i64 (iopR .rem .i64 (IntKind.wrap .i64 p_1.Mill.a3) (iopR .add .i64 (iopR .add .i64 20 (iopR .rem .i64 (IntKind.wrap .i64 p_1.Mill.a2) 80)) 1)) 5))).bind fun r_3 =>
    letO (iopR .add .i64 1 (iopR .rem .i64 (IntKind.wrap .i64 p_1.Mill.a0) 4) : Int) fun v_4 =>
    letO (iopR .rem .i64 (IntKind.wrap .i64 p_1.Mill.a1) 20 : Int) fun v_5 =>
    letO (iopR .add .i64 20 (iopR .rem .i64 (IntKind.wrap .i64 p_1.Mill.a2) 80) : Int) fun v_6 =>
    (loopO (m_top_FirBeck_made_L1 N p_1) N (0, [])).bind fun q => match q with
    | v_75 =>
      some ((api_StreamMill.mk v_4 v_5 r_2 v_6 r_3), v_75)
  else none
theorem w_top_FirBeck_made (N : Nat) (p_1 : top_FirBeck) (o : api_StreamMill × (List api_Span)) (h : m_top_FirBeck_made N p_1 = some o) :
    KC Try.prog 7 [.agg [.int .u8 p_1.Mill.a0, .int .u8 p_1.Mill.a1, .int .u8 p_1.Mill.a2, .int .u8 p_1.Mill.a3, sl_A2_u8 false p_1.Flows]] (.tup [.agg [.int .i64 o.1.Hammers, .int .i64 o.1.Takes, .int .i64 o.1.Blows.Low, .int .i64 o.1.Blows.High, .int .i64 o.1.Holds, .int .i64 o.1.Now.Low, .int .i64 o.1.Now.High], sl_api_Span false o.2]) [] := by
  unfold m_top_FirBeck_made at h
  refine con_l [] [1000006, 2000065] seat Try.func7 rfl ent_7 (by kernel_rfl) rfl rfl (by simp) ?_; intro base I hI; (conv => cbv)
  refine L_conj hI h (fun g => by subst_vars; exact g) ?_; clear h; intro hc h
  refine L_call hI h (fun v hv => w_top_firSpan N 20 30 v hv) (by subst_vars; exact ⟨(leD_refl _), (leD_refl _), rfl⟩) ?_; clear h; intro r_2 h; (conv => cbv)
  refine L_call hI h (fun v hv => w_top_firSpan N (iopR .rem .i64 (IntKind.wrap .i64 p_1.Mill.a3) (iopR .add .i64 (iopR .add .i64 20 (iopR .rem .i64 (IntKind.wrap .i64 p_1.Mill.a2) 80)) 1)) (min (iopR .add .i64 20 (iopR .rem .i64 (IntKind.wrap .i64 p_1.Mill.a2) 80)) (iopR .add .i64 (iopR .rem .i64 (IntKind.wrap .i64 p_1.Mill.a3) (iopR .add .i64 (iopR .add .i64 20 (iopR .rem .i64 (IntKind.wrap .i64 p_1.Mill.a2) 80)) 1)) 5)) v hv) (by subst_vars; exact ⟨(leD_refl _), (leD_refl _), rfl⟩) ?_; clear h; intro r_3 h; (conv => cbv)
  replace h := letO_of h; obtain ⟨v_4, hev_4, h⟩ := h
  replace h := letO_of h; obtain ⟨v_5, hev_5, h⟩ := h
  replace h := letO_of h; obtain ⟨v_6, hev_6, h⟩ := h
  refine L_loop hI seat [1000006, 2000065] (by kernel_rfl) h (fun q => match q with | (v_67, v_68) => ⟨88, [(1, .loc 0 0), (2, .loc 1 0), (6, .loc 2 0), (7, .osl 3), (8, .int .i64 v_67)], [(2, ⟨37, [.int .i64 v_4, .int .i64 v_5, .int .i64 r_2.Low, .int .i64 r_2.High, .int .i64 v_6, .int .i64 r_3.Low, .int .i64 r_3.High], true⟩), (1, ⟨37, [.lit .i64 0, .lit .i64 0, .lit .i64 0, .lit .i64 0, .lit .i64 0, .lit .i64 0, .lit .i64 0], true⟩), (0, ⟨28, [.int .u8 p_1.Mill.a0, .int .u8 p_1.Mill.a1, .int .u8 p_1.Mill.a2, .int .u8 p_1.Mill.a3, sl_A2_u8 false p_1.Flows], true⟩)], [(3, ⟨35, 2, [.ls api_Span d_api_Span v_68 e_api_Span], true, true⟩)], 0⟩) (fun q => match q with | v_75 => .exit 0) (fun q => match q with | v_75 => ⟨88, [(2, .loc 1 0), (6, .loc 2 0), (7, .osl 3)], [(2, ⟨37, [.int .i64 v_4, .int .i64 v_5, .int .i64 r_2.Low, .int .i64 r_2.High, .int .i64 v_6, .int .i64 r_3.Low, .int .i64 r_3.High], true⟩), (1, ⟨37, [.lit .i64 0, .lit .i64 0, .lit .i64 0, .lit .i64 0, .lit .i64 0, .lit .i64 0, .lit .i64 0], true⟩)], [(3, ⟨35, 2, [.ls api_Span d_api_Span v_75 e_api_Span], true, true⟩)], 0⟩) (by subst_vars; exact weak_l rfl rfl ⟨lR, lR, lR, lR, lE, trivial⟩ ⟨lB ⟨lE, lE, lE, lE, lE, lE, lE, rfl⟩, lB ⟨lE, lE, lE, lE, lE, lE, lE, rfl⟩, lB ⟨lE, lE, lE, lE, LV_sl, rfl⟩, trivial⟩ ⟨lO, trivial⟩) (by intro q; rcases q with v_75 <;> (intro e; exact Exit.noConfusion e)) ?_ ?_; all_goals clear h
  · intro q x h R hR hX
    obtain ⟨v_67, v_68⟩ := q
    rw [m_top_FirBeck_made_L1] at h
    (conv => cbv)
    refine L_cut hI seat [2000065] (by kernel_rfl) h (fun q => match q with | v_76 => .normal) (fun q => match q with | v_76 => ⟨88, [(1, .loc 0 0), (2, .loc 1 0), (6, .loc 2 0), (7, .osl 3), (8, .int .i64 v_67), (57, .bool v_76)], [(2, ⟨37, [.int .i64 v_4, .int .i64 v_5, .int .i64 r_2.Low, .int .i64 r_2.High, .int .i64 v_6, .int .i64 r_3.Low, .int .i64 r_3.High], true⟩), (1, ⟨37, [.lit .i64 0, .lit .i64 0, .lit .i64 0, .lit .i64 0, .lit .i64 0, .lit .i64 0, .lit .i64 0], true⟩), (0, ⟨28, [.int .u8 p_1.Mill.a0, .int .u8 p_1.Mill.a1, .int .u8 p_1.Mill.a2, .int .u8 p_1.Mill.a3, sl_A2_u8 false p_1.Flows], true⟩)], [(3, ⟨35, 2, [.ls api_Span d_api_Span v_68 e_api_Span], true, true⟩)], 0⟩) ?_ ?_; all_goals clear h
    · intro x h R hR
      (conv => cbv)
      refine L_tst hI h (by subst_vars; rfl) ?_ ?_ <;> clear h <;> intro h
      · exact hR _ _ (Option.some.inj h).symm (by subst_vars; exact weak_l rfl rfl ⟨lR, lR, lR, lR, lE, lE, trivial⟩ ⟨lB ⟨lE, lE, lE, lE, lE, lE, lE, rfl⟩, lB ⟨lE, lE, lE, lE, lE, lE, lE, rfl⟩, lB ⟨lE, lE, lE, lE, LV_sl, rfl⟩, trivial⟩ ⟨lO, trivial⟩)
      · refine L_tst hI h (by subst_vars; rfl) ?_ ?_ <;> clear h <;> intro h
        · exact hR _ _ (Option.some.inj h).symm (by subst_vars; exact weak_l rfl rfl ⟨lR, lR, lR, lR, lE, lE, trivial⟩ ⟨lB ⟨lE, lE, lE, lE, lE, lE, lE, rfl⟩, lB ⟨lE, lE, lE, lE, lE, lE, lE, rfl⟩, lB ⟨lE, lE, lE, lE, LV_sl, rfl⟩, trivial⟩ ⟨lO, trivial⟩)
        · exact hR _ _ (Option.some.inj h).symm (by subst_vars; exact weak_l rfl rfl ⟨lR, lR, lR, lR, lE, lE, trivial⟩ ⟨lB ⟨lE, lE, lE, lE, lE, lE, lE, rfl⟩, lB ⟨lE, lE, lE, lE, lE, lE, lE, rfl⟩, lB ⟨lE, lE, lE, lE, LV_sl, rfl⟩, trivial⟩ ⟨lO, trivial⟩)
    · intro v_76 h
      (conv => cbv)
      refine L_tst hI h (by subst_vars; rfl) ?_ ?_ <;> clear h <;> intro h
      · refine L_cut hI seat [1000006] (by kernel_rfl) h (fun q => match q with | (v_78, v_79) => .normal) (fun q => match q with | (v_78, v_79) => ⟨88, [(1, .loc 0 0), (2, .loc 1 0), (6, .loc 2 0), (7, .osl 3), (8, .int .i64 v_67), (9, .loc 4 0)], [(4, ⟨59, [.int .u8 v_78, .int .u8 v_79], true⟩), (2, ⟨37, [.int .i64 v_4, .int .i64 v_5, .int .i64 r_2.Low, .int .i64 r_2.High, .int .i64 v_6, .int .i64 r_3.Low, .int .i64 r_3.High], true⟩), (1, ⟨37, [.lit .i64 0, .lit .i64 0, .lit .i64 0, .lit .i64 0, .lit .i64 0, .lit .i64 0, .lit .i64 0], true⟩), (0, ⟨28, [.int .u8 p_1.Mill.a0, .int .u8 p_1.Mill.a1, .int .u8 p_1.Mill.a2, .int .u8 p_1.Mill.a3, sl_A2_u8 false p_1.Flows], true⟩)], [(3, ⟨35, 2, [.ls api_Span d_api_Span v_68 e_api_Span], true, true⟩)], 0⟩) ?_ ?_; all_goals clear h
        · intro x h R hR
          (conv => cbv)
          refine L_tst hI h (by subst_vars; rfl) ?_ ?_ <;> clear h <;> intro h
          · refine L_get hI h (fun g => by subst_vars; exact g) ?_; clear h; intro hc x_80 hxx_80 h
            exact hR _ _ (Option.some.inj h).symm (by subst_vars; exact weak_l rfl rfl ⟨lR, lR, lR, lR, lE, lR, trivial⟩ ⟨lB ⟨lE, lE, rfl⟩, lB ⟨lE, lE, lE, lE, lE, lE, lE, rfl⟩, lB ⟨lE, lE, lE, lE, lE, lE, lE, rfl⟩, lB ⟨lE, lE, lE, lE, LV_sl, rfl⟩, trivial⟩ ⟨lO, trivial⟩)
          · exact hR _ _ (Option.some.inj h).symm (by subst_vars; exact weak_l rfl rfl ⟨lR, lR, lR, lR, lE, lR, trivial⟩ ⟨lB ⟨lE, lE, rfl⟩, lB ⟨lE, lE, lE, lE, lE, lE, lE, rfl⟩, lB ⟨lE, lE, lE, lE, lE, lE, lE, rfl⟩, lB ⟨lE, lE, lE, lE, LV_sl, rfl⟩, trivial⟩ ⟨lO, trivial⟩)
        · intro q h
          rcases q with ⟨v_78, v_79⟩
          (conv => cbv)
          refine L_call hI h (fun v hv => w_top_firSpan N (iopR .rem .i64 (IntKind.wrap .i64 v_78) 50) (iopR .add .i64 (iopR .rem .i64 (IntKind.wrap .i64 v_78) 50) (iopR .rem .i64 (IntKind.wrap .i64 v_79) 9)) v hv) (by subst_vars; exact ⟨(leD_refl _), (leD_refl _), rfl⟩) ?_; clear h; intro r_81 h; (conv => cbv)
          refine L_conj hI h (fun g => by subst_vars; exact g) ?_; clear h; intro hc h
          exact hR _ _ (Option.some.inj h).symm (by subst_vars; exact weak_l rfl rfl ⟨lR, lR, lR, lR, lE, trivial⟩ ⟨lB ⟨lE, lE, lE, lE, lE, lE, lE, rfl⟩, lB ⟨lE, lE, lE, lE, lE, lE, lE, rfl⟩, lB ⟨lE, lE, lE, lE, LV_sl, rfl⟩, trivial⟩ ⟨lO, trivial⟩)
      · exact hX _ _ (Option.some.inj h).symm (by subst_vars; exact weak_l rfl rfl ⟨lR, lR, lR, trivial⟩ ⟨lB ⟨lE, lE, lE, lE, lE, lE, lE, rfl⟩, lB ⟨lE, lE, lE, lE, lE, lE, lE, rfl⟩, trivial⟩ ⟨lO, trivial⟩)
  · intro v_75 h
    (conv => cbv)
    cases h
    subst_vars
    exact ⟨(LV_tup ⟨(LV_agg ⟨lE, lE, lE, lE, lE, lE, lE, rfl⟩), LV_sl, rfl⟩), rfl⟩
def m_top_firOwn (N : Nat) (l_1 : (List api_Span)) : Option ((List api_Span)) :=
  if fitsN (l_1.length) 16 then
    some l_1
  else none
theorem w_top_firOwn (N : Nat) (l_1 : (List api_Span)) (o : (List api_Span)) (h : m_top_firOwn N l_1 = some o) :
    KC Try.prog 11 [sl_api_Span false l_1] (sl_api_Span false o) [] := by
  unfold m_top_firOwn at h
  refine con_l [] [] seat Try.func11 rfl ent_11 (by kernel_rfl) rfl rfl (by simp) ?_; intro base I hI; (conv => cbv)
  refine L_conj hI h (fun g => by subst_vars; exact g) ?_; clear h; intro hc h
  cases h
  subst_vars
  exact ⟨LV_sl, rfl⟩
def m_slices_IndexFunc_Lint_int_L1 (N : Nat) (v_3 : Int) (s_1 : (List Int)) (f_2 : Int → Option Bool) : Int → Option ((Int) ⊕ ((Int) ⊕ (Unit)))
  | v_6 =>
    if icmpR .lss v_6 v_3 then
      (getO 0 s_1 v_6).bind fun x_10 =>
      (f_2 x_10).bind fun v_11 =>
      if v_11 then
        some (.inr (.inl v_6))
      else
        some (.inl (iopR .add .i64 v_6 1))
    else
      some (.inr (.inr ()))
def m_slices_IndexFunc_Lint_int (N : Nat) (s_1 : (List Int)) (f_2 : Int → Option Bool) : Option (Int) :=
  letO (((s_1.length : Nat) : Int) : Int) fun v_3 =>
  (loopO (m_slices_IndexFunc_Lint_int_L1 N v_3 s_1 f_2) N 0).bind fun q => match q with
  | (.inl v_9) =>
    some v_9
  | (.inr ()) =>
    some (-1)
theorem w_slices_IndexFunc_Lint_int (N : Nat) (s_1 : (List Int)) (f_2 : Int → Option Bool) (kf_2 : Nat) (dsf_2 : List D) (hdf_2 : noAggD dsf_2 = true) (hpf_2 : ∀ x0 r, f_2 x0 = some r → KD Try.prog kf_2 [.int .i64 x0] dsf_2 (.bool r)) (o : Int) (h : m_slices_IndexFunc_Lint_int N s_1 f_2 = some o) :
    KC Try.prog 70 [sl_int false s_1, .d (.fn kf_2 dsf_2)] (.int .i64 o) [] := by
  unfold m_slices_IndexFunc_Lint_int at h
  refine con_l [] [] seat Try.func70 rfl ent_70 (by kernel_rfl) rfl rfl (by simp) ?_; intro base I hI; (conv => cbv)
  replace h := letO_of h; obtain ⟨v_3, hev_3, h⟩ := h
  refine L_loop hI seat [] (by kernel_rfl) h (fun q => match q with | v_6 => ⟨19, [(0, sl_int false s_1), (1, .d (.fn kf_2 dsf_2)), (7, .int .i64 v_3), (8, .int .i64 v_6)], [], [], 0⟩) (fun q => match q with | (.inl v_9) => .ret | (.inr ()) => .exit 0) (fun q => match q with | (.inl v_9) => ⟨19, [(4, .int .i64 v_9)], [], [], 0⟩ | (.inr ()) => ⟨19, [], [], [], 0⟩) (by subst_vars; exact weak_l rfl rfl ⟨LV_sl, lR, lE, lE, trivial⟩ trivial trivial) (by intro q; rcases q with (v_9 | _) <;> (intro e; exact Exit.noConfusion e)) ?_ ?_; all_goals clear h
  · intro v_6 x h R hR hX
    rw [m_slices_IndexFunc_Lint_int_L1] at h
    (conv => cbv)
    refine L_tst hI h (by subst_vars; rfl) ?_ ?_ <;> clear h <;> intro h
    · refine L_get hI h (fun g => by subst_vars; exact g) ?_; clear h; intro hc x_10 hxx_10 h
      refine K_conj hI (by subst_vars; exact hdf_2) ?_
      refine L_callD hI h (args' := [.int .i64 x_10]) (fun v hv => hpf_2 x_10 v hv) (by subst_vars; rfl) ?_; clear h; intro v_11 h; (conv => cbv)
      refine L_tst hI h (by subst_vars; rfl) ?_ ?_ <;> clear h <;> intro h
      · exact hX _ _ (Option.some.inj h).symm (by subst_vars; exact weak_l rfl rfl ⟨lE, trivial⟩ trivial trivial)
      · exact hR _ _ (Option.some.inj h).symm (by subst_vars; exact weak_l rfl rfl ⟨LV_sl, lR, lE, lE, trivial⟩ trivial trivial)
    · exact hX _ _ (Option.some.inj h).symm (by subst_vars; exact weak_l rfl rfl trivial trivial trivial)
  · intro q h
    rcases q with (v_9 | _)
    · (conv => cbv)
      cases h
      subst_vars
      exact ⟨lE, rfl⟩
    · (conv => cbv)
      cases h
      subst_vars
      exact ⟨lE, rfl⟩
def m_slices_ContainsFunc_Lint_int (N : Nat) (s_1 : (List Int)) (f_2 : Int → Option Bool) : Option (Bool) :=
  (m_slices_IndexFunc_Lint_int N s_1 f_2).bind fun r_3 =>
  some (icmpR .geq r_3 0)
theorem w_slices_ContainsFunc_Lint_int (N : Nat) (s_1 : (List Int)) (f_2 : Int → Option Bool) (kf_2 : Nat) (dsf_2 : List D) (hdf_2 : noAggD dsf_2 = true) (hpf_2 : ∀ x0 r, f_2 x0 = some r → KD Try.prog kf_2 [.int .i64 x0] dsf_2 (.bool r)) (o : Bool) (h : m_slices_ContainsFunc_Lint_int N s_1 f_2 = some o) :
    KC Try.prog 50 [sl_int false s_1, .d (.fn kf_2 dsf_2)] (.bool o) [] := by
  unfold m_slices_ContainsFunc_Lint_int at h
  refine con_l [] [] seat Try.func50 rfl ent_50 (by kernel_rfl) rfl rfl (by simp) ?_; intro base I hI; (conv => cbv)
  refine L_call hI h (fun v hv => w_slices_IndexFunc_Lint_int N s_1 f_2 kf_2 dsf_2 hdf_2 hpf_2 v hv) (by subst_vars; exact ⟨(leD_refl _), (leD_refl _), rfl⟩) ?_; clear h; intro r_3 h; (conv => cbv)
  cases h
  subst_vars
  exact ⟨lE, rfl⟩
def m_stream_within_1 (N : Nat) (n_1 : Int) (p_2 : Int) (p_3 : Int) : Option (Bool) :=
  (show Option (Bool) from
    if icmpR .lss n_1 p_2 then
      some true
    else
      some (icmpR .gtr n_1 p_3)).bind fun q => match q with
  | v_4 =>
    some v_4
theorem w_stream_within_1 (N : Nat) (n_1 : Int) (p_2 : Int) (p_3 : Int) (o : Bool) (h : m_stream_within_1 N n_1 p_2 p_3 = some o) :
    KC Try.prog 56 [.int .i64 n_1, .ptr [.int .i64 p_2], .ptr [.int .i64 p_3]] (.bool o) [] := by
  unfold m_stream_within_1 at h
  refine con_l [] [1000001] seat Try.func56 rfl ent_56 (by kernel_rfl) rfl rfl (by simp) ?_; intro base I hI; (conv => cbv)
  refine L_cut hI seat [] (by kernel_rfl) h (fun q => match q with | v_4 => .normal) (fun q => match q with | v_4 => ⟨13, [(4, .bool v_4)], [], [], 0⟩) ?_ ?_; all_goals clear h
  · intro x h R hR
    (conv => cbv)
    refine L_tst hI h (by subst_vars; rfl) ?_ ?_ <;> clear h <;> intro h
    · exact hR _ _ (Option.some.inj h).symm (by subst_vars; exact weak_l rfl rfl ⟨lE, trivial⟩ trivial trivial)
    · exact hR _ _ (Option.some.inj h).symm (by subst_vars; exact weak_l rfl rfl ⟨lE, trivial⟩ trivial trivial)
  · intro v_4 h
    (conv => cbv)
    cases h
    subst_vars
    exact ⟨lE, rfl⟩
def m_stream_within (N : Nat) (least_1 : Int) (most_2 : Int) (l_3 : (List Int)) : Option (Bool) :=
  (m_slices_ContainsFunc_Lint_int N l_3 (fun x0 => m_stream_within_1 N x0 least_1 most_2)).bind fun r_4 =>
  some (!r_4)
theorem w_stream_within (N : Nat) (least_1 : Int) (most_2 : Int) (l_3 : (List Int)) (o : Bool) (h : m_stream_within N least_1 most_2 l_3 = some o) :
    KC Try.prog 28 [.int .i64 least_1, .int .i64 most_2, sl_int false l_3] (.bool o) [] := by
  unfold m_stream_within at h
  refine con_l [] [] seat Try.func28 rfl ent_28 (by kernel_rfl) rfl rfl (by simp) ?_; intro base I hI; (conv => cbv)
  refine L_call hI h (fun v hv => w_slices_ContainsFunc_Lint_int N l_3 (fun x0 => m_stream_within_1 N x0 least_1 most_2) 56 (KV.toDL [.ptr [.int .i64 least_1], .ptr [.int .i64 most_2]]) rfl (fun x0 r hr => KD_of (caps := [.ptr [.int .i64 least_1], .ptr [.int .i64 most_2]]) (w_stream_within_1 N x0 least_1 most_2 r hr)) v hv) (by subst_vars; exact ⟨(leD_refl _), (leD_refl _), rfl⟩) ?_; clear h; intro r_4 h; (conv => cbv)
  cases h
  subst_vars
  exact ⟨lE, rfl⟩
def m_stream_isSpan (N : Nat) (s_1 : api_Span) (least_2 : Int) (most_3 : Int) : Option (Bool) :=
  (show Option (Bool) from
    (m_stream_within N least_2 most_3 [s_1.Low, s_1.High]).bind fun r_6 =>
    if r_6 then
      some (icmpR .leq s_1.Low s_1.High)
    else
      some false).bind fun q => match q with
  | v_5 =>
    some v_5
theorem w_stream_isSpan (N : Nat) (s_1 : api_Span) (least_2 : Int) (most_3 : Int) (o : Bool) (h : m_stream_isSpan N s_1 least_2 most_3 = some o) :
    KC Try.prog 58 [.agg [.int .i64 s_1.Low, .int .i64 s_1.High], .int .i64 least_2, .int .i64 most_3] (.bool o) [] := by
  unfold m_stream_isSpan at h
  refine con_l [] [1000001] seat Try.func58 rfl ent_58 (by kernel_rfl) rfl rfl (by simp) ?_; intro base I hI; (conv => cbv)
  refine L_cut hI seat [] (by kernel_rfl) h (fun q => match q with | v_5 => .normal) (fun q => match q with | v_5 => ⟨22, [(6, .bool v_5)], [], [], 0⟩) ?_ ?_; all_goals clear h
  · intro x h R hR
    (conv => cbv)
    refine L_call hI h (fun v hv => w_stream_within N least_2 most_3 [s_1.Low, s_1.High] v hv) (by subst_vars; exact ⟨(leD_refl _), (leD_refl _), ⟨.inl rfl, rfl, leDLL_refl _⟩, rfl⟩) ?_; clear h; intro r_6 h; (conv => cbv)
    refine L_tst hI h (by subst_vars; rfl) ?_ ?_ <;> clear h <;> intro h
    · exact hR _ _ (Option.some.inj h).symm (by subst_vars; exact weak_l rfl rfl ⟨lE, trivial⟩ trivial trivial)
    · exact hR _ _ (Option.some.inj h).symm (by subst_vars; exact weak_l rfl rfl ⟨lE, trivial⟩ trivial trivial)
  · intro v_5 h
    (conv => cbv)
    cases h
    subst_vars
    exact ⟨lE, rfl⟩
def m_stream_checkMill (N : Nat) (m_1 : api_StreamMill) : Option (Int) :=
  (show Option (Bool) from
    (m_stream_within N 1 8 [m_1.Hammers]).bind fun r_8 =>
    if !r_8 then
      some true
    else
      (m_stream_within N 0 100 [m_1.Takes]).bind fun r_9 =>
      if !r_9 then
        some true
      else
        (m_stream_isSpan N m_1.Blows 0 5000).bind fun r_10 =>
        if !r_10 then
          some true
        else
          (m_stream_within N 0 500 [m_1.Holds]).bind fun r_11 =>
          if !r_11 then
            some true
          else
            (m_stream_isSpan N m_1.Now 0 m_1.Holds).bind fun r_12 =>
            some (!r_12)).bind fun q => match q with
  | v_7 =>
    if v_7 then
      some 2
    else
      some 0
theorem w_stream_checkMill (N : Nat) (m_1 : api_StreamMill) (o : Int) (h : m_stream_checkMill N m_1 = some o) :
    KC Try.prog 40 [.agg [.int .i64 m_1.Hammers, .int .i64 m_1.Takes, .int .i64 m_1.Blows.Low, .int .i64 m_1.Blows.High, .int .i64 m_1.Holds, .int .i64 m_1.Now.Low, .int .i64 m_1.Now.High]] (.int .i64 o) [] := by
  unfold m_stream_checkMill at h
  refine con_l [] [1000001] seat Try.func40 rfl ent_40 (by kernel_rfl) rfl rfl (by simp) ?_; intro base I hI; (conv => cbv)
  refine L_cut hI seat [] (by kernel_rfl) h (fun q => match q with | v_7 => .normal) (fun q => match q with | v_7 => ⟨36, [(35, .bool v_7)], [], [], 0⟩) ?_ ?_; all_goals clear h
  · intro x h R hR
    (conv => cbv)
    refine L_call hI h (fun v hv => w_stream_within N 1 8 [m_1.Hammers] v hv) (by subst_vars; exact ⟨(leD_refl _), (leD_refl _), ⟨.inl rfl, rfl, leDLL_refl _⟩, rfl⟩) ?_; clear h; intro r_8 h; (conv => cbv)
    refine L_tst hI h (by subst_vars; rfl) ?_ ?_ <;> clear h <;> intro h
    · exact hR _ _ (Option.some.inj h).symm (by subst_vars; exact weak_l rfl rfl ⟨lE, trivial⟩ trivial trivial)
    · refine L_call hI h (fun v hv => w_stream_within N 0 100 [m_1.Takes] v hv) (by subst_vars; exact ⟨(leD_refl _), (leD_refl _), ⟨.inl rfl, rfl, leDLL_refl _⟩, rfl⟩) ?_; clear h; intro r_9 h; (conv => cbv)
      refine L_tst hI h (by subst_vars; rfl) ?_ ?_ <;> clear h <;> intro h
      · exact hR _ _ (Option.some.inj h).symm (by subst_vars; exact weak_l rfl rfl ⟨lE, trivial⟩ trivial trivial)
      · refine L_call hI h (fun v hv => w_stream_isSpan N m_1.Blows 0 5000 v hv) (by subst_vars; exact ⟨(leD_refl _), (leD_refl _), (leD_refl _), rfl⟩) ?_; clear h; intro r_10 h; (conv => cbv)
        refine L_tst hI h (by subst_vars; rfl) ?_ ?_ <;> clear h <;> intro h
        · exact hR _ _ (Option.some.inj h).symm (by subst_vars; exact weak_l rfl rfl ⟨lE, trivial⟩ trivial trivial)
        · refine L_call hI h (fun v hv => w_stream_within N 0 500 [m_1.Holds] v hv) (by subst_vars; exact ⟨(leD_refl _), (leD_refl _), ⟨.inl rfl, rfl, leDLL_refl _⟩, rfl⟩) ?_; clear h; intro r_11 h; (conv => cbv)
          refine L_tst hI h (by subst_vars; rfl) ?_ ?_ <;> clear h <;> intro h
          · exact hR _ _ (Option.some.inj h).symm (by subst_vars; exact weak_l rfl rfl ⟨lE, trivial⟩ trivial trivial)
          · refine L_call hI h (fun v hv => w_stream_isSpan N m_1.Now 0 m_1.Holds v hv) (by subst_vars; exact ⟨(leD_refl _), (leD_refl _), (leD_refl _), rfl⟩) ?_; clear h; intro r_12 h; (conv => cbv)
            exact hR _ _ (Option.some.inj h).symm (by subst_vars; exact weak_l rfl rfl ⟨lE, trivial⟩ trivial trivial)
  · intro v_7 h
    (conv => cbv)
    refine L_tst hI h (by subst_vars; rfl) ?_ ?_ <;> clear h <;> intro h
    · cases h
      subst_vars
      exact ⟨lE, rfl⟩
    · cases h
      subst_vars
      exact ⟨lE, rfl⟩
def m_slices_IndexFunc_Lapi_Span_api_Span_L1 (N : Nat) (v_3 : Int) (s_1 : (List api_Span)) (f_2 : api_Span → Option Bool) : Int → Option ((Int) ⊕ ((Int) ⊕ (Unit)))
  | v_6 =>
    if icmpR .lss v_6 v_3 then
      (getO d_api_Span s_1 v_6).bind fun x_10 =>
      (f_2 x_10).bind fun v_11 =>
      if v_11 then
        some (.inr (.inl v_6))
      else
        some (.inl (iopR .add .i64 v_6 1))
    else
      some (.inr (.inr ()))
def m_slices_IndexFunc_Lapi_Span_api_Span (N : Nat) (s_1 : (List api_Span)) (f_2 : api_Span → Option Bool) : Option (Int) :=
  letO (((s_1.length : Nat) : Int) : Int) fun v_3 =>
  (loopO (m_slices_IndexFunc_Lapi_Span_api_Span_L1 N v_3 s_1 f_2) N 0).bind fun q => match q with
  | (.inl v_9) =>
    some v_9
  | (.inr ()) =>
    some (-1)
theorem w_slices_IndexFunc_Lapi_Span_api_Span (N : Nat) (s_1 : (List api_Span)) (f_2 : api_Span → Option Bool) (kf_2 : Nat) (dsf_2 : List D) (hdf_2 : noAggD dsf_2 = true) (hpf_2 : ∀ x0 r, f_2 x0 = some r → KD Try.prog kf_2 [.agg [.int .i64 x0.Low, .int .i64 x0.High]] dsf_2 (.bool r)) (o : Int) (h : m_slices_IndexFunc_Lapi_Span_api_Span N s_1 f_2 = some o) :
    KC Try.prog 59 [sl_api_Span false s_1, .d (.fn kf_2 dsf_2)] (.int .i64 o) [] := by
  unfold m_slices_IndexFunc_Lapi_Span_api_Span at h
  refine con_l [] [] seat Try.func59 rfl ent_59 (by kernel_rfl) rfl rfl (by simp) ?_; intro base I hI; (conv => cbv)
  replace h := letO_of h; obtain ⟨v_3, hev_3, h⟩ := h
  refine L_loop hI seat [] (by kernel_rfl) h (fun q => match q with | v_6 => ⟨19, [(0, sl_api_Span false s_1), (1, .d (.fn kf_2 dsf_2)), (7, .int .i64 v_3), (8, .int .i64 v_6)], [], [], 0⟩) (fun q => match q with | (.inl v_9) => .ret | (.inr ()) => .exit 0) (fun q => match q with | (.inl v_9) => ⟨19, [(4, .int .i64 v_9)], [], [], 0⟩ | (.inr ()) => ⟨19, [], [], [], 0⟩) (by subst_vars; exact weak_l rfl rfl ⟨LV_sl, lR, lE, lE, trivial⟩ trivial trivial) (by intro q; rcases q with (v_9 | _) <;> (intro e; exact Exit.noConfusion e)) ?_ ?_; all_goals clear h
  · intro v_6 x h R hR hX
    rw [m_slices_IndexFunc_Lapi_Span_api_Span_L1] at h
    (conv => cbv)
    refine L_tst hI h (by subst_vars; rfl) ?_ ?_ <;> clear h <;> intro h
    · refine L_get hI h (fun g => by subst_vars; exact g) ?_; clear h; intro hc x_10 hxx_10 h
      refine K_conj hI (by subst_vars; exact hdf_2) ?_
      refine L_callD hI h (args' := [.agg [.int .i64 x_10.Low, .int .i64 x_10.High]]) (fun v hv => hpf_2 x_10 v hv) (by subst_vars; rfl) ?_; clear h; intro v_11 h; (conv => cbv)
      refine L_tst hI h (by subst_vars; rfl) ?_ ?_ <;> clear h <;> intro h
      · exact hX _ _ (Option.some.inj h).symm (by subst_vars; exact weak_l rfl rfl ⟨lE, trivial⟩ trivial trivial)
      · exact hR _ _ (Option.some.inj h).symm (by subst_vars; exact weak_l rfl rfl ⟨LV_sl, lR, lE, lE, trivial⟩ trivial trivial)
    · exact hX _ _ (Option.some.inj h).symm (by subst_vars; exact weak_l rfl rfl trivial trivial trivial)
  · intro q h
    rcases q with (v_9 | _)
    · (conv => cbv)
      cases h
      subst_vars
      exact ⟨lE, rfl⟩
    · (conv => cbv)
      cases h
      subst_vars
      exact ⟨lE, rfl⟩
def m_slices_ContainsFunc_Lapi_Span_api_Span (N : Nat) (s_1 : (List api_Span)) (f_2 : api_Span → Option Bool) : Option (Bool) :=
  (m_slices_IndexFunc_Lapi_Span_api_Span N s_1 f_2).bind fun r_3 =>
  some (icmpR .geq r_3 0)
theorem w_slices_ContainsFunc_Lapi_Span_api_Span (N : Nat) (s_1 : (List api_Span)) (f_2 : api_Span → Option Bool) (kf_2 : Nat) (dsf_2 : List D) (hdf_2 : noAggD dsf_2 = true) (hpf_2 : ∀ x0 r, f_2 x0 = some r → KD Try.prog kf_2 [.agg [.int .i64 x0.Low, .int .i64 x0.High]] dsf_2 (.bool r)) (o : Bool) (h : m_slices_ContainsFunc_Lapi_Span_api_Span N s_1 f_2 = some o) :
    KC Try.prog 44 [sl_api_Span false s_1, .d (.fn kf_2 dsf_2)] (.bool o) [] := by
  unfold m_slices_ContainsFunc_Lapi_Span_api_Span at h
  refine con_l [] [] seat Try.func44 rfl ent_44 (by kernel_rfl) rfl rfl (by simp) ?_; intro base I hI; (conv => cbv)
  refine L_call hI h (fun v hv => w_slices_IndexFunc_Lapi_Span_api_Span N s_1 f_2 kf_2 dsf_2 hdf_2 hpf_2 v hv) (by subst_vars; exact ⟨(leD_refl _), (leD_refl _), rfl⟩) ?_; clear h; intro r_3 h; (conv => cbv)
  cases h
  subst_vars
  exact ⟨lE, rfl⟩
def m_stream_Check_1 (N : Nat) (s_1 : api_Span) : Option (Bool) :=
  (m_stream_isSpan N s_1 0 500).bind fun r_2 =>
  some (!r_2)
theorem w_stream_Check_1 (N : Nat) (s_1 : api_Span) (o : Bool) (h : m_stream_Check_1 N s_1 = some o) :
    KC Try.prog 72 [.agg [.int .i64 s_1.Low, .int .i64 s_1.High]] (.bool o) [] := by
  unfold m_stream_Check_1 at h
  refine con_l [] [] seat Try.func72 rfl ent_72 (by kernel_rfl) rfl rfl (by simp) ?_; intro base I hI; (conv => cbv)
  refine L_call hI h (fun v hv => w_stream_isSpan N s_1 0 500 v hv) (by subst_vars; exact ⟨(leD_refl _), (leD_refl _), (leD_refl _), rfl⟩) ?_; clear h; intro r_2 h; (conv => cbv)
  cases h
  subst_vars
  exact ⟨lE, rfl⟩
def m_stream_Check (N : Nat) (m_1 : api_StreamMill) (flows_2 : (List api_Span)) : Option (Int) :=
  (m_stream_checkMill N m_1).bind fun r_3 =>
  if icmpR .neq r_3 0 then
    some r_3
  else
    if icmpR .gtr ((flows_2.length : Nat) : Int) 24 then
      some 5
    else
      if icmpR .eql ((flows_2.length : Nat) : Int) 0 then
        some 7
      else
        (m_slices_ContainsFunc_Lapi_Span_api_Span N flows_2 (fun x0 => m_stream_Check_1 N x0)).bind fun r_4 =>
        if r_4 then
          some 3
        else
          some 0
theorem w_stream_Check (N : Nat) (m_1 : api_StreamMill) (flows_2 : (List api_Span)) (o : Int) (h : m_stream_Check N m_1 flows_2 = some o) :
    KC Try.prog 55 [.agg [.int .i64 m_1.Hammers, .int .i64 m_1.Takes, .int .i64 m_1.Blows.Low, .int .i64 m_1.Blows.High, .int .i64 m_1.Holds, .int .i64 m_1.Now.Low, .int .i64 m_1.Now.High], sl_api_Span false flows_2] (.int .i64 o) [] := by
  unfold m_stream_Check at h
  refine con_l [] [] seat Try.func55 rfl ent_55 (by kernel_rfl) rfl rfl (by simp) ?_; intro base I hI; (conv => cbv)
  refine L_call hI h (fun v hv => w_stream_checkMill N m_1 v hv) (by subst_vars; exact ⟨(leD_refl _), rfl⟩) ?_; clear h; intro r_3 h; (conv => cbv)
  refine L_tst hI h (by subst_vars; rfl) ?_ ?_ <;> clear h <;> intro h
  · cases h
    subst_vars
    exact ⟨lE, rfl⟩
  · refine L_tst hI h (by subst_vars; rfl) ?_ ?_ <;> clear h <;> intro h
    · cases h
      subst_vars
      exact ⟨lE, rfl⟩
    · refine L_tst hI h (by subst_vars; rfl) ?_ ?_ <;> clear h <;> intro h
      · cases h
        subst_vars
        exact ⟨lE, rfl⟩
      · refine L_call hI h (fun v hv => w_slices_ContainsFunc_Lapi_Span_api_Span N flows_2 (fun x0 => m_stream_Check_1 N x0) 72 (KV.toDL []) rfl (fun x0 r hr => KD_of (caps := []) (w_stream_Check_1 N x0 r hr)) v hv) (by subst_vars; exact ⟨(leD_refl _), (leD_refl _), rfl⟩) ?_; clear h; intro r_4 h; (conv => cbv)
        refine L_tst hI h (by subst_vars; rfl) ?_ ?_ <;> clear h <;> intro h
        · cases h
          subst_vars
          exact ⟨lE, rfl⟩
        · cases h
          subst_vars
          exact ⟨lE, rfl⟩
def m_stream_open (N : Nat) (m_1 : api_StreamMill) (flows_2 : (List api_Span)) : Option (stream_valley × Int) :=
  (m_stream_Check N m_1 flows_2).bind fun r_3 =>
  some ((stream_valley.mk m_1 flows_2), r_3)
theorem w_stream_open (N : Nat) (m_1 : api_StreamMill) (flows_2 : (List api_Span)) (o : stream_valley × Int) (h : m_stream_open N m_1 flows_2 = some o) :
    KC Try.prog 27 [.agg [.int .i64 m_1.Hammers, .int .i64 m_1.Takes, .int .i64 m_1.Blows.Low, .int .i64 m_1.Blows.High, .int .i64 m_1.Holds, .int .i64 m_1.Now.Low, .int .i64 m_1.Now.High], sl_api_Span false flows_2] (.tup [.agg [.int .i64 o.1.StreamMill.Hammers, .int .i64 o.1.StreamMill.Takes, .int .i64 o.1.StreamMill.Blows.Low, .int .i64 o.1.StreamMill.Blows.High, .int .i64 o.1.StreamMill.Holds, .int .i64 o.1.StreamMill.Now.Low, .int .i64 o.1.StreamMill.Now.High, sl_api_Span false o.1.flows], .int .i64 o.2]) [] := by
  unfold m_stream_open at h
  refine con_l [] [4000001] seat Try.func27 rfl ent_27 (by kernel_rfl) rfl rfl (by simp) ?_; intro base I hI; (conv => cbv)
  refine L_call hI h (fun v hv => w_stream_Check N m_1 flows_2 v hv) (by subst_vars; exact ⟨(leD_refl _), (leD_refl _), rfl⟩) ?_; clear h; intro r_3 h; (conv => cbv)
  cases h
  subst_vars
  exact ⟨(LV_tup ⟨(LV_agg ⟨lE, lE, lE, lE, lE, lE, lE, LV_sl, rfl⟩), lE, rfl⟩), rfl⟩
def m_stream_valley_tides (N : Nat) (p_1 : stream_valley) (plan_2 : (List Int)) (of_3 : api_Span → Option Int) : Option ((stream_valley × (List Int))) :=
  some (p_1, plan_2)
theorem w_stream_valley_tides (N : Nat) (p_1 : stream_valley) (plan_2 : (List Int)) (of_3 : api_Span → Option Int) (kof_3 : Nat) (dsof_3 : List D) (hdof_3 : noAggD dsof_3 = true) (hpof_3 : ∀ x0 r, of_3 x0 = some r → KD Try.prog kof_3 [.agg [.int .i64 x0.Low, .int .i64 x0.High]] dsof_3 (.int .i64 r)) (o : (stream_valley × (List Int))) (h : m_stream_valley_tides N p_1 plan_2 of_3 = some o) :
    KC Try.prog 39 [.agg [.int .i64 p_1.StreamMill.Hammers, .int .i64 p_1.StreamMill.Takes, .int .i64 p_1.StreamMill.Blows.Low, .int .i64 p_1.StreamMill.Blows.High, .int .i64 p_1.StreamMill.Holds, .int .i64 p_1.StreamMill.Now.Low, .int .i64 p_1.StreamMill.Now.High, sl_api_Span false p_1.flows], sl_int false plan_2, .d (.fn kof_3 dsof_3)] (.dfn 57 [.ptr [.d (.fn kof_3 dsof_3)], .ptr [.int .i64 o.1.StreamMill.Hammers, .int .i64 o.1.StreamMill.Takes, .int .i64 o.1.StreamMill.Blows.Low, .int .i64 o.1.StreamMill.Blows.High, .int .i64 o.1.StreamMill.Holds, .int .i64 o.1.StreamMill.Now.Low, .int .i64 o.1.StreamMill.Now.High, sl_api_Span false o.1.flows], .ptr [sl_int false o.2]]) [] := by
  unfold m_stream_valley_tides at h
  refine con_l [] [] seat Try.func39 rfl ent_39 (by kernel_rfl) rfl rfl (by simp) ?_; intro base I hI; (conv => cbv)
  cases h
  subst_vars
  exact ⟨lE, rfl⟩
def m_stream_valley_tides_1_L1 (N : Nat) (v_5 : Int) (p_3 : (List Int)) (p_2 : stream_valley) (p_1 : api_Span → Option Int) : (Int × Int) → Option (List ((Int × stream_tide)) × ((Int × Int) ⊕ ((Unit) ⊕ (Unit))))
  | (water_9, v_10) =>
    if icmpR .lss v_10 v_5 then
      (getO 0 p_3 v_10).bind fun x_14 =>
      (getO d_api_Span p_2.flows v_10).bind fun x_15 =>
      (p_1 x_15).bind fun v_16 =>
      yieldO (v_10, (stream_tide.mk (min p_2.StreamMill.Holds (iopR .add .i64 water_9 v_16)) (iopR .sub .i64 (min p_2.StreamMill.Holds (iopR .add .i64 water_9 v_16)) (iopR .mul .i64 x_14 p_2.StreamMill.Takes)))) (
        if icmpR .lss (iopR .sub .i64 (min p_2.StreamMill.Holds (iopR .add .i64 water_9 v_16)) (iopR .mul .i64 x_14 p_2.StreamMill.Takes)) 0 then
          some ([], .inr (.inl ()))
        else
          some ([], .inl (iopR .sub .i64 (min p_2.StreamMill.Holds (iopR .add .i64 water_9 v_16)) (iopR .mul .i64 x_14 p_2.StreamMill.Takes), iopR .add .i64 v_10 1)))
    else
      some ([], .inr (.inr ()))
def m_stream_valley_tides_1 (N : Nat) (p_1 : api_Span → Option Int) (p_2 : stream_valley) (p_3 : (List Int)) : Option (List (Int × stream_tide) × Unit) :=
  (p_1 p_2.StreamMill.Now).bind fun v_4 =>
  letO (((p_3.length : Nat) : Int) : Int) fun v_5 =>
  thenY (loopY (m_stream_valley_tides_1_L1 N v_5 p_3 p_2 p_1) N (v_4, 0)) fun q => match q with
  | (.inl ()) =>
    some ([], ())
  | (.inr ()) =>
    some ([], ())
def m_it_stream_valley_tides_1 (N : Nat) (p_1 : api_Span → Option Int) (p_2 : stream_valley) (p_3 : (List Int)) : Option (List (Int × stream_tide)) := (m_stream_valley_tides_1 N p_1 p_2 p_3).bind fun q => some q.1
theorem i_stream_valley_tides_1 (N : Nat) (p_1 : api_Span → Option Int) (kp_1 : Nat) (dsp_1 : List D) (hdp_1 : noAggD dsp_1 = true) (hpp_1 : ∀ x0 r, p_1 x0 = some r → KD Try.prog kp_1 [.agg [.int .i64 x0.Low, .int .i64 x0.High]] dsp_1 (.int .i64 r)) (p_2 : stream_valley) (p_3 : (List Int)) (o : List (Int × stream_tide)) (h : m_it_stream_valley_tides_1 N p_1 p_2 p_3 = some o) :
    IterCon Try.prog 57 (KV.toDL [.ptr [.d (.fn kp_1 dsp_1)], .ptr [.int .i64 p_2.StreamMill.Hammers, .int .i64 p_2.StreamMill.Takes, .int .i64 p_2.StreamMill.Blows.Low, .int .i64 p_2.StreamMill.Blows.High, .int .i64 p_2.StreamMill.Holds, .int .i64 p_2.StreamMill.Now.Low, .int .i64 p_2.StreamMill.Now.High, sl_api_Span false p_2.flows], .ptr [sl_int false p_3]]) ((o.map fun (y : (Int × stream_tide)) => [.int .i64 y.1, .agg [.int .i64 y.2.full, .int .i64 y.2.left]]).map KV.toDL) := by
  unfold m_it_stream_valley_tides_1 at h
  have h1 := bind_of h; clear h
  obtain ⟨⟨zs, u⟩, h, e⟩ := h1
  cases e
  unfold m_stream_valley_tides_1 at h
  refine iter_l (en := fun (y : (Int × stream_tide)) => [.int .i64 y.1, .agg [.int .i64 y.2.full, .int .i64 y.2.left]]) [] seat Try.func57 rfl ent_57 (by kernel_rfl) rfl rfl rfl ?_; intro E Inv Fin hTk base s hy I hI; (conv => cbv)
  refine K_conj hI (by subst_vars; exact hdp_1) ?_
  refine L_callD hI h (args' := [.agg [.int .i64 p_2.StreamMill.Now.Low, .int .i64 p_2.StreamMill.Now.High]]) (fun v hv => hpp_1 p_2.StreamMill.Now v hv) (by subst_vars; rfl) ?_; clear h; intro v_4 h; (conv => cbv)
  replace h := letO_of h; obtain ⟨v_5, hev_5, h⟩ := h
  refine L_loopY (Fin := Fin) hI seat [] (by kernel_rfl) h hy (fun q => match q with | (water_9, v_10) => ⟨53, [(0, .yld), (1, .ptr [.d (.fn kp_1 dsp_1)]), (2, .ptr [.int .i64 p_2.StreamMill.Hammers, .int .i64 p_2.StreamMill.Takes, .int .i64 p_2.StreamMill.Blows.Low, .int .i64 p_2.StreamMill.Blows.High, .int .i64 p_2.StreamMill.Holds, .int .i64 p_2.StreamMill.Now.Low, .int .i64 p_2.StreamMill.Now.High, sl_api_Span false p_2.flows]), (5, .int .i64 water_9), (14, sl_int false p_3), (15, .int .i64 v_5), (16, .int .i64 v_10)], [], [], 0⟩) (fun q => match q with | (.inl ()) => .ret | (.inr ()) => .exit 0) (fun q => match q with | (.inl ()) => ⟨53, [], [], [], 0⟩ | (.inr ()) => ⟨53, [], [], [], 0⟩) (.ret) (by subst_vars; exact weak_l rfl rfl ⟨lR, lE, lE, lE, LV_sl, lE, lE, trivial⟩ trivial trivial) (by intro q; rcases q with (_ | _) <;> (intro e; exact Exit.noConfusion e)) (by intro e; exact Exit.noConfusion e) ?_ ?_ ?_; all_goals clear h hy
  · intro q x zs ps s h hy R hR hX hF
    obtain ⟨water_9, v_10⟩ := q
    rw [m_stream_valley_tides_1_L1] at h
    (conv => cbv)
    refine L_tst hI h (by subst_vars; rfl) ?_ ?_ <;> clear h <;> intro h
    · refine L_get hI h (fun g => by subst_vars; exact g) ?_; clear h; intro hc x_14 hxx_14 h
      refine L_get hI h (fun g => by subst_vars; exact g) ?_; clear h; intro hc x_15 hxx_15 h
      refine K_conj hI (by subst_vars; exact hdp_1) ?_
      refine L_callD hI h (args' := [.agg [.int .i64 x_15.Low, .int .i64 x_15.High]]) (fun v hv => hpp_1 x_15 v hv) (by subst_vars; rfl) ?_; clear h; intro v_16 h; (conv => cbv)
      refine L_yield hI hTk (y := (v_10, (stream_tide.mk (min p_2.StreamMill.Holds (iopR .add .i64 water_9 v_16)) (iopR .sub .i64 (min p_2.StreamMill.Holds (iopR .add .i64 water_9 v_16)) (iopR .mul .i64 x_14 p_2.StreamMill.Takes))))) h hy (by subst_vars; rfl) ?_ ?_ <;> clear h hy
      · intro zs s h hy
        (conv => cbv)
        refine K_tst hI (fun hq => by first | (rw [hI] at hq; cases hq; done) | cases hq) (fun _ => ?_)
        refine L_tst hI h (by subst_vars; rfl) ?_ ?_ <;> clear h <;> intro h
        · obtain ⟨rfl, rfl⟩ := L_leafY h; exact hX _ _ _ rfl hy (by subst_vars; exact weak_l rfl rfl trivial trivial trivial)
        · obtain ⟨rfl, rfl⟩ := L_leafY h; exact hR _ _ _ rfl hy (by subst_vars; exact weak_l rfl rfl ⟨lR, lE, lE, lE, LV_sl, lE, lE, trivial⟩ trivial trivial)
      · intro s hfin
        (conv => cbv)
        refine K_tst hI (fun _ => ?_) (fun hq => by first | (rw [hI] at hq; cases hq; done) | cases hq)
        exact hF _ _ hfin
    · obtain ⟨rfl, rfl⟩ := L_leafY h; exact hX _ _ _ rfl hy (by subst_vars; exact weak_l rfl rfl trivial trivial trivial)
  · intro q zs s h hy
    rcases q with (_ | _)
    · (conv => cbv)
      exact Y_end hTk h hy
    · (conv => cbv)
      exact Y_end hTk h hy
  · intro S1 s hfin
    (conv => cbv)
    exact hfin
def m_stream_valley_dry_L1 (N : Nat) : (Int × stream_tide) → Unit → Option ((Unit) ⊕ (Int))
  | y_6, () =>
    if icmpR .lss y_6.2.left 0 then
      some (.inr y_6.1)
    else
      some (.inl ())
def m_stream_valley_dry (N : Nat) (p_1 : stream_valley) (plan_2 : (List Int)) (of_3 : api_Span → Option Int) : Option (Int) :=
  (m_stream_valley_tides N p_1 plan_2 of_3).bind fun r_4 =>
  (m_it_stream_valley_tides_1 N of_3 r_4.1 r_4.2).bind fun ys_5 =>
  (rangeO (m_stream_valley_dry_L1 N) ys_5 ()).bind fun q => match q with
  | .inl () =>
    some (-1)
  | .inr v_7 =>
    some v_7
theorem w_stream_valley_dry (N : Nat) (p_1 : stream_valley) (plan_2 : (List Int)) (of_3 : api_Span → Option Int) (kof_3 : Nat) (dsof_3 : List D) (hdof_3 : noAggD dsof_3 = true) (hpof_3 : ∀ x0 r, of_3 x0 = some r → KD Try.prog kof_3 [.agg [.int .i64 x0.Low, .int .i64 x0.High]] dsof_3 (.int .i64 r)) (o : Int) (h : m_stream_valley_dry N p_1 plan_2 of_3 = some o) :
    KC Try.prog 37 [.agg [.int .i64 p_1.StreamMill.Hammers, .int .i64 p_1.StreamMill.Takes, .int .i64 p_1.StreamMill.Blows.Low, .int .i64 p_1.StreamMill.Blows.High, .int .i64 p_1.StreamMill.Holds, .int .i64 p_1.StreamMill.Now.Low, .int .i64 p_1.StreamMill.Now.High, sl_api_Span false p_1.flows], sl_int false plan_2, .d (.fn kof_3 dsof_3)] (.int .i64 o) [] := by
  unfold m_stream_valley_dry at h
  refine con_l [] [] seat Try.func37 rfl ent_37 (by kernel_rfl) rfl rfl (by simp) ?_; intro base I hI; (conv => cbv)
  refine L_call hI h (fun v hv => w_stream_valley_tides N p_1 plan_2 of_3 kof_3 dsof_3 hdof_3 hpof_3 v hv) (by subst_vars; exact ⟨(leD_refl _), (leD_refl _), (leD_refl _), rfl⟩) ?_; clear h; intro r_4 h; (conv => cbv)
  replace h := bind_of h; obtain ⟨ys_5, hyys_5, h⟩ := h
  refine W_weak hI (S' := ⟨19, [(6, .loc 1 0), (12, .dfn 57 [.ptr [.d (.fn kof_3 dsof_3)], .ptr [.int .i64 r_4.1.StreamMill.Hammers, .int .i64 r_4.1.StreamMill.Takes, .int .i64 r_4.1.StreamMill.Blows.Low, .int .i64 r_4.1.StreamMill.Blows.High, .int .i64 r_4.1.StreamMill.Holds, .int .i64 r_4.1.StreamMill.Now.Low, .int .i64 r_4.1.StreamMill.Now.High, sl_api_Span false r_4.1.flows], .ptr [sl_int false r_4.2]])], [(1, ⟨3, [.lit .i64 0], true⟩)], [], 0⟩) (by subst_vars; exact weak_l rfl rfl ⟨lR, lE, trivial⟩ ⟨lB ⟨lE, rfl⟩, trivial⟩ trivial) ?_
  refine L_range hI seat [] (by kernel_rfl) (ys := ys_5) (kY := fun y_6 => [.int .i64 y_6.1, .agg [.int .i64 y_6.2.full, .int .i64 y_6.2.left]]) ((i_stream_valley_tides_1 N of_3 kof_3 dsof_3 hdof_3 hpof_3 r_4.1 r_4.2 ys_5 hyys_5)) rfl h (fun q => match q with | () => ([(1, ⟨3, [.lit .i64 0], true⟩)], [])) (fun q => match q with | v_7 => .ret) (fun q => match q with | v_7 => ([(1, ⟨3, [.int .i64 v_7], true⟩)], [])) rfl (fun _ => ⟨rfl, rfl⟩) 2 rfl (by subst_vars; exact ⟨lB ⟨lE, rfl⟩, trivial⟩) (by subst_vars; exact trivial) (by intro q; rcases q with v_7 <;> (intro e; exact Exit.noConfusion e)) (by intro q; rcases q with v_7 <;> (intro _ e; exact Exit.noConfusion e)) (by intro q; rcases q with v_7 <;> (intro e; exact Exit.noConfusion e)) ?_ ?_ ?_; all_goals clear h
  · intro y_6 q x h l I hI R hR hX
    obtain ⟨⟩ := q
    rw [m_stream_valley_dry_L1] at h
    (conv => cbv)
    refine L_tst hI h (by subst_vars; rfl) ?_ ?_ <;> clear h <;> intro h
    · exact hX _ _ (Option.some.inj h).symm (by subst_vars; exact ⟨lB ⟨lE, rfl⟩, trivial⟩) (by subst_vars; exact trivial)
    · exact hR _ _ (Option.some.inj h).symm (by subst_vars; exact ⟨lB ⟨lE, rfl⟩, trivial⟩) (by subst_vars; exact trivial)
  · intro q h
    obtain ⟨⟩ := q
    (conv => cbv)
    cases h
    subst_vars
    exact ⟨lE, rfl⟩
  · intro v_7 h
    (conv => cbv)
    cases h
    subst_vars
    exact ⟨lE, rfl⟩
def m_stream_low (N : Nat) (s_1 : api_Span) : Option (Int) :=
  some s_1.Low
theorem w_stream_low (N : Nat) (s_1 : api_Span) (o : Int) (h : m_stream_low N s_1 = some o) :
    KC Try.prog 34 [.agg [.int .i64 s_1.Low, .int .i64 s_1.High]] (.int .i64 o) [] := by
  unfold m_stream_low at h
  refine con_l [] [] seat Try.func34 rfl ent_34 (by kernel_rfl) rfl rfl (by simp) ?_; intro base I hI; (conv => cbv)
  cases h
  subst_vars
  exact ⟨lE, rfl⟩
def m_stream_high (N : Nat) (s_1 : api_Span) : Option (Int) :=
  some s_1.High
theorem w_stream_high (N : Nat) (s_1 : api_Span) (o : Int) (h : m_stream_high N s_1 = some o) :
    KC Try.prog 35 [.agg [.int .i64 s_1.Low, .int .i64 s_1.High]] (.int .i64 o) [] := by
  unfold m_stream_high at h
  refine con_l [] [] seat Try.func35 rfl ent_35 (by kernel_rfl) rfl rfl (by simp) ?_; intro base I hI; (conv => cbv)
  cases h
  subst_vars
  exact ⟨lE, rfl⟩
def m_top_firCloth (N : Nat) (c_1 : api_Cloth) : Option (api_Cloth) :=
  if fitsN (c_1.Tracks.length) 32 then
    if fitsN (c_1.Measures.length) 32 then
      some c_1
    else none
  else none
theorem w_top_firCloth (N : Nat) (c_1 : api_Cloth) (o : api_Cloth) (h : m_top_firCloth N c_1 = some o) :
    KC Try.prog 9 [.agg [sl_api_ClothTrack false c_1.Tracks, sl_api_ClothMeasure false c_1.Measures]] (.agg [sl_api_ClothTrack false o.Tracks, sl_api_ClothMeasure false o.Measures]) [] := by
  unfold m_top_firCloth at h
  refine con_l [] [] seat Try.func9 rfl ent_9 (by kernel_rfl) rfl rfl (by simp) ?_; intro base I hI; (conv => cbv)
  refine L_conj hI h (fun g => by subst_vars; exact g) ?_; clear h; intro hc h
  refine L_conj hI h (fun g => by subst_vars; exact g) ?_; clear h; intro hc h
  cases h
  subst_vars
  exact ⟨(LV_agg ⟨LV_sl, LV_sl, rfl⟩), rfl⟩
def m_slices_IndexFunc_Lapi_ClothTrack_api_ClothTrack_L1 (N : Nat) (v_3 : Int) (s_1 : (List api_ClothTrack)) (f_2 : api_ClothTrack → Option Bool) : Int → Option ((Int) ⊕ ((Int) ⊕ (Unit)))
  | v_6 =>
    if icmpR .lss v_6 v_3 then
      (getO d_api_ClothTrack s_1 v_6).bind fun x_10 =>
      (f_2 x_10).bind fun v_11 =>
      if v_11 then
        some (.inr (.inl v_6))
      else
        some (.inl (iopR .add .i64 v_6 1))
    else
      some (.inr (.inr ()))
def m_slices_IndexFunc_Lapi_ClothTrack_api_ClothTrack (N : Nat) (s_1 : (List api_ClothTrack)) (f_2 : api_ClothTrack → Option Bool) : Option (Int) :=
  letO (((s_1.length : Nat) : Int) : Int) fun v_3 =>
  (loopO (m_slices_IndexFunc_Lapi_ClothTrack_api_ClothTrack_L1 N v_3 s_1 f_2) N 0).bind fun q => match q with
  | (.inl v_9) =>
    some v_9
  | (.inr ()) =>
    some (-1)
theorem w_slices_IndexFunc_Lapi_ClothTrack_api_ClothTrack (N : Nat) (s_1 : (List api_ClothTrack)) (f_2 : api_ClothTrack → Option Bool) (kf_2 : Nat) (dsf_2 : List D) (hdf_2 : noAggD dsf_2 = true) (hpf_2 : ∀ x0 r, f_2 x0 = some r → KD Try.prog kf_2 [.agg [.int .i64 x0.First.Low, .int .i64 x0.First.High, .int .i64 x0.Rate.Low, .int .i64 x0.Rate.High]] dsf_2 (.bool r)) (o : Int) (h : m_slices_IndexFunc_Lapi_ClothTrack_api_ClothTrack N s_1 f_2 = some o) :
    KC Try.prog 74 [sl_api_ClothTrack false s_1, .d (.fn kf_2 dsf_2)] (.int .i64 o) [] := by
  unfold m_slices_IndexFunc_Lapi_ClothTrack_api_ClothTrack at h
  refine con_l [] [] seat Try.func74 rfl ent_74 (by kernel_rfl) rfl rfl (by simp) ?_; intro base I hI; (conv => cbv)
  replace h := letO_of h; obtain ⟨v_3, hev_3, h⟩ := h
  refine L_loop hI seat [] (by kernel_rfl) h (fun q => match q with | v_6 => ⟨19, [(0, sl_api_ClothTrack false s_1), (1, .d (.fn kf_2 dsf_2)), (7, .int .i64 v_3), (8, .int .i64 v_6)], [], [], 0⟩) (fun q => match q with | (.inl v_9) => .ret | (.inr ()) => .exit 0) (fun q => match q with | (.inl v_9) => ⟨19, [(4, .int .i64 v_9)], [], [], 0⟩ | (.inr ()) => ⟨19, [], [], [], 0⟩) (by subst_vars; exact weak_l rfl rfl ⟨LV_sl, lR, lE, lE, trivial⟩ trivial trivial) (by intro q; rcases q with (v_9 | _) <;> (intro e; exact Exit.noConfusion e)) ?_ ?_; all_goals clear h
  · intro v_6 x h R hR hX
    rw [m_slices_IndexFunc_Lapi_ClothTrack_api_ClothTrack_L1] at h
    (conv => cbv)
    refine L_tst hI h (by subst_vars; rfl) ?_ ?_ <;> clear h <;> intro h
    · refine L_get hI h (fun g => by subst_vars; exact g) ?_; clear h; intro hc x_10 hxx_10 h
      refine K_conj hI (by subst_vars; exact hdf_2) ?_
      refine L_callD hI h (args' := [.agg [.int .i64 x_10.First.Low, .int .i64 x_10.First.High, .int .i64 x_10.Rate.Low, .int .i64 x_10.Rate.High]]) (fun v hv => hpf_2 x_10 v hv) (by subst_vars; rfl) ?_; clear h; intro v_11 h; (conv => cbv)
      refine L_tst hI h (by subst_vars; rfl) ?_ ?_ <;> clear h <;> intro h
      · exact hX _ _ (Option.some.inj h).symm (by subst_vars; exact weak_l rfl rfl ⟨lE, trivial⟩ trivial trivial)
      · exact hR _ _ (Option.some.inj h).symm (by subst_vars; exact weak_l rfl rfl ⟨LV_sl, lR, lE, lE, trivial⟩ trivial trivial)
    · exact hX _ _ (Option.some.inj h).symm (by subst_vars; exact weak_l rfl rfl trivial trivial trivial)
  · intro q h
    rcases q with (v_9 | _)
    · (conv => cbv)
      cases h
      subst_vars
      exact ⟨lE, rfl⟩
    · (conv => cbv)
      cases h
      subst_vars
      exact ⟨lE, rfl⟩
def m_slices_ContainsFunc_Lapi_ClothTrack_api_ClothTrack (N : Nat) (s_1 : (List api_ClothTrack)) (f_2 : api_ClothTrack → Option Bool) : Option (Bool) :=
  (m_slices_IndexFunc_Lapi_ClothTrack_api_ClothTrack N s_1 f_2).bind fun r_3 =>
  some (icmpR .geq r_3 0)
theorem w_slices_ContainsFunc_Lapi_ClothTrack_api_ClothTrack (N : Nat) (s_1 : (List api_ClothTrack)) (f_2 : api_ClothTrack → Option Bool) (kf_2 : Nat) (dsf_2 : List D) (hdf_2 : noAggD dsf_2 = true) (hpf_2 : ∀ x0 r, f_2 x0 = some r → KD Try.prog kf_2 [.agg [.int .i64 x0.First.Low, .int .i64 x0.First.High, .int .i64 x0.Rate.Low, .int .i64 x0.Rate.High]] dsf_2 (.bool r)) (o : Bool) (h : m_slices_ContainsFunc_Lapi_ClothTrack_api_ClothTrack N s_1 f_2 = some o) :
    KC Try.prog 61 [sl_api_ClothTrack false s_1, .d (.fn kf_2 dsf_2)] (.bool o) [] := by
  unfold m_slices_ContainsFunc_Lapi_ClothTrack_api_ClothTrack at h
  refine con_l [] [] seat Try.func61 rfl ent_61 (by kernel_rfl) rfl rfl (by simp) ?_; intro base I hI; (conv => cbv)
  refine L_call hI h (fun v hv => w_slices_IndexFunc_Lapi_ClothTrack_api_ClothTrack N s_1 f_2 kf_2 dsf_2 hdf_2 hpf_2 v hv) (by subst_vars; exact ⟨(leD_refl _), (leD_refl _), rfl⟩) ?_; clear h; intro r_3 h; (conv => cbv)
  cases h
  subst_vars
  exact ⟨lE, rfl⟩
def m_cloth_within_1 (N : Nat) (n_1 : Int) (p_2 : Int) (p_3 : Int) : Option (Bool) :=
  (show Option (Bool) from
    if icmpR .lss n_1 p_2 then
      some true
    else
      some (icmpR .gtr n_1 p_3)).bind fun q => match q with
  | v_4 =>
    some v_4
theorem w_cloth_within_1 (N : Nat) (n_1 : Int) (p_2 : Int) (p_3 : Int) (o : Bool) (h : m_cloth_within_1 N n_1 p_2 p_3 = some o) :
    KC Try.prog 51 [.int .i64 n_1, .ptr [.int .i64 p_2], .ptr [.int .i64 p_3]] (.bool o) [] := by
  unfold m_cloth_within_1 at h
  refine con_l [] [1000001] seat Try.func51 rfl ent_51 (by kernel_rfl) rfl rfl (by simp) ?_; intro base I hI; (conv => cbv)
  refine L_cut hI seat [] (by kernel_rfl) h (fun q => match q with | v_4 => .normal) (fun q => match q with | v_4 => ⟨13, [(4, .bool v_4)], [], [], 0⟩) ?_ ?_; all_goals clear h
  · intro x h R hR
    (conv => cbv)
    refine L_tst hI h (by subst_vars; rfl) ?_ ?_ <;> clear h <;> intro h
    · exact hR _ _ (Option.some.inj h).symm (by subst_vars; exact weak_l rfl rfl ⟨lE, trivial⟩ trivial trivial)
    · exact hR _ _ (Option.some.inj h).symm (by subst_vars; exact weak_l rfl rfl ⟨lE, trivial⟩ trivial trivial)
  · intro v_4 h
    (conv => cbv)
    cases h
    subst_vars
    exact ⟨lE, rfl⟩
def m_cloth_within (N : Nat) (least_1 : Int) (most_2 : Int) (l_3 : (List Int)) : Option (Bool) :=
  (m_slices_ContainsFunc_Lint_int N l_3 (fun x0 => m_cloth_within_1 N x0 least_1 most_2)).bind fun r_4 =>
  some (!r_4)
theorem w_cloth_within (N : Nat) (least_1 : Int) (most_2 : Int) (l_3 : (List Int)) (o : Bool) (h : m_cloth_within N least_1 most_2 l_3 = some o) :
    KC Try.prog 25 [.int .i64 least_1, .int .i64 most_2, sl_int false l_3] (.bool o) [] := by
  unfold m_cloth_within at h
  refine con_l [] [] seat Try.func25 rfl ent_25 (by kernel_rfl) rfl rfl (by simp) ?_; intro base I hI; (conv => cbv)
  refine L_call hI h (fun v hv => w_slices_ContainsFunc_Lint_int N l_3 (fun x0 => m_cloth_within_1 N x0 least_1 most_2) 51 (KV.toDL [.ptr [.int .i64 least_1], .ptr [.int .i64 most_2]]) rfl (fun x0 r hr => KD_of (caps := [.ptr [.int .i64 least_1], .ptr [.int .i64 most_2]]) (w_cloth_within_1 N x0 least_1 most_2 r hr)) v hv) (by subst_vars; exact ⟨(leD_refl _), (leD_refl _), rfl⟩) ?_; clear h; intro r_4 h; (conv => cbv)
  cases h
  subst_vars
  exact ⟨lE, rfl⟩
def m_cloth_isSpan (N : Nat) (s_1 : api_Span) (least_2 : Int) (most_3 : Int) (wide_4 : Int) : Option (Bool) :=
  (show Option (Bool) from
    (m_cloth_within N least_2 most_3 [s_1.Low, s_1.High]).bind fun r_8 =>
    if r_8 then
      (m_cloth_within N 0 wide_4 [iopR .sub .i64 s_1.High s_1.Low]).bind fun r_9 =>
      some r_9
    else
      some false).bind fun q => match q with
  | v_7 =>
    some v_7
theorem w_cloth_isSpan (N : Nat) (s_1 : api_Span) (least_2 : Int) (most_3 : Int) (wide_4 : Int) (o : Bool) (h : m_cloth_isSpan N s_1 least_2 most_3 wide_4 = some o) :
    KC Try.prog 43 [.agg [.int .i64 s_1.Low, .int .i64 s_1.High], .int .i64 least_2, .int .i64 most_3, .int .i64 wide_4] (.bool o) [] := by
  unfold m_cloth_isSpan at h
  refine con_l [] [1000001] seat Try.func43 rfl ent_43 (by kernel_rfl) rfl rfl (by simp) ?_; intro base I hI; (conv => cbv)
  refine L_cut hI seat [] (by kernel_rfl) h (fun q => match q with | v_7 => .normal) (fun q => match q with | v_7 => ⟨27, [(8, .bool v_7)], [], [], 0⟩) ?_ ?_; all_goals clear h
  · intro x h R hR
    (conv => cbv)
    refine L_call hI h (fun v hv => w_cloth_within N least_2 most_3 [s_1.Low, s_1.High] v hv) (by subst_vars; exact ⟨(leD_refl _), (leD_refl _), ⟨.inl rfl, rfl, leDLL_refl _⟩, rfl⟩) ?_; clear h; intro r_8 h; (conv => cbv)
    refine L_tst hI h (by subst_vars; rfl) ?_ ?_ <;> clear h <;> intro h
    · refine L_call hI h (fun v hv => w_cloth_within N 0 wide_4 [iopR .sub .i64 s_1.High s_1.Low] v hv) (by subst_vars; exact ⟨(leD_refl _), (leD_refl _), ⟨.inl rfl, rfl, leDLL_refl _⟩, rfl⟩) ?_; clear h; intro r_9 h; (conv => cbv)
      exact hR _ _ (Option.some.inj h).symm (by subst_vars; exact weak_l rfl rfl ⟨lE, trivial⟩ trivial trivial)
    · exact hR _ _ (Option.some.inj h).symm (by subst_vars; exact weak_l rfl rfl ⟨lE, trivial⟩ trivial trivial)
  · intro v_7 h
    (conv => cbv)
    cases h
    subst_vars
    exact ⟨lE, rfl⟩
def m_cloth_isRate (N : Nat) (s_1 : api_Span) : Option (Bool) :=
  (m_cloth_isSpan N s_1 0 100 30).bind fun r_2 =>
  some r_2
theorem w_cloth_isRate (N : Nat) (s_1 : api_Span) (o : Bool) (h : m_cloth_isRate N s_1 = some o) :
    KC Try.prog 75 [.agg [.int .i64 s_1.Low, .int .i64 s_1.High]] (.bool o) [] := by
  unfold m_cloth_isRate at h
  refine con_l [] [] seat Try.func75 rfl ent_75 (by kernel_rfl) rfl rfl (by simp) ?_; intro base I hI; (conv => cbv)
  refine L_call hI h (fun v hv => w_cloth_isSpan N s_1 0 100 30 v hv) (by subst_vars; exact ⟨(leD_refl _), (leD_refl _), (leD_refl _), (leD_refl _), rfl⟩) ?_; clear h; intro r_2 h; (conv => cbv)
  cases h
  subst_vars
  exact ⟨lE, rfl⟩
def m_cloth_isTrack (N : Nat) (t_1 : api_ClothTrack) : Option (Bool) :=
  (show Option (Bool) from
    (m_cloth_isSpan N t_1.First 1 2000 60).bind fun r_5 =>
    if r_5 then
      (m_cloth_isRate N t_1.Rate).bind fun r_6 =>
      some r_6
    else
      some false).bind fun q => match q with
  | v_4 =>
    some v_4
theorem w_cloth_isTrack (N : Nat) (t_1 : api_ClothTrack) (o : Bool) (h : m_cloth_isTrack N t_1 = some o) :
    KC Try.prog 63 [.agg [.int .i64 t_1.First.Low, .int .i64 t_1.First.High, .int .i64 t_1.Rate.Low, .int .i64 t_1.Rate.High]] (.bool o) [] := by
  unfold m_cloth_isTrack at h
  refine con_l [] [1000001] seat Try.func63 rfl ent_63 (by kernel_rfl) rfl rfl (by simp) ?_; intro base I hI; (conv => cbv)
  refine L_cut hI seat [] (by kernel_rfl) h (fun q => match q with | v_4 => .normal) (fun q => match q with | v_4 => ⟨11, [(2, .bool v_4)], [], [], 0⟩) ?_ ?_; all_goals clear h
  · intro x h R hR
    (conv => cbv)
    refine L_call hI h (fun v hv => w_cloth_isSpan N t_1.First 1 2000 60 v hv) (by subst_vars; exact ⟨(leD_refl _), (leD_refl _), (leD_refl _), (leD_refl _), rfl⟩) ?_; clear h; intro r_5 h; (conv => cbv)
    refine L_tst hI h (by subst_vars; rfl) ?_ ?_ <;> clear h <;> intro h
    · refine L_call hI h (fun v hv => w_cloth_isRate N t_1.Rate v hv) (by subst_vars; exact ⟨(leD_refl _), rfl⟩) ?_; clear h; intro r_6 h; (conv => cbv)
      exact hR _ _ (Option.some.inj h).symm (by subst_vars; exact weak_l rfl rfl ⟨lE, trivial⟩ trivial trivial)
    · exact hR _ _ (Option.some.inj h).symm (by subst_vars; exact weak_l rfl rfl ⟨lE, trivial⟩ trivial trivial)
  · intro v_4 h
    (conv => cbv)
    cases h
    subst_vars
    exact ⟨lE, rfl⟩
def m_cloth_Check_1 (N : Nat) (t_1 : api_ClothTrack) : Option (Bool) :=
  (m_cloth_isTrack N t_1).bind fun r_2 =>
  some (!r_2)
theorem w_cloth_Check_1 (N : Nat) (t_1 : api_ClothTrack) (o : Bool) (h : m_cloth_Check_1 N t_1 = some o) :
    KC Try.prog 62 [.agg [.int .i64 t_1.First.Low, .int .i64 t_1.First.High, .int .i64 t_1.Rate.Low, .int .i64 t_1.Rate.High]] (.bool o) [] := by
  unfold m_cloth_Check_1 at h
  refine con_l [] [] seat Try.func62 rfl ent_62 (by kernel_rfl) rfl rfl (by simp) ?_; intro base I hI; (conv => cbv)
  refine L_call hI h (fun v hv => w_cloth_isTrack N t_1 v hv) (by subst_vars; exact ⟨(leD_refl _), rfl⟩) ?_; clear h; intro r_2 h; (conv => cbv)
  cases h
  subst_vars
  exact ⟨lE, rfl⟩
def m_slices_IndexFunc_Lapi_ClothMeasure_api_ClothMeasure_L1 (N : Nat) (v_3 : Int) (s_1 : (List api_ClothMeasure)) (f_2 : api_ClothMeasure → Option Bool) : Int → Option ((Int) ⊕ ((Int) ⊕ (Unit)))
  | v_6 =>
    if icmpR .lss v_6 v_3 then
      (getO d_api_ClothMeasure s_1 v_6).bind fun x_10 =>
      (f_2 x_10).bind fun v_11 =>
      if v_11 then
        some (.inr (.inl v_6))
      else
        some (.inl (iopR .add .i64 v_6 1))
    else
      some (.inr (.inr ()))
def m_slices_IndexFunc_Lapi_ClothMeasure_api_ClothMeasure (N : Nat) (s_1 : (List api_ClothMeasure)) (f_2 : api_ClothMeasure → Option Bool) : Option (Int) :=
  letO (((s_1.length : Nat) : Int) : Int) fun v_3 =>
  (loopO (m_slices_IndexFunc_Lapi_ClothMeasure_api_ClothMeasure_L1 N v_3 s_1 f_2) N 0).bind fun q => match q with
  | (.inl v_9) =>
    some v_9
  | (.inr ()) =>
    some (-1)
theorem w_slices_IndexFunc_Lapi_ClothMeasure_api_ClothMeasure (N : Nat) (s_1 : (List api_ClothMeasure)) (f_2 : api_ClothMeasure → Option Bool) (kf_2 : Nat) (dsf_2 : List D) (hdf_2 : noAggD dsf_2 = true) (hpf_2 : ∀ x0 r, f_2 x0 = some r → KD Try.prog kf_2 [.agg [.int .i64 x0.What, .int .i64 x0.Hour, .int .i64 x0.Reading, .int .i64 x0.Off]] dsf_2 (.bool r)) (o : Int) (h : m_slices_IndexFunc_Lapi_ClothMeasure_api_ClothMeasure N s_1 f_2 = some o) :
    KC Try.prog 76 [sl_api_ClothMeasure false s_1, .d (.fn kf_2 dsf_2)] (.int .i64 o) [] := by
  unfold m_slices_IndexFunc_Lapi_ClothMeasure_api_ClothMeasure at h
  refine con_l [] [] seat Try.func76 rfl ent_76 (by kernel_rfl) rfl rfl (by simp) ?_; intro base I hI; (conv => cbv)
  replace h := letO_of h; obtain ⟨v_3, hev_3, h⟩ := h
  refine L_loop hI seat [] (by kernel_rfl) h (fun q => match q with | v_6 => ⟨19, [(0, sl_api_ClothMeasure false s_1), (1, .d (.fn kf_2 dsf_2)), (7, .int .i64 v_3), (8, .int .i64 v_6)], [], [], 0⟩) (fun q => match q with | (.inl v_9) => .ret | (.inr ()) => .exit 0) (fun q => match q with | (.inl v_9) => ⟨19, [(4, .int .i64 v_9)], [], [], 0⟩ | (.inr ()) => ⟨19, [], [], [], 0⟩) (by subst_vars; exact weak_l rfl rfl ⟨LV_sl, lR, lE, lE, trivial⟩ trivial trivial) (by intro q; rcases q with (v_9 | _) <;> (intro e; exact Exit.noConfusion e)) ?_ ?_; all_goals clear h
  · intro v_6 x h R hR hX
    rw [m_slices_IndexFunc_Lapi_ClothMeasure_api_ClothMeasure_L1] at h
    (conv => cbv)
    refine L_tst hI h (by subst_vars; rfl) ?_ ?_ <;> clear h <;> intro h
    · refine L_get hI h (fun g => by subst_vars; exact g) ?_; clear h; intro hc x_10 hxx_10 h
      refine K_conj hI (by subst_vars; exact hdf_2) ?_
      refine L_callD hI h (args' := [.agg [.int .i64 x_10.What, .int .i64 x_10.Hour, .int .i64 x_10.Reading, .int .i64 x_10.Off]]) (fun v hv => hpf_2 x_10 v hv) (by subst_vars; rfl) ?_; clear h; intro v_11 h; (conv => cbv)
      refine L_tst hI h (by subst_vars; rfl) ?_ ?_ <;> clear h <;> intro h
      · exact hX _ _ (Option.some.inj h).symm (by subst_vars; exact weak_l rfl rfl ⟨lE, trivial⟩ trivial trivial)
      · exact hR _ _ (Option.some.inj h).symm (by subst_vars; exact weak_l rfl rfl ⟨LV_sl, lR, lE, lE, trivial⟩ trivial trivial)
    · exact hX _ _ (Option.some.inj h).symm (by subst_vars; exact weak_l rfl rfl trivial trivial trivial)
  · intro q h
    rcases q with (v_9 | _)
    · (conv => cbv)
      cases h
      subst_vars
      exact ⟨lE, rfl⟩
    · (conv => cbv)
      cases h
      subst_vars
      exact ⟨lE, rfl⟩
def m_slices_ContainsFunc_Lapi_ClothMeasure_api_ClothMeasure (N : Nat) (s_1 : (List api_ClothMeasure)) (f_2 : api_ClothMeasure → Option Bool) : Option (Bool) :=
  (m_slices_IndexFunc_Lapi_ClothMeasure_api_ClothMeasure N s_1 f_2).bind fun r_3 =>
  some (icmpR .geq r_3 0)
theorem w_slices_ContainsFunc_Lapi_ClothMeasure_api_ClothMeasure (N : Nat) (s_1 : (List api_ClothMeasure)) (f_2 : api_ClothMeasure → Option Bool) (kf_2 : Nat) (dsf_2 : List D) (hdf_2 : noAggD dsf_2 = true) (hpf_2 : ∀ x0 r, f_2 x0 = some r → KD Try.prog kf_2 [.agg [.int .i64 x0.What, .int .i64 x0.Hour, .int .i64 x0.Reading, .int .i64 x0.Off]] dsf_2 (.bool r)) (o : Bool) (h : m_slices_ContainsFunc_Lapi_ClothMeasure_api_ClothMeasure N s_1 f_2 = some o) :
    KC Try.prog 64 [sl_api_ClothMeasure false s_1, .d (.fn kf_2 dsf_2)] (.bool o) [] := by
  unfold m_slices_ContainsFunc_Lapi_ClothMeasure_api_ClothMeasure at h
  refine con_l [] [] seat Try.func64 rfl ent_64 (by kernel_rfl) rfl rfl (by simp) ?_; intro base I hI; (conv => cbv)
  refine L_call hI h (fun v hv => w_slices_IndexFunc_Lapi_ClothMeasure_api_ClothMeasure N s_1 f_2 kf_2 dsf_2 hdf_2 hpf_2 v hv) (by subst_vars; exact ⟨(leD_refl _), (leD_refl _), rfl⟩) ?_; clear h; intro r_3 h; (conv => cbv)
  cases h
  subst_vars
  exact ⟨lE, rfl⟩
def m_cloth_isWhat (N : Nat) (what_1 : Int) : Option (Bool) :=
  (m_cloth_within N 0 2 [what_1]).bind fun r_2 =>
  some r_2
theorem w_cloth_isWhat (N : Nat) (what_1 : Int) (o : Bool) (h : m_cloth_isWhat N what_1 = some o) :
    KC Try.prog 24 [.int .i64 what_1] (.bool o) [] := by
  unfold m_cloth_isWhat at h
  refine con_l [] [] seat Try.func24 rfl ent_24 (by kernel_rfl) rfl rfl (by simp) ?_; intro base I hI; (conv => cbv)
  refine L_call hI h (fun v hv => w_cloth_within N 0 2 [what_1] v hv) (by subst_vars; exact ⟨(leD_refl _), (leD_refl _), ⟨.inl rfl, rfl, leDLL_refl _⟩, rfl⟩) ?_; clear h; intro r_2 h; (conv => cbv)
  cases h
  subst_vars
  exact ⟨lE, rfl⟩
def m_cloth_isMeasure (N : Nat) (m_1 : api_ClothMeasure) : Option (Bool) :=
  (show Option (Bool) from
    (m_cloth_isWhat N m_1.What).bind fun r_7 =>
    if r_7 then
      (m_cloth_within N 0 48 [m_1.Hour]).bind fun r_8 =>
      if r_8 then
        (m_cloth_within N 0 2000 [m_1.Reading]).bind fun r_9 =>
        if r_9 then
          (m_cloth_within N 0 20 [m_1.Off]).bind fun r_10 =>
          some r_10
        else
          some false
      else
        some false
    else
      some false).bind fun q => match q with
  | v_6 =>
    some v_6
theorem w_cloth_isMeasure (N : Nat) (m_1 : api_ClothMeasure) (o : Bool) (h : m_cloth_isMeasure N m_1 = some o) :
    KC Try.prog 66 [.agg [.int .i64 m_1.What, .int .i64 m_1.Hour, .int .i64 m_1.Reading, .int .i64 m_1.Off]] (.bool o) [] := by
  unfold m_cloth_isMeasure at h
  refine con_l [] [1000001] seat Try.func66 rfl ent_66 (by kernel_rfl) rfl rfl (by simp) ?_; intro base I hI; (conv => cbv)
  refine L_cut hI seat [] (by kernel_rfl) h (fun q => match q with | v_6 => .normal) (fun q => match q with | v_6 => ⟨24, [(2, .bool v_6)], [], [], 0⟩) ?_ ?_; all_goals clear h
  · intro x h R hR
    (conv => cbv)
    refine L_call hI h (fun v hv => w_cloth_isWhat N m_1.What v hv) (by subst_vars; exact ⟨(leD_refl _), rfl⟩) ?_; clear h; intro r_7 h; (conv => cbv)
    refine L_tst hI h (by subst_vars; rfl) ?_ ?_ <;> clear h <;> intro h
    · refine L_call hI h (fun v hv => w_cloth_within N 0 48 [m_1.Hour] v hv) (by subst_vars; exact ⟨(leD_refl _), (leD_refl _), ⟨.inl rfl, rfl, leDLL_refl _⟩, rfl⟩) ?_; clear h; intro r_8 h; (conv => cbv)
      refine L_tst hI h (by subst_vars; rfl) ?_ ?_ <;> clear h <;> intro h
      · refine L_call hI h (fun v hv => w_cloth_within N 0 2000 [m_1.Reading] v hv) (by subst_vars; exact ⟨(leD_refl _), (leD_refl _), ⟨.inl rfl, rfl, leDLL_refl _⟩, rfl⟩) ?_; clear h; intro r_9 h; (conv => cbv)
        refine L_tst hI h (by subst_vars; rfl) ?_ ?_ <;> clear h <;> intro h
        · refine L_call hI h (fun v hv => w_cloth_within N 0 20 [m_1.Off] v hv) (by subst_vars; exact ⟨(leD_refl _), (leD_refl _), ⟨.inl rfl, rfl, leDLL_refl _⟩, rfl⟩) ?_; clear h; intro r_10 h; (conv => cbv)
          exact hR _ _ (Option.some.inj h).symm (by subst_vars; exact weak_l rfl rfl ⟨lE, trivial⟩ trivial trivial)
        · exact hR _ _ (Option.some.inj h).symm (by subst_vars; exact weak_l rfl rfl ⟨lE, trivial⟩ trivial trivial)
      · exact hR _ _ (Option.some.inj h).symm (by subst_vars; exact weak_l rfl rfl ⟨lE, trivial⟩ trivial trivial)
    · exact hR _ _ (Option.some.inj h).symm (by subst_vars; exact weak_l rfl rfl ⟨lE, trivial⟩ trivial trivial)
  · intro v_6 h
    (conv => cbv)
    cases h
    subst_vars
    exact ⟨lE, rfl⟩
def m_cloth_Check_2 (N : Nat) (m_1 : api_ClothMeasure) : Option (Bool) :=
  (m_cloth_isMeasure N m_1).bind fun r_2 =>
  some (!r_2)
theorem w_cloth_Check_2 (N : Nat) (m_1 : api_ClothMeasure) (o : Bool) (h : m_cloth_Check_2 N m_1 = some o) :
    KC Try.prog 65 [.agg [.int .i64 m_1.What, .int .i64 m_1.Hour, .int .i64 m_1.Reading, .int .i64 m_1.Off]] (.bool o) [] := by
  unfold m_cloth_Check_2 at h
  refine con_l [] [] seat Try.func65 rfl ent_65 (by kernel_rfl) rfl rfl (by simp) ?_; intro base I hI; (conv => cbv)
  refine L_call hI h (fun v hv => w_cloth_isMeasure N m_1 v hv) (by subst_vars; exact ⟨(leD_refl _), rfl⟩) ?_; clear h; intro r_2 h; (conv => cbv)
  cases h
  subst_vars
  exact ⟨lE, rfl⟩
def m_cloth_Check (N : Nat) (c_1 : api_Cloth) : Option (Int) :=
  (show Option (Bool) from
    if icmpR .neq ((c_1.Tracks.length : Nat) : Int) 3 then
      some true
    else
      (m_slices_ContainsFunc_Lapi_ClothTrack_api_ClothTrack N c_1.Tracks (fun x0 => m_cloth_Check_1 N x0)).bind fun r_4 =>
      some r_4).bind fun q => match q with
  | v_3 =>
    (show Option ((Int) ⊕ (Unit)) from
      if v_3 then
        some (.inl 4)
      else
        if icmpR .gtr ((c_1.Measures.length : Nat) : Int) 8 then
          some (.inl 5)
        else
          (m_slices_ContainsFunc_Lapi_ClothMeasure_api_ClothMeasure N c_1.Measures (fun x0 => m_cloth_Check_2 N x0)).bind fun r_7 =>
          if r_7 then
            some (.inl 2)
          else
            some (.inr ())).bind fun q => match q with
    | (.inl v_6) =>
      some v_6
    | (.inr ()) =>
      some 0
theorem w_cloth_Check (N : Nat) (c_1 : api_Cloth) (o : Int) (h : m_cloth_Check N c_1 = some o) :
    KC Try.prog 46 [.agg [sl_api_ClothTrack false c_1.Tracks, sl_api_ClothMeasure false c_1.Measures]] (.int .i64 o) [] := by
  unfold m_cloth_Check at h
  refine con_l [] [2000003] seat Try.func46 rfl ent_46 (by kernel_rfl) rfl rfl (by simp) ?_; intro base I hI; (conv => cbv)
  refine L_cut hI seat [] (by kernel_rfl) h (fun q => match q with | v_3 => .normal) (fun q => match q with | v_3 => ⟨20, [(1, .loc 0 0), (3, .bool v_3)], [(0, ⟨32, [sl_api_ClothTrack false c_1.Tracks, sl_api_ClothMeasure false c_1.Measures], true⟩)], [], 0⟩) ?_ ?_; all_goals clear h
  · intro x h R hR
    (conv => cbv)
    refine L_tst hI h (by subst_vars; rfl) ?_ ?_ <;> clear h <;> intro h
    · exact hR _ _ (Option.some.inj h).symm (by subst_vars; exact weak_l rfl rfl ⟨lR, lE, trivial⟩ ⟨lB ⟨LV_sl, LV_sl, rfl⟩, trivial⟩ trivial)
    · refine L_call hI h (fun v hv => w_slices_ContainsFunc_Lapi_ClothTrack_api_ClothTrack N c_1.Tracks (fun x0 => m_cloth_Check_1 N x0) 62 (KV.toDL []) rfl (fun x0 r hr => KD_of (caps := []) (w_cloth_Check_1 N x0 r hr)) v hv) (by subst_vars; exact ⟨(leD_refl _), (leD_refl _), rfl⟩) ?_; clear h; intro r_4 h; (conv => cbv)
      exact hR _ _ (Option.some.inj h).symm (by subst_vars; exact weak_l rfl rfl ⟨lR, lE, trivial⟩ ⟨lB ⟨LV_sl, LV_sl, rfl⟩, trivial⟩ trivial)
  · intro v_3 h
    (conv => cbv)
    refine L_cut hI seat [] (by kernel_rfl) h (fun q => match q with | (.inl v_6) => .ret | (.inr ()) => .normal) (fun q => match q with | (.inl v_6) => ⟨20, [(2, .int .i64 v_6)], [], [], 0⟩ | (.inr ()) => ⟨20, [], [], [], 0⟩) ?_ ?_; all_goals clear h
    · intro x h R hR
      (conv => cbv)
      refine L_tst hI h (by subst_vars; rfl) ?_ ?_ <;> clear h <;> intro h
      · exact hR _ _ (Option.some.inj h).symm (by subst_vars; exact weak_l rfl rfl ⟨lE, trivial⟩ trivial trivial)
      · refine L_tst hI h (by subst_vars; rfl) ?_ ?_ <;> clear h <;> intro h
        · exact hR _ _ (Option.some.inj h).symm (by subst_vars; exact weak_l rfl rfl ⟨lE, trivial⟩ trivial trivial)
        · refine L_call hI h (fun v hv => w_slices_ContainsFunc_Lapi_ClothMeasure_api_ClothMeasure N c_1.Measures (fun x0 => m_cloth_Check_2 N x0) 65 (KV.toDL []) rfl (fun x0 r hr => KD_of (caps := []) (w_cloth_Check_2 N x0 r hr)) v hv) (by subst_vars; exact ⟨(leD_refl _), (leD_refl _), rfl⟩) ?_; clear h; intro r_7 h; (conv => cbv)
          refine L_tst hI h (by subst_vars; rfl) ?_ ?_ <;> clear h <;> intro h
          · exact hR _ _ (Option.some.inj h).symm (by subst_vars; exact weak_l rfl rfl ⟨lE, trivial⟩ trivial trivial)
          · exact hR _ _ (Option.some.inj h).symm (by subst_vars; exact weak_l rfl rfl trivial trivial trivial)
    · intro q h
      rcases q with (v_6 | _)
      · (conv => cbv)
        cases h
        subst_vars
        exact ⟨lE, rfl⟩
      · (conv => cbv)
        cases h
        subst_vars
        exact ⟨lE, rfl⟩
def m_cloth_stretches (N : Nat) (c_1 : api_Cloth) (what_2 : Int) (without_3 : Int → Option Bool) : Option ((api_ClothTrack × api_Cloth × Int)) :=
  (getO d_api_ClothTrack c_1.Tracks what_2).bind fun x_4 =>
  some (x_4, c_1, what_2)
theorem w_cloth_stretches (N : Nat) (c_1 : api_Cloth) (what_2 : Int) (without_3 : Int → Option Bool) (kwithout_3 : Nat) (dswithout_3 : List D) (hdwithout_3 : noAggD dswithout_3 = true) (hpwithout_3 : ∀ x0 r, without_3 x0 = some r → KD Try.prog kwithout_3 [.int .i64 x0] dswithout_3 (.bool r)) (o : (api_ClothTrack × api_Cloth × Int)) (h : m_cloth_stretches N c_1 what_2 without_3 = some o) :
    KC Try.prog 48 [.agg [sl_api_ClothTrack false c_1.Tracks, sl_api_ClothMeasure false c_1.Measures], .int .i64 what_2, .d (.fn kwithout_3 dswithout_3)] (.dfn 68 [.ptr [.int .i64 o.1.First.Low, .int .i64 o.1.First.High, .int .i64 o.1.Rate.Low, .int .i64 o.1.Rate.High], .ptr [sl_api_ClothTrack false o.2.1.Tracks, sl_api_ClothMeasure false o.2.1.Measures], .ptr [.int .i64 o.2.2], .ptr [.d (.fn kwithout_3 dswithout_3)]]) [] := by
  unfold m_cloth_stretches at h
  refine con_l [] [] seat Try.func48 rfl ent_48 (by kernel_rfl) rfl rfl (by simp) ?_; intro base I hI; (conv => cbv)
  refine L_get hI h (fun g => by subst_vars; exact g) ?_; clear h; intro hc x_4 hxx_4 h
  cases h
  subst_vars
  exact ⟨lE, rfl⟩
def m_cloth_none (N : Nat) (i_1 : Int) : Option (Bool) :=
  some false
theorem w_cloth_none (N : Nat) (i_1 : Int) (o : Bool) (h : m_cloth_none N i_1 = some o) :
    KC Try.prog 49 [.int .i64 i_1] (.bool o) [] := by
  unfold m_cloth_none at h
  refine con_l [] [] seat Try.func49 rfl ent_49 (by kernel_rfl) rfl rfl (by simp) ?_; intro base I hI; (conv => cbv)
  cases h
  subst_vars
  exact ⟨lE, rfl⟩
def m_slices_AppendSeq_Lcloth_stretch_cloth_stretch_L1 (N : Nat) : cloth_stretch → (List cloth_stretch) → Option (((List cloth_stretch)) ⊕ (Empty))
  | y_2, l_3 =>
    if fitsN (l_3.length + 1) 24 then
      some (.inl (l_3 ++ [y_2]))
    else none
def m_slices_AppendSeq_Lcloth_stretch_cloth_stretch (N : Nat) (ys_1 : List (cloth_stretch)) : Option ((List cloth_stretch)) :=
  (rangeO (m_slices_AppendSeq_Lcloth_stretch_cloth_stretch_L1 N) ys_1 []).bind fun q => match q with
  | .inl l_3 =>
    some l_3
theorem w_slices_AppendSeq_Lcloth_stretch_cloth_stretch (N : Nat) (ys_1 : List (cloth_stretch)) (kys_1 : Nat) (dsys_1 : List D) (hdys_1 : noAggD dsys_1 = true) (hitys_1 : IterCon Try.prog kys_1 dsys_1 ((ys_1.map fun y => [.agg [.int .i64 y.Span.Low, .int .i64 y.Span.High, .int .i64 y.rate]]).map KV.toDL)) (o : (List cloth_stretch)) (h : m_slices_AppendSeq_Lcloth_stretch_cloth_stretch N ys_1 = some o) :
    KC Try.prog 67 [.nilsl, .d (.fn kys_1 dsys_1)] (sl_cloth_stretch false o) [] := by
  unfold m_slices_AppendSeq_Lcloth_stretch_cloth_stretch at h
  refine con_l [] [] seat Try.func67 rfl ent_67 (by kernel_rfl) rfl rfl (by simp) ?_; intro base I hI; (conv => cbv)
  refine W_weak hI (S' := ⟨13, [(2, .loc 0 0), (6, .d (.fn kys_1 dsys_1))], [(0, ⟨72, [.osl 1], true⟩)], [(1, ⟨109, 3, [.ls cloth_stretch d_cloth_stretch [] e_cloth_stretch], false, true⟩)], 0⟩) (by subst_vars; exact (weak_nilH 0 0 1 109 3 ⟨72, [.nilsl], true⟩ rfl rfl rfl rfl).trans (weak_l rfl rfl ⟨lR, lR, trivial⟩ ⟨lB ⟨lR, rfl⟩, trivial⟩ ⟨lO, trivial⟩)) ?_
  refine L_range hI seat [] (by kernel_rfl) (ys := ys_1) (kY := fun y_2 => [.agg [.int .i64 y_2.Span.Low, .int .i64 y_2.Span.High, .int .i64 y_2.rate]]) (hitys_1) hdys_1 h (fun q => match q with | l_3 => ([(0, ⟨72, [.osl 1], true⟩)], [(1, ⟨109, 3, [.ls cloth_stretch d_cloth_stretch l_3 e_cloth_stretch], false, true⟩)])) (fun q => nomatch q) (fun q => nomatch q) rfl (fun _ => ⟨rfl, rfl⟩) 1 rfl (by subst_vars; exact ⟨lB ⟨lR, rfl⟩, trivial⟩) (by subst_vars; exact ⟨lO, trivial⟩) (by intro q; rcases q with ⟨⟩ <;> (intro e; exact Exit.noConfusion e)) (by intro q; rcases q with ⟨⟩ <;> (intro _ e; exact Exit.noConfusion e)) (by intro q; rcases q with ⟨⟩ <;> (intro e; exact Exit.noConfusion e)) ?_ ?_ ?_; all_goals clear h
  · intro y_2 l_3 x h l I hI R hR hX
    rw [m_slices_AppendSeq_Lcloth_stretch_cloth_stretch_L1] at h
    (conv => cbv)
    refine L_conj hI h (fun g => by subst_vars; exact g) ?_; clear h; intro hc h
    exact hR _ _ (Option.some.inj h).symm (by subst_vars; exact ⟨lB ⟨lR, rfl⟩, trivial⟩) (by subst_vars; exact ⟨lO, trivial⟩)
  · intro l_3 h
    (conv => cbv)
    cases h
    subst_vars
    exact ⟨LV_sl, rfl⟩
  · intro q h
    rcases q with ⟨⟩
def m_slices_Collect_cloth_stretch (N : Nat) (ys_1 : List (cloth_stretch)) : Option ((List cloth_stretch)) :=
  (m_slices_AppendSeq_Lcloth_stretch_cloth_stretch N ys_1).bind fun r_2 =>
  some r_2
theorem w_slices_Collect_cloth_stretch (N : Nat) (ys_1 : List (cloth_stretch)) (kys_1 : Nat) (dsys_1 : List D) (hdys_1 : noAggD dsys_1 = true) (hitys_1 : IterCon Try.prog kys_1 dsys_1 ((ys_1.map fun y => [.agg [.int .i64 y.Span.Low, .int .i64 y.Span.High, .int .i64 y.rate]]).map KV.toDL)) (o : (List cloth_stretch)) (h : m_slices_Collect_cloth_stretch N ys_1 = some o) :
    KC Try.prog 47 [.d (.fn kys_1 dsys_1)] (sl_cloth_stretch false o) [] := by
  unfold m_slices_Collect_cloth_stretch at h
  refine con_l [] [] seat Try.func47 rfl ent_47 (by kernel_rfl) rfl rfl (by simp) ?_; intro base I hI; (conv => cbv)
  refine L_call hI h (fun v hv => w_slices_AppendSeq_Lcloth_stretch_cloth_stretch N ys_1 kys_1 dsys_1 hdys_1 hitys_1 v hv) (by subst_vars; exact ⟨(leD_refl _), (leD_refl _), rfl⟩) ?_; clear h; intro r_2 h; (conv => cbv)
  cases h
  subst_vars
  exact ⟨LV_sl, rfl⟩
def m_cloth_after_L1 (N : Nat) (hours_3 : Int) (rate_2 : Int) : (Int × Int) → Option ((Int × Int) ⊕ (Int))
  | (x_4, v_5) =>
    if icmpR .lss v_5 hours_3 then
      some (.inl (iopR .sub .i64 x_4 (iopR .quo .i64 (iopR .mul .i64 x_4 rate_2) 1000), iopR .add .i64 v_5 1))
    else
      some (.inr x_4)
def m_cloth_after (N : Nat) (x_1 : Int) (rate_2 : Int) (hours_3 : Int) : Option (Int) :=
  (loopO (m_cloth_after_L1 N hours_3 rate_2) N (x_1, 0)).bind fun q => match q with
  | x_6 =>
    some x_6
theorem w_cloth_after (N : Nat) (x_1 : Int) (rate_2 : Int) (hours_3 : Int) (o : Int) (h : m_cloth_after N x_1 rate_2 hours_3 = some o) :
    KC Try.prog 69 [.int .i64 x_1, .int .i64 rate_2, .int .i64 hours_3] (.int .i64 o) [] := by
  unfold m_cloth_after at h
  refine con_l [] [] seat Try.func69 rfl ent_69 (by kernel_rfl) rfl rfl (by simp) ?_; intro base I hI; (conv => cbv)
  refine L_loop hI seat [] (by kernel_rfl) h (fun q => match q with | (x_4, v_5) => ⟨18, [(0, .int .i64 x_4), (1, .int .i64 rate_2), (7, .int .i64 hours_3), (8, .int .i64 v_5)], [], [], 0⟩) (fun q => match q with | x_6 => .exit 0) (fun q => match q with | x_6 => ⟨18, [(0, .int .i64 x_6)], [], [], 0⟩) (by subst_vars; exact weak_l rfl rfl ⟨lE, lE, lE, lE, trivial⟩ trivial trivial) (by intro q; rcases q with x_6 <;> (intro e; exact Exit.noConfusion e)) ?_ ?_; all_goals clear h
  · intro q x h R hR hX
    obtain ⟨x_4, v_5⟩ := q
    rw [m_cloth_after_L1] at h
    (conv => cbv)
    refine L_tst hI h (by subst_vars; rfl) ?_ ?_ <;> clear h <;> intro h
    · exact hR _ _ (Option.some.inj h).symm (by subst_vars; exact weak_l rfl rfl ⟨lE, lE, lE, lE, trivial⟩ trivial trivial)
    · exact hX _ _ (Option.some.inj h).symm (by subst_vars; exact weak_l rfl rfl ⟨lE, trivial⟩ trivial trivial)
  · intro x_6 h
    (conv => cbv)
    cases h
    subst_vars
    exact ⟨lE, rfl⟩
def m_cloth_stretches_1_L3 (N : Nat) (v_203 : Int) (v_89 : Int) (x_232 : api_ClothMeasure) : Int → Option ((Int) ⊕ (Int))
  | v_239 =>
    (show Option (Bool) from
      if icmpR .leq v_239 v_203 then
        (m_cloth_after N v_239 v_89 x_232.Hour).bind fun r_246 =>
        some (icmpR .lss r_246 (iopR .sub .i64 x_232.Reading x_232.Off))
      else
        some false).bind fun q => match q with
    | v_245 =>
      if v_245 then
        some (.inl (iopR .add .i64 v_239 1))
      else
        some (.inr v_239)
def m_cloth_stretches_1_L4 (N : Nat) (v_243 : Int) (v_89 : Int) (x_232 : api_ClothMeasure) : Int → Option ((Int) ⊕ (Int))
  | v_250 =>
    (show Option (Bool) from
      if icmpR .leq v_243 v_250 then
        (m_cloth_after N v_250 v_89 x_232.Hour).bind fun r_257 =>
        some (icmpR .gtr r_257 (iopR .add .i64 x_232.Reading x_232.Off))
      else
        some false).bind fun q => match q with
    | v_256 =>
      if v_256 then
        some (.inl (iopR .sub .i64 v_250 1))
      else
        some (.inr v_250)
def m_cloth_stretches_1_L2 (N : Nat) (v_174 : Int) (p_2 : api_Cloth) (p_3 : Int) (p_4 : Int → Option Bool) (v_89 : Int) : (Int × Int × Int) → Option ((Int × Int × Int) ⊕ (Int × Int))
  | (v_201, v_202, v_203) =>
    if icmpR .lss v_201 v_174 then
      (getO d_api_ClothMeasure p_2.Measures v_201).bind fun x_232 =>
      (show Option (Bool) from
        if icmpR .neq x_232.What p_3 then
          some true
        else
          (p_4 v_201).bind fun v_235 =>
          some v_235).bind fun q => match q with
      | v_234 =>
        if v_234 then
          some (.inl (iopR .add .i64 v_201 1, v_202, v_203))
        else
          (loopO (m_cloth_stretches_1_L3 N v_203 v_89 x_232) N v_202).bind fun q => match q with
          | v_243 =>
            (loopO (m_cloth_stretches_1_L4 N v_243 v_89 x_232) N v_203).bind fun q => match q with
            | v_254 =>
              some (.inl (iopR .add .i64 v_201 1, v_243, v_254))
    else
      some (.inr (v_202, v_203))
def m_cloth_stretches_1_L1 (N : Nat) (p_1 : api_ClothTrack) (p_2 : api_Cloth) (p_3 : Int) (p_4 : Int → Option Bool) : Int → Option (List (cloth_stretch) × ((Int) ⊕ (Unit)))
  | v_89 =>
    if icmpR .leq v_89 p_1.Rate.High then
      letO (((p_2.Measures.length : Nat) : Int) : Int) fun v_174 =>
      (loopO (m_cloth_stretches_1_L2 N v_174 p_2 p_3 p_4 v_89) N (0, p_1.First.Low, p_1.First.High)).bind fun q => match q with
      | (v_230, v_231) =>
        if icmpR .leq v_230 v_231 then
          yieldO (cloth_stretch.mk (api_Span.mk v_230 v_231) v_89) (
            some ([], .inl (iopR .add .i64 v_89 1)))
        else
          some ([], .inl (iopR .add .i64 v_89 1))
    else
      some ([], .inr ())
def m_cloth_stretches_1 (N : Nat) (p_1 : api_ClothTrack) (p_2 : api_Cloth) (p_3 : Int) (p_4 : Int → Option Bool) : Option (List cloth_stretch × Unit) :=
  thenY (loopY (m_cloth_stretches_1_L1 N p_1 p_2 p_3 p_4) N p_1.Rate.Low) fun q => match q with
  | () =>
    some ([], ())
def m_it_cloth_stretches_1 (N : Nat) (p_1 : api_ClothTrack) (p_2 : api_Cloth) (p_3 : Int) (p_4 : Int → Option Bool) : Option (List cloth_stretch) := (m_cloth_stretches_1 N p_1 p_2 p_3 p_4).bind fun q => some q.1
theorem i_cloth_stretches_1 (N : Nat) (p_1 : api_ClothTrack) (p_2 : api_Cloth) (p_3 : Int) (p_4 : Int → Option Bool) (kp_4 : Nat) (dsp_4 : List D) (hdp_4 : noAggD dsp_4 = true) (hpp_4 : ∀ x0 r, p_4 x0 = some r → KD Try.prog kp_4 [.int .i64 x0] dsp_4 (.bool r)) (o : List cloth_stretch) (h : m_it_cloth_stretches_1 N p_1 p_2 p_3 p_4 = some o) :
    IterCon Try.prog 68 (KV.toDL [.ptr [.int .i64 p_1.First.Low, .int .i64 p_1.First.High, .int .i64 p_1.Rate.Low, .int .i64 p_1.Rate.High], .ptr [sl_api_ClothTrack false p_2.Tracks, sl_api_ClothMeasure false p_2.Measures], .ptr [.int .i64 p_3], .ptr [.d (.fn kp_4 dsp_4)]]) ((o.map fun (y : cloth_stretch) => [.agg [.int .i64 y.Span.Low, .int .i64 y.Span.High, .int .i64 y.rate]]).map KV.toDL) := by
  unfold m_it_cloth_stretches_1 at h
  have h1 := bind_of h; clear h
  obtain ⟨⟨zs, u⟩, h, e⟩ := h1
  cases e
  unfold m_cloth_stretches_1 at h
  refine iter_l (en := fun (y : cloth_stretch) => [.agg [.int .i64 y.Span.Low, .int .i64 y.Span.High, .int .i64 y.rate]]) [1000007, 1000008, 1000010] seat Try.func68 rfl ent_68 (by kernel_rfl) rfl rfl rfl ?_; intro E Inv Fin hTk base s hy I hI; (conv => cbv)
  refine L_loopY (Fin := Fin) hI seat [1000007, 1000008, 1000010] (by kernel_rfl) h hy (fun q => match q with | v_89 => ⟨111, [(0, .yld), (1, .ptr [.int .i64 p_1.First.Low, .int .i64 p_1.First.High, .int .i64 p_1.Rate.Low, .int .i64 p_1.Rate.High]), (2, .ptr [sl_api_ClothTrack false p_2.Tracks, sl_api_ClothMeasure false p_2.Measures]), (3, .ptr [.int .i64 p_3]), (4, .ptr [.d (.fn kp_4 dsp_4)]), (6, .int .i64 v_89)], [], [], 0⟩) (fun q => match q with | () => .exit 0) (fun q => match q with | () => ⟨111, [], [], [], 0⟩) (.ret) (by subst_vars; exact weak_l rfl rfl ⟨lR, lE, lE, lE, lE, lE, trivial⟩ trivial trivial) (by intro q; rcases q with _ <;> (intro e; exact Exit.noConfusion e)) (by intro e; exact Exit.noConfusion e) ?_ ?_ ?_; all_goals clear h hy
  · intro v_89 x zs ps s h hy R hR hX hF
    rw [m_cloth_stretches_1_L1] at h
    (conv => cbv)
    refine L_tst hI h (by subst_vars; rfl) ?_ ?_ <;> clear h <;> intro h
    · replace h := letO_of h; obtain ⟨v_174, hev_174, h⟩ := h
      refine L_loop hI seat [1000007, 1000008, 1000010] (by kernel_rfl) h (fun q => match q with | (v_201, v_202, v_203) => ⟨111, [(0, .yld), (1, .ptr [.int .i64 p_1.First.Low, .int .i64 p_1.First.High, .int .i64 p_1.Rate.Low, .int .i64 p_1.Rate.High]), (2, .ptr [sl_api_ClothTrack false p_2.Tracks, sl_api_ClothMeasure false p_2.Measures]), (3, .ptr [.int .i64 p_3]), (4, .ptr [.d (.fn kp_4 dsp_4)]), (6, .int .i64 v_89), (7, .loc 0 0), (25, sl_api_ClothMeasure false p_2.Measures), (26, .int .i64 v_174), (27, .int .i64 v_201)], [(0, ⟨109, [.int .i64 v_202, .int .i64 v_203, .int .i64 v_89], true⟩)], [], 0⟩) (fun q => match q with | (v_230, v_231) => .exit 2) (fun q => match q with | (v_230, v_231) => ⟨111, [(0, .yld), (1, .ptr [.int .i64 p_1.First.Low, .int .i64 p_1.First.High, .int .i64 p_1.Rate.Low, .int .i64 p_1.Rate.High]), (2, .ptr [sl_api_ClothTrack false p_2.Tracks, sl_api_ClothMeasure false p_2.Measures]), (3, .ptr [.int .i64 p_3]), (4, .ptr [.d (.fn kp_4 dsp_4)]), (6, .int .i64 v_89), (7, .loc 0 0)], [(0, ⟨109, [.int .i64 v_230, .int .i64 v_231, .int .i64 v_89], true⟩)], [], 0⟩) (by subst_vars; exact weak_l rfl rfl ⟨lR, lE, lE, lE, lE, lE, lR, LV_sl, lE, lE, trivial⟩ ⟨lB ⟨lE, lE, lE, rfl⟩, trivial⟩ trivial) (by intro q; rcases q with ⟨v_230, v_231⟩ <;> (intro e; exact Exit.noConfusion e)) ?_ ?_; all_goals clear h
      · intro q x h R hR hX
        obtain ⟨v_201, v_202, v_203⟩ := q
        rw [m_cloth_stretches_1_L2] at h
        (conv => cbv)
        refine L_tst hI h (by subst_vars; rfl) ?_ ?_ <;> clear h <;> intro h
        · refine L_get hI h (fun g => by subst_vars; exact g) ?_; clear h; intro hc x_232 hxx_232 h
          refine L_cut hI seat [1000008, 1000010] (by kernel_rfl) h (fun q => match q with | v_234 => .normal) (fun q => match q with | v_234 => ⟨111, [(0, .yld), (1, .ptr [.int .i64 p_1.First.Low, .int .i64 p_1.First.High, .int .i64 p_1.Rate.Low, .int .i64 p_1.Rate.High]), (2, .ptr [sl_api_ClothTrack false p_2.Tracks, sl_api_ClothMeasure false p_2.Measures]), (3, .ptr [.int .i64 p_3]), (4, .ptr [.d (.fn kp_4 dsp_4)]), (6, .int .i64 v_89), (7, .loc 0 0), (9, .loc 1 0), (25, sl_api_ClothMeasure false p_2.Measures), (26, .int .i64 v_174), (27, .int .i64 v_201), (40, .bool v_234)], [(1, ⟨129, [.int .i64 x_232.What, .int .i64 x_232.Hour, .int .i64 x_232.Reading, .int .i64 x_232.Off], true⟩), (0, ⟨109, [.int .i64 v_202, .int .i64 v_203, .int .i64 v_89], true⟩)], [], 0⟩) ?_ ?_; all_goals clear h
          · intro x h R hR
            (conv => cbv)
            refine L_tst hI h (by subst_vars; rfl) ?_ ?_ <;> clear h <;> intro h
            · exact hR _ _ (Option.some.inj h).symm (by subst_vars; exact weak_l rfl rfl ⟨lR, lE, lE, lE, lE, lE, lR, lR, LV_sl, lE, lE, lE, trivial⟩ ⟨lB ⟨lE, lE, lE, lE, rfl⟩, lB ⟨lE, lE, lE, rfl⟩, trivial⟩ trivial)
            · refine K_conj hI (by subst_vars; exact hdp_4) ?_
              refine L_callD hI h (args' := [.int .i64 v_201]) (fun v hv => hpp_4 v_201 v hv) (by subst_vars; rfl) ?_; clear h; intro v_235 h; (conv => cbv)
              exact hR _ _ (Option.some.inj h).symm (by subst_vars; exact weak_l rfl rfl ⟨lR, lE, lE, lE, lE, lE, lR, lR, LV_sl, lE, lE, lE, trivial⟩ ⟨lB ⟨lE, lE, lE, lE, rfl⟩, lB ⟨lE, lE, lE, rfl⟩, trivial⟩ trivial)
          · intro v_234 h
            (conv => cbv)
            refine L_tst hI h (by subst_vars; rfl) ?_ ?_ <;> clear h <;> intro h
            · exact hR _ _ (Option.some.inj h).symm (by subst_vars; exact weak_l rfl rfl ⟨lR, lE, lE, lE, lE, lE, lR, LV_sl, lE, lE, trivial⟩ ⟨lB ⟨lE, lE, lE, rfl⟩, trivial⟩ trivial)
            · refine L_loop hI seat [1000007, 1000008, 1000010] (by kernel_rfl) h (fun q => match q with | v_239 => ⟨111, [(0, .yld), (1, .ptr [.int .i64 p_1.First.Low, .int .i64 p_1.First.High, .int .i64 p_1.Rate.Low, .int .i64 p_1.Rate.High]), (2, .ptr [sl_api_ClothTrack false p_2.Tracks, sl_api_ClothMeasure false p_2.Measures]), (3, .ptr [.int .i64 p_3]), (4, .ptr [.d (.fn kp_4 dsp_4)]), (6, .int .i64 v_89), (7, .loc 0 0), (9, .loc 1 0), (25, sl_api_ClothMeasure false p_2.Measures), (26, .int .i64 v_174), (27, .int .i64 v_201)], [(1, ⟨129, [.int .i64 x_232.What, .int .i64 x_232.Hour, .int .i64 x_232.Reading, .int .i64 x_232.Off], true⟩), (0, ⟨109, [.int .i64 v_239, .int .i64 v_203, .int .i64 v_89], true⟩)], [], 0⟩) (fun q => match q with | v_243 => .exit 4) (fun q => match q with | v_243 => ⟨111, [(0, .yld), (1, .ptr [.int .i64 p_1.First.Low, .int .i64 p_1.First.High, .int .i64 p_1.Rate.Low, .int .i64 p_1.Rate.High]), (2, .ptr [sl_api_ClothTrack false p_2.Tracks, sl_api_ClothMeasure false p_2.Measures]), (3, .ptr [.int .i64 p_3]), (4, .ptr [.d (.fn kp_4 dsp_4)]), (6, .int .i64 v_89), (7, .loc 0 0), (9, .loc 1 0), (25, sl_api_ClothMeasure false p_2.Measures), (26, .int .i64 v_174), (27, .int .i64 v_201)], [(1, ⟨129, [.int .i64 x_232.What, .int .i64 x_232.Hour, .int .i64 x_232.Reading, .int .i64 x_232.Off], true⟩), (0, ⟨109, [.int .i64 v_243, .int .i64 v_203, .int .i64 v_89], true⟩)], [], 0⟩) (by subst_vars; exact weak_l rfl rfl ⟨lR, lE, lE, lE, lE, lE, lR, lR, LV_sl, lE, lE, trivial⟩ ⟨lB ⟨lE, lE, lE, lE, rfl⟩, lB ⟨lE, lE, lE, rfl⟩, trivial⟩ trivial) (by intro q; rcases q with v_243 <;> (intro e; exact Exit.noConfusion e)) ?_ ?_; all_goals clear h
              · intro v_239 x h R hR hX
                rw [m_cloth_stretches_1_L3] at h
                (conv => cbv)
                refine L_cut hI seat [1000007, 1000010] (by kernel_rfl) h (fun q => match q with | v_245 => .normal) (fun q => match q with | v_245 => ⟨111, [(0, .yld), (1, .ptr [.int .i64 p_1.First.Low, .int .i64 p_1.First.High, .int .i64 p_1.Rate.Low, .int .i64 p_1.Rate.High]), (2, .ptr [sl_api_ClothTrack false p_2.Tracks, sl_api_ClothMeasure false p_2.Measures]), (3, .ptr [.int .i64 p_3]), (4, .ptr [.d (.fn kp_4 dsp_4)]), (6, .int .i64 v_89), (7, .loc 0 0), (9, .loc 1 0), (25, sl_api_ClothMeasure false p_2.Measures), (26, .int .i64 v_174), (27, .int .i64 v_201), (62, .bool v_245)], [(1, ⟨129, [.int .i64 x_232.What, .int .i64 x_232.Hour, .int .i64 x_232.Reading, .int .i64 x_232.Off], true⟩), (0, ⟨109, [.int .i64 v_239, .int .i64 v_203, .int .i64 v_89], true⟩)], [], 0⟩) ?_ ?_; all_goals clear h
                · intro x h R hR
                  (conv => cbv)
                  refine L_tst hI h (by subst_vars; rfl) ?_ ?_ <;> clear h <;> intro h
                  · refine L_call hI h (fun v hv => w_cloth_after N v_239 v_89 x_232.Hour v hv) (by subst_vars; exact ⟨(leD_refl _), (leD_refl _), (leD_refl _), rfl⟩) ?_; clear h; intro r_246 h; (conv => cbv)
                    exact hR _ _ (Option.some.inj h).symm (by subst_vars; exact weak_l rfl rfl ⟨lR, lE, lE, lE, lE, lE, lR, lR, LV_sl, lE, lE, lE, trivial⟩ ⟨lB ⟨lE, lE, lE, lE, rfl⟩, lB ⟨lE, lE, lE, rfl⟩, trivial⟩ trivial)
                  · exact hR _ _ (Option.some.inj h).symm (by subst_vars; exact weak_l rfl rfl ⟨lR, lE, lE, lE, lE, lE, lR, lR, LV_sl, lE, lE, lE, trivial⟩ ⟨lB ⟨lE, lE, lE, lE, rfl⟩, lB ⟨lE, lE, lE, rfl⟩, trivial⟩ trivial)
                · intro v_245 h
                  (conv => cbv)
                  refine L_tst hI h (by subst_vars; rfl) ?_ ?_ <;> clear h <;> intro h
                  · exact hR _ _ (Option.some.inj h).symm (by subst_vars; exact weak_l rfl rfl ⟨lR, lE, lE, lE, lE, lE, lR, lR, LV_sl, lE, lE, trivial⟩ ⟨lB ⟨lE, lE, lE, lE, rfl⟩, lB ⟨lE, lE, lE, rfl⟩, trivial⟩ trivial)
                  · exact hX _ _ (Option.some.inj h).symm (by subst_vars; exact weak_l rfl rfl ⟨lR, lE, lE, lE, lE, lE, lR, lR, LV_sl, lE, lE, trivial⟩ ⟨lB ⟨lE, lE, lE, lE, rfl⟩, lB ⟨lE, lE, lE, rfl⟩, trivial⟩ trivial)
              · intro v_243 h
                (conv => cbv)
                refine L_loop hI seat [1000007, 1000008, 1000010] (by kernel_rfl) h (fun q => match q with | v_250 => ⟨111, [(0, .yld), (1, .ptr [.int .i64 p_1.First.Low, .int .i64 p_1.First.High, .int .i64 p_1.Rate.Low, .int .i64 p_1.Rate.High]), (2, .ptr [sl_api_ClothTrack false p_2.Tracks, sl_api_ClothMeasure false p_2.Measures]), (3, .ptr [.int .i64 p_3]), (4, .ptr [.d (.fn kp_4 dsp_4)]), (6, .int .i64 v_89), (7, .loc 0 0), (9, .loc 1 0), (25, sl_api_ClothMeasure false p_2.Measures), (26, .int .i64 v_174), (27, .int .i64 v_201)], [(1, ⟨129, [.int .i64 x_232.What, .int .i64 x_232.Hour, .int .i64 x_232.Reading, .int .i64 x_232.Off], true⟩), (0, ⟨109, [.int .i64 v_243, .int .i64 v_250, .int .i64 v_89], true⟩)], [], 0⟩) (fun q => match q with | v_254 => .exit 6) (fun q => match q with | v_254 => ⟨111, [(0, .yld), (1, .ptr [.int .i64 p_1.First.Low, .int .i64 p_1.First.High, .int .i64 p_1.Rate.Low, .int .i64 p_1.Rate.High]), (2, .ptr [sl_api_ClothTrack false p_2.Tracks, sl_api_ClothMeasure false p_2.Measures]), (3, .ptr [.int .i64 p_3]), (4, .ptr [.d (.fn kp_4 dsp_4)]), (6, .int .i64 v_89), (7, .loc 0 0), (25, sl_api_ClothMeasure false p_2.Measures), (26, .int .i64 v_174), (27, .int .i64 v_201)], [(0, ⟨109, [.int .i64 v_243, .int .i64 v_254, .int .i64 v_89], true⟩)], [], 0⟩) (by subst_vars; exact weak_l rfl rfl ⟨lR, lE, lE, lE, lE, lE, lR, lR, LV_sl, lE, lE, trivial⟩ ⟨lB ⟨lE, lE, lE, lE, rfl⟩, lB ⟨lE, lE, lE, rfl⟩, trivial⟩ trivial) (by intro q; rcases q with v_254 <;> (intro e; exact Exit.noConfusion e)) ?_ ?_; all_goals clear h
                · intro v_250 x h R hR hX
                  rw [m_cloth_stretches_1_L4] at h
                  (conv => cbv)
                  refine L_cut hI seat [1000007, 1000008] (by kernel_rfl) h (fun q => match q with | v_256 => .normal) (fun q => match q with | v_256 => ⟨111, [(0, .yld), (1, .ptr [.int .i64 p_1.First.Low, .int .i64 p_1.First.High, .int .i64 p_1.Rate.Low, .int .i64 p_1.Rate.High]), (2, .ptr [sl_api_ClothTrack false p_2.Tracks, sl_api_ClothMeasure false p_2.Measures]), (3, .ptr [.int .i64 p_3]), (4, .ptr [.d (.fn kp_4 dsp_4)]), (6, .int .i64 v_89), (7, .loc 0 0), (9, .loc 1 0), (25, sl_api_ClothMeasure false p_2.Measures), (26, .int .i64 v_174), (27, .int .i64 v_201), (90, .bool v_256)], [(1, ⟨129, [.int .i64 x_232.What, .int .i64 x_232.Hour, .int .i64 x_232.Reading, .int .i64 x_232.Off], true⟩), (0, ⟨109, [.int .i64 v_243, .int .i64 v_250, .int .i64 v_89], true⟩)], [], 0⟩) ?_ ?_; all_goals clear h
                  · intro x h R hR
                    (conv => cbv)
                    refine L_tst hI h (by subst_vars; rfl) ?_ ?_ <;> clear h <;> intro h
                    · refine L_call hI h (fun v hv => w_cloth_after N v_250 v_89 x_232.Hour v hv) (by subst_vars; exact ⟨(leD_refl _), (leD_refl _), (leD_refl _), rfl⟩) ?_; clear h; intro r_257 h; (conv => cbv)
                      exact hR _ _ (Option.some.inj h).symm (by subst_vars; exact weak_l rfl rfl ⟨lR, lE, lE, lE, lE, lE, lR, lR, LV_sl, lE, lE, lE, trivial⟩ ⟨lB ⟨lE, lE, lE, lE, rfl⟩, lB ⟨lE, lE, lE, rfl⟩, trivial⟩ trivial)
                    · exact hR _ _ (Option.some.inj h).symm (by subst_vars; exact weak_l rfl rfl ⟨lR, lE, lE, lE, lE, lE, lR, lR, LV_sl, lE, lE, lE, trivial⟩ ⟨lB ⟨lE, lE, lE, lE, rfl⟩, lB ⟨lE, lE, lE, rfl⟩, trivial⟩ trivial)
                  · intro v_256 h
                    (conv => cbv)
                    refine L_tst hI h (by subst_vars; rfl) ?_ ?_ <;> clear h <;> intro h
                    · exact hR _ _ (Option.some.inj h).symm (by subst_vars; exact weak_l rfl rfl ⟨lR, lE, lE, lE, lE, lE, lR, lR, LV_sl, lE, lE, trivial⟩ ⟨lB ⟨lE, lE, lE, lE, rfl⟩, lB ⟨lE, lE, lE, rfl⟩, trivial⟩ trivial)
                    · exact hX _ _ (Option.some.inj h).symm (by subst_vars; exact weak_l rfl rfl ⟨lR, lE, lE, lE, lE, lE, lR, LV_sl, lE, lE, trivial⟩ ⟨lB ⟨lE, lE, lE, rfl⟩, trivial⟩ trivial)
                · intro v_254 h
                  (conv => cbv)
                  exact hR _ _ (Option.some.inj h).symm (by subst_vars; exact weak_l rfl rfl ⟨lR, lE, lE, lE, lE, lE, lR, LV_sl, lE, lE, trivial⟩ ⟨lB ⟨lE, lE, lE, rfl⟩, trivial⟩ trivial)
        · exact hX _ _ (Option.some.inj h).symm (by subst_vars; exact weak_l rfl rfl ⟨lR, lE, lE, lE, lE, lE, lR, trivial⟩ ⟨lB ⟨lE, lE, lE, rfl⟩, trivial⟩ trivial)
      · intro q h
        rcases q with ⟨v_230, v_231⟩
        (conv => cbv)
        refine L_tst hI h (by subst_vars; rfl) ?_ ?_ <;> clear h <;> intro h
        · refine L_yield hI hTk (y := (cloth_stretch.mk (api_Span.mk v_230 v_231) v_89)) h hy (by subst_vars; rfl) ?_ ?_ <;> clear h hy
          · intro zs s h hy
            (conv => cbv)
            refine K_tst hI (fun hq => by first | (rw [hI] at hq; cases hq; done) | cases hq) (fun _ => ?_)
            obtain ⟨rfl, rfl⟩ := L_leafY h; exact hR _ _ _ rfl hy (by subst_vars; exact weak_l rfl rfl ⟨lR, lE, lE, lE, lE, lE, trivial⟩ trivial trivial)
          · intro s hfin
            (conv => cbv)
            refine K_tst hI (fun _ => ?_) (fun hq => by first | (rw [hI] at hq; cases hq; done) | cases hq)
            exact hF _ _ hfin
        · obtain ⟨rfl, rfl⟩ := L_leafY h; exact hR _ _ _ rfl hy (by subst_vars; exact weak_l rfl rfl ⟨lR, lE, lE, lE, lE, lE, trivial⟩ trivial trivial)
    · obtain ⟨rfl, rfl⟩ := L_leafY h; exact hX _ _ _ rfl hy (by subst_vars; exact weak_l rfl rfl trivial trivial trivial)
  · intro q zs s h hy
    (conv => cbv)
    exact Y_end hTk h hy
  · intro S1 s hfin
    (conv => cbv)
    exact hfin
def m_cloth_open (N : Nat) (c_1 : api_Cloth) : Option (A3_L_cloth_stretch × Int) :=
  (m_cloth_Check N c_1).bind fun r_2 =>
  if icmpR .neq r_2 0 then
    some ((A3_L_cloth_stretch.mk [] [] []), r_2)
  else
    (m_cloth_stretches N c_1 0 (fun x0 => m_cloth_none N x0)).bind fun r_3 =>
    (m_it_cloth_stretches_1 N r_3.1 r_3.2.1 r_3.2.2 (fun x0 => m_cloth_none N x0)).bind fun ys_4 =>
    (m_slices_Collect_cloth_stretch N ys_4).bind fun r_5 =>
    if icmpR .eql ((r_5.length : Nat) : Int) 0 then
      some ((A3_L_cloth_stretch.mk r_5 [] []), 9)
    else
      (m_cloth_stretches N c_1 1 (fun x0 => m_cloth_none N x0)).bind fun r_6 =>
      (m_it_cloth_stretches_1 N r_6.1 r_6.2.1 r_6.2.2 (fun x0 => m_cloth_none N x0)).bind fun ys_7 =>
      (m_slices_Collect_cloth_stretch N ys_7).bind fun r_8 =>
      if icmpR .eql ((r_8.length : Nat) : Int) 0 then
        some ((A3_L_cloth_stretch.mk r_5 r_8 []), 9)
      else
        (m_cloth_stretches N c_1 2 (fun x0 => m_cloth_none N x0)).bind fun r_9 =>
        (m_it_cloth_stretches_1 N r_9.1 r_9.2.1 r_9.2.2 (fun x0 => m_cloth_none N x0)).bind fun ys_10 =>
        (m_slices_Collect_cloth_stretch N ys_10).bind fun r_11 =>
        if icmpR .eql ((r_11.length : Nat) : Int) 0 then
          some ((A3_L_cloth_stretch.mk r_5 r_8 r_11), 9)
        else
          some ((A3_L_cloth_stretch.mk r_5 r_8 r_11), 0)
theorem w_cloth_open (N : Nat) (c_1 : api_Cloth) (o : A3_L_cloth_stretch × Int) (h : m_cloth_open N c_1 = some o) :
    KC Try.prog 23 [.agg [sl_api_ClothTrack false c_1.Tracks, sl_api_ClothMeasure false c_1.Measures]] (.tup [.agg [sl_cloth_stretch false o.1.a0, sl_cloth_stretch false o.1.a1, sl_cloth_stretch false o.1.a2], .int .i64 o.2]) [] := by
  unfold m_cloth_open at h
  refine con_l [] [] seat Try.func23 rfl ent_23 (by kernel_rfl) rfl rfl (by simp) ?_; intro base I hI; (conv => cbv)
  refine L_call hI h (fun v hv => w_cloth_Check N c_1 v hv) (by subst_vars; exact ⟨(leD_refl _), rfl⟩) ?_; clear h; intro r_2 h; (conv => cbv)
  refine L_tst hI h (by subst_vars; rfl) ?_ ?_ <;> clear h <;> intro h
  · cases h
    subst_vars
    exact ⟨(LV_tup ⟨(LV_agg ⟨LV_nil, LV_nil, LV_nil, rfl⟩), lE, rfl⟩), rfl⟩
  · refine W_unroll hI seat [] (by kernel_rfl) 5 ?_; (conv => cbv)
    refine L_call hI h (fun v hv => w_cloth_stretches N c_1 0 (fun x0 => m_cloth_none N x0) 49 (KV.toDL []) rfl (fun x0 r hr => KD_of (caps := []) (w_cloth_none N x0 r hr)) v hv) (by subst_vars; exact ⟨(leD_refl _), (leD_refl _), (leD_refl _), rfl⟩) ?_; clear h; intro r_3 h; (conv => cbv)
    replace h := bind_of h; obtain ⟨ys_4, hyys_4, h⟩ := h
    refine L_call hI h (fun v hv => w_slices_Collect_cloth_stretch N ys_4 68 (KV.toDL [.ptr [.int .i64 r_3.1.First.Low, .int .i64 r_3.1.First.High, .int .i64 r_3.1.Rate.Low, .int .i64 r_3.1.Rate.High], .ptr [sl_api_ClothTrack false r_3.2.1.Tracks, sl_api_ClothMeasure false r_3.2.1.Measures], .ptr [.int .i64 r_3.2.2], .ptr [.dfn 49 []]]) rfl (i_cloth_stretches_1 N r_3.1 r_3.2.1 r_3.2.2 (fun x0 => m_cloth_none N x0) 49 (KV.toDL []) rfl (fun x0 r hr => KD_of (caps := []) (w_cloth_none N x0 r hr)) ys_4 hyys_4) v hv) (by subst_vars; exact ⟨(leD_refl _), rfl⟩) ?_; clear h; intro r_5 h; (conv => cbv)
    refine L_tst hI h (by subst_vars; rfl) ?_ ?_ <;> clear h <;> intro h
    · cases h
      subst_vars
      exact ⟨(LV_tup ⟨(LV_agg ⟨LV_sl, LV_nil, LV_nil, rfl⟩), lE, rfl⟩), rfl⟩
    · refine L_call hI h (fun v hv => w_cloth_stretches N c_1 1 (fun x0 => m_cloth_none N x0) 49 (KV.toDL []) rfl (fun x0 r hr => KD_of (caps := []) (w_cloth_none N x0 r hr)) v hv) (by subst_vars; exact ⟨(leD_refl _), (leD_refl _), (leD_refl _), rfl⟩) ?_; clear h; intro r_6 h; (conv => cbv)
      replace h := bind_of h; obtain ⟨ys_7, hyys_7, h⟩ := h
      refine L_call hI h (fun v hv => w_slices_Collect_cloth_stretch N ys_7 68 (KV.toDL [.ptr [.int .i64 r_6.1.First.Low, .int .i64 r_6.1.First.High, .int .i64 r_6.1.Rate.Low, .int .i64 r_6.1.Rate.High], .ptr [sl_api_ClothTrack false r_6.2.1.Tracks, sl_api_ClothMeasure false r_6.2.1.Measures], .ptr [.int .i64 r_6.2.2], .ptr [.dfn 49 []]]) rfl (i_cloth_stretches_1 N r_6.1 r_6.2.1 r_6.2.2 (fun x0 => m_cloth_none N x0) 49 (KV.toDL []) rfl (fun x0 r hr => KD_of (caps := []) (w_cloth_none N x0 r hr)) ys_7 hyys_7) v hv) (by subst_vars; exact ⟨(leD_refl _), rfl⟩) ?_; clear h; intro r_8 h; (conv => cbv)
      refine L_tst hI h (by subst_vars; rfl) ?_ ?_ <;> clear h <;> intro h
      · cases h
        subst_vars
        exact ⟨(LV_tup ⟨(LV_agg ⟨LV_sl, LV_sl, LV_nil, rfl⟩), lE, rfl⟩), rfl⟩
      · refine L_call hI h (fun v hv => w_cloth_stretches N c_1 2 (fun x0 => m_cloth_none N x0) 49 (KV.toDL []) rfl (fun x0 r hr => KD_of (caps := []) (w_cloth_none N x0 r hr)) v hv) (by subst_vars; exact ⟨(leD_refl _), (leD_refl _), (leD_refl _), rfl⟩) ?_; clear h; intro r_9 h; (conv => cbv)
        replace h := bind_of h; obtain ⟨ys_10, hyys_10, h⟩ := h
        refine L_call hI h (fun v hv => w_slices_Collect_cloth_stretch N ys_10 68 (KV.toDL [.ptr [.int .i64 r_9.1.First.Low, .int .i64 r_9.1.First.High, .int .i64 r_9.1.Rate.Low, .int .i64 r_9.1.Rate.High], .ptr [sl_api_ClothTrack false r_9.2.1.Tracks, sl_api_ClothMeasure false r_9.2.1.Measures], .ptr [.int .i64 r_9.2.2], .ptr [.dfn 49 []]]) rfl (i_cloth_stretches_1 N r_9.1 r_9.2.1 r_9.2.2 (fun x0 => m_cloth_none N x0) 49 (KV.toDL []) rfl (fun x0 r hr => KD_of (caps := []) (w_cloth_none N x0 r hr)) ys_10 hyys_10) v hv) (by subst_vars; exact ⟨(leD_refl _), rfl⟩) ?_; clear h; intro r_11 h; (conv => cbv)
        refine L_tst hI h (by subst_vars; rfl) ?_ ?_ <;> clear h <;> intro h
        · cases h
          subst_vars
          exact ⟨(LV_tup ⟨(LV_agg ⟨LV_sl, LV_sl, LV_sl, rfl⟩), lE, rfl⟩), rfl⟩
        · cases h
          subst_vars
          exact ⟨(LV_tup ⟨(LV_agg ⟨LV_sl, LV_sl, LV_sl, rfl⟩), lE, rfl⟩), rfl⟩
def m_cloth_hull (N : Nat) (a_1 : api_Span) (b_2 : api_Span) : Option (api_Span) :=
  some (api_Span.mk (min a_1.Low b_2.Low) (max a_1.High b_2.High))
theorem w_cloth_hull (N : Nat) (a_1 : api_Span) (b_2 : api_Span) (o : api_Span) (h : m_cloth_hull N a_1 b_2 = some o) :
    KC Try.prog 71 [.agg [.int .i64 a_1.Low, .int .i64 a_1.High], .agg [.int .i64 b_2.Low, .int .i64 b_2.High]] (.agg [.int .i64 o.Low, .int .i64 o.High]) [] := by
  unfold m_cloth_hull at h
  refine con_l [] [] seat Try.func71 rfl ent_71 (by kernel_rfl) rfl rfl (by simp) ?_; intro base I hI; (conv => cbv)
  cases h
  subst_vars
  exact ⟨(LV_agg ⟨lE, lE, rfl⟩), rfl⟩
def m_cloth_hulled_L1 (N : Nat) (v_6 : Int) (v_5 : (List cloth_stretch)) (of_2 : cloth_stretch → Option api_Span) : (Int × Int × Int) → Option ((Int × Int × Int) ⊕ (Int × Int))
  | (v_10, out_11, out_12) =>
    if icmpR .lss v_10 v_6 then
      (getO d_cloth_stretch v_5 v_10).bind fun x_18 =>
      (of_2 x_18).bind fun v_19 =>
      (m_cloth_hull N (api_Span.mk out_11 out_12) v_19).bind fun r_20 =>
      some (.inl (iopR .add .i64 v_10 1, r_20.Low, r_20.High))
    else
      some (.inr (out_11, out_12))
def m_cloth_hulled (N : Nat) (l_1 : (List cloth_stretch)) (of_2 : cloth_stretch → Option api_Span) : Option (api_Span) :=
  (getO d_cloth_stretch l_1 0).bind fun x_3 =>
  (of_2 x_3).bind fun v_4 =>
  if (0 : Int) ≤ 1 then
    if (1 : Int) ≤ ((l_1.length : Nat) : Int) then
      if ((l_1.length : Nat) : Int) ≤ ((l_1.length : Nat) : Int) then
        letO ((l_1.take ((l_1.length : Nat) : Int).toNat).drop 1 : (List cloth_stretch)) fun v_5 =>
        letO (((((l_1.take ((l_1.length : Nat) : Int).toNat).drop 1).length : Nat) : Int) : Int) fun v_6 =>
        (loopO (m_cloth_hulled_L1 N v_6 v_5 of_2) N (0, v_4.Low, v_4.High)).bind fun q => match q with
        | (out_16, out_17) =>
          some (api_Span.mk out_16 out_17)
      else none
    else none
  else none
theorem w_cloth_hulled (N : Nat) (l_1 : (List cloth_stretch)) (of_2 : cloth_stretch → Option api_Span) (kof_2 : Nat) (dsof_2 : List D) (hdof_2 : noAggD dsof_2 = true) (hpof_2 : ∀ x0 r, of_2 x0 = some r → KD Try.prog kof_2 [.agg [.int .i64 x0.Span.Low, .int .i64 x0.Span.High, .int .i64 x0.rate]] dsof_2 (.agg [.int .i64 r.Low, .int .i64 r.High])) (o : api_Span) (h : m_cloth_hulled N l_1 of_2 = some o) :
    KC Try.prog 52 [sl_cloth_stretch false l_1, .d (.fn kof_2 dsof_2)] (.agg [.int .i64 o.Low, .int .i64 o.High]) [] := by
  unfold m_cloth_hulled at h
  refine con_l [] [] seat Try.func52 rfl ent_52 (by kernel_rfl) rfl rfl (by simp) ?_; intro base I hI; (conv => cbv)
  refine L_get hI h (fun g => by subst_vars; exact g) ?_; clear h; intro hc x_3 hxx_3 h
  refine K_conj hI (by subst_vars; exact hdof_2) ?_
  refine L_callD hI h (args' := [.agg [.int .i64 x_3.Span.Low, .int .i64 x_3.Span.High, .int .i64 x_3.rate]]) (fun v hv => hpof_2 x_3 v hv) (by subst_vars; rfl) ?_; clear h; intro v_4 h; (conv => cbv)
  refine L_conj hI h (fun g => by subst_vars; exact g) ?_; clear h; intro hc h
  refine L_conj hI h (fun g => by subst_vars; exact g) ?_; clear h; intro hc h
  refine L_conj hI h (fun g => by subst_vars; exact g) ?_; clear h; intro hc h
  replace h := letO_of h; obtain ⟨v_5, hev_5, h⟩ := h
  replace h := letO_of h; obtain ⟨v_6, hev_6, h⟩ := h
  refine L_loop hI seat [] (by kernel_rfl) h (fun q => match q with | (v_10, out_11, out_12) => ⟨27, [(1, .d (.fn kof_2 dsof_2)), (4, .loc 0 0), (5, .loc 1 0), (14, sl_cloth_stretch false v_5), (15, .int .i64 v_6), (16, .int .i64 v_10)], [(1, ⟨35, [.int .i64 out_11, .int .i64 out_12], true⟩), (0, ⟨35, [.lit .i64 0, .lit .i64 0], true⟩)], [], 0⟩) (fun q => match q with | (out_16, out_17) => .exit 0) (fun q => match q with | (out_16, out_17) => ⟨27, [(4, .loc 0 0), (5, .loc 1 0)], [(1, ⟨35, [.int .i64 out_16, .int .i64 out_17], true⟩), (0, ⟨35, [.lit .i64 0, .lit .i64 0], true⟩)], [], 0⟩) (by subst_vars; exact weak_l rfl rfl ⟨lR, lR, lR, LV_sl, lE, lE, trivial⟩ ⟨lB ⟨lE, lE, rfl⟩, lB ⟨lE, lE, rfl⟩, trivial⟩ trivial) (by intro q; rcases q with ⟨out_16, out_17⟩ <;> (intro e; exact Exit.noConfusion e)) ?_ ?_; all_goals clear h
  · intro q x h R hR hX
    obtain ⟨v_10, out_11, out_12⟩ := q
    rw [m_cloth_hulled_L1] at h
    (conv => cbv)
    refine L_tst hI h (by subst_vars; rfl) ?_ ?_ <;> clear h <;> intro h
    · refine L_get hI h (fun g => by subst_vars; exact g) ?_; clear h; intro hc x_18 hxx_18 h
      refine K_conj hI (by subst_vars; exact hdof_2) ?_
      refine L_callD hI h (args' := [.agg [.int .i64 x_18.Span.Low, .int .i64 x_18.Span.High, .int .i64 x_18.rate]]) (fun v hv => hpof_2 x_18 v hv) (by subst_vars; rfl) ?_; clear h; intro v_19 h; (conv => cbv)
      refine L_call hI h (fun v hv => w_cloth_hull N (api_Span.mk out_11 out_12) v_19 v hv) (by subst_vars; exact ⟨⟨(leD_refl _), (leD_refl _), rfl⟩, (leD_refl _), rfl⟩) ?_; clear h; intro r_20 h; (conv => cbv)
      exact hR _ _ (Option.some.inj h).symm (by subst_vars; exact weak_l rfl rfl ⟨lR, lR, lR, LV_sl, lE, lE, trivial⟩ ⟨lB ⟨lE, lE, rfl⟩, lB ⟨lE, lE, rfl⟩, trivial⟩ trivial)
    · exact hX _ _ (Option.some.inj h).symm (by subst_vars; exact weak_l rfl rfl ⟨lR, lR, trivial⟩ ⟨lB ⟨lE, lE, rfl⟩, lB ⟨lE, lE, rfl⟩, trivial⟩ trivial)
  · intro q h
    rcases q with ⟨out_16, out_17⟩
    (conv => cbv)
    cases h
    subst_vars
    exact ⟨(LV_agg ⟨lE, lE, rfl⟩), rfl⟩
def m_cloth_stretch_at (N : Nat) (s_1 : cloth_stretch) (hour_2 : Int) : Option (api_Span) :=
  (m_cloth_after N s_1.Span.Low s_1.rate hour_2).bind fun r_3 =>
  (m_cloth_after N s_1.Span.High s_1.rate hour_2).bind fun r_4 =>
  some (api_Span.mk r_3 r_4)
theorem w_cloth_stretch_at (N : Nat) (s_1 : cloth_stretch) (hour_2 : Int) (o : api_Span) (h : m_cloth_stretch_at N s_1 hour_2 = some o) :
    KC Try.prog 54 [.agg [.int .i64 s_1.Span.Low, .int .i64 s_1.Span.High, .int .i64 s_1.rate], .int .i64 hour_2] (.agg [.int .i64 o.Low, .int .i64 o.High]) [] := by
  unfold m_cloth_stretch_at at h
  refine con_l [] [] seat Try.func54 rfl ent_54 (by kernel_rfl) rfl rfl (by simp) ?_; intro base I hI; (conv => cbv)
  refine L_call hI h (fun v hv => w_cloth_after N s_1.Span.Low s_1.rate hour_2 v hv) (by subst_vars; exact ⟨(leD_refl _), (leD_refl _), (leD_refl _), rfl⟩) ?_; clear h; intro r_3 h; (conv => cbv)
  refine L_call hI h (fun v hv => w_cloth_after N s_1.Span.High s_1.rate hour_2 v hv) (by subst_vars; exact ⟨(leD_refl _), (leD_refl _), (leD_refl _), rfl⟩) ?_; clear h; intro r_4 h; (conv => cbv)
  cases h
  subst_vars
  exact ⟨(LV_agg ⟨lE, lE, rfl⟩), rfl⟩
def m_cloth_truths_at_1 (N : Nat) (s_1 : cloth_stretch) (p_2 : Int) : Option (api_Span) :=
  (m_cloth_stretch_at N s_1 p_2).bind fun r_3 =>
  some r_3
theorem w_cloth_truths_at_1 (N : Nat) (s_1 : cloth_stretch) (p_2 : Int) (o : api_Span) (h : m_cloth_truths_at_1 N s_1 p_2 = some o) :
    KC Try.prog 53 [.agg [.int .i64 s_1.Span.Low, .int .i64 s_1.Span.High, .int .i64 s_1.rate], .ptr [.int .i64 p_2]] (.agg [.int .i64 o.Low, .int .i64 o.High]) [] := by
  unfold m_cloth_truths_at_1 at h
  refine con_l [] [] seat Try.func53 rfl ent_53 (by kernel_rfl) rfl rfl (by simp) ?_; intro base I hI; (conv => cbv)
  refine L_call hI h (fun v hv => w_cloth_stretch_at N s_1 p_2 v hv) (by subst_vars; exact ⟨(leD_refl _), (leD_refl _), rfl⟩) ?_; clear h; intro r_3 h; (conv => cbv)
  cases h
  subst_vars
  exact ⟨(LV_agg ⟨lE, lE, rfl⟩), rfl⟩
def m_cloth_truths_at (N : Nat) (t_1 : A3_L_cloth_stretch) (what_2 : Int) (hour_3 : Int) : Option (api_Span) :=
  (show Option (Int × Int) from
    if 0 ≤ what_2 ∧ what_2 < (3 : Int) then
      if icmpR .eql what_2 0 then
        (m_cloth_hulled N t_1.a0 (fun x0 => m_cloth_truths_at_1 N x0 hour_3)).bind fun r_9 =>
        some (r_9.Low, r_9.High)
      else
        if icmpR .eql what_2 1 then
          (m_cloth_hulled N t_1.a1 (fun x0 => m_cloth_truths_at_1 N x0 hour_3)).bind fun r_10 =>
          some (r_10.Low, r_10.High)
        else
          (m_cloth_hulled N t_1.a2 (fun x0 => m_cloth_truths_at_1 N x0 hour_3)).bind fun r_11 =>
          some (r_11.Low, r_11.High)
    else none).bind fun q => match q with
  | (v_7, v_8) =>
    some (api_Span.mk v_7 v_8)
theorem w_cloth_truths_at (N : Nat) (t_1 : A3_L_cloth_stretch) (what_2 : Int) (hour_3 : Int) (o : api_Span) (h : m_cloth_truths_at N t_1 what_2 hour_3 = some o) :
    KC Try.prog 26 [.agg [sl_cloth_stretch false t_1.a0, sl_cloth_stretch false t_1.a1, sl_cloth_stretch false t_1.a2], .int .i64 what_2, .int .i64 hour_3] (.agg [.int .i64 o.Low, .int .i64 o.High]) [] := by
  unfold m_cloth_truths_at at h
  refine con_l [] [1000001] seat Try.func26 rfl ent_26 (by kernel_rfl) rfl rfl (by simp) ?_; intro base I hI; (conv => cbv)
  refine L_cut hI seat [] (by kernel_rfl) h (fun q => match q with | (v_7, v_8) => .normal) (fun q => match q with | (v_7, v_8) => ⟨12, [(6, .loc 2 0)], [(2, ⟨35, [.int .i64 v_7, .int .i64 v_8], true⟩)], [], 0⟩) ?_ ?_; all_goals clear h
  · intro x h R hR
    (conv => cbv)
    refine L_conj hI h (fun g => by subst_vars; exact g) ?_; clear h; intro hc h
    refine L_tst hI h (by subst_vars; rfl) ?_ ?_ <;> clear h <;> intro h
    · refine L_call hI h (fun v hv => w_cloth_hulled N t_1.a0 (fun x0 => m_cloth_truths_at_1 N x0 hour_3) 53 (KV.toDL [.ptr [.int .i64 hour_3]]) rfl (fun x0 r hr => KD_of (caps := [.ptr [.int .i64 hour_3]]) (w_cloth_truths_at_1 N x0 hour_3 r hr)) v hv) (by subst_vars; exact ⟨(leD_refl _), (leD_refl _), rfl⟩) ?_; clear h; intro r_9 h; (conv => cbv)
      exact hR _ _ (Option.some.inj h).symm (by subst_vars; exact weak_l rfl rfl ⟨lR, trivial⟩ ⟨lB ⟨lE, lE, rfl⟩, trivial⟩ trivial)
    · refine L_tst hI h (by subst_vars; rfl) ?_ ?_ <;> clear h <;> intro h
      · refine L_call hI h (fun v hv => w_cloth_hulled N t_1.a1 (fun x0 => m_cloth_truths_at_1 N x0 hour_3) 53 (KV.toDL [.ptr [.int .i64 hour_3]]) rfl (fun x0 r hr => KD_of (caps := [.ptr [.int .i64 hour_3]]) (w_cloth_truths_at_1 N x0 hour_3 r hr)) v hv) (by subst_vars; exact ⟨(leD_refl _), (leD_refl _), rfl⟩) ?_; clear h; intro r_10 h; (conv => cbv)
        exact hR _ _ (Option.some.inj h).symm (by subst_vars; exact weak_l rfl rfl ⟨lR, trivial⟩ ⟨lB ⟨lE, lE, rfl⟩, trivial⟩ trivial)
      · refine L_call hI h (fun v hv => w_cloth_hulled N t_1.a2 (fun x0 => m_cloth_truths_at_1 N x0 hour_3) 53 (KV.toDL [.ptr [.int .i64 hour_3]]) rfl (fun x0 r hr => KD_of (caps := [.ptr [.int .i64 hour_3]]) (w_cloth_truths_at_1 N x0 hour_3 r hr)) v hv) (by subst_vars; exact ⟨(leD_refl _), (leD_refl _), rfl⟩) ?_; clear h; intro r_11 h; (conv => cbv)
        exact hR _ _ (Option.some.inj h).symm (by subst_vars; exact weak_l rfl rfl ⟨lR, trivial⟩ ⟨lB ⟨lE, lE, rfl⟩, trivial⟩ trivial)
  · intro q h
    rcases q with ⟨v_7, v_8⟩
    (conv => cbv)
    cases h
    subst_vars
    exact ⟨(LV_agg ⟨lE, lE, rfl⟩), rfl⟩
def m_cloth_At (N : Nat) (c_1 : api_Cloth) (hour_2 : Int) : Option ((List api_Span) × Int) :=
  (m_cloth_open N c_1).bind fun r_3 =>
  if icmpR .neq r_3.2 0 then
    some ([], r_3.2)
  else
    (m_cloth_within N 0 48 [hour_2]).bind fun r_4 =>
    if !r_4 then
      some ([], 3)
    else
      (m_cloth_truths_at N r_3.1 0 hour_2).bind fun r_5 =>
      if fitsN (1) 16 then
        (m_cloth_truths_at N r_3.1 1 hour_2).bind fun r_6 =>
        if fitsN (2) 16 then
          (m_cloth_truths_at N r_3.1 2 hour_2).bind fun r_7 =>
          if fitsN (3) 16 then
            some ([r_5, r_6, r_7], 0)
          else none
        else none
      else none
theorem w_cloth_At (N : Nat) (c_1 : api_Cloth) (hour_2 : Int) (o : (List api_Span) × Int) (h : m_cloth_At N c_1 hour_2 = some o) :
    KC Try.prog 15 [.agg [sl_api_ClothTrack false c_1.Tracks, sl_api_ClothMeasure false c_1.Measures], .int .i64 hour_2] (.tup [sl_api_Span false o.1, .int .i64 o.2]) [] := by
  unfold m_cloth_At at h
  refine con_l [] [] seat Try.func15 rfl ent_15 (by kernel_rfl) rfl rfl (by simp) ?_; intro base I hI; (conv => cbv)
  refine L_call hI h (fun v hv => w_cloth_open N c_1 v hv) (by subst_vars; exact ⟨(leD_refl _), rfl⟩) ?_; clear h; intro r_3 h; (conv => cbv)
  refine L_tst hI h (by subst_vars; rfl) ?_ ?_ <;> clear h <;> intro h
  · cases h
    subst_vars
    exact ⟨(LV_tup ⟨LV_nil, lE, rfl⟩), rfl⟩
  · refine L_call hI h (fun v hv => w_cloth_within N 0 48 [hour_2] v hv) (by subst_vars; exact ⟨(leD_refl _), (leD_refl _), ⟨.inl rfl, rfl, leDLL_refl _⟩, rfl⟩) ?_; clear h; intro r_4 h; (conv => cbv)
    refine L_tst hI h (by subst_vars; rfl) ?_ ?_ <;> clear h <;> intro h
    · cases h
      subst_vars
      exact ⟨(LV_tup ⟨LV_nil, lE, rfl⟩), rfl⟩
    · refine W_unroll hI seat [] (by kernel_rfl) 5 ?_; (conv => cbv)
      refine L_call hI h (fun v hv => w_cloth_truths_at N r_3.1 0 hour_2 v hv) (by subst_vars; exact ⟨(leD_refl _), (leD_refl _), (leD_refl _), rfl⟩) ?_; clear h; intro r_5 h; (conv => cbv)
      refine L_conj hI h (fun g => by subst_vars; exact g) ?_; clear h; intro hc h
      refine L_call hI h (fun v hv => w_cloth_truths_at N r_3.1 1 hour_2 v hv) (by subst_vars; exact ⟨(leD_refl _), (leD_refl _), (leD_refl _), rfl⟩) ?_; clear h; intro r_6 h; (conv => cbv)
      refine L_conj hI h (fun g => by subst_vars; exact g) ?_; clear h; intro hc h
      refine L_call hI h (fun v hv => w_cloth_truths_at N r_3.1 2 hour_2 v hv) (by subst_vars; exact ⟨(leD_refl _), (leD_refl _), (leD_refl _), rfl⟩) ?_; clear h; intro r_7 h; (conv => cbv)
      refine L_conj hI h (fun g => by subst_vars; exact g) ?_; clear h; intro hc h
      cases h
      subst_vars
      exact ⟨(LV_tup ⟨(LV_slr rfl), lE, rfl⟩), rfl⟩
end Go.Proofs.Ytelnoeamkdpjhaa.Aw

/- Plain models for the tops of cloth and stream. Printed by wip/gen/pm.py. -/
namespace Go.Proofs.Ytelnoeamkdpjhaa.Aw
open Go Go.RowKit Go.Proofs
set_option maxRecDepth 100000
set_option maxHeartbeats 4000000
set_option linter.unusedSimpArgs false
set_option linter.unusedVariables false
def m_stream_newMiller (N : Nat) (p_1 : stream_valley) (hours_2 : Int) : Option (stream_miller) :=
  if (0 : Int) ≤ 0 then
    if (0 : Int) ≤ hours_2 then
      if hours_2 ≤ ((p_1.flows.length : Nat) : Int) then
        some (stream_miller.mk (stream_valley.mk p_1.StreamMill ((p_1.flows.take hours_2.toNat).drop 0)) [])
      else none
    else none
  else none
def m_stream_miller_after (N : Nat) (x_1 : stream_miller) (s_2 : stream_spot) (hammers_3 : Int) : Option (stream_spot) :=
  (getO d_api_Span x_1.valley.flows s_2.hour).bind fun x_4 =>
  some (stream_spot.mk (iopR .add .i64 s_2.hour 1) (iopR .sub .i64 (min x_1.valley.StreamMill.Holds (iopR .add .i64 s_2.water x_4.Low)) (iopR .mul .i64 hammers_3 x_1.valley.StreamMill.Takes)))
def m_stream_miller_most_L1 (N : Nat) (v_5 : Int) (x_1 : stream_miller) (s_2 : stream_spot) (rec_0 : stream_miller → stream_spot → Option (Int × (List (stream_spot × Int)))) : (Int × Int × (List (stream_spot × Int))) → Option ((Int × Int × (List (stream_spot × Int))) ⊕ (Int × (List (stream_spot × Int))))
  | (best_11, v_12, l_13) =>
    if icmpR .lss v_12 v_5 then
      (m_stream_miller_after N (stream_miller.mk x_1.valley l_13) s_2 v_12).bind fun r_21 =>
      (show Option (Int × (List (stream_spot × Int))) from
        if icmpR .geq r_21.water 0 then
          (rec_0 (stream_miller.mk x_1.valley l_13) r_21).bind fun r_25 =>
          some (max best_11 (iopR .add .i64 v_12 r_25.1), r_25.2)
        else
          some (best_11, l_13)).bind fun q => match q with
      | (best_23, l_24) =>
        some (.inl (best_23, iopR .add .i64 v_12 1, l_24))
    else
      some (.inr (best_11, l_13))
def m_stream_miller_most_B (N : Nat) (rec_0 : stream_miller → stream_spot → Option (Int × (List (stream_spot × Int)))) (x_1 : stream_miller) (s_2 : stream_spot) : Option (Int × (List (stream_spot × Int))) :=
  if icmpR .eql s_2.hour ((x_1.valley.flows.length : Nat) : Int) then
    some (0, x_1.known)
  else
    letO (mget x_1.known s_2 0) fun x_3 =>
    letO (mhas x_1.known s_2) fun has_4 =>
    if has_4 then
      some (x_3, x_1.known)
    else
      letO (iopR .add .i64 x_1.valley.StreamMill.Hammers 1 : Int) fun v_5 =>
      (loopO (m_stream_miller_most_L1 N v_5 x_1 s_2 rec_0) N (0, 0, x_1.known)).bind fun q => match q with
      | (best_19, l_20) =>
        letO (mset l_20 s_2 best_19) fun l_26 =>
        some (best_19, l_26)
def m_stream_miller_most : Nat → stream_miller → stream_spot → Option (Int × (List (stream_spot × Int)))
  | 0 => fun _ _ => none
  | N + 1 => fun x_1 s_2 => m_stream_miller_most_B N (m_stream_miller_most N) x_1 s_2
def m_stream_Most_L2 (N : Nat) (r_4 : stream_miller) (v_37 : Int) (v_38 : Int) : (Int × Int × Int × (List (stream_spot × Int))) → Option ((Int × Int × Int × (List (stream_spot × Int))) ⊕ (Int × (List (stream_spot × Int))))
  | (v_83, v_84, v_85, l_86) =>
    (show Option (Bool × (List (stream_spot × Int))) from
      if icmpR .lss v_85 0 then
        some (true, l_86)
      else
        (m_stream_miller_most N (stream_miller.mk r_4.valley l_86) (stream_spot.mk v_84 v_85)).bind fun r_100 =>
        (m_stream_miller_most N (stream_miller.mk r_4.valley r_100.2) (stream_spot.mk v_37 v_38)).bind fun r_101 =>
        some (icmpR .lss (iopR .add .i64 v_83 r_100.1) r_101.1, r_101.2)).bind fun q => match q with
    | (v_98, l_99) =>
      if v_98 then
        (m_stream_miller_after N (stream_miller.mk r_4.valley l_99) (stream_spot.mk v_37 v_38) (iopR .add .i64 v_83 1)).bind fun r_102 =>
        some (.inl (iopR .add .i64 v_83 1, r_102.hour, r_102.water, l_99))
      else
        some (.inr (v_83, l_99))
def m_stream_Most_L1 (N : Nat) (p_2 : (List api_Span)) (r_4 : stream_miller) : (Int × Int × (List (stream_spot × Int)) × (List Int)) → Option ((Int × Int × (List (stream_spot × Int)) × (List Int)) ⊕ ((List Int)))
  | (v_37, v_38, l_39, v_40) =>
    if icmpR .lss v_37 ((p_2.length : Nat) : Int) then
      (m_stream_miller_after N (stream_miller.mk r_4.valley l_39) (stream_spot.mk v_37 v_38) 0).bind fun r_75 =>
      (loopO (m_stream_Most_L2 N r_4 v_37 v_38) N (0, r_75.hour, r_75.water, l_39)).bind fun q => match q with
      | (v_94, l_95) =>
        letO ((v_40 ++ [v_94]) : (List Int)) fun l_106 =>
        (show Option (Int × Int) from
          if fitsN (v_40.length + 1) 8 then
            (m_stream_miller_after N (stream_miller.mk r_4.valley l_95) (stream_spot.mk v_37 v_38) v_94).bind fun r_107 =>
            some (r_107.hour, r_107.water)
          else none).bind fun q => match q with
        | (v_104, v_105) =>
          some (.inl (v_104, v_105, l_95, l_106))
    else
      some (.inr v_40)
def m_stream_Most (N : Nat) (p_1 : api_StreamMill) (p_2 : (List api_Span)) : Option ((List Int) × Int) :=
  (m_stream_open N p_1 p_2).bind fun r_3 =>
  if icmpR .neq r_3.2 0 then
    some ([], r_3.2)
  else
    (m_stream_newMiller N r_3.1 ((p_2.length : Nat) : Int)).bind fun r_4 =>
    (loopO (m_stream_Most_L1 N p_2 r_4) N (0, p_1.Now.Low, r_4.known, [])).bind fun q => match q with
    | v_74 =>
      some (v_74, 0)
def m_top_firSame_L1 (N : Nat) (a_1 : (List Int)) (b_2 : (List Int)) : Int → Option ((Int) ⊕ ((Unit) ⊕ (Unit)))
  | i_5 =>
    if icmpR .lss i_5 ((a_1.length : Nat) : Int) then
      (getO 0 a_1 i_5).bind fun x_8 =>
      (getO 0 b_2 i_5).bind fun x_9 =>
      if icmpR .neq x_8 x_9 then
        some (.inr (.inl ()))
      else
        some (.inl (iopR .add .i64 i_5 1))
    else
      some (.inr (.inr ()))
def m_top_firSame (N : Nat) (a_1 : (List Int)) (b_2 : (List Int)) : Option (Bool) :=
  if icmpR .neq ((a_1.length : Nat) : Int) ((b_2.length : Nat) : Int) then
    some false
  else
    (loopO (m_top_firSame_L1 N a_1 b_2) N 0).bind fun q => match q with
    | (.inl ()) =>
      some false
    | (.inr ()) =>
      some true
def m_top_firKnown02 (N : Nat)  : Option (Bool) :=
  (m_top_firSpan N 30 40).bind fun r_1 =>
  (m_top_firSpan N 20 25).bind fun r_2 =>
  (m_top_firSpan N 10 20).bind fun r_3 =>
  (m_top_firSpan N 0 5).bind fun r_4 =>
  (m_top_firSpan N 15 30).bind fun r_5 =>
  (m_stream_Most N (api_StreamMill.mk 3 10 r_1 50 r_2) [r_3, r_4, r_5]).bind fun r_6 =>
  (show Option (Bool) from
    if icmpR .eql r_6.2 0 then
      (m_top_firSame N r_6.1 [0, 1, 3]).bind fun r_9 =>
      some r_9
    else
      some false).bind fun q => match q with
  | v_8 =>
    some v_8
end Go.Proofs.Ytelnoeamkdpjhaa.Aw

/- Plain models for the tops of cloth and stream. Printed by wip/gen/pm.py. -/
namespace Go.Proofs.Ytelnoeamkdpjhaa.Aw
open Go Go.RowKit Go.Proofs
set_option maxRecDepth 100000
set_option maxHeartbeats 4000000
set_option linter.unusedSimpArgs false
set_option linter.unusedVariables false
def e_u8 (x : Int) (j : Nat) : KV := .int .u8 x
def sl_u8 (c : Bool) (l : List Int) : KV := .sl c 1 Int 0 l e_u8
def m_top_firInts (N : Nat) (l_1 : (List Int)) : Option ((List Int)) :=
  if fitsN (l_1.length) 8 then
    some l_1
  else none
def m_stream_openPlan (N : Nat) (m_1 : api_StreamMill) (flows_2 : (List api_Span)) (plan_3 : (List Int)) (least_4 : Int) : Option (stream_valley × Int) :=
  (m_stream_open N m_1 flows_2).bind fun r_5 =>
  (show Option (Bool) from
    if icmpR .eql r_5.2 0 then
      (m_stream_within N least_4 ((flows_2.length : Nat) : Int) [((plan_3.length : Nat) : Int)]).bind fun r_9 =>
      if !r_9 then
        some true
      else
        (m_stream_within N 0 m_1.Hammers plan_3).bind fun r_10 =>
        some (!r_10)
    else
      some false).bind fun q => match q with
  | v_8 =>
    (show Option (Int) from
      if v_8 then
        some 4
      else
        some r_5.2).bind fun q => match q with
    | e_11 =>
      some (r_5.1, e_11)
def m_stream_Goes (N : Nat) (m_1 : api_StreamMill) (flows_2 : (List api_Span)) (plan_3 : (List Int)) : Option (Int × Bool × Int) :=
  (m_stream_openPlan N m_1 flows_2 plan_3 ((flows_2.length : Nat) : Int)).bind fun r_4 =>
  if icmpR .neq r_4.2 0 then
    some (0, false, r_4.2)
  else
    (m_stream_valley_dry N r_4.1 plan_3 (fun x0 => m_stream_low N x0)).bind fun r_5 =>
    if icmpR .eql r_5 (-1) then
      some (0, false, 7)
    else
      (m_stream_valley_dry N r_4.1 plan_3 (fun x0 => m_stream_high N x0)).bind fun r_6 =>
      some (r_5, icmpR .eql r_6 r_5, 0)
def m_stream_valley_isRight (N : Nat) (p_1 : stream_valley) (plan_2 : (List Int)) : Option (Bool) :=
  (m_stream_valley_dry N p_1 plan_2 (fun x0 => m_stream_low N x0)).bind fun r_3 =>
  some (icmpR .eql r_3 (-1))
def m_stream_Levels_L1 (N : Nat) : (Int × stream_tide) → (List api_Span) → Option (((List api_Span)) ⊕ (Empty))
  | y_8, l_9 =>
    if fitsN (l_9.length + 1) 16 then
      some (.inl (l_9 ++ [(api_Span.mk y_8.2.left 0)]))
    else none
def m_stream_Levels_L2 (N : Nat) : (Int × stream_tide) → (List api_Span) → Option (((List api_Span)) ⊕ (Empty))
  | y_12, l_14 =>
    if 0 ≤ y_12.1 ∧ y_12.1 < ((l_14.length : Nat) : Int) then
      if 0 ≤ y_12.1 ∧ y_12.1 < ((l_14.length : Nat) : Int) then
        letO (l_14.set y_12.1.toNat (api_Span.mk ((l_14.getD y_12.1.toNat d_api_Span).Low) y_12.2.left)) fun l_16 =>
        some (.inl l_16)
      else none
    else none
def m_stream_Levels (N : Nat) (m_1 : api_StreamMill) (flows_2 : (List api_Span)) (plan_3 : (List Int)) : Option ((List api_Span) × Int) :=
  (m_stream_openPlan N m_1 flows_2 plan_3 ((flows_2.length : Nat) : Int)).bind fun r_4 =>
  if icmpR .neq r_4.2 0 then
    some ([], r_4.2)
  else
    (m_stream_valley_isRight N r_4.1 plan_3).bind fun r_5 =>
    if !r_5 then
      some ([], 9)
    else
      (m_stream_valley_tides N r_4.1 plan_3 (fun x0 => m_stream_low N x0)).bind fun r_6 =>
      (m_it_stream_valley_tides_1 N (fun x0 => m_stream_low N x0) r_6.1 r_6.2).bind fun ys_7 =>
      (rangeO (m_stream_Levels_L1 N) ys_7 []).bind fun q => match q with
      | .inl l_9 =>
        (m_stream_valley_tides N r_4.1 plan_3 (fun x0 => m_stream_high N x0)).bind fun r_10 =>
        (m_it_stream_valley_tides_1 N (fun x0 => m_stream_high N x0) r_10.1 r_10.2).bind fun ys_11 =>
        (rangeO (m_stream_Levels_L2 N) ys_11 l_9).bind fun q => match q with
        | .inl l_14 =>
          some (l_14, 0)
def m_top_firSum_L1 (N : Nat) (l_1 : (List Int)) : (Int × Int) → Option ((Int × Int) ⊕ (Int))
  | (n_3, i_4) =>
    if icmpR .lss i_4 ((l_1.length : Nat) : Int) then
      (getO 0 l_1 i_4).bind fun x_7 =>
      some (.inl (iopR .add .i64 n_3 x_7, iopR .add .i64 i_4 1))
    else
      some (.inr n_3)
def m_top_firSum (N : Nat) (l_1 : (List Int)) : Option (Int) :=
  (loopO (m_top_firSum_L1 N l_1) N (0, 0)).bind fun q => match q with
  | n_6 =>
    some n_6
def m_stream_sum_L1 (N : Nat) (v_2 : Int) (l_1 : (List Int)) : (Int × Int) → Option ((Int × Int) ⊕ (Int))
  | (n_4, v_5) =>
    if icmpR .lss v_5 v_2 then
      (getO 0 l_1 v_5).bind fun x_8 =>
      some (.inl (iopR .add .i64 n_4 x_8, iopR .add .i64 v_5 1))
    else
      some (.inr n_4)
def m_stream_sum (N : Nat) (l_1 : (List Int)) : Option (Int) :=
  letO (((l_1.length : Nat) : Int) : Int) fun v_2 =>
  (loopO (m_stream_sum_L1 N v_2 l_1) N (0, 0)).bind fun q => match q with
  | n_7 =>
    some n_7
def m_stream_Blows (N : Nat) (m_1 : api_StreamMill) (plan_2 : (List Int)) : Option (api_Span × Int) :=
  (m_stream_checkMill N m_1).bind fun r_3 =>
  if icmpR .neq r_3 0 then
    some ((api_Span.mk 0 0), r_3)
  else
    (m_stream_within N 1 24 [((plan_2.length : Nat) : Int)]).bind fun r_4 =>
    (show Option (Bool) from
      if !r_4 then
        some true
      else
        (m_stream_within N 0 m_1.Hammers plan_2).bind fun r_7 =>
        some (!r_7)).bind fun q => match q with
    | v_6 =>
      (show Option ((Unit) ⊕ (Unit)) from
        if v_6 then
          some (.inl ())
        else
          some (.inr ())).bind fun q => match q with
      | (.inl ()) =>
        some ((api_Span.mk 0 0), 4)
      | (.inr ()) =>
        (m_stream_sum N plan_2).bind fun r_8 =>
        some ((api_Span.mk (iopR .mul .i64 r_8 m_1.Blows.Low) (iopR .mul .i64 r_8 m_1.Blows.High)), 0)
def m_cloth_Hours_1 (N : Nat) (s_1 : api_Span) : Option (Bool) :=
  (m_cloth_isSpan N s_1 0 2000 2000).bind fun r_2 =>
  some (!r_2)
def m_cloth_truths_values (N : Nat) (t_1 : A3_L_cloth_stretch) (what_2 : Int) (hour_3 : Int) : Option ((A3_L_cloth_stretch × Int × Int)) :=
  some (t_1, what_2, hour_3)
def m_cloth_truths_values_1_L2 (N : Nat) (x_17 : cloth_stretch) (p_3 : Int) : Int → Option (List (Int) × ((Int) ⊕ (Unit)))
  | x_19 =>
    if icmpR .leq x_19 x_17.Span.High then
      (m_cloth_after N x_19 x_17.rate p_3).bind fun r_21 =>
      yieldO r_21 (
        some ([], .inl (iopR .add .i64 x_19 1)))
    else
      some ([], .inr ())
def m_cloth_truths_values_1_L1 (N : Nat) (v_5 : Int) (v_4 : (List cloth_stretch)) (p_3 : Int) : Int → Option (List (Int) × ((Int) ⊕ (Unit)))
  | v_11 =>
    if icmpR .lss v_11 v_5 then
      (getO d_cloth_stretch v_4 v_11).bind fun x_17 =>
      thenY (loopY (m_cloth_truths_values_1_L2 N x_17 p_3) N x_17.Span.Low) fun q => match q with
      | () =>
        some ([], .inl (iopR .add .i64 v_11 1))
    else
      some ([], .inr ())
def m_cloth_truths_values_1 (N : Nat) (p_1 : A3_L_cloth_stretch) (p_2 : Int) (p_3 : Int) : Option (List Int × Unit) :=
  (show Option ((List cloth_stretch) × Int) from
    if 0 ≤ p_2 ∧ p_2 < (3 : Int) then
      if icmpR .eql p_2 0 then
        some (p_1.a0, ((p_1.a0.length : Nat) : Int))
      else
        if icmpR .eql p_2 1 then
          some (p_1.a1, ((p_1.a1.length : Nat) : Int))
        else
          some (p_1.a2, ((p_1.a2.length : Nat) : Int))
    else none).bind fun q => match q with
  | (v_4, v_5) =>
    thenY (loopY (m_cloth_truths_values_1_L1 N v_5 v_4 p_3) N 0) fun q => match q with
    | () =>
      some ([], ())
def m_it_cloth_truths_values_1 (N : Nat) (p_1 : A3_L_cloth_stretch) (p_2 : Int) (p_3 : Int) : Option (List Int) := (m_cloth_truths_values_1 N p_1 p_2 p_3).bind fun q => some q.1
def m_cloth_truths_canBe_L2 (N : Nat) (x_18 : api_Span) : Int → Unit → Option ((Unit) ⊕ (Unit))
  | y_21, () =>
    (m_cloth_within N x_18.Low x_18.High [y_21]).bind fun r_23 =>
    if r_23 then
      some (.inr ())
    else
      some (.inl ())
def m_cloth_truths_canBe_L1 (N : Nat) (v_4 : Int) (now_2 : (List api_Span)) (t_1 : A3_L_cloth_stretch) (hour_3 : Int) : Int → Option ((Int) ⊕ ((Unit) ⊕ (Unit)))
  | v_11 =>
    if icmpR .lss v_11 v_4 then
      (getO d_api_Span now_2 v_11).bind fun x_18 =>
      (m_cloth_truths_values N t_1 v_11 hour_3).bind fun r_19 =>
      (m_it_cloth_truths_values_1 N r_19.1 r_19.2.1 r_19.2.2).bind fun ys_20 =>
      (rangeO (m_cloth_truths_canBe_L2 N x_18) ys_20 ()).bind fun q => match q with
      | .inl () =>
        some (.inr (.inl ()))
      | .inr () =>
        some (.inl (iopR .add .i64 v_11 1))
    else
      some (.inr (.inr ()))
def m_cloth_truths_canBe (N : Nat) (t_1 : A3_L_cloth_stretch) (now_2 : (List api_Span)) (hour_3 : Int) : Option (Bool) :=
  letO (((now_2.length : Nat) : Int) : Int) fun v_4 =>
  (loopO (m_cloth_truths_canBe_L1 N v_4 now_2 t_1 hour_3) N 0).bind fun q => match q with
  | (.inl ()) =>
    some false
  | (.inr ()) =>
    some true
def m_cloth_Hours_L1 (N : Nat) (r_3 : A3_L_cloth_stretch × Int) (now_2 : (List api_Span)) : (Int × (List Int)) → Option ((Int × (List Int)) ⊕ ((List Int)))
  | (v_10, l_11) =>
    if icmpR .lss v_10 49 then
      (m_cloth_truths_canBe N r_3.1 now_2 v_10).bind fun r_15 =>
      (show Option ((List Int)) from
        if r_15 then
          if fitsN (l_11.length + 1) 8 then
            some (l_11 ++ [v_10])
          else none
        else
          some l_11).bind fun q => match q with
      | l_16 =>
        some (.inl (iopR .add .i64 v_10 1, l_16))
    else
      some (.inr l_11)
def m_cloth_Hours (N : Nat) (c_1 : api_Cloth) (now_2 : (List api_Span)) : Option ((List Int) × Int) :=
  (m_cloth_open N c_1).bind fun r_3 =>
  if icmpR .neq r_3.2 0 then
    some ([], r_3.2)
  else
    (show Option (Bool) from
      if icmpR .neq ((now_2.length : Nat) : Int) 3 then
        some true
      else
        (m_slices_ContainsFunc_Lapi_Span_api_Span N now_2 (fun x0 => m_cloth_Hours_1 N x0)).bind fun r_6 =>
        some r_6).bind fun q => match q with
    | v_5 =>
      (show Option ((Unit) ⊕ (Unit)) from
        if v_5 then
          some (.inl ())
        else
          some (.inr ())).bind fun q => match q with
      | (.inl ()) =>
        some ([], 3)
      | (.inr ()) =>
        (loopO (m_cloth_Hours_L1 N r_3 now_2) N (0, [])).bind fun q => match q with
        | l_14 =>
          if icmpR .eql ((l_14.length : Nat) : Int) 0 then
            some ([], 7)
          else
            some (l_14, 0)
def m_top_TopWorkedHours_L1 (N : Nat) (r_5 : api_StreamMill × (List api_Span)) (p_3 : (List Int)) : (Int × (List Int)) → Option ((Int × (List Int)) ⊕ ((List Int)))
  | (v_9, v_10) =>
    if icmpR .lss v_9 ((r_5.2.length : Nat) : Int) then
      (show Option (Int) from
        if icmpR .lss v_9 ((p_3.length : Nat) : Int) then
          (getO 0 p_3 v_9).bind fun x_17 =>
          some (iopR .rem .i64 (IntKind.wrap .i64 x_17) 2)
        else
          some 0).bind fun q => match q with
      | v_16 =>
        if fitsN (v_10.length + 1) 8 then
          some (.inl (iopR .add .i64 v_9 1, (v_10 ++ [v_16])))
        else none
    else
      some (.inr v_10)
def m_top_TopWorkedHours_L2 (N : Nat) (r_43 : (List Int) × Int) (r_31 : Int) : Int → Option ((Int) ⊕ ((Bool) ⊕ (Unit)))
  | v_49 =>
    if icmpR .lss v_49 ((r_43.1.length : Nat) : Int) then
      (getO 0 r_43.1 v_49).bind fun x_53 =>
      if icmpR .eql x_53 r_31 then
        (m_top_firKnown02 N).bind fun r_54 =>
        some (.inr (.inl r_54))
      else
        some (.inl (iopR .add .i64 v_49 1))
    else
      some (.inr (.inr ()))
def m_top_TopWorkedHours (N : Nat) (p_1 : top_FirYarn) (p_2 : top_FirBeck) (p_3 : (List Int)) : Option (Bool) :=
  (m_top_FirYarn_made N p_1).bind fun r_4 =>
  (m_top_FirBeck_made N p_2).bind fun r_5 =>
  (loopO (m_top_TopWorkedHours_L1 N r_5 p_3) N (0, [])).bind fun q => match q with
  | v_14 =>
    (show Option (Int) from
      (m_top_firOwn N r_5.2).bind fun r_23 =>
      (m_top_firInts N v_14).bind fun r_24 =>
      (m_stream_Goes N (api_StreamMill.mk 1 r_5.1.Takes r_5.1.Blows r_5.1.Holds r_5.1.Now) r_23 r_24).bind fun r_25 =>
      some r_25.2.2).bind fun q => match q with
    | v_22 =>
      (m_top_firOwn N r_5.2).bind fun r_26 =>
      (m_top_firInts N v_14).bind fun r_27 =>
      (m_stream_Levels N (api_StreamMill.mk 1 r_5.1.Takes r_5.1.Blows r_5.1.Holds r_5.1.Now) r_26 r_27).bind fun r_28 =>
      (show Option (Bool) from
        if icmpR .neq v_22 0 then
          if icmpR .neq v_22 7 then
            some true
          else
            if !((icmpR .eql v_22 7) == (icmpR .eql r_28.2 0)) then
              some true
            else
              if icmpR .eql r_28.2 0 then
                some (icmpR .neq ((r_28.1.length : Nat) : Int) ((v_14.length : Nat) : Int))
              else
                some false
        else
          if !((icmpR .eql v_22 7) == (icmpR .eql r_28.2 0)) then
            some true
          else
            if icmpR .eql r_28.2 0 then
              some (icmpR .neq ((r_28.1.length : Nat) : Int) ((v_14.length : Nat) : Int))
            else
              some false).bind fun q => match q with
      | v_29 =>
        if v_29 then
          some false
        else
          if icmpR .eql v_22 0 then
            (m_top_firKnown02 N).bind fun r_30 =>
            some r_30
          else
            (m_top_firSum N v_14).bind fun r_31 =>
            (show Option (Int × Int × Int) from
              (m_top_firInts N v_14).bind fun r_37 =>
              (m_stream_Blows N (api_StreamMill.mk 1 r_5.1.Takes r_5.1.Blows r_5.1.Holds r_5.1.Now) r_37).bind fun r_38 =>
              some (r_38.2, r_38.1.Low, r_38.1.High)).bind fun q => match q with
            | (v_34, v_35, v_36) =>
              (m_top_firCloth N r_4).bind fun r_39 =>
              (m_cloth_At N r_39 r_31).bind fun r_40 =>
              (m_top_firCloth N r_4).bind fun r_41 =>
              (m_top_firOwn N r_40.1).bind fun r_42 =>
              (m_cloth_Hours N r_41 r_42).bind fun r_43 =>
              (show Option (Bool) from
                if icmpR .neq v_34 0 then
                  some true
                else
                  if icmpR .neq r_40.2 0 then
                    some true
                  else
                    if icmpR .neq r_43.2 0 then
                      some true
                    else
                      (m_top_firSpan N (iopR .mul .i64 20 r_31) (iopR .mul .i64 30 r_31)).bind fun r_46 =>
                      some (!(eqI [(.i64, v_35), (.i64, v_36)] [(.i64, r_46.Low), (.i64, r_46.High)]))).bind fun q => match q with
              | v_45 =>
                if v_45 then
                  some false
                else
                  (loopO (m_top_TopWorkedHours_L2 N r_43 r_31) N 0).bind fun q => match q with
                  | (.inl v_52) =>
                    some v_52
                  | (.inr ()) =>
                    some false
end Go.Proofs.Ytelnoeamkdpjhaa.Aw

/- Plain: rules for what is printed: checks, iterators that end. -/
namespace Go.Proofs.Ytelnoeamkdpjhaa.Aw
open Go Go.RowKit Go.Proofs
set_option linter.unusedSimpArgs false
set_option linter.unusedVariables false
/-- The round of slices.IndexFunc. -/
def idxStep {α : Type} (d : α) (n : Int) (s : List α) (f : α → Option Bool) : Int → Option (Int ⊕ (Int ⊕ Unit)) := fun i =>
  if icmpR .lss i n then
    (getO d s i).bind fun x => (f x).bind fun v => if v then some (.inr (.inl i)) else some (.inl (iopR .add .i64 i 1))
  else some (.inr (.inr ()))
theorem idx_any {α : Type} {d : α} {s : List α} {f : α → Option Bool} {g : α → Bool} (N : Nat) (hN : 2000000 ≤ N) (hl : s.length ≤ 1000000) (hf : ∀ x ∈ s, f x = some (g x)) :
    ∃ q, loopO (idxStep d ((s.length : Nat) : Int) s f) N 0 = some q ∧ (match q with | .inl i => s.any g = true ∧ 0 ≤ i | .inr _ => s.any g = false) := by
  refine loopO_of (fun i : Int => 0 ≤ i ∧ i ≤ s.length ∧ s.any g = (s.drop i.toNat).any g) (fun i => (s.length - i).toNat) _ (fun i hi => ?_) N 0 ⟨by omega, by omega, by simp⟩ (by omega)
  obtain ⟨i0, i1, i2⟩ := hi
  by_cases hc : i < (s.length : Int)
  · have hlt : i.toNat < s.length := by omega
    have hget : s.getD i.toNat d = s[i.toNat] := by simp [List.getD_eq_getElem?_getD, hlt]
    have hm : s.getD i.toNat d ∈ s := by rw [hget]; exact List.getElem_mem hlt
    rw [List.drop_eq_getElem_cons hlt, ← hget, List.any_cons] at i2
    simp only [idxStep, icmp_lss, decide_eq_true_eq, if_pos hc, getO_of (d := d) i0 hc, bindS, hf _ hm]
    cases hg : g (s.getD i.toNat d) with
    | true =>
      right
      rw [if_pos rfl]
      exact ⟨_, rfl, by rw [i2, hg]; rfl, i0⟩
    | false =>
      left
      rw [if_neg (by simp), addW (by omega)]
      refine ⟨i + 1, rfl, ⟨by omega, by omega, ?_⟩, by omega⟩
      rw [i2, hg, Bool.false_or, show (i + 1).toNat = i.toNat + 1 from by omega]
  · right
    simp only [idxStep, icmp_lss, decide_eq_true_eq, if_neg hc]
    exact ⟨_, rfl, by rw [i2, List.drop_eq_nil_of_le (by omega)]; rfl⟩
/-- slices.ContainsFunc, as printed. -/
def contF {α : Type} (d : α) (N : Nat) (s : List α) (f : α → Option Bool) : Option Bool :=
  (letO (((s.length : Nat) : Int) : Int) fun n => (loopO (idxStep d n s f) N 0).bind fun q => match q with
    | .inl i => some i
    | .inr _ => some (-1)).bind fun r => some (icmpR .geq r 0)
theorem contF_eq {α : Type} {d : α} {s : List α} {f : α → Option Bool} {g : α → Bool} (N : Nat) (hN : 2000000 ≤ N) (hl : s.length ≤ 1000000) (hf : ∀ x ∈ s, f x = some (g x)) : contF d N s f = some (s.any g) := by
  unfold contF
  rw [letO_eq]
  obtain ⟨q, hq, hp⟩ := idx_any (d := d) N hN hl hf
  rw [hq, bindS]
  cases q with
  | inl i =>
    simp only at hp
    simp only [bindS, icmp_geq]
    rw [hp.1]; simp [hp.2]
  | inr u =>
    simp only at hp
    simp only [bindS, icmp_geq]
    rw [hp]; rfl
end Go.Proofs.Ytelnoeamkdpjhaa.Aw

/- What comes in, for the statements of the top: bytes, read as data. -/
namespace Go.Proofs.Ytelnoeamkdpjhaa.Aw
open Go Go.RowKit Go.Proofs
set_option maxRecDepth 100000
set_option linter.unusedSimpArgs false
set_option linter.unusedVariables false
theorem Try.own : ownKnob Try.prog.godebug = none := by kernel_rfl
theorem Try.laidOut : laidOutB Try.prog = true := by kernel_rfl
def u8ok (n : Int) : Prop := 0 ≤ n ∧ n ≤ 255
theorem rows_of {α : Type} {g : α → List D} {p : α → Prop} : ∀ {rows : List (List D)}, (∀ row ∈ rows, ∃ a, row = g a ∧ p a) → ∃ l : List α, rows = l.map g ∧ ∀ a ∈ l, p a
  | [], _ => ⟨[], rfl, fun a h => by cases h⟩
  | row :: r, h => by
    obtain ⟨a, e, hp⟩ := h row (by simp)
    obtain ⟨l, e2, hl⟩ := rows_of (g := g) (p := p) (rows := r) (fun x hx => h x (List.mem_cons_of_mem _ hx))
    refine ⟨a :: l, by rw [e, e2]; rfl, fun b hb => ?_⟩
    rcases List.mem_cons.1 hb with rfl | hb
    · exact hp
    · exact hl b hb
def shU : Sh := .int .u8
theorem fit_U {xs : List D} (h : shU.Fit xs) : ∃ n : Int, xs = [.int .u8 n] ∧ u8ok n := by
  unfold shU Sh.Fit at h
  obtain ⟨n, rfl, h1, h2⟩ := h
  exact ⟨n, rfl, h1, h2⟩
def shA2 : Sh := .agg [shU, shU]
theorem fit_A2 {xs : List D} (h : shA2.Fit xs) : ∃ v : A2_u8, xs = rowD 2 0 (fun j => (e_A2_u8 v j).toD) ∧ u8ok v.a0 ∧ u8ok v.a1 := by
  unfold shA2 Sh.Fit at h
  simp only [Sh.FitL] at h
  obtain ⟨a1, b1, rfl, h1, a2, b2, rfl, h2, rfl⟩ := h
  obtain ⟨v0, rfl, k0⟩ := fit_U h1
  obtain ⟨v1, rfl, k1⟩ := fit_U h2
  exact ⟨⟨v0, v1⟩, rfl, k0, k1⟩
def shA4 : Sh := .agg [shU, shU, shU, shU]
theorem fit_A4 {xs : List D} (h : shA4.Fit xs) : ∃ v : A4_u8, xs = KV.toDL (c_A4_u8 v) ∧ u8ok v.a0 ∧ u8ok v.a1 ∧ u8ok v.a2 ∧ u8ok v.a3 := by
  unfold shA4 Sh.Fit at h
  simp only [Sh.FitL] at h
  obtain ⟨a, b, rfl, ha, c, d, rfl, hc, e, f, rfl, he, g, i, rfl, hg, rfl⟩ := h
  obtain ⟨x, rfl, hx⟩ := fit_U ha
  obtain ⟨y, rfl, hy⟩ := fit_U hc
  obtain ⟨z, rfl, hz⟩ := fit_U he
  obtain ⟨u, rfl, hu⟩ := fit_U hg
  exact ⟨⟨x, y, z, u⟩, rfl, hx, hy, hz, hu⟩
def shFirYarn : Sh := .agg [.agg [shA4, shA4, shA4]]
theorem fit_FirYarn {xs : List D} (h : shFirYarn.Fit xs) : ∃ x : top_FirYarn, shFirYarn.arg xs = (k_top_FirYarn x).toD ∧ (u8ok x.Tracks.a0.a0 ∧ u8ok x.Tracks.a0.a1 ∧ u8ok x.Tracks.a0.a2 ∧ u8ok x.Tracks.a0.a3) ∧ (u8ok x.Tracks.a1.a0 ∧ u8ok x.Tracks.a1.a1 ∧ u8ok x.Tracks.a1.a2 ∧ u8ok x.Tracks.a1.a3) ∧ u8ok x.Tracks.a2.a0 ∧ u8ok x.Tracks.a2.a1 ∧ u8ok x.Tracks.a2.a2 ∧ u8ok x.Tracks.a2.a3 := by
  unfold shFirYarn Sh.Fit at h
  simp only [Sh.FitL] at h
  obtain ⟨t, u, rfl, h, rfl⟩ := h
  unfold Sh.Fit at h
  simp only [Sh.FitL] at h
  obtain ⟨a, b, rfl, ha, c, d, rfl, hc, e, f, rfl, he, rfl⟩ := h
  obtain ⟨x, rfl, hx⟩ := fit_A4 ha
  obtain ⟨y, rfl, hy⟩ := fit_A4 hc
  obtain ⟨z, rfl, hz⟩ := fit_A4 he
  exact ⟨⟨⟨x, y, z⟩⟩, rfl, hx, hy, hz⟩
def shFirBeck : Sh := .agg [shA4, .sl shA2]
theorem fit_FirBeck {xs : List D} (h : shFirBeck.Fit xs) : ∃ x : top_FirBeck, shFirBeck.arg xs = (k_top_FirBeck x).toD ∧ (u8ok x.Mill.a0 ∧ u8ok x.Mill.a1 ∧ u8ok x.Mill.a2 ∧ u8ok x.Mill.a3) ∧ ∀ v ∈ x.Flows, u8ok v.a0 ∧ u8ok v.a1 := by
  unfold shFirBeck Sh.Fit at h
  simp only [Sh.FitL] at h
  obtain ⟨a, b, rfl, ha, c, d, rfl, hc, rfl⟩ := h
  obtain ⟨m, rfl, hm⟩ := fit_A4 ha
  unfold Sh.Fit at hc
  obtain ⟨rc, rfl, lc, hc⟩ := hc
  obtain ⟨l, rfl, hl⟩ := rows_of (fun row hr => fit_A2 (hc row hr))
  exact ⟨⟨m, l⟩, rfl, hm, hl⟩
end Go.Proofs.Ytelnoeamkdpjhaa.Aw

/- Plain: hammers and beaten cloths: inputs, checks. -/
namespace Go.Proofs.Ytelnoeamkdpjhaa.Aw
open Go Go.RowKit Go.Proofs
set_option linter.unusedSimpArgs false
set_option linter.unusedVariables false
theorem cf_int (N : Nat) (s : List Int) (f : Int → Option Bool) : m_slices_ContainsFunc_Lint_int N s f = contF 0 N s f := rfl
theorem cf_span (N : Nat) (s : List api_Span) (f : api_Span → Option Bool) : m_slices_ContainsFunc_Lapi_Span_api_Span N s f = contF d_api_Span N s f := rfl
theorem sw1 (N : Nat) (n a b : Int) : m_stream_within_1 N n a b = some (decide (n < a) || decide (n > b)) := by
  unfold m_stream_within_1
  simp only [icmp_lss, icmp_gtr, decide_eq_true_eq]
  by_cases h : n < a <;> simp [h]
theorem sw_ok (N : Nat) (hN : 2000000 ≤ N) {a b : Int} {l : List Int} (hl : l.length ≤ 1000000) (h : ∀ n ∈ l, a ≤ n ∧ n ≤ b) : m_stream_within N a b l = some true := by
  unfold m_stream_within
  rw [cf_int, contF_eq N hN hl (fun x _ => sw1 N x a b), bindS]
  have : (l.any fun n => decide (n < a) || decide (n > b)) = false := by
    rw [List.any_eq_false]
    intro n hn
    have := h n hn
    simp; omega
  rw [this]; rfl
theorem ss_ok (N : Nat) (hN : 2000000 ≤ N) {s : api_Span} {a b : Int} (h1 : a ≤ s.Low) (h2 : s.Low ≤ s.High) (h3 : s.High ≤ b) : m_stream_isSpan N s a b = some true := by
  unfold m_stream_isSpan
  rw [sw_ok N hN (by simp) (by intro n hn; simp only [List.mem_cons, List.not_mem_nil, or_false] at hn; omega)]
  simp [icmp_leq, h2]
/-! What is made of bytes. -/
structure MillOk (m : api_StreamMill) : Prop where
  ham : 1 ≤ m.Hammers ∧ m.Hammers ≤ 8
  tak : 0 ≤ m.Takes ∧ m.Takes ≤ 100
  blo : 0 ≤ m.Blows.Low ∧ m.Blows.Low ≤ m.Blows.High ∧ m.Blows.High ≤ 5000
  hol : 0 ≤ m.Holds ∧ m.Holds ≤ 500
  now : 0 ≤ m.Now.Low ∧ m.Now.Low ≤ m.Now.High ∧ m.Now.High ≤ m.Holds
def SpOk (b : Int) (s : api_Span) : Prop := 0 ≤ s.Low ∧ s.Low ≤ s.High ∧ s.High ≤ b
theorem made_beck (N : Nat) (hN : 2000000 ≤ N) (p : top_FirBeck) (h : u8ok p.Mill.a0 ∧ u8ok p.Mill.a1 ∧ u8ok p.Mill.a2 ∧ u8ok p.Mill.a3) (hf : ∀ v ∈ p.Flows, u8ok v.a0 ∧ u8ok v.a1) :
    ∃ m l, m_top_FirBeck_made N p = some (m, l) ∧ MillOk m ∧ 1 ≤ l.length ∧ l.length ≤ 12 ∧ ∀ s ∈ l, SpOk 500 s := by
  obtain ⟨⟨a0, a1⟩, ⟨b0, b1⟩, ⟨c0, c1⟩, d0, d1⟩ := h
  obtain ⟨q, hq, hp⟩ := loopO_of (step := m_top_FirBeck_made_L1 N p) (fun s => 0 ≤ s.1 ∧ s.1 ≤ 12 ∧ (s.2.length : Int) = s.1 ∧ ∀ x ∈ s.2, SpOk 500 x) (fun s => (12 - s.1).toNat) (fun q => 1 ≤ q.length ∧ q.length ≤ 12 ∧ ∀ x ∈ q, SpOk 500 x) (fun s hi => by
    obtain ⟨i, l⟩ := s
    obtain ⟨i0, i1, i2, i3⟩ := hi
    simp only at i0 i1 i2 i3
    by_cases hgo : i = 0 ∨ (i < (p.Flows.length : Int) ∧ i < 12)
    · left
      have hc : (if icmpR .eql i 0 = true then some true else if icmpR .lss i ((p.Flows.length : Nat) : Int) = true then some (icmpR .lss i 12) else some false) = some true := by
        simp only [icmp_eql, icmp_lss, decide_eq_true_eq]
        rcases hgo with h | ⟨h1, h2⟩
        · rw [if_pos h]
        · by_cases h0 : i = 0
          · rw [if_pos h0]
          · rw [if_neg h0, if_pos h1, decide_eq_true h2]
      obtain ⟨a, b, hab, ha, hb⟩ : ∃ a b, (if icmpR .lss i ((p.Flows.length : Nat) : Int) = true then (getO d_A2_u8 p.Flows i).bind fun x => some (x.a0, x.a1) else some (10, 2)) = some (a, b) ∧ u8ok a ∧ u8ok b := by
        simp only [icmp_lss, decide_eq_true_eq]
        by_cases h1 : i < (p.Flows.length : Int)
        · rw [if_pos h1, getO_of (d := d_A2_u8) i0 h1, bindS]
          have hm : p.Flows.getD i.toNat d_A2_u8 ∈ p.Flows := by
            rw [List.getD_eq_getElem?_getD, List.getElem?_eq_getElem (by omega)]; exact List.getElem_mem _
          exact ⟨_, _, rfl, (hf _ hm).1, (hf _ hm).2⟩
        · rw [if_neg h1]; exact ⟨_, _, rfl, ⟨by omega, by omega⟩, ⟨by omega, by omega⟩⟩
      obtain ⟨a2, a3⟩ := ha
      obtain ⟨b2, b3⟩ := hb
      have hfit : fitsN (l.length + 1) 16 := ⟨by omega, by omega⟩
      simp only [m_top_FirBeck_made_L1, hc, bindS, if_true, hab, m_top_firSpan, if_pos hfit]
      rw [wrap_i64 (n := a) (by omega), wrap_i64 (n := b) (by omega), remW (by omega), remW (by omega), addW (by omega), addW (by omega)]
      refine ⟨_, rfl, ⟨by simp only; omega, by simp only; omega, by simp only [List.length_append, List.length_singleton]; omega, fun x hx => ?_⟩, by simp only; omega⟩
      rcases List.mem_append.1 hx with hx | hx
      · exact i3 x hx
      · rw [List.mem_singleton] at hx
        subst hx
        exact ⟨by simp only; omega, by simp only; omega, by simp only; omega⟩
    · right
      have hc : (if icmpR .eql i 0 = true then some true else if icmpR .lss i ((p.Flows.length : Nat) : Int) = true then some (icmpR .lss i 12) else some false) = some false := by
        simp only [icmp_eql, icmp_lss, decide_eq_true_eq]
        rw [if_neg (by omega)]
        by_cases h1 : i < (p.Flows.length : Int)
        · rw [if_pos h1, decide_eq_false (by omega)]
        · rw [if_neg h1]
      simp only [m_top_FirBeck_made_L1, hc, bindS, Bool.false_eq_true, if_false]
      exact ⟨_, rfl, by omega, by omega, i3⟩) N (0, []) ⟨by simp, by simp, by simp, by simp⟩ (by simp only; omega)
  unfold m_top_FirBeck_made
  simp only [m_top_firSpan, bindS, letO_eq, hq]
  obtain ⟨ho, eho⟩ : ∃ x, x = 20 + p.Mill.a2 % 80 := ⟨_, rfl⟩
  have e1 : iopR .add .i64 20 (iopR .rem .i64 (IntKind.wrap .i64 p.Mill.a2) 80) = ho := by rw [wrap_i64 (n := p.Mill.a2) (by omega), remW (by omega), addW (by omega), eho]
  have e2 : iopR .add .i64 ho 1 = ho + 1 := addW (by omega)
  obtain ⟨nw, enw⟩ : ∃ x, x = p.Mill.a3 % (ho + 1) := ⟨_, rfl⟩
  have n0 := Int.emod_nonneg p.Mill.a3 (show ho + 1 ≠ 0 by omega)
  have n1 := Int.emod_lt_of_pos p.Mill.a3 (show 0 < ho + 1 by omega)
  have e3 : iopR .rem .i64 (IntKind.wrap .i64 p.Mill.a3) (ho + 1) = nw := by rw [wrap_i64 (n := p.Mill.a3) (by omega), remW (by omega), enw]
  have e4 : iopR .add .i64 nw 5 = nw + 5 := addW (by omega)
  simp only [e1, e2, e3, e4]
  rw [if_pos (by omega)]
  refine ⟨_, _, rfl, ?_, hp⟩
  rw [wrap_i64 (n := p.Mill.a0) (by omega), wrap_i64 (n := p.Mill.a1) (by omega), remW (by omega), remW (by omega), addW (by omega)]
  exact ⟨by simp only; omega, by simp only; omega, by simp only; omega, by simp only; omega, by simp only; omega⟩
theorem open_ok (N : Nat) (hN : 2000000 ≤ N) {m : api_StreamMill} {l : List api_Span} (hm : MillOk m) (h1 : 1 ≤ l.length) (h2 : l.length ≤ 24) (hl : ∀ s ∈ l, SpOk 500 s) : m_stream_open N m l = some (⟨m, l⟩, 0) := by
  have k1 : m_stream_checkMill N m = some 0 := by
    unfold m_stream_checkMill
    rw [sw_ok N hN (by simp) (by intro n hn; simp only [List.mem_singleton] at hn; have := hm.ham; omega), bindS]
    rw [sw_ok N hN (by simp) (by intro n hn; simp only [List.mem_singleton] at hn; have := hm.tak; omega), bindS]
    rw [ss_ok N hN hm.blo.1 hm.blo.2.1 hm.blo.2.2, bindS]
    rw [sw_ok N hN (by simp) (by intro n hn; simp only [List.mem_singleton] at hn; have := hm.hol; omega), bindS]
    rw [ss_ok N hN hm.now.1 hm.now.2.1 hm.now.2.2, bindS]
    rfl
  unfold m_stream_open m_stream_Check
  rw [k1, bindS]
  have k2 : ∀ x ∈ l, m_stream_Check_1 N x = some false := fun x hx => by
    unfold m_stream_Check_1
    obtain ⟨g1, g2, g3⟩ := hl x hx
    rw [ss_ok N hN g1 g2 g3]; rfl
  rw [cf_span, contF_eq N hN (by omega) k2, bindS]
  have k3 : l.any (fun _ => false) = false := by simp
  rw [k3]
  have c1 : ¬ ((l.length : Nat) : Int) > 24 := by omega
  have c2 : ¬ ((l.length : Nat) : Int) = 0 := by omega
  simp only [icmp_neq, icmp_gtr, icmp_eql, decide_eq_true_eq]
  rw [if_neg (by simp), if_neg c1, if_neg c2]; rfl
end Go.Proofs.Ytelnoeamkdpjhaa.Aw

/- Plain: for how long hammers last. -/
namespace Go.Proofs.Ytelnoeamkdpjhaa.Aw
open Go Go.RowKit Go.Proofs
set_option linter.unusedSimpArgs false
set_option linter.unusedVariables false
/-- The water before an hour. -/
def wat (ho ta : Int) (g : api_Span → Int) (fl : List api_Span) (pl : List Int) (w0 : Int) : Nat → Int
  | 0 => w0
  | n + 1 => min ho (wat ho ta g fl pl w0 n + g (fl.getD n d_api_Span)) - pl.getD n 0 * ta
theorem getD_mem {α : Type} {l : List α} {d : α} {i : Nat} (h : i < l.length) : l.getD i d ∈ l := by
  rw [List.getD_eq_getElem?_getD, List.getElem?_eq_getElem h]; exact List.getElem_mem _
theorem tides_is (N : Nat) {v : stream_valley} {plan : List Int} (hv : MillOk v.StreamMill) (hl : plan.length = v.flows.length) (h24 : v.flows.length ≤ 24) (hp : ∀ p ∈ plan, 0 ≤ p ∧ p ≤ 8) {f : api_Span → Option Int} {g : api_Span → Int} (hf : ∀ x, f x = some (g x)) (hg : ∀ x ∈ v.flows, 0 ≤ g x ∧ g x ≤ 500) {w0 : Int} :
    ∀ (n k : Nat), plan.length - k < n → k ≤ plan.length → 0 ≤ wat v.StreamMill.Holds v.StreamMill.Takes g v.flows plan w0 k → wat v.StreamMill.Holds v.StreamMill.Takes g v.flows plan w0 k ≤ 500 →
    ∃ ys q R, loopY (m_stream_valley_tides_1_L1 N ((plan.length : Nat) : Int) plan v f) n (wat v.StreamMill.Holds v.StreamMill.Takes g v.flows plan w0 k, (k : Int)) = some (ys, q) ∧ rangeO (m_stream_valley_dry_L1 N) ys () = some R ∧
      ((R = .inl () ∧ ∀ i, k ≤ i → i < plan.length → 0 ≤ wat v.StreamMill.Holds v.StreamMill.Takes g v.flows plan w0 (i + 1)) ∨ ∃ j : Nat, R = .inr (j : Int) ∧ k ≤ j ∧ j < plan.length ∧ wat v.StreamMill.Holds v.StreamMill.Takes g v.flows plan w0 (j + 1) < 0 ∧ ∀ i, k ≤ i → i < j → 0 ≤ wat v.StreamMill.Holds v.StreamMill.Takes g v.flows plan w0 (i + 1))
  | 0, k, hn, _, _, _ => by omega
  | n + 1, k, hn, hk, h0, h5 => by
    obtain ⟨W, hW⟩ : ∃ W, W = wat v.StreamMill.Holds v.StreamMill.Takes g v.flows plan w0 := ⟨_, rfl⟩
    simp only [← hW] at h0 h5 ⊢
    by_cases hc : k < plan.length
    · have hk0 : (0 : Int) ≤ (k : Int) := by omega
      have hk1 : (k : Int) < (plan.length : Int) := by omega
      have hk2 : (k : Int) < (v.flows.length : Int) := by omega
      obtain ⟨p, ep⟩ : ∃ p, p = plan.getD k 0 := ⟨_, rfl⟩
      obtain ⟨x, ex⟩ : ∃ x, x = v.flows.getD k d_api_Span := ⟨_, rfl⟩
      obtain ⟨p0, p1⟩ : 0 ≤ p ∧ p ≤ 8 := ep ▸ hp _ (getD_mem hc)
      obtain ⟨g0, g1⟩ : 0 ≤ g x ∧ g x ≤ 500 := ex ▸ hg _ (getD_mem (by omega))
      obtain ⟨t0, t1⟩ := hv.tak
      obtain ⟨b0, b1⟩ := hv.hol
      have hpt : 0 ≤ p * v.StreamMill.Takes := Int.mul_nonneg p0 t0
      have hpt2 : p * v.StreamMill.Takes ≤ 8 * 100 := Int.mul_le_mul p1 t1 t0 (by omega)
      have e1 : getO (0 : Int) plan (k : Int) = some p := by rw [getO_of hk0 hk1, ep]; simp
      have e2 : getO d_api_Span v.flows (k : Int) = some x := by rw [getO_of hk0 hk2, ex]; simp
      have hnext : W (k + 1) = min v.StreamMill.Holds (W k + g x) - p * v.StreamMill.Takes := by rw [hW, wat, ← hW, ep, ex]
      obtain ⟨pt, ept⟩ : ∃ y, y = p * v.StreamMill.Takes := ⟨_, rfl⟩
      rw [← ept] at hpt hpt2 hnext
      have e3 : iopR .add .i64 (W k) (g x) = W k + g x := addW (by omega)
      have e4 : iopR .mul .i64 p v.StreamMill.Takes = pt := by rw [mulW (by omega), ept]
      have e5 : iopR .sub .i64 (min v.StreamMill.Holds (W k + g x)) pt = W (k + 1) := by rw [subW (by omega), hnext]
      have e6 : iopR .add .i64 (k : Int) 1 = ((k + 1 : Nat) : Int) := by rw [addW (by omega)]; omega
      by_cases hneg : W (k + 1) < 0
      · have hs : m_stream_valley_tides_1_L1 N ((plan.length : Nat) : Int) plan v f (W k, (k : Int)) = some ([((k : Int), ⟨min v.StreamMill.Holds (W k + g x), W (k + 1)⟩)], .inr (.inl ())) := by
          simp only [m_stream_valley_tides_1_L1, icmp_lss, decide_eq_true_eq, if_pos hk1, e1, e2, hf, bindS, e3, e4, e5, if_pos hneg, yieldO]
        refine ⟨_, _, .inr (k : Int), by rw [loopY, hs], ?_, .inr ⟨k, rfl, Nat.le_refl _, hc, hneg, fun i h1 h2 => by omega⟩⟩
        simp only [rangeO, m_stream_valley_dry_L1, icmp_lss, decide_eq_true_eq, if_pos hneg]
      · have hs : m_stream_valley_tides_1_L1 N ((plan.length : Nat) : Int) plan v f (W k, (k : Int)) = some ([((k : Int), ⟨min v.StreamMill.Holds (W k + g x), W (k + 1)⟩)], .inl (W (k + 1), ((k + 1 : Nat) : Int))) := by
          simp only [m_stream_valley_tides_1_L1, icmp_lss, decide_eq_true_eq, if_pos hk1, e1, e2, hf, bindS, e3, e4, e5, e6, if_neg hneg, yieldO]
        have ih := tides_is N hv hl h24 hp hf hg (w0 := w0) n (k + 1) (by omega) (by omega) (by rw [← hW]; omega) (by rw [← hW]; omega)
        simp only [← hW] at ih
        obtain ⟨ys, q, R, i1, i2, i3⟩ := ih
        refine ⟨_, q, R, by rw [loopY, hs]; simp only; rw [i1]; rfl, ?_, ?_⟩
        · simp only [List.cons_append, List.nil_append, rangeO, m_stream_valley_dry_L1, icmp_lss, decide_eq_true_eq, if_neg hneg]
          exact i2
        · rcases i3 with ⟨r1, r2⟩ | ⟨j, r1, r2, r3, r4, r5⟩
          · refine .inl ⟨r1, fun i h1 h2 => ?_⟩
            by_cases he : i = k
            · subst he; omega
            · exact r2 i (by omega) h2
          · refine .inr ⟨j, r1, by omega, r3, r4, fun i h1 h2 => ?_⟩
            by_cases he : i = k
            · subst he; omega
            · exact r5 i (by omega) h2
    · have hk1 : ¬ (k : Int) < (plan.length : Int) := by omega
      have hs : m_stream_valley_tides_1_L1 N ((plan.length : Nat) : Int) plan v f (W k, (k : Int)) = some ([], .inr (.inr ())) := by
        simp only [m_stream_valley_tides_1_L1, icmp_lss, decide_eq_true_eq, if_neg hk1]
      exact ⟨_, _, .inl (), by rw [loopY, hs], rfl, .inl ⟨rfl, fun i h1 h2 => by omega⟩⟩
theorem dry_is (N : Nat) (hN : 2000000 ≤ N) {v : stream_valley} {plan : List Int} (hv : MillOk v.StreamMill) (hl : plan.length = v.flows.length) (h24 : v.flows.length ≤ 24) (hp : ∀ p ∈ plan, 0 ≤ p ∧ p ≤ 8) {f : api_Span → Option Int} {g : api_Span → Int} (hf : ∀ x, f x = some (g x)) (hg : ∀ x ∈ v.flows, 0 ≤ g x ∧ g x ≤ 500) (hw : 0 ≤ g v.StreamMill.Now ∧ g v.StreamMill.Now ≤ 500) :
    ∃ r, m_stream_valley_dry N v plan f = some r ∧ ((r = -1 ∧ ∀ i, i < plan.length → 0 ≤ wat v.StreamMill.Holds v.StreamMill.Takes g v.flows plan (g v.StreamMill.Now) (i + 1)) ∨ ∃ j : Nat, r = (j : Int) ∧ j < plan.length ∧ wat v.StreamMill.Holds v.StreamMill.Takes g v.flows plan (g v.StreamMill.Now) (j + 1) < 0 ∧ ∀ i, i < j → 0 ≤ wat v.StreamMill.Holds v.StreamMill.Takes g v.flows plan (g v.StreamMill.Now) (i + 1)) := by
  obtain ⟨ys, q, R, h1, h2, h3⟩ := tides_is N hv hl h24 hp hf hg (w0 := g v.StreamMill.Now) N 0 (by omega) (by omega) (by simp only [wat]; omega) (by simp only [wat]; omega)
  have h1 : loopY (m_stream_valley_tides_1_L1 N ((plan.length : Nat) : Int) plan v f) N (g v.StreamMill.Now, 0) = some (ys, q) := h1
  have hy : m_it_stream_valley_tides_1 N f v plan = some ys := by
    unfold m_it_stream_valley_tides_1 m_stream_valley_tides_1
    rw [hf, bindS, letO_eq, thenY, h1]
    cases q with
    | inl u => simp [bindS]
    | inr u => simp [bindS]
  unfold m_stream_valley_dry m_stream_valley_tides
  rw [bindS]
  simp only
  rw [hy, bindS, h2, bindS]
  rcases h3 with ⟨rfl, h⟩ | ⟨j, rfl, _, g1, g2, g3⟩
  · exact ⟨_, rfl, .inl ⟨rfl, fun i hi => h i (Nat.zero_le _) hi⟩⟩
  · exact ⟨_, rfl, .inr ⟨j, rfl, g1, g2, fun i hi => g3 i (Nat.zero_le _) hi⟩⟩
end Go.Proofs.Ytelnoeamkdpjhaa.Aw

/- Plain: beaten cloths without measurings. -/
namespace Go.Proofs.Ytelnoeamkdpjhaa.Aw
open Go Go.RowKit Go.Proofs
set_option linter.unusedSimpArgs false
set_option linter.unusedVariables false
theorem cw_ok (N : Nat) (hN : 2000000 ≤ N) {a b : Int} {l : List Int} (hl : l.length ≤ 1000000) (h : ∀ n ∈ l, a ≤ n ∧ n ≤ b) : m_cloth_within N a b l = some true := sw_ok N hN hl h
theorem cs_ok (N : Nat) (hN : 2000000 ≤ N) {s : api_Span} {a b w : Int} (h0 : 0 ≤ a) (hb : b ≤ 10000) (h1 : a ≤ s.Low) (h2 : s.Low ≤ s.High) (h3 : s.High ≤ b) (h4 : s.High - s.Low ≤ w) : m_cloth_isSpan N s a b w = some true := by
  unfold m_cloth_isSpan
  rw [cw_ok N hN (by simp) (by intro n hn; simp only [List.mem_cons, List.not_mem_nil, or_false] at hn; omega), bindS, if_pos rfl, subW (by omega)]
  rw [cw_ok N hN (by simp) (by intro n hn; simp only [List.mem_singleton] at hn; omega)]
  rfl
structure TrackOk (t : api_ClothTrack) : Prop where
  first : 1 ≤ t.First.Low ∧ t.First.Low ≤ t.First.High ∧ t.First.High ≤ 2000 ∧ t.First.High - t.First.Low ≤ 60
  rate : 0 ≤ t.Rate.Low ∧ t.Rate.Low ≤ t.Rate.High ∧ t.Rate.High ≤ 100 ∧ t.Rate.High - t.Rate.Low ≤ 30
theorem track_ok (N : Nat) (hN : 2000000 ≤ N) {t : api_ClothTrack} (h : TrackOk t) : m_cloth_Check_1 N t = some false := by
  obtain ⟨a1, a2, a3, a4⟩ := h.first
  obtain ⟨b1, b2, b3, b4⟩ := h.rate
  unfold m_cloth_Check_1 m_cloth_isTrack m_cloth_isRate
  rw [cs_ok N hN (by omega) (by omega) a1 a2 a3 a4, bindS, if_pos rfl, cs_ok N hN (by omega) (by omega) b1 b2 b3 b4]
  rfl
theorem cf_track (N : Nat) (s : List api_ClothTrack) (f : api_ClothTrack → Option Bool) : m_slices_ContainsFunc_Lapi_ClothTrack_api_ClothTrack N s f = contF d_api_ClothTrack N s f := rfl
theorem cf_measure (N : Nat) (s : List api_ClothMeasure) (f : api_ClothMeasure → Option Bool) : m_slices_ContainsFunc_Lapi_ClothMeasure_api_ClothMeasure N s f = contF d_api_ClothMeasure N s f := rfl
theorem check_ok (N : Nat) (hN : 2000000 ≤ N) {a b c : api_ClothTrack} (ha : TrackOk a) (hb : TrackOk b) (hc : TrackOk c) : m_cloth_Check N ⟨[a, b, c], []⟩ = some 0 := by
  have h1 : ∀ x ∈ [a, b, c], m_cloth_Check_1 N x = some ((fun _ => false) x) := fun x hx => by
    simp only [List.mem_cons, List.not_mem_nil, or_false] at hx
    rcases hx with rfl | rfl | rfl
    · exact track_ok N hN ha
    · exact track_ok N hN hb
    · exact track_ok N hN hc
  have h2 : ∀ x ∈ ([] : List api_ClothMeasure), m_cloth_Check_2 N x = some ((fun _ => false) x) := fun x hx => by cases hx
  unfold m_cloth_Check
  rw [cf_track, contF_eq N hN (by simp) h1, cf_measure, contF_eq N hN (by simp) h2]
  rfl
/-! Stretches. -/
def strs (s : api_Span) (r : Int) : Nat → List cloth_stretch
  | 0 => []
  | n + 1 => ⟨s, r⟩ :: strs s (r + 1) n
theorem strs_len {s : api_Span} : ∀ (n : Nat) (r : Int), (strs s r n).length = n
  | 0, _ => rfl
  | n + 1, r => by simp [strs, strs_len n]
theorem strs_mem {s : api_Span} : ∀ {n : Nat} {r : Int} {x : cloth_stretch}, x ∈ strs s r n → x.Span = s ∧ r ≤ x.rate ∧ x.rate < r + n
  | 0, _, _, h => by cases h
  | n + 1, r, x, h => by
    rcases List.mem_cons.1 h with rfl | h
    · exact ⟨rfl, Int.le_refl _, by simp only; omega⟩
    · obtain ⟨h1, h2, h3⟩ := strs_mem h
      exact ⟨h1, by omega, by omega⟩
theorem loopO_done {σ ρ : Type} {step : σ → Option (σ ⊕ ρ)} {s : σ} {q : ρ} (h : step s = some (.inr q)) {N : Nat} (hN : 1 ≤ N) : loopO step N s = some q := by
  obtain ⟨n, rfl⟩ : ∃ n, N = n + 1 := ⟨N - 1, by omega⟩
  rw [loopO, h]
theorem loopY_strs (N : Nat) (hN : 2000000 ≤ N) {t : api_ClothTrack} (ht : TrackOk t) (tr : List api_ClothTrack) (w : Int) (f : Int → Option Bool) : ∀ (n k : Nat) (r : Int), (t.Rate.High + 1 - r).toNat = k → k < n → 0 ≤ r → r ≤ t.Rate.High + 1 →
    loopY (m_cloth_stretches_1_L1 N t ⟨tr, []⟩ w f) n r = some (strs t.First r k, ())
  | 0, k, r, _, hk, _, _ => by omega
  | n + 1, k, r, e, hk, h0, h1 => by
    obtain ⟨b1, b2, b3, b4⟩ := ht.rate
    obtain ⟨a1, a2, a3, a4⟩ := ht.first
    by_cases hc : r ≤ t.Rate.High
    · obtain ⟨k, rfl⟩ : ∃ j, k = j + 1 := ⟨k - 1, by omega⟩
      have hs : m_cloth_stretches_1_L1 N t ⟨tr, []⟩ w f r = some ([⟨t.First, r⟩], .inl (r + 1)) := by
        have h2 : loopO (m_cloth_stretches_1_L2 N ((([] : List api_ClothMeasure).length : Nat) : Int) ⟨tr, []⟩ w f r) N (0, t.First.Low, t.First.High) = some (t.First.Low, t.First.High) :=
          loopO_done (by simp only [m_cloth_stretches_1_L2, icmp_lss, decide_eq_true_eq]; rw [if_neg (by simp)]) (by omega)
        simp only [m_cloth_stretches_1_L1, icmp_leq, decide_eq_true_eq, if_pos hc, letO_eq]
        rw [h2, bindS]
        simp only
        rw [if_pos a2, addW (by omega)]
        rfl
      rw [loopY, hs]
      simp only
      rw [loopY_strs N hN ht tr w f n k (r + 1) (by omega) (by omega) (by omega) (by omega)]
      rfl
    · have hk0 : k = 0 := by omega
      subst hk0
      rw [loopY]
      simp only [m_cloth_stretches_1_L1, icmp_leq, decide_eq_true_eq, if_neg hc]
      rfl
theorem collect_is (N : Nat) : ∀ (ys l : List cloth_stretch), l.length + ys.length ≤ 1000 → rangeO (m_slices_AppendSeq_Lcloth_stretch_cloth_stretch_L1 N) ys l = some (.inl (l ++ ys))
  | [], l, _ => by simp [rangeO]
  | y :: r, l, h => by
    simp only [List.length_cons] at h
    have hfit : fitsN (l.length + 1) 24 := ⟨by omega, by omega⟩
    simp only [rangeO, m_slices_AppendSeq_Lcloth_stretch_cloth_stretch_L1, if_pos hfit]
    rw [collect_is N r (l ++ [y]) (by simp only [List.length_append, List.length_singleton]; omega)]
    simp
def cnt (t : api_ClothTrack) : Nat := (t.Rate.High - t.Rate.Low).toNat
def strT (t : api_ClothTrack) : List cloth_stretch := strs t.First t.Rate.Low (cnt t + 1)
theorem quantity_is (N : Nat) (hN : 2000000 ≤ N) {t : api_ClothTrack} (ht : TrackOk t) (tr : List api_ClothTrack) (w : Int) (f : Int → Option Bool) :
    ∃ ys, m_it_cloth_stretches_1 N t ⟨tr, []⟩ w f = some ys ∧ m_slices_Collect_cloth_stretch N ys = some (strT t) := by
  obtain ⟨b1, b2, b3, b4⟩ := ht.rate
  have h := loopY_strs N hN ht tr w f N (cnt t + 1) t.Rate.Low (by unfold cnt; omega) (by unfold cnt; omega) b1 (by omega)
  refine ⟨strT t, ?_, ?_⟩
  · unfold m_it_cloth_stretches_1 m_cloth_stretches_1
    rw [thenY, h]
    simp [bindS, strT]
  · unfold m_slices_Collect_cloth_stretch m_slices_AppendSeq_Lcloth_stretch_cloth_stretch
    rw [collect_is N (strT t) [] (by unfold strT; rw [strs_len]; simp only [List.length_nil]; unfold cnt; omega)]
    rfl
theorem copen_ok (N : Nat) (hN : 2000000 ≤ N) {a b c : api_ClothTrack} (ha : TrackOk a) (hb : TrackOk b) (hc : TrackOk c) : m_cloth_open N ⟨[a, b, c], []⟩ = some (⟨strT a, strT b, strT c⟩, 0) := by
  have ln : ∀ t, ¬ (((strT t).length : Nat) : Int) = 0 := fun t => by unfold strT; rw [strs_len]; omega
  obtain ⟨y1, p1, q1⟩ := quantity_is N hN ha [a, b, c] 0 (fun x0 => m_cloth_none N x0)
  obtain ⟨y2, p2, q2⟩ := quantity_is N hN hb [a, b, c] 1 (fun x0 => m_cloth_none N x0)
  obtain ⟨y3, p3, q3⟩ := quantity_is N hN hc [a, b, c] 2 (fun x0 => m_cloth_none N x0)
  have s1 : m_cloth_stretches N ⟨[a, b, c], []⟩ 0 (fun x0 => m_cloth_none N x0) = some (a, ⟨[a, b, c], []⟩, 0) := rfl
  have s2 : m_cloth_stretches N ⟨[a, b, c], []⟩ 1 (fun x0 => m_cloth_none N x0) = some (b, ⟨[a, b, c], []⟩, 1) := rfl
  have s3 : m_cloth_stretches N ⟨[a, b, c], []⟩ 2 (fun x0 => m_cloth_none N x0) = some (c, ⟨[a, b, c], []⟩, 2) := rfl
  unfold m_cloth_open
  rw [check_ok N hN ha hb hc, bindS]
  simp only [icmp_neq, icmp_eql, decide_eq_true_eq]
  rw [if_neg (by simp), s1, bindS]
  simp only
  rw [p1, bindS, q1, bindS, if_neg (ln a), s2, bindS]
  simp only
  rw [p2, bindS, q2, bindS, if_neg (ln b), s3, bindS]
  simp only
  rw [p3, bindS, q3, bindS, if_neg (ln c)]
/-! What becomes of numbers. -/
def aft (x r : Int) : Nat → Int
  | 0 => x
  | n + 1 => aft x r n - aft x r n * r / 1000
theorem aft_step {x r : Int} (hr : 0 ≤ r ∧ r ≤ 100) (hx : 0 ≤ x) : ∀ n, 0 ≤ aft x r n ∧ aft x r (n + 1) ≤ aft x r n ∧ aft x r n ≤ x
  | 0 => by
    have h1 : 0 ≤ x * r := Int.mul_nonneg hx hr.1
    have h2 : 0 ≤ x * r / 1000 := Int.ediv_nonneg h1 (by omega)
    simp only [aft]
    exact ⟨hx, by omega, Int.le_refl _⟩
  | n + 1 => by
    obtain ⟨h1, h2, h3⟩ := aft_step hr hx n
    have h4 : 0 ≤ aft x r n * r := Int.mul_nonneg h1 hr.1
    have h5 : aft x r n * r ≤ aft x r n * 100 := Int.mul_le_mul_of_nonneg_left hr.2 h1
    have h6 : 0 ≤ aft x r (n + 1) := by
      rw [aft]
      generalize aft x r n * r = z at h4 h5
      omega
    have h7 : 0 ≤ aft x r (n + 1) * r := Int.mul_nonneg h6 hr.1
    have h8 : 0 ≤ aft x r (n + 1) * r / 1000 := Int.ediv_nonneg h7 (by omega)
    refine ⟨h6, ?_, by omega⟩
    rw [aft]
    omega
theorem after_is (N : Nat) (hN : 2000000 ≤ N) {x r : Int} (hr : 0 ≤ r ∧ r ≤ 100) (hx : 0 ≤ x ∧ x ≤ 2000) {h : Nat} (hh : h ≤ 48) : m_cloth_after N x r h = some (aft x r h) := by
  obtain ⟨q, hq, hp⟩ := loopO_of (step := m_cloth_after_L1 N h r) (fun s => 0 ≤ s.2 ∧ s.2 ≤ h ∧ s.1 = aft x r s.2.toNat) (fun s => (h - s.2).toNat) (fun q => q = aft x r h) (fun s hi => by
    obtain ⟨y, i⟩ := s
    obtain ⟨i0, i1, i2⟩ := hi
    simp only at i0 i1 i2
    obtain ⟨k, rfl⟩ : ∃ k : Nat, i = k := ⟨i.toNat, by omega⟩
    simp only [Int.toNat_natCast] at i2
    by_cases hc : (k : Int) < (h : Int)
    · left
      obtain ⟨g1, g2, g3⟩ := aft_step hr hx.1 k
      have h4 : 0 ≤ aft x r k * r := Int.mul_nonneg g1 hr.1
      have h5 : aft x r k * r ≤ aft x r k * 100 := Int.mul_le_mul_of_nonneg_left hr.2 g1
      have e1 : iopR .mul .i64 y r = aft x r k * r := by rw [i2, mulW (by omega)]
      have e2 : iopR .quo .i64 (aft x r k * r) 1000 = aft x r k * r / 1000 := quoW (by omega) (by omega)
      have e3 : iopR .sub .i64 y (aft x r k * r / 1000) = aft x r (k + 1) := by rw [i2, subW (by generalize aft x r k * r = z at h4 h5; omega), aft]
      simp only [m_cloth_after_L1, icmp_lss, decide_eq_true_eq, if_pos hc]
      rw [e1, e2, e3, addW (by omega)]
      exact ⟨_, rfl, ⟨by simp only; omega, by simp only; omega, by simp only; rw [show ((k : Int) + 1).toNat = k + 1 by omega]⟩, by simp only; omega⟩
    · right
      simp only [m_cloth_after_L1, icmp_lss, decide_eq_true_eq, if_neg hc]
      exact ⟨_, rfl, by rw [i2, show k = h by omega]⟩) N (x, 0) ⟨by simp, by simp, by simp [aft]⟩ (by simp only; omega)
  unfold m_cloth_after
  rw [hq, bindS, hp]
/-! Hulls. -/
def hul (f : cloth_stretch → api_Span) : List cloth_stretch → Int → Int → Int × Int
  | [], a, b => (a, b)
  | x :: r, a, b => hul f r (min a (f x).Low) (max b (f x).High)
def spanAt (h : Nat) (x : cloth_stretch) : api_Span := ⟨aft x.Span.Low x.rate h, aft x.Span.High x.rate h⟩
def atT (t : api_ClothTrack) (h : Nat) : api_Span :=
  ⟨(hul (spanAt h) (strs t.First (t.Rate.Low + 1) (cnt t)) (aft t.First.Low t.Rate.Low h) (aft t.First.High t.Rate.Low h)).1, (hul (spanAt h) (strs t.First (t.Rate.Low + 1) (cnt t)) (aft t.First.Low t.Rate.Low h) (aft t.First.High t.Rate.Low h)).2⟩
theorem hulled_is (N : Nat) (hN : 2000000 ≤ N) {t : api_ClothTrack} (ht : TrackOk t) {h : Nat} (hh : h ≤ 48) : m_cloth_hulled N (strT t) (fun x0 => m_cloth_truths_at_1 N x0 h) = some (atT t h) := by
  obtain ⟨b1, b2, b3, b4⟩ := ht.rate
  obtain ⟨a1, a2, a3, a4⟩ := ht.first
  have hof : ∀ x : cloth_stretch, x.Span = t.First → 0 ≤ x.rate → x.rate ≤ 100 → m_cloth_truths_at_1 N x h = some (spanAt h x) := fun x e h0 h1 => by
    unfold m_cloth_truths_at_1 m_cloth_stretch_at
    rw [e, after_is N hN ⟨h0, h1⟩ (by omega) hh, bindS, after_is N hN ⟨h0, h1⟩ (by omega) hh]
    simp only [bindS, spanAt, e]
  obtain ⟨R, eR⟩ : ∃ R, R = strs t.First (t.Rate.Low + 1) (cnt t) := ⟨_, rfl⟩
  have hR : strT t = ⟨t.First, t.Rate.Low⟩ :: R := by rw [eR]; rfl
  have hRl : R.length ≤ 100 := by rw [eR, strs_len]; unfold cnt; omega
  have hRm : ∀ x ∈ R, m_cloth_truths_at_1 N x h = some (spanAt h x) := fun x hx => by
    rw [eR] at hx
    obtain ⟨e, r1, r2⟩ := strs_mem hx
    unfold cnt at r2
    exact hof x e (by omega) (by omega)
  have h0 : m_cloth_truths_at_1 N ⟨t.First, t.Rate.Low⟩ h = some ⟨aft t.First.Low t.Rate.Low h, aft t.First.High t.Rate.Low h⟩ := hof _ rfl (by simp only; omega) (by simp only; omega)
  have hg : getO d_cloth_stretch (strT t) 0 = some ⟨t.First, t.Rate.Low⟩ := by rw [hR, getO_of (by omega) (by simp only [List.length_cons]; omega)]; rfl
  have hd : ((strT t).take ((((strT t).length : Nat) : Int)).toNat).drop 1 = R := by rw [Int.toNat_natCast, List.take_length, hR]; rfl
  obtain ⟨q, hq, hp⟩ := loopO_of (step := m_cloth_hulled_L1 N ((R.length : Nat) : Int) R (fun x0 => m_cloth_truths_at_1 N x0 h)) (fun s => 0 ≤ s.1 ∧ s.1 ≤ R.length ∧ hul (spanAt h) (R.drop s.1.toNat) s.2.1 s.2.2 = ((atT t h).Low, (atT t h).High)) (fun s => (R.length - s.1).toNat) (fun q => q = ((atT t h).Low, (atT t h).High)) (fun s hi => by
    obtain ⟨i, a, b⟩ := s
    obtain ⟨i0, i1, i2⟩ := hi
    simp only at i0 i1 i2
    by_cases hc : i < (R.length : Int)
    · left
      have hlt : i.toNat < R.length := by omega
      have hget : R.getD i.toNat d_cloth_stretch = R[i.toNat] := by simp [List.getD_eq_getElem?_getD, hlt]
      have hm : R[i.toNat] ∈ R := List.getElem_mem hlt
      simp only [m_cloth_hulled_L1, icmp_lss, decide_eq_true_eq, if_pos hc, getO_of (d := d_cloth_stretch) i0 hc, bindS, hget, hRm _ hm, m_cloth_hull]
      rw [addW (by omega)]
      refine ⟨_, rfl, ⟨by simp only; omega, by simp only; omega, ?_⟩, by simp only; omega⟩
      simp only
      rw [show (i + 1).toNat = i.toNat + 1 by omega]
      rw [List.drop_eq_getElem_cons hlt, hul] at i2
      exact i2
    · right
      simp only [m_cloth_hulled_L1, icmp_lss, decide_eq_true_eq, if_neg hc]
      rw [List.drop_eq_nil_of_le (by omega), hul] at i2
      exact ⟨_, rfl, i2⟩) N (0, aft t.First.Low t.Rate.Low h, aft t.First.High t.Rate.Low h) ⟨by simp, by simp, by simp only [Int.toNat_zero, List.drop_zero, atT, eR]⟩ (by simp only; omega)
  have hl1 : (1 : Int) ≤ (((strT t).length : Nat) : Int) := by rw [hR]; simp only [List.length_cons]; omega
  unfold m_cloth_hulled
  rw [hg, bindS]
  simp only
  rw [h0, bindS, if_pos (by omega), if_pos hl1, if_pos (by omega)]
  simp only [letO_eq, hd]
  rw [hq, bindS, hp]
theorem At_is (N : Nat) (hN : 2000000 ≤ N) {a b c : api_ClothTrack} (ha : TrackOk a) (hb : TrackOk b) (hc : TrackOk c) {h : Nat} (hh : h ≤ 48) : m_cloth_At N ⟨[a, b, c], []⟩ h = some ([atT a h, atT b h, atT c h], 0) := by
  have t0 : m_cloth_truths_at N ⟨strT a, strT b, strT c⟩ 0 h = some (atT a h) := by
    unfold m_cloth_truths_at
    simp only [icmp_eql, decide_eq_true_eq]
    rw [if_pos (by omega), if_pos trivial, hulled_is N hN ha hh]
    rfl
  have t1 : m_cloth_truths_at N ⟨strT a, strT b, strT c⟩ 1 h = some (atT b h) := by
    unfold m_cloth_truths_at
    simp only [icmp_eql, decide_eq_true_eq]
    rw [if_pos (by omega), if_neg (by omega), if_pos trivial, hulled_is N hN hb hh]
    rfl
  have t2 : m_cloth_truths_at N ⟨strT a, strT b, strT c⟩ 2 h = some (atT c h) := by
    unfold m_cloth_truths_at
    simp only [icmp_eql, decide_eq_true_eq]
    rw [if_pos (by omega), if_neg (by omega), if_neg (by omega), hulled_is N hN hc hh]
    rfl
  have f1 : fitsN 1 16 := ⟨by omega, by omega⟩
  have f2 : fitsN 2 16 := ⟨by omega, by omega⟩
  have f3 : fitsN 3 16 := ⟨by omega, by omega⟩
  unfold m_cloth_At
  rw [copen_ok N hN ha hb hc, bindS]
  simp only [icmp_neq, decide_eq_true_eq]
  rw [if_neg (by simp), cw_ok N hN (by simp) (by intro n hn; simp only [List.mem_singleton] at hn; omega), bindS]
  simp only [Bool.not_true, Bool.false_eq_true, if_false]
  rw [t0, bindS, if_pos f1, t1, bindS, if_pos f2, t2, bindS, if_pos f3]
/-! What is made of bytes. -/
theorem made_yarn (N : Nat) (p : top_FirYarn) (h : (u8ok p.Tracks.a0.a0 ∧ u8ok p.Tracks.a0.a1 ∧ u8ok p.Tracks.a0.a2 ∧ u8ok p.Tracks.a0.a3) ∧ (u8ok p.Tracks.a1.a0 ∧ u8ok p.Tracks.a1.a1 ∧ u8ok p.Tracks.a1.a2 ∧ u8ok p.Tracks.a1.a3) ∧ u8ok p.Tracks.a2.a0 ∧ u8ok p.Tracks.a2.a1 ∧ u8ok p.Tracks.a2.a2 ∧ u8ok p.Tracks.a2.a3) :
    ∃ a b c, m_top_FirYarn_made N p = some ⟨[a, b, c], []⟩ ∧ TrackOk a ∧ TrackOk b ∧ TrackOk c := by
  have one : ∀ v : A4_u8, u8ok v.a0 ∧ u8ok v.a1 ∧ u8ok v.a2 ∧ u8ok v.a3 →
      TrackOk ⟨⟨iopR .add .i64 100 (IntKind.wrap .i64 v.a0), iopR .add .i64 (iopR .add .i64 100 (IntKind.wrap .i64 v.a0)) (iopR .mul .i64 2 (iopR .rem .i64 (IntKind.wrap .i64 v.a1) 20))⟩, ⟨iopR .rem .i64 (IntKind.wrap .i64 v.a2) 70, iopR .add .i64 (iopR .rem .i64 (IntKind.wrap .i64 v.a2) 70) (iopR .rem .i64 (IntKind.wrap .i64 v.a3) 20)⟩⟩ := fun v hv => by
    obtain ⟨⟨a0, a1⟩, ⟨b0, b1⟩, ⟨c0, c1⟩, d0, d1⟩ := hv
    rw [wrap_i64 (n := v.a0) (by omega), wrap_i64 (n := v.a1) (by omega), wrap_i64 (n := v.a2) (by omega), wrap_i64 (n := v.a3) (by omega), remW (by omega), remW (by omega), remW (by omega), mulW (by omega), addW (a := 100) (by omega), addW (by omega), addW (by omega)]
    exact ⟨⟨by simp only; omega, by simp only; omega, by simp only; omega, by simp only; omega⟩, ⟨by simp only; omega, by simp only; omega, by simp only; omega, by simp only; omega⟩⟩
  have f1 : fitsN 1 32 := ⟨by omega, by omega⟩
  have f2 : fitsN 2 32 := ⟨by omega, by omega⟩
  have f3 : fitsN 3 32 := ⟨by omega, by omega⟩
  refine ⟨_, _, _, ?_, one _ h.1, one _ h.2.1, one _ h.2.2⟩
  unfold m_top_FirYarn_made
  simp only [m_top_firSpan, bindS, if_pos f1, if_pos f2, if_pos f3]
end Go.Proofs.Ytelnoeamkdpjhaa.Aw

/- Plain: hammers that go by a plan (Goes, Levels, Blows), hours that a cloth can have been beaten (Hours). -/
namespace Go.Proofs.Ytelnoeamkdpjhaa.Aw
open Go Go.RowKit Go.Proofs
set_option linter.unusedSimpArgs false
set_option linter.unusedVariables false
/-! Sums. -/
def isum : List Int → Int
  | [] => 0
  | x :: r => x + isum r
theorem isum_le {c : Int} (hc : 0 ≤ c) : ∀ {l : List Int}, (∀ p ∈ l, 0 ≤ p ∧ p ≤ c) → 0 ≤ isum l ∧ isum l ≤ c * l.length
  | [], _ => by simp [isum]
  | x :: r, h => by
    have h1 := h x (by simp)
    have h2 := isum_le hc (l := r) (fun p hp => h p (List.mem_cons_of_mem _ hp))
    simp only [isum, List.length_cons]
    have h3 : c * ((r.length + 1 : Nat) : Int) = c * (r.length : Int) + c := by rw [Int.natCast_add, Int.mul_add]; simp
    rw [h3]
    omega
theorem sum_is (N : Nat) (hN : 2000000 ≤ N) {l : List Int} (hl : l.length ≤ 1000) (h : ∀ p ∈ l, 0 ≤ p ∧ p ≤ 8) : loopO (m_stream_sum_L1 N ((l.length : Nat) : Int) l) N (0, 0) = some (isum l) := by
  obtain ⟨q, hq, hp⟩ := loopO_of (step := m_stream_sum_L1 N ((l.length : Nat) : Int) l) (fun s => 0 ≤ s.2 ∧ s.2 ≤ l.length ∧ 0 ≤ s.1 ∧ s.1 ≤ 8 * s.2 ∧ s.1 + isum (l.drop s.2.toNat) = isum l) (fun s => (l.length - s.2).toNat) (fun q => q = isum l) (fun s hi => by
    obtain ⟨n, i⟩ := s
    obtain ⟨i0, i1, i2, i3, i4⟩ := hi
    simp only at i0 i1 i2 i3 i4
    by_cases hc : i < (l.length : Int)
    · left
      have hlt : i.toNat < l.length := by omega
      have hget : l.getD i.toNat 0 = l[i.toNat] := by simp [List.getD_eq_getElem?_getD, hlt]
      have hm := h _ (List.getElem_mem hlt)
      rw [List.drop_eq_getElem_cons hlt, isum] at i4
      simp only [m_stream_sum_L1, icmp_lss, decide_eq_true_eq, if_pos hc, getO_of (d := (0 : Int)) i0 hc, bindS, hget]
      rw [addW (by omega), addW (by omega)]
      refine ⟨_, rfl, ⟨by simp only; omega, by simp only; omega, by simp only; omega, by simp only; omega, ?_⟩, by simp only; omega⟩
      simp only
      rw [show (i + 1).toNat = i.toNat + 1 by omega]
      omega
    · right
      simp only [m_stream_sum_L1, icmp_lss, decide_eq_true_eq, if_neg hc]
      rw [List.drop_eq_nil_of_le (by omega), isum] at i4
      exact ⟨_, rfl, by omega⟩) N (0, 0) ⟨by simp, by simp only; omega, by simp, by simp, by simp⟩ (by simp only; omega)
  rw [hq, hp]
theorem ssum_is (N : Nat) (hN : 2000000 ≤ N) {l : List Int} (hl : l.length ≤ 1000) (h : ∀ p ∈ l, 0 ≤ p ∧ p ≤ 8) : m_stream_sum N l = some (isum l) := by
  unfold m_stream_sum
  rw [letO_eq, sum_is N hN hl h]
  rfl
theorem fsum_is (N : Nat) (hN : 2000000 ≤ N) {l : List Int} (hl : l.length ≤ 1000) (h : ∀ p ∈ l, 0 ≤ p ∧ p ≤ 8) : m_top_firSum N l = some (isum l) := by
  unfold m_top_firSum
  have e : m_top_firSum_L1 N l = m_stream_sum_L1 N ((l.length : Nat) : Int) l := rfl
  rw [e, sum_is N hN hl h]
  rfl
/-! Plans. -/
theorem openPlan_ok (N : Nat) (hN : 2000000 ≤ N) {m : api_StreamMill} {l : List api_Span} (hm : MillOk m) (h1 : 1 ≤ l.length) (h2 : l.length ≤ 24) (hl : ∀ s ∈ l, SpOk 500 s) {plan : List Int} (hp : plan.length = l.length) (hb : ∀ p ∈ plan, 0 ≤ p ∧ p ≤ m.Hammers) :
    m_stream_openPlan N m l plan ((l.length : Nat) : Int) = some (⟨m, l⟩, 0) := by
  unfold m_stream_openPlan
  rw [open_ok N hN hm h1 h2 hl, bindS]
  simp only [icmp_eql, decide_eq_true_eq]
  rw [if_pos trivial, sw_ok N hN (by simp) (by intro n hn; simp only [List.mem_singleton] at hn; omega), bindS, sw_ok N hN (by omega) hb]
  rfl
/-- What is yielded: as many hours as the plan has, if the water suffices; never others. -/
theorem tides_list (N : Nat) {v : stream_valley} {plan : List Int} (hv : MillOk v.StreamMill) (hl : plan.length = v.flows.length) (h24 : v.flows.length ≤ 24) (hp : ∀ p ∈ plan, 0 ≤ p ∧ p ≤ 8) {f : api_Span → Option Int} {g : api_Span → Int} (hf : ∀ x, f x = some (g x)) (hg : ∀ x ∈ v.flows, 0 ≤ g x ∧ g x ≤ 500) {w0 : Int} :
    ∀ (n k : Nat), plan.length - k < n → k ≤ plan.length → 0 ≤ wat v.StreamMill.Holds v.StreamMill.Takes g v.flows plan w0 k → wat v.StreamMill.Holds v.StreamMill.Takes g v.flows plan w0 k ≤ 500 →
    ∃ ys q, loopY (m_stream_valley_tides_1_L1 N ((plan.length : Nat) : Int) plan v f) n (wat v.StreamMill.Holds v.StreamMill.Takes g v.flows plan w0 k, (k : Int)) = some (ys, q) ∧ (∀ y ∈ ys, 0 ≤ y.1 ∧ y.1 < plan.length) ∧ ys.length ≤ plan.length - k ∧
      ((∀ i, k ≤ i → i < plan.length → 0 ≤ wat v.StreamMill.Holds v.StreamMill.Takes g v.flows plan w0 (i + 1)) → ys.length = plan.length - k)
  | 0, k, hn, _, _, _ => by omega
  | n + 1, k, hn, hk, h0, h5 => by
    obtain ⟨W, hW⟩ : ∃ W, W = wat v.StreamMill.Holds v.StreamMill.Takes g v.flows plan w0 := ⟨_, rfl⟩
    simp only [← hW] at h0 h5 ⊢
    by_cases hc : k < plan.length
    · have hk0 : (0 : Int) ≤ (k : Int) := by omega
      have hk1 : (k : Int) < (plan.length : Int) := by omega
      have hk2 : (k : Int) < (v.flows.length : Int) := by omega
      obtain ⟨p, ep⟩ : ∃ p, p = plan.getD k 0 := ⟨_, rfl⟩
      obtain ⟨x, ex⟩ : ∃ x, x = v.flows.getD k d_api_Span := ⟨_, rfl⟩
      obtain ⟨p0, p1⟩ : 0 ≤ p ∧ p ≤ 8 := ep ▸ hp _ (getD_mem hc)
      obtain ⟨g0, g1⟩ : 0 ≤ g x ∧ g x ≤ 500 := ex ▸ hg _ (getD_mem (by omega))
      obtain ⟨t0, t1⟩ := hv.tak
      obtain ⟨b0, b1⟩ := hv.hol
      have hpt : 0 ≤ p * v.StreamMill.Takes := Int.mul_nonneg p0 t0
      have hpt2 : p * v.StreamMill.Takes ≤ 8 * 100 := Int.mul_le_mul p1 t1 t0 (by omega)
      have e1 : getO (0 : Int) plan (k : Int) = some p := by rw [getO_of hk0 hk1, ep]; simp
      have e2 : getO d_api_Span v.flows (k : Int) = some x := by rw [getO_of hk0 hk2, ex]; simp
      have hnext : W (k + 1) = min v.StreamMill.Holds (W k + g x) - p * v.StreamMill.Takes := by rw [hW, wat, ← hW, ep, ex]
      obtain ⟨pt, ept⟩ : ∃ y, y = p * v.StreamMill.Takes := ⟨_, rfl⟩
      rw [← ept] at hpt hpt2 hnext
      have e3 : iopR .add .i64 (W k) (g x) = W k + g x := addW (by omega)
      have e4 : iopR .mul .i64 p v.StreamMill.Takes = pt := by rw [mulW (by omega), ept]
      have e5 : iopR .sub .i64 (min v.StreamMill.Holds (W k + g x)) pt = W (k + 1) := by rw [subW (by omega), hnext]
      have e6 : iopR .add .i64 (k : Int) 1 = ((k + 1 : Nat) : Int) := by rw [addW (by omega)]; omega
      by_cases hneg : W (k + 1) < 0
      · have hs : m_stream_valley_tides_1_L1 N ((plan.length : Nat) : Int) plan v f (W k, (k : Int)) = some ([((k : Int), ⟨min v.StreamMill.Holds (W k + g x), W (k + 1)⟩)], .inr (.inl ())) := by
          simp only [m_stream_valley_tides_1_L1, icmp_lss, decide_eq_true_eq, if_pos hk1, e1, e2, hf, bindS, e3, e4, e5, if_pos hneg, yieldO]
        refine ⟨_, _, by rw [loopY, hs], ?_, by simp only [List.length_singleton]; omega, fun h => ?_⟩
        · intro y hy
          rw [List.mem_singleton] at hy
          subst hy
          exact ⟨hk0, hk1⟩
        · have := h k (Nat.le_refl _) hc
          omega
      · have hs : m_stream_valley_tides_1_L1 N ((plan.length : Nat) : Int) plan v f (W k, (k : Int)) = some ([((k : Int), ⟨min v.StreamMill.Holds (W k + g x), W (k + 1)⟩)], .inl (W (k + 1), ((k + 1 : Nat) : Int))) := by
          simp only [m_stream_valley_tides_1_L1, icmp_lss, decide_eq_true_eq, if_pos hk1, e1, e2, hf, bindS, e3, e4, e5, e6, if_neg hneg, yieldO]
        have ih := tides_list N hv hl h24 hp hf hg (w0 := w0) n (k + 1) (by omega) (by omega) (by rw [← hW]; omega) (by rw [← hW]; omega)
        simp only [← hW] at ih
        obtain ⟨ys, q, i1, i2, i3, i4⟩ := ih
        refine ⟨_, q, by rw [loopY, hs]; simp only; rw [i1]; rfl, ?_, ?_, ?_⟩
        · intro y hy
          rcases List.mem_cons.1 hy with rfl | hy
          · exact ⟨hk0, hk1⟩
          · exact i2 y hy
        · simp only [List.cons_append, List.nil_append, List.length_cons]; omega
        · intro h
          have := i4 (fun i h1 h2 => h i (by omega) h2)
          simp only [List.cons_append, List.nil_append, List.length_cons]; omega
    · have hk1 : ¬ (k : Int) < (plan.length : Int) := by omega
      have hs : m_stream_valley_tides_1_L1 N ((plan.length : Nat) : Int) plan v f (W k, (k : Int)) = some ([], .inr (.inr ())) := by
        simp only [m_stream_valley_tides_1_L1, icmp_lss, decide_eq_true_eq, if_neg hk1]
      exact ⟨_, _, by rw [loopY, hs], (by intro y hy; cases hy), by simp, fun _ => by simp only [List.length_nil]; omega⟩
theorem lev1 (N : Nat) : ∀ (ys : List (Int × stream_tide)) (l : List api_Span), l.length + ys.length ≤ 1000 → ∃ l', rangeO (m_stream_Levels_L1 N) ys l = some (.inl l') ∧ l'.length = l.length + ys.length
  | [], l, _ => ⟨l, rfl, by simp⟩
  | y :: r, l, h => by
    simp only [List.length_cons] at h
    have hfit : fitsN (l.length + 1) 16 := ⟨by omega, by omega⟩
    obtain ⟨l', h1, h2⟩ := lev1 N r (l ++ [⟨y.2.left, 0⟩]) (by simp only [List.length_append, List.length_singleton]; omega)
    refine ⟨l', ?_, by simp only [List.length_append, List.length_singleton] at h2; simp only [List.length_cons]; omega⟩
    simp only [rangeO, m_stream_Levels_L1, if_pos hfit]
    exact h1
theorem lev2 (N : Nat) : ∀ (ys : List (Int × stream_tide)) (l : List api_Span), (∀ y ∈ ys, 0 ≤ y.1 ∧ y.1 < l.length) → ∃ l', rangeO (m_stream_Levels_L2 N) ys l = some (.inl l') ∧ l'.length = l.length
  | [], l, _ => ⟨l, rfl, rfl⟩
  | y :: r, l, h => by
    have hy := h y (by simp)
    obtain ⟨l', h1, h2⟩ := lev2 N r (l.set y.1.toNat ⟨(l.getD y.1.toNat d_api_Span).Low, y.2.left⟩) (fun z hz => by rw [List.length_set]; exact h z (List.mem_cons_of_mem _ hz))
    refine ⟨l', ?_, by rw [h2, List.length_set]⟩
    simp only [rangeO, m_stream_Levels_L2, if_pos hy, letO_eq]
    exact h1
/-- A plan either is right, which Goes and Levels say, or is not, which both say. -/
theorem GoesLevels_is (N : Nat) (hN : 2000000 ≤ N) {m : api_StreamMill} {l : List api_Span} (hm : MillOk m) (h1 : 1 ≤ l.length) (h2 : l.length ≤ 24) (hl : ∀ s ∈ l, SpOk 500 s) {plan : List Int} (hp : plan.length = l.length) (hb : ∀ p ∈ plan, 0 ≤ p ∧ p ≤ m.Hammers) :
    ∃ h b e t f, m_stream_Goes N m l plan = some (h, b, e) ∧ m_stream_Levels N m l plan = some (t, f) ∧ ((e = 7 ∧ f = 0 ∧ t.length = plan.length) ∨ (e = 0 ∧ f = 9)) := by
  have hham := hm.ham
  have hnow := hm.now
  have hhol := hm.hol
  have hp8 : ∀ p ∈ plan, 0 ≤ p ∧ p ≤ 8 := fun p h => by have := hb p h; omega
  have hlo : ∀ x ∈ l, 0 ≤ x.Low ∧ x.Low ≤ 500 := fun x hx => by have := hl x hx; unfold SpOk at this; omega
  have hhi : ∀ x ∈ l, 0 ≤ x.High ∧ x.High ≤ 500 := fun x hx => by have := hl x hx; unfold SpOk at this; omega
  have hop := openPlan_ok N hN hm h1 h2 hl hp hb
  obtain ⟨r, e1, d1⟩ := dry_is N hN (v := ⟨m, l⟩) hm hp h2 hp8 (f := fun x => m_stream_low N x) (g := fun x => x.Low) (fun x => rfl) hlo (by simp only; omega)
  obtain ⟨r', e2, d2⟩ := dry_is N hN (v := ⟨m, l⟩) hm hp h2 hp8 (f := fun x => m_stream_high N x) (g := fun x => x.High) (fun x => rfl) hhi (by simp only; omega)
  simp only at d1 d2
  unfold m_stream_Goes m_stream_Levels m_stream_valley_isRight
  simp only [hop, bindS, e1, e2, icmp_neq, icmp_eql, decide_eq_true_eq]
  rcases d1 with ⟨rfl, hall⟩ | ⟨j, rfl, hj, hn, _⟩
  · obtain ⟨ys, q, a1, a2, a3, a4⟩ := tides_list N (v := ⟨m, l⟩) hm hp h2 hp8 (f := fun x => m_stream_low N x) (g := fun x => x.Low) (fun x => rfl) hlo (w0 := m.Now.Low) N 0 (by omega) (by omega) (by simp only [wat]; omega) (by simp only [wat]; omega)
    obtain ⟨zs, q', b1, b2, b3, b4⟩ := tides_list N (v := ⟨m, l⟩) hm hp h2 hp8 (f := fun x => m_stream_high N x) (g := fun x => x.High) (fun x => rfl) hhi (w0 := m.Now.High) N 0 (by omega) (by omega) (by simp only [wat]; omega) (by simp only [wat]; omega)
    have a1 : loopY (m_stream_valley_tides_1_L1 N ((plan.length : Nat) : Int) plan ⟨m, l⟩ (fun x => m_stream_low N x)) N (m.Now.Low, 0) = some (ys, q) := a1
    have b1 : loopY (m_stream_valley_tides_1_L1 N ((plan.length : Nat) : Int) plan ⟨m, l⟩ (fun x => m_stream_high N x)) N (m.Now.High, 0) = some (zs, q') := b1
    have hy : m_it_stream_valley_tides_1 N (fun x => m_stream_low N x) ⟨m, l⟩ plan = some ys := by
      unfold m_it_stream_valley_tides_1 m_stream_valley_tides_1
      rw [show (fun x => m_stream_low N x) (⟨m, l⟩ : stream_valley).StreamMill.Now = some m.Now.Low from rfl, bindS, letO_eq, thenY, a1]
      cases q with
      | inl u => simp [bindS]
      | inr u => simp [bindS]
    have hz : m_it_stream_valley_tides_1 N (fun x => m_stream_high N x) ⟨m, l⟩ plan = some zs := by
      unfold m_it_stream_valley_tides_1 m_stream_valley_tides_1
      rw [show (fun x => m_stream_high N x) (⟨m, l⟩ : stream_valley).StreamMill.Now = some m.Now.High from rfl, bindS, letO_eq, thenY, b1]
      cases q' with
      | inl u => simp [bindS]
      | inr u => simp [bindS]
    have hlen := a4 (fun i h1 h2 => hall i h2)
    obtain ⟨t, c1, c2⟩ := lev1 N ys [] (by simp only [List.length_nil]; omega)
    obtain ⟨u, c3, c4⟩ := lev2 N zs t (fun y hy => by rw [c2, hlen]; simpa using b2 y hy)
    refine ⟨0, false, 7, u, 0, by simp, ?_, .inl ⟨rfl, rfl, by rw [c4, c2, hlen]; simp⟩⟩
    simp only [m_stream_valley_tides, bindS]
    rw [hy, hz]
    simp only [bindS]
    rw [c1]
    simp only [bindS]
    rw [c3]
    simp
  · refine ⟨(j : Int), decide (r' = (j : Int)), 0, [], 9, ?_, ?_, .inr ⟨rfl, rfl⟩⟩
    · rw [if_neg (by simp), if_neg (by omega)]
    · rw [if_neg (by simp), decide_eq_false (by omega)]
      simp
/-- How many blows a plan gives. -/
theorem Blows_is (N : Nat) (hN : 2000000 ≤ N) {m : api_StreamMill} (hm : MillOk m) {plan : List Int} (h1 : 1 ≤ plan.length) (h2 : plan.length ≤ 24) (hb : ∀ p ∈ plan, 0 ≤ p ∧ p ≤ m.Hammers) :
    m_stream_Blows N m plan = some (⟨isum plan * m.Blows.Low, isum plan * m.Blows.High⟩, 0) := by
  have hham := hm.ham
  obtain ⟨b0, b1, b2⟩ := hm.blo
  have k1 : m_stream_checkMill N m = some 0 := by
    unfold m_stream_checkMill
    rw [sw_ok N hN (by simp) (by intro n hn; simp only [List.mem_singleton] at hn; have := hm.ham; omega), bindS]
    rw [sw_ok N hN (by simp) (by intro n hn; simp only [List.mem_singleton] at hn; have := hm.tak; omega), bindS]
    rw [ss_ok N hN hm.blo.1 hm.blo.2.1 hm.blo.2.2, bindS]
    rw [sw_ok N hN (by simp) (by intro n hn; simp only [List.mem_singleton] at hn; have := hm.hol; omega), bindS]
    rw [ss_ok N hN hm.now.1 hm.now.2.1 hm.now.2.2, bindS]
    rfl
  have hp8 : ∀ p ∈ plan, 0 ≤ p ∧ p ≤ 8 := fun p h => by have := hb p h; omega
  obtain ⟨s0, s1⟩ := isum_le (c := 8) (by omega) hp8
  have m0 : 0 ≤ isum plan * m.Blows.Low := Int.mul_nonneg s0 b0
  have m1 : isum plan * m.Blows.Low ≤ 200 * 5000 := Int.mul_le_mul (by omega) (by omega) b0 (by omega)
  have m2 : 0 ≤ isum plan * m.Blows.High := Int.mul_nonneg s0 (by omega)
  have m3 : isum plan * m.Blows.High ≤ 200 * 5000 := Int.mul_le_mul (by omega) (by omega) (by omega) (by omega)
  unfold m_stream_Blows
  rw [k1, bindS]
  simp only [icmp_neq, decide_eq_true_eq]
  rw [if_neg (by simp), sw_ok N hN (by simp) (by intro n hn; simp only [List.mem_singleton] at hn; omega), bindS, sw_ok N hN (by omega) hb, ssum_is N hN (by omega) hp8]
  simp only [Bool.not_true, Bool.false_eq_true, if_false, bindS]
  rw [mulW (by omega), mulW (by omega)]
/-! Hours. -/
theorem aft_mono {x y r : Int} (hr : 0 ≤ r ∧ r ≤ 100) (h : x ≤ y) : ∀ n, aft x r n ≤ aft y r n
  | 0 => h
  | n + 1 => by
    have ih := aft_mono hr h n
    rw [aft, aft]
    obtain ⟨a, ea⟩ : ∃ a, a = aft x r n := ⟨_, rfl⟩
    obtain ⟨b, eb⟩ : ∃ b, b = aft y r n := ⟨_, rfl⟩
    rw [← ea, ← eb] at ih ⊢
    have h1 : (b - a) * r ≤ (b - a) * 100 := Int.mul_le_mul_of_nonneg_left hr.2 (by omega)
    rw [Int.sub_mul, Int.sub_mul] at h1
    omega
theorem hul_le {f : cloth_stretch → api_Span} : ∀ {l : List cloth_stretch} {a b : Int}, (hul f l a b).1 ≤ a ∧ b ≤ (hul f l a b).2
  | [], a, b => ⟨Int.le_refl _, Int.le_refl _⟩
  | x :: r, a, b => by
    have := hul_le (f := f) (l := r) (a := min a (f x).Low) (b := max b (f x).High)
    rw [hul]
    omega
theorem hul_in {f : cloth_stretch → api_Span} {c d : Int} : ∀ {l : List cloth_stretch} {a b : Int}, (∀ x ∈ l, c ≤ (f x).Low ∧ (f x).High ≤ d) → c ≤ a → b ≤ d → c ≤ (hul f l a b).1 ∧ (hul f l a b).2 ≤ d
  | [], a, b, _, h1, h2 => ⟨h1, h2⟩
  | x :: r, a, b, h, h1, h2 => by
    have := h x (by simp)
    rw [hul]
    exact hul_in (l := r) (fun y hy => h y (List.mem_cons_of_mem _ hy)) (by omega) (by omega)
theorem atT_in {t : api_ClothTrack} (ht : TrackOk t) (h : Nat) : 0 ≤ (atT t h).Low ∧ (atT t h).Low ≤ aft t.First.Low t.Rate.Low h ∧ aft t.First.Low t.Rate.Low h ≤ (atT t h).High ∧ (atT t h).High ≤ 2000 := by
  obtain ⟨b1, b2, b3, b4⟩ := ht.rate
  obtain ⟨a1, a2, a3, a4⟩ := ht.first
  have h1 := hul_le (f := spanAt h) (l := strs t.First (t.Rate.Low + 1) (cnt t)) (a := aft t.First.Low t.Rate.Low h) (b := aft t.First.High t.Rate.Low h)
  have h2 := aft_mono (x := t.First.Low) (y := t.First.High) (r := t.Rate.Low) (by omega) a2 h
  have h3 := aft_step (x := t.First.Low) (r := t.Rate.Low) (by omega) (by omega) h
  have h4 := aft_step (x := t.First.High) (r := t.Rate.Low) (by omega) (by omega) h
  have h5 := hul_in (f := spanAt h) (c := 0) (d := 2000) (l := strs t.First (t.Rate.Low + 1) (cnt t)) (a := aft t.First.Low t.Rate.Low h) (b := aft t.First.High t.Rate.Low h) (fun x hx => by
    obtain ⟨e, r1, r2⟩ := strs_mem hx
    unfold cnt at r2
    unfold spanAt
    rw [e]
    have k1 := aft_step (x := t.First.Low) (r := x.rate) (by omega) (by omega) h
    have k2 := aft_step (x := t.First.High) (r := x.rate) (by omega) (by omega) h
    simp only
    omega) (by omega) (by omega)
  unfold atT
  simp only
  omega
theorem loopY_vals (N : Nat) (hN : 2000000 ≤ N) {x : cloth_stretch} (hx : 0 ≤ x.Span.Low ∧ x.Span.High ≤ 2000) (hr : 0 ≤ x.rate ∧ x.rate ≤ 100) {h : Nat} (hh : h ≤ 48) : ∀ (n : Nat) (k : Int), (x.Span.High + 1 - k).toNat < n → x.Span.Low ≤ k →
    ∃ ys, loopY (m_cloth_truths_values_1_L2 N x h) n k = some (ys, ()) ∧ (k ≤ x.Span.High → ∃ r, ys = aft k x.rate h :: r)
  | 0, k, e, _ => by omega
  | n + 1, k, e, h0 => by
    by_cases hc : k ≤ x.Span.High
    · obtain ⟨ys, h1, h2⟩ := loopY_vals N hN hx hr hh n (k + 1) (by omega) (by omega)
      have hs : m_cloth_truths_values_1_L2 N x h k = some ([aft k x.rate h], .inl (k + 1)) := by
        simp only [m_cloth_truths_values_1_L2, icmp_leq, decide_eq_true_eq, if_pos hc]
        rw [after_is N hN hr (by omega) hh, bindS, addW (by omega)]
        rfl
      refine ⟨aft k x.rate h :: ys, ?_, fun _ => ⟨ys, rfl⟩⟩
      rw [loopY, hs]
      simp only
      rw [h1]
      rfl
    · have hs : m_cloth_truths_values_1_L2 N x h k = some ([], .inr ()) := by
        simp only [m_cloth_truths_values_1_L2, icmp_leq, decide_eq_true_eq, if_neg hc]
      exact ⟨[], by rw [loopY, hs], fun h => absurd h hc⟩
theorem loopY_strs2 (N : Nat) (hN : 2000000 ≤ N) {l : List cloth_stretch} (hl : l.length ≤ 1000) (hx : ∀ x ∈ l, 0 ≤ x.Span.Low ∧ x.Span.Low ≤ x.Span.High ∧ x.Span.High ≤ 2000 ∧ 0 ≤ x.rate ∧ x.rate ≤ 100) {h : Nat} (hh : h ≤ 48) : ∀ (n k : Nat), l.length - k < n → k ≤ l.length →
    ∃ ys, loopY (m_cloth_truths_values_1_L1 N ((l.length : Nat) : Int) l h) n (k : Int) = some (ys, ()) ∧ (k < l.length → ∃ r, ys = aft (l.getD k d_cloth_stretch).Span.Low (l.getD k d_cloth_stretch).rate h :: r)
  | 0, k, e, _ => by omega
  | n + 1, k, e, h0 => by
    by_cases hc : k < l.length
    · obtain ⟨ys, h1, h2⟩ := loopY_strs2 N hN hl hx hh n (k + 1) (by omega) (by omega)
      obtain ⟨x, ex⟩ : ∃ x, x = l.getD k d_cloth_stretch := ⟨_, rfl⟩
      obtain ⟨x0, x1, x2, x3, x4⟩ := ex ▸ hx _ (getD_mem (d := d_cloth_stretch) hc)
      obtain ⟨zs, h3, h4⟩ := loopY_vals N hN (x := x) (by omega) (by omega) hh N x.Span.Low (by omega) (by omega)
      obtain ⟨r, h5⟩ := h4 x1
      have hk1 : (k : Int) < ((l.length : Nat) : Int) := by omega
      have hg : getO d_cloth_stretch l (k : Int) = some x := by rw [getO_of (by omega) hk1, ex]; simp
      have hs : m_cloth_truths_values_1_L1 N ((l.length : Nat) : Int) l h (k : Int) = some (zs, .inl ((k + 1 : Nat) : Int)) := by
        simp only [m_cloth_truths_values_1_L1, icmp_lss, decide_eq_true_eq, if_pos hk1, hg, bindS]
        rw [thenY, h3, addW (by omega)]
        simp [bindS]
      refine ⟨zs ++ ys, ?_, fun _ => ⟨r ++ ys, by rw [h5, ← ex]; rfl⟩⟩
      rw [loopY, hs]
      simp only
      rw [h1]
      rfl
    · have hk1 : ¬ (k : Int) < ((l.length : Nat) : Int) := by omega
      have hs : m_cloth_truths_values_1_L1 N ((l.length : Nat) : Int) l h (k : Int) = some ([], .inr ()) := by
        simp only [m_cloth_truths_values_1_L1, icmp_lss, decide_eq_true_eq, if_neg hk1]
      exact ⟨[], by rw [loopY, hs], fun h => absurd h hc⟩
theorem values_is (N : Nat) (hN : 2000000 ≤ N) {a b c : api_ClothTrack} {w : Int} (hw : 0 ≤ w ∧ w < 3) {t : api_ClothTrack} (ht : TrackOk t) (e : t = if w = 0 then a else if w = 1 then b else c) {h : Nat} (hh : h ≤ 48) :
    ∃ r, m_it_cloth_truths_values_1 N ⟨strT a, strT b, strT c⟩ w h = some (aft t.First.Low t.Rate.Low h :: r) := by
  obtain ⟨b1, b2, b3, b4⟩ := ht.rate
  obtain ⟨a1, a2, a3, a4⟩ := ht.first
  have hlen : (strT t).length = cnt t + 1 := by unfold strT; rw [strs_len]
  have hc : cnt t ≤ 30 := by unfold cnt; omega
  obtain ⟨ys, h1, h2⟩ := loopY_strs2 N hN (l := strT t) (by omega) (fun x hx => by
    obtain ⟨e, r1, r2⟩ := strs_mem hx
    unfold cnt at r2
    rw [e]
    omega) hh N 0 (by omega) (by omega)
  obtain ⟨r, h3⟩ := h2 (by omega)
  refine ⟨r, ?_⟩
  unfold m_it_cloth_truths_values_1 m_cloth_truths_values_1
  simp only [icmp_eql, decide_eq_true_eq]
  have hsel : (if w = 0 then some (strT a, (((strT a).length : Nat) : Int)) else if w = 1 then some (strT b, (((strT b).length : Nat) : Int)) else some (strT c, (((strT c).length : Nat) : Int))) = some (strT t, (((strT t).length : Nat) : Int)) := by
    rw [e]
    split
    · rfl
    · split <;> rfl
  rw [if_pos hw, hsel, bindS]
  simp only
  have h1 : loopY (m_cloth_truths_values_1_L1 N (((strT t).length : Nat) : Int) (strT t) h) N 0 = some (ys, ()) := h1
  rw [thenY, h1, h3]
  simp [bindS, strT, strs]
theorem canBe2 (N : Nat) (hN : 2000000 ≤ N) {s : api_Span} : ∀ (ys : List Int), ∃ q, rangeO (m_cloth_truths_canBe_L2 N s) ys () = some q ∧ ((∃ y ∈ ys, s.Low ≤ y ∧ y ≤ s.High) → q = .inr ())
  | [] => ⟨_, rfl, fun ⟨y, hy, _⟩ => by cases hy⟩
  | y :: r => by
    have hw : m_cloth_within N s.Low s.High [y] = some (decide (s.Low ≤ y ∧ y ≤ s.High)) := by
      have hx : ∀ x ∈ [y], m_cloth_within_1 N x s.Low s.High = some (decide (x < s.Low) || decide (x > s.High)) := fun x _ => sw1 N x s.Low s.High
      unfold m_cloth_within
      rw [cf_int, contF_eq N hN (by simp) hx, bindS]
      simp only [List.any_cons, List.any_nil, Bool.or_false, Bool.not_or]
      congr 1
      by_cases h1 : s.Low ≤ y <;> by_cases h2 : y ≤ s.High <;> simp [h1, h2] <;> omega
    by_cases hc : s.Low ≤ y ∧ y ≤ s.High
    · refine ⟨.inr (), ?_, fun _ => rfl⟩
      simp only [rangeO, m_cloth_truths_canBe_L2, hw, bindS, decide_eq_true hc, if_true]
    · obtain ⟨q, h1, h2⟩ := canBe2 N hN (s := s) r
      refine ⟨q, ?_, fun ⟨z, hz, hi⟩ => ?_⟩
      · simp only [rangeO, m_cloth_truths_canBe_L2, hw, bindS, decide_eq_false hc, Bool.false_eq_true, if_false]
        exact h1
      · rcases List.mem_cons.1 hz with rfl | hz
        · exact absurd hi hc
        · exact h2 ⟨z, hz, hi⟩
theorem canBe_is (N : Nat) (hN : 2000000 ≤ N) {a b c : api_ClothTrack} (ha : TrackOk a) (hb : TrackOk b) (hc : TrackOk c) (n : Nat) {h : Nat} (hh : h ≤ 48) :
    ∃ r, m_cloth_truths_canBe N ⟨strT a, strT b, strT c⟩ [atT a n, atT b n, atT c n] h = some r ∧ (h = n → r = true) := by
  have hround : ∀ (w : Int) (t : api_ClothTrack), 0 ≤ w → w < 3 → TrackOk t → (t = if w = 0 then a else if w = 1 then b else c) → (atT t n = [atT a n, atT b n, atT c n].getD w.toNat d_api_Span) →
      ∃ q, m_cloth_truths_canBe_L1 N 3 [atT a n, atT b n, atT c n] ⟨strT a, strT b, strT c⟩ h w = some q ∧ (h = n → q = .inl (w + 1)) ∧ (q = .inl (w + 1) ∨ q = .inr (.inl ())) := fun w t w0 w3 ht et es => by
    obtain ⟨r, hv⟩ := values_is N hN (a := a) (b := b) (c := c) ⟨w0, w3⟩ ht et hh
    obtain ⟨q, h1, h2⟩ := canBe2 N hN (s := atT t n) (aft t.First.Low t.Rate.Low h :: r)
    have hg : getO d_api_Span [atT a n, atT b n, atT c n] w = some (atT t n) := by rw [getO_of w0 (by simpa using w3), es]
    have hs : m_cloth_truths_canBe_L1 N 3 [atT a n, atT b n, atT c n] ⟨strT a, strT b, strT c⟩ h w = (match q with | .inl () => some (.inr (.inl ())) | .inr () => some (.inl (w + 1))) := by
      simp only [m_cloth_truths_canBe_L1, icmp_lss, decide_eq_true_eq, if_pos w3, hg, bindS, m_cloth_truths_values, hv, h1]
      cases q with
      | inl u => rfl
      | inr u => simp only; rw [addW (by omega)]
    rw [hs]
    cases q with
    | inl u =>
      refine ⟨_, rfl, fun e => ?_, .inr rfl⟩
      obtain ⟨k0, k1, k2, k3⟩ := atT_in ht n
      have := h2 ⟨_, List.mem_cons_self, by rw [e]; exact ⟨k1, k2⟩⟩
      cases this
    | inr u => exact ⟨_, rfl, fun _ => rfl, .inl rfl⟩
  obtain ⟨q0, e0, f0, g0⟩ := hround 0 a (by omega) (by omega) ha (by simp) rfl
  obtain ⟨q1, e1, f1, g1⟩ := hround 1 b (by omega) (by omega) hb (by simp) rfl
  obtain ⟨q2, e2, f2, g2⟩ := hround 2 c (by omega) (by omega) hc (by simp) rfl
  have e3 : m_cloth_truths_canBe_L1 N 3 [atT a n, atT b n, atT c n] ⟨strT a, strT b, strT c⟩ h 3 = some (.inr (.inr ())) := by
    simp only [m_cloth_truths_canBe_L1, icmp_lss]
    rfl
  obtain ⟨M, hM⟩ : ∃ M, N = M + 4 := ⟨N - 4, by omega⟩
  unfold m_cloth_truths_canBe
  rw [letO_eq]
  have hln : (([atT a n, atT b n, atT c n].length : Nat) : Int) = 3 := rfl
  rw [hln]
  have key : ∃ q, loopO (m_cloth_truths_canBe_L1 N 3 [atT a n, atT b n, atT c n] ⟨strT a, strT b, strT c⟩ h) N 0 = some q ∧ (h = n → q = .inr ()) := by
    generalize m_cloth_truths_canBe_L1 N 3 [atT a n, atT b n, atT c n] ⟨strT a, strT b, strT c⟩ h = step at e0 e1 e2 e3
    simp only [show (0 : Int) + 1 = 1 from rfl, show (1 : Int) + 1 = 2 from rfl, show (2 : Int) + 1 = 3 from rfl] at f0 g0 f1 g1 f2 g2
    rw [hM]
    rcases g0 with rfl | rfl
    · rw [loopO_inl e0]
      rcases g1 with rfl | rfl
      · rw [loopO_inl e1]
        rcases g2 with rfl | rfl
        · rw [loopO_inl e2, loopO_inr e3]
          exact ⟨_, rfl, fun _ => rfl⟩
        · rw [loopO_inr e2]
          exact ⟨_, rfl, fun e => by cases f2 e⟩
      · rw [loopO_inr e1]
        exact ⟨_, rfl, fun e => by cases f1 e⟩
    · rw [loopO_inr e0]
      exact ⟨_, rfl, fun e => by cases f0 e⟩
  obtain ⟨q, hq, hqn⟩ := key
  rw [hq, bindS]
  rcases q with u | u
  · exact ⟨_, rfl, fun e => by cases hqn e⟩
  · exact ⟨_, rfl, fun _ => rfl⟩
theorem Hours_is (N : Nat) (hN : 2000000 ≤ N) {a b c : api_ClothTrack} (ha : TrackOk a) (hb : TrackOk b) (hc : TrackOk c) {n : Nat} (hn : n ≤ 48) :
    ∃ l, m_cloth_Hours N ⟨[a, b, c], []⟩ [atT a n, atT b n, atT c n] = some (l, 0) ∧ l.length ≤ 49 ∧ (n : Int) ∈ l := by
  have hsp : ∀ x ∈ [atT a n, atT b n, atT c n], m_cloth_Hours_1 N x = some ((fun _ => false) x) := fun x hx => by
    have : ∃ t, TrackOk t ∧ x = atT t n := by
      simp only [List.mem_cons, List.not_mem_nil, or_false] at hx
      rcases hx with rfl | rfl | rfl
      · exact ⟨a, ha, rfl⟩
      · exact ⟨b, hb, rfl⟩
      · exact ⟨c, hc, rfl⟩
    obtain ⟨t, ht, rfl⟩ := this
    obtain ⟨k0, k1, k2, k3⟩ := atT_in ht n
    unfold m_cloth_Hours_1
    rw [cs_ok N hN (by omega) (by omega) k0 (by omega) k3 (by omega)]
    rfl
  obtain ⟨l, hq, h1, h2⟩ := loopO_of (step := m_cloth_Hours_L1 N (⟨strT a, strT b, strT c⟩, 0) [atT a n, atT b n, atT c n]) (fun s => 0 ≤ s.1 ∧ s.1 ≤ 49 ∧ (s.2.length : Int) ≤ s.1 ∧ ((n : Int) < s.1 → (n : Int) ∈ s.2)) (fun s => (49 - s.1).toNat) (fun q => q.length ≤ 49 ∧ (n : Int) ∈ q) (fun s hi => by
    obtain ⟨i, l⟩ := s
    obtain ⟨i0, i1, i2, i3⟩ := hi
    simp only at i0 i1 i2 i3
    by_cases hc' : i < 49
    · left
      obtain ⟨k, rfl⟩ : ∃ k : Nat, i = k := ⟨i.toNat, by omega⟩
      obtain ⟨r, e1, e2⟩ := canBe_is N hN ha hb hc n (h := k) (by omega)
      have hfit : fitsN (l.length + 1) 8 := ⟨by omega, by omega⟩
      simp only [m_cloth_Hours_L1, icmp_lss, decide_eq_true_eq, if_pos hc', e1, bindS, if_pos hfit]
      rw [addW (by omega)]
      cases r with
      | true =>
        rw [if_pos rfl, bindS]
        refine ⟨_, rfl, ⟨by simp only; omega, by simp only; omega, by simp only [List.length_append, List.length_singleton]; omega, fun hlt => ?_⟩, by simp only; omega⟩
        simp only at hlt ⊢
        rw [List.mem_append]
        by_cases he : n = k
        · right; rw [he]; simp
        · left; exact i3 (by omega)
      | false =>
        rw [if_neg (by simp), bindS]
        refine ⟨_, rfl, ⟨by simp only; omega, by simp only; omega, by simp only; omega, fun hlt => ?_⟩, by simp only; omega⟩
        simp only at hlt ⊢
        by_cases he : k = n
        · cases e2 he
        · exact i3 (by omega)
    · right
      simp only [m_cloth_Hours_L1, icmp_lss, decide_eq_true_eq, if_neg hc']
      exact ⟨_, rfl, by omega, i3 (by omega)⟩) N (0, []) ⟨by simp, by simp, by simp, fun h => by simp only at h; omega⟩ (by simp only; omega)
  refine ⟨l, ?_, h1, h2⟩
  have hl0 : ¬ ((l.length : Nat) : Int) = 0 := by
    cases l with
    | nil => cases h2
    | cons x r => simp only [List.length_cons]; omega
  unfold m_cloth_Hours
  rw [copen_ok N hN ha hb hc, bindS]
  simp only [icmp_neq, icmp_eql, decide_eq_true_eq]
  rw [if_neg (by simp), if_neg (by simp), cf_span, contF_eq N hN (by simp) hsp]
  simp only [bindS, List.any_cons, List.any_nil, Bool.or_false, Bool.false_eq_true, if_false]
  rw [hq]
  simp only [bindS]
  rw [if_neg hl0]
end Go.Proofs.Ytelnoeamkdpjhaa.Aw

/- Plain: TopBeatenLonger. -/
namespace Go.Proofs.Ytelnoeamkdpjhaa.Aw
open Go Go.RowKit Go.Proofs
set_option linter.unusedSimpArgs false
set_option linter.unusedVariables false
theorem firKnown02_is : m_top_firKnown02 2000000 = some true := by kernel_rfl
end Go.Proofs.Ytelnoeamkdpjhaa.Aw

/- Plain: TopWorkedHours. -/
namespace Go.Proofs.Ytelnoeamkdpjhaa.Aw
open Go Go.RowKit Go.Proofs
set_option linter.unusedSimpArgs false
set_option linter.unusedVariables false
theorem made_blows (N : Nat) (p : top_FirBeck) {m : api_StreamMill} {l : List api_Span} (h : m_top_FirBeck_made N p = some (m, l)) : m.Blows = ⟨20, 30⟩ := by
  unfold m_top_FirBeck_made at h
  simp only [m_top_firSpan, bindS, letO_eq] at h
  obtain ⟨_, h⟩ := guard_of h
  obtain ⟨q, _, h⟩ := bind_of h
  simp only [Option.some.injEq, Prod.mk.injEq] at h
  rw [← h.1]
theorem plan_is (N : Nat) (m : api_StreamMill) (l : List api_Span) (hl : l.length ≤ 24) (hs : List Int) (hh : ∀ x ∈ hs, u8ok x) : (l.length < N) →
    ∃ plan, loopO (m_top_TopWorkedHours_L1 N (m, l) hs) N (0, []) = some plan ∧ plan.length = l.length ∧ ∀ p ∈ plan, 0 ≤ p ∧ p ≤ 1 := fun hN => by
  refine loopO_of (step := m_top_TopWorkedHours_L1 N (m, l) hs) (fun s => 0 ≤ s.1 ∧ s.1 ≤ l.length ∧ (s.2.length : Int) = s.1 ∧ ∀ p ∈ s.2, 0 ≤ p ∧ p ≤ 1) (fun s => (l.length - s.1).toNat) _ (fun s hi => ?_) N (0, []) ⟨by simp, by simp only; omega, by simp, by simp⟩ (by simp only; omega)
  obtain ⟨i, pl⟩ := s
  obtain ⟨i0, i1, i2, i3⟩ := hi
  simp only at i0 i1 i2 i3
  by_cases hc : i < (l.length : Int)
  · left
    obtain ⟨n, en, n0, n1⟩ : ∃ n, (if icmpR .lss i ((hs.length : Nat) : Int) = true then (getO 0 hs i).bind fun x => some (iopR .rem .i64 (IntKind.wrap .i64 x) 2) else some 0) = some n ∧ 0 ≤ n ∧ n ≤ 1 := by
      simp only [icmp_lss, decide_eq_true_eq]
      by_cases h1 : i < (hs.length : Int)
      · rw [if_pos h1, getO_of (d := (0 : Int)) i0 h1, bindS]
        obtain ⟨a0, a1⟩ := hh _ (getD_mem (d := (0 : Int)) (show i.toNat < hs.length by omega))
        rw [wrap_i64 (by omega), remW (by omega)]
        exact ⟨_, rfl, by omega, by omega⟩
      · rw [if_neg h1]
        exact ⟨_, rfl, by omega, by omega⟩
    have hfit : fitsN (pl.length + 1) 8 := ⟨by omega, by omega⟩
    simp only [m_top_TopWorkedHours_L1]
    rw [if_pos (by simp only [icmp_lss, decide_eq_true_eq]; exact hc), en]
    simp only [bindS, if_pos hfit]
    rw [addW (by omega)]
    refine ⟨_, rfl, ⟨by simp only; omega, by simp only; omega, by simp only [List.length_append, List.length_singleton]; omega, fun p hp => ?_⟩, by simp only; omega⟩
    rcases List.mem_append.1 hp with hp | hp
    · exact i3 p hp
    · rw [List.mem_singleton] at hp
      subst hp
      exact ⟨n0, n1⟩
  · right
    simp only [m_top_TopWorkedHours_L1]
    rw [if_neg (by simp only [icmp_lss, decide_eq_true_eq]; exact hc)]
    exact ⟨_, rfl, by omega, i3⟩
theorem find_is (N : Nat) (hN : 2000000 ≤ N) (hK : m_top_firKnown02 N = some true) {l : List Int} (hl : l.length ≤ 49) {n e : Int} (hn : n ∈ l) : loopO (m_top_TopWorkedHours_L2 N (l, e) n) N 0 = some (.inl true) := by
  obtain ⟨q, hq, hp⟩ := loopO_of (step := m_top_TopWorkedHours_L2 N (l, e) n) (fun i => 0 ≤ i ∧ i ≤ l.length ∧ n ∈ l.drop i.toNat) (fun i => (l.length - i).toNat) (fun q => q = .inl true) (fun i hi => by
    obtain ⟨i0, i1, i2⟩ := hi
    by_cases hc : i < (l.length : Int)
    · have hlt : i.toNat < l.length := by omega
      have hget : l.getD i.toNat 0 = l[i.toNat] := by simp [List.getD_eq_getElem?_getD, hlt]
      rw [List.drop_eq_getElem_cons hlt] at i2
      simp only [m_top_TopWorkedHours_L2, icmp_lss, icmp_eql, decide_eq_true_eq, if_pos hc, getO_of (d := (0 : Int)) i0 hc, bindS, hget, hK]
      by_cases he : l[i.toNat] = n
      · right
        rw [if_pos he]
        exact ⟨_, rfl, rfl⟩
      · left
        rw [if_neg he, addW (by omega)]
        refine ⟨_, rfl, ⟨by omega, by omega, ?_⟩, by omega⟩
        rw [show (i + 1).toNat = i.toNat + 1 by omega]
        rcases List.mem_cons.1 i2 with h | h
        · exact absurd h.symm he
        · exact h
    · rw [List.drop_eq_nil_of_le (by omega)] at i2
      cases i2) N 0 ⟨by omega, by omega, by simpa using hn⟩ (by omega)
  rw [hq, hp]
theorem law_TopWorkedHours (p : top_FirYarn) (y : top_FirBeck) (hs : List Int)
    (hp : (u8ok p.Tracks.a0.a0 ∧ u8ok p.Tracks.a0.a1 ∧ u8ok p.Tracks.a0.a2 ∧ u8ok p.Tracks.a0.a3) ∧ (u8ok p.Tracks.a1.a0 ∧ u8ok p.Tracks.a1.a1 ∧ u8ok p.Tracks.a1.a2 ∧ u8ok p.Tracks.a1.a3) ∧ u8ok p.Tracks.a2.a0 ∧ u8ok p.Tracks.a2.a1 ∧ u8ok p.Tracks.a2.a2 ∧ u8ok p.Tracks.a2.a3)
    (hy : (u8ok y.Mill.a0 ∧ u8ok y.Mill.a1 ∧ u8ok y.Mill.a2 ∧ u8ok y.Mill.a3) ∧ ∀ x ∈ y.Flows, u8ok x.a0 ∧ u8ok x.a1) (hv : ∀ x ∈ hs, u8ok x) :
    m_top_TopWorkedHours 2000000 p y hs = some true := by
  have hK := firKnown02_is
  obtain ⟨N, hN⟩ : ∃ N, N = 2000000 := ⟨_, rfl⟩
  rw [← hN] at hK ⊢
  have hN : 2000000 ≤ N := by omega
  obtain ⟨a, b, c, q1, ha, hb, hc⟩ := made_yarn N p hp
  obtain ⟨m, l, q2, hm, l1, l2, hl⟩ := made_beck N hN y hy.1 hy.2
  have hbl := made_blows N y q2
  obtain ⟨w, ew⟩ : ∃ w, w = api_StreamMill.mk 1 m.Takes m.Blows m.Holds m.Now := ⟨_, rfl⟩
  have hw : MillOk w := by
    subst ew
    exact ⟨by simp only; omega, hm.tak, hm.blo, hm.hol, hm.now⟩
  have hwb : w.Blows = ⟨20, 30⟩ := by rw [ew]; exact hbl
  obtain ⟨plan, q3, p1, p2⟩ := plan_is N m l (by omega) hs hv (by omega)
  have hb1 : ∀ p ∈ plan, 0 ≤ p ∧ p ≤ w.Hammers := by rw [ew]; exact p2
  have hp8 : ∀ p ∈ plan, 0 ≤ p ∧ p ≤ 8 := fun p h => by have := p2 p h; omega
  have hown : m_top_firOwn N l = some l := by unfold m_top_firOwn; rw [if_pos ⟨by omega, by omega⟩]
  have hints : m_top_firInts N plan = some plan := by unfold m_top_firInts; rw [if_pos ⟨by omega, by omega⟩]
  have hcl : m_top_firCloth N ⟨[a, b, c], []⟩ = some ⟨[a, b, c], []⟩ := by
    unfold m_top_firCloth
    rw [if_pos ⟨by simp, by simp⟩, if_pos ⟨by simp, by simp⟩]
  obtain ⟨g1, g2, e, t, f, q4, q5, hcase⟩ := GoesLevels_is N hN hw l1 (by omega) hl p1 hb1
  unfold m_top_TopWorkedHours
  rw [q1, bindS, q2, bindS, q3, bindS]
  simp only
  rw [← ew]
  simp only [hown, hints, bindS]
  rw [q4, q5]
  simp only [bindS, icmp_neq, icmp_eql, decide_eq_true_eq]
  rcases hcase with ⟨rfl, rfl, ht⟩ | ⟨rfl, rfl⟩
  · obtain ⟨s0, s1⟩ := isum_le (c := 1) (by omega) p2
    obtain ⟨n, en⟩ : ∃ n : Nat, isum plan = n := ⟨(isum plan).toNat, by omega⟩
    have A := At_is N hN ha hb hc (h := n) (by omega)
    obtain ⟨hl', q6, k1, k2⟩ := Hours_is N hN ha hb hc (n := n) (by omega)
    have hown2 : m_top_firOwn N [atT a n, atT b n, atT c n] = some [atT a n, atT b n, atT c n] := by unfold m_top_firOwn; rw [if_pos ⟨by simp, by simp⟩]
    have B := Blows_is N hN hw (plan := plan) (by omega) (by omega) hb1
    rw [hwb, en] at B
    rw [if_pos (by omega), if_neg (by simp)]
    simp only [decide_true, BEq.rfl, Bool.not_true, Bool.false_eq_true, if_false, if_true, bindS, ht]
    simp only [bindS, ne_eq, not_true_eq_false, decide_false, Bool.false_eq_true, if_false]
    rw [if_neg (by omega), fsum_is N hN (by omega) hp8, en]
    simp only [bindS]
    rw [B]
    simp only [bindS, hcl]
    rw [A]
    simp only [bindS, hown2]
    rw [q6]
    simp only [bindS, m_top_firSpan, not_true_eq_false, if_false]
    rw [mulW (by omega), mulW (by omega), find_is N hN hK k1 k2]
    have heq : ∀ x y : Int, eqI [(IntKind.i64, x * 20), (IntKind.i64, y * 30)] [(IntKind.i64, 20 * x), (IntKind.i64, 30 * y)] = true := fun x y => by
      simp [eqI, Int.mul_comm]
    simp [heq, bindS]
  · rw [if_neg (by omega)]
    simp [hK, bindS]
end Go.Proofs.Ytelnoeamkdpjhaa.Aw

/- Plain models and walks for the tops of cloth and stream. Printed by wip/gen/pm.py. -/
namespace Go.Proofs.Ytelnoeamkdpjhaa.Aw
open Go Go.RowKit Go.Proofs
set_option maxRecDepth 100000
set_option maxHeartbeats 4000000
set_option linter.unusedSimpArgs false
set_option linter.unusedVariables false
theorem w_top_firInts (N : Nat) (l_1 : (List Int)) (o : (List Int)) (h : m_top_firInts N l_1 = some o) :
    KC Try.prog 18 [sl_int false l_1] (sl_int false o) [] := by
  unfold m_top_firInts at h
  refine con_l [] [] seat Try.func18 rfl ent_18 (by kernel_rfl) rfl rfl (by simp) ?_; intro base I hI; (conv => cbv)
  refine L_conj hI h (fun g => by subst_vars; exact g) ?_; clear h; intro hc h
  cases h
  subst_vars
  exact ⟨LV_sl, rfl⟩
theorem w_stream_openPlan (N : Nat) (m_1 : api_StreamMill) (flows_2 : (List api_Span)) (plan_3 : (List Int)) (least_4 : Int) (o : stream_valley × Int) (h : m_stream_openPlan N m_1 flows_2 plan_3 least_4 = some o) :
    KC Try.prog 36 [.agg [.int .i64 m_1.Hammers, .int .i64 m_1.Takes, .int .i64 m_1.Blows.Low, .int .i64 m_1.Blows.High, .int .i64 m_1.Holds, .int .i64 m_1.Now.Low, .int .i64 m_1.Now.High], sl_api_Span false flows_2, sl_int false plan_3, .int .i64 least_4] (.tup [.agg [.int .i64 o.1.StreamMill.Hammers, .int .i64 o.1.StreamMill.Takes, .int .i64 o.1.StreamMill.Blows.Low, .int .i64 o.1.StreamMill.Blows.High, .int .i64 o.1.StreamMill.Holds, .int .i64 o.1.StreamMill.Now.Low, .int .i64 o.1.StreamMill.Now.High, sl_api_Span false o.1.flows], .int .i64 o.2]) [] := by
  unfold m_stream_openPlan at h
  refine con_l [] [1000002, 2000036] seat Try.func36 rfl ent_36 (by kernel_rfl) rfl rfl (by simp) ?_; intro base I hI; (conv => cbv)
  refine L_call hI h (fun v hv => w_stream_open N m_1 flows_2 v hv) (by subst_vars; exact ⟨(leD_refl _), (leD_refl _), rfl⟩) ?_; clear h; intro r_5 h; (conv => cbv)
  refine L_cut hI seat [2000036] (by kernel_rfl) h (fun q => match q with | v_8 => .normal) (fun q => match q with | v_8 => ⟨39, [(8, .loc 1 0), (10, .loc 2 0), (11, .int .i64 r_5.2), (36, .bool v_8)], [(2, ⟨80, [.int .i64 r_5.1.StreamMill.Hammers, .int .i64 r_5.1.StreamMill.Takes, .int .i64 r_5.1.StreamMill.Blows.Low, .int .i64 r_5.1.StreamMill.Blows.High, .int .i64 r_5.1.StreamMill.Holds, .int .i64 r_5.1.StreamMill.Now.Low, .int .i64 r_5.1.StreamMill.Now.High, sl_api_Span false r_5.1.flows], true⟩), (1, ⟨80, [.lit .i64 0, .lit .i64 0, .lit .i64 0, .lit .i64 0, .lit .i64 0, .lit .i64 0, .lit .i64 0, .nilsl], true⟩)], [], 0⟩) ?_ ?_; all_goals clear h
  · intro x h R hR
    (conv => cbv)
    refine L_tst hI h (by subst_vars; rfl) ?_ ?_ <;> clear h <;> intro h
    · refine L_call hI h (fun v hv => w_stream_within N least_4 ((flows_2.length : Nat) : Int) [((plan_3.length : Nat) : Int)] v hv) (by subst_vars; exact ⟨(leD_refl _), (leD_refl _), ⟨.inl rfl, rfl, leDLL_refl _⟩, rfl⟩) ?_; clear h; intro r_9 h; (conv => cbv)
      refine L_tst hI h (by subst_vars; rfl) ?_ ?_ <;> clear h <;> intro h
      · exact hR _ _ (Option.some.inj h).symm (by subst_vars; exact weak_l rfl rfl ⟨lR, lR, lE, lE, trivial⟩ ⟨lB ⟨lE, lE, lE, lE, lE, lE, lE, LV_sl, rfl⟩, lB ⟨lE, lE, lE, lE, lE, lE, lE, lR, rfl⟩, trivial⟩ trivial)
      · refine L_call hI h (fun v hv => w_stream_within N 0 m_1.Hammers plan_3 v hv) (by subst_vars; exact ⟨(leD_refl _), (leD_refl _), (leD_refl _), rfl⟩) ?_; clear h; intro r_10 h; (conv => cbv)
        exact hR _ _ (Option.some.inj h).symm (by subst_vars; exact weak_l rfl rfl ⟨lR, lR, lE, lE, trivial⟩ ⟨lB ⟨lE, lE, lE, lE, lE, lE, lE, LV_sl, rfl⟩, lB ⟨lE, lE, lE, lE, lE, lE, lE, lR, rfl⟩, trivial⟩ trivial)
    · exact hR _ _ (Option.some.inj h).symm (by subst_vars; exact weak_l rfl rfl ⟨lR, lR, lE, lE, trivial⟩ ⟨lB ⟨lE, lE, lE, lE, lE, lE, lE, LV_sl, rfl⟩, lB ⟨lE, lE, lE, lE, lE, lE, lE, lR, rfl⟩, trivial⟩ trivial)
  · intro v_8 h
    (conv => cbv)
    refine L_cut hI seat [1000002] (by kernel_rfl) h (fun q => match q with | e_11 => .normal) (fun q => match q with | e_11 => ⟨39, [(8, .loc 1 0), (10, .loc 2 0), (11, .int .i64 e_11)], [(2, ⟨80, [.int .i64 r_5.1.StreamMill.Hammers, .int .i64 r_5.1.StreamMill.Takes, .int .i64 r_5.1.StreamMill.Blows.Low, .int .i64 r_5.1.StreamMill.Blows.High, .int .i64 r_5.1.StreamMill.Holds, .int .i64 r_5.1.StreamMill.Now.Low, .int .i64 r_5.1.StreamMill.Now.High, sl_api_Span false r_5.1.flows], true⟩), (1, ⟨80, [.lit .i64 0, .lit .i64 0, .lit .i64 0, .lit .i64 0, .lit .i64 0, .lit .i64 0, .lit .i64 0, .nilsl], true⟩)], [], 0⟩) ?_ ?_; all_goals clear h
    · intro x h R hR
      (conv => cbv)
      refine L_tst hI h (by subst_vars; rfl) ?_ ?_ <;> clear h <;> intro h
      · exact hR _ _ (Option.some.inj h).symm (by subst_vars; exact weak_l rfl rfl ⟨lR, lR, lE, trivial⟩ ⟨lB ⟨lE, lE, lE, lE, lE, lE, lE, LV_sl, rfl⟩, lB ⟨lE, lE, lE, lE, lE, lE, lE, lR, rfl⟩, trivial⟩ trivial)
      · exact hR _ _ (Option.some.inj h).symm (by subst_vars; exact weak_l rfl rfl ⟨lR, lR, lE, trivial⟩ ⟨lB ⟨lE, lE, lE, lE, lE, lE, lE, LV_sl, rfl⟩, lB ⟨lE, lE, lE, lE, lE, lE, lE, lR, rfl⟩, trivial⟩ trivial)
    · intro e_11 h
      (conv => cbv)
      cases h
      subst_vars
      exact ⟨(LV_tup ⟨(LV_agg ⟨lE, lE, lE, lE, lE, lE, lE, LV_sl, rfl⟩), lE, rfl⟩), rfl⟩
theorem w_stream_Goes (N : Nat) (m_1 : api_StreamMill) (flows_2 : (List api_Span)) (plan_3 : (List Int)) (o : Int × Bool × Int) (h : m_stream_Goes N m_1 flows_2 plan_3 = some o) :
    KC Try.prog 17 [.agg [.int .i64 m_1.Hammers, .int .i64 m_1.Takes, .int .i64 m_1.Blows.Low, .int .i64 m_1.Blows.High, .int .i64 m_1.Holds, .int .i64 m_1.Now.Low, .int .i64 m_1.Now.High], sl_api_Span false flows_2, sl_int false plan_3] (.tup [.int .i64 o.1, .bool o.2.1, .int .i64 o.2.2]) [] := by
  unfold m_stream_Goes at h
  refine con_l [] [] seat Try.func17 rfl ent_17 (by kernel_rfl) rfl rfl (by simp) ?_; intro base I hI; (conv => cbv)
  refine L_call hI h (fun v hv => w_stream_openPlan N m_1 flows_2 plan_3 ((flows_2.length : Nat) : Int) v hv) (by subst_vars; exact ⟨(leD_refl _), (leD_refl _), (leD_refl _), (leD_refl _), rfl⟩) ?_; clear h; intro r_4 h; (conv => cbv)
  refine L_tst hI h (by subst_vars; rfl) ?_ ?_ <;> clear h <;> intro h
  · cases h
    subst_vars
    exact ⟨(LV_tup ⟨lE, lE, lE, rfl⟩), rfl⟩
  · refine L_call hI h (fun v hv => w_stream_valley_dry N r_4.1 plan_3 (fun x0 => m_stream_low N x0) 34 (KV.toDL []) rfl (fun x0 r hr => KD_of (caps := []) (w_stream_low N x0 r hr)) v hv) (by subst_vars; exact ⟨(leD_refl _), (leD_refl _), (leD_refl _), rfl⟩) ?_; clear h; intro r_5 h; (conv => cbv)
    refine L_tst hI h (by subst_vars; rfl) ?_ ?_ <;> clear h <;> intro h
    · cases h
      subst_vars
      exact ⟨(LV_tup ⟨lE, lE, lE, rfl⟩), rfl⟩
    · refine L_call hI h (fun v hv => w_stream_valley_dry N r_4.1 plan_3 (fun x0 => m_stream_high N x0) 35 (KV.toDL []) rfl (fun x0 r hr => KD_of (caps := []) (w_stream_high N x0 r hr)) v hv) (by subst_vars; exact ⟨(leD_refl _), (leD_refl _), (leD_refl _), rfl⟩) ?_; clear h; intro r_6 h; (conv => cbv)
      cases h
      subst_vars
      exact ⟨(LV_tup ⟨lE, lE, lE, rfl⟩), rfl⟩
theorem w_stream_valley_isRight (N : Nat) (p_1 : stream_valley) (plan_2 : (List Int)) (o : Bool) (h : m_stream_valley_isRight N p_1 plan_2 = some o) :
    KC Try.prog 38 [.agg [.int .i64 p_1.StreamMill.Hammers, .int .i64 p_1.StreamMill.Takes, .int .i64 p_1.StreamMill.Blows.Low, .int .i64 p_1.StreamMill.Blows.High, .int .i64 p_1.StreamMill.Holds, .int .i64 p_1.StreamMill.Now.Low, .int .i64 p_1.StreamMill.Now.High, sl_api_Span false p_1.flows], sl_int false plan_2] (.bool o) [] := by
  unfold m_stream_valley_isRight at h
  refine con_l [] [] seat Try.func38 rfl ent_38 (by kernel_rfl) rfl rfl (by simp) ?_; intro base I hI; (conv => cbv)
  refine L_call hI h (fun v hv => w_stream_valley_dry N p_1 plan_2 (fun x0 => m_stream_low N x0) 34 (KV.toDL []) rfl (fun x0 r hr => KD_of (caps := []) (w_stream_low N x0 r hr)) v hv) (by subst_vars; exact ⟨(leD_refl _), (leD_refl _), (leD_refl _), rfl⟩) ?_; clear h; intro r_3 h; (conv => cbv)
  cases h
  subst_vars
  exact ⟨lE, rfl⟩
theorem w_stream_Levels (N : Nat) (m_1 : api_StreamMill) (flows_2 : (List api_Span)) (plan_3 : (List Int)) (o : (List api_Span) × Int) (h : m_stream_Levels N m_1 flows_2 plan_3 = some o) :
    KC Try.prog 19 [.agg [.int .i64 m_1.Hammers, .int .i64 m_1.Takes, .int .i64 m_1.Blows.Low, .int .i64 m_1.Blows.High, .int .i64 m_1.Holds, .int .i64 m_1.Now.Low, .int .i64 m_1.Now.High], sl_api_Span false flows_2, sl_int false plan_3] (.tup [sl_api_Span false o.1, .int .i64 o.2]) [] := by
  unfold m_stream_Levels at h
  refine con_l [] [] seat Try.func19 rfl ent_19 (by kernel_rfl) rfl rfl (by simp) ?_; intro base I hI; (conv => cbv)
  refine L_call hI h (fun v hv => w_stream_openPlan N m_1 flows_2 plan_3 ((flows_2.length : Nat) : Int) v hv) (by subst_vars; exact ⟨(leD_refl _), (leD_refl _), (leD_refl _), (leD_refl _), rfl⟩) ?_; clear h; intro r_4 h; (conv => cbv)
  refine L_tst hI h (by subst_vars; rfl) ?_ ?_ <;> clear h <;> intro h
  · cases h
    subst_vars
    exact ⟨(LV_tup ⟨LV_nil, lE, rfl⟩), rfl⟩
  · refine L_call hI h (fun v hv => w_stream_valley_isRight N r_4.1 plan_3 v hv) (by subst_vars; exact ⟨(leD_refl _), (leD_refl _), rfl⟩) ?_; clear h; intro r_5 h; (conv => cbv)
    refine L_tst hI h (by subst_vars; rfl) ?_ ?_ <;> clear h <;> intro h
    · cases h
      subst_vars
      exact ⟨(LV_tup ⟨LV_nil, lE, rfl⟩), rfl⟩
    · refine L_call hI h (fun v hv => w_stream_valley_tides N r_4.1 plan_3 (fun x0 => m_stream_low N x0) 34 (KV.toDL []) rfl (fun x0 r hr => KD_of (caps := []) (w_stream_low N x0 r hr)) v hv) (by subst_vars; exact ⟨(leD_refl _), (leD_refl _), (leD_refl _), rfl⟩) ?_; clear h; intro r_6 h; (conv => cbv)
      replace h := bind_of h; obtain ⟨ys_7, hyys_7, h⟩ := h
      refine W_weak hI (S' := ⟨54, [(2, sl_int false plan_3), (6, .loc 1 0), (8, .loc 2 0), (33, .dfn 57 [.ptr [.dfn 34 []], .ptr [.int .i64 r_6.1.StreamMill.Hammers, .int .i64 r_6.1.StreamMill.Takes, .int .i64 r_6.1.StreamMill.Blows.Low, .int .i64 r_6.1.StreamMill.Blows.High, .int .i64 r_6.1.StreamMill.Holds, .int .i64 r_6.1.StreamMill.Now.Low, .int .i64 r_6.1.StreamMill.Now.High, sl_api_Span false r_6.1.flows], .ptr [sl_int false r_6.2]])], [(2, ⟨80, [.int .i64 r_4.1.StreamMill.Hammers, .int .i64 r_4.1.StreamMill.Takes, .int .i64 r_4.1.StreamMill.Blows.Low, .int .i64 r_4.1.StreamMill.Blows.High, .int .i64 r_4.1.StreamMill.Holds, .int .i64 r_4.1.StreamMill.Now.Low, .int .i64 r_4.1.StreamMill.Now.High, sl_api_Span false r_4.1.flows], true⟩), (1, ⟨38, [.osl 3], true⟩)], [(3, ⟨35, 2, [.ls api_Span d_api_Span [] e_api_Span], false, true⟩)], 0⟩) (by subst_vars; exact (weak_nilH 1 0 3 35 2 ⟨38, [.nilsl], true⟩ rfl rfl rfl rfl).trans (weak_l rfl rfl ⟨LV_sl, lR, lR, lE, trivial⟩ ⟨lB ⟨lE, lE, lE, lE, lE, lE, lE, LV_sl, rfl⟩, lB ⟨lR, rfl⟩, trivial⟩ ⟨lO, trivial⟩)) ?_
      refine L_range hI seat [] (by kernel_rfl) (ys := ys_7) (kY := fun y_8 => [.int .i64 y_8.1, .agg [.int .i64 y_8.2.full, .int .i64 y_8.2.left]]) ((i_stream_valley_tides_1 N (fun x0 => m_stream_low N x0) 34 (KV.toDL []) rfl (fun x0 r hr => KD_of (caps := []) (w_stream_low N x0 r hr)) r_6.1 r_6.2 ys_7 hyys_7)) rfl h (fun q => match q with | l_9 => ([(2, ⟨80, [.int .i64 r_4.1.StreamMill.Hammers, .int .i64 r_4.1.StreamMill.Takes, .int .i64 r_4.1.StreamMill.Blows.Low, .int .i64 r_4.1.StreamMill.Blows.High, .int .i64 r_4.1.StreamMill.Holds, .int .i64 r_4.1.StreamMill.Now.Low, .int .i64 r_4.1.StreamMill.Now.High, sl_api_Span false r_4.1.flows], true⟩), (1, ⟨38, [.osl 3], true⟩)], [(3, ⟨35, 2, [.ls api_Span d_api_Span l_9 e_api_Span], false, true⟩)])) (fun q => nomatch q) (fun q => nomatch q) rfl (fun _ => ⟨rfl, rfl⟩) 3 rfl (by subst_vars; exact ⟨lB ⟨lE, lE, lE, lE, lE, lE, lE, LV_sl, rfl⟩, lB ⟨lR, rfl⟩, trivial⟩) (by subst_vars; exact ⟨lO, trivial⟩) (by intro q; rcases q with ⟨⟩ <;> (intro e; exact Exit.noConfusion e)) (by intro q; rcases q with ⟨⟩ <;> (intro _ e; exact Exit.noConfusion e)) (by intro q; rcases q with ⟨⟩ <;> (intro e; exact Exit.noConfusion e)) ?_ ?_ ?_; all_goals clear h
      · intro y_8 l_9 x h l I hI R hR hX
        rw [m_stream_Levels_L1] at h
        (conv => cbv)
        refine L_conj hI h (fun g => by subst_vars; exact g) ?_; clear h; intro hc h
        exact hR _ _ (Option.some.inj h).symm (by subst_vars; exact ⟨lB ⟨lE, lE, lE, lE, lE, lE, lE, LV_sl, rfl⟩, lB ⟨lR, rfl⟩, trivial⟩) (by subst_vars; exact ⟨lO, trivial⟩)
      · intro l_9 h
        (conv => cbv)
        refine L_call hI h (fun v hv => w_stream_valley_tides N r_4.1 plan_3 (fun x0 => m_stream_high N x0) 35 (KV.toDL []) rfl (fun x0 r hr => KD_of (caps := []) (w_stream_high N x0 r hr)) v hv) (by subst_vars; exact ⟨(leD_refl _), (leD_refl _), (leD_refl _), rfl⟩) ?_; clear h; intro r_10 h; (conv => cbv)
        replace h := bind_of h; obtain ⟨ys_11, hyys_11, h⟩ := h
        refine W_weak hI (S' := ⟨54, [(6, .loc 1 0), (44, .dfn 57 [.ptr [.dfn 35 []], .ptr [.int .i64 r_10.1.StreamMill.Hammers, .int .i64 r_10.1.StreamMill.Takes, .int .i64 r_10.1.StreamMill.Blows.Low, .int .i64 r_10.1.StreamMill.Blows.High, .int .i64 r_10.1.StreamMill.Holds, .int .i64 r_10.1.StreamMill.Now.Low, .int .i64 r_10.1.StreamMill.Now.High, sl_api_Span false r_10.1.flows], .ptr [sl_int false r_10.2]])], [(1, ⟨38, [.osl 3], true⟩)], [(3, ⟨35, 2, [.ls api_Span d_api_Span l_9 e_api_Span], false, true⟩)], 0⟩) (by subst_vars; exact weak_l rfl rfl ⟨lR, lE, trivial⟩ ⟨lB ⟨lR, rfl⟩, trivial⟩ ⟨lO, trivial⟩) ?_
        refine L_range hI seat [] (by kernel_rfl) (ys := ys_11) (kY := fun y_12 => [.int .i64 y_12.1, .agg [.int .i64 y_12.2.full, .int .i64 y_12.2.left]]) ((i_stream_valley_tides_1 N (fun x0 => m_stream_high N x0) 35 (KV.toDL []) rfl (fun x0 r hr => KD_of (caps := []) (w_stream_high N x0 r hr)) r_10.1 r_10.2 ys_11 hyys_11)) rfl h (fun q => match q with | l_14 => ([(1, ⟨38, [.osl 3], true⟩)], [(3, ⟨35, 2, [.ls api_Span d_api_Span l_14 e_api_Span], false, true⟩)])) (fun q => nomatch q) (fun q => nomatch q) rfl (fun _ => ⟨rfl, rfl⟩) 4 rfl (by subst_vars; exact ⟨lB ⟨lR, rfl⟩, trivial⟩) (by subst_vars; exact ⟨lO, trivial⟩) (by intro q; rcases q with ⟨⟩ <;> (intro e; exact Exit.noConfusion e)) (by intro q; rcases q with ⟨⟩ <;> (intro _ e; exact Exit.noConfusion e)) (by intro q; rcases q with ⟨⟩ <;> (intro e; exact Exit.noConfusion e)) ?_ ?_ ?_; all_goals clear h
        · intro y_12 l_14 x h l I hI R hR hX
          rw [m_stream_Levels_L2] at h
          (conv => cbv)
          refine L_conj hI h (fun g => by subst_vars; exact g) ?_; clear h; intro hc h
          refine L_conj hI h (fun g => by subst_vars; exact g) ?_; clear h; intro hc h
          replace h := letO_of h; obtain ⟨l_16, hel_16, h⟩ := h
          refine K_setl2 hI l_14 (api_Span.mk ((l_14.getD y_12.1.toNat d_api_Span).Low) y_12.2.left) l_16 hel_16 (by subst_vars; first | rfl | (simp only [rowsD, KP.rows, KV.toDLL, List.map_append, List.map_cons, List.map_nil, List.append_nil, List.nil_append, List.append_assoc, List.singleton_append, List.cons_append, List.map_replicate]; rfl) | (simp only [primK, rowsD, KP.rows, KV.toDLL, List.map_append, List.map_cons, List.map_nil, List.append_nil, List.map_replicate]; rfl)) hc (by subst_vars; rfl) (by subst_vars; rfl) ?_; (conv => cbv)
          exact hR _ _ (Option.some.inj h).symm (by subst_vars; exact ⟨lB ⟨lR, rfl⟩, trivial⟩) (by subst_vars; exact ⟨lO, trivial⟩)
        · intro l_14 h
          (conv => cbv)
          cases h
          subst_vars
          exact ⟨(LV_tup ⟨LV_sl, lE, rfl⟩), rfl⟩
        · intro q h
          rcases q with ⟨⟩
      · intro q h
        rcases q with ⟨⟩
theorem w_top_firSum (N : Nat) (l_1 : (List Int)) (o : Int) (h : m_top_firSum N l_1 = some o) :
    KC Try.prog 13 [sl_int false l_1] (.int .i64 o) [] := by
  unfold m_top_firSum at h
  refine con_l [] [] seat Try.func13 rfl ent_13 (by kernel_rfl) rfl rfl (by simp) ?_; intro base I hI; (conv => cbv)
  refine L_loop hI seat [] (by kernel_rfl) h (fun q => match q with | (n_3, i_4) => ⟨18, [(0, sl_int false l_1), (3, .int .i64 n_3), (4, .int .i64 i_4)], [], [], 0⟩) (fun q => match q with | n_6 => .exit 0) (fun q => match q with | n_6 => ⟨18, [(3, .int .i64 n_6)], [], [], 0⟩) (by subst_vars; exact weak_l rfl rfl ⟨LV_sl, lE, lE, trivial⟩ trivial trivial) (by intro q; rcases q with n_6 <;> (intro e; exact Exit.noConfusion e)) ?_ ?_; all_goals clear h
  · intro q x h R hR hX
    obtain ⟨n_3, i_4⟩ := q
    rw [m_top_firSum_L1] at h
    (conv => cbv)
    refine L_tst hI h (by subst_vars; rfl) ?_ ?_ <;> clear h <;> intro h
    · refine L_get hI h (fun g => by subst_vars; exact g) ?_; clear h; intro hc x_7 hxx_7 h
      exact hR _ _ (Option.some.inj h).symm (by subst_vars; exact weak_l rfl rfl ⟨LV_sl, lE, lE, trivial⟩ trivial trivial)
    · exact hX _ _ (Option.some.inj h).symm (by subst_vars; exact weak_l rfl rfl ⟨lE, trivial⟩ trivial trivial)
  · intro n_6 h
    (conv => cbv)
    cases h
    subst_vars
    exact ⟨lE, rfl⟩
theorem w_stream_sum (N : Nat) (l_1 : (List Int)) (o : Int) (h : m_stream_sum N l_1 = some o) :
    KC Try.prog 41 [sl_int false l_1] (.int .i64 o) [] := by
  unfold m_stream_sum at h
  refine con_l [] [] seat Try.func41 rfl ent_41 (by kernel_rfl) rfl rfl (by simp) ?_; intro base I hI; (conv => cbv)
  replace h := letO_of h; obtain ⟨v_2, hev_2, h⟩ := h
  refine L_loop hI seat [] (by kernel_rfl) h (fun q => match q with | (n_4, v_5) => ⟨16, [(2, .int .i64 n_4), (5, sl_int false l_1), (6, .int .i64 v_2), (7, .int .i64 v_5)], [], [], 0⟩) (fun q => match q with | n_7 => .exit 0) (fun q => match q with | n_7 => ⟨16, [(2, .int .i64 n_7)], [], [], 0⟩) (by subst_vars; exact weak_l rfl rfl ⟨lE, LV_sl, lE, lE, trivial⟩ trivial trivial) (by intro q; rcases q with n_7 <;> (intro e; exact Exit.noConfusion e)) ?_ ?_; all_goals clear h
  · intro q x h R hR hX
    obtain ⟨n_4, v_5⟩ := q
    rw [m_stream_sum_L1] at h
    (conv => cbv)
    refine L_tst hI h (by subst_vars; rfl) ?_ ?_ <;> clear h <;> intro h
    · refine L_get hI h (fun g => by subst_vars; exact g) ?_; clear h; intro hc x_8 hxx_8 h
      exact hR _ _ (Option.some.inj h).symm (by subst_vars; exact weak_l rfl rfl ⟨lE, LV_sl, lE, lE, trivial⟩ trivial trivial)
    · exact hX _ _ (Option.some.inj h).symm (by subst_vars; exact weak_l rfl rfl ⟨lE, trivial⟩ trivial trivial)
  · intro n_7 h
    (conv => cbv)
    cases h
    subst_vars
    exact ⟨lE, rfl⟩
theorem w_stream_Blows (N : Nat) (m_1 : api_StreamMill) (plan_2 : (List Int)) (o : api_Span × Int) (h : m_stream_Blows N m_1 plan_2 = some o) :
    KC Try.prog 20 [.agg [.int .i64 m_1.Hammers, .int .i64 m_1.Takes, .int .i64 m_1.Blows.Low, .int .i64 m_1.Blows.High, .int .i64 m_1.Holds, .int .i64 m_1.Now.Low, .int .i64 m_1.Now.High], sl_int false plan_2] (.tup [.agg [.int .i64 o.1.Low, .int .i64 o.1.High], .int .i64 o.2]) [] := by
  unfold m_stream_Blows at h
  refine con_l [] [2000015] seat Try.func20 rfl ent_20 (by kernel_rfl) rfl rfl (by simp) ?_; intro base I hI; (conv => cbv)
  refine L_call hI h (fun v hv => w_stream_checkMill N m_1 v hv) (by subst_vars; exact ⟨(leD_refl _), rfl⟩) ?_; clear h; intro r_3 h; (conv => cbv)
  refine L_tst hI h (by subst_vars; rfl) ?_ ?_ <;> clear h <;> intro h
  · cases h
    subst_vars
    exact ⟨(LV_tup ⟨(LV_agg ⟨lE, lE, rfl⟩), lE, rfl⟩), rfl⟩
  · refine L_call hI h (fun v hv => w_stream_within N 1 24 [((plan_2.length : Nat) : Int)] v hv) (by subst_vars; exact ⟨(leD_refl _), (leD_refl _), ⟨.inl rfl, rfl, leDLL_refl _⟩, rfl⟩) ?_; clear h; intro r_4 h; (conv => cbv)
    refine L_cut hI seat [] (by kernel_rfl) h (fun q => match q with | v_6 => .normal) (fun q => match q with | v_6 => ⟨40, [(1, sl_int false plan_2), (2, .loc 0 0), (4, .loc 1 0), (15, .bool v_6)], [(1, ⟨35, [.lit .i64 0, .lit .i64 0], true⟩), (0, ⟨37, [.int .i64 m_1.Hammers, .int .i64 m_1.Takes, .int .i64 m_1.Blows.Low, .int .i64 m_1.Blows.High, .int .i64 m_1.Holds, .int .i64 m_1.Now.Low, .int .i64 m_1.Now.High], true⟩)], [], 0⟩) ?_ ?_; all_goals clear h
    · intro x h R hR
      (conv => cbv)
      refine L_tst hI h (by subst_vars; rfl) ?_ ?_ <;> clear h <;> intro h
      · exact hR _ _ (Option.some.inj h).symm (by subst_vars; exact weak_l rfl rfl ⟨LV_sl, lR, lR, lE, trivial⟩ ⟨lB ⟨lE, lE, rfl⟩, lB ⟨lE, lE, lE, lE, lE, lE, lE, rfl⟩, trivial⟩ trivial)
      · refine L_call hI h (fun v hv => w_stream_within N 0 m_1.Hammers plan_2 v hv) (by subst_vars; exact ⟨(leD_refl _), (leD_refl _), (leD_refl _), rfl⟩) ?_; clear h; intro r_7 h; (conv => cbv)
        exact hR _ _ (Option.some.inj h).symm (by subst_vars; exact weak_l rfl rfl ⟨LV_sl, lR, lR, lE, trivial⟩ ⟨lB ⟨lE, lE, rfl⟩, lB ⟨lE, lE, lE, lE, lE, lE, lE, rfl⟩, trivial⟩ trivial)
    · intro v_6 h
      (conv => cbv)
      refine L_cut hI seat [] (by kernel_rfl) h (fun q => match q with | (.inl ()) => .ret | (.inr ()) => .normal) (fun q => match q with | (.inl ()) => ⟨40, [(4, .loc 1 0), (5, .lit .i64 4)], [(1, ⟨35, [.lit .i64 0, .lit .i64 0], true⟩)], [], 0⟩ | (.inr ()) => ⟨40, [(1, sl_int false plan_2), (2, .loc 0 0), (4, .loc 1 0)], [(1, ⟨35, [.lit .i64 0, .lit .i64 0], true⟩), (0, ⟨37, [.int .i64 m_1.Hammers, .int .i64 m_1.Takes, .int .i64 m_1.Blows.Low, .int .i64 m_1.Blows.High, .int .i64 m_1.Holds, .int .i64 m_1.Now.Low, .int .i64 m_1.Now.High], true⟩)], [], 0⟩) ?_ ?_; all_goals clear h
      · intro x h R hR
        (conv => cbv)
        refine L_tst hI h (by subst_vars; rfl) ?_ ?_ <;> clear h <;> intro h
        · exact hR _ _ (Option.some.inj h).symm (by subst_vars; exact weak_l rfl rfl ⟨lR, lE, trivial⟩ ⟨lB ⟨lE, lE, rfl⟩, trivial⟩ trivial)
        · exact hR _ _ (Option.some.inj h).symm (by subst_vars; exact weak_l rfl rfl ⟨LV_sl, lR, lR, trivial⟩ ⟨lB ⟨lE, lE, rfl⟩, lB ⟨lE, lE, lE, lE, lE, lE, lE, rfl⟩, trivial⟩ trivial)
      · intro q h
        rcases q with (_ | _)
        · (conv => cbv)
          cases h
          subst_vars
          exact ⟨(LV_tup ⟨(LV_agg ⟨lE, lE, rfl⟩), lE, rfl⟩), rfl⟩
        · (conv => cbv)
          refine L_call hI h (fun v hv => w_stream_sum N plan_2 v hv) (by subst_vars; exact ⟨(leD_refl _), rfl⟩) ?_; clear h; intro r_8 h; (conv => cbv)
          cases h
          subst_vars
          exact ⟨(LV_tup ⟨(LV_agg ⟨lE, lE, rfl⟩), lE, rfl⟩), rfl⟩
theorem w_cloth_Hours_1 (N : Nat) (s_1 : api_Span) (o : Bool) (h : m_cloth_Hours_1 N s_1 = some o) :
    KC Try.prog 42 [.agg [.int .i64 s_1.Low, .int .i64 s_1.High]] (.bool o) [] := by
  unfold m_cloth_Hours_1 at h
  refine con_l [] [] seat Try.func42 rfl ent_42 (by kernel_rfl) rfl rfl (by simp) ?_; intro base I hI; (conv => cbv)
  refine L_call hI h (fun v hv => w_cloth_isSpan N s_1 0 2000 2000 v hv) (by subst_vars; exact ⟨(leD_refl _), (leD_refl _), (leD_refl _), (leD_refl _), rfl⟩) ?_; clear h; intro r_2 h; (conv => cbv)
  cases h
  subst_vars
  exact ⟨lE, rfl⟩
theorem w_cloth_truths_values (N : Nat) (t_1 : A3_L_cloth_stretch) (what_2 : Int) (hour_3 : Int) (o : (A3_L_cloth_stretch × Int × Int)) (h : m_cloth_truths_values N t_1 what_2 hour_3 = some o) :
    KC Try.prog 60 [.agg [sl_cloth_stretch false t_1.a0, sl_cloth_stretch false t_1.a1, sl_cloth_stretch false t_1.a2], .int .i64 what_2, .int .i64 hour_3] (.dfn 73 [.ptr [sl_cloth_stretch false o.1.a0, sl_cloth_stretch false o.1.a1, sl_cloth_stretch false o.1.a2], .ptr [.int .i64 o.2.1], .ptr [.int .i64 o.2.2]]) [] := by
  unfold m_cloth_truths_values at h
  refine con_l [] [] seat Try.func60 rfl ent_60 (by kernel_rfl) rfl rfl (by simp) ?_; intro base I hI; (conv => cbv)
  cases h
  subst_vars
  exact ⟨lE, rfl⟩
theorem i_cloth_truths_values_1 (N : Nat) (p_1 : A3_L_cloth_stretch) (p_2 : Int) (p_3 : Int) (o : List Int) (h : m_it_cloth_truths_values_1 N p_1 p_2 p_3 = some o) :
    IterCon Try.prog 73 (KV.toDL [.ptr [sl_cloth_stretch false p_1.a0, sl_cloth_stretch false p_1.a1, sl_cloth_stretch false p_1.a2], .ptr [.int .i64 p_2], .ptr [.int .i64 p_3]]) ((o.map fun (y : Int) => [.int .i64 y]).map KV.toDL) := by
  unfold m_it_cloth_truths_values_1 at h
  have h1 := bind_of h; clear h
  obtain ⟨⟨zs, u⟩, h, e⟩ := h1
  cases e
  unfold m_cloth_truths_values_1 at h
  refine iter_l (en := fun (y : Int) => [.int .i64 y]) [1000000] seat Try.func73 rfl ent_73 (by kernel_rfl) rfl rfl rfl ?_; intro E Inv Fin hTk base s hy I hI; (conv => cbv)
  refine L_cut hI seat [] (by kernel_rfl) h (fun q => match q with | (v_4, v_5) => .normal) (fun q => match q with | (v_4, v_5) => ⟨35, [(0, .yld), (3, .ptr [.int .i64 p_3]), (10, sl_cloth_stretch false v_4), (11, .int .i64 v_5), (12, .lit .i64 0)], [], [], 0⟩) ?_ ?_; all_goals clear h
  · intro x h R hR
    (conv => cbv)
    refine L_conj hI h (fun g => by subst_vars; exact g) ?_; clear h; intro hc h
    refine L_tst hI h (by subst_vars; rfl) ?_ ?_ <;> clear h <;> intro h
    · exact hR _ _ (Option.some.inj h).symm (by subst_vars; exact weak_l rfl rfl ⟨lR, lE, LV_sl, lE, lE, trivial⟩ trivial trivial)
    · refine L_tst hI h (by subst_vars; rfl) ?_ ?_ <;> clear h <;> intro h
      · exact hR _ _ (Option.some.inj h).symm (by subst_vars; exact weak_l rfl rfl ⟨lR, lE, LV_sl, lE, lE, trivial⟩ trivial trivial)
      · exact hR _ _ (Option.some.inj h).symm (by subst_vars; exact weak_l rfl rfl ⟨lR, lE, LV_sl, lE, lE, trivial⟩ trivial trivial)
  · intro q h
    rcases q with ⟨v_4, v_5⟩
    (conv => cbv)
    refine L_loopY (Fin := Fin) hI seat [1000000] (by kernel_rfl) h hy (fun q => match q with | v_11 => ⟨35, [(0, .yld), (3, .ptr [.int .i64 p_3]), (10, sl_cloth_stretch false v_4), (11, .int .i64 v_5), (12, .int .i64 v_11)], [], [], 0⟩) (fun q => match q with | () => .exit 0) (fun q => match q with | () => ⟨35, [], [], [], 0⟩) (.ret) (by subst_vars; exact weak_l rfl rfl ⟨lR, lE, LV_sl, lE, lE, trivial⟩ trivial trivial) (by intro q; rcases q with _ <;> (intro e; exact Exit.noConfusion e)) (by intro e; exact Exit.noConfusion e) ?_ ?_ ?_; all_goals clear h hy
    · intro v_11 x zs ps s h hy R hR hX hF
      rw [m_cloth_truths_values_1_L1] at h
      (conv => cbv)
      refine L_tst hI h (by subst_vars; rfl) ?_ ?_ <;> clear h <;> intro h
      · refine L_get hI h (fun g => by subst_vars; exact g) ?_; clear h; intro hc x_17 hxx_17 h
        refine L_loopY (Fin := Fin) hI seat [1000000] (by kernel_rfl) h hy (fun q => match q with | x_19 => ⟨35, [(0, .yld), (3, .ptr [.int .i64 p_3]), (6, .loc 0 0), (7, .int .i64 x_19), (10, sl_cloth_stretch false v_4), (11, .int .i64 v_5), (12, .int .i64 v_11)], [(0, ⟨109, [.int .i64 x_17.Span.Low, .int .i64 x_17.Span.High, .int .i64 x_17.rate], true⟩)], [], 0⟩) (fun q => match q with | () => .exit 2) (fun q => match q with | () => ⟨35, [(0, .yld), (3, .ptr [.int .i64 p_3]), (10, sl_cloth_stretch false v_4), (11, .int .i64 v_5), (12, .int .i64 v_11)], [], [], 0⟩) (.ret) (by subst_vars; exact weak_l rfl rfl ⟨lR, lE, lR, lE, LV_sl, lE, lE, trivial⟩ ⟨lB ⟨lE, lE, lE, rfl⟩, trivial⟩ trivial) (by intro q; rcases q with _ <;> (intro e; exact Exit.noConfusion e)) (by intro e; exact Exit.noConfusion e) ?_ ?_ ?_; all_goals clear h hy
        · intro x_19 x zs ps s h hy R hR hX hF
          rw [m_cloth_truths_values_1_L2] at h
          (conv => cbv)
          refine L_tst hI h (by subst_vars; rfl) ?_ ?_ <;> clear h <;> intro h
          · refine L_call hI h (fun v hv => w_cloth_after N x_19 x_17.rate p_3 v hv) (by subst_vars; exact ⟨(leD_refl _), (leD_refl _), (leD_refl _), rfl⟩) ?_; clear h; intro r_21 h; (conv => cbv)
            refine L_yield hI hTk (y := r_21) h hy (by subst_vars; rfl) ?_ ?_ <;> clear h hy
            · intro zs s h hy
              (conv => cbv)
              refine K_tst hI (fun hq => by first | (rw [hI] at hq; cases hq; done) | cases hq) (fun _ => ?_)
              obtain ⟨rfl, rfl⟩ := L_leafY h; exact hR _ _ _ rfl hy (by subst_vars; exact weak_l rfl rfl ⟨lR, lE, lR, lE, LV_sl, lE, lE, trivial⟩ ⟨lB ⟨lE, lE, lE, rfl⟩, trivial⟩ trivial)
            · intro s hfin
              (conv => cbv)
              refine K_tst hI (fun _ => ?_) (fun hq => by first | (rw [hI] at hq; cases hq; done) | cases hq)
              exact hF _ _ hfin
          · obtain ⟨rfl, rfl⟩ := L_leafY h; exact hX _ _ _ rfl hy (by subst_vars; exact weak_l rfl rfl ⟨lR, lE, LV_sl, lE, lE, trivial⟩ trivial trivial)
        · intro q zs s h hy
          (conv => cbv)
          obtain ⟨rfl, rfl⟩ := L_leafY h; exact hR _ _ _ rfl hy (by subst_vars; exact weak_l rfl rfl ⟨lR, lE, LV_sl, lE, lE, trivial⟩ trivial trivial)
        · intro S1 s hfin
          (conv => cbv)
          exact hF _ _ hfin
      · obtain ⟨rfl, rfl⟩ := L_leafY h; exact hX _ _ _ rfl hy (by subst_vars; exact weak_l rfl rfl trivial trivial trivial)
    · intro q zs s h hy
      (conv => cbv)
      exact Y_end hTk h hy
    · intro S1 s hfin
      (conv => cbv)
      exact hfin
theorem w_cloth_truths_canBe (N : Nat) (t_1 : A3_L_cloth_stretch) (now_2 : (List api_Span)) (hour_3 : Int) (o : Bool) (h : m_cloth_truths_canBe N t_1 now_2 hour_3 = some o) :
    KC Try.prog 45 [.agg [sl_cloth_stretch false t_1.a0, sl_cloth_stretch false t_1.a1, sl_cloth_stretch false t_1.a2], sl_api_Span false now_2, .int .i64 hour_3] (.bool o) [] := by
  unfold m_cloth_truths_canBe at h
  refine con_l [] [] seat Try.func45 rfl ent_45 (by kernel_rfl) rfl rfl (by simp) ?_; intro base I hI; (conv => cbv)
  replace h := letO_of h; obtain ⟨v_4, hev_4, h⟩ := h
  refine L_loop hI seat [] (by kernel_rfl) h (fun q => match q with | v_11 => ⟨30, [(2, .int .i64 hour_3), (3, .loc 0 0), (10, sl_api_Span false now_2), (11, .int .i64 v_4), (12, .int .i64 v_11)], [(0, ⟨74, [sl_cloth_stretch false t_1.a0, sl_cloth_stretch false t_1.a1, sl_cloth_stretch false t_1.a2], true⟩)], [], 0⟩) (fun q => match q with | (.inl ()) => .ret | (.inr ()) => .exit 0) (fun q => match q with | (.inl ()) => ⟨30, [(6, .ff)], [], [], 0⟩ | (.inr ()) => ⟨30, [], [], [], 0⟩) (by subst_vars; exact weak_l rfl rfl ⟨lE, lR, LV_sl, lE, lE, trivial⟩ ⟨lB ⟨LV_sl, LV_sl, LV_sl, rfl⟩, trivial⟩ trivial) (by intro q; rcases q with (_ | _) <;> (intro e; exact Exit.noConfusion e)) ?_ ?_; all_goals clear h
  · intro v_11 x h R hR hX
    rw [m_cloth_truths_canBe_L1] at h
    (conv => cbv)
    refine L_tst hI h (by subst_vars; rfl) ?_ ?_ <;> clear h <;> intro h
    · refine L_get hI h (fun g => by subst_vars; exact g) ?_; clear h; intro hc x_18 hxx_18 h
      refine L_call hI h (fun v hv => w_cloth_truths_values N t_1 v_11 hour_3 v hv) (by subst_vars; exact ⟨(leD_refl _), (leD_refl _), (leD_refl _), rfl⟩) ?_; clear h; intro r_19 h; (conv => cbv)
      replace h := bind_of h; obtain ⟨ys_20, hyys_20, h⟩ := h
      refine W_weak hI (S' := ⟨30, [(2, .int .i64 hour_3), (3, .loc 0 0), (8, .loc 1 0), (10, sl_api_Span false now_2), (11, .int .i64 v_4), (12, .int .i64 v_11), (20, .dfn 73 [.ptr [sl_cloth_stretch false r_19.1.a0, sl_cloth_stretch false r_19.1.a1, sl_cloth_stretch false r_19.1.a2], .ptr [.int .i64 r_19.2.1], .ptr [.int .i64 r_19.2.2]])], [(1, ⟨35, [.int .i64 x_18.Low, .int .i64 x_18.High], true⟩), (0, ⟨74, [sl_cloth_stretch false t_1.a0, sl_cloth_stretch false t_1.a1, sl_cloth_stretch false t_1.a2], true⟩)], [], 0⟩) (by subst_vars; exact weak_l rfl rfl ⟨lE, lR, lR, LV_sl, lE, lE, lE, trivial⟩ ⟨lB ⟨lE, lE, rfl⟩, lB ⟨LV_sl, LV_sl, LV_sl, rfl⟩, trivial⟩ trivial) ?_
      refine L_range hI seat [] (by kernel_rfl) (ys := ys_20) (kY := fun y_21 => [.int .i64 y_21]) ((i_cloth_truths_values_1 N r_19.1 r_19.2.1 r_19.2.2 ys_20 hyys_20)) rfl h (fun q => match q with | () => ([(1, ⟨35, [.int .i64 x_18.Low, .int .i64 x_18.High], true⟩), (0, ⟨74, [sl_cloth_stretch false t_1.a0, sl_cloth_stretch false t_1.a1, sl_cloth_stretch false t_1.a2], true⟩)], [])) (fun q => match q with | () => .exit 1) (fun q => match q with | () => ([(0, ⟨74, [sl_cloth_stretch false t_1.a0, sl_cloth_stretch false t_1.a1, sl_cloth_stretch false t_1.a2], true⟩)], [])) rfl (fun _ => ⟨rfl, rfl⟩) 2 rfl (by subst_vars; exact ⟨lB ⟨lE, lE, rfl⟩, lB ⟨LV_sl, LV_sl, LV_sl, rfl⟩, trivial⟩) (by subst_vars; exact trivial) (by intro q; rcases q with _ <;> (intro e; exact Exit.noConfusion e)) (by intro q; rcases q with _ <;> (intro _ e; exact Exit.noConfusion e)) (by intro q; rcases q with _ <;> (intro e; exact Exit.noConfusion e)) ?_ ?_ ?_; all_goals clear h
      · intro y_21 q x h l I hI R hR hX
        obtain ⟨⟩ := q
        rw [m_cloth_truths_canBe_L2] at h
        (conv => cbv)
        refine L_call hI h (fun v hv => w_cloth_within N x_18.Low x_18.High [y_21] v hv) (by subst_vars; exact ⟨(leD_refl _), (leD_refl _), ⟨.inl rfl, rfl, leDLL_refl _⟩, rfl⟩) ?_; clear h; intro r_23 h; (conv => cbv)
        refine L_tst hI h (by subst_vars; rfl) ?_ ?_ <;> clear h <;> intro h
        · exact hX _ _ (Option.some.inj h).symm (by subst_vars; exact ⟨lB ⟨LV_sl, LV_sl, LV_sl, rfl⟩, trivial⟩) (by subst_vars; exact trivial)
        · exact hR _ _ (Option.some.inj h).symm (by subst_vars; exact ⟨lB ⟨lE, lE, rfl⟩, lB ⟨LV_sl, LV_sl, LV_sl, rfl⟩, trivial⟩) (by subst_vars; exact trivial)
      · intro q h
        obtain ⟨⟩ := q
        (conv => cbv)
        exact hX _ _ (Option.some.inj h).symm (by subst_vars; exact weak_l rfl rfl ⟨lE, trivial⟩ trivial trivial)
      · intro q h
        (conv => cbv)
        exact hR _ _ (Option.some.inj h).symm (by subst_vars; exact weak_l rfl rfl ⟨lE, lR, LV_sl, lE, lE, trivial⟩ ⟨lB ⟨LV_sl, LV_sl, LV_sl, rfl⟩, trivial⟩ trivial)
    · exact hX _ _ (Option.some.inj h).symm (by subst_vars; exact weak_l rfl rfl trivial trivial trivial)
  · intro q h
    rcases q with (_ | _)
    · (conv => cbv)
      cases h
      subst_vars
      exact ⟨lE, rfl⟩
    · (conv => cbv)
      cases h
      subst_vars
      exact ⟨lE, rfl⟩
theorem w_cloth_Hours (N : Nat) (c_1 : api_Cloth) (now_2 : (List api_Span)) (o : (List Int) × Int) (h : m_cloth_Hours N c_1 now_2 = some o) :
    KC Try.prog 21 [.agg [sl_api_ClothTrack false c_1.Tracks, sl_api_ClothMeasure false c_1.Measures], sl_api_Span false now_2] (.tup [sl_int false o.1, .int .i64 o.2]) [] := by
  unfold m_cloth_Hours at h
  refine con_l [] [2000018, 2000031] seat Try.func21 rfl ent_21 (by kernel_rfl) rfl rfl (by simp) ?_; intro base I hI; (conv => cbv)
  refine L_call hI h (fun v hv => w_cloth_open N c_1 v hv) (by subst_vars; exact ⟨(leD_refl _), rfl⟩) ?_; clear h; intro r_3 h; (conv => cbv)
  refine L_tst hI h (by subst_vars; rfl) ?_ ?_ <;> clear h <;> intro h
  · cases h
    subst_vars
    exact ⟨(LV_tup ⟨LV_nil, lE, rfl⟩), rfl⟩
  · refine L_cut hI seat [2000031] (by kernel_rfl) h (fun q => match q with | v_5 => .normal) (fun q => match q with | v_5 => ⟨41, [(1, sl_api_Span false now_2), (4, .nilsl), (6, .loc 1 0), (18, .bool v_5)], [(1, ⟨74, [sl_cloth_stretch false r_3.1.a0, sl_cloth_stretch false r_3.1.a1, sl_cloth_stretch false r_3.1.a2], true⟩)], [], 0⟩) ?_ ?_; all_goals clear h
    · intro x h R hR
      (conv => cbv)
      refine L_tst hI h (by subst_vars; rfl) ?_ ?_ <;> clear h <;> intro h
      · exact hR _ _ (Option.some.inj h).symm (by subst_vars; exact weak_l rfl rfl ⟨LV_sl, lR, lR, lE, trivial⟩ ⟨lB ⟨LV_sl, LV_sl, LV_sl, rfl⟩, trivial⟩ trivial)
      · refine L_call hI h (fun v hv => w_slices_ContainsFunc_Lapi_Span_api_Span N now_2 (fun x0 => m_cloth_Hours_1 N x0) 42 (KV.toDL []) rfl (fun x0 r hr => KD_of (caps := []) (w_cloth_Hours_1 N x0 r hr)) v hv) (by subst_vars; exact ⟨(leD_refl _), (leD_refl _), rfl⟩) ?_; clear h; intro r_6 h; (conv => cbv)
        exact hR _ _ (Option.some.inj h).symm (by subst_vars; exact weak_l rfl rfl ⟨LV_sl, lR, lR, lE, trivial⟩ ⟨lB ⟨LV_sl, LV_sl, LV_sl, rfl⟩, trivial⟩ trivial)
    · intro v_5 h
      (conv => cbv)
      refine L_cut hI seat [2000031] (by kernel_rfl) h (fun q => match q with | (.inl ()) => .ret | (.inr ()) => .normal) (fun q => match q with | (.inl ()) => ⟨41, [(4, .nilsl), (5, .lit .i64 3)], [], [], 0⟩ | (.inr ()) => ⟨41, [(1, sl_api_Span false now_2), (4, .nilsl), (6, .loc 1 0)], [(1, ⟨74, [sl_cloth_stretch false r_3.1.a0, sl_cloth_stretch false r_3.1.a1, sl_cloth_stretch false r_3.1.a2], true⟩)], [], 0⟩) ?_ ?_; all_goals clear h
      · intro x h R hR
        (conv => cbv)
        refine L_tst hI h (by subst_vars; rfl) ?_ ?_ <;> clear h <;> intro h
        · exact hR _ _ (Option.some.inj h).symm (by subst_vars; exact weak_l rfl rfl ⟨lR, lE, trivial⟩ trivial trivial)
        · exact hR _ _ (Option.some.inj h).symm (by subst_vars; exact weak_l rfl rfl ⟨LV_sl, lR, lR, trivial⟩ ⟨lB ⟨LV_sl, LV_sl, LV_sl, rfl⟩, trivial⟩ trivial)
      · intro q h
        rcases q with (_ | _)
        · (conv => cbv)
          cases h
          subst_vars
          exact ⟨(LV_tup ⟨LV_nil, lE, rfl⟩), rfl⟩
        · (conv => cbv)
          refine L_loop hI seat [2000018, 2000031] (by kernel_rfl) h (fun q => match q with | (v_10, l_11) => ⟨41, [(1, sl_api_Span false now_2), (4, .osl 2), (6, .loc 1 0), (25, .int .i64 v_10)], [(1, ⟨74, [sl_cloth_stretch false r_3.1.a0, sl_cloth_stretch false r_3.1.a1, sl_cloth_stretch false r_3.1.a2], true⟩)], [(2, ⟨3, 1, [.ls Int 0 l_11 e_int], false, true⟩)], 0⟩) (fun q => match q with | l_14 => .exit 1) (fun q => match q with | l_14 => ⟨41, [(4, .osl 2)], [], [(2, ⟨3, 1, [.ls Int 0 l_14 e_int], false, true⟩)], 0⟩) (by subst_vars; exact (weak_nil 4 2 3 1 rfl rfl rfl rfl).trans (weak_l rfl rfl ⟨LV_sl, lR, lR, lE, trivial⟩ ⟨lB ⟨LV_sl, LV_sl, LV_sl, rfl⟩, trivial⟩ ⟨lO, trivial⟩)) (by intro q; rcases q with l_14 <;> (intro e; exact Exit.noConfusion e)) ?_ ?_; all_goals clear h
          · intro q x h R hR hX
            obtain ⟨v_10, l_11⟩ := q
            rw [m_cloth_Hours_L1] at h
            (conv => cbv)
            refine L_tst hI h (by subst_vars; rfl) ?_ ?_ <;> clear h <;> intro h
            · refine L_call hI h (fun v hv => w_cloth_truths_canBe N r_3.1 now_2 v_10 v hv) (by subst_vars; exact ⟨(leD_refl _), (leD_refl _), (leD_refl _), rfl⟩) ?_; clear h; intro r_15 h; (conv => cbv)
              refine L_cut hI seat [2000018] (by kernel_rfl) h (fun q => match q with | l_16 => .normal) (fun q => match q with | l_16 => ⟨41, [(1, sl_api_Span false now_2), (4, .osl 2), (6, .loc 1 0), (25, .int .i64 v_10)], [(1, ⟨74, [sl_cloth_stretch false r_3.1.a0, sl_cloth_stretch false r_3.1.a1, sl_cloth_stretch false r_3.1.a2], true⟩)], [(2, ⟨3, 1, [.ls Int 0 l_16 e_int], false, true⟩)], 0⟩) ?_ ?_; all_goals clear h
              · intro x h R hR
                (conv => cbv)
                refine L_tst hI h (by subst_vars; rfl) ?_ ?_ <;> clear h <;> intro h
                · refine L_conj hI h (fun g => by subst_vars; exact g) ?_; clear h; intro hc h
                  exact hR _ _ (Option.some.inj h).symm (by subst_vars; exact weak_l rfl rfl ⟨LV_sl, lR, lR, lE, trivial⟩ ⟨lB ⟨LV_sl, LV_sl, LV_sl, rfl⟩, trivial⟩ ⟨lO, trivial⟩)
                · exact hR _ _ (Option.some.inj h).symm (by subst_vars; exact weak_l rfl rfl ⟨LV_sl, lR, lR, lE, trivial⟩ ⟨lB ⟨LV_sl, LV_sl, LV_sl, rfl⟩, trivial⟩ ⟨lO, trivial⟩)
              · intro l_16 h
                (conv => cbv)
                exact hR _ _ (Option.some.inj h).symm (by subst_vars; exact weak_l rfl rfl ⟨LV_sl, lR, lR, lE, trivial⟩ ⟨lB ⟨LV_sl, LV_sl, LV_sl, rfl⟩, trivial⟩ ⟨lO, trivial⟩)
            · exact hX _ _ (Option.some.inj h).symm (by subst_vars; exact weak_l rfl rfl ⟨lR, trivial⟩ trivial ⟨lO, trivial⟩)
          · intro l_14 h
            (conv => cbv)
            refine L_tst hI h (by subst_vars; rfl) ?_ ?_ <;> clear h <;> intro h
            · cases h
              subst_vars
              exact ⟨(LV_tup ⟨LV_nil, lE, rfl⟩), rfl⟩
            · cases h
              subst_vars
              exact ⟨(LV_tup ⟨LV_sl, lE, rfl⟩), rfl⟩
end Go.Proofs.Ytelnoeamkdpjhaa.Aw
