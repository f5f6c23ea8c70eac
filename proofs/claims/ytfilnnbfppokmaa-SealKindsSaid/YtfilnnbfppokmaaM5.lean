/- Part 5 of the proof: lemmas. -/
import Derived.Test.YtfilnnbfppokmaaM4
set_option linter.unusedVariables false
set_option linter.unusedSimpArgs false
set_option linter.unusedSectionVars false

namespace Go.Proofs.Ytfilnnbfppokmaa.Aw
open Go Go.RowKit Go.Proofs
set_option maxRecDepth 100000
set_option maxHeartbeats 20000000
noncomputable section
def kstra : ByteArray := ⟨#[63, 101, 114, 115, 63, 63]⟩
def kstrb : ByteArray := ⟨#[63]⟩
def kstrd : ByteArray := ⟨#[98, 114, 111, 97, 100]⟩
def kstre : ByteArray := ⟨#[107, 101, 114, 115, 101, 121]⟩
def kstrf : ByteArray := ⟨#[115, 116, 114, 97, 105, 116, 115]⟩
def kstrg : ByteArray := ⟨#[0, 1, 2, 2, 3, 3, 3, 3, 4, 4, 4, 4, 4, 4, 4, 4, 5, 5, 5, 5, 5, 5, 5, 5, 5, 5, 5, 5, 5, 5, 5, 5, 6, 6, 6, 6, 6, 6, 6, 6, 6, 6, 6, 6, 6, 6, 6, 6, 6, 6, 6, 6, 6, 6, 6, 6, 6, 6, 6, 6, 6, 6, 6, 6, 7, 7, 7, 7, 7, 7, 7, 7, 7, 7, 7, 7, 7, 7, 7, 7, 7, 7, 7, 7, 7, 7, 7, 7, 7, 7, 7, 7, 7, 7, 7, 7, 7, 7, 7, 7, 7, 7, 7, 7, 7, 7, 7, 7, 7, 7, 7, 7, 7, 7, 7, 7, 7, 7, 7, 7, 7, 7, 7, 7, 7, 7, 7, 7, 8, 8, 8, 8, 8, 8, 8, 8, 8, 8, 8, 8, 8, 8, 8, 8, 8, 8, 8, 8, 8, 8, 8, 8, 8, 8, 8, 8, 8, 8, 8, 8, 8, 8, 8, 8, 8, 8, 8, 8, 8, 8, 8, 8, 8, 8, 8, 8, 8, 8, 8, 8, 8, 8, 8, 8, 8, 8, 8, 8, 8, 8, 8, 8, 8, 8, 8, 8, 8, 8, 8, 8, 8, 8, 8, 8, 8, 8, 8, 8, 8, 8, 8, 8, 8, 8, 8, 8, 8, 8, 8, 8, 8, 8, 8, 8, 8, 8, 8, 8, 8, 8, 8, 8, 8, 8, 8, 8, 8, 8, 8, 8, 8, 8, 8, 8, 8, 8, 8, 8, 8, 8, 8, 8, 8, 8, 8, 8]⟩
structure api_Span where
 Low : Int
 High : Int
def d_api_Span : api_Span := ⟨0, 0⟩
instance : BEq api_Span := ⟨fun x y => (x.Low == y.Low && (x.High == y.High && true))⟩
def c_api_Span (x : api_Span) : List KV := [.int .i64 x.Low, .int .i64 x.High]
structure api_SealKind where
 Sizes : (List api_Span)
 Mark : ByteArray
def d_api_SealKind : api_SealKind := ⟨[], ⟨#[]⟩⟩
def e_api_Span (x : api_Span) (j : Nat) : KV := cel (c_api_Span x) j
def sl_api_Span (c : Bool) (l : List api_Span) : KV := .sl c 2 api_Span d_api_Span l e_api_Span
def c_api_SealKind (x : api_SealKind) : List KV := [sl_api_Span false x.Sizes, .str x.Mark]
structure api_SealStatute where
 Kinds : (List api_SealKind)
 Grace : Int
 Fine : Int
 Off : (List Int)
def e_api_SealKind (x : api_SealKind) (j : Nat) : KV := cel (c_api_SealKind x) j
def sl_api_SealKind (c : Bool) (l : List api_SealKind) : KV := .sl c 2 api_SealKind d_api_SealKind l e_api_SealKind
def e_int (x : Int) (j : Nat) : KV := .int .i64 x
def sl_int (c : Bool) (l : List Int) : KV := .sl c 1 Int 0 l e_int
def c_api_SealStatute (x : api_SealStatute) : List KV := [sl_api_SealKind false x.Kinds, .int .i64 x.Grace, .int .i64 x.Fine, sl_int false x.Off]
def k_api_SealStatute (x : api_SealStatute) : KV := .agg (c_api_SealStatute x)
structure A3_api_Span where
 a0 : api_Span
 a1 : api_Span
 a2 : api_Span
instance : BEq A3_api_Span := ⟨fun x y => (x.a0.Low == y.a0.Low && (x.a0.High == y.a0.High && (x.a1.Low == y.a1.Low && (x.a1.High == y.a1.High && (x.a2.Low == y.a2.Low && (x.a2.High == y.a2.High && true))))))⟩
structure seal_cloth where
 SealStatute : api_SealStatute
 can : A3_api_Span
structure api_SealPair where
 A : Int
 B : Int
def d_api_SealPair : api_SealPair := ⟨0, 0⟩
instance : BEq api_SealPair := ⟨fun x y => (x.A == y.A && (x.B == y.B && true))⟩
def c_api_SealPair (x : api_SealPair) : List KV := [.int .i64 x.A, .int .i64 x.B]
def e_api_SealPair (x : api_SealPair) (j : Nat) : KV := cel (c_api_SealPair x) j
def sl_api_SealPair (c : Bool) (l : List api_SealPair) : KV := .sl c 2 api_SealPair d_api_SealPair l e_api_SealPair
def e_u8 (x : Int) (j : Nat) : KV := .int .u8 x
def sl_u8 (c : Bool) (l : List Int) : KV := .sl c 1 Int 0 l e_u8
structure api_SealStrike where
 Day : Int
 Number : Int
def d_api_SealStrike : api_SealStrike := ⟨0, 0⟩
instance : BEq api_SealStrike := ⟨fun x y => (x.Day == y.Day && (x.Number == y.Number && true))⟩
def c_api_SealStrike (x : api_SealStrike) : List KV := [.int .i64 x.Day, .int .i64 x.Number]
def e_api_SealStrike (x : api_SealStrike) (j : Nat) : KV := cel (c_api_SealStrike x) j
def sl_api_SealStrike (c : Bool) (l : List api_SealStrike) : KV := .sl c 2 api_SealStrike d_api_SealStrike l e_api_SealStrike
def me_int_api_SealStrike (x : (Int × api_SealStrike)) (j : Nat) : KV := cel [.int .i64 x.1, .agg [.int .i64 x.2.Day, .int .i64 x.2.Number]] j
def mp_int_api_SealStrike (l : List (Int × api_SealStrike)) : KV := .mp (Int × api_SealStrike) (0, d_api_SealStrike) l me_int_api_SealStrike
structure api_SealRow where
 Kind : Int
 Reading : Int
def d_api_SealRow : api_SealRow := ⟨0, 0⟩
instance : BEq api_SealRow := ⟨fun x y => (x.Kind == y.Kind && (x.Reading == y.Reading && true))⟩
def c_api_SealRow (x : api_SealRow) : List KV := [.int .i64 x.Kind, .int .i64 x.Reading]
def e_api_SealRow (x : api_SealRow) (j : Nat) : KV := cel (c_api_SealRow x) j
def sl_api_SealRow (c : Bool) (l : List api_SealRow) : KV := .sl c 2 api_SealRow d_api_SealRow l e_api_SealRow
structure seal_book where
 SealStatute : api_SealStatute
 rows : (List api_SealRow)
 size : Int
structure A6_u8 where
 a0 : Int
 a1 : Int
 a2 : Int
 a3 : Int
 a4 : Int
 a5 : Int
instance : BEq A6_u8 := ⟨fun x y => (x.a0 == y.a0 && (x.a1 == y.a1 && (x.a2 == y.a2 && (x.a3 == y.a3 && (x.a4 == y.a4 && (x.a5 == y.a5 && true))))))⟩
structure A3_u8 where
 a0 : Int
 a1 : Int
 a2 : Int
instance : BEq A3_u8 := ⟨fun x y => (x.a0 == y.a0 && (x.a1 == y.a1 && (x.a2 == y.a2 && true)))⟩
structure law07_Table where
 Kinds : (List A6_u8)
 Marks : (List (List Int))
 Grace : Int
 Fine : Int
 Off : A3_u8
structure law07_Piece where
 Real : A3_u8
 Off : A3_u8
instance : BEq law07_Piece := ⟨fun x y => (x.Real.a0 == y.Real.a0 && (x.Real.a1 == y.Real.a1 && (x.Real.a2 == y.Real.a2 && (x.Off.a0 == y.Off.a0 && (x.Off.a1 == y.Off.a1 && (x.Off.a2 == y.Off.a2 && true))))))⟩
structure A2_u8 where
 a0 : Int
 a1 : Int
instance : BEq A2_u8 := ⟨fun x y => (x.a0 == y.a0 && (x.a1 == y.a1 && true))⟩
structure A4_u8 where
 a0 : Int
 a1 : Int
 a2 : Int
 a3 : Int
instance : BEq A4_u8 := ⟨fun x y => (x.a0 == y.a0 && (x.a1 == y.a1 && (x.a2 == y.a2 && (x.a3 == y.a3 && true))))⟩
structure A3_int where
 a0 : Int
 a1 : Int
 a2 : Int
instance : BEq A3_int := ⟨fun x y => (x.a0 == y.a0 && (x.a1 == y.a1 && (x.a2 == y.a2 && true)))⟩
def m_law07_large_L1 (N : Nat) (s_1 : api_SealStatute) : Int -> Option ((Int) ⊕ ((Unit) ⊕ (Unit)))
 | i_8 =>
  if icmpR .lss i_8 ((s_1.Kinds.length : Nat) : Int) then
   (show Option (Bool) from
    (getO d_api_SealKind s_1.Kinds i_8).bind fun x_17 =>
    if icmpR .gtr ((x_17.Sizes.length : Nat) : Int) 6 then
     some true
    else
     (getO d_api_SealKind s_1.Kinds i_8).bind fun x_18 =>
     some (icmpR .gtr (x_18.Mark.size : Int) 30)).bind fun q => match q with
   | v_16 =>
    if v_16 then
     some (.inr (.inl ()))
    else
     some (.inl (iopR .add .i64 i_8 1))
  else
   some (.inr (.inr ()))
def m_law07_large (N : Nat) (s_1 : api_SealStatute) (read_2 : (List Int)) : Option (Bool) :=
 (loopO (m_law07_large_L1 N s_1) N 0).bind fun q => match q with
 | (.inl ()) =>
  some true
 | (.inr ()) =>
  (show Option (Bool) from
   if icmpR .gtr ((s_1.Kinds.length : Nat) : Int) 10 then
    some true
   else
    if icmpR .gtr ((s_1.Off.length : Nat) : Int) 6 then
     some true
    else
     some (icmpR .gtr ((read_2.length : Nat) : Int) 6)).bind fun q => match q with
  | v_19 =>
   some v_19
def m_law07_span (N : Nat) (low_1 : Int) (high_2 : Int) : Option (api_Span) :=
 some (api_Span.mk low_1 high_2)
def m_law07_statute (N : Nat)  : Option (api_SealStatute) :=
 (m_law07_span N 900 960).bind fun r_1 =>
 (m_law07_span N 60 64).bind fun r_2 =>
 (m_law07_span N 300 340).bind fun r_3 =>
 (m_law07_span N 400 440).bind fun r_4 =>
 (m_law07_span N 60 70).bind fun r_5 =>
 (m_law07_span N 120 160).bind fun r_6 =>
 (m_law07_span N 400 480).bind fun r_7 =>
 (m_law07_span N 36 44).bind fun r_8 =>
 (m_law07_span N 100 150).bind fun r_9 =>
 some (api_SealStatute.mk [(api_SealKind.mk [r_1, r_2, r_3] kstrd), (api_SealKind.mk [r_4, r_5, r_6] kstre), (api_SealKind.mk [r_7, r_8, r_9] kstrf)] 10 4 [3, 1, 2])
def m_slices_IndexFunc_Lint_int_L1 (N : Nat) (v_3 : Int) (s_1 : (List Int)) (f_2 : Int -> Option Bool) : Int -> Option ((Int) ⊕ ((Int) ⊕ (Unit)))
 | v_6 =>
  if icmpR .lss v_6 v_3 then
   (getO 0 s_1 v_6).bind fun x_10 =>
   (f_2 x_10).bind fun v_11 =>
   if v_11 then
    some (.inr (.inl v_6))
   else
    some (.inl (iopR .add .i64 v_6 1))
  else
   some (.inr (.inr ()))
def m_slices_IndexFunc_Lint_int (N : Nat) (s_1 : (List Int)) (f_2 : Int -> Option Bool) : Option (Int) :=
 letO (((s_1.length : Nat) : Int) : Int) fun v_3 =>
 (loopO (m_slices_IndexFunc_Lint_int_L1 N v_3 s_1 f_2) N 0).bind fun q => match q with
 | (.inl v_9) =>
  some v_9
 | (.inr ()) =>
  some (-1)
def m_slices_ContainsFunc_Lint_int (N : Nat) (s_1 : (List Int)) (f_2 : Int -> Option Bool) : Option (Bool) :=
 (m_slices_IndexFunc_Lint_int N s_1 f_2).bind fun r_3 =>
 some (icmpR .geq r_3 0)
def m_seal_within_1 (N : Nat) (n_1 : Int) (p_2 : Int) (p_3 : Int) : Option (Bool) :=
 (show Option (Bool) from
  if icmpR .lss n_1 p_2 then
   some true
  else
   some (icmpR .gtr n_1 p_3)).bind fun q => match q with
 | v_4 =>
  some v_4
def m_seal_within (N : Nat) (least_1 : Int) (most_2 : Int) (l_3 : (List Int)) : Option (Bool) :=
 (m_slices_ContainsFunc_Lint_int N l_3 (fun x0 => m_seal_within_1 N x0 least_1 most_2)).bind fun r_4 =>
 some (!r_4)
def m_slices_IndexFunc_Lapi_SealKind_api_SealKind_L1 (N : Nat) (v_3 : Int) (s_1 : (List api_SealKind)) (f_2 : api_SealKind -> Option Bool) : Int -> Option ((Int) ⊕ ((Int) ⊕ (Unit)))
 | v_6 =>
  if icmpR .lss v_6 v_3 then
   (getO d_api_SealKind s_1 v_6).bind fun x_10 =>
   (f_2 x_10).bind fun v_11 =>
   if v_11 then
    some (.inr (.inl v_6))
   else
    some (.inl (iopR .add .i64 v_6 1))
  else
   some (.inr (.inr ()))
def m_slices_IndexFunc_Lapi_SealKind_api_SealKind (N : Nat) (s_1 : (List api_SealKind)) (f_2 : api_SealKind -> Option Bool) : Option (Int) :=
 letO (((s_1.length : Nat) : Int) : Int) fun v_3 =>
 (loopO (m_slices_IndexFunc_Lapi_SealKind_api_SealKind_L1 N v_3 s_1 f_2) N 0).bind fun q => match q with
 | (.inl v_9) =>
  some v_9
 | (.inr ()) =>
  some (-1)
def m_slices_ContainsFunc_Lapi_SealKind_api_SealKind (N : Nat) (s_1 : (List api_SealKind)) (f_2 : api_SealKind -> Option Bool) : Option (Bool) :=
 (m_slices_IndexFunc_Lapi_SealKind_api_SealKind N s_1 f_2).bind fun r_3 =>
 some (icmpR .geq r_3 0)
def m_slices_IndexFunc_Lapi_Span_api_Span_L1 (N : Nat) (v_3 : Int) (s_1 : (List api_Span)) (f_2 : api_Span -> Option Bool) : Int -> Option ((Int) ⊕ ((Int) ⊕ (Unit)))
 | v_6 =>
  if icmpR .lss v_6 v_3 then
   (getO d_api_Span s_1 v_6).bind fun x_10 =>
   (f_2 x_10).bind fun v_11 =>
   if v_11 then
    some (.inr (.inl v_6))
   else
    some (.inl (iopR .add .i64 v_6 1))
  else
   some (.inr (.inr ()))
def m_slices_IndexFunc_Lapi_Span_api_Span (N : Nat) (s_1 : (List api_Span)) (f_2 : api_Span -> Option Bool) : Option (Int) :=
 letO (((s_1.length : Nat) : Int) : Int) fun v_3 =>
 (loopO (m_slices_IndexFunc_Lapi_Span_api_Span_L1 N v_3 s_1 f_2) N 0).bind fun q => match q with
 | (.inl v_9) =>
  some v_9
 | (.inr ()) =>
  some (-1)
def m_slices_ContainsFunc_Lapi_Span_api_Span (N : Nat) (s_1 : (List api_Span)) (f_2 : api_Span -> Option Bool) : Option (Bool) :=
 (m_slices_IndexFunc_Lapi_Span_api_Span N s_1 f_2).bind fun r_3 =>
 some (icmpR .geq r_3 0)
def m_seal_isSpan (N : Nat) (s_1 : api_Span) : Option (Bool) :=
 (show Option (Bool) from
  (m_seal_within N 0 2000 [s_1.Low, s_1.High]).bind fun r_4 =>
  if r_4 then
   some (icmpR .leq s_1.Low s_1.High)
  else
   some false).bind fun q => match q with
 | v_3 =>
  some v_3
def m_seal_isKind_1 (N : Nat) (s_1 : api_Span) : Option (Bool) :=
 (m_seal_isSpan N s_1).bind fun r_2 =>
 some (!r_2)
def m_seal_isMark_L1 (N : Nat) (mark_1 : ByteArray) (others_2 : ByteArray) : Int -> Option ((Int) ⊕ ((Unit) ⊕ (Unit)))
 | p_8 =>
  if icmpR .lss p_8 (mark_1.size : Int) then
   letO (strC mark_1 p_8 : Int) fun c_15 =>
   letO (strN mark_1 p_8 : Int) fun v_16 =>
   (show Option (Bool) from
    if icmpR .geq (strC mark_1 p_8) 97 then
     some (icmpR .leq (strC mark_1 p_8) 122)
    else
     some false).bind fun q => match q with
   | v_14 =>
    (show Option ((Unit) ⊕ (Unit)) from
     if v_14 then
      some (.inl ())
     else
      (show Option (Bool) from
       if !(others_2.toList == (⟨#[]⟩ : ByteArray).toList) then
        if (0 : Int) <= 0 /\ 0 < (others_2.size : Int) then
         some (icmpR .eql c_15 (IntKind.wrap .i32 (strAt others_2 0)))
        else none
       else
        some false).bind fun q => match q with
      | v_18 =>
       if v_18 then
        some (.inl ())
       else
        some (.inr ())).bind fun q => match q with
    | (.inl ()) =>
     some (.inl v_16)
    | (.inr ()) =>
     some (.inr (.inl ()))
  else
   some (.inr (.inr ()))
def m_seal_isMark (N : Nat) (mark_1 : ByteArray) (others_2 : ByteArray) : Option (Bool) :=
 (loopO (m_seal_isMark_L1 N mark_1 others_2) N 0).bind fun q => match q with
 | (.inl ()) =>
  some false
 | (.inr ()) =>
  (m_seal_within N 1 8 [(mark_1.size : Int)]).bind fun r_19 =>
  some r_19
def m_seal_isKind (N : Nat) (k_1 : api_SealKind) : Option (Bool) :=
 (show Option (Bool) from
  if icmpR .eql ((k_1.Sizes.length : Nat) : Int) 3 then
   (m_slices_ContainsFunc_Lapi_Span_api_Span N k_1.Sizes (fun x0 => m_seal_isKind_1 N x0)).bind fun r_5 =>
   if !r_5 then
    (m_seal_isMark N k_1.Mark ⟨#[]⟩).bind fun r_6 =>
    some r_6
   else
    some false
  else
   some false).bind fun q => match q with
 | v_4 =>
  some v_4
def m_seal_Check_1 (N : Nat) (k_1 : api_SealKind) : Option (Bool) :=
 (m_seal_isKind N k_1).bind fun r_2 =>
 some (!r_2)
def m_seal_Check (N : Nat) (s_1 : api_SealStatute) : Option (Int) :=
 (m_seal_within N 1 6 [((s_1.Kinds.length : Nat) : Int)]).bind fun r_2 =>
 (show Option (Bool) from
  if !r_2 then
   some true
  else
   some (icmpR .neq ((s_1.Off.length : Nat) : Int) 3)).bind fun q => match q with
 | v_3 =>
  (show Option ((Int) ⊕ (Unit)) from
   if v_3 then
    some (.inl 4)
   else
    (m_slices_ContainsFunc_Lapi_SealKind_api_SealKind N s_1.Kinds (fun x0 => m_seal_Check_1 N x0)).bind fun r_18 =>
    (show Option (Bool) from
     if r_18 then
      some true
     else
      (m_seal_within N 0 50 [s_1.Grace]).bind fun r_28 =>
      if !r_28 then
       some true
      else
       (m_seal_within N 0 100 [s_1.Fine]).bind fun r_29 =>
       if !r_29 then
        some true
       else
        (m_seal_within N 0 20 s_1.Off).bind fun r_30 =>
        some (!r_30)).bind fun q => match q with
    | v_27 =>
     (show Option ((Unit) ⊕ (Unit)) from
      if v_27 then
       some (.inl ())
      else
       some (.inr ())).bind fun q => match q with
     | (.inl ()) =>
      some (.inl 2)
     | (.inr ()) =>
      some (.inr ())).bind fun q => match q with
  | (.inl v_17) =>
   some v_17
  | (.inr ()) =>
   some 0
def m_seal_newCloth_L1 (N : Nat) (v_7 : Int) (read_2 : (List Int)) (s_1 : api_SealStatute) : (Int × Int × Int × Int × Int × Int × Int) -> Option ((Int × Int × Int × Int × Int × Int × Int) ⊕ (Int × Int × Int × Int × Int × Int))
 | (v_15, c_16, c_17, c_29, c_30, c_31, c_32) =>
  if icmpR .lss v_15 v_7 then
   (getO 0 read_2 v_15).bind fun x_50 =>
   (show Option (Int × Int × Int × Int × Int × Int) from
    (getO 0 s_1.Off v_15).bind fun x_59 =>
    (getO 0 s_1.Off v_15).bind fun x_60 =>
    if 0 <= v_15 /\ v_15 < (3 : Int) then
     if icmpR .eql v_15 0 then
      some (max 0 (iopR .sub .i64 x_50 x_59), iopR .add .i64 x_50 x_60, c_29, c_30, c_31, c_32)
     else
      if icmpR .eql v_15 1 then
       some (c_16, c_17, max 0 (iopR .sub .i64 x_50 x_59), iopR .add .i64 x_50 x_60, c_31, c_32)
      else
       some (c_16, c_17, c_29, c_30, max 0 (iopR .sub .i64 x_50 x_59), iopR .add .i64 x_50 x_60)
    else none).bind fun q => match q with
   | (c_53, c_54, c_55, c_56, c_57, c_58) =>
    some (.inl (iopR .add .i64 v_15 1, c_53, c_54, c_55, c_56, c_57, c_58))
  else
   some (.inr (c_16, c_17, c_29, c_30, c_31, c_32))
def m_seal_newCloth (N : Nat) (s_1 : api_SealStatute) (read_2 : (List Int)) : Option (seal_cloth × Int) :=
 (m_seal_Check N s_1).bind fun r_3 =>
 if icmpR .neq r_3 0 then
  some ((seal_cloth.mk (api_SealStatute.mk [] 0 0 []) (A3_api_Span.mk (api_Span.mk 0 0) (api_Span.mk 0 0) (api_Span.mk 0 0))), r_3)
 else
  (show Option (Bool) from
   if icmpR .neq ((read_2.length : Nat) : Int) 3 then
    some true
   else
    (m_seal_within N 0 2000 read_2).bind fun r_6 =>
    some (!r_6)).bind fun q => match q with
  | v_5 =>
   (show Option ((Unit) ⊕ (Unit)) from
    if v_5 then
     some (.inl ())
    else
     some (.inr ())).bind fun q => match q with
   | (.inl ()) =>
    some ((seal_cloth.mk (api_SealStatute.mk [] 0 0 []) (A3_api_Span.mk (api_Span.mk 0 0) (api_Span.mk 0 0) (api_Span.mk 0 0))), 3)
   | (.inr ()) =>
    letO (((read_2.length : Nat) : Int) : Int) fun v_7 =>
    (loopO (m_seal_newCloth_L1 N v_7 read_2 s_1) N (0, 0, 0, 0, 0, 0, 0)).bind fun q => match q with
    | (c_44, c_45, c_46, c_47, c_48, c_49) =>
     some ((seal_cloth.mk s_1 (A3_api_Span.mk (api_Span.mk c_44 c_45) (api_Span.mk c_46 c_47) (api_Span.mk c_48 c_49))), 0)
def m_seal_beyond (N : Nat) (n_1 : Int) (s_2 : api_Span) : Option (Int) :=
 some (max (max 0 (iopR .sub .i64 s_2.Low n_1)) (iopR .sub .i64 n_1 s_2.High))
def m_seal_meet (N : Nat) (a_1 : api_Span) (b_2 : api_Span) : Option (Bool) :=
 some (icmpR .leq (max a_1.Low b_2.Low) (min a_1.High b_2.High))
def m_seal_cloth_isOf (N : Nat) (c_1 : seal_cloth) (k_2 : api_SealKind) : Option (Bool × Bool) :=
 (show Option (Bool) from
  (getO d_api_Span k_2.Sizes 0).bind fun x_40 =>
  (m_seal_beyond N c_1.can.a0.Low x_40).bind fun r_41 =>
  (getO d_api_Span k_2.Sizes 0).bind fun x_42 =>
  (m_seal_beyond N c_1.can.a0.High x_42).bind fun r_43 =>
  some (icmpR .eql (iopR .add .i64 r_41 r_43) 0)).bind fun q => match q with
 | surely_39 =>
  (show Option (Bool) from
   (getO d_api_Span k_2.Sizes 0).bind fun x_47 =>
   (m_seal_meet N c_1.can.a0 x_47).bind fun r_48 =>
   some r_48).bind fun q => match q with
  | possibly_46 =>
   (show Option (Bool) from
    if surely_39 then
     (getO d_api_Span k_2.Sizes 1).bind fun x_54 =>
     (m_seal_beyond N c_1.can.a1.Low x_54).bind fun r_55 =>
     (getO d_api_Span k_2.Sizes 1).bind fun x_56 =>
     (m_seal_beyond N c_1.can.a1.High x_56).bind fun r_57 =>
     some (icmpR .eql (iopR .add .i64 r_55 r_57) 0)
    else
     some false).bind fun q => match q with
   | surely_53 =>
    (show Option (Bool) from
     if possibly_46 then
      (getO d_api_Span k_2.Sizes 1).bind fun x_61 =>
      (m_seal_meet N c_1.can.a1 x_61).bind fun r_62 =>
      some r_62
     else
      some false).bind fun q => match q with
    | possibly_60 =>
     (show Option (Bool) from
      if surely_53 then
       (getO d_api_Span k_2.Sizes 2).bind fun x_68 =>
       (m_seal_beyond N c_1.can.a2.Low x_68).bind fun r_69 =>
       (getO d_api_Span k_2.Sizes 2).bind fun x_70 =>
       (m_seal_beyond N c_1.can.a2.High x_70).bind fun r_71 =>
       some (icmpR .eql (iopR .add .i64 r_69 r_71) 0)
      else
       some false).bind fun q => match q with
     | surely_67 =>
      (show Option (Bool) from
       if possibly_60 then
        (getO d_api_Span k_2.Sizes 2).bind fun x_75 =>
        (m_seal_meet N c_1.can.a2 x_75).bind fun r_76 =>
        some r_76
       else
        some false).bind fun q => match q with
      | possibly_74 =>
       some (surely_67, possibly_74)
def m_seal_Kinds_L1 (N : Nat) (v_4 : Int) (s_1 : api_SealStatute) (r_3 : seal_cloth × Int) : (Int × (List Int) × (List Int)) -> Option ((Int × (List Int) × (List Int)) ⊕ ((List Int) × (List Int)))
 | (v_9, surely_10, possibly_11) =>
  if icmpR .lss v_9 v_4 then
   (getO d_api_SealKind s_1.Kinds v_9).bind fun x_18 =>
   (m_seal_cloth_isOf N r_3.1 x_18).bind fun r_19 =>
   (show Option ((List Int)) from
    if r_19.1 then
     if fitsN (surely_10.length + 1) 8 then
      some (surely_10 ++ [v_9])
     else none
    else
     some surely_10).bind fun q => match q with
   | surely_20 =>
    (show Option ((List Int)) from
     if r_19.2 then
      if fitsN (possibly_11.length + 1) 8 then
       some (possibly_11 ++ [v_9])
      else none
     else
      some possibly_11).bind fun q => match q with
    | possibly_21 =>
     some (.inl (iopR .add .i64 v_9 1, surely_20, possibly_21))
  else
   some (.inr (possibly_11, surely_10))
def m_seal_Kinds (N : Nat) (s_1 : api_SealStatute) (read_2 : (List Int)) : Option ((List Int) × (List Int) × Int) :=
 (m_seal_newCloth N s_1 read_2).bind fun r_3 =>
 if icmpR .neq r_3.2 0 then
  some ([], [], r_3.2)
 else
  letO (((s_1.Kinds.length : Nat) : Int) : Int) fun v_4 =>
  (loopO (m_seal_Kinds_L1 N v_4 s_1 r_3) N (0, [], [])).bind fun q => match q with
  | (possibly_16, surely_17) =>
   some (surely_17, possibly_16, 0)
def m_seal_cloth_missing (N : Nat) (c_1 : seal_cloth) (can_2 : api_Span) (due_3 : api_Span) : Option (api_Span × Bool × Bool) :=
 (show Option (Int) from
  if icmpR .gtr (min (max can_2.Low due_3.Low) can_2.High) due_3.High then
   some (max can_2.Low due_3.High)
  else
   some (min (max can_2.Low due_3.Low) can_2.High)).bind fun q => match q with
 | closest_4 =>
  (m_seal_beyond N closest_4 due_3).bind fun r_5 =>
  (m_seal_beyond N can_2.Low due_3).bind fun r_6 =>
  (m_seal_beyond N can_2.High due_3).bind fun r_7 =>
  if icmpR .gtr r_5 c_1.SealStatute.Grace then
   some ((api_Span.mk 0 0), true, true)
  else
   letO (icmpR .gtr (max r_6 r_7) c_1.SealStatute.Grace : Bool) fun more_8 =>
   letO (min (max r_6 r_7) c_1.SealStatute.Grace : Int) fun v_9 =>
   (show Option (Unit) from
    some ()).bind fun q => match q with
   | () =>
    some ((api_Span.mk r_5 v_9), more_8, false)
def m_seal_cloth_fine (N : Nat) (c_1 : seal_cloth) (k_2 : api_SealKind) : Option (api_Span × Bool × Bool) :=
 (getO d_api_Span k_2.Sizes 0).bind fun x_3 =>
 (m_seal_cloth_missing N c_1 c_1.can.a0 x_3).bind fun r_4 =>
 letO (!r_4.2.1 : Bool) fun surely_15 =>
 letO (!r_4.2.2 : Bool) fun possibly_16 =>
 (show Option (Unit) from
  some ()).bind fun q => match q with
 | () =>
  (getO d_api_Span k_2.Sizes 1).bind fun x_17 =>
  (m_seal_cloth_missing N c_1 c_1.can.a1 x_17).bind fun r_18 =>
  letO (iopR .add .i64 0 (iopR .mul .i64 r_4.1.Low c_1.SealStatute.Fine) : Int) fun v_21 =>
  letO (iopR .add .i64 0 (iopR .mul .i64 r_4.1.High c_1.SealStatute.Fine) : Int) fun v_22 =>
  (show Option (Bool × Bool) from
   if surely_15 then
    if possibly_16 then
     some (!r_18.2.2, !r_18.2.1)
    else
     some (false, !r_18.2.1)
   else
    if possibly_16 then
     some (!r_18.2.2, false)
    else
     some (false, false)).bind fun q => match q with
  | (possibly_19, surely_20) =>
   (getO d_api_Span k_2.Sizes 2).bind fun x_23 =>
   (m_seal_cloth_missing N c_1 c_1.can.a2 x_23).bind fun r_24 =>
   letO (iopR .add .i64 v_21 (iopR .mul .i64 r_18.1.Low c_1.SealStatute.Fine) : Int) fun v_27 =>
   letO (iopR .add .i64 v_22 (iopR .mul .i64 r_18.1.High c_1.SealStatute.Fine) : Int) fun v_28 =>
   (show Option (Bool × Bool) from
    if surely_20 then
     if possibly_19 then
      some (!r_24.2.2, !r_24.2.1)
     else
      some (false, !r_24.2.1)
    else
     if possibly_19 then
      some (!r_24.2.2, false)
     else
      some (false, false)).bind fun q => match q with
   | (possibly_25, surely_26) =>
    some ((api_Span.mk (iopR .add .i64 v_27 (iopR .mul .i64 r_24.1.Low c_1.SealStatute.Fine)) (iopR .add .i64 v_28 (iopR .mul .i64 r_24.1.High c_1.SealStatute.Fine))), surely_26, possibly_25)
def m_seal_Fine (N : Nat) (s_1 : api_SealStatute) (read_2 : (List Int)) (kind_3 : Int) : Option (api_Span × Int) :=
 (m_seal_newCloth N s_1 read_2).bind fun r_4 =>
 if icmpR .neq r_4.2 0 then
  some ((api_Span.mk 0 0), r_4.2)
 else
  (m_seal_within N 0 (iopR .sub .i64 ((s_1.Kinds.length : Nat) : Int) 1) [kind_3]).bind fun r_5 =>
  if !r_5 then
   some ((api_Span.mk 0 0), 7)
  else
   (getO d_api_SealKind s_1.Kinds kind_3).bind fun x_6 =>
   (m_seal_cloth_fine N r_4.1 x_6).bind fun r_7 =>
   if r_7.2.2 then
    some (r_7.1, 0)
   else
    some ((api_Span.mk 0 0), 9)
def m_seal_Best_L1 (N : Nat) (v_4 : Int) (s_1 : api_SealStatute) (r_3 : seal_cloth × Int) : (Int × Int × Int) -> Option ((Int × Int × Int) ⊕ (Int × Int))
 | (kind_10, fine_11, v_12) =>
  if icmpR .lss v_12 v_4 then
   (getO d_api_SealKind s_1.Kinds v_12).bind fun x_20 =>
   (m_seal_cloth_fine N r_3.1 x_20).bind fun r_21 =>
   (show Option (Bool) from
    if r_21.2.1 then
     if icmpR .lss kind_10 0 then
      some true
     else
      some (icmpR .lss r_21.1.High fine_11)
    else
     some false).bind fun q => match q with
   | v_22 =>
    (show Option (Int × Int) from
     if v_22 then
      some (v_12, r_21.1.High)
     else
      some (kind_10, fine_11)).bind fun q => match q with
    | (kind_23, fine_24) =>
     some (.inl (kind_23, fine_24, iopR .add .i64 v_12 1))
  else
   some (.inr (kind_10, fine_11))
def m_seal_Best (N : Nat) (s_1 : api_SealStatute) (read_2 : (List Int)) : Option (Int × Int × Int) :=
 (m_seal_newCloth N s_1 read_2).bind fun r_3 =>
 if icmpR .neq r_3.2 0 then
  some (0, 0, r_3.2)
 else
  letO (((s_1.Kinds.length : Nat) : Int) : Int) fun v_4 =>
  (loopO (m_seal_Best_L1 N v_4 s_1 r_3) N ((-1), 0, 0)).bind fun q => match q with
  | (kind_18, fine_19) =>
   if icmpR .lss kind_18 0 then
    some (0, 0, 9)
   else
    some (kind_18, fine_19, 0)
def m_seal_cloth_possible_L1 (N : Nat) (v_2 : Int) (c_1 : seal_cloth) : (Int × Int) -> Option ((Int × Int) ⊕ (Int))
 | (n_6, v_7) =>
  if icmpR .lss v_7 v_2 then
   (getO d_api_SealKind c_1.SealStatute.Kinds v_7).bind fun x_12 =>
   (m_seal_cloth_isOf N c_1 x_12).bind fun r_13 =>
   (show Option (Int) from
    if r_13.2 then
     some (iopR .add .i64 n_6 1)
    else
     some n_6).bind fun q => match q with
   | n_14 =>
    some (.inl (n_14, iopR .add .i64 v_7 1))
  else
   some (.inr n_6)
def m_seal_cloth_possible (N : Nat) (c_1 : seal_cloth) : Option (Int) :=
 letO (((c_1.SealStatute.Kinds.length : Nat) : Int) : Int) fun v_2 =>
 (loopO (m_seal_cloth_possible_L1 N v_2 c_1) N (0, 0)).bind fun q => match q with
 | n_11 =>
  some n_11
def m_seal_cloth_found (N : Nat) (c_1 : seal_cloth) (size_2 : Int) : Option ((seal_cloth × Int)) :=
 some (c_1, size_2)
def m_seal_cloth_found_1_L1 (N : Nat) (p_2 : Int) (p_1 : seal_cloth) : Int -> Option (List (seal_cloth) × ((Int) ⊕ (Unit)))
 | n_11 =>
  (show Option (Bool) from
   if 0 <= p_2 /\ p_2 < (3 : Int) then
    if icmpR .eql p_2 0 then
     some (icmpR .leq n_11 p_1.can.a0.High)
    else
     if icmpR .eql p_2 1 then
      some (icmpR .leq n_11 p_1.can.a1.High)
     else
      some (icmpR .leq n_11 p_1.can.a2.High)
   else none).bind fun q => match q with
  | v_19 =>
   if v_19 then
    (show Option (Int × Int × Int × Int × Int × Int) from
     if 0 <= p_2 /\ p_2 < (3 : Int) then
      if icmpR .eql p_2 0 then
       some (n_11, n_11, p_1.can.a1.Low, p_1.can.a1.High, p_1.can.a2.Low, p_1.can.a2.High)
      else
       if icmpR .eql p_2 1 then
        some (p_1.can.a0.Low, p_1.can.a0.High, n_11, n_11, p_1.can.a2.Low, p_1.can.a2.High)
       else
        some (p_1.can.a0.Low, p_1.can.a0.High, p_1.can.a1.Low, p_1.can.a1.High, n_11, n_11)
     else none).bind fun q => match q with
    | (one_20, one_21, one_22, one_23, one_24, one_25) =>
     yieldO (seal_cloth.mk p_1.SealStatute (A3_api_Span.mk (api_Span.mk one_20 one_21) (api_Span.mk one_22 one_23) (api_Span.mk one_24 one_25))) (
      some ([], .inl (iopR .add .i64 n_11 1)))
   else
    some ([], .inr ())
def m_seal_cloth_found_1 (N : Nat) (p_1 : seal_cloth) (p_2 : Int) : Option (List seal_cloth × Unit) :=
 (show Option (Int) from
  if 0 <= p_2 /\ p_2 < (3 : Int) then
   if icmpR .eql p_2 0 then
    some p_1.can.a0.Low
   else
    if icmpR .eql p_2 1 then
     some p_1.can.a1.Low
    else
     some p_1.can.a2.Low
  else none).bind fun q => match q with
 | n_3 =>
  thenY (loopY (m_seal_cloth_found_1_L1 N p_2 p_1) N n_3) fun q => match q with
  | () =>
   some ([], ())
def m_it_seal_cloth_found_1 (N : Nat) (p_1 : seal_cloth) (p_2 : Int) : Option (List seal_cloth) := (m_seal_cloth_found_1 N p_1 p_2).bind fun q => some q.1
def m_seal_Look_L1 (N : Nat) : seal_cloth -> Int -> Option ((Int) ⊕ (Empty))
 | y_7, most_26 =>
  (m_seal_cloth_possible N y_7).bind fun r_28 =>
  some (.inl (max most_26 r_28))
def m_seal_Look_L2 (N : Nat) : seal_cloth -> Int -> Option ((Int) ⊕ (Empty))
 | y_32, most_34 =>
  (m_seal_cloth_possible N y_32).bind fun r_36 =>
  some (.inl (max most_34 r_36))
def m_seal_Look_L3 (N : Nat) : seal_cloth -> Int -> Option ((Int) ⊕ (Empty))
 | y_41, most_43 =>
  (m_seal_cloth_possible N y_41).bind fun r_45 =>
  some (.inl (max most_43 r_45))
def m_seal_Look (N : Nat) (s_1 : api_SealStatute) (read_2 : (List Int)) : Option (Int × Int × Int) :=
 (m_seal_newCloth N s_1 read_2).bind fun r_3 =>
 if icmpR .neq r_3.2 0 then
  some (0, 0, r_3.2)
 else
  (m_seal_cloth_possible N r_3.1).bind fun r_4 =>
  (m_seal_cloth_found N r_3.1 0).bind fun r_5 =>
  (m_it_seal_cloth_found_1 N r_5.1 r_5.2).bind fun ys_6 =>
  (rangeO (m_seal_Look_L1 N) ys_6 0).bind fun q => match q with
  | .inl most_26 =>
   (show Option (Int) from
    if icmpR .lss most_26 r_4 then
     some most_26
    else
     some r_4).bind fun q => match q with
   | left_29 =>
    (m_seal_cloth_found N r_3.1 1).bind fun r_30 =>
    (m_it_seal_cloth_found_1 N r_30.1 r_30.2).bind fun ys_31 =>
    (rangeO (m_seal_Look_L2 N) ys_31 0).bind fun q => match q with
    | .inl most_34 =>
     (show Option (Int × Int) from
      if icmpR .lss most_34 left_29 then
       some (1, most_34)
      else
       some (0, left_29)).bind fun q => match q with
     | (size_37, left_38) =>
      (m_seal_cloth_found N r_3.1 2).bind fun r_39 =>
      (m_it_seal_cloth_found_1 N r_39.1 r_39.2).bind fun ys_40 =>
      (rangeO (m_seal_Look_L3 N) ys_40 0).bind fun q => match q with
      | .inl most_43 =>
       (show Option (Int × Int) from
        if icmpR .lss most_43 left_38 then
         some (2, most_43)
        else
         some (size_37, left_38)).bind fun q => match q with
       | (size_46, left_47) =>
        if icmpR .eql left_47 r_4 then
         some (0, 0, 6)
        else
         some (size_46, left_47, 0)
def m_seal_Alike_L3 (N : Nat) (v_133 : Int) (x_100 : api_SealKind) (s_1 : api_SealStatute) (b_116 : Int) : Int -> Option ((Int) ⊕ ((Unit) ⊕ (Unit)))
 | v_138 =>
  if icmpR .lss v_138 v_133 then
   (getO d_api_Span x_100.Sizes v_138).bind fun x_143 =>
   (getO d_api_SealKind s_1.Kinds b_116).bind fun x_144 =>
   (getO d_api_Span x_144.Sizes v_138).bind fun x_145 =>
   (m_seal_meet N x_143 x_145).bind fun r_146 =>
   if !r_146 then
    some (.inr (.inl ()))
   else
    some (.inl (iopR .add .i64 v_138 1))
  else
   some (.inr (.inr ()))
def m_seal_Alike_L2 (N : Nat) (s_1 : api_SealStatute) (x_100 : api_SealKind) (v_50 : Int) : (Int × (List api_SealPair)) -> Option ((Int × (List api_SealPair)) ⊕ ((List api_SealPair)))
 | (b_116, l_117) =>
  if icmpR .lss b_116 ((s_1.Kinds.length : Nat) : Int) then
   letO (((x_100.Sizes.length : Nat) : Int) : Int) fun v_133 =>
   (loopO (m_seal_Alike_L3 N v_133 x_100 s_1 b_116) N 0).bind fun q => match q with
   | (.inl ()) =>
    some (.inl (iopR .add .i64 b_116 1, l_117))
   | (.inr ()) =>
    if fitsN (l_117.length + 1) 16 then
     some (.inl (iopR .add .i64 b_116 1, (l_117 ++ [(api_SealPair.mk v_50 b_116)])))
    else none
  else
   some (.inr l_117)
def m_seal_Alike_L1 (N : Nat) (v_3 : Int) (s_1 : api_SealStatute) : (Int × (List api_SealPair)) -> Option ((Int × (List api_SealPair)) ⊕ ((List api_SealPair)))
 | (v_50, l_51) =>
  if icmpR .lss v_50 v_3 then
   (getO d_api_SealKind s_1.Kinds v_50).bind fun x_100 =>
   letO (iopR .add .i64 v_50 1 : Int) fun b_101 =>
   (loopO (m_seal_Alike_L2 N s_1 x_100 v_50) N (iopR .add .i64 v_50 1, l_51)).bind fun q => match q with
   | l_132 =>
    some (.inl (iopR .add .i64 v_50 1, l_132))
  else
   some (.inr l_51)
def m_seal_Alike (N : Nat) (s_1 : api_SealStatute) : Option ((List api_SealPair) × Int) :=
 (m_seal_Check N s_1).bind fun r_2 =>
 if icmpR .neq r_2 0 then
  some ([], r_2)
 else
  letO (((s_1.Kinds.length : Nat) : Int) : Int) fun v_3 =>
  (loopO (m_seal_Alike_L1 N v_3 s_1) N (0, [])).bind fun q => match q with
  | l_99 =>
   some (l_99, 0)
def m_seal_Torn_L2 (N : Nat) (v_37 : Int) (v_36 : (List Int)) (x_35 : api_SealKind) : (Bool × Int) -> Option ((Bool × Int) ⊕ (Bool))
 | (v_40, v_41) =>
  if icmpR .lss v_41 v_37 then
   (getO 0 v_36 v_41).bind fun x_45 =>
   (show Option (Bool) from
    if v_40 then
     if (0 : Int) <= 0 /\ 0 < (kstrb.size : Int) then
      if icmpR .eql x_45 (strAt kstrb 0) then
       some true
      else
       if (0 : Int) <= v_41 /\ v_41 < (x_35.Mark.size : Int) then
        some (icmpR .eql x_45 (strAt x_35.Mark v_41))
       else none
     else none
    else
     some false).bind fun q => match q with
   | v_46 =>
    some (.inl (v_46, iopR .add .i64 v_41 1))
  else
   some (.inr v_40)
def m_seal_Torn_L1 (N : Nat) (v_5 : Int) (p_1 : api_SealStatute) (p_2 : ByteArray) : (Int × (List Int)) -> Option ((Int × (List Int)) ⊕ ((List Int)))
 | (v_19, v_20) =>
  if icmpR .lss v_19 v_5 then
   (getO d_api_SealKind p_1.Kinds v_19).bind fun x_35 =>
   if icmpR .neq (x_35.Mark.size : Int) (p_2.size : Int) then
    some (.inl (iopR .add .i64 v_19 1, v_20))
   else
    if (p_2.size : Int) <= 9223372036854775807 then
     letO (bytesL p_2 : (List Int)) fun v_36 =>
     letO ((((bytesL p_2).length : Nat) : Int) : Int) fun v_37 =>
     (loopO (m_seal_Torn_L2 N v_37 v_36 x_35) N (true, 0)).bind fun q => match q with
     | v_44 =>
      (show Option ((List Int)) from
       if v_44 then
        if fitsN (v_20.length + 1) 8 then
         some (v_20 ++ [v_19])
        else none
       else
        some v_20).bind fun q => match q with
      | v_47 =>
       some (.inl (iopR .add .i64 v_19 1, v_47))
    else none
  else
   some (.inr v_20)
def m_seal_Torn (N : Nat) (p_1 : api_SealStatute) (p_2 : ByteArray) : Option ((List Int) × Int) :=
 (m_seal_Check N p_1).bind fun r_3 =>
 if icmpR .neq r_3 0 then
  some ([], r_3)
 else
  (m_seal_isMark N p_2 kstrb).bind fun r_4 =>
  if !r_4 then
   some ([], 3)
  else
   letO (((p_1.Kinds.length : Nat) : Int) : Int) fun v_5 =>
   (loopO (m_seal_Torn_L1 N v_5 p_1 p_2) N (0, [])).bind fun q => match q with
   | v_34 =>
    if icmpR .eql ((v_34.length : Nat) : Int) 0 then
     some ([], 7)
    else
     some (v_34, 0)
def m_slices_IndexFunc_Lapi_SealStrike_api_SealStrike_L1 (N : Nat) (v_3 : Int) (s_1 : (List api_SealStrike)) (f_2 : api_SealStrike -> Option Bool) : Int -> Option ((Int) ⊕ ((Int) ⊕ (Unit)))
 | v_6 =>
  if icmpR .lss v_6 v_3 then
   (getO d_api_SealStrike s_1 v_6).bind fun x_10 =>
   (f_2 x_10).bind fun v_11 =>
   if v_11 then
    some (.inr (.inl v_6))
   else
    some (.inl (iopR .add .i64 v_6 1))
  else
   some (.inr (.inr ()))
def m_slices_IndexFunc_Lapi_SealStrike_api_SealStrike (N : Nat) (s_1 : (List api_SealStrike)) (f_2 : api_SealStrike -> Option Bool) : Option (Int) :=
 letO (((s_1.length : Nat) : Int) : Int) fun v_3 =>
 (loopO (m_slices_IndexFunc_Lapi_SealStrike_api_SealStrike_L1 N v_3 s_1 f_2) N 0).bind fun q => match q with
 | (.inl v_9) =>
  some v_9
 | (.inr ()) =>
  some (-1)
def m_slices_ContainsFunc_Lapi_SealStrike_api_SealStrike (N : Nat) (s_1 : (List api_SealStrike)) (f_2 : api_SealStrike -> Option Bool) : Option (Bool) :=
 (m_slices_IndexFunc_Lapi_SealStrike_api_SealStrike N s_1 f_2).bind fun r_3 =>
 some (icmpR .geq r_3 0)
def m_seal_isStrike (N : Nat) (s_1 : api_SealStrike) : Option (Bool) :=
 (show Option (Bool) from
  (m_seal_within N 1 400 [s_1.Day]).bind fun r_5 =>
  if r_5 then
   (m_seal_within N 1 9999 [s_1.Number]).bind fun r_6 =>
   some r_6
  else
   some false).bind fun q => match q with
 | v_4 =>
  some v_4
def m_seal_Forged_1 (N : Nat) (s_1 : api_SealStrike) : Option (Bool) :=
 (m_seal_isStrike N s_1).bind fun r_2 =>
 some (!r_2)
def m_slices_Values_Lapi_SealStrike_api_SealStrike (N : Nat) (s_1 : (List api_SealStrike)) : Option (((List api_SealStrike))) :=
 some s_1
def m_slices_AppendSeq_Lapi_SealStrike_api_SealStrike_L1 (N : Nat) : api_SealStrike -> (List api_SealStrike) -> Option (((List api_SealStrike)) ⊕ (Empty))
 | y_2, l_3 =>
  if fitsN (l_3.length + 1) 16 then
   some (.inl (l_3 ++ [y_2]))
  else none
def m_slices_AppendSeq_Lapi_SealStrike_api_SealStrike (N : Nat) (ys_1 : List (api_SealStrike)) : Option ((List api_SealStrike)) :=
 (rangeO (m_slices_AppendSeq_Lapi_SealStrike_api_SealStrike_L1 N) ys_1 []).bind fun q => match q with
 | .inl l_3 =>
  some l_3
def m_slices_Collect_api_SealStrike (N : Nat) (ys_1 : List (api_SealStrike)) : Option ((List api_SealStrike)) :=
 (m_slices_AppendSeq_Lapi_SealStrike_api_SealStrike N ys_1).bind fun r_2 =>
 some r_2
def m_math_bits_Len64 (N : Nat) (x_1 : Int) : Option (Int) :=
 (show Option (Int × Int) from
  if icmpR .geq x_1 4294967296 then
   if (0 : Int) <= 32 then
    some (iopR .shr .u64 x_1 32, 32)
   else none
  else
   some (x_1, 0)).bind fun q => match q with
 | (x_2, n_3) =>
  (show Option (Int × Int) from
   if icmpR .geq x_2 65536 then
    if (0 : Int) <= 16 then
     some (iopR .shr .u64 x_2 16, iopR .add .i64 n_3 16)
    else none
   else
    some (x_2, n_3)).bind fun q => match q with
  | (x_4, n_5) =>
   (show Option (Int × Int) from
    if icmpR .geq x_4 256 then
     if (0 : Int) <= 8 then
      some (iopR .shr .u64 x_4 8, iopR .add .i64 n_5 8)
     else none
    else
     some (x_4, n_5)).bind fun q => match q with
   | (x_6, n_7) =>
    if (0 : Int) <= IntKind.wrap .u8 x_6 /\ IntKind.wrap .u8 x_6 < (kstrg.size : Int) then
     some (iopR .add .i64 n_7 (IntKind.wrap .i64 (strAt kstrg (IntKind.wrap .u8 x_6))))
    else none
def m_math_bits_Len (N : Nat) (x_1 : Int) : Option (Int) :=
 (m_math_bits_Len64 N x_1).bind fun r_2 =>
 some r_2
def m_slices_insertionSortCmpFunc_api_SealStrike_L2 (N : Nat) (a_2 : Int) (cmp_4 : api_SealStrike -> api_SealStrike -> Option Int) : (Int × (List api_SealStrike)) -> Option ((Int × (List api_SealStrike)) ⊕ ((List api_SealStrike)))
 | (j_127, data_128) =>
  (show Option (Bool) from
   if icmpR .gtr j_127 a_2 then
    if 0 <= j_127 /\ j_127 < ((data_128.length : Nat) : Int) then
     (getO d_api_SealStrike data_128 j_127).bind fun x_150 =>
     if 0 <= iopR .sub .i64 j_127 1 /\ iopR .sub .i64 j_127 1 < ((data_128.length : Nat) : Int) then
      (getO d_api_SealStrike data_128 (iopR .sub .i64 j_127 1)).bind fun x_151 =>
      (cmp_4 x_150 x_151).bind fun v_152 =>
      some (icmpR .lss v_152 0)
     else none
    else none
   else
    some false).bind fun q => match q with
  | v_149 =>
   if v_149 then
    (show Option ((List api_SealStrike)) from
     if 0 <= iopR .sub .i64 j_127 1 /\ iopR .sub .i64 j_127 1 < ((data_128.length : Nat) : Int) then
      (getO d_api_SealStrike data_128 (iopR .sub .i64 j_127 1)).bind fun x_158 =>
      if 0 <= j_127 /\ j_127 < ((data_128.length : Nat) : Int) then
       (getO d_api_SealStrike data_128 j_127).bind fun x_159 =>
       if 0 <= j_127 /\ j_127 < ((data_128.length : Nat) : Int) then
        if 0 <= j_127 /\ j_127 < ((data_128.length : Nat) : Int) then
         letO (data_128.set j_127.toNat x_158) fun l_160 =>
         if 0 <= iopR .sub .i64 j_127 1 /\ iopR .sub .i64 j_127 1 < ((l_160.length : Nat) : Int) then
          if 0 <= iopR .sub .i64 j_127 1 /\ iopR .sub .i64 j_127 1 < ((l_160.length : Nat) : Int) then
           letO (l_160.set (iopR .sub .i64 j_127 1).toNat x_159) fun l_161 =>
           some l_161
          else none
         else none
        else none
       else none
      else none
     else none).bind fun q => match q with
    | data_157 =>
     some (.inl (iopR .sub .i64 j_127 1, data_157))
   else
    some (.inr data_128)
def m_slices_insertionSortCmpFunc_api_SealStrike_L1 (N : Nat) (b_3 : Int) (a_2 : Int) (cmp_4 : api_SealStrike -> api_SealStrike -> Option Int) : (Int × (List api_SealStrike)) -> Option ((Int × (List api_SealStrike)) ⊕ ((List api_SealStrike)))
 | (i_57, data_58) =>
  if icmpR .lss i_57 b_3 then
   (loopO (m_slices_insertionSortCmpFunc_api_SealStrike_L2 N a_2 cmp_4) N (i_57, data_58)).bind fun q => match q with
   | data_145 =>
    some (.inl (iopR .add .i64 i_57 1, data_145))
  else
   some (.inr data_58)
def m_slices_insertionSortCmpFunc_api_SealStrike (N : Nat) (data_1 : (List api_SealStrike)) (a_2 : Int) (b_3 : Int) (cmp_4 : api_SealStrike -> api_SealStrike -> Option Int) : Option ((List api_SealStrike)) :=
 letO (iopR .add .i64 a_2 1 : Int) fun i_5 =>
 (loopO (m_slices_insertionSortCmpFunc_api_SealStrike_L1 N b_3 a_2 cmp_4) N (iopR .add .i64 a_2 1, data_1)).bind fun q => match q with
 | l_110 =>
  some l_110
def m_slices_pdqsortCmpFunc_api_SealStrike_L1 (N : Nat) (p_3 : Int) (p_2 : Int) (p_1 : (List api_SealStrike)) (p_5 : api_SealStrike -> api_SealStrike -> Option Int) : Unit -> Option ((Unit) ⊕ ((List api_SealStrike)))
 | () =>
  if icmpR .leq (iopR .sub .i64 p_3 p_2) 12 then
   (m_slices_insertionSortCmpFunc_api_SealStrike N p_1 p_2 p_3 p_5).bind fun r_8 =>
   some (.inr r_8)
  else
   none
def m_slices_pdqsortCmpFunc_api_SealStrike (N : Nat) (p_1 : (List api_SealStrike)) (p_2 : Int) (p_3 : Int) (p_4 : Int) (p_5 : api_SealStrike -> api_SealStrike -> Option Int) : Option ((List api_SealStrike)) :=
 (loopO (m_slices_pdqsortCmpFunc_api_SealStrike_L1 N p_3 p_2 p_1 p_5) N ()).bind fun q => match q with
 | l_7 =>
  some l_7
def m_slices_SortFunc_Lapi_SealStrike_api_SealStrike (N : Nat) (x_1 : (List api_SealStrike)) (cmp_2 : api_SealStrike -> api_SealStrike -> Option Int) : Option ((List api_SealStrike)) :=
 (m_math_bits_Len N (IntKind.wrap .u64 ((x_1.length : Nat) : Int))).bind fun r_3 =>
 (m_slices_pdqsortCmpFunc_api_SealStrike N x_1 0 ((x_1.length : Nat) : Int) r_3 cmp_2).bind fun r_4 =>
 some r_4
def m_slices_SortedFunc_api_SealStrike (N : Nat) (ys_1 : List (api_SealStrike)) (cmp_2 : api_SealStrike -> api_SealStrike -> Option Int) : Option ((List api_SealStrike)) :=
 (m_slices_Collect_api_SealStrike N ys_1).bind fun r_3 =>
 (m_slices_SortFunc_Lapi_SealStrike_api_SealStrike N r_3 cmp_2).bind fun r_4 =>
 some r_4
def m_slices_Values_Lapi_SealStrike_api_SealStrike_1_L1 (N : Nat) (v_2 : Int) (p_1 : (List api_SealStrike)) : Int -> Option (List (api_SealStrike) × ((Int) ⊕ (Unit)))
 | v_4 =>
  if icmpR .lss v_4 v_2 then
   (getO d_api_SealStrike p_1 v_4).bind fun x_6 =>
   yieldO x_6 (
    some ([], .inl (iopR .add .i64 v_4 1)))
  else
   some ([], .inr ())
def m_slices_Values_Lapi_SealStrike_api_SealStrike_1 (N : Nat) (p_1 : (List api_SealStrike)) : Option (List api_SealStrike × Unit) :=
 letO (((p_1.length : Nat) : Int) : Int) fun v_2 =>
 thenY (loopY (m_slices_Values_Lapi_SealStrike_api_SealStrike_1_L1 N v_2 p_1) N 0) fun q => match q with
 | () =>
  some ([], ())
def m_it_slices_Values_Lapi_SealStrike_api_SealStrike_1 (N : Nat) (p_1 : (List api_SealStrike)) : Option (List api_SealStrike) := (m_slices_Values_Lapi_SealStrike_api_SealStrike_1 N p_1).bind fun q => some q.1
def m_seal_before (N : Nat) (a_1 : api_SealStrike) (b_2 : api_SealStrike) : Option (Int) :=
 if icmpR .neq a_1.Day b_2.Day then
  some (iopR .sub .i64 a_1.Day b_2.Day)
 else
  some (iopR .sub .i64 a_1.Number b_2.Number)
def m_seal_own_L2 (N : Nat) (v_78 : Int) (v_77 : (List api_SealStrike)) (x_75 : api_SealStrike) (v_40 : Int) : (Int × (List Int)) -> Option ((Int × (List Int)) ⊕ ((List Int)))
 | (v_87, longest_88) =>
  if icmpR .lss v_87 v_78 then
   (getO d_api_SealStrike v_77 v_87).bind fun x_98 =>
   (show Option ((List Int)) from
    if icmpR .lss x_98.Number x_75.Number then
     if 0 <= v_40 /\ v_40 < ((longest_88.length : Nat) : Int) then
      (getO 0 longest_88 v_40).bind fun x_103 =>
      if 0 <= v_87 /\ v_87 < ((longest_88.length : Nat) : Int) then
       (getO 0 longest_88 v_87).bind fun x_104 =>
       if 0 <= v_40 /\ v_40 < ((longest_88.length : Nat) : Int) then
        if 0 <= v_40 /\ v_40 < ((longest_88.length : Nat) : Int) then
         letO (longest_88.set v_40.toNat (max x_103 (iopR .add .i64 x_104 1))) fun l_105 =>
         some l_105
        else none
       else none
      else none
     else none
    else
     some longest_88).bind fun q => match q with
   | longest_102 =>
    some (.inl (iopR .add .i64 v_87 1, longest_102))
  else
   some (.inr longest_88)
def m_seal_own_L1 (N : Nat) (v_5 : Int) (r_4 : (List api_SealStrike)) : (Int × Int × (List Int)) -> Option ((Int × Int × (List Int)) ⊕ (Int))
 | (most_39, v_40, longest_41) =>
  if icmpR .lss v_40 v_5 then
   (getO d_api_SealStrike r_4 v_40).bind fun x_75 =>
   if 0 <= v_40 /\ v_40 < ((longest_41.length : Nat) : Int) then
    if 0 <= v_40 /\ v_40 < ((longest_41.length : Nat) : Int) then
     letO (longest_41.set v_40.toNat 1) fun l_76 =>
     if (0 : Int) <= 0 then
      if (0 : Int) <= v_40 then
       if v_40 <= ((r_4.length : Nat) : Int) then
        letO ((r_4.take v_40.toNat).drop 0 : (List api_SealStrike)) fun v_77 =>
        letO (((((r_4.take v_40.toNat).drop 0).length : Nat) : Int) : Int) fun v_78 =>
        (loopO (m_seal_own_L2 N v_78 v_77 x_75 v_40) N (0, l_76)).bind fun q => match q with
        | longest_97 =>
         if 0 <= v_40 /\ v_40 < ((longest_97.length : Nat) : Int) then
          (getO 0 longest_97 v_40).bind fun x_106 =>
          some (.inl (max most_39 x_106, iopR .add .i64 v_40 1, longest_97))
         else none
       else none
      else none
     else none
    else none
   else none
  else
   some (.inr most_39)
def m_seal_own (N : Nat) (l_1 : (List api_SealStrike)) : Option (Int) :=
 (m_slices_Values_Lapi_SealStrike_api_SealStrike N l_1).bind fun r_2 =>
 (m_it_slices_Values_Lapi_SealStrike_api_SealStrike_1 N r_2).bind fun ys_3 =>
 (m_slices_SortedFunc_api_SealStrike N ys_3 (fun x0 x1 => m_seal_before N x0 x1)).bind fun r_4 =>
 if mkOk ((r_4.length : Nat) : Int) 8 then
  letO (((r_4.length : Nat) : Int) : Int) fun v_5 =>
  letO (List.replicate ((r_4.length : Nat) : Int).toNat 0 : (List Int)) fun l_6 =>
  (loopO (m_seal_own_L1 N v_5 r_4) N (0, 0, List.replicate ((r_4.length : Nat) : Int).toNat 0)).bind fun q => match q with
  | most_74 =>
   some most_74
 else none
def m_seal_Forged_L1 (N : Nat) (v_3 : Int) (l_1 : (List api_SealStrike)) : (Int × (List (Int × api_SealStrike))) -> Option ((Int × (List (Int × api_SealStrike))) ⊕ ((List (Int × api_SealStrike))))
 | (v_6, l_7) =>
  if icmpR .lss v_6 v_3 then
   (getO d_api_SealStrike l_1 v_6).bind fun x_11 =>
   letO (mset l_7 v_6 x_11) fun l_12 =>
   some (.inl (iopR .add .i64 v_6 1, l_12))
  else
   some (.inr l_7)
def m_seal_Forged_L2 (N : Nat) (v_14 : Int) (l_1 : (List api_SealStrike)) (r_13 : Int) : (Int × (List (Int × api_SealStrike)) × (List Int)) -> Option ((Int × (List (Int × api_SealStrike)) × (List Int)) ⊕ ((List Int)))
 | (v_20, l_21, out_22) =>
  if icmpR .lss v_20 v_14 then
   (getO d_api_SealStrike l_1 v_20).bind fun x_29 =>
   if icmpR .eql ((l_21.length : Nat) : Int) r_13 then
    some (.inr out_22)
   else
    letO (mdel l_21 v_20) fun l_30 =>
    if fitsN l_30.length 16 then
     permO (l_30.map (·.2)) fun r_31 =>
     (m_seal_own N r_31).bind fun r_32 =>
     if icmpR .eql r_32 r_13 then
      if fitsN (out_22.length + 1) 8 then
       some (.inl (iopR .add .i64 v_20 1, l_30, (out_22 ++ [v_20])))
      else none
     else
      letO (mset l_30 v_20 x_29) fun l_33 =>
      some (.inl (iopR .add .i64 v_20 1, l_33, out_22))
    else none
  else
   some (.inr out_22)
def m_seal_Forged (N : Nat) (l_1 : (List api_SealStrike)) : Option ((List Int) × Int) :=
 if icmpR .gtr ((l_1.length : Nat) : Int) 12 then
  some ([], 5)
 else
  (m_slices_ContainsFunc_Lapi_SealStrike_api_SealStrike N l_1 (fun x0 => m_seal_Forged_1 N x0)).bind fun r_2 =>
  if r_2 then
   some ([], 2)
  else
   letO (((l_1.length : Nat) : Int) : Int) fun v_3 =>
   (loopO (m_seal_Forged_L1 N v_3 l_1) N (0, [])).bind fun q => match q with
   | l_10 =>
    (m_seal_own N l_1).bind fun r_13 =>
    letO (((l_1.length : Nat) : Int) : Int) fun v_14 =>
    (loopO (m_seal_Forged_L2 N v_14 l_1 r_13) N (0, l_10, [])).bind fun q => match q with
    | out_28 =>
     some (out_28, 0)
def m_seal_isSize (N : Nat) (size_1 : Int) : Option (Bool) :=
 (m_seal_within N 0 2 [size_1]).bind fun r_2 =>
 some r_2
def m_slices_IndexFunc_Lapi_SealRow_api_SealRow_L1 (N : Nat) (v_3 : Int) (s_1 : (List api_SealRow)) (f_2 : api_SealRow -> Option Bool) : Int -> Option ((Int) ⊕ ((Int) ⊕ (Unit)))
 | v_6 =>
  if icmpR .lss v_6 v_3 then
   (getO d_api_SealRow s_1 v_6).bind fun x_10 =>
   (f_2 x_10).bind fun v_11 =>
   if v_11 then
    some (.inr (.inl v_6))
   else
    some (.inl (iopR .add .i64 v_6 1))
  else
   some (.inr (.inr ()))
def m_slices_IndexFunc_Lapi_SealRow_api_SealRow (N : Nat) (s_1 : (List api_SealRow)) (f_2 : api_SealRow -> Option Bool) : Option (Int) :=
 letO (((s_1.length : Nat) : Int) : Int) fun v_3 =>
 (loopO (m_slices_IndexFunc_Lapi_SealRow_api_SealRow_L1 N v_3 s_1 f_2) N 0).bind fun q => match q with
 | (.inl v_9) =>
  some v_9
 | (.inr ()) =>
  some (-1)
def m_slices_ContainsFunc_Lapi_SealRow_api_SealRow (N : Nat) (s_1 : (List api_SealRow)) (f_2 : api_SealRow -> Option Bool) : Option (Bool) :=
 (m_slices_IndexFunc_Lapi_SealRow_api_SealRow N s_1 f_2).bind fun r_3 =>
 some (icmpR .geq r_3 0)
def m_seal_newBook_1 (N : Nat) (r_1 : api_SealRow) (p_2 : api_SealStatute) : Option (Bool) :=
 (show Option (Bool) from
  (m_seal_within N 0 (iopR .sub .i64 ((p_2.Kinds.length : Nat) : Int) 1) [r_1.Kind]).bind fun r_6 =>
  if !r_6 then
   some true
  else
   (m_seal_within N 0 2000 [r_1.Reading]).bind fun r_7 =>
   some (!r_7)).bind fun q => match q with
 | v_5 =>
  some v_5
def m_seal_newBook (N : Nat) (s_1 : api_SealStatute) (rows_2 : (List api_SealRow)) (size_3 : Int) : Option (seal_book × Int) :=
 (m_seal_Check N s_1).bind fun r_4 =>
 if icmpR .neq r_4 0 then
  some ((seal_book.mk s_1 rows_2 size_3), r_4)
 else
  (m_seal_isSize N size_3).bind fun r_5 =>
  if !r_5 then
   some ((seal_book.mk s_1 rows_2 size_3), 7)
  else
   if icmpR .gtr ((rows_2.length : Nat) : Int) 10 then
    some ((seal_book.mk s_1 rows_2 size_3), 5)
   else
    (m_slices_ContainsFunc_Lapi_SealRow_api_SealRow N rows_2 (fun x0 => m_seal_newBook_1 N x0 s_1)).bind fun r_6 =>
    if r_6 then
     some ((seal_book.mk s_1 rows_2 size_3), 3)
    else
     some ((seal_book.mk s_1 rows_2 size_3), 0)
def m_seal_book_bad_L1 (N : Nat) (v_3 : Int) (b_1 : seal_book) (shift_2 : Int) : (Int × (List Int)) -> Option ((Int × (List Int)) ⊕ ((List Int)))
 | (v_10, l_11) =>
  if icmpR .lss v_10 v_3 then
   (getO d_api_SealRow b_1.rows v_10).bind fun x_19 =>
   (getO 0 b_1.SealStatute.Off b_1.size).bind fun x_20 =>
   (getO d_api_SealKind b_1.SealStatute.Kinds x_19.Kind).bind fun x_21 =>
   (getO d_api_Span x_21.Sizes b_1.size).bind fun x_22 =>
   (m_seal_meet N (api_Span.mk (iopR .sub .i64 (iopR .add .i64 x_19.Reading shift_2) x_20) (iopR .add .i64 (iopR .add .i64 x_19.Reading shift_2) x_20)) x_22).bind fun r_23 =>
   (show Option ((List Int)) from
    if !r_23 then
     if fitsN (l_11.length + 1) 8 then
      some (l_11 ++ [v_10])
     else none
    else
     some l_11).bind fun q => match q with
   | l_24 =>
    some (.inl (iopR .add .i64 v_10 1, l_24))
  else
   some (.inr l_11)
def m_seal_book_bad (N : Nat) (b_1 : seal_book) (shift_2 : Int) : Option ((List Int)) :=
 letO (((b_1.rows.length : Nat) : Int) : Int) fun v_3 =>
 (loopO (m_seal_book_bad_L1 N v_3 b_1 shift_2) N (0, [])).bind fun q => match q with
 | l_18 =>
  some l_18
def m_seal_book_shifts_L1 (N : Nat) (b_1 : seal_book) : Int -> Option (List ((Int × (List Int))) × ((Int) ⊕ (Unit)))
 | shift_3 =>
  if icmpR .leq shift_3 30 then
   (m_seal_book_bad N b_1 shift_3).bind fun r_5 =>
   yieldO (shift_3, r_5) (
    some ([], .inl (iopR .add .i64 shift_3 1)))
  else
   some ([], .inr ())
def m_seal_book_shifts (N : Nat) (b_1 : seal_book) : Option (List (Int × (List Int)) × Unit) :=
 thenY (loopY (m_seal_book_shifts_L1 N b_1) N (-30)) fun q => match q with
 | () =>
  some ([], ())
def m_it_seal_book_shifts (N : Nat) (b_1 : seal_book) : Option (List (Int × (List Int))) := (m_seal_book_shifts N b_1).bind fun q => some q.1
def m_seal_Cord_L1 (N : Nat) : (Int × (List Int)) -> (List api_Span) -> Option (((List api_Span)) ⊕ (Empty))
 | y_6, l_14 =>
  if icmpR .gtr ((y_6.2.length : Nat) : Int) 0 then
   some (.inl l_14)
  else
   letO (iopR .sub .i64 ((l_14.length : Nat) : Int) 1 : Int) fun k_22 =>
   (show Option (Bool) from
    if icmpR .geq (iopR .sub .i64 ((l_14.length : Nat) : Int) 1) 0 then
     if 0 <= iopR .sub .i64 ((l_14.length : Nat) : Int) 1 /\ iopR .sub .i64 ((l_14.length : Nat) : Int) 1 < ((l_14.length : Nat) : Int) then
      (getO d_api_Span l_14 (iopR .sub .i64 ((l_14.length : Nat) : Int) 1)).bind fun x_23 =>
      some (icmpR .eql x_23.High (iopR .sub .i64 y_6.1 1))
     else none
    else
     some false).bind fun q => match q with
   | v_21 =>
    if v_21 then
     if 0 <= k_22 /\ k_22 < ((l_14.length : Nat) : Int) then
      if 0 <= k_22 /\ k_22 < ((l_14.length : Nat) : Int) then
       letO (l_14.set k_22.toNat (api_Span.mk ((l_14.getD k_22.toNat d_api_Span).Low) y_6.1)) fun l_24 =>
       some (.inl l_24)
      else none
     else none
    else
     if fitsN (l_14.length + 1) 16 then
      some (.inl (l_14 ++ [(api_Span.mk y_6.1 y_6.1)]))
     else none
def m_seal_Cord (N : Nat) (s_1 : api_SealStatute) (rows_2 : (List api_SealRow)) (size_3 : Int) : Option ((List api_Span) × Int) :=
 (m_seal_newBook N s_1 rows_2 size_3).bind fun r_4 =>
 if icmpR .neq r_4.2 0 then
  some ([], r_4.2)
 else
  (m_it_seal_book_shifts N r_4.1).bind fun ys_5 =>
  (rangeO (m_seal_Cord_L1 N) ys_5 []).bind fun q => match q with
  | .inl l_14 =>
   some (l_14, 0)
def m_cmp_isNaN_int (N : Nat) (x_1 : Int) : Option (Bool) :=
 some (icmpR .neq x_1 x_1)
def m_cmp_Compare_int (N : Nat) (x_1 : Int) (y_2 : Int) : Option (Int) :=
 (m_cmp_isNaN_int N x_1).bind fun r_3 =>
 (m_cmp_isNaN_int N y_2).bind fun r_4 =>
 if r_3 then
  if r_4 then
   some 0
  else
   some (-1)
 else
  if r_4 then
   some 1
  else
   if icmpR .lss x_1 y_2 then
    some (-1)
   else
    if icmpR .gtr x_1 y_2 then
     some 1
    else
     some 0
def m_slices_Compare_Lint_int_L1 (N : Nat) (v_3 : Int) (s1_1 : (List Int)) (s2_2 : (List Int)) : Int -> Option ((Int) ⊕ ((Int) ⊕ (Unit)))
 | v_7 =>
  if icmpR .lss v_7 v_3 then
   (getO 0 s1_1 v_7).bind fun x_12 =>
   if icmpR .geq v_7 ((s2_2.length : Nat) : Int) then
    some (.inr (.inl 1))
   else
    (getO 0 s2_2 v_7).bind fun x_13 =>
    (m_cmp_Compare_int N x_12 x_13).bind fun r_14 =>
    if icmpR .neq r_14 0 then
     some (.inr (.inl r_14))
    else
     some (.inl (iopR .add .i64 v_7 1))
  else
   some (.inr (.inr ()))
def m_slices_Compare_Lint_int (N : Nat) (s1_1 : (List Int)) (s2_2 : (List Int)) : Option (Int) :=
 letO (((s1_1.length : Nat) : Int) : Int) fun v_3 =>
 (loopO (m_slices_Compare_Lint_int_L1 N v_3 s1_1 s2_2) N 0).bind fun q => match q with
 | (.inl v_11) =>
  some v_11
 | (.inr ()) =>
  if icmpR .lss ((s1_1.length : Nat) : Int) ((s2_2.length : Nat) : Int) then
   some (-1)
  else
   some 0
def m_seal_Wrong_L1 (N : Nat) : (Int × (List Int)) -> (Bool × Int × (List Int)) -> Option ((Bool × Int × (List Int)) ⊕ (Empty))
 | y_6, (found_7, shift_8, wrong_9) =>
  (show Option (Bool) from
   if found_7 then
    if icmpR .gtr ((y_6.2.length : Nat) : Int) ((wrong_9.length : Nat) : Int) then
     some true
    else
     if icmpR .eql ((y_6.2.length : Nat) : Int) ((wrong_9.length : Nat) : Int) then
      (m_slices_Compare_Lint_int N y_6.2 wrong_9).bind fun r_15 =>
      some (icmpR .geq r_15 0)
     else
      some false
   else
    some false).bind fun q => match q with
  | v_14 =>
   if v_14 then
    some (.inl (found_7, shift_8, wrong_9))
   else
    some (.inl (true, y_6.1, y_6.2))
def m_seal_Wrong (N : Nat) (s_1 : api_SealStatute) (rows_2 : (List api_SealRow)) (size_3 : Int) : Option ((List Int) × Int × Int) :=
 (m_seal_newBook N s_1 rows_2 size_3).bind fun r_4 =>
 if icmpR .neq r_4.2 0 then
  some ([], 0, r_4.2)
 else
  (m_it_seal_book_shifts N r_4.1).bind fun ys_5 =>
  (rangeO (m_seal_Wrong_L1 N) ys_5 (false, 0, [])).bind fun q => match q with
  | .inl (found_7, shift_8, wrong_9) =>
   if icmpR .eql ((wrong_9.length : Nat) : Int) 0 then
    some ([], 0, 6)
   else
    (show Option (Unit) from
     some ()).bind fun q => match q with
    | () =>
     some (wrong_9, shift_8, 0)
def m_ref07_Ints_L1 (N : Nat) (a_1 : (List Int)) (b_2 : (List Int)) : Int -> Option ((Int) ⊕ ((Unit) ⊕ (Unit)))
 | i_5 =>
  if icmpR .lss i_5 ((a_1.length : Nat) : Int) then
   (getO 0 a_1 i_5).bind fun x_8 =>
   (getO 0 b_2 i_5).bind fun x_9 =>
   if icmpR .neq x_8 x_9 then
    some (.inr (.inl ()))
   else
    some (.inl (iopR .add .i64 i_5 1))
  else
   some (.inr (.inr ()))
def m_ref07_Ints (N : Nat) (a_1 : (List Int)) (b_2 : (List Int)) : Option (Bool) :=
 if icmpR .neq ((a_1.length : Nat) : Int) ((b_2.length : Nat) : Int) then
  some false
 else
  (loopO (m_ref07_Ints_L1 N a_1 b_2) N 0).bind fun q => match q with
  | (.inl ()) =>
   some false
  | (.inr ()) =>
   some true
def m_ref07_Spans_L1 (N : Nat) (a_1 : (List api_Span)) (b_2 : (List api_Span)) : Int -> Option ((Int) ⊕ ((Unit) ⊕ (Unit)))
 | i_5 =>
  if icmpR .lss i_5 ((a_1.length : Nat) : Int) then
   (getO d_api_Span a_1 i_5).bind fun x_8 =>
   (getO d_api_Span b_2 i_5).bind fun x_9 =>
   if !(eqI [(.i64, x_8.Low), (.i64, x_8.High)] [(.i64, x_9.Low), (.i64, x_9.High)]) then
    some (.inr (.inl ()))
   else
    some (.inl (iopR .add .i64 i_5 1))
  else
   some (.inr (.inr ()))
def m_ref07_Spans (N : Nat) (a_1 : (List api_Span)) (b_2 : (List api_Span)) : Option (Bool) :=
 if icmpR .neq ((a_1.length : Nat) : Int) ((b_2.length : Nat) : Int) then
  some false
 else
  (loopO (m_ref07_Spans_L1 N a_1 b_2) N 0).bind fun q => match q with
  | (.inl ()) =>
   some false
  | (.inr ()) =>
   some true
def m_law07_known (N : Nat)  : Option (Bool) :=
 (m_law07_statute N).bind fun r_1 =>
 (m_seal_Kinds N r_1 [438, 62, 140]).bind fun r_2 =>
 (m_law07_statute N).bind fun r_3 =>
 (m_seal_Fine N r_3 [890, 59, 341] 0).bind fun r_4 =>
 (m_law07_statute N).bind fun r_5 =>
 (m_seal_Best N r_5 [438, 62, 140]).bind fun r_6 =>
 (m_law07_statute N).bind fun r_7 =>
 (m_seal_Look N r_7 [438, 62, 140]).bind fun r_8 =>
 (m_law07_statute N).bind fun r_9 =>
 (m_seal_Alike N r_9).bind fun r_10 =>
 (m_law07_statute N).bind fun r_11 =>
 (m_seal_Torn N r_11 kstra).bind fun r_12 =>
 (m_seal_Forged N [(api_SealStrike.mk 1 5), (api_SealStrike.mk 2 9), (api_SealStrike.mk 3 7), (api_SealStrike.mk 4 8)]).bind fun r_13 =>
 (m_law07_statute N).bind fun r_14 =>
 (m_seal_Cord N r_14 [(api_SealRow.mk 1 385), (api_SealRow.mk 1 420)] 0).bind fun r_15 =>
 (m_law07_statute N).bind fun r_16 =>
 if (1 : Int) <= ((1 : Nat) : Int) then
  if fitsN (3) 16 then
   (m_seal_Wrong N r_16 [(api_SealRow.mk 1 385), (api_SealRow.mk 1 420), (api_SealRow.mk 1 300)] 0).bind fun r_17 =>
   (show Option (Bool) from
    if icmpR .neq r_2.2.2 0 then
     some true
    else
     if icmpR .neq r_4.2 0 then
      some true
     else
      if icmpR .neq r_6.2.2 0 then
       some true
      else
       if icmpR .neq r_8.2.2 6 then
        some true
       else
        if icmpR .neq r_10.2 0 then
         some true
        else
         if icmpR .neq r_12.2 0 then
          some true
         else
          if icmpR .neq r_13.2 0 then
           some true
          else
           if icmpR .neq r_15.2 0 then
            some true
           else
            some (icmpR .neq r_17.2.2 0)).bind fun q => match q with
   | v_18 =>
    if v_18 then
     some false
    else
     (show Option (Bool) from
      if icmpR .eql ((r_2.1.length : Nat) : Int) 0 then
       (m_ref07_Ints N r_2.2.1 [1]).bind fun r_27 =>
       if r_27 then
        (m_law07_span N 28 60).bind fun r_28 =>
        if eqI [(.i64, r_4.1.Low), (.i64, r_4.1.High)] [(.i64, r_28.Low), (.i64, r_28.High)] then
         if icmpR .eql r_6.1 1 then
          if icmpR .eql r_6.2.1 4 then
           if icmpR .eql ((r_10.1.length : Nat) : Int) 0 then
            (m_ref07_Ints N r_12.1 [1]).bind fun r_29 =>
            if r_29 then
             (m_ref07_Ints N r_13.1 [1]).bind fun r_30 =>
             if r_30 then
              (m_law07_span N 12 23).bind fun r_31 =>
              (m_ref07_Spans N r_15.1 [r_31]).bind fun r_32 =>
              if r_32 then
               (m_ref07_Ints N r_17.1 [2]).bind fun r_33 =>
               if r_33 then
                some (icmpR .eql r_17.2.1 12)
               else
                some false
              else
               some false
             else
              some false
            else
             some false
           else
            some false
          else
           some false
         else
          some false
        else
         some false
       else
        some false
      else
       some false).bind fun q => match q with
     | v_26 =>
      some v_26
  else none
 else none
def m_ref07_Copy_L1 (N : Nat) (s_1 : api_SealStatute) : (Int × (List api_SealKind)) -> Option ((Int × (List api_SealKind)) ⊕ ((List api_SealKind)))
 | (i_4, l_5) =>
  if icmpR .lss i_4 ((s_1.Kinds.length : Nat) : Int) then
   (getO d_api_SealKind s_1.Kinds i_4).bind fun x_9 =>
   if fitsN (x_9.Sizes.length) 16 then
    (getO d_api_SealKind s_1.Kinds i_4).bind fun x_10 =>
    if fitsN (l_5.length + 1) 40 then
     some (.inl (iopR .add .i64 i_4 1, (l_5 ++ [(api_SealKind.mk x_9.Sizes x_10.Mark)])))
    else none
   else none
  else
   some (.inr l_5)
def m_ref07_Copy (N : Nat) (s_1 : api_SealStatute) : Option (api_SealStatute) :=
 if fitsN (s_1.Off.length) 8 then
  (loopO (m_ref07_Copy_L1 N s_1) N (0, [])).bind fun q => match q with
  | l_8 =>
   some (api_SealStatute.mk l_8 s_1.Grace s_1.Fine s_1.Off)
 else none
def m_law07_own (N : Nat) (l_1 : (List Int)) : Option ((List Int)) :=
 if fitsN (l_1.length) 8 then
  some l_1
 else none
def m_ref07_Same_L1 (N : Nat) (p_1 : api_SealStatute) (p_2 : api_SealStatute) : Int -> Option ((Int) ⊕ ((Unit) ⊕ (Unit)))
 | v_17 =>
  if icmpR .lss v_17 ((p_1.Kinds.length : Nat) : Int) then
   (show Option (Bool) from
    (getO d_api_SealKind p_1.Kinds v_17).bind fun x_35 =>
    (getO d_api_SealKind p_2.Kinds v_17).bind fun x_36 =>
    if !(x_35.Mark.toList == x_36.Mark.toList) then
     some true
    else
     (getO d_api_SealKind p_1.Kinds v_17).bind fun x_37 =>
     (getO d_api_SealKind p_2.Kinds v_17).bind fun x_38 =>
     (m_ref07_Spans N x_37.Sizes x_38.Sizes).bind fun r_39 =>
     some (!r_39)).bind fun q => match q with
   | v_34 =>
    if v_34 then
     some (.inr (.inl ()))
    else
     some (.inl (iopR .add .i64 v_17 1))
  else
   some (.inr (.inr ()))
def m_ref07_Same (N : Nat) (p_1 : api_SealStatute) (p_2 : api_SealStatute) : Option (Bool) :=
 (show Option (Bool) from
  if icmpR .neq ((p_1.Kinds.length : Nat) : Int) ((p_2.Kinds.length : Nat) : Int) then
   some true
  else
   if icmpR .neq p_1.Grace p_2.Grace then
    some true
   else
    if icmpR .neq p_1.Fine p_2.Fine then
     some true
    else
     (m_ref07_Ints N p_1.Off p_2.Off).bind fun r_5 =>
     some (!r_5)).bind fun q => match q with
 | v_4 =>
  if v_4 then
   some false
  else
   (loopO (m_ref07_Same_L1 N p_1 p_2) N 0).bind fun q => match q with
   | (.inl ()) =>
    some false
   | (.inr ()) =>
    some true
def m_ref07_In (N : Nat) (n_1 : Int) (least_2 : Int) (most_3 : Int) : Option (Bool) :=
 (show Option (Bool) from
  if icmpR .geq n_1 least_2 then
   some (icmpR .leq n_1 most_3)
  else
   some false).bind fun q => match q with
 | v_4 =>
  some v_4
def m_ref07_Span (N : Nat) (s_1 : api_Span) (least_2 : Int) (most_3 : Int) : Option (Bool) :=
 (show Option (Bool) from
  (m_ref07_In N s_1.Low least_2 s_1.High).bind fun r_6 =>
  if r_6 then
   some (icmpR .leq s_1.High most_3)
  else
   some false).bind fun q => match q with
 | v_5 =>
  some v_5
def m_ref07_Letters_L1 (N : Nat) (s_1 : ByteArray) (torn_2 : Bool) : Int -> Option ((Int) ⊕ ((Unit) ⊕ (Unit)))
 | i_4 =>
  if icmpR .lss i_4 (s_1.size : Int) then
   (show Option (Bool) from
    if (0 : Int) <= i_4 /\ i_4 < (s_1.size : Int) then
     if icmpR .lss (strAt s_1 i_4) 97 then
      if !torn_2 then
       some true
      else
       if (0 : Int) <= i_4 /\ i_4 < (s_1.size : Int) then
        some (icmpR .neq (strAt s_1 i_4) 63)
       else none
     else
      if (0 : Int) <= i_4 /\ i_4 < (s_1.size : Int) then
       if icmpR .gtr (strAt s_1 i_4) 122 then
        if !torn_2 then
         some true
        else
         if (0 : Int) <= i_4 /\ i_4 < (s_1.size : Int) then
          some (icmpR .neq (strAt s_1 i_4) 63)
         else none
       else
        some false
      else none
    else none).bind fun q => match q with
   | v_6 =>
    if v_6 then
     some (.inr (.inl ()))
    else
     some (.inl (iopR .add .i64 i_4 1))
  else
   some (.inr (.inr ()))
def m_ref07_Letters (N : Nat) (s_1 : ByteArray) (torn_2 : Bool) : Option (Bool) :=
 (loopO (m_ref07_Letters_L1 N s_1 torn_2) N 0).bind fun q => match q with
 | (.inl ()) =>
  some false
 | (.inr ()) =>
  (m_ref07_In N (s_1.size : Int) 1 8).bind fun r_7 =>
  some r_7
def m_ref07_Kind (N : Nat) (k_1 : api_SealKind) : Option (Bool) :=
 (show Option (Bool) from
  if icmpR .eql ((k_1.Sizes.length : Nat) : Int) 3 then
   (getO d_api_Span k_1.Sizes 0).bind fun x_10 =>
   (m_ref07_Span N x_10 0 2000).bind fun r_11 =>
   if r_11 then
    (getO d_api_Span k_1.Sizes 1).bind fun x_12 =>
    (m_ref07_Span N x_12 0 2000).bind fun r_13 =>
    if r_13 then
     (getO d_api_Span k_1.Sizes 2).bind fun x_14 =>
     (m_ref07_Span N x_14 0 2000).bind fun r_15 =>
     if r_15 then
      (m_ref07_Letters N k_1.Mark false).bind fun r_16 =>
      some r_16
     else
      some false
    else
     some false
   else
    some false
  else
   some false).bind fun q => match q with
 | v_9 =>
  some v_9
def m_ref07_Check_L1 (N : Nat) (s_1 : api_SealStatute) : (Bool × Int) -> Option ((Bool × Int) ⊕ (Bool))
 | (ok_39, i_40) =>
  if icmpR .lss i_40 ((s_1.Kinds.length : Nat) : Int) then
   (show Option (Bool) from
    if ok_39 then
     (getO d_api_SealKind s_1.Kinds i_40).bind fun x_50 =>
     (m_ref07_Kind N x_50).bind fun r_51 =>
     some r_51
    else
     some false).bind fun q => match q with
   | ok_49 =>
    some (.inl (ok_49, iopR .add .i64 i_40 1))
  else
   some (.inr ok_39)
def m_ref07_Check (N : Nat) (s_1 : api_SealStatute) : Option (Int) :=
 (show Option (Bool) from
  (m_ref07_In N ((s_1.Kinds.length : Nat) : Int) 1 6).bind fun r_4 =>
  if !r_4 then
   some true
  else
   some (icmpR .neq ((s_1.Off.length : Nat) : Int) 3)).bind fun q => match q with
 | v_3 =>
  if v_3 then
   some 4
  else
   (show Option (Bool) from
    (m_ref07_In N s_1.Grace 0 50).bind fun r_8 =>
    if r_8 then
     (m_ref07_In N s_1.Fine 0 100).bind fun r_9 =>
     some r_9
    else
     some false).bind fun q => match q with
   | ok_7 =>
    (show Option (Bool) from
     if ok_7 then
      (getO 0 s_1.Off 0).bind fun x_22 =>
      (m_ref07_In N x_22 0 20).bind fun r_23 =>
      some r_23
     else
      some false).bind fun q => match q with
    | ok_21 =>
     (show Option (Bool) from
      if ok_21 then
       (getO 0 s_1.Off 1).bind fun x_27 =>
       (m_ref07_In N x_27 0 20).bind fun r_28 =>
       some r_28
      else
       some false).bind fun q => match q with
     | ok_26 =>
      (show Option (Bool) from
       if ok_26 then
        (getO 0 s_1.Off 2).bind fun x_32 =>
        (m_ref07_In N x_32 0 20).bind fun r_33 =>
        some r_33
       else
        some false).bind fun q => match q with
      | ok_31 =>
       (loopO (m_ref07_Check_L1 N s_1) N (ok_31, 0)).bind fun q => match q with
       | ok_46 =>
        if !ok_46 then
         some 2
        else
         some 0
def m_ref07_Read (N : Nat) (s_1 : api_SealStatute) (read_2 : (List Int)) : Option (Int) :=
 (m_ref07_Check N s_1).bind fun r_3 =>
 if icmpR .neq r_3 0 then
  some r_3
 else
  (show Option (Bool) from
   if icmpR .neq ((read_2.length : Nat) : Int) 3 then
    some true
   else
    (getO 0 read_2 0).bind fun x_11 =>
    (m_ref07_In N x_11 0 2000).bind fun r_12 =>
    if !r_12 then
     some true
    else
     (getO 0 read_2 1).bind fun x_13 =>
     (m_ref07_In N x_13 0 2000).bind fun r_14 =>
     if !r_14 then
      some true
     else
      (getO 0 read_2 2).bind fun x_15 =>
      (m_ref07_In N x_15 0 2000).bind fun r_16 =>
      some (!r_16)).bind fun q => match q with
  | v_10 =>
   if v_10 then
    some 3
   else
    some 0
def m_ref07_Truths_L1 (N : Nat) (read_2 : (List Int)) (size_3 : Int) (s_1 : api_SealStatute) : (Int × (List Int)) -> Option ((Int × (List Int)) ⊕ ((List Int)))
 | (n_9, l_10) =>
  (getO 0 read_2 size_3).bind fun x_14 =>
  (getO 0 s_1.Off size_3).bind fun x_15 =>
  if icmpR .leq n_9 (iopR .add .i64 x_14 x_15) then
   if fitsN (l_10.length + 1) 8 then
    some (.inl (iopR .add .i64 n_9 1, (l_10 ++ [n_9])))
   else none
  else
   some (.inr l_10)
def m_ref07_Truths (N : Nat) (s_1 : api_SealStatute) (read_2 : (List Int)) (size_3 : Int) : Option ((List Int)) :=
 (getO 0 read_2 size_3).bind fun x_4 =>
 (getO 0 s_1.Off size_3).bind fun x_5 =>
 letO (max 0 (iopR .sub .i64 x_4 x_5) : Int) fun n_6 =>
 (loopO (m_ref07_Truths_L1 N read_2 size_3 s_1) N (max 0 (iopR .sub .i64 x_4 x_5), [])).bind fun q => match q with
 | l_13 =>
  some l_13
def m_ref07_Beyond (N : Nat) (n_1 : Int) (s_2 : api_Span) : Option (Int) :=
 some (max (max 0 (iopR .sub .i64 s_2.Low n_1)) (iopR .sub .i64 n_1 s_2.High))
def m_ref07_Is_L1 (N : Nat) (r_5 : (List Int)) (s_1 : api_SealStatute) (kind_3 : Int) (size_4 : Int) : (Bool × Bool × Int) -> Option ((Bool × Bool × Int) ⊕ (Bool × Bool))
 | (every_11, some_12, i_13) =>
  if icmpR .lss i_13 ((r_5.length : Nat) : Int) then
   (getO 0 r_5 i_13).bind fun x_22 =>
   (getO d_api_SealKind s_1.Kinds kind_3).bind fun x_23 =>
   (getO d_api_Span x_23.Sizes size_4).bind fun x_24 =>
   (m_ref07_Beyond N x_22 x_24).bind fun r_25 =>
   (show Option (Bool × Bool) from
    if every_11 then
     if some_12 then
      some (true, icmpR .eql r_25 0)
     else
      some (icmpR .eql r_25 0, icmpR .eql r_25 0)
    else
     if some_12 then
      some (true, false)
     else
      some (icmpR .eql r_25 0, false)).bind fun q => match q with
   | (some_26, every_27) =>
    some (.inl (every_27, some_26, iopR .add .i64 i_13 1))
  else
   some (.inr (every_11, some_12))
def m_ref07_Is (N : Nat) (s_1 : api_SealStatute) (read_2 : (List Int)) (kind_3 : Int) (size_4 : Int) : Option (Bool × Bool) :=
 (m_ref07_Truths N s_1 read_2 size_4).bind fun r_5 =>
 (loopO (m_ref07_Is_L1 N r_5 s_1 kind_3 size_4) N (true, false, 0)).bind fun q => match q with
 | (every_20, some_21) =>
  some (every_20, some_21)
def m_ref07_Kinds_L1 (N : Nat) (s_1 : api_SealStatute) (read_2 : (List Int)) : (Int × (List Int) × (List Int)) -> Option ((Int × (List Int) × (List Int)) ⊕ ((List Int) × (List Int)))
 | (k_16, possibly_17, surely_18) =>
  if icmpR .lss k_16 ((s_1.Kinds.length : Nat) : Int) then
   (m_ref07_Is N s_1 read_2 k_16 0).bind fun r_34 =>
   (show Option (Unit) from
    some ()).bind fun q => match q with
   | () =>
    (m_ref07_Is N s_1 read_2 k_16 1).bind fun r_39 =>
    (show Option (Bool × Bool) from
     if r_34.1 then
      if r_34.2 then
       some (r_39.2, r_39.1)
      else
       some (false, r_39.1)
     else
      if r_34.2 then
       some (r_39.2, false)
      else
       some (false, false)).bind fun q => match q with
    | (some_40, every_41) =>
     (m_ref07_Is N s_1 read_2 k_16 2).bind fun r_42 =>
     (show Option (Bool × Bool) from
      if every_41 then
       if some_40 then
        some (r_42.2, r_42.1)
       else
        some (false, r_42.1)
      else
       if some_40 then
        some (r_42.2, false)
       else
        some (false, false)).bind fun q => match q with
     | (some_43, every_44) =>
      (show Option ((List Int)) from
       if every_44 then
        if fitsN (surely_18.length + 1) 8 then
         some (surely_18 ++ [k_16])
        else none
       else
        some surely_18).bind fun q => match q with
      | surely_45 =>
       (show Option ((List Int)) from
        if some_43 then
         if fitsN (possibly_17.length + 1) 8 then
          some (possibly_17 ++ [k_16])
         else none
        else
         some possibly_17).bind fun q => match q with
       | possibly_46 =>
        some (.inl (iopR .add .i64 k_16 1, possibly_46, surely_45))
  else
   some (.inr (possibly_17, surely_18))
def m_ref07_Kinds (N : Nat) (s_1 : api_SealStatute) (read_2 : (List Int)) : Option ((List Int) × (List Int)) :=
 (loopO (m_ref07_Kinds_L1 N s_1 read_2) N (0, [], [])).bind fun q => match q with
 | (possibly_32, surely_33) =>
  some (surely_33, possibly_32)
theorem menc_int_api_SealStrike : MapEnc (.int .i64) me_int_api_SealStrike (fun x => .int .i64 x) (fun x => .agg [.int .i64 x.Day, .int .i64 x.Number]) := ⟨⟨(.sc _), rfl, fun _ => by simp [isKeyD, isKeyD0, kindsD, KV.toD, KV.toDL]⟩, fun _ => rfl, fun _ => rfl, fun _ _ => rfl, fun _ => rfl⟩
end
end Go.Proofs.Ytfilnnbfppokmaa.Aw
namespace Go.Proofs.Ytfilnnbfppokmaa.Aw
open Go Go.RowKit Go.Proofs
def idxStep {α : Type} (d : α) (n : Int) (s : List α) (f : α -> Option Bool) : Int -> Option (Int ⊕ (Int ⊕ Unit)) := fun i =>
 if icmpR .lss i n then
  (getO d s i).bind fun x => (f x).bind fun v => if v then some (.inr (.inl i)) else some (.inl (iopR .add .i64 i 1))
 else some (.inr (.inr ()))
theorem idx_any {α : Type} {d : α} {s : List α} {f : α -> Option Bool} {g : α -> Bool} (N : Nat) (hN : 2000000 <= N) (hl : s.length <= 1000000) (hf : ∀ x ∈ s, f x = some (g x)) :
  ∃ q, loopO (idxStep d ((s.length : Nat) : Int) s f) N 0 = some q /\ (match q with | .inl i => s.any g = true /\ 0 <= i | .inr _ => s.any g = false) := by
 refine loopO_of (fun i : Int => 0 <= i /\ i <= s.length /\ s.any g = (s.drop i.toNat).any g) (fun i => (s.length - i).toNat) _ (fun i hi => ?_) N 0 ⟨by omega, by omega, by simp⟩ (by omega)
 obtain ⟨i0, i1, i2⟩ := hi
 by_cases hc : i < (s.length : Int)
 ·have hlt : i.toNat < s.length := by omega
  have hget : s.getD i.toNat d = s[i.toNat] := by simp [List.getD_eq_getElem?_getD, hlt]
  have hm : s.getD i.toNat d ∈ s := by rw [hget]; exact List.getElem_mem hlt
  rw [List.drop_eq_getElem_cons hlt, <- hget, List.any_cons] at i2
  simp only [idxStep, icmp_lss, decide_eq_true_eq, if_pos hc, getO_of (d := d) i0 hc, bindS, hf _ hm]
  cases hg : g (s.getD i.toNat d) with
  | true =>
   right
   rw [if_pos rfl]
   exact ⟨_, rfl, by rw [i2, hg]; rfl, i0⟩
  | false =>
   left
   rw [if_neg (by simp), addW (by omega)]
   refine ⟨i + 1, rfl, ⟨by omega, by omega, ?_⟩, by omega⟩
   rw [i2, hg, Bool.false_or, show (i + 1).toNat = i.toNat + 1 from by omega]
 ·right
  simp only [idxStep, icmp_lss, decide_eq_true_eq, if_neg hc]
  exact ⟨_, rfl, by rw [i2, List.drop_eq_nil_of_le (by omega)]; rfl⟩
def contF {α : Type} (d : α) (N : Nat) (s : List α) (f : α -> Option Bool) : Option Bool :=
 (letO (((s.length : Nat) : Int) : Int) fun n => (loopO (idxStep d n s f) N 0).bind fun q => match q with
  | .inl i => some i
  | .inr _ => some (-1)).bind fun r => some (icmpR .geq r 0)
theorem contF_eq {α : Type} {d : α} {s : List α} {f : α -> Option Bool} {g : α -> Bool} (N : Nat) (hN : 2000000 <= N) (hl : s.length <= 1000000) (hf : ∀ x ∈ s, f x = some (g x)) : contF d N s f = some (s.any g) := by
 unfold contF
 rw [letO_eq]
 obtain ⟨q, hq, hp⟩ := idx_any (d := d) N hN hl hf
 rw [hq, bindS]
 cases q with
 | inl i =>
  simp only at hp
  simp only [bindS, icmp_geq]
  rw [hp.1]; simp [hp.2]
 | inr u =>
  simp only at hp
  simp only [bindS, icmp_geq]
  rw [hp]; rfl
noncomputable def dec (p : Prop) : Bool := @decide p (Classical.propDecidable p)
theorem dec_iff {p : Prop} : dec p = true ↔ p := by unfold dec; exact @decide_eq_true_iff p (Classical.propDecidable p)
theorem dec_true {p : Prop} (h : p) : dec p = true := dec_iff.2 h
theorem dec_false {p : Prop} (h : ¬ p) : dec p = false := by
 cases hd : dec p with
 | true => exact absurd (dec_iff.1 hd) h
 | false => rfl
theorem dec_eq {p : Prop} {b : Bool} (h : b = true ↔ p) : b = dec p := by
 cases b with
 | true => exact (dec_true (h.1 rfl)).symm
 | false => exact (dec_false (fun hp => by have := h.2 hp; cases this)).symm
theorem getD_mem {α : Type} {l : List α} {d : α} {i : Nat} (h : i < l.length) : l.getD i d ∈ l := by
 rw [List.getD_eq_getElem?_getD, List.getElem?_eq_getElem h]; exact List.getElem_mem _
theorem mem_getD {α : Type} {l : List α} {d x : α} (h : x ∈ l) : ∃ i, i < l.length /\ l.getD i d = x := by
 obtain ⟨i, hi, e⟩ := List.getElem_of_mem h
 exact ⟨i, hi, by rw [List.getD_eq_getElem?_getD, List.getElem?_eq_getElem hi, e]; rfl⟩
theorem strAt_eq {s : ByteArray} {i : Nat} (h : i < s.size) : strAt s (i : Int) = ((s[i]'h).toNat : Int) := by
 unfold strAt
 simp [h]
theorem get!_eq {s : ByteArray} {i : Nat} (h : i < s.size) : s.get! i = s[i]'h := by
 show s.get! i = _
 simp [ByteArray.get!, getElem!_pos, h]
 rfl
theorem dec_ge {s : ByteArray} {i : Nat} (h : i < s.size) (ha : 128 <= (s[i]'h).toNat) : 128 <= (Utf8.decode s i).1 := by
 unfold Utf8.decode
 simp only [Nat.add_zero, get!_eq h]
 rw [if_neg (by omega)]
 have hr : 128 <= Utf8.runeError := by decide
 split
 ·split
  ·rename_i hc; simp only; omega
  ·exact hr
 ·split
  ·split
   ·rename_i hc; simp only [Bool.and_eq_true, decide_eq_true_eq] at hc; simp only; omega
   ·exact hr
  ·split
   ·split
    ·rename_i hc; simp only [Bool.and_eq_true, decide_eq_true_eq] at hc; simp only; omega
    ·exact hr
   ·exact hr
def Let (s : ByteArray) (i : Nat) : Prop := ∃ h : i < s.size, 97 <= (s[i]'h).toNat /\ (s[i]'h).toNat <= 122
def MarkOk (s : ByteArray) : Prop := (∀ i, i < s.size -> Let s i) /\ 1 <= s.size /\ s.size <= 8
theorem cf_int (N : Nat) (s : List Int) (f : Int -> Option Bool) : m_slices_ContainsFunc_Lint_int N s f = contF 0 N s f := rfl
theorem cf_span (N : Nat) (s : List api_Span) (f : api_Span -> Option Bool) : m_slices_ContainsFunc_Lapi_Span_api_Span N s f = contF d_api_Span N s f := rfl
theorem cf_kind (N : Nat) (s : List api_SealKind) (f : api_SealKind -> Option Bool) : m_slices_ContainsFunc_Lapi_SealKind_api_SealKind N s f = contF d_api_SealKind N s f := rfl
theorem within1 (N : Nat) (n a b : Int) : m_seal_within_1 N n a b = some (decide (n < a) || decide (n > b)) := by
 unfold m_seal_within_1
 simp only [icmp_lss, icmp_gtr, decide_eq_true_eq]
 by_cases h : n < a <;> simp [h]
theorem within_is (N : Nat) (hN : 2000000 <= N) {a b : Int} {l : List Int} (hl : l.length <= 1000000) : m_seal_within N a b l = some (dec (∀ n ∈ l, a <= n /\ n <= b)) := by
 unfold m_seal_within
 rw [cf_int, contF_eq N hN hl (fun x _ => within1 N x a b), bindS]
 congr 1
 refine dec_eq ?_
 rw [Bool.not_eq_true', List.any_eq_false]
 constructor
 ·intro h n hn
  have := h n hn
  simp at this
  omega
 ·intro h n hn
  have := h n hn
  simp
  omega
theorem within_one (N : Nat) (hN : 2000000 <= N) {a b n : Int} : m_seal_within N a b [n] = some (dec (a <= n /\ n <= b)) := by
 rw [within_is N hN (by simp)]
 congr 1
 exact dec_eq (by rw [dec_iff]; simp)
theorem mark_is (N : Nat) (hN : 2000000 <= N) {s : ByteArray} (hs : s.size <= 1000) : m_seal_isMark N s ⟨#[]⟩ = some (dec (MarkOk s)) := by
 obtain ⟨q, hq, hp⟩ := loopO_of (step := m_seal_isMark_L1 N s ⟨#[]⟩) (fun p => ∃ k : Nat, p = k /\ k <= s.size /\ ∀ i, i < k -> Let s i) (fun p => ((s.size : Int) - p).toNat) (fun q => match q with | .inl _ => ¬ ∀ i, i < s.size -> Let s i | .inr _ => ∀ i, i < s.size -> Let s i) (fun p hi => by
  obtain ⟨k, rfl, i1, i2⟩ := hi
  by_cases hc : k < s.size
  ·have hc' : (k : Int) < (s.size : Int) := by omega
   have he : (!((⟨#[]⟩ : ByteArray).toList == (⟨#[]⟩ : ByteArray).toList)) = false := by simp
   by_cases ha : (s[k]'hc).toNat < 128
   ·have e1 : strC s (k : Int) = ((s[k]'hc).toNat : Int) := by unfold strC; rw [Int.toNat_natCast, decode_ascii s k hc ha]
    have e2 : strN s (k : Int) = ((k + 1 : Nat) : Int) := by unfold strN; rw [Int.toNat_natCast, decode_ascii s k hc ha]; simp
    by_cases hl : 97 <= (s[k]'hc).toNat /\ (s[k]'hc).toNat <= 122
    ·left
     simp only [m_seal_isMark_L1, icmp_lss, icmp_geq, icmp_leq, decide_eq_true_eq, if_pos hc', letO_eq, e1, e2]
     rw [if_pos (by omega)]
     simp only [bindS]
     rw [if_pos (by simp; omega)]
     refine ⟨_, rfl, ⟨k + 1, rfl, hc, fun i hi => ?_⟩, by omega⟩
     by_cases h : i = k
     ·subst h; exact ⟨hc, hl⟩
     ·exact i2 i (by omega)
    ·right
     simp only [m_seal_isMark_L1, icmp_lss, icmp_geq, icmp_leq, decide_eq_true_eq, if_pos hc', letO_eq, e1, e2]
     have h2 : (if ((s[k]'hc).toNat : Int) >= 97 then some (decide (((s[k]'hc).toNat : Int) <= 122)) else some false) = some false := by
      split
      ·rw [decide_eq_false (by omega)]
      ·rfl
     rw [h2]
     simp only [bindS, he]
     refine ⟨_, rfl, fun h => hl ?_⟩
     obtain ⟨_, h3⟩ := h k hc
     exact h3
   ·right
    have e1 : 128 <= strC s (k : Int) := by
     have := dec_ge hc (by omega)
     unfold strC
     rw [Int.toNat_natCast]
     omega
    simp only [m_seal_isMark_L1, icmp_lss, icmp_geq, icmp_leq, decide_eq_true_eq, if_pos hc', letO_eq]
    have h2 : (if strC s (k : Int) >= 97 then some (decide (strC s (k : Int) <= 122)) else some false) = some false := by
     split
     ·rw [decide_eq_false (by omega)]
     ·rfl
    rw [h2]
    simp only [bindS, he]
    refine ⟨_, rfl, fun h => ?_⟩
    obtain ⟨_, h3⟩ := h k hc
    omega
  ·right
   have hc' : ¬ (k : Int) < (s.size : Int) := by omega
   simp only [m_seal_isMark_L1, icmp_lss, decide_eq_true_eq, if_neg hc']
   exact ⟨_, rfl, fun i hi => i2 i (by omega)⟩) N 0 ⟨0, rfl, Nat.zero_le _, fun i hi => by omega⟩ (by omega)
 unfold m_seal_isMark
 rw [hq, bindS]
 cases q with
 | inl u =>
  simp only at hp ⊢
  rw [dec_false (fun h => hp h.1)]
 | inr u =>
  simp only at hp ⊢
  rw [within_one N hN, bindS]
  congr 1
  exact dec_eq (by
   rw [dec_iff]
   unfold MarkOk
   constructor
   ·intro h; exact ⟨hp, by omega, by omega⟩
   ·intro h; omega)
theorem rIn_is (N : Nat) {n a b : Int} : m_ref07_In N n a b = some (dec (a <= n /\ n <= b)) := by
 unfold m_ref07_In
 simp only [icmp_geq, icmp_leq, decide_eq_true_eq]
 by_cases h : n >= a
 ·rw [if_pos h, bindS]
  congr 1
  exact dec_eq (by simp; omega)
 ·rw [if_neg h, bindS, dec_false (by omega)]
theorem letters_is (N : Nat) (hN : 2000000 <= N) {s : ByteArray} (hs : s.size <= 1000) : m_ref07_Letters N s false = some (dec (MarkOk s)) := by
 obtain ⟨q, hq, hp⟩ := loopO_of (step := m_ref07_Letters_L1 N s false) (fun p => ∃ k : Nat, p = k /\ k <= s.size /\ ∀ i, i < k -> Let s i) (fun p => ((s.size : Int) - p).toNat) (fun q => match q with | .inl _ => ¬ ∀ i, i < s.size -> Let s i | .inr _ => ∀ i, i < s.size -> Let s i) (fun p hi => by
  obtain ⟨k, rfl, i1, i2⟩ := hi
  by_cases hc : k < s.size
  ·have hc' : (k : Int) < (s.size : Int) := by omega
   have hb : (0 : Int) <= (k : Int) /\ (k : Int) < (s.size : Int) := ⟨by omega, hc'⟩
   simp only [m_ref07_Letters_L1, icmp_lss, icmp_gtr, decide_eq_true_eq, if_pos hc', if_pos hb, strAt_eq hc, Bool.not_false, if_true]
   by_cases h1 : ((s[k]'hc).toNat : Int) < 97
   ·right
    rw [if_pos h1, bindS, if_pos rfl]
    refine ⟨_, rfl, fun h => ?_⟩
    obtain ⟨_, h3⟩ := h k hc
    omega
   ·rw [if_neg h1]
    by_cases h2 : ((s[k]'hc).toNat : Int) > 122
    ·right
     rw [if_pos h2, bindS, if_pos rfl]
     refine ⟨_, rfl, fun h => ?_⟩
     obtain ⟨_, h3⟩ := h k hc
     omega
    ·left
     rw [if_neg h2, bindS, if_neg (by simp), addW (by omega)]
     refine ⟨_, rfl, ⟨k + 1, by omega, hc, fun i hi => ?_⟩, by omega⟩
     by_cases h : i = k
     ·subst h; exact ⟨hc, by omega, by omega⟩
     ·exact i2 i (by omega)
  ·right
   have hc' : ¬ (k : Int) < (s.size : Int) := by omega
   simp only [m_ref07_Letters_L1, icmp_lss, decide_eq_true_eq, if_neg hc']
   exact ⟨_, rfl, fun i hi => i2 i (by omega)⟩) N 0 ⟨0, rfl, Nat.zero_le _, fun i hi => by omega⟩ (by omega)
 unfold m_ref07_Letters
 rw [hq, bindS]
 cases q with
 | inl u =>
  simp only at hp ⊢
  rw [dec_false (fun h => hp h.1)]
 | inr u =>
  simp only at hp ⊢
  rw [rIn_is, bindS]
  congr 1
  exact dec_eq (by
   rw [dec_iff]
   unfold MarkOk
   constructor
   ·intro h; exact ⟨hp, by omega, by omega⟩
   ·intro h; omega)
def SpanOk (s : api_Span) : Prop := 0 <= s.Low /\ s.Low <= s.High /\ s.High <= 2000
def KindOk (k : api_SealKind) : Prop := k.Sizes.length = 3 /\ (∀ s ∈ k.Sizes, SpanOk s) /\ MarkOk k.Mark
theorem span_is (N : Nat) (hN : 2000000 <= N) {s : api_Span} : m_seal_isSpan N s = some (dec (SpanOk s)) := by
 unfold m_seal_isSpan
 rw [within_is N hN (by simp), bindS]
 by_cases h : ∀ n ∈ [s.Low, s.High], (0 : Int) <= n /\ n <= 2000
 ·rw [dec_true h, if_pos rfl, bindS]
  have h1 := h s.Low (by simp)
  have h2 := h s.High (by simp)
  show some (icmpR .leq s.Low s.High) = _
  congr 1
  refine dec_eq ?_
  simp only [icmp_leq, decide_eq_true_eq]
  unfold SpanOk
  omega
 ·rw [dec_false h, if_neg (by simp), bindS, dec_false]
  intro hk
  apply h
  intro n hn
  unfold SpanOk at hk
  simp only [List.mem_cons, List.not_mem_nil, or_false] at hn
  omega
theorem rSpan_is (N : Nat) {s : api_Span} : m_ref07_Span N s 0 2000 = some (dec (SpanOk s)) := by
 unfold m_ref07_Span
 rw [rIn_is, bindS]
 by_cases h : (0 : Int) <= s.Low /\ s.Low <= s.High
 ·rw [dec_true h, if_pos rfl, bindS]
  show some (icmpR .leq s.High 2000) = _
  congr 1
  refine dec_eq ?_
  simp only [icmp_leq, decide_eq_true_eq]
  unfold SpanOk
  omega
 ·rw [dec_false h, if_neg (by simp), bindS, dec_false]
  intro hk
  unfold SpanOk at hk
  omega
theorem any_dec {α : Type} {l : List α} {p : α -> Prop} : (l.any fun x => !dec (p x)) = !dec (∀ x ∈ l, p x) := by
 by_cases h : ∀ x ∈ l, p x
 ·rw [dec_true h, List.any_eq_false.2 (fun x hx => by rw [dec_true (h x hx)]; simp)]
  rfl
 ·rw [dec_false h]
  obtain ⟨x, hx⟩ := Classical.not_forall.1 h
  obtain ⟨hx, hp⟩ := Classical.not_imp.1 hx
  rw [List.any_eq_true.2 ⟨x, hx, by rw [dec_false hp]; rfl⟩]
  rfl
theorem kind_is (N : Nat) (hN : 2000000 <= N) {k : api_SealKind} (h1 : k.Sizes.length <= 1000) (h2 : k.Mark.size <= 1000) : m_seal_isKind N k = some (dec (KindOk k)) := by
 unfold m_seal_isKind
 simp only [icmp_eql, decide_eq_true_eq]
 by_cases c1 : ((k.Sizes.length : Nat) : Int) = 3
 ·rw [if_pos c1, cf_span, contF_eq N hN (by omega) (g := fun s => !dec (SpanOk s)) (fun s hs => by unfold m_seal_isKind_1; rw [span_is N hN]; rfl), bindS, any_dec]
  by_cases c2 : ∀ s ∈ k.Sizes, SpanOk s
  ·rw [dec_true c2]
   simp only [Bool.not_true, Bool.not_false, if_true, bindS]
   rw [mark_is N hN h2]
   simp only [bindS]
   congr 1
   exact dec_eq (by rw [dec_iff]; exact ⟨fun h => ⟨by omega, c2, h⟩, fun h => h.2.2⟩)
  ·rw [dec_false c2]
   simp only [Bool.not_true, Bool.not_false, Bool.false_eq_true, if_false, bindS]
   rw [dec_false (fun h => c2 h.2.1)]
 ·rw [if_neg c1, bindS, dec_false (fun h => c1 (by have := h.1; omega))]
theorem three {α : Type} {l : List α} (h : l.length = 3) : ∃ x y z, l = [x, y, z] := by
 match l, h with
 | [x, y, z], _ => exact ⟨x, y, z, rfl⟩
theorem rKind_is (N : Nat) (hN : 2000000 <= N) {k : api_SealKind} (h2 : k.Mark.size <= 1000) : m_ref07_Kind N k = some (dec (KindOk k)) := by
 unfold m_ref07_Kind
 simp only [icmp_eql, decide_eq_true_eq]
 by_cases c1 : ((k.Sizes.length : Nat) : Int) = 3
 ·obtain ⟨x, y, z, e⟩ := three (l := k.Sizes) (by omega)
  have g0 : getO d_api_Span k.Sizes 0 = some x := by rw [e]; rfl
  have g1 : getO d_api_Span k.Sizes 1 = some y := by rw [e]; rfl
  have g2 : getO d_api_Span k.Sizes 2 = some z := by rw [e]; rfl
  have hk : KindOk k ↔ SpanOk x /\ SpanOk y /\ SpanOk z /\ MarkOk k.Mark := by
   unfold KindOk
   rw [e]
   simp
   constructor
   ·rintro ⟨⟨a, b, c⟩, d⟩; exact ⟨a, b, c, d⟩
   ·rintro ⟨a, b, c, d⟩; exact ⟨⟨a, b, c⟩, d⟩
  rw [if_pos c1, g0, bindS, rSpan_is, bindS]
  by_cases cx : SpanOk x
  ·rw [dec_true cx, if_pos rfl, g1, bindS, rSpan_is, bindS]
   by_cases cy : SpanOk y
   ·rw [dec_true cy, if_pos rfl, g2, bindS, rSpan_is, bindS]
    by_cases cz : SpanOk z
    ·rw [dec_true cz, if_pos rfl, letters_is N hN h2]
     simp only [bindS]
     congr 1
     exact dec_eq (by rw [dec_iff, hk]; exact ⟨fun h => ⟨cx, cy, cz, h⟩, fun h => h.2.2.2⟩)
    ·rw [dec_false cz, if_neg (by simp), bindS, dec_false (fun h => cz (hk.1 h).2.2.1)]
   ·rw [dec_false cy, if_neg (by simp), bindS, dec_false (fun h => cy (hk.1 h).2.1)]
  ·rw [dec_false cx, if_neg (by simp), bindS, dec_false (fun h => cx (hk.1 h).1)]
 ·rw [if_neg c1, bindS, dec_false (fun h => c1 (by have := h.1; omega))]
structure Small (s : api_SealStatute) : Prop where
 kinds : s.Kinds.length <= 10
 off : s.Off.length <= 6
 each : ∀ k ∈ s.Kinds, k.Sizes.length <= 6 /\ k.Mark.size <= 30
def Form (s : api_SealStatute) : Prop := (1 <= s.Kinds.length /\ s.Kinds.length <= 6) /\ s.Off.length = 3
def Args (s : api_SealStatute) : Prop := (∀ k ∈ s.Kinds, KindOk k) /\ (0 <= s.Grace /\ s.Grace <= 50) /\ (0 <= s.Fine /\ s.Fine <= 100) /\ ∀ n ∈ s.Off, 0 <= n /\ n <= 20
noncomputable def chk (s : api_SealStatute) : Int := if dec (Form s) then (if dec (Args s) then 0 else 2) else 4
theorem check_is (N : Nat) (hN : 2000000 <= N) {s : api_SealStatute} (h : Small s) : m_seal_Check N s = some (chk s) := by
 unfold m_seal_Check
 rw [within_one N hN, bindS]
 simp only [icmp_neq, decide_eq_true_eq]
 have hkb := h.kinds
 have hob := h.off
 by_cases c1 : (1 : Int) <= ((s.Kinds.length : Nat) : Int) /\ ((s.Kinds.length : Nat) : Int) <= 6
 ·rw [dec_true c1]
  simp only [Bool.not_true, Bool.false_eq_true, if_false, bindS]
  by_cases c2 : ((s.Off.length : Nat) : Int) ≠ 3
  ·rw [if_pos (decide_eq_true c2), bindS]
   simp only
   unfold chk
   rw [dec_false (fun hf => c2 (by have := hf.2; omega))]
   simp
  ·have hf : Form s := ⟨by omega, by omega⟩
   rw [if_neg (by simp only [decide_eq_true_eq]; exact c2), cf_kind, contF_eq N hN (by omega) (g := fun k => !dec (KindOk k)) (fun k hk => by
    unfold m_seal_Check_1
    rw [kind_is N hN (by have := h.each k hk; omega) (by have := h.each k hk; omega)]
    rfl), bindS, any_dec]
   unfold chk
   rw [dec_true hf, if_pos rfl]
   by_cases a1 : ∀ k ∈ s.Kinds, KindOk k
   ·rw [dec_true a1, within_one N hN, within_one N hN, within_is N hN (by omega)]
    simp only [Bool.not_true, Bool.false_eq_true, if_false, bindS]
    by_cases a2 : (0 : Int) <= s.Grace /\ s.Grace <= 50
    ·rw [dec_true a2]
     simp only [Bool.not_true, Bool.false_eq_true, if_false, bindS]
     by_cases a3 : (0 : Int) <= s.Fine /\ s.Fine <= 100
     ·rw [dec_true a3]
      simp only [Bool.not_true, Bool.false_eq_true, if_false, bindS]
      by_cases a4 : ∀ n ∈ s.Off, (0 : Int) <= n /\ n <= 20
      ·have hA : Args s := ⟨a1, a2, a3, a4⟩
       rw [dec_true a4, dec_true hA]; simp
      ·rw [dec_false a4, dec_false (fun hA : Args s => a4 hA.2.2.2)]; simp
     ·rw [dec_false a3, dec_false (fun hA : Args s => a3 hA.2.2.1)]; simp
    ·rw [dec_false a2, dec_false (fun hA : Args s => a2 hA.2.1)]; simp
   ·rw [dec_false a1, dec_false (fun hA : Args s => a1 hA.1)]; simp
 ·rw [dec_false c1]
  unfold chk
  rw [dec_false (fun hf : Form s => c1 (by have := hf.1; omega))]
  simp
theorem rCheck_is (N : Nat) (hN : 2000000 <= N) {s : api_SealStatute} (h : Small s) : m_ref07_Check N s = some (chk s) := by
 have hkb := h.kinds
 have hob := h.off
 unfold m_ref07_Check
 rw [rIn_is, bindS]
 simp only [icmp_neq, decide_eq_true_eq]
 by_cases c1 : (1 : Int) <= ((s.Kinds.length : Nat) : Int) /\ ((s.Kinds.length : Nat) : Int) <= 6
 ·rw [dec_true c1]
  simp only [Bool.not_true, Bool.false_eq_true, if_false, bindS]
  by_cases c2 : ((s.Off.length : Nat) : Int) ≠ 3
  ·rw [if_pos (decide_eq_true c2)]
   unfold chk
   rw [dec_false (fun hf : Form s => c2 (by have := hf.2; omega))]
   simp
  ·have hf : Form s := ⟨by omega, by omega⟩
   obtain ⟨x, y, z, e⟩ := three (l := s.Off) (by omega)
   have g0 : getO (0 : Int) s.Off 0 = some x := by rw [e]; rfl
   have g1 : getO (0 : Int) s.Off 1 = some y := by rw [e]; rfl
   have g2 : getO (0 : Int) s.Off 2 = some z := by rw [e]; rfl
   rw [if_neg (by simp only [decide_eq_true_eq]; exact c2), rIn_is, rIn_is]
   simp only [bindS, g0, g1, g2, rIn_is]
   have e1 : (if dec ((0 : Int) <= s.Grace /\ s.Grace <= 50) = true then some (dec ((0 : Int) <= s.Fine /\ s.Fine <= 100)) else some false) = some (dec (((0 : Int) <= s.Grace /\ s.Grace <= 50) /\ ((0 : Int) <= s.Fine /\ s.Fine <= 100))) := by
    by_cases a : (0 : Int) <= s.Grace /\ s.Grace <= 50
    ·rw [dec_true a, if_pos rfl]; congr 1; exact dec_eq (by rw [dec_iff]; exact ⟨fun h => ⟨a, h⟩, fun h => h.2⟩)
    ·rw [dec_false a, if_neg (by simp), dec_false (fun h => a h.1)]
   have e2 : ∀ (A B : Prop), (if dec A = true then some (dec B) else some false) = some (dec (A /\ B)) := fun A B => by
    by_cases a : A
    ·rw [dec_true a, if_pos rfl]; congr 1; exact dec_eq (by rw [dec_iff]; exact ⟨fun h => ⟨a, h⟩, fun h => h.2⟩)
    ·rw [dec_false a, if_neg (by simp), dec_false (fun h => a h.1)]
   simp only [e2, bindS]
   obtain ⟨B, eB⟩ : ∃ B, B = dec ((((((0 : Int) <= s.Grace /\ s.Grace <= 50) /\ ((0 : Int) <= s.Fine /\ s.Fine <= 100)) /\ (0 <= x /\ x <= 20)) /\ (0 <= y /\ y <= 20)) /\ (0 <= z /\ z <= 20)) := ⟨_, rfl⟩
   rw [<- eB]
   obtain ⟨q, hq, hp⟩ := loopO_of (step := m_ref07_Check_L1 N s) (fun p => 0 <= p.2 /\ p.2 <= s.Kinds.length /\ (p.1 = true ↔ B = true /\ ∀ i : Nat, (i : Int) < p.2 -> KindOk (s.Kinds.getD i d_api_SealKind))) (fun p => (s.Kinds.length - p.2).toNat) (fun q => q = true ↔ B = true /\ ∀ i : Nat, i < s.Kinds.length -> KindOk (s.Kinds.getD i d_api_SealKind)) (fun p hi => by
    obtain ⟨b, i⟩ := p
    obtain ⟨i0, i1, i2⟩ := hi
    simp only at i0 i1 i2
    by_cases hc : i < ((s.Kinds.length : Nat) : Int)
    ·left
     have hm := getD_mem (d := d_api_SealKind) (show i.toNat < s.Kinds.length by omega)
     have hk := rKind_is N hN (k := s.Kinds.getD i.toNat d_api_SealKind) (by have := h.each _ hm; omega)
     simp only [m_ref07_Check_L1, icmp_lss, decide_eq_true_eq, if_pos hc, getO_of (d := d_api_SealKind) i0 hc, bindS, hk]
     rw [addW (by omega)]
     have hstep : (∀ j : Nat, (j : Int) < i + 1 -> KindOk (s.Kinds.getD j d_api_SealKind)) ↔ (∀ j : Nat, (j : Int) < i -> KindOk (s.Kinds.getD j d_api_SealKind)) /\ KindOk (s.Kinds.getD i.toNat d_api_SealKind) := by
      constructor
      ·intro h; exact ⟨fun j hj => h j (by omega), h i.toNat (by omega)⟩
      ·rintro ⟨h1, h2⟩ j hj
       by_cases e : j = i.toNat
       ·subst e; exact h2
       ·exact h1 j (by omega)
     cases b with
     | true =>
      obtain ⟨hB, hall⟩ := i2.1 rfl
      rw [if_pos rfl, bindS]
      refine ⟨_, rfl, ⟨by simp only; omega, by simp only; omega, ?_⟩, by simp only; omega⟩
      simp only
      rw [dec_iff, hstep]
      exact ⟨fun h => ⟨hB, hall, h⟩, fun h => h.2.2⟩
     | false =>
      rw [if_neg (by simp), bindS]
      refine ⟨_, rfl, ⟨by simp only; omega, by simp only; omega, ?_⟩, by simp only; omega⟩
      simp only
      rw [hstep]
      refine ⟨fun h => (by cases h), fun h => ?_⟩
      exact i2.2 ⟨h.1, h.2.1⟩
    ·right
     simp only [m_ref07_Check_L1, icmp_lss, decide_eq_true_eq, if_neg hc]
     refine ⟨_, rfl, ?_⟩
     rw [i2]
     exact ⟨fun h => ⟨h.1, fun j hj => h.2 j (by omega)⟩, fun h => ⟨h.1, fun j hj => h.2 j (by omega)⟩⟩) N (B, 0) ⟨by simp, by simp, by simp only; exact ⟨fun h => ⟨h, fun j hj => by omega⟩, fun h => h.1⟩⟩ (by simp only; omega)
   rw [hq, bindS]
   have hA : q = true ↔ Args s := by
    rw [hp, eB, dec_iff]
    unfold Args
    rw [e]
    constructor
    ·rintro ⟨⟨⟨⟨⟨a, b⟩, c⟩, d⟩, f⟩, hk⟩
     refine ⟨fun k hk' => ?_, a, b, fun n hn => ?_⟩
     ·obtain ⟨i, hi, rfl⟩ := mem_getD (d := d_api_SealKind) hk'
      exact hk i hi
     ·simp only [List.mem_cons, List.not_mem_nil, or_false] at hn
      rcases hn with rfl | rfl | rfl
      ·exact c
      ·exact d
      ·exact f
    ·rintro ⟨hk, a, b, ho⟩
     exact ⟨⟨⟨⟨⟨a, b⟩, ho x (by simp)⟩, ho y (by simp)⟩, ho z (by simp)⟩, fun i hi => hk _ (getD_mem hi)⟩
   unfold chk
   rw [dec_true hf, if_pos rfl, <- dec_eq hA]
   cases q <;> simp
 ·rw [dec_false c1]
  unfold chk
  rw [dec_false (fun hf : Form s => c1 (by have := hf.1; omega))]
  simp
theorem chk_zero {s : api_SealStatute} (h : chk s = 0) : Form s /\ Args s := by
 unfold chk at h
 split at h
 ·rename_i h1
  split at h
  ·rename_i h2; exact ⟨dec_iff.1 h1, dec_iff.1 h2⟩
  ·cases h
 ·cases h
def ReadOk (l : List Int) : Prop := l.length = 3 /\ ∀ n ∈ l, 0 <= n /\ n <= 2000
noncomputable def rdE (s : api_SealStatute) (l : List Int) : Int := if chk s ≠ 0 then chk s else if dec (ReadOk l) then 0 else 3
def lo (s : api_SealStatute) (l : List Int) (i : Nat) : Int := max 0 (l.getD i 0 - s.Off.getD i 0)
def hi (s : api_SealStatute) (l : List Int) (i : Nat) : Int := l.getD i 0 + s.Off.getD i 0
theorem off3 {s : api_SealStatute} (h : Form s /\ Args s) {i : Nat} (hi : i < 3) : 0 <= s.Off.getD i 0 /\ s.Off.getD i 0 <= 20 := h.2.2.2.2 _ (getD_mem (by have := h.1.2; omega))
theorem read3 {l : List Int} (h : ReadOk l) {i : Nat} (hi : i < 3) : 0 <= l.getD i 0 /\ l.getD i 0 <= 2000 := h.2 _ (getD_mem (by have := h.1; omega))
def clothOf (s : api_SealStatute) (l : List Int) : seal_cloth := ⟨s, ⟨⟨lo s l 0, hi s l 0⟩, ⟨lo s l 1, hi s l 1⟩, ⟨lo s l 2, hi s l 2⟩⟩⟩
theorem newCloth_bad (N : Nat) (hN : 2000000 <= N) {s : api_SealStatute} (h : Small s) {l : List Int} (hl : l.length <= 6) (hb : rdE s l ≠ 0) : ∃ c, m_seal_newCloth N s l = some (c, rdE s l) := by
 unfold m_seal_newCloth
 rw [check_is N hN h, bindS]
 simp only [icmp_neq, decide_eq_true_eq]
 unfold rdE at hb ⊢
 by_cases c1 : chk s ≠ 0
 ·rw [if_pos c1, if_pos c1]
  exact ⟨_, rfl⟩
 ·rw [if_neg c1, if_neg c1]
  rw [if_neg c1] at hb
  have hr : ¬ ReadOk l := fun h => hb (by rw [dec_true h]; simp)
  rw [dec_false hr, within_is N hN (by omega)]
  by_cases c2 : ((l.length : Nat) : Int) ≠ 3
  ·rw [if_pos c2]
   exact ⟨_, by simp [bindS]; rfl⟩
  ·rw [if_neg c2, dec_false (fun h => hr ⟨by omega, h⟩)]
   exact ⟨_, by simp [bindS]; rfl⟩
theorem newCloth_ok (N : Nat) (hN : 2000000 <= N) {s : api_SealStatute} (h : Small s) {l : List Int} (hc : chk s = 0) (hr : ReadOk l) : m_seal_newCloth N s l = some (clothOf s l, 0) := by
 have hs := chk_zero hc
 have hl := hr.1
 have ho := hs.1.2
 obtain ⟨M, hM⟩ : ∃ M, N = M + 4 := ⟨N - 4, by omega⟩
 have gl : ∀ i : Nat, i < 3 -> getO (0 : Int) l (i : Int) = some (l.getD i 0) := fun i hi => by rw [getO_of (by omega) (by omega)]; simp
 have go : ∀ i : Nat, i < 3 -> getO (0 : Int) s.Off (i : Int) = some (s.Off.getD i 0) := fun i hi => by rw [getO_of (by omega) (by omega)]; simp
 have gl0 := gl 0 (by omega)
 have gl1 := gl 1 (by omega)
 have gl2 := gl 2 (by omega)
 have go0 := go 0 (by omega)
 have go1 := go 1 (by omega)
 have go2 := go 2 (by omega)
 obtain ⟨a0, a1⟩ := off3 hs (i := 0) (by omega)
 obtain ⟨b0, b1⟩ := off3 hs (i := 1) (by omega)
 obtain ⟨c0, c1⟩ := off3 hs (i := 2) (by omega)
 obtain ⟨x0, x1⟩ := read3 hr (i := 0) (by omega)
 obtain ⟨y0, y1⟩ := read3 hr (i := 1) (by omega)
 obtain ⟨z0, z1⟩ := read3 hr (i := 2) (by omega)
 have e0 : iopR .sub .i64 (l.getD 0 0) (s.Off.getD 0 0) = l.getD 0 0 - s.Off.getD 0 0 := subW (by omega)
 have e0' : iopR .add .i64 (l.getD 0 0) (s.Off.getD 0 0) = l.getD 0 0 + s.Off.getD 0 0 := addW (by omega)
 have e1 : iopR .sub .i64 (l.getD 1 0) (s.Off.getD 1 0) = l.getD 1 0 - s.Off.getD 1 0 := subW (by omega)
 have e1' : iopR .add .i64 (l.getD 1 0) (s.Off.getD 1 0) = l.getD 1 0 + s.Off.getD 1 0 := addW (by omega)
 have e2 : iopR .sub .i64 (l.getD 2 0) (s.Off.getD 2 0) = l.getD 2 0 - s.Off.getD 2 0 := subW (by omega)
 have e2' : iopR .add .i64 (l.getD 2 0) (s.Off.getD 2 0) = l.getD 2 0 + s.Off.getD 2 0 := addW (by omega)
 have i1 : iopR .add .i64 0 1 = 1 := rfl
 have i2 : iopR .add .i64 1 1 = 2 := rfl
 have i3 : iopR .add .i64 2 1 = 3 := rfl
 have s0 : m_seal_newCloth_L1 N 3 l s (0, 0, 0, 0, 0, 0, 0) = some (.inl (1, lo s l 0, hi s l 0, 0, 0, 0, 0)) := by
  simp only [m_seal_newCloth_L1, icmp_lss, icmp_eql, decide_eq_true_eq]
  rw [if_pos (by omega), show getO (0 : Int) l 0 = _ from gl0, show getO (0 : Int) s.Off 0 = _ from go0]
  simp only [bindS]
  rw [if_pos (by omega), if_pos trivial]
  simp only [bindS]
  rw [e0, e0', i1]
  rfl
 have s1 : m_seal_newCloth_L1 N 3 l s (1, lo s l 0, hi s l 0, 0, 0, 0, 0) = some (.inl (2, lo s l 0, hi s l 0, lo s l 1, hi s l 1, 0, 0)) := by
  simp only [m_seal_newCloth_L1, icmp_lss, icmp_eql, decide_eq_true_eq]
  rw [if_pos (by omega), show getO (0 : Int) l 1 = _ from gl1, show getO (0 : Int) s.Off 1 = _ from go1]
  simp only [bindS]
  rw [if_pos (by omega), if_neg (by omega), if_pos trivial]
  simp only [bindS]
  rw [e1, e1', i2]
  rfl
 have s2 : m_seal_newCloth_L1 N 3 l s (2, lo s l 0, hi s l 0, lo s l 1, hi s l 1, 0, 0) = some (.inl (3, lo s l 0, hi s l 0, lo s l 1, hi s l 1, lo s l 2, hi s l 2)) := by
  simp only [m_seal_newCloth_L1, icmp_lss, icmp_eql, decide_eq_true_eq]
  rw [if_pos (by omega), show getO (0 : Int) l 2 = _ from gl2, show getO (0 : Int) s.Off 2 = _ from go2]
  simp only [bindS]
  rw [if_pos (by omega), if_neg (by omega), if_neg (by omega)]
  simp only [bindS]
  rw [e2, e2', i3]
  rfl
 have s3 : m_seal_newCloth_L1 N 3 l s (3, lo s l 0, hi s l 0, lo s l 1, hi s l 1, lo s l 2, hi s l 2) = some (.inr (lo s l 0, hi s l 0, lo s l 1, hi s l 1, lo s l 2, hi s l 2)) := by
  simp only [m_seal_newCloth_L1, icmp_lss]
  rfl
 have hln : ((l.length : Nat) : Int) = 3 := by omega
 unfold m_seal_newCloth
 rw [check_is N hN h, bindS, hc]
 simp only [icmp_neq, decide_eq_true_eq]
 rw [if_neg (by simp), hln, if_neg (by simp), within_is N hN (by omega), dec_true hr.2]
 simp only [bindS, Bool.not_true, Bool.false_eq_true, if_false, letO_eq]
 generalize m_seal_newCloth_L1 N 3 l s = step at s0 s1 s2 s3
 rw [hM, loopO_inl s0, loopO_inl s1, loopO_inl s2, loopO_inr s3]
 rfl
def Sure (a b : Int) (s : api_Span) : Prop := s.Low <= a /\ b <= s.High
def Poss (a b : Int) (s : api_Span) : Prop := max a s.Low <= min b s.High
theorem beyond_is (N : Nat) {n : Int} {s : api_Span} (hn : 0 <= n /\ n <= 2100) (hs : SpanOk s) : m_seal_beyond N n s = some (max (max 0 (s.Low - n)) (n - s.High)) := by
 unfold SpanOk at hs
 unfold m_seal_beyond
 rw [subW (by omega), subW (by omega)]
theorem rBeyond_is (N : Nat) {n : Int} {s : api_Span} (hn : 0 <= n /\ n <= 2100) (hs : SpanOk s) : m_ref07_Beyond N n s = some (max (max 0 (s.Low - n)) (n - s.High)) := beyond_is N hn hs
theorem and_dec {A B : Prop} : (if dec A = true then some (dec B) else some false) = some (dec (A /\ B)) := by
 by_cases a : A
 ·rw [dec_true a, if_pos rfl]; congr 1; exact dec_eq (by rw [dec_iff]; exact ⟨fun h => ⟨a, h⟩, fun h => h.2⟩)
 ·rw [dec_false a, if_neg (by simp), dec_false (fun h => a h.1)]
structure Sized (a b : Int) : Prop where
 a0 : 0 <= a
 ab : a <= b
 b1 : b <= 2020
theorem isOf_is (N : Nat) {c : seal_cloth} {k : api_SealKind} (h0 : Sized c.can.a0.Low c.can.a0.High) (h1 : Sized c.can.a1.Low c.can.a1.High) (h2 : Sized c.can.a2.Low c.can.a2.High) {x y z : api_Span} (e : k.Sizes = [x, y, z]) (hx : SpanOk x) (hy : SpanOk y) (hz : SpanOk z) :
  m_seal_cloth_isOf N c k = some (dec ((Sure c.can.a0.Low c.can.a0.High x /\ Sure c.can.a1.Low c.can.a1.High y) /\ Sure c.can.a2.Low c.can.a2.High z), dec ((Poss c.can.a0.Low c.can.a0.High x /\ Poss c.can.a1.Low c.can.a1.High y) /\ Poss c.can.a2.Low c.can.a2.High z)) := by
 have g0 : getO d_api_Span k.Sizes 0 = some x := by rw [e]; rfl
 have g1 : getO d_api_Span k.Sizes 1 = some y := by rw [e]; rfl
 have g2 : getO d_api_Span k.Sizes 2 = some z := by rw [e]; rfl
 have one : ∀ {a b : Int} {s : api_Span}, Sized a b -> SpanOk s -> icmpR .eql (iopR .add .i64 (max (max 0 (s.Low - a)) (a - s.High)) (max (max 0 (s.Low - b)) (b - s.High))) 0 = dec (Sure a b s) := fun {a b s} h hs => by
  obtain ⟨a0, ab, b1⟩ := h
  have hs' := hs
  unfold SpanOk at hs'
  rw [addW (by omega)]
  refine dec_eq ?_
  simp only [icmp_eql, decide_eq_true_eq]
  unfold Sure
  omega
 have two : ∀ {s t : api_Span}, m_seal_meet N s t = some (dec (Poss s.Low s.High t)) := fun {s t} => by
  unfold m_seal_meet
  congr 1
  exact dec_eq (by simp only [icmp_leq, decide_eq_true_eq]; rfl)
 have bnd : ∀ {a b : Int}, Sized a b -> (0 <= a /\ a <= 2100) /\ (0 <= b /\ b <= 2100) := fun h => by
  obtain ⟨a0, ab, b1⟩ := h
  omega
 unfold m_seal_cloth_isOf
 simp only [g0, g1, g2, bindS, two, beyond_is N (bnd h0).1 hx, beyond_is N (bnd h0).2 hx, beyond_is N (bnd h1).1 hy, beyond_is N (bnd h1).2 hy, beyond_is N (bnd h2).1 hz, beyond_is N (bnd h2).2 hz, one h0 hx, one h1 hy, one h2 hz, and_dec]
def rng (a : Int) : Nat -> List Int
 | 0 => []
 | n + 1 => rng a n ++ [a + n]
theorem rng_len {a : Int} : ∀ n, (rng a n).length = n
 | 0 => rfl
 | n + 1 => by simp [rng, rng_len n]
theorem rng_mem {a : Int} : ∀ {n : Nat} {x : Int}, x ∈ rng a n ↔ a <= x /\ x < a + n
 | 0, x => by
  simp only [rng, List.not_mem_nil, false_iff]
  omega
 | n + 1, x => by
  rw [rng, List.mem_append, rng_mem (n := n), List.mem_singleton]
  omega
theorem truths_is (N : Nat) (hN : 2000000 <= N) {s : api_SealStatute} {l : List Int} (hs : Form s /\ Args s) (hr : ReadOk l) {i : Nat} (hi3 : i < 3) : m_ref07_Truths N s l i = some (rng (lo s l i) (hi s l i + 1 - lo s l i).toNat) := by
 have gl : getO (0 : Int) l (i : Int) = some (l.getD i 0) := by rw [getO_of (by omega) (by have := hr.1; omega)]; simp
 have go : getO (0 : Int) s.Off (i : Int) = some (s.Off.getD i 0) := by rw [getO_of (by omega) (by have := hs.1.2; omega)]; simp
 obtain ⟨a0, a1⟩ := off3 hs hi3
 obtain ⟨x0, x1⟩ := read3 hr hi3
 have e0 : iopR .sub .i64 (l.getD i 0) (s.Off.getD i 0) = l.getD i 0 - s.Off.getD i 0 := subW (by omega)
 have e0' : iopR .add .i64 (l.getD i 0) (s.Off.getD i 0) = hi s l i := addW (by omega)
 have elo : max 0 (l.getD i 0 - s.Off.getD i 0) = lo s l i := rfl
 have hlo : 0 <= lo s l i /\ lo s l i <= hi s l i /\ hi s l i <= 2020 := by unfold lo hi; omega
 obtain ⟨q, hq, hp⟩ := loopO_of (step := m_ref07_Truths_L1 N l i s) (fun p => ∃ k : Nat, p = (lo s l i + k, rng (lo s l i) k) /\ lo s l i + k <= hi s l i + 1) (fun p => (hi s l i + 1 - p.1).toNat) (fun q => q = rng (lo s l i) (hi s l i + 1 - lo s l i).toNat) (fun p hinv => by
  obtain ⟨k, rfl, i1⟩ := hinv
  by_cases hc : lo s l i + (k : Int) <= hi s l i
  ·left
   have hfit : fitsN ((rng (lo s l i) k).length + 1) 8 := by rw [rng_len]; exact ⟨by omega, by omega⟩
   simp only [m_ref07_Truths_L1, gl, go, bindS, e0', icmp_leq, decide_eq_true_eq, if_pos hc, if_pos hfit]
   rw [addW (by omega)]
   refine ⟨_, rfl, ⟨k + 1, ?_, by omega⟩, by simp only; omega⟩
   rw [rng]
   simp only [Prod.mk.injEq, and_true]
   omega
  ·right
   simp only [m_ref07_Truths_L1, gl, go, bindS, e0', icmp_leq, decide_eq_true_eq, if_neg hc]
   exact ⟨_, rfl, by rw [show (hi s l i + 1 - lo s l i).toNat = k by omega]⟩) N (lo s l i, []) ⟨0, by simp [rng], by omega⟩ (by simp only; omega)
 unfold m_ref07_Truths
 rw [gl, bindS, go, bindS, e0, letO_eq, elo, hq, bindS, hp]
theorem is_is (N : Nat) (hN : 2000000 <= N) {s : api_SealStatute} {l : List Int} (hs : Form s /\ Args s) (hr : ReadOk l) {i j : Nat} (hi3 : i < 3) (hj : j < s.Kinds.length) :
  m_ref07_Is N s l j i = some (dec (Sure (lo s l i) (hi s l i) ((s.Kinds.getD j d_api_SealKind).Sizes.getD i d_api_Span)), dec (Poss (lo s l i) (hi s l i) ((s.Kinds.getD j d_api_SealKind).Sizes.getD i d_api_Span))) := by
 obtain ⟨a0, a1⟩ := off3 hs hi3
 obtain ⟨x0, x1⟩ := read3 hr hi3
 have hlo : 0 <= lo s l i /\ lo s l i <= hi s l i /\ hi s l i <= 2020 := by unfold lo hi; omega
 have hk := hs.2.1 _ (getD_mem (d := d_api_SealKind) hj)
 obtain ⟨k, ek⟩ : ∃ k, k = s.Kinds.getD j d_api_SealKind := ⟨_, rfl⟩
 rw [<- ek] at hk ⊢
 obtain ⟨z, ez⟩ : ∃ z, z = k.Sizes.getD i d_api_Span := ⟨_, rfl⟩
 have hz : SpanOk z := by rw [ez]; exact hk.2.1 _ (getD_mem (by have := hk.1; omega))
 rw [<- ez]
 have gk : getO d_api_SealKind s.Kinds (j : Int) = some k := by rw [getO_of (by omega) (by omega), ek]; simp
 have gz : getO d_api_Span k.Sizes (i : Int) = some z := by rw [getO_of (by omega) (by have := hk.1; omega), ez]; simp
 obtain ⟨L, eL⟩ : ∃ L, L = rng (lo s l i) (hi s l i + 1 - lo s l i).toNat := ⟨_, rfl⟩
 have hLl : L.length <= 3000 := by rw [eL, rng_len]; omega
 have hLm : ∀ n, n ∈ L ↔ lo s l i <= n /\ n <= hi s l i := fun n => by rw [eL, rng_mem]; omega
 obtain ⟨q, hq, h1, h2⟩ := loopO_of (step := m_ref07_Is_L1 N L s j i) (fun p => 0 <= p.2.2 /\ p.2.2 <= L.length /\ (p.1 = true ↔ ∀ t : Nat, (t : Int) < p.2.2 -> z.Low <= L.getD t 0 /\ L.getD t 0 <= z.High) /\ (p.2.1 = true ↔ ∃ t : Nat, (t : Int) < p.2.2 /\ z.Low <= L.getD t 0 /\ L.getD t 0 <= z.High)) (fun p => (L.length - p.2.2).toNat)
  (fun q => (q.1 = true ↔ ∀ t : Nat, t < L.length -> z.Low <= L.getD t 0 /\ L.getD t 0 <= z.High) /\ (q.2 = true ↔ ∃ t : Nat, t < L.length /\ z.Low <= L.getD t 0 /\ L.getD t 0 <= z.High)) (fun p hinv => by
  obtain ⟨e, o, t⟩ := p
  obtain ⟨t0, t1, t2, t3⟩ := hinv
  simp only at t0 t1 t2 t3
  by_cases hc : t < ((L.length : Nat) : Int)
  ·left
   have hm : L.getD t.toNat 0 ∈ L := getD_mem (by omega)
   obtain ⟨v, ev⟩ : ∃ v, v = L.getD t.toNat 0 := ⟨_, rfl⟩
   rw [<- ev] at hm
   have hv := (hLm v).1 hm
   have hz' := hz
   unfold SpanOk at hz'
   have hcmp : icmpR .eql (max (max 0 (z.Low - v)) (v - z.High)) 0 = dec (z.Low <= v /\ v <= z.High) := dec_eq (by simp only [icmp_eql, decide_eq_true_eq]; omega)
   simp only [m_ref07_Is_L1, icmp_lss, decide_eq_true_eq, if_pos hc, getO_of (d := (0 : Int)) t0 hc, <- ev, bindS, gk, gz]
   rw [rBeyond_is N (by omega) hz, bindS, hcmp, addW (by omega)]
   have hall : (∀ u : Nat, (u : Int) < t + 1 -> z.Low <= L.getD u 0 /\ L.getD u 0 <= z.High) ↔ (∀ u : Nat, (u : Int) < t -> z.Low <= L.getD u 0 /\ L.getD u 0 <= z.High) /\ (z.Low <= v /\ v <= z.High) := by
    constructor
    ·intro h; exact ⟨fun u hu => h u (by omega), by rw [ev]; exact h t.toNat (by omega)⟩
    ·rintro ⟨g1, g2⟩ u hu
     by_cases eu : u = t.toNat
     ·subst eu; rw [<- ev]; exact g2
     ·exact g1 u (by omega)
   have hex : (∃ u : Nat, (u : Int) < t + 1 /\ z.Low <= L.getD u 0 /\ L.getD u 0 <= z.High) ↔ (∃ u : Nat, (u : Int) < t /\ z.Low <= L.getD u 0 /\ L.getD u 0 <= z.High) \/ (z.Low <= v /\ v <= z.High) := by
    constructor
    ·rintro ⟨u, hu, g⟩
     by_cases eu : u = t.toNat
     ·subst eu; right; rw [ev]; exact g
     ·exact .inl ⟨u, by omega, g⟩
    ·rintro (⟨u, hu, g⟩ | g)
     ·exact ⟨u, by omega, g⟩
     ·exact ⟨t.toNat, by omega, by rw [<- ev]; exact g⟩
   have key : (if e = true then if o = true then some (true, dec (z.Low <= v /\ v <= z.High)) else some (dec (z.Low <= v /\ v <= z.High), dec (z.Low <= v /\ v <= z.High)) else if o = true then some (true, false) else some (dec (z.Low <= v /\ v <= z.High), false)) = some (o || dec (z.Low <= v /\ v <= z.High), e && dec (z.Low <= v /\ v <= z.High)) := by
    cases e <;> cases o <;> simp
   rw [key]
   simp only [bindS]
   refine ⟨_, rfl, ⟨by simp only; omega, by simp only; omega, ?_, ?_⟩, by simp only; omega⟩
   ·simp only
    rw [hall, Bool.and_eq_true, t2, dec_iff]
   ·simp only
    rw [hex, Bool.or_eq_true, t3, dec_iff]
  ·right
   simp only [m_ref07_Is_L1, icmp_lss, decide_eq_true_eq, if_neg hc]
   refine ⟨_, rfl, ?_, ?_⟩
   ·rw [t2]; exact ⟨fun h u hu => h u (by omega), fun h u hu => h u (by omega)⟩
   ·rw [t3]; exact ⟨fun ⟨u, hu, g⟩ => ⟨u, by omega, g⟩, fun ⟨u, hu, g⟩ => ⟨u, by omega, g⟩⟩) N (true, false, 0) ⟨by simp, by simp only; omega, by simp only [true_iff]; exact fun u hu => by omega, by simp only; exact ⟨fun h => (by cases h), fun ⟨u, hu, _⟩ => by omega⟩⟩ (by simp only; omega)
 unfold m_ref07_Is
 rw [truths_is N hN hs hr hi3, bindS, <- eL, hq, bindS]
 obtain ⟨qe, qo⟩ := q
 simp only at h1 h2 ⊢
 have f1 : qe = dec (Sure (lo s l i) (hi s l i) z) := dec_eq (by
  rw [h1]
  unfold Sure
  constructor
  ·intro h
   obtain ⟨u, hu, eu⟩ := mem_getD (d := (0 : Int)) ((hLm (lo s l i)).2 (by omega))
   obtain ⟨w, hw, ew⟩ := mem_getD (d := (0 : Int)) ((hLm (hi s l i)).2 (by omega))
   have g1 := h u hu
   have g2 := h w hw
   omega
  ·intro h u hu
   have := (hLm _).1 (getD_mem (d := (0 : Int)) hu)
   omega)
 have f2 : qo = dec (Poss (lo s l i) (hi s l i) z) := dec_eq (by
  rw [h2]
  unfold Poss
  constructor
  ·rintro ⟨u, hu, g⟩
   have := (hLm _).1 (getD_mem (d := (0 : Int)) hu)
   omega
  ·intro h
   obtain ⟨u, hu, eu⟩ := mem_getD (d := (0 : Int)) ((hLm (max (lo s l i) z.Low)).2 (by omega))
   exact ⟨u, hu, by omega, by omega⟩)
 rw [f1, f2]
theorem perm1 {α : Type} {a : α} {l : List α} (h : l.Perm [a]) : l = [a] := List.perm_singleton.1 h
theorem perm2 {α : Type} {a b : α} {l : List α} (h : l.Perm [a, b]) : l = [a, b] \/ l = [b, a] := by
 match l, h.length_eq with
 | [x, y], _ =>
  have hx : x ∈ [a, b] := h.subset (by simp)
  simp only [List.mem_cons, List.not_mem_nil, or_false] at hx
  rcases hx with rfl | rfl
  ·have := perm1 ((List.perm_cons _).1 h)
   left; rw [this]
  ·have := perm1 ((List.perm_cons _).1 (h.trans (List.Perm.swap _ _ _)))
   right; rw [this]
theorem perm3 {α : Type} {a b c : α} {l : List α} (h : l.Perm [a, b, c]) : l = [a, b, c] \/ l = [a, c, b] \/ l = [b, a, c] \/ l = [b, c, a] \/ l = [c, a, b] \/ l = [c, b, a] := by
 match l, h.length_eq with
 | [x, y, z], _ =>
  have hx : x ∈ [a, b, c] := h.subset (by simp)
  simp only [List.mem_cons, List.not_mem_nil, or_false] at hx
  rcases hx with rfl | rfl | rfl
  ·rcases perm2 ((List.perm_cons _).1 h) with e | e <;> simp [e]
  ·rcases perm2 ((List.perm_cons _).1 (h.trans (List.Perm.swap _ _ _))) with e | e <;> simp [e]
  ·have : [a, b, x].Perm (x :: [a, b]) := (List.perm_middle (l₁ := [a, b]) (l₂ := []))
   rcases perm2 ((List.perm_cons _).1 (h.trans this)) with e | e <;> simp [e]
def st1 : api_SealStrike := ⟨1, 5⟩
def st2 : api_SealStrike := ⟨2, 9⟩
def st3 : api_SealStrike := ⟨3, 7⟩
def st4 : api_SealStrike := ⟨4, 8⟩
theorem own_all : m_seal_own 2000000 [st1, st2, st3, st4] = some 3 := by kernel_rfl
theorem own_234 : ∀ l, List.Perm l [st2, st3, st4] -> m_seal_own 2000000 l = some 2 := by
 intro l h
 rcases perm3 h with rfl | rfl | rfl | rfl | rfl | rfl <;> kernel_rfl
theorem own_134 : ∀ l, List.Perm l [st1, st3, st4] -> m_seal_own 2000000 l = some 3 := by
 intro l h
 rcases perm3 h with rfl | rfl | rfl | rfl | rfl | rfl <;> kernel_rfl
theorem loopO_inl' {σ ρ : Type} {step : σ -> Option (σ ⊕ ρ)} {n : Nat} {s s' : σ} {q : ρ} (hn : 1 <= n) (h : step s = some (.inl s')) (k : loopO step (n - 1) s' = some q) : loopO step n s = some q := by
 obtain ⟨m, rfl⟩ : ∃ m, n = m + 1 := ⟨n - 1, by omega⟩
 rw [loopO, h]; exact k
theorem loopO_inr' {σ ρ : Type} {step : σ -> Option (σ ⊕ ρ)} {n : Nat} {s : σ} {q : ρ} (hn : 1 <= n) (h : step s = some (.inr q)) : loopO step n s = some q := by
 obtain ⟨m, rfl⟩ : ∃ m, n = m + 1 := ⟨n - 1, by omega⟩
 rw [loopO, h]
theorem forged_known : m_seal_Forged 2000000 [st1, st2, st3, st4] = some ([1], 0) := by
 have hL1 : loopO (m_seal_Forged_L1 2000000 ((([st1, st2, st3, st4] : List api_SealStrike).length : Nat) : Int) [st1, st2, st3, st4]) 2000000 (0, []) = some [(0, st1), (1, st2), (2, st3), (3, st4)] := by kernel_rfl
 have hc : m_slices_ContainsFunc_Lapi_SealStrike_api_SealStrike 2000000 [st1, st2, st3, st4] (fun x0 => m_seal_Forged_1 2000000 x0) = some false := by kernel_rfl
 have s0 : m_seal_Forged_L2 2000000 4 [st1, st2, st3, st4] 3 (0, [(0, st1), (1, st2), (2, st3), (3, st4)], []) = some (.inl (1, [(1, st2), (2, st3), (3, st4), (0, st1)], [])) := by
  have hp : permO [st2, st3, st4] (fun r => (m_seal_own 2000000 r).bind fun r_32 => if icmpR .eql r_32 3 then (if fitsN (([] : List Int).length + 1) 8 then some (.inl (iopR .add .i64 0 1, [((1 : Int), st2), (2, st3), (3, st4)], (([] : List Int) ++ [(0 : Int)]))) else none) else letO (mset [((1 : Int), st2), (2, st3), (3, st4)] 0 st1) fun l_33 => (some (.inl (iopR .add .i64 0 1, l_33, ([] : List Int))) : Option ((Int × (List (Int × api_SealStrike)) × (List Int)) ⊕ (List Int)))) = some (.inl (1, [(1, st2), (2, st3), (3, st4), (0, st1)], [])) := by
   refine permO_spec.2 fun l hl => ?_
   rw [own_234 l hl]
   kernel_rfl
  exact hp
 have s1 : m_seal_Forged_L2 2000000 4 [st1, st2, st3, st4] 3 (1, [(1, st2), (2, st3), (3, st4), (0, st1)], []) = some (.inl (2, [(2, st3), (3, st4), (0, st1)], [1])) := by
  have hp : permO [st3, st4, st1] (fun r => (m_seal_own 2000000 r).bind fun r_32 => if icmpR .eql r_32 3 then (if fitsN (([] : List Int).length + 1) 8 then some (.inl (iopR .add .i64 1 1, [((2 : Int), st3), (3, st4), (0, st1)], (([] : List Int) ++ [(1 : Int)]))) else none) else letO (mset [((2 : Int), st3), (3, st4), (0, st1)] 1 st2) fun l_33 => (some (.inl (iopR .add .i64 1 1, l_33, ([] : List Int))) : Option ((Int × (List (Int × api_SealStrike)) × (List Int)) ⊕ (List Int)))) = some (.inl (2, [(2, st3), (3, st4), (0, st1)], [1])) := by
   refine permO_spec.2 fun l hl => ?_
   rw [own_134 l (hl.trans (List.perm_middle (l₁ := [st3, st4]) (l₂ := [])))]
   kernel_rfl
  exact hp
 have s2 : m_seal_Forged_L2 2000000 4 [st1, st2, st3, st4] 3 (2, [(2, st3), (3, st4), (0, st1)], [1]) = some (.inr [1]) := by
  have h1 : getO d_api_SealStrike [st1, st2, st3, st4] 2 = some st3 := rfl
  simp only [m_seal_Forged_L2, h1]
  rfl
 have hL2 : loopO (m_seal_Forged_L2 2000000 4 [st1, st2, st3, st4] 3) 2000000 (0, [(0, st1), (1, st2), (2, st3), (3, st4)], []) = some [1] :=
  loopO_inl' (by omega) s0 (loopO_inl' (by omega) s1 (loopO_inr' (by omega) s2))
 unfold m_seal_Forged
 rw [hc]
 simp only [Option.bind_some]
 rw [if_neg (by simp [icmpR]), if_neg (by simp)]
 simp only [letO]
 rw [hL1]
 simp only [Option.bind_some]
 rw [own_all]
 simp only [Option.bind_some]
 have e : ((([st1, st2, st3, st4] : List api_SealStrike).length : Nat) : Int) = 4 := rfl
 rw [e, hL2]
 rfl
theorem known07_is : m_law07_known 2000000 = some true := by
 have hf : m_seal_Forged 2000000 [(api_SealStrike.mk 1 5), (api_SealStrike.mk 2 9), (api_SealStrike.mk 3 7), (api_SealStrike.mk 4 8)] = some ([1], 0) := forged_known
 unfold m_law07_known
 simp only [hf]
 change _ = some true
 kernel_rfl
end Go.Proofs.Ytfilnnbfppokmaa.Aw
namespace Go.Proofs.Ytfilnnbfppokmaa.Aw
open Go Go.RowKit Go.Proofs
set_option maxRecDepth 100000
set_option maxHeartbeats 20000000
noncomputable section
def m_law07_SealKinds (N : Nat) (p_1 : api_SealStatute) (p_2 : (List Int)) : Option (Bool) :=
 (m_law07_large (N + p_1.Kinds.length) p_1 p_2).bind fun r_3 =>
 if r_3 then
  (m_law07_known N).bind fun r_4 =>
  some r_4
 else
  (m_ref07_Copy N p_1).bind fun r_5 =>
  (m_law07_own N p_2).bind fun r_6 =>
  (m_seal_Check N r_5).bind fun r_7 =>
  (m_seal_Kinds N r_5 r_6).bind fun r_8 =>
  (show Option (Bool) from
   (m_ref07_Same N r_5 p_1).bind fun r_13 =>
   if !r_13 then
    some true
   else
    (m_ref07_Ints N r_6 p_2).bind fun r_14 =>
    if !r_14 then
     some true
    else
     (m_ref07_Check N p_1).bind fun r_15 =>
     some (icmpR .neq r_7 r_15)).bind fun q => match q with
  | v_12 =>
   if v_12 then
    some false
   else
    (m_ref07_Read N p_1 p_2).bind fun r_16 =>
    if icmpR .neq r_16 0 then
     (show Option (Bool) from
      if icmpR .eql r_8.2.2 r_16 then
       if icmpR .eql (iopR .add .i64 ((r_8.1.length : Nat) : Int) ((r_8.2.1.length : Nat) : Int)) 0 then
        (m_law07_known N).bind fun r_19 =>
        some r_19
       else
        some false
      else
       some false).bind fun q => match q with
     | v_18 =>
      some v_18
    else
     (m_ref07_Kinds N p_1 p_2).bind fun r_20 =>
     (show Option (Bool) from
      if icmpR .eql r_8.2.2 0 then
       (m_ref07_Ints N r_8.1 r_20.1).bind fun r_25 =>
       if r_25 then
        (m_ref07_Ints N r_8.2.1 r_20.2).bind fun r_26 =>
        if r_26 then
         (m_law07_known N).bind fun r_27 =>
         some r_27
        else
         some false
       else
        some false
      else
       some false).bind fun q => match q with
     | v_24 =>
      some v_24
end
end Go.Proofs.Ytfilnnbfppokmaa.Aw
namespace Go.Proofs.Ytfilnnbfppokmaa.Aw
open Go Go.RowKit Go.Proofs
noncomputable def acc (p : Nat -> Prop) : Nat -> List Int
 | 0 => []
 | n + 1 => if dec (p n) then acc p n ++ [(n : Int)] else acc p n
theorem acc_len {p : Nat -> Prop} : ∀ n, (acc p n).length <= n
 | 0 => by simp [acc]
 | n + 1 => by
  have := acc_len (p := p) n
  rw [acc]
  split
  ·simp; omega
  ·omega
def sureK (s : api_SealStatute) (l : List Int) (j : Nat) : Prop :=
 (Sure (lo s l 0) (hi s l 0) ((s.Kinds.getD j d_api_SealKind).Sizes.getD 0 d_api_Span) /\ Sure (lo s l 1) (hi s l 1) ((s.Kinds.getD j d_api_SealKind).Sizes.getD 1 d_api_Span)) /\ Sure (lo s l 2) (hi s l 2) ((s.Kinds.getD j d_api_SealKind).Sizes.getD 2 d_api_Span)
def possK (s : api_SealStatute) (l : List Int) (j : Nat) : Prop :=
 (Poss (lo s l 0) (hi s l 0) ((s.Kinds.getD j d_api_SealKind).Sizes.getD 0 d_api_Span) /\ Poss (lo s l 1) (hi s l 1) ((s.Kinds.getD j d_api_SealKind).Sizes.getD 1 d_api_Span)) /\ Poss (lo s l 2) (hi s l 2) ((s.Kinds.getD j d_api_SealKind).Sizes.getD 2 d_api_Span)
theorem sureK_fold (s : api_SealStatute) (l : List Int) (j : Nat) : ((Sure (lo s l 0) (hi s l 0) ((s.Kinds.getD j d_api_SealKind).Sizes.getD 0 d_api_Span) /\ Sure (lo s l 1) (hi s l 1) ((s.Kinds.getD j d_api_SealKind).Sizes.getD 1 d_api_Span)) /\ Sure (lo s l 2) (hi s l 2) ((s.Kinds.getD j d_api_SealKind).Sizes.getD 2 d_api_Span)) = sureK s l j := rfl
theorem possK_fold (s : api_SealStatute) (l : List Int) (j : Nat) : ((Poss (lo s l 0) (hi s l 0) ((s.Kinds.getD j d_api_SealKind).Sizes.getD 0 d_api_Span) /\ Poss (lo s l 1) (hi s l 1) ((s.Kinds.getD j d_api_SealKind).Sizes.getD 1 d_api_Span)) /\ Poss (lo s l 2) (hi s l 2) ((s.Kinds.getD j d_api_SealKind).Sizes.getD 2 d_api_Span)) = possK s l j := rfl
theorem sized {s : api_SealStatute} {l : List Int} (hs : Form s /\ Args s) (hr : ReadOk l) {i : Nat} (hi3 : i < 3) : Sized (lo s l i) (hi s l i) := by
 obtain ⟨a0, a1⟩ := off3 hs hi3
 obtain ⟨x0, x1⟩ := read3 hr hi3
 unfold lo hi
 exact ⟨by omega, by omega, by omega⟩
theorem isOf_kind (N : Nat) {s : api_SealStatute} {l : List Int} (hs : Form s /\ Args s) (hr : ReadOk l) {j : Nat} (hj : j < s.Kinds.length) :
  m_seal_cloth_isOf N (clothOf s l) (s.Kinds.getD j d_api_SealKind) = some (dec (sureK s l j), dec (possK s l j)) := by
 have hk := hs.2.1 _ (getD_mem (d := d_api_SealKind) hj)
 obtain ⟨x, y, z, e⟩ := three hk.1
 have hx := hk.2.1
 rw [e] at hx
 have := isOf_is N (c := clothOf s l) (k := s.Kinds.getD j d_api_SealKind) (sized hs hr (i := 0) (by omega)) (sized hs hr (i := 1) (by omega)) (sized hs hr (i := 2) (by omega)) e (hx x (by simp)) (hx y (by simp)) (hx z (by simp))
 rw [this]
 unfold sureK possK
 rw [e]
 rfl
theorem kinds_is (N : Nat) (hN : 2000000 <= N) {s : api_SealStatute} (h : Small s) {l : List Int} (hc : chk s = 0) (hr : ReadOk l) : m_seal_Kinds N s l = some (acc (sureK s l) s.Kinds.length, acc (possK s l) s.Kinds.length, 0) := by
 have hs := chk_zero hc
 have hkb := h.kinds
 obtain ⟨q, hq, hp⟩ := loopO_of (step := m_seal_Kinds_L1 N ((s.Kinds.length : Nat) : Int) s (clothOf s l, 0)) (fun p => ∃ k : Nat, k <= s.Kinds.length /\ p = ((k : Int), acc (sureK s l) k, acc (possK s l) k)) (fun p => (s.Kinds.length - p.1).toNat) (fun q => q = (acc (possK s l) s.Kinds.length, acc (sureK s l) s.Kinds.length)) (fun p hinv => by
  obtain ⟨k, i1, rfl⟩ := hinv
  by_cases hc : k < s.Kinds.length
  ·left
   have hc' : (k : Int) < ((s.Kinds.length : Nat) : Int) := by omega
   have hg : getO d_api_SealKind s.Kinds (k : Int) = some (s.Kinds.getD k d_api_SealKind) := by rw [getO_of (by omega) hc']; simp
   have l1 := acc_len (p := sureK s l) k
   have l2 := acc_len (p := possK s l) k
   have f1 : fitsN ((acc (sureK s l) k).length + 1) 8 := ⟨by omega, by omega⟩
   have f2 : fitsN ((acc (possK s l) k).length + 1) 8 := ⟨by omega, by omega⟩
   simp only [m_seal_Kinds_L1, icmp_lss, decide_eq_true_eq, if_pos hc', hg, bindS, isOf_kind N hs hr hc, if_pos f1, if_pos f2]
   rw [addW (by omega)]
   have e1 : (if dec (sureK s l k) = true then some (acc (sureK s l) k ++ [(k : Int)]) else some (acc (sureK s l) k)) = some (acc (sureK s l) (k + 1)) := by rw [acc]; split <;> rfl
   have e2 : (if dec (possK s l k) = true then some (acc (possK s l) k ++ [(k : Int)]) else some (acc (possK s l) k)) = some (acc (possK s l) (k + 1)) := by rw [acc]; split <;> rfl
   rw [e1]
   simp only [bindS]
   rw [e2]
   simp only [bindS]
   exact ⟨_, rfl, ⟨k + 1, hc, by simp⟩, by simp only; omega⟩
  ·right
   have hc' : ¬ (k : Int) < ((s.Kinds.length : Nat) : Int) := by omega
   simp only [m_seal_Kinds_L1, icmp_lss, decide_eq_true_eq, if_neg hc']
   exact ⟨_, rfl, by rw [show k = s.Kinds.length by omega]⟩) N (0, [], []) ⟨0, Nat.zero_le _, rfl⟩ (by simp only; omega)
 unfold m_seal_Kinds
 rw [newCloth_ok N hN h hc hr, bindS]
 simp only [icmp_neq, decide_eq_true_eq, letO_eq]
 rw [if_neg (by simp), hq, hp]
 rfl
theorem rKinds_is (N : Nat) (hN : 2000000 <= N) {s : api_SealStatute} (h : Small s) {l : List Int} (hc : chk s = 0) (hr : ReadOk l) : m_ref07_Kinds N s l = some (acc (sureK s l) s.Kinds.length, acc (possK s l) s.Kinds.length) := by
 have hs := chk_zero hc
 have hkb := h.kinds
 obtain ⟨q, hq, hp⟩ := loopO_of (step := m_ref07_Kinds_L1 N s l) (fun p => ∃ k : Nat, k <= s.Kinds.length /\ p = ((k : Int), acc (possK s l) k, acc (sureK s l) k)) (fun p => (s.Kinds.length - p.1).toNat) (fun q => q = (acc (possK s l) s.Kinds.length, acc (sureK s l) s.Kinds.length)) (fun p hinv => by
  obtain ⟨k, i1, rfl⟩ := hinv
  by_cases hc : k < s.Kinds.length
  ·left
   have hc' : (k : Int) < ((s.Kinds.length : Nat) : Int) := by omega
   have l1 := acc_len (p := sureK s l) k
   have l2 := acc_len (p := possK s l) k
   have f1 : fitsN ((acc (sureK s l) k).length + 1) 8 := ⟨by omega, by omega⟩
   have f2 : fitsN ((acc (possK s l) k).length + 1) 8 := ⟨by omega, by omega⟩
   have q0 := is_is N hN hs hr (i := 0) (j := k) (by omega) hc
   have q1 := is_is N hN hs hr (i := 1) (j := k) (by omega) hc
   have q2 := is_is N hN hs hr (i := 2) (j := k) (by omega) hc
   have q0 : m_ref07_Is N s l k 0 = _ := q0
   have q1 : m_ref07_Is N s l k 1 = _ := q1
   have q2 : m_ref07_Is N s l k 2 = _ := q2
   have pair : ∀ (A B C D : Prop), (if dec A = true then if dec B = true then some (dec D, dec C) else some (false, dec C) else if dec B = true then some (dec D, false) else some (false, false)) = some (dec (B /\ D), dec (A /\ C)) := fun A B C D => by
    by_cases a : A <;> by_cases b : B
    ·rw [dec_true a, dec_true b, if_pos rfl, if_pos rfl, <- dec_eq (b := dec D) (p := B /\ D) (by rw [dec_iff]; exact ⟨fun h => ⟨b, h⟩, fun h => h.2⟩), <- dec_eq (b := dec C) (p := A /\ C) (by rw [dec_iff]; exact ⟨fun h => ⟨a, h⟩, fun h => h.2⟩)]
    ·rw [dec_true a, dec_false b, if_pos rfl, if_neg (by simp), dec_false (fun h : B /\ D => b h.1), <- dec_eq (b := dec C) (p := A /\ C) (by rw [dec_iff]; exact ⟨fun h => ⟨a, h⟩, fun h => h.2⟩)]
    ·rw [dec_false a, dec_true b, if_neg (by simp), if_pos rfl, dec_false (fun h : A /\ C => a h.1), <- dec_eq (b := dec D) (p := B /\ D) (by rw [dec_iff]; exact ⟨fun h => ⟨b, h⟩, fun h => h.2⟩)]
    ·rw [dec_false a, dec_false b, if_neg (by simp), if_neg (by simp), dec_false (fun h : A /\ C => a h.1), dec_false (fun h : B /\ D => b h.1)]
   simp only [m_ref07_Kinds_L1, icmp_lss, decide_eq_true_eq, if_pos hc', q0, q1, q2, bindS, pair, sureK_fold, possK_fold, if_pos f1, if_pos f2]
   rw [addW (by omega)]
   have e1 : (if dec (sureK s l k) = true then some (acc (sureK s l) k ++ [(k : Int)]) else some (acc (sureK s l) k)) = some (acc (sureK s l) (k + 1)) := by rw [acc]; split <;> rfl
   have e2 : (if dec (possK s l k) = true then some (acc (possK s l) k ++ [(k : Int)]) else some (acc (possK s l) k)) = some (acc (possK s l) (k + 1)) := by rw [acc]; split <;> rfl
   rw [e1]
   simp only [bindS]
   rw [e2]
   simp only [bindS]
   exact ⟨_, rfl, ⟨k + 1, hc, by simp⟩, by simp only; omega⟩
  ·right
   have hc' : ¬ (k : Int) < ((s.Kinds.length : Nat) : Int) := by omega
   simp only [m_ref07_Kinds_L1, icmp_lss, decide_eq_true_eq, if_neg hc']
   exact ⟨_, rfl, by rw [show k = s.Kinds.length by omega]⟩) N (0, [], []) ⟨0, Nat.zero_le _, rfl⟩ (by simp only; omega)
 unfold m_ref07_Kinds
 rw [hq, hp]
 rfl
theorem rRead_is (N : Nat) (hN : 2000000 <= N) {s : api_SealStatute} (h : Small s) {l : List Int} : m_ref07_Read N s l = some (rdE s l) := by
 unfold m_ref07_Read rdE
 rw [rCheck_is N hN h, bindS]
 simp only [icmp_neq, decide_eq_true_eq]
 by_cases c1 : chk s ≠ 0
 ·rw [if_pos c1, if_pos c1]
 ·rw [if_neg c1, if_neg c1]
  by_cases c2 : ((l.length : Nat) : Int) ≠ 3
  ·rw [if_pos c2, bindS, if_pos rfl, dec_false (fun h : ReadOk l => c2 (by have := h.1; omega))]
   rfl
  ·obtain ⟨x, y, z, e⟩ := three (l := l) (by omega)
   have g0 : getO (0 : Int) l 0 = some x := by rw [e]; rfl
   have g1 : getO (0 : Int) l 1 = some y := by rw [e]; rfl
   have g2 : getO (0 : Int) l 2 = some z := by rw [e]; rfl
   have hR : ReadOk l ↔ (0 <= x /\ x <= 2000) /\ (0 <= y /\ y <= 2000) /\ (0 <= z /\ z <= 2000) := by
    unfold ReadOk
    rw [e]
    simp
   rw [if_neg c2]
   simp only [g0, g1, g2, bindS, rIn_is]
   by_cases cx : (0 : Int) <= x /\ x <= 2000
   ·rw [dec_true cx]
    by_cases cy : (0 : Int) <= y /\ y <= 2000
    ·rw [dec_true cy]
     by_cases cz : (0 : Int) <= z /\ z <= 2000
     ·rw [dec_true cz, dec_true (hR.2 ⟨cx, cy, cz⟩)]; simp
     ·rw [dec_false cz, dec_false (fun h => cz (hR.1 h).2.2)]; simp
    ·rw [dec_false cy, dec_false (fun h => cy (hR.1 h).2.1)]; simp
   ·rw [dec_false cx, dec_false (fun h => cx (hR.1 h).1)]; simp
theorem ints_same (N : Nat) (hN : 2000000 <= N) {l : List Int} (hl : l.length <= 1000) : m_ref07_Ints N l l = some true := by
 obtain ⟨q, hq, hp⟩ := loopO_of (step := m_ref07_Ints_L1 N l l) (fun i => 0 <= i /\ i <= l.length) (fun i => (l.length - i).toNat) (fun q => q = .inr ()) (fun i hi => by
  obtain ⟨i0, i1⟩ := hi
  by_cases hc : i < ((l.length : Nat) : Int)
  ·left
   simp only [m_ref07_Ints_L1, icmp_lss, icmp_neq, decide_eq_true_eq, if_pos hc, getO_of (d := (0 : Int)) i0 hc, bindS]
   rw [if_neg (by simp), addW (by omega)]
   exact ⟨_, rfl, ⟨by omega, by omega⟩, by omega⟩
  ·right
   simp only [m_ref07_Ints_L1, icmp_lss, decide_eq_true_eq, if_neg hc]
   exact ⟨_, rfl, rfl⟩) N 0 ⟨by omega, by omega⟩ (by omega)
 unfold m_ref07_Ints
 simp only [icmp_neq, decide_eq_true_eq]
 rw [if_neg (by simp), hq, hp]
 rfl
theorem spans_same (N : Nat) (hN : 2000000 <= N) {l : List api_Span} (hl : l.length <= 1000) : m_ref07_Spans N l l = some true := by
 obtain ⟨q, hq, hp⟩ := loopO_of (step := m_ref07_Spans_L1 N l l) (fun i => 0 <= i /\ i <= l.length) (fun i => (l.length - i).toNat) (fun q => q = .inr ()) (fun i hi => by
  obtain ⟨i0, i1⟩ := hi
  by_cases hc : i < ((l.length : Nat) : Int)
  ·left
   simp only [m_ref07_Spans_L1, icmp_lss, decide_eq_true_eq, if_pos hc, getO_of (d := d_api_Span) i0 hc, bindS]
   rw [if_neg (by simp [eqI]), addW (by omega)]
   exact ⟨_, rfl, ⟨by omega, by omega⟩, by omega⟩
  ·right
   simp only [m_ref07_Spans_L1, icmp_lss, decide_eq_true_eq, if_neg hc]
   exact ⟨_, rfl, rfl⟩) N 0 ⟨by omega, by omega⟩ (by omega)
 unfold m_ref07_Spans
 simp only [icmp_neq, decide_eq_true_eq]
 rw [if_neg (by simp), hq, hp]
 rfl
theorem copy_is (N : Nat) (hN : 2000000 <= N) {s : api_SealStatute} (h : Small s) : m_ref07_Copy N s = some s := by
 have hkb := h.kinds
 have hob := h.off
 obtain ⟨q, hq, hp⟩ := loopO_of (step := m_ref07_Copy_L1 N s) (fun p => ∃ k : Nat, k <= s.Kinds.length /\ p = ((k : Int), s.Kinds.take k)) (fun p => (s.Kinds.length - p.1).toNat) (fun q => q = s.Kinds) (fun p hinv => by
  obtain ⟨k, i1, rfl⟩ := hinv
  by_cases hc : k < s.Kinds.length
  ·left
   have hc' : (k : Int) < ((s.Kinds.length : Nat) : Int) := by omega
   have hg : getO d_api_SealKind s.Kinds (k : Int) = some (s.Kinds.getD k d_api_SealKind) := by rw [getO_of (by omega) hc']; simp
   have hm := h.each _ (getD_mem (d := d_api_SealKind) hc)
   have f1 : fitsN (s.Kinds.getD k d_api_SealKind).Sizes.length 16 := ⟨by omega, by omega⟩
   have f2 : fitsN ((s.Kinds.take k).length + 1) 40 := by
    have : (s.Kinds.take k).length <= 10 := by simp only [List.length_take]; omega
    exact ⟨by omega, by omega⟩
   simp only [m_ref07_Copy_L1, icmp_lss, decide_eq_true_eq, if_pos hc', hg, bindS, if_pos f1, if_pos f2]
   rw [addW (by omega)]
   refine ⟨_, rfl, ⟨k + 1, hc, ?_⟩, by simp only; omega⟩
   have e : s.Kinds.take (k + 1) = s.Kinds.take k ++ [s.Kinds.getD k d_api_SealKind] := by
    rw [List.take_succ, List.getD_eq_getElem?_getD, List.getElem?_eq_getElem hc]; rfl
   rw [e]
   simp
  ·right
   have hc' : ¬ (k : Int) < ((s.Kinds.length : Nat) : Int) := by omega
   simp only [m_ref07_Copy_L1, icmp_lss, decide_eq_true_eq, if_neg hc']
   exact ⟨_, rfl, by rw [show k = s.Kinds.length by omega, List.take_length]⟩) N (0, []) ⟨0, Nat.zero_le _, by simp⟩ (by simp only; omega)
 unfold m_ref07_Copy
 rw [if_pos ⟨by omega, by omega⟩, hq, hp]
 rfl
theorem same_is (N : Nat) (hN : 2000000 <= N) {s : api_SealStatute} (h : Small s) : m_ref07_Same N s s = some true := by
 have hkb := h.kinds
 have hob := h.off
 obtain ⟨q, hq, hp⟩ := loopO_of (step := m_ref07_Same_L1 N s s) (fun i => 0 <= i /\ i <= s.Kinds.length) (fun i => (s.Kinds.length - i).toNat) (fun q => q = .inr ()) (fun i hi => by
  obtain ⟨i0, i1⟩ := hi
  by_cases hc : i < ((s.Kinds.length : Nat) : Int)
  ·left
   have hm := h.each _ (getD_mem (d := d_api_SealKind) (show i.toNat < s.Kinds.length by omega))
   simp only [m_ref07_Same_L1, icmp_lss, decide_eq_true_eq, if_pos hc, getO_of (d := d_api_SealKind) i0 hc, bindS]
   rw [if_neg (by simp), spans_same N hN (by omega)]
   simp only [bindS, Bool.not_true, Bool.false_eq_true, if_false]
   rw [addW (by omega)]
   exact ⟨_, rfl, ⟨by omega, by omega⟩, by omega⟩
  ·right
   simp only [m_ref07_Same_L1, icmp_lss, decide_eq_true_eq, if_neg hc]
   exact ⟨_, rfl, rfl⟩) N 0 ⟨by omega, by omega⟩ (by omega)
 unfold m_ref07_Same
 simp only [icmp_neq, decide_eq_true_eq]
 rw [if_neg (by simp), if_neg (by simp), if_neg (by simp), ints_same N hN (by omega)]
 simp only [bindS, Bool.not_true, Bool.false_eq_true, if_false]
 rw [hq, hp]
 rfl
theorem large_is (N : Nat) {s : api_SealStatute} {l : List Int} (hN : s.Kinds.length + 2 <= N) (hk : s.Kinds.length <= 9223372036854775807) :
  ∃ b, m_law07_large N s l = some b /\ (b = false -> Small s /\ l.length <= 6) := by
 obtain ⟨q, hq, hp⟩ := loopO_of (step := m_law07_large_L1 N s) (fun i => 0 <= i /\ i <= s.Kinds.length /\ ∀ j : Nat, (j : Int) < i -> (s.Kinds.getD j d_api_SealKind).Sizes.length <= 6 /\ (s.Kinds.getD j d_api_SealKind).Mark.size <= 30) (fun i => (s.Kinds.length - i).toNat) (fun q => match q with | .inl _ => True | .inr _ => ∀ j : Nat, j < s.Kinds.length -> (s.Kinds.getD j d_api_SealKind).Sizes.length <= 6 /\ (s.Kinds.getD j d_api_SealKind).Mark.size <= 30) (fun i hi => by
  obtain ⟨i0, i1, i2⟩ := hi
  by_cases hc : i < ((s.Kinds.length : Nat) : Int)
  ·simp only [m_law07_large_L1, icmp_lss, icmp_gtr, decide_eq_true_eq, if_pos hc, getO_of (d := d_api_SealKind) i0 hc, bindS]
   by_cases c1 : (((s.Kinds.getD i.toNat d_api_SealKind).Sizes.length : Nat) : Int) > 6
   ·right
    rw [if_pos c1, bindS, if_pos rfl]
    exact ⟨_, rfl, trivial⟩
   ·rw [if_neg c1, bindS]
    by_cases c2 : ((s.Kinds.getD i.toNat d_api_SealKind).Mark.size : Int) > 30
    ·right
     rw [if_pos (decide_eq_true c2)]
     exact ⟨_, rfl, trivial⟩
    ·left
     rw [if_neg (by simp only [decide_eq_true_eq]; exact c2), addW (by omega)]
     refine ⟨_, rfl, ⟨by omega, by omega, fun j hj => ?_⟩, by omega⟩
     by_cases e : j = i.toNat
     ·subst e; omega
     ·exact i2 j (by omega)
  ·right
   simp only [m_law07_large_L1, icmp_lss, decide_eq_true_eq, if_neg hc]
   exact ⟨_, rfl, fun j hj => i2 j (by omega)⟩) N 0 ⟨by omega, by omega, fun j hj => by omega⟩ (by omega)
 unfold m_law07_large
 rw [hq, bindS]
 cases q with
 | inl u => exact ⟨_, rfl, fun h => by cases h⟩
 | inr u =>
  simp only [icmp_gtr, decide_eq_true_eq] at hp ⊢
  by_cases c1 : ((s.Kinds.length : Nat) : Int) > 10
  ·rw [if_pos c1, bindS]; exact ⟨_, rfl, fun h => by cases h⟩
  ·rw [if_neg c1]
   by_cases c2 : ((s.Off.length : Nat) : Int) > 6
   ·rw [if_pos c2, bindS]; exact ⟨_, rfl, fun h => by cases h⟩
   ·rw [if_neg c2, bindS]
    refine ⟨_, rfl, fun h => ⟨⟨by omega, by omega, fun k hk' => ?_⟩, ?_⟩⟩
    ·obtain ⟨i, hi, rfl⟩ := mem_getD (d := d_api_SealKind) hk'
     exact hp i hi
    ·have := of_decide_eq_false h
     omega
theorem kinds_bad (N : Nat) (hN : 2000000 <= N) {s : api_SealStatute} (h : Small s) {l : List Int} (hl : l.length <= 6) (hb : rdE s l ≠ 0) : m_seal_Kinds N s l = some ([], [], rdE s l) := by
 obtain ⟨c, hc⟩ := newCloth_bad N hN h hl hb
 unfold m_seal_Kinds
 rw [hc, bindS]
 simp only [icmp_neq, decide_eq_true_eq]
 rw [if_pos hb]
theorem law_SealKinds (s : api_SealStatute) (l : List Int) (hk : s.Kinds.length <= 9223372036854775807) : m_law07_SealKinds 2000000 s l = some true := by
 have hK := known07_is
 obtain ⟨N, hN⟩ : ∃ N, N = 2000000 := ⟨_, rfl⟩
 rw [<- hN] at hK ⊢
 have hN : 2000000 <= N := by omega
 obtain ⟨b, hb, hsm⟩ := large_is (N + s.Kinds.length) (s := s) (l := l) (by omega) hk
 unfold m_law07_SealKinds
 rw [hb, bindS]
 cases b with
 | true => rw [if_pos rfl, hK]; rfl
 | false =>
  obtain ⟨h, hl⟩ := hsm rfl
  have hown : m_law07_own N l = some l := by unfold m_law07_own; rw [if_pos ⟨by omega, by omega⟩]
  rw [if_neg (by simp), copy_is N hN h, bindS, hown, bindS, check_is N hN h, bindS]
  by_cases hz : rdE s l = 0
  ·have hc : chk s = 0 := by
    unfold rdE at hz
    split at hz
    ·rename_i hne; exact absurd hz hne
    ·rename_i hne; exact Classical.not_not.1 hne
   have hr : ReadOk l := by
    unfold rdE at hz
    rw [if_neg (by simp [hc])] at hz
    split at hz
    ·rename_i hd; exact dec_iff.1 hd
    ·cases hz
   have l1 := acc_len (p := sureK s l) s.Kinds.length
   have l2 := acc_len (p := possK s l) s.Kinds.length
   have hkb := h.kinds
   rw [kinds_is N hN h hc hr, bindS, same_is N hN h]
   simp only [bindS, Bool.not_true, Bool.false_eq_true, if_false]
   rw [ints_same N hN (by omega)]
   simp only [bindS, Bool.not_true, Bool.false_eq_true, if_false]
   rw [rCheck_is N hN h]
   simp only [bindS, icmp_neq, icmp_eql, ne_eq, not_true_eq_false, decide_false, Bool.false_eq_true, if_false]
   rw [rRead_is N hN h, bindS, hz]
   simp only [decide_eq_true_eq, not_true_eq_false, if_false]
   rw [rKinds_is N hN h hc hr]
   simp only [bindS, if_true]
   rw [ints_same N hN (by omega)]
   simp only [bindS, if_true]
   rw [ints_same N hN (by omega)]
   simp only [bindS, if_true]
   rw [hK]
   rfl
  ·rw [kinds_bad N hN h hl hz, bindS, same_is N hN h]
   simp only [bindS, Bool.not_true, Bool.false_eq_true, if_false]
   rw [ints_same N hN (by omega)]
   simp only [bindS, Bool.not_true, Bool.false_eq_true, if_false]
   rw [rCheck_is N hN h]
   simp only [bindS, icmp_neq, icmp_eql, ne_eq, not_true_eq_false, decide_false, Bool.false_eq_true, if_false]
   rw [rRead_is N hN h, bindS]
   simp only [decide_eq_true_eq]
   rw [if_pos hz, if_pos trivial]
   simp [addW, hK, bindS]
end Go.Proofs.Ytfilnnbfppokmaa.Aw
namespace Go.Proofs.Ytfilnnbfppokmaa.Aw
open Go Go.RowKit Go.Proofs
set_option maxRecDepth 100000
set_option maxHeartbeats 20000000
noncomputable section
theorem w_law07_large (N : Nat) (s_1 : api_SealStatute) (read_2 : (List Int)) (o : Bool) (h : m_law07_large N s_1 read_2 = some o) :
  KC Try.prog 15 [.agg [sl_api_SealKind false s_1.Kinds, .int .i64 s_1.Grace, .int .i64 s_1.Fine, sl_int false s_1.Off], sl_int false read_2] (.bool o) [] := by
 unfold m_law07_large at h
 refine con_l [] [1000004, 1000006] seat Try.func15 rfl ent_15 (by kernel_rfl) rfl rfl (by simp) ?_; intro base I hI; (conv => cbv)
 refine L_loop hI seat [1000004, 1000006] (by kernel_rfl) h (fun q => match q with | i_8 => ⟨46, [(1, sl_int false read_2), (2, .loc 0 0), (5, .int .i64 i_8)], [(0, ⟨25, [sl_api_SealKind false s_1.Kinds, .int .i64 s_1.Grace, .int .i64 s_1.Fine, sl_int false s_1.Off], true⟩)], [], 0⟩) (fun q => match q with | (.inl ()) => .ret | (.inr ()) => .exit 0) (fun q => match q with | (.inl ()) => ⟨46, [(4, .tt)], [], [], 0⟩ | (.inr ()) => ⟨46, [(1, sl_int false read_2), (2, .loc 0 0)], [(0, ⟨25, [sl_api_SealKind false s_1.Kinds, .int .i64 s_1.Grace, .int .i64 s_1.Fine, sl_int false s_1.Off], true⟩)], [], 0⟩) (by subst_vars; exact weak_l rfl rfl ⟨LV_sl, lR, lE, trivial⟩ ⟨lB ⟨LV_sl, lE, lE, LV_sl, rfl⟩, trivial⟩ trivial) (by intro q; rcases q with (_ | _) <;> (intro e; exact Exit.noConfusion e)) ?_ ?_; all_goals clear h
 ·intro i_8 x h R hR hX
  rw [m_law07_large_L1] at h
  (conv => cbv)
  refine L_tst hI h (by subst_vars; rfl) ?_ ?_ <;> clear h <;> intro h
  ·refine L_cut hI seat [1000006] (by kernel_rfl) h (fun q => match q with | v_16 => .normal) (fun q => match q with | v_16 => ⟨46, [(1, sl_int false read_2), (2, .loc 0 0), (5, .int .i64 i_8), (30, .bool v_16)], [(0, ⟨25, [sl_api_SealKind false s_1.Kinds, .int .i64 s_1.Grace, .int .i64 s_1.Fine, sl_int false s_1.Off], true⟩)], [], 0⟩) ?_ ?_; all_goals clear h
   ·intro x h R hR
    (conv => cbv)
    refine L_get hI h (fun g => by subst_vars; exact g) ?_; clear h; intro hc x_17 hxx_17 h
    refine L_tst hI h (by subst_vars; rfl) ?_ ?_ <;> clear h <;> intro h
    ·exact hR _ _ (Option.some.inj h).symm (by subst_vars; exact weak_l rfl rfl ⟨LV_sl, lR, lE, lE, trivial⟩ ⟨lB ⟨LV_sl, lE, lE, LV_sl, rfl⟩, trivial⟩ trivial)
    ·refine L_get hI h (fun g => by subst_vars; exact g) ?_; clear h; intro hc x_18 hxx_18 h
     exact hR _ _ (Option.some.inj h).symm (by subst_vars; exact weak_l rfl rfl ⟨LV_sl, lR, lE, lE, trivial⟩ ⟨lB ⟨LV_sl, lE, lE, LV_sl, rfl⟩, trivial⟩ trivial)
   ·intro v_16 h
    (conv => cbv)
    refine L_tst hI h (by subst_vars; rfl) ?_ ?_ <;> clear h <;> intro h
    ·exact hX _ _ (Option.some.inj h).symm (by subst_vars; exact weak_l rfl rfl ⟨lE, trivial⟩ trivial trivial)
    ·exact hR _ _ (Option.some.inj h).symm (by subst_vars; exact weak_l rfl rfl ⟨LV_sl, lR, lE, trivial⟩ ⟨lB ⟨LV_sl, lE, lE, LV_sl, rfl⟩, trivial⟩ trivial)
  ·exact hX _ _ (Option.some.inj h).symm (by subst_vars; exact weak_l rfl rfl ⟨LV_sl, lR, trivial⟩ ⟨lB ⟨LV_sl, lE, lE, LV_sl, rfl⟩, trivial⟩ trivial)
 ·intro q h
  rcases q with (_ | _)
  ·(conv => cbv)
   cases h
   subst_vars
   exact ⟨lE, rfl⟩
  ·(conv => cbv)
   refine L_cut hI seat [1000004] (by kernel_rfl) h (fun q => match q with | v_19 => .normal) (fun q => match q with | v_19 => ⟨46, [(4, .bool v_19)], [], [], 0⟩) ?_ ?_; all_goals clear h
   ·intro x h R hR
    (conv => cbv)
    refine L_tst hI h (by subst_vars; rfl) ?_ ?_ <;> clear h <;> intro h
    ·exact hR _ _ (Option.some.inj h).symm (by subst_vars; exact weak_l rfl rfl ⟨lE, trivial⟩ trivial trivial)
    ·refine L_tst hI h (by subst_vars; rfl) ?_ ?_ <;> clear h <;> intro h
     ·exact hR _ _ (Option.some.inj h).symm (by subst_vars; exact weak_l rfl rfl ⟨lE, trivial⟩ trivial trivial)
     ·exact hR _ _ (Option.some.inj h).symm (by subst_vars; exact weak_l rfl rfl ⟨lE, trivial⟩ trivial trivial)
   ·intro v_19 h
    (conv => cbv)
    cases h
    subst_vars
    exact ⟨lE, rfl⟩
theorem w_law07_span (N : Nat) (low_1 : Int) (high_2 : Int) (o : api_Span) (h : m_law07_span N low_1 high_2 = some o) :
  KC Try.prog 54 [.int .i64 low_1, .int .i64 high_2] (.agg [.int .i64 o.Low, .int .i64 o.High]) [] := by
 unfold m_law07_span at h
 refine con_l [] [] seat Try.func54 rfl ent_54 (by kernel_rfl) rfl rfl (by simp) ?_; intro base I hI; (conv => cbv)
 cases h
 subst_vars
 exact ⟨(LV_agg ⟨lE, lE, rfl⟩), rfl⟩
theorem w_law07_statute (N : Nat)  (o : api_SealStatute) (h : m_law07_statute N  = some o) :
  KC Try.prog 55 [] (.agg [sl_api_SealKind false o.Kinds, .int .i64 o.Grace, .int .i64 o.Fine, sl_int false o.Off]) [] := by
 unfold m_law07_statute at h
 refine con_l [] [] seat Try.func55 rfl ent_55 (by kernel_rfl) rfl rfl (by simp) ?_; intro base I hI; (conv => cbv)
 refine L_call hI h (fun v hv => w_law07_span N 900 960 v hv) (by subst_vars; exact ⟨(leD_refl _), (leD_refl _), rfl⟩) ?_; clear h; intro r_1 h; (conv => cbv)
 refine L_call hI h (fun v hv => w_law07_span N 60 64 v hv) (by subst_vars; exact ⟨(leD_refl _), (leD_refl _), rfl⟩) ?_; clear h; intro r_2 h; (conv => cbv)
 refine L_call hI h (fun v hv => w_law07_span N 300 340 v hv) (by subst_vars; exact ⟨(leD_refl _), (leD_refl _), rfl⟩) ?_; clear h; intro r_3 h; (conv => cbv)
 refine L_call hI h (fun v hv => w_law07_span N 400 440 v hv) (by subst_vars; exact ⟨(leD_refl _), (leD_refl _), rfl⟩) ?_; clear h; intro r_4 h; (conv => cbv)
 refine L_call hI h (fun v hv => w_law07_span N 60 70 v hv) (by subst_vars; exact ⟨(leD_refl _), (leD_refl _), rfl⟩) ?_; clear h; intro r_5 h; (conv => cbv)
 refine L_call hI h (fun v hv => w_law07_span N 120 160 v hv) (by subst_vars; exact ⟨(leD_refl _), (leD_refl _), rfl⟩) ?_; clear h; intro r_6 h; (conv => cbv)
 refine L_call hI h (fun v hv => w_law07_span N 400 480 v hv) (by subst_vars; exact ⟨(leD_refl _), (leD_refl _), rfl⟩) ?_; clear h; intro r_7 h; (conv => cbv)
 refine L_call hI h (fun v hv => w_law07_span N 36 44 v hv) (by subst_vars; exact ⟨(leD_refl _), (leD_refl _), rfl⟩) ?_; clear h; intro r_8 h; (conv => cbv)
 refine L_call hI h (fun v hv => w_law07_span N 100 150 v hv) (by subst_vars; exact ⟨(leD_refl _), (leD_refl _), rfl⟩) ?_; clear h; intro r_9 h; (conv => cbv)
 cases h
 subst_vars
 exact ⟨(LV_agg ⟨(LV_slr_le ⟨⟨⟨.inl rfl, rfl, leDLL_refl _⟩, (leD_refl _), rfl⟩, ⟨⟨.inl rfl, rfl, leDLL_refl _⟩, (leD_refl _), rfl⟩, ⟨⟨.inl rfl, rfl, leDLL_refl _⟩, (leD_refl _), rfl⟩, rfl⟩), lE, lE, (LV_slr rfl), rfl⟩), rfl⟩
theorem w_slices_IndexFunc_Lint_int (N : Nat) (s_1 : (List Int)) (f_2 : Int -> Option Bool) (kf_2 : Nat) (dsf_2 : List D) (hdf_2 : noAggD dsf_2 = true) (hpf_2 : ∀ x0 r, f_2 x0 = some r -> KD Try.prog kf_2 [.int .i64 x0] dsf_2 (.bool r)) (o : Int) (h : m_slices_IndexFunc_Lint_int N s_1 f_2 = some o) :
  KC Try.prog 106 [sl_int false s_1, .d (.fn kf_2 dsf_2)] (.int .i64 o) [] := by
 unfold m_slices_IndexFunc_Lint_int at h
 refine con_l [] [] seat Try.func106 rfl ent_106 (by kernel_rfl) rfl rfl (by simp) ?_; intro base I hI; (conv => cbv)
 replace h := letO_of h; obtain ⟨v_3, hev_3, h⟩ := h
 refine L_loop hI seat [] (by kernel_rfl) h (fun q => match q with | v_6 => ⟨19, [(0, sl_int false s_1), (1, .d (.fn kf_2 dsf_2)), (7, .int .i64 v_3), (8, .int .i64 v_6)], [], [], 0⟩) (fun q => match q with | (.inl v_9) => .ret | (.inr ()) => .exit 0) (fun q => match q with | (.inl v_9) => ⟨19, [(4, .int .i64 v_9)], [], [], 0⟩ | (.inr ()) => ⟨19, [], [], [], 0⟩) (by subst_vars; exact weak_l rfl rfl ⟨LV_sl, lR, lE, lE, trivial⟩ trivial trivial) (by intro q; rcases q with (v_9 | _) <;> (intro e; exact Exit.noConfusion e)) ?_ ?_; all_goals clear h
 ·intro v_6 x h R hR hX
  rw [m_slices_IndexFunc_Lint_int_L1] at h
  (conv => cbv)
  refine L_tst hI h (by subst_vars; rfl) ?_ ?_ <;> clear h <;> intro h
  ·refine L_get hI h (fun g => by subst_vars; exact g) ?_; clear h; intro hc x_10 hxx_10 h
   refine K_conj hI (by subst_vars; exact hdf_2) ?_
   refine L_callD hI h (args' := [.int .i64 x_10]) (fun v hv => hpf_2 x_10 v hv) (by subst_vars; rfl) ?_; clear h; intro v_11 h; (conv => cbv)
   refine L_tst hI h (by subst_vars; rfl) ?_ ?_ <;> clear h <;> intro h
   ·exact hX _ _ (Option.some.inj h).symm (by subst_vars; exact weak_l rfl rfl ⟨lE, trivial⟩ trivial trivial)
   ·exact hR _ _ (Option.some.inj h).symm (by subst_vars; exact weak_l rfl rfl ⟨LV_sl, lR, lE, lE, trivial⟩ trivial trivial)
  ·exact hX _ _ (Option.some.inj h).symm (by subst_vars; exact weak_l rfl rfl trivial trivial trivial)
 ·intro q h
  rcases q with (v_9 | _)
  ·(conv => cbv)
   cases h
   subst_vars
   exact ⟨lE, rfl⟩
  ·(conv => cbv)
   cases h
   subst_vars
   exact ⟨lE, rfl⟩
theorem w_slices_ContainsFunc_Lint_int (N : Nat) (s_1 : (List Int)) (f_2 : Int -> Option Bool) (kf_2 : Nat) (dsf_2 : List D) (hdf_2 : noAggD dsf_2 = true) (hpf_2 : ∀ x0 r, f_2 x0 = some r -> KD Try.prog kf_2 [.int .i64 x0] dsf_2 (.bool r)) (o : Bool) (h : m_slices_ContainsFunc_Lint_int N s_1 f_2 = some o) :
  KC Try.prog 85 [sl_int false s_1, .d (.fn kf_2 dsf_2)] (.bool o) [] := by
 unfold m_slices_ContainsFunc_Lint_int at h
 refine con_l [] [] seat Try.func85 rfl ent_85 (by kernel_rfl) rfl rfl (by simp) ?_; intro base I hI; (conv => cbv)
 refine L_call hI h (fun v hv => w_slices_IndexFunc_Lint_int N s_1 f_2 kf_2 dsf_2 hdf_2 hpf_2 v hv) (by subst_vars; exact ⟨(leD_refl _), (leD_refl _), rfl⟩) ?_; clear h; intro r_3 h; (conv => cbv)
 cases h
 subst_vars
 exact ⟨lE, rfl⟩
theorem w_seal_within_1 (N : Nat) (n_1 : Int) (p_2 : Int) (p_3 : Int) (o : Bool) (h : m_seal_within_1 N n_1 p_2 p_3 = some o) :
  KC Try.prog 86 [.int .i64 n_1, .ptr [.int .i64 p_2], .ptr [.int .i64 p_3]] (.bool o) [] := by
 unfold m_seal_within_1 at h
 refine con_l [] [1000001] seat Try.func86 rfl ent_86 (by kernel_rfl) rfl rfl (by simp) ?_; intro base I hI; (conv => cbv)
 refine L_cut hI seat [] (by kernel_rfl) h (fun q => match q with | v_4 => .normal) (fun q => match q with | v_4 => ⟨13, [(4, .bool v_4)], [], [], 0⟩) ?_ ?_; all_goals clear h
 ·intro x h R hR
  (conv => cbv)
  refine L_tst hI h (by subst_vars; rfl) ?_ ?_ <;> clear h <;> intro h
  ·exact hR _ _ (Option.some.inj h).symm (by subst_vars; exact weak_l rfl rfl ⟨lE, trivial⟩ trivial trivial)
  ·exact hR _ _ (Option.some.inj h).symm (by subst_vars; exact weak_l rfl rfl ⟨lE, trivial⟩ trivial trivial)
 ·intro v_4 h
  (conv => cbv)
  cases h
  subst_vars
  exact ⟨lE, rfl⟩
theorem w_seal_within (N : Nat) (least_1 : Int) (most_2 : Int) (l_3 : (List Int)) (o : Bool) (h : m_seal_within N least_1 most_2 l_3 = some o) :
  KC Try.prog 56 [.int .i64 least_1, .int .i64 most_2, sl_int false l_3] (.bool o) [] := by
 unfold m_seal_within at h
 refine con_l [] [] seat Try.func56 rfl ent_56 (by kernel_rfl) rfl rfl (by simp) ?_; intro base I hI; (conv => cbv)
 refine L_call hI h (fun v hv => w_slices_ContainsFunc_Lint_int N l_3 (fun x0 => m_seal_within_1 N x0 least_1 most_2) 86 (KV.toDL [.ptr [.int .i64 least_1], .ptr [.int .i64 most_2]]) rfl (fun x0 r hr => KD_of (caps := [.ptr [.int .i64 least_1], .ptr [.int .i64 most_2]]) (w_seal_within_1 N x0 least_1 most_2 r hr)) v hv) (by subst_vars; exact ⟨(leD_refl _), (leD_refl _), rfl⟩) ?_; clear h; intro r_4 h; (conv => cbv)
 cases h
 subst_vars
 exact ⟨lE, rfl⟩
theorem w_slices_IndexFunc_Lapi_SealKind_api_SealKind (N : Nat) (s_1 : (List api_SealKind)) (f_2 : api_SealKind -> Option Bool) (kf_2 : Nat) (dsf_2 : List D) (hdf_2 : noAggD dsf_2 = true) (hpf_2 : ∀ x0 r, f_2 x0 = some r -> KD Try.prog kf_2 [.agg [sl_api_Span false x0.Sizes, .str x0.Mark]] dsf_2 (.bool r)) (o : Int) (h : m_slices_IndexFunc_Lapi_SealKind_api_SealKind N s_1 f_2 = some o) :
  KC Try.prog 87 [sl_api_SealKind false s_1, .d (.fn kf_2 dsf_2)] (.int .i64 o) [] := by
 unfold m_slices_IndexFunc_Lapi_SealKind_api_SealKind at h
 refine con_l [] [] seat Try.func87 rfl ent_87 (by kernel_rfl) rfl rfl (by simp) ?_; intro base I hI; (conv => cbv)
 replace h := letO_of h; obtain ⟨v_3, hev_3, h⟩ := h
 refine L_loop hI seat [] (by kernel_rfl) h (fun q => match q with | v_6 => ⟨19, [(0, sl_api_SealKind false s_1), (1, .d (.fn kf_2 dsf_2)), (7, .int .i64 v_3), (8, .int .i64 v_6)], [], [], 0⟩) (fun q => match q with | (.inl v_9) => .ret | (.inr ()) => .exit 0) (fun q => match q with | (.inl v_9) => ⟨19, [(4, .int .i64 v_9)], [], [], 0⟩ | (.inr ()) => ⟨19, [], [], [], 0⟩) (by subst_vars; exact weak_l rfl rfl ⟨LV_sl, lR, lE, lE, trivial⟩ trivial trivial) (by intro q; rcases q with (v_9 | _) <;> (intro e; exact Exit.noConfusion e)) ?_ ?_; all_goals clear h
 ·intro v_6 x h R hR hX
  rw [m_slices_IndexFunc_Lapi_SealKind_api_SealKind_L1] at h
  (conv => cbv)
  refine L_tst hI h (by subst_vars; rfl) ?_ ?_ <;> clear h <;> intro h
  ·refine L_get hI h (fun g => by subst_vars; exact g) ?_; clear h; intro hc x_10 hxx_10 h
   refine K_conj hI (by subst_vars; exact hdf_2) ?_
   refine L_callD hI h (args' := [.agg [sl_api_Span false x_10.Sizes, .str x_10.Mark]]) (fun v hv => hpf_2 x_10 v hv) (by subst_vars; rfl) ?_; clear h; intro v_11 h; (conv => cbv)
   refine L_tst hI h (by subst_vars; rfl) ?_ ?_ <;> clear h <;> intro h
   ·exact hX _ _ (Option.some.inj h).symm (by subst_vars; exact weak_l rfl rfl ⟨lE, trivial⟩ trivial trivial)
   ·exact hR _ _ (Option.some.inj h).symm (by subst_vars; exact weak_l rfl rfl ⟨LV_sl, lR, lE, lE, trivial⟩ trivial trivial)
  ·exact hX _ _ (Option.some.inj h).symm (by subst_vars; exact weak_l rfl rfl trivial trivial trivial)
 ·intro q h
  rcases q with (v_9 | _)
  ·(conv => cbv)
   cases h
   subst_vars
   exact ⟨lE, rfl⟩
  ·(conv => cbv)
   cases h
   subst_vars
   exact ⟨lE, rfl⟩
theorem w_slices_ContainsFunc_Lapi_SealKind_api_SealKind (N : Nat) (s_1 : (List api_SealKind)) (f_2 : api_SealKind -> Option Bool) (kf_2 : Nat) (dsf_2 : List D) (hdf_2 : noAggD dsf_2 = true) (hpf_2 : ∀ x0 r, f_2 x0 = some r -> KD Try.prog kf_2 [.agg [sl_api_Span false x0.Sizes, .str x0.Mark]] dsf_2 (.bool r)) (o : Bool) (h : m_slices_ContainsFunc_Lapi_SealKind_api_SealKind N s_1 f_2 = some o) :
  KC Try.prog 57 [sl_api_SealKind false s_1, .d (.fn kf_2 dsf_2)] (.bool o) [] := by
 unfold m_slices_ContainsFunc_Lapi_SealKind_api_SealKind at h
 refine con_l [] [] seat Try.func57 rfl ent_57 (by kernel_rfl) rfl rfl (by simp) ?_; intro base I hI; (conv => cbv)
 refine L_call hI h (fun v hv => w_slices_IndexFunc_Lapi_SealKind_api_SealKind N s_1 f_2 kf_2 dsf_2 hdf_2 hpf_2 v hv) (by subst_vars; exact ⟨(leD_refl _), (leD_refl _), rfl⟩) ?_; clear h; intro r_3 h; (conv => cbv)
 cases h
 subst_vars
 exact ⟨lE, rfl⟩
theorem w_slices_IndexFunc_Lapi_Span_api_Span (N : Nat) (s_1 : (List api_Span)) (f_2 : api_Span -> Option Bool) (kf_2 : Nat) (dsf_2 : List D) (hdf_2 : noAggD dsf_2 = true) (hpf_2 : ∀ x0 r, f_2 x0 = some r -> KD Try.prog kf_2 [.agg [.int .i64 x0.Low, .int .i64 x0.High]] dsf_2 (.bool r)) (o : Int) (h : m_slices_IndexFunc_Lapi_Span_api_Span N s_1 f_2 = some o) :
  KC Try.prog 107 [sl_api_Span false s_1, .d (.fn kf_2 dsf_2)] (.int .i64 o) [] := by
 unfold m_slices_IndexFunc_Lapi_Span_api_Span at h
 refine con_l [] [] seat Try.func107 rfl ent_107 (by kernel_rfl) rfl rfl (by simp) ?_; intro base I hI; (conv => cbv)
 replace h := letO_of h; obtain ⟨v_3, hev_3, h⟩ := h
 refine L_loop hI seat [] (by kernel_rfl) h (fun q => match q with | v_6 => ⟨19, [(0, sl_api_Span false s_1), (1, .d (.fn kf_2 dsf_2)), (7, .int .i64 v_3), (8, .int .i64 v_6)], [], [], 0⟩) (fun q => match q with | (.inl v_9) => .ret | (.inr ()) => .exit 0) (fun q => match q with | (.inl v_9) => ⟨19, [(4, .int .i64 v_9)], [], [], 0⟩ | (.inr ()) => ⟨19, [], [], [], 0⟩) (by subst_vars; exact weak_l rfl rfl ⟨LV_sl, lR, lE, lE, trivial⟩ trivial trivial) (by intro q; rcases q with (v_9 | _) <;> (intro e; exact Exit.noConfusion e)) ?_ ?_; all_goals clear h
 ·intro v_6 x h R hR hX
  rw [m_slices_IndexFunc_Lapi_Span_api_Span_L1] at h
  (conv => cbv)
  refine L_tst hI h (by subst_vars; rfl) ?_ ?_ <;> clear h <;> intro h
  ·refine L_get hI h (fun g => by subst_vars; exact g) ?_; clear h; intro hc x_10 hxx_10 h
   refine K_conj hI (by subst_vars; exact hdf_2) ?_
   refine L_callD hI h (args' := [.agg [.int .i64 x_10.Low, .int .i64 x_10.High]]) (fun v hv => hpf_2 x_10 v hv) (by subst_vars; rfl) ?_; clear h; intro v_11 h; (conv => cbv)
   refine L_tst hI h (by subst_vars; rfl) ?_ ?_ <;> clear h <;> intro h
   ·exact hX _ _ (Option.some.inj h).symm (by subst_vars; exact weak_l rfl rfl ⟨lE, trivial⟩ trivial trivial)
   ·exact hR _ _ (Option.some.inj h).symm (by subst_vars; exact weak_l rfl rfl ⟨LV_sl, lR, lE, lE, trivial⟩ trivial trivial)
  ·exact hX _ _ (Option.some.inj h).symm (by subst_vars; exact weak_l rfl rfl trivial trivial trivial)
 ·intro q h
  rcases q with (v_9 | _)
  ·(conv => cbv)
   cases h
   subst_vars
   exact ⟨lE, rfl⟩
  ·(conv => cbv)
   cases h
   subst_vars
   exact ⟨lE, rfl⟩
theorem w_slices_ContainsFunc_Lapi_Span_api_Span (N : Nat) (s_1 : (List api_Span)) (f_2 : api_Span -> Option Bool) (kf_2 : Nat) (dsf_2 : List D) (hdf_2 : noAggD dsf_2 = true) (hpf_2 : ∀ x0 r, f_2 x0 = some r -> KD Try.prog kf_2 [.agg [.int .i64 x0.Low, .int .i64 x0.High]] dsf_2 (.bool r)) (o : Bool) (h : m_slices_ContainsFunc_Lapi_Span_api_Span N s_1 f_2 = some o) :
  KC Try.prog 88 [sl_api_Span false s_1, .d (.fn kf_2 dsf_2)] (.bool o) [] := by
 unfold m_slices_ContainsFunc_Lapi_Span_api_Span at h
 refine con_l [] [] seat Try.func88 rfl ent_88 (by kernel_rfl) rfl rfl (by simp) ?_; intro base I hI; (conv => cbv)
 refine L_call hI h (fun v hv => w_slices_IndexFunc_Lapi_Span_api_Span N s_1 f_2 kf_2 dsf_2 hdf_2 hpf_2 v hv) (by subst_vars; exact ⟨(leD_refl _), (leD_refl _), rfl⟩) ?_; clear h; intro r_3 h; (conv => cbv)
 cases h
 subst_vars
 exact ⟨lE, rfl⟩
theorem w_seal_isSpan (N : Nat) (s_1 : api_Span) (o : Bool) (h : m_seal_isSpan N s_1 = some o) :
  KC Try.prog 90 [.agg [.int .i64 s_1.Low, .int .i64 s_1.High]] (.bool o) [] := by
 unfold m_seal_isSpan at h
 refine con_l [] [1000001] seat Try.func90 rfl ent_90 (by kernel_rfl) rfl rfl (by simp) ?_; intro base I hI; (conv => cbv)
 refine L_cut hI seat [] (by kernel_rfl) h (fun q => match q with | v_3 => .normal) (fun q => match q with | v_3 => ⟨16, [(2, .bool v_3)], [], [], 0⟩) ?_ ?_; all_goals clear h
 ·intro x h R hR
  (conv => cbv)
  refine L_call hI h (fun v hv => w_seal_within N 0 2000 [s_1.Low, s_1.High] v hv) (by subst_vars; exact ⟨(leD_refl _), (leD_refl _), ⟨.inl rfl, rfl, leDLL_refl _⟩, rfl⟩) ?_; clear h; intro r_4 h; (conv => cbv)
  refine L_tst hI h (by subst_vars; rfl) ?_ ?_ <;> clear h <;> intro h
  ·exact hR _ _ (Option.some.inj h).symm (by subst_vars; exact weak_l rfl rfl ⟨lE, trivial⟩ trivial trivial)
  ·exact hR _ _ (Option.some.inj h).symm (by subst_vars; exact weak_l rfl rfl ⟨lE, trivial⟩ trivial trivial)
 ·intro v_3 h
  (conv => cbv)
  cases h
  subst_vars
  exact ⟨lE, rfl⟩
theorem w_seal_isKind_1 (N : Nat) (s_1 : api_Span) (o : Bool) (h : m_seal_isKind_1 N s_1 = some o) :
  KC Try.prog 89 [.agg [.int .i64 s_1.Low, .int .i64 s_1.High]] (.bool o) [] := by
 unfold m_seal_isKind_1 at h
 refine con_l [] [] seat Try.func89 rfl ent_89 (by kernel_rfl) rfl rfl (by simp) ?_; intro base I hI; (conv => cbv)
 refine L_call hI h (fun v hv => w_seal_isSpan N s_1 v hv) (by subst_vars; exact ⟨(leD_refl _), rfl⟩) ?_; clear h; intro r_2 h; (conv => cbv)
 cases h
 subst_vars
 exact ⟨lE, rfl⟩
theorem w_seal_isMark (N : Nat) (mark_1 : ByteArray) (others_2 : ByteArray) (o : Bool) (h : m_seal_isMark N mark_1 others_2 = some o) :
  KC Try.prog 70 [.str mark_1, .str others_2] (.bool o) [] := by
 unfold m_seal_isMark at h
 refine con_l [] [1000005, 1000006, 2000012] seat Try.func70 rfl ent_70 (by kernel_rfl) rfl rfl (by simp) ?_; intro base I hI; (conv => cbv)
 refine L_loop hI seat [1000005, 1000006, 2000012] (by kernel_rfl) h (fun q => match q with | p_8 => ⟨33, [(0, .str mark_1), (1, .str others_2), (8, .osl 0)], [], [(0, ⟨0, 0, [.rw [[.str mark_1, .int .i64 p_8]]], false, true⟩)], 0⟩) (fun q => match q with | (.inl ()) => .ret | (.inr ()) => .exit 0) (fun q => match q with | (.inl ()) => ⟨33, [(4, .ff)], [], [], 0⟩ | (.inr ()) => ⟨33, [(0, .str mark_1)], [], [], 0⟩) (by subst_vars; exact weak_l rfl rfl ⟨lE, lE, lR, trivial⟩ trivial ⟨lO, trivial⟩) (by intro q; rcases q with (_ | _) <;> (intro e; exact Exit.noConfusion e)) ?_ ?_; all_goals clear h
 ·intro p_8 x h R hR hX
  rw [m_seal_isMark_L1] at h
  (conv => cbv)
  refine L_tst hI h (by subst_vars; rfl) ?_ ?_ <;> clear h <;> intro h
  ·replace h := letO_of h; obtain ⟨c_15, hec_15, h⟩ := h
   replace h := letO_of h; obtain ⟨v_16, hev_16, h⟩ := h
   refine L_cut hI seat [1000006, 2000012] (by kernel_rfl) h (fun q => match q with | v_14 => .normal) (fun q => match q with | v_14 => ⟨33, [(0, .str mark_1), (1, .str others_2), (6, .int .i32 c_15), (8, .osl 0), (12, .bool v_14)], [], [(0, ⟨0, 0, [.rw [[.str mark_1, .int .i64 v_16]]], false, true⟩)], 0⟩) ?_ ?_; all_goals clear h
   ·intro x h R hR
    (conv => cbv)
    refine L_tst hI h (by subst_vars; rfl) ?_ ?_ <;> clear h <;> intro h
    ·exact hR _ _ (Option.some.inj h).symm (by subst_vars; exact weak_l rfl rfl ⟨lE, lE, lE, lR, lE, trivial⟩ trivial ⟨lO, trivial⟩)
    ·exact hR _ _ (Option.some.inj h).symm (by subst_vars; exact weak_l rfl rfl ⟨lE, lE, lE, lR, lE, trivial⟩ trivial ⟨lO, trivial⟩)
   ·intro v_14 h
    (conv => cbv)
    refine L_cut hI seat [1000005, 1000006] (by kernel_rfl) h (fun q => match q with | (.inl ()) => .normal | (.inr ()) => .ret) (fun q => match q with | (.inl ()) => ⟨33, [(0, .str mark_1), (1, .str others_2), (8, .osl 0)], [], [(0, ⟨0, 0, [.rw [[.str mark_1, .int .i64 v_16]]], false, true⟩)], 0⟩ | (.inr ()) => ⟨33, [(4, .ff)], [], [], 0⟩) ?_ ?_; all_goals clear h
    ·intro x h R hR
     (conv => cbv)
     refine L_tst hI h (by subst_vars; rfl) ?_ ?_ <;> clear h <;> intro h
     ·exact hR _ _ (Option.some.inj h).symm (by subst_vars; exact weak_l rfl rfl ⟨lE, lE, lR, trivial⟩ trivial ⟨lO, trivial⟩)
     ·refine L_cut hI seat [1000005, 2000012] (by kernel_rfl) h (fun q => match q with | v_18 => .normal) (fun q => match q with | v_18 => ⟨33, [(0, .str mark_1), (1, .str others_2), (8, .osl 0), (19, .bool v_18)], [], [(0, ⟨0, 0, [.rw [[.str mark_1, .int .i64 v_16]]], false, true⟩)], 0⟩) ?_ ?_; all_goals clear h
      ·intro x h R hR
       (conv => cbv)
       refine L_tst hI h (by subst_vars; rfl) ?_ ?_ <;> clear h <;> intro h
       ·refine L_conj hI h (fun g => by subst_vars; exact g) ?_; clear h; intro hc h
        exact hR _ _ (Option.some.inj h).symm (by subst_vars; exact weak_l rfl rfl ⟨lE, lE, lR, lE, trivial⟩ trivial ⟨lO, trivial⟩)
       ·exact hR _ _ (Option.some.inj h).symm (by subst_vars; exact weak_l rfl rfl ⟨lE, lE, lR, lE, trivial⟩ trivial ⟨lO, trivial⟩)
      ·intro v_18 h
       (conv => cbv)
       refine L_tst hI h (by subst_vars; rfl) ?_ ?_ <;> clear h <;> intro h
       ·exact hR _ _ (Option.some.inj h).symm (by subst_vars; exact weak_l rfl rfl ⟨lE, lE, lR, trivial⟩ trivial ⟨lO, trivial⟩)
       ·exact hR _ _ (Option.some.inj h).symm (by subst_vars; exact weak_l rfl rfl ⟨lE, trivial⟩ trivial trivial)
    ·intro q h
     rcases q with (_ | _)
     ·(conv => cbv)
      exact hR _ _ (Option.some.inj h).symm (by subst_vars; exact weak_l rfl rfl ⟨lE, lE, lR, trivial⟩ trivial ⟨lO, trivial⟩)
     ·(conv => cbv)
      exact hX _ _ (Option.some.inj h).symm (by subst_vars; exact weak_l rfl rfl ⟨lE, trivial⟩ trivial trivial)
  ·exact hX _ _ (Option.some.inj h).symm (by subst_vars; exact weak_l rfl rfl ⟨lE, trivial⟩ trivial trivial)
 ·intro q h
  rcases q with (_ | _)
  ·(conv => cbv)
   cases h
   subst_vars
   exact ⟨lE, rfl⟩
  ·(conv => cbv)
   refine L_call hI h (fun v hv => w_seal_within N 1 8 [(mark_1.size : Int)] v hv) (by subst_vars; exact ⟨(leD_refl _), (leD_refl _), ⟨.inl rfl, rfl, leDLL_refl _⟩, rfl⟩) ?_; clear h; intro r_19 h; (conv => cbv)
   cases h
   subst_vars
   exact ⟨lE, rfl⟩
theorem w_seal_isKind (N : Nat) (k_1 : api_SealKind) (o : Bool) (h : m_seal_isKind N k_1 = some o) :
  KC Try.prog 59 [.agg [sl_api_Span false k_1.Sizes, .str k_1.Mark]] (.bool o) [] := by
 unfold m_seal_isKind at h
 refine con_l [] [1000001] seat Try.func59 rfl ent_59 (by kernel_rfl) rfl rfl (by simp) ?_; intro base I hI; (conv => cbv)
 refine L_cut hI seat [] (by kernel_rfl) h (fun q => match q with | v_4 => .normal) (fun q => match q with | v_4 => ⟨18, [(2, .bool v_4)], [], [], 0⟩) ?_ ?_; all_goals clear h
 ·intro x h R hR
  (conv => cbv)
  refine L_tst hI h (by subst_vars; rfl) ?_ ?_ <;> clear h <;> intro h
  ·refine L_call hI h (fun v hv => w_slices_ContainsFunc_Lapi_Span_api_Span N k_1.Sizes (fun x0 => m_seal_isKind_1 N x0) 89 (KV.toDL []) rfl (fun x0 r hr => KD_of (caps := []) (w_seal_isKind_1 N x0 r hr)) v hv) (by subst_vars; exact ⟨(leD_refl _), (leD_refl _), rfl⟩) ?_; clear h; intro r_5 h; (conv => cbv)
   refine L_tst hI h (by subst_vars; rfl) ?_ ?_ <;> clear h <;> intro h
   ·refine L_call hI h (fun v hv => w_seal_isMark N k_1.Mark ⟨#[]⟩ v hv) (by subst_vars; exact ⟨(leD_refl _), (leD_refl _), rfl⟩) ?_; clear h; intro r_6 h; (conv => cbv)
    exact hR _ _ (Option.some.inj h).symm (by subst_vars; exact weak_l rfl rfl ⟨lE, trivial⟩ trivial trivial)
   ·exact hR _ _ (Option.some.inj h).symm (by subst_vars; exact weak_l rfl rfl ⟨lE, trivial⟩ trivial trivial)
  ·exact hR _ _ (Option.some.inj h).symm (by subst_vars; exact weak_l rfl rfl ⟨lE, trivial⟩ trivial trivial)
 ·intro v_4 h
  (conv => cbv)
  cases h
  subst_vars
  exact ⟨lE, rfl⟩
theorem w_seal_Check_1 (N : Nat) (k_1 : api_SealKind) (o : Bool) (h : m_seal_Check_1 N k_1 = some o) :
  KC Try.prog 58 [.agg [sl_api_Span false k_1.Sizes, .str k_1.Mark]] (.bool o) [] := by
 unfold m_seal_Check_1 at h
 refine con_l [] [] seat Try.func58 rfl ent_58 (by kernel_rfl) rfl rfl (by simp) ?_; intro base I hI; (conv => cbv)
 refine L_call hI h (fun v hv => w_seal_isKind N k_1 v hv) (by subst_vars; exact ⟨(leD_refl _), rfl⟩) ?_; clear h; intro r_2 h; (conv => cbv)
 cases h
 subst_vars
 exact ⟨lE, rfl⟩
theorem w_seal_Check (N : Nat) (s_1 : api_SealStatute) (o : Int) (h : m_seal_Check N s_1 = some o) :
  KC Try.prog 19 [.agg [sl_api_SealKind false s_1.Kinds, .int .i64 s_1.Grace, .int .i64 s_1.Fine, sl_int false s_1.Off]] (.int .i64 o) [] := by
 unfold m_seal_Check at h
 refine con_l [] [2000003, 2000014] seat Try.func19 rfl ent_19 (by kernel_rfl) rfl rfl (by simp) ?_; intro base I hI; (conv => cbv)
 refine L_call hI h (fun v hv => w_seal_within N 1 6 [((s_1.Kinds.length : Nat) : Int)] v hv) (by subst_vars; exact ⟨(leD_refl _), (leD_refl _), ⟨.inl rfl, rfl, leDLL_refl _⟩, rfl⟩) ?_; clear h; intro r_2 h; (conv => cbv)
 refine L_cut hI seat [2000014] (by kernel_rfl) h (fun q => match q with | v_3 => .normal) (fun q => match q with | v_3 => ⟨32, [(1, .loc 0 0), (3, .bool v_3)], [(0, ⟨25, [sl_api_SealKind false s_1.Kinds, .int .i64 s_1.Grace, .int .i64 s_1.Fine, sl_int false s_1.Off], true⟩)], [], 0⟩) ?_ ?_; all_goals clear h
 ·intro x h R hR
  (conv => cbv)
  refine L_tst hI h (by subst_vars; rfl) ?_ ?_ <;> clear h <;> intro h
  ·exact hR _ _ (Option.some.inj h).symm (by subst_vars; exact weak_l rfl rfl ⟨lR, lE, trivial⟩ ⟨lB ⟨LV_sl, lE, lE, LV_sl, rfl⟩, trivial⟩ trivial)
  ·exact hR _ _ (Option.some.inj h).symm (by subst_vars; exact weak_l rfl rfl ⟨lR, lE, trivial⟩ ⟨lB ⟨LV_sl, lE, lE, LV_sl, rfl⟩, trivial⟩ trivial)
 ·intro v_3 h
  (conv => cbv)
  refine L_cut hI seat [2000014] (by kernel_rfl) h (fun q => match q with | (.inl v_17) => .ret | (.inr ()) => .normal) (fun q => match q with | (.inl v_17) => ⟨32, [(2, .int .i64 v_17)], [], [], 0⟩ | (.inr ()) => ⟨32, [], [], [], 0⟩) ?_ ?_; all_goals clear h
  ·intro x h R hR
   (conv => cbv)
   refine L_tst hI h (by subst_vars; rfl) ?_ ?_ <;> clear h <;> intro h
   ·exact hR _ _ (Option.some.inj h).symm (by subst_vars; exact weak_l rfl rfl ⟨lE, trivial⟩ trivial trivial)
   ·refine L_call hI h (fun v hv => w_slices_ContainsFunc_Lapi_SealKind_api_SealKind N s_1.Kinds (fun x0 => m_seal_Check_1 N x0) 58 (KV.toDL []) rfl (fun x0 r hr => KD_of (caps := []) (w_seal_Check_1 N x0 r hr)) v hv) (by subst_vars; exact ⟨(leD_refl _), (leD_refl _), rfl⟩) ?_; clear h; intro r_18 h; (conv => cbv)
    refine L_cut hI seat [2000003] (by kernel_rfl) h (fun q => match q with | v_27 => .normal) (fun q => match q with | v_27 => ⟨32, [(14, .bool v_27)], [], [], 0⟩) ?_ ?_; all_goals clear h
    ·intro x h R hR
     (conv => cbv)
     refine L_tst hI h (by subst_vars; rfl) ?_ ?_ <;> clear h <;> intro h
     ·exact hR _ _ (Option.some.inj h).symm (by subst_vars; exact weak_l rfl rfl ⟨lE, trivial⟩ trivial trivial)
     ·refine L_call hI h (fun v hv => w_seal_within N 0 50 [s_1.Grace] v hv) (by subst_vars; exact ⟨(leD_refl _), (leD_refl _), ⟨.inl rfl, rfl, leDLL_refl _⟩, rfl⟩) ?_; clear h; intro r_28 h; (conv => cbv)
      refine L_tst hI h (by subst_vars; rfl) ?_ ?_ <;> clear h <;> intro h
      ·exact hR _ _ (Option.some.inj h).symm (by subst_vars; exact weak_l rfl rfl ⟨lE, trivial⟩ trivial trivial)
      ·refine L_call hI h (fun v hv => w_seal_within N 0 100 [s_1.Fine] v hv) (by subst_vars; exact ⟨(leD_refl _), (leD_refl _), ⟨.inl rfl, rfl, leDLL_refl _⟩, rfl⟩) ?_; clear h; intro r_29 h; (conv => cbv)
       refine L_tst hI h (by subst_vars; rfl) ?_ ?_ <;> clear h <;> intro h
       ·exact hR _ _ (Option.some.inj h).symm (by subst_vars; exact weak_l rfl rfl ⟨lE, trivial⟩ trivial trivial)
       ·refine L_call hI h (fun v hv => w_seal_within N 0 20 s_1.Off v hv) (by subst_vars; exact ⟨(leD_refl _), (leD_refl _), (leD_refl _), rfl⟩) ?_; clear h; intro r_30 h; (conv => cbv)
        exact hR _ _ (Option.some.inj h).symm (by subst_vars; exact weak_l rfl rfl ⟨lE, trivial⟩ trivial trivial)
    ·intro v_27 h
     (conv => cbv)
     refine L_cut hI seat [2000003] (by kernel_rfl) h (fun q => match q with | (.inl ()) => .ret | (.inr ()) => .normal) (fun q => match q with | (.inl ()) => ⟨32, [(2, .lit .i64 2)], [], [], 0⟩ | (.inr ()) => ⟨32, [], [], [], 0⟩) ?_ ?_; all_goals clear h
     ·intro x h R hR
      (conv => cbv)
      refine L_tst hI h (by subst_vars; rfl) ?_ ?_ <;> clear h <;> intro h
      ·exact hR _ _ (Option.some.inj h).symm (by subst_vars; exact weak_l rfl rfl ⟨lE, trivial⟩ trivial trivial)
      ·exact hR _ _ (Option.some.inj h).symm (by subst_vars; exact weak_l rfl rfl trivial trivial trivial)
     ·intro q h
      rcases q with (_ | _)
      ·(conv => cbv)
       exact hR _ _ (Option.some.inj h).symm (by subst_vars; exact weak_l rfl rfl ⟨lE, trivial⟩ trivial trivial)
      ·(conv => cbv)
       exact hR _ _ (Option.some.inj h).symm (by subst_vars; exact weak_l rfl rfl trivial trivial trivial)
  ·intro q h
   rcases q with (v_17 | _)
   ·(conv => cbv)
    cases h
    subst_vars
    exact ⟨lE, rfl⟩
   ·(conv => cbv)
    cases h
    subst_vars
    exact ⟨lE, rfl⟩
theorem w_seal_newCloth (N : Nat) (s_1 : api_SealStatute) (read_2 : (List Int)) (o : seal_cloth × Int) (h : m_seal_newCloth N s_1 read_2 = some o) :
  KC Try.prog 60 [.agg [sl_api_SealKind false s_1.Kinds, .int .i64 s_1.Grace, .int .i64 s_1.Fine, sl_int false s_1.Off], sl_int false read_2] (.tup [.agg [sl_api_SealKind false o.1.SealStatute.Kinds, .int .i64 o.1.SealStatute.Grace, .int .i64 o.1.SealStatute.Fine, sl_int false o.1.SealStatute.Off, .int .i64 o.1.can.a0.Low, .int .i64 o.1.can.a0.High, .int .i64 o.1.can.a1.Low, .int .i64 o.1.can.a1.High, .int .i64 o.1.can.a2.Low, .int .i64 o.1.can.a2.High], .int .i64 o.2]) [] := by
 unfold m_seal_newCloth at h
 refine con_l [] [1000011, 2000015] seat Try.func60 rfl ent_60 (by kernel_rfl) rfl rfl (by simp) ?_; intro base I hI; (conv => cbv)
 refine L_call hI h (fun v hv => w_seal_Check N s_1 v hv) (by subst_vars; exact ⟨(leD_refl _), rfl⟩) ?_; clear h; intro r_3 h; (conv => cbv)
 refine L_tst hI h (by subst_vars; rfl) ?_ ?_ <;> clear h <;> intro h
 ·cases h
  subst_vars
  exact ⟨(LV_tup ⟨(LV_agg ⟨LV_nil, lE, lE, LV_nil, lE, lE, lE, lE, lE, lE, rfl⟩), lE, rfl⟩), rfl⟩
 ·refine L_cut hI seat [1000011] (by kernel_rfl) h (fun q => match q with | v_5 => .normal) (fun q => match q with | v_5 => ⟨53, [(1, sl_int false read_2), (2, .loc 0 0), (4, .loc 1 0), (15, .bool v_5)], [(1, ⟨120, [.nilsl, .lit .i64 0, .lit .i64 0, .nilsl, .lit .i64 0, .lit .i64 0, .lit .i64 0, .lit .i64 0, .lit .i64 0, .lit .i64 0], true⟩), (0, ⟨25, [sl_api_SealKind false s_1.Kinds, .int .i64 s_1.Grace, .int .i64 s_1.Fine, sl_int false s_1.Off], true⟩)], [], 0⟩) ?_ ?_; all_goals clear h
  ·intro x h R hR
   (conv => cbv)
   refine L_tst hI h (by subst_vars; rfl) ?_ ?_ <;> clear h <;> intro h
   ·exact hR _ _ (Option.some.inj h).symm (by subst_vars; exact weak_l rfl rfl ⟨LV_sl, lR, lR, lE, trivial⟩ ⟨lB ⟨lR, lE, lE, lR, lE, lE, lE, lE, lE, lE, rfl⟩, lB ⟨LV_sl, lE, lE, LV_sl, rfl⟩, trivial⟩ trivial)
   ·refine L_call hI h (fun v hv => w_seal_within N 0 2000 read_2 v hv) (by subst_vars; exact ⟨(leD_refl _), (leD_refl _), (leD_refl _), rfl⟩) ?_; clear h; intro r_6 h; (conv => cbv)
    exact hR _ _ (Option.some.inj h).symm (by subst_vars; exact weak_l rfl rfl ⟨LV_sl, lR, lR, lE, trivial⟩ ⟨lB ⟨lR, lE, lE, lR, lE, lE, lE, lE, lE, lE, rfl⟩, lB ⟨LV_sl, lE, lE, LV_sl, rfl⟩, trivial⟩ trivial)
  ·intro v_5 h
   (conv => cbv)
   refine L_cut hI seat [1000011] (by kernel_rfl) h (fun q => match q with | (.inl ()) => .ret | (.inr ()) => .normal) (fun q => match q with | (.inl ()) => ⟨53, [(4, .loc 1 0), (5, .lit .i64 3)], [(1, ⟨120, [.nilsl, .lit .i64 0, .lit .i64 0, .nilsl, .lit .i64 0, .lit .i64 0, .lit .i64 0, .lit .i64 0, .lit .i64 0, .lit .i64 0], true⟩)], [], 0⟩ | (.inr ()) => ⟨53, [(1, sl_int false read_2), (2, .loc 0 0), (4, .loc 1 0)], [(1, ⟨120, [.nilsl, .lit .i64 0, .lit .i64 0, .nilsl, .lit .i64 0, .lit .i64 0, .lit .i64 0, .lit .i64 0, .lit .i64 0, .lit .i64 0], true⟩), (0, ⟨25, [sl_api_SealKind false s_1.Kinds, .int .i64 s_1.Grace, .int .i64 s_1.Fine, sl_int false s_1.Off], true⟩)], [], 0⟩) ?_ ?_; all_goals clear h
   ·intro x h R hR
    (conv => cbv)
    refine L_tst hI h (by subst_vars; rfl) ?_ ?_ <;> clear h <;> intro h
    ·exact hR _ _ (Option.some.inj h).symm (by subst_vars; exact weak_l rfl rfl ⟨lR, lE, trivial⟩ ⟨lB ⟨lR, lE, lE, lR, lE, lE, lE, lE, lE, lE, rfl⟩, trivial⟩ trivial)
    ·exact hR _ _ (Option.some.inj h).symm (by subst_vars; exact weak_l rfl rfl ⟨LV_sl, lR, lR, trivial⟩ ⟨lB ⟨lR, lE, lE, lR, lE, lE, lE, lE, lE, lE, rfl⟩, lB ⟨LV_sl, lE, lE, LV_sl, rfl⟩, trivial⟩ trivial)
   ·intro q h
    rcases q with (_ | _)
    ·(conv => cbv)
     cases h
     subst_vars
     exact ⟨(LV_tup ⟨(LV_agg ⟨LV_nil, lE, lE, LV_nil, lE, lE, lE, lE, lE, lE, rfl⟩), lE, rfl⟩), rfl⟩
    ·(conv => cbv)
     replace h := letO_of h; obtain ⟨v_7, hev_7, h⟩ := h
     refine L_loop hI seat [1000011, 2000015] (by kernel_rfl) h (fun q => match q with | (v_15, c_16, c_17, c_29, c_30, c_31, c_32) => ⟨53, [(2, .loc 0 0), (4, .loc 1 0), (25, sl_int false read_2), (26, .int .i64 v_7), (27, .int .i64 v_15)], [(1, ⟨120, [sl_api_SealKind false s_1.Kinds, .int .i64 s_1.Grace, .int .i64 s_1.Fine, sl_int false s_1.Off, .int .i64 c_16, .int .i64 c_17, .int .i64 c_29, .int .i64 c_30, .int .i64 c_31, .int .i64 c_32], true⟩), (0, ⟨25, [sl_api_SealKind false s_1.Kinds, .int .i64 s_1.Grace, .int .i64 s_1.Fine, sl_int false s_1.Off], true⟩)], [], 0⟩) (fun q => match q with | (c_44, c_45, c_46, c_47, c_48, c_49) => .exit 1) (fun q => match q with | (c_44, c_45, c_46, c_47, c_48, c_49) => ⟨53, [(4, .loc 1 0)], [(1, ⟨120, [sl_api_SealKind false s_1.Kinds, .int .i64 s_1.Grace, .int .i64 s_1.Fine, sl_int false s_1.Off, .int .i64 c_44, .int .i64 c_45, .int .i64 c_46, .int .i64 c_47, .int .i64 c_48, .int .i64 c_49], true⟩)], [], 0⟩) (by subst_vars; exact weak_l rfl rfl ⟨lR, lR, LV_sl, lE, lE, trivial⟩ ⟨lB ⟨LV_sl, lE, lE, LV_sl, lE, lE, lE, lE, lE, lE, rfl⟩, lB ⟨LV_sl, lE, lE, LV_sl, rfl⟩, trivial⟩ trivial) (by intro q; rcases q with ⟨c_44, c_45, c_46, c_47, c_48, c_49⟩ <;> (intro e; exact Exit.noConfusion e)) ?_ ?_; all_goals clear h
     ·intro q x h R hR hX
      obtain ⟨v_15, c_16, c_17, c_29, c_30, c_31, c_32⟩ := q
      rw [m_seal_newCloth_L1] at h
      (conv => cbv)
      refine L_tst hI h (by subst_vars; rfl) ?_ ?_ <;> clear h <;> intro h
      ·refine L_get hI h (fun g => by subst_vars; exact g) ?_; clear h; intro hc x_50 hxx_50 h
       refine L_cut hI seat [2000015] (by kernel_rfl) h (fun q => match q with | (c_53, c_54, c_55, c_56, c_57, c_58) => .normal) (fun q => match q with | (c_53, c_54, c_55, c_56, c_57, c_58) => ⟨53, [(2, .loc 0 0), (4, .loc 1 0), (25, sl_int false read_2), (26, .int .i64 v_7), (27, .int .i64 v_15)], [(1, ⟨120, [sl_api_SealKind false s_1.Kinds, .int .i64 s_1.Grace, .int .i64 s_1.Fine, sl_int false s_1.Off, .int .i64 c_53, .int .i64 c_54, .int .i64 c_55, .int .i64 c_56, .int .i64 c_57, .int .i64 c_58], true⟩), (0, ⟨25, [sl_api_SealKind false s_1.Kinds, .int .i64 s_1.Grace, .int .i64 s_1.Fine, sl_int false s_1.Off], true⟩)], [], 0⟩) ?_ ?_; all_goals clear h
       ·intro x h R hR
        (conv => cbv)
        refine L_get hI h (fun g => by subst_vars; exact g) ?_; clear h; intro hc x_59 hxx_59 h
        refine L_get hI h (fun g => by subst_vars; exact g) ?_; clear h; intro hc x_60 hxx_60 h
        refine L_conj hI h (fun g => by subst_vars; exact g) ?_; clear h; intro hc h
        refine L_tst hI h (by subst_vars; rfl) ?_ ?_ <;> clear h <;> intro h
        ·exact hR _ _ (Option.some.inj h).symm (by subst_vars; exact weak_l rfl rfl ⟨lR, lR, LV_sl, lE, lE, trivial⟩ ⟨lB ⟨LV_sl, lE, lE, LV_sl, lE, lE, lE, lE, lE, lE, rfl⟩, lB ⟨LV_sl, lE, lE, LV_sl, rfl⟩, trivial⟩ trivial)
        ·refine L_tst hI h (by subst_vars; rfl) ?_ ?_ <;> clear h <;> intro h
         ·exact hR _ _ (Option.some.inj h).symm (by subst_vars; exact weak_l rfl rfl ⟨lR, lR, LV_sl, lE, lE, trivial⟩ ⟨lB ⟨LV_sl, lE, lE, LV_sl, lE, lE, lE, lE, lE, lE, rfl⟩, lB ⟨LV_sl, lE, lE, LV_sl, rfl⟩, trivial⟩ trivial)
         ·exact hR _ _ (Option.some.inj h).symm (by subst_vars; exact weak_l rfl rfl ⟨lR, lR, LV_sl, lE, lE, trivial⟩ ⟨lB ⟨LV_sl, lE, lE, LV_sl, lE, lE, lE, lE, lE, lE, rfl⟩, lB ⟨LV_sl, lE, lE, LV_sl, rfl⟩, trivial⟩ trivial)
       ·intro q h
        rcases q with ⟨c_53, c_54, c_55, c_56, c_57, c_58⟩
        (conv => cbv)
        exact hR _ _ (Option.some.inj h).symm (by subst_vars; exact weak_l rfl rfl ⟨lR, lR, LV_sl, lE, lE, trivial⟩ ⟨lB ⟨LV_sl, lE, lE, LV_sl, lE, lE, lE, lE, lE, lE, rfl⟩, lB ⟨LV_sl, lE, lE, LV_sl, rfl⟩, trivial⟩ trivial)
      ·exact hX _ _ (Option.some.inj h).symm (by subst_vars; exact weak_l rfl rfl ⟨lR, trivial⟩ ⟨lB ⟨LV_sl, lE, lE, LV_sl, lE, lE, lE, lE, lE, lE, rfl⟩, trivial⟩ trivial)
     ·intro q h
      rcases q with ⟨c_44, c_45, c_46, c_47, c_48, c_49⟩
      (conv => cbv)
      cases h
      subst_vars
      exact ⟨(LV_tup ⟨(LV_agg ⟨LV_sl, lE, lE, LV_sl, lE, lE, lE, lE, lE, lE, rfl⟩), lE, rfl⟩), rfl⟩
theorem w_seal_beyond (N : Nat) (n_1 : Int) (s_2 : api_Span) (o : Int) (h : m_seal_beyond N n_1 s_2 = some o) :
  KC Try.prog 91 [.int .i64 n_1, .agg [.int .i64 s_2.Low, .int .i64 s_2.High]] (.int .i64 o) [] := by
 unfold m_seal_beyond at h
 refine con_l [] [] seat Try.func91 rfl ent_91 (by kernel_rfl) rfl rfl (by simp) ?_; intro base I hI; (conv => cbv)
 cases h
 subst_vars
 exact ⟨lE, rfl⟩
theorem w_seal_meet (N : Nat) (a_1 : api_Span) (b_2 : api_Span) (o : Bool) (h : m_seal_meet N a_1 b_2 = some o) :
  KC Try.prog 69 [.agg [.int .i64 a_1.Low, .int .i64 a_1.High], .agg [.int .i64 b_2.Low, .int .i64 b_2.High]] (.bool o) [] := by
 unfold m_seal_meet at h
 refine con_l [] [] seat Try.func69 rfl ent_69 (by kernel_rfl) rfl rfl (by simp) ?_; intro base I hI; (conv => cbv)
 cases h
 subst_vars
 exact ⟨lE, rfl⟩
theorem w_seal_cloth_isOf (N : Nat) (c_1 : seal_cloth) (k_2 : api_SealKind) (o : Bool × Bool) (h : m_seal_cloth_isOf N c_1 k_2 = some o) :
  KC Try.prog 61 [.agg [sl_api_SealKind false c_1.SealStatute.Kinds, .int .i64 c_1.SealStatute.Grace, .int .i64 c_1.SealStatute.Fine, sl_int false c_1.SealStatute.Off, .int .i64 c_1.can.a0.Low, .int .i64 c_1.can.a0.High, .int .i64 c_1.can.a1.Low, .int .i64 c_1.can.a1.High, .int .i64 c_1.can.a2.Low, .int .i64 c_1.can.a2.High], .agg [sl_api_Span false k_2.Sizes, .str k_2.Mark]] (.tup [.bool o.1, .bool o.2]) [] := by
 unfold m_seal_cloth_isOf at h
 refine con_l [] [1000005, 1000006] seat Try.func61 rfl ent_61 (by kernel_rfl) rfl rfl (by simp) ?_; intro base I hI; (conv => cbv)
 refine W_unroll hI seat [1000005, 1000006] (by kernel_rfl) 5 ?_; (conv => cbv)
 refine L_cut hI seat [1000006] (by kernel_rfl) h (fun q => match q with | surely_39 => .normal) (fun q => match q with | surely_39 => ⟨48, [(3, .loc 1 0), (4, .bool surely_39), (5, .tt), (6, .lit .i64 0), (7, .loc 2 0), (9, .agg [.int .i64 c_1.can.a0.Low, .int .i64 c_1.can.a0.High, .int .i64 c_1.can.a1.Low, .int .i64 c_1.can.a1.High, .int .i64 c_1.can.a2.Low, .int .i64 c_1.can.a2.High]), (10, .lit .i64 0)], [(2, ⟨40, [.int .i64 c_1.can.a0.Low, .int .i64 c_1.can.a0.High], true⟩), (1, ⟨106, [sl_api_Span false k_2.Sizes, .str k_2.Mark], true⟩)], [], 0⟩) ?_ ?_; all_goals clear h
 ·intro x h R hR
  (conv => cbv)
  refine L_get hI h (fun g => by subst_vars; exact g) ?_; clear h; intro hc x_40 hxx_40 h
  refine L_call hI h (fun v hv => w_seal_beyond N c_1.can.a0.Low x_40 v hv) (by subst_vars; exact ⟨(leD_refl _), (leD_refl _), rfl⟩) ?_; clear h; intro r_41 h; (conv => cbv)
  refine L_get hI h (fun g => by subst_vars; exact g) ?_; clear h; intro hc x_42 hxx_42 h
  refine L_call hI h (fun v hv => w_seal_beyond N c_1.can.a0.High x_42 v hv) (by subst_vars; exact ⟨(leD_refl _), (leD_refl _), rfl⟩) ?_; clear h; intro r_43 h; (conv => cbv)
  exact hR _ _ (Option.some.inj h).symm (by subst_vars; exact weak_l rfl rfl ⟨lR, lE, lE, lE, lR, (LV_agg ⟨lE, lE, lE, lE, lE, lE, rfl⟩), lE, trivial⟩ ⟨lB ⟨lE, lE, rfl⟩, lB ⟨LV_sl, lE, rfl⟩, trivial⟩ trivial)
 ·intro surely_39 h
  (conv => cbv)
  refine L_cut hI seat [1000005] (by kernel_rfl) h (fun q => match q with | possibly_46 => .normal) (fun q => match q with | possibly_46 => ⟨48, [(3, .loc 1 0), (4, .bool surely_39), (5, .bool possibly_46), (9, .agg [.int .i64 c_1.can.a0.Low, .int .i64 c_1.can.a0.High, .int .i64 c_1.can.a1.Low, .int .i64 c_1.can.a1.High, .int .i64 c_1.can.a2.Low, .int .i64 c_1.can.a2.High]), (10, .lit .i64 0)], [(1, ⟨106, [sl_api_Span false k_2.Sizes, .str k_2.Mark], true⟩)], [], 0⟩) ?_ ?_; all_goals clear h
  ·intro x h R hR
   (conv => cbv)
   refine L_get hI h (fun g => by subst_vars; exact g) ?_; clear h; intro hc x_47 hxx_47 h
   refine L_call hI h (fun v hv => w_seal_meet N c_1.can.a0 x_47 v hv) (by subst_vars; exact ⟨(leD_refl _), (leD_refl _), rfl⟩) ?_; clear h; intro r_48 h; (conv => cbv)
   exact hR _ _ (Option.some.inj h).symm (by subst_vars; exact weak_l rfl rfl ⟨lR, lE, lE, (LV_agg ⟨lE, lE, lE, lE, lE, lE, rfl⟩), lE, trivial⟩ ⟨lB ⟨LV_sl, lE, rfl⟩, trivial⟩ trivial)
  ·intro possibly_46 h
   (conv => cbv)
   refine L_cut hI seat [1000006] (by kernel_rfl) h (fun q => match q with | surely_53 => .normal) (fun q => match q with | surely_53 => ⟨48, [(3, .loc 1 0), (4, .bool surely_53), (5, .bool possibly_46), (6, .lit .i64 1), (7, .loc 2 0), (9, .agg [.int .i64 c_1.can.a0.Low, .int .i64 c_1.can.a0.High, .int .i64 c_1.can.a1.Low, .int .i64 c_1.can.a1.High, .int .i64 c_1.can.a2.Low, .int .i64 c_1.can.a2.High]), (10, .lit .i64 1)], [(2, ⟨40, [.int .i64 c_1.can.a1.Low, .int .i64 c_1.can.a1.High], true⟩), (1, ⟨106, [sl_api_Span false k_2.Sizes, .str k_2.Mark], true⟩)], [], 0⟩) ?_ ?_; all_goals clear h
   ·intro x h R hR
    (conv => cbv)
    refine L_tst hI h (by subst_vars; rfl) ?_ ?_ <;> clear h <;> intro h
    ·refine L_get hI h (fun g => by subst_vars; exact g) ?_; clear h; intro hc x_54 hxx_54 h
     refine L_call hI h (fun v hv => w_seal_beyond N c_1.can.a1.Low x_54 v hv) (by subst_vars; exact ⟨(leD_refl _), (leD_refl _), rfl⟩) ?_; clear h; intro r_55 h; (conv => cbv)
     refine L_get hI h (fun g => by subst_vars; exact g) ?_; clear h; intro hc x_56 hxx_56 h
     refine L_call hI h (fun v hv => w_seal_beyond N c_1.can.a1.High x_56 v hv) (by subst_vars; exact ⟨(leD_refl _), (leD_refl _), rfl⟩) ?_; clear h; intro r_57 h; (conv => cbv)
     exact hR _ _ (Option.some.inj h).symm (by subst_vars; exact weak_l rfl rfl ⟨lR, lE, lE, lE, lR, (LV_agg ⟨lE, lE, lE, lE, lE, lE, rfl⟩), lE, trivial⟩ ⟨lB ⟨lE, lE, rfl⟩, lB ⟨LV_sl, lE, rfl⟩, trivial⟩ trivial)
    ·exact hR _ _ (Option.some.inj h).symm (by subst_vars; exact weak_l rfl rfl ⟨lR, lE, lE, lE, lR, (LV_agg ⟨lE, lE, lE, lE, lE, lE, rfl⟩), lE, trivial⟩ ⟨lB ⟨lE, lE, rfl⟩, lB ⟨LV_sl, lE, rfl⟩, trivial⟩ trivial)
   ·intro surely_53 h
    (conv => cbv)
    refine L_cut hI seat [1000005] (by kernel_rfl) h (fun q => match q with | possibly_60 => .normal) (fun q => match q with | possibly_60 => ⟨48, [(3, .loc 1 0), (4, .bool surely_53), (5, .bool possibly_60), (9, .agg [.int .i64 c_1.can.a0.Low, .int .i64 c_1.can.a0.High, .int .i64 c_1.can.a1.Low, .int .i64 c_1.can.a1.High, .int .i64 c_1.can.a2.Low, .int .i64 c_1.can.a2.High]), (10, .lit .i64 1)], [(1, ⟨106, [sl_api_Span false k_2.Sizes, .str k_2.Mark], true⟩)], [], 0⟩) ?_ ?_; all_goals clear h
    ·intro x h R hR
     (conv => cbv)
     refine L_tst hI h (by subst_vars; rfl) ?_ ?_ <;> clear h <;> intro h
     ·refine L_get hI h (fun g => by subst_vars; exact g) ?_; clear h; intro hc x_61 hxx_61 h
      refine L_call hI h (fun v hv => w_seal_meet N c_1.can.a1 x_61 v hv) (by subst_vars; exact ⟨(leD_refl _), (leD_refl _), rfl⟩) ?_; clear h; intro r_62 h; (conv => cbv)
      exact hR _ _ (Option.some.inj h).symm (by subst_vars; exact weak_l rfl rfl ⟨lR, lE, lE, (LV_agg ⟨lE, lE, lE, lE, lE, lE, rfl⟩), lE, trivial⟩ ⟨lB ⟨LV_sl, lE, rfl⟩, trivial⟩ trivial)
     ·exact hR _ _ (Option.some.inj h).symm (by subst_vars; exact weak_l rfl rfl ⟨lR, lE, lE, (LV_agg ⟨lE, lE, lE, lE, lE, lE, rfl⟩), lE, trivial⟩ ⟨lB ⟨LV_sl, lE, rfl⟩, trivial⟩ trivial)
    ·intro possibly_60 h
     (conv => cbv)
     refine L_cut hI seat [1000006] (by kernel_rfl) h (fun q => match q with | surely_67 => .normal) (fun q => match q with | surely_67 => ⟨48, [(3, .loc 1 0), (4, .bool surely_67), (5, .bool possibly_60), (6, .lit .i64 2), (7, .loc 2 0), (9, .agg [.int .i64 c_1.can.a0.Low, .int .i64 c_1.can.a0.High, .int .i64 c_1.can.a1.Low, .int .i64 c_1.can.a1.High, .int .i64 c_1.can.a2.Low, .int .i64 c_1.can.a2.High]), (10, .lit .i64 2)], [(2, ⟨40, [.int .i64 c_1.can.a2.Low, .int .i64 c_1.can.a2.High], true⟩), (1, ⟨106, [sl_api_Span false k_2.Sizes, .str k_2.Mark], true⟩)], [], 0⟩) ?_ ?_; all_goals clear h
     ·intro x h R hR
      (conv => cbv)
      refine L_tst hI h (by subst_vars; rfl) ?_ ?_ <;> clear h <;> intro h
      ·refine L_get hI h (fun g => by subst_vars; exact g) ?_; clear h; intro hc x_68 hxx_68 h
       refine L_call hI h (fun v hv => w_seal_beyond N c_1.can.a2.Low x_68 v hv) (by subst_vars; exact ⟨(leD_refl _), (leD_refl _), rfl⟩) ?_; clear h; intro r_69 h; (conv => cbv)
       refine L_get hI h (fun g => by subst_vars; exact g) ?_; clear h; intro hc x_70 hxx_70 h
       refine L_call hI h (fun v hv => w_seal_beyond N c_1.can.a2.High x_70 v hv) (by subst_vars; exact ⟨(leD_refl _), (leD_refl _), rfl⟩) ?_; clear h; intro r_71 h; (conv => cbv)
       exact hR _ _ (Option.some.inj h).symm (by subst_vars; exact weak_l rfl rfl ⟨lR, lE, lE, lE, lR, (LV_agg ⟨lE, lE, lE, lE, lE, lE, rfl⟩), lE, trivial⟩ ⟨lB ⟨lE, lE, rfl⟩, lB ⟨LV_sl, lE, rfl⟩, trivial⟩ trivial)
      ·exact hR _ _ (Option.some.inj h).symm (by subst_vars; exact weak_l rfl rfl ⟨lR, lE, lE, lE, lR, (LV_agg ⟨lE, lE, lE, lE, lE, lE, rfl⟩), lE, trivial⟩ ⟨lB ⟨lE, lE, rfl⟩, lB ⟨LV_sl, lE, rfl⟩, trivial⟩ trivial)
     ·intro surely_67 h
      (conv => cbv)
      refine L_cut hI seat [1000005] (by kernel_rfl) h (fun q => match q with | possibly_74 => .normal) (fun q => match q with | possibly_74 => ⟨48, [(3, .loc 1 0), (4, .bool surely_67), (5, .bool possibly_74), (9, .agg [.int .i64 c_1.can.a0.Low, .int .i64 c_1.can.a0.High, .int .i64 c_1.can.a1.Low, .int .i64 c_1.can.a1.High, .int .i64 c_1.can.a2.Low, .int .i64 c_1.can.a2.High]), (10, .lit .i64 2)], [(1, ⟨106, [sl_api_Span false k_2.Sizes, .str k_2.Mark], true⟩)], [], 0⟩) ?_ ?_; all_goals clear h
      ·intro x h R hR
       (conv => cbv)
       refine L_tst hI h (by subst_vars; rfl) ?_ ?_ <;> clear h <;> intro h
       ·refine L_get hI h (fun g => by subst_vars; exact g) ?_; clear h; intro hc x_75 hxx_75 h
        refine L_call hI h (fun v hv => w_seal_meet N c_1.can.a2 x_75 v hv) (by subst_vars; exact ⟨(leD_refl _), (leD_refl _), rfl⟩) ?_; clear h; intro r_76 h; (conv => cbv)
        exact hR _ _ (Option.some.inj h).symm (by subst_vars; exact weak_l rfl rfl ⟨lR, lE, lE, (LV_agg ⟨lE, lE, lE, lE, lE, lE, rfl⟩), lE, trivial⟩ ⟨lB ⟨LV_sl, lE, rfl⟩, trivial⟩ trivial)
       ·exact hR _ _ (Option.some.inj h).symm (by subst_vars; exact weak_l rfl rfl ⟨lR, lE, lE, (LV_agg ⟨lE, lE, lE, lE, lE, lE, rfl⟩), lE, trivial⟩ ⟨lB ⟨LV_sl, lE, rfl⟩, trivial⟩ trivial)
      ·intro possibly_74 h
       (conv => cbv)
       cases h
       subst_vars
       exact ⟨(LV_tup ⟨lE, lE, rfl⟩), rfl⟩
theorem w_seal_Kinds (N : Nat) (s_1 : api_SealStatute) (read_2 : (List Int)) (o : (List Int) × (List Int) × Int) (h : m_seal_Kinds N s_1 read_2 = some o) :
  KC Try.prog 20 [.agg [sl_api_SealKind false s_1.Kinds, .int .i64 s_1.Grace, .int .i64 s_1.Fine, sl_int false s_1.Off], sl_int false read_2] (.tup [sl_int false o.1, sl_int false o.2.1, .int .i64 o.2.2]) [] := by
 unfold m_seal_Kinds at h
 refine con_l [] [2000035, 2000040] seat Try.func20 rfl ent_20 (by kernel_rfl) rfl rfl (by simp) ?_; intro base I hI; (conv => cbv)
 refine L_call hI h (fun v hv => w_seal_newCloth N s_1 read_2 v hv) (by subst_vars; exact ⟨(leD_refl _), (leD_refl _), rfl⟩) ?_; clear h; intro r_3 h; (conv => cbv)
 refine L_tst hI h (by subst_vars; rfl) ?_ ?_ <;> clear h <;> intro h
 ·cases h
  subst_vars
  exact ⟨(LV_tup ⟨LV_nil, LV_nil, lE, rfl⟩), rfl⟩
 ·replace h := letO_of h; obtain ⟨v_4, hev_4, h⟩ := h
  refine L_loop hI seat [2000035, 2000040] (by kernel_rfl) h (fun q => match q with | (v_9, surely_10, possibly_11) => ⟨48, [(4, .osl 2), (5, .osl 3), (7, .loc 1 0), (22, sl_api_SealKind false s_1.Kinds), (23, .int .i64 v_4), (24, .int .i64 v_9)], [(1, ⟨120, [sl_api_SealKind false r_3.1.SealStatute.Kinds, .int .i64 r_3.1.SealStatute.Grace, .int .i64 r_3.1.SealStatute.Fine, sl_int false r_3.1.SealStatute.Off, .int .i64 r_3.1.can.a0.Low, .int .i64 r_3.1.can.a0.High, .int .i64 r_3.1.can.a1.Low, .int .i64 r_3.1.can.a1.High, .int .i64 r_3.1.can.a2.Low, .int .i64 r_3.1.can.a2.High], true⟩)], [(3, ⟨3, 1, [.ls Int 0 possibly_11 e_int], false, true⟩), (2, ⟨3, 1, [.ls Int 0 surely_10 e_int], false, true⟩)], 0⟩) (fun q => match q with | (possibly_16, surely_17) => .exit 0) (fun q => match q with | (possibly_16, surely_17) => ⟨48, [(4, .osl 2), (5, .osl 3)], [], [(3, ⟨3, 1, [.ls Int 0 possibly_16 e_int], false, true⟩), (2, ⟨3, 1, [.ls Int 0 surely_17 e_int], false, true⟩)], 0⟩) (by subst_vars; exact (weak_nil 4 2 3 1 rfl rfl rfl rfl).trans ((weak_nil 5 3 3 1 rfl rfl rfl rfl).trans (weak_l rfl rfl ⟨lR, lR, lR, LV_sl, lE, lE, trivial⟩ ⟨lB ⟨LV_sl, lE, lE, LV_sl, lE, lE, lE, lE, lE, lE, rfl⟩, trivial⟩ ⟨lO, lO, trivial⟩))) (by intro q; rcases q with ⟨possibly_16, surely_17⟩ <;> (intro e; exact Exit.noConfusion e)) ?_ ?_; all_goals clear h
  ·intro q x h R hR hX
   obtain ⟨v_9, surely_10, possibly_11⟩ := q
   rw [m_seal_Kinds_L1] at h
   (conv => cbv)
   refine L_tst hI h (by subst_vars; rfl) ?_ ?_ <;> clear h <;> intro h
   ·refine L_get hI h (fun g => by subst_vars; exact g) ?_; clear h; intro hc x_18 hxx_18 h
    refine L_call hI h (fun v hv => w_seal_cloth_isOf N r_3.1 x_18 v hv) (by subst_vars; exact ⟨(leD_refl _), (leD_refl _), rfl⟩) ?_; clear h; intro r_19 h; (conv => cbv)
    refine L_cut hI seat [2000040] (by kernel_rfl) h (fun q => match q with | surely_20 => .normal) (fun q => match q with | surely_20 => ⟨48, [(4, .osl 2), (5, .osl 3), (7, .loc 1 0), (8, .int .i64 v_9), (11, .bool r_19.2), (22, sl_api_SealKind false s_1.Kinds), (23, .int .i64 v_4), (24, .int .i64 v_9)], [(1, ⟨120, [sl_api_SealKind false r_3.1.SealStatute.Kinds, .int .i64 r_3.1.SealStatute.Grace, .int .i64 r_3.1.SealStatute.Fine, sl_int false r_3.1.SealStatute.Off, .int .i64 r_3.1.can.a0.Low, .int .i64 r_3.1.can.a0.High, .int .i64 r_3.1.can.a1.Low, .int .i64 r_3.1.can.a1.High, .int .i64 r_3.1.can.a2.Low, .int .i64 r_3.1.can.a2.High], true⟩)], [(3, ⟨3, 1, [.ls Int 0 possibly_11 e_int], false, true⟩), (2, ⟨3, 1, [.ls Int 0 surely_20 e_int], false, true⟩)], 0⟩) ?_ ?_; all_goals clear h
    ·intro x h R hR
     (conv => cbv)
     refine L_tst hI h (by subst_vars; rfl) ?_ ?_ <;> clear h <;> intro h
     ·refine L_conj hI h (fun g => by subst_vars; exact g) ?_; clear h; intro hc h
      exact hR _ _ (Option.some.inj h).symm (by subst_vars; exact weak_l rfl rfl ⟨lR, lR, lR, lE, lE, LV_sl, lE, lE, trivial⟩ ⟨lB ⟨LV_sl, lE, lE, LV_sl, lE, lE, lE, lE, lE, lE, rfl⟩, trivial⟩ ⟨lO, lO, trivial⟩)
     ·exact hR _ _ (Option.some.inj h).symm (by subst_vars; exact weak_l rfl rfl ⟨lR, lR, lR, lE, lE, LV_sl, lE, lE, trivial⟩ ⟨lB ⟨LV_sl, lE, lE, LV_sl, lE, lE, lE, lE, lE, lE, rfl⟩, trivial⟩ ⟨lO, lO, trivial⟩)
    ·intro surely_20 h
     (conv => cbv)
     refine L_cut hI seat [2000035] (by kernel_rfl) h (fun q => match q with | possibly_21 => .normal) (fun q => match q with | possibly_21 => ⟨48, [(4, .osl 2), (5, .osl 3), (7, .loc 1 0), (22, sl_api_SealKind false s_1.Kinds), (23, .int .i64 v_4), (24, .int .i64 v_9)], [(1, ⟨120, [sl_api_SealKind false r_3.1.SealStatute.Kinds, .int .i64 r_3.1.SealStatute.Grace, .int .i64 r_3.1.SealStatute.Fine, sl_int false r_3.1.SealStatute.Off, .int .i64 r_3.1.can.a0.Low, .int .i64 r_3.1.can.a0.High, .int .i64 r_3.1.can.a1.Low, .int .i64 r_3.1.can.a1.High, .int .i64 r_3.1.can.a2.Low, .int .i64 r_3.1.can.a2.High], true⟩)], [(3, ⟨3, 1, [.ls Int 0 possibly_21 e_int], false, true⟩), (2, ⟨3, 1, [.ls Int 0 surely_20 e_int], false, true⟩)], 0⟩) ?_ ?_; all_goals clear h
     ·intro x h R hR
      (conv => cbv)
      refine L_tst hI h (by subst_vars; rfl) ?_ ?_ <;> clear h <;> intro h
      ·refine L_conj hI h (fun g => by subst_vars; exact g) ?_; clear h; intro hc h
       exact hR _ _ (Option.some.inj h).symm (by subst_vars; exact weak_l rfl rfl ⟨lR, lR, lR, LV_sl, lE, lE, trivial⟩ ⟨lB ⟨LV_sl, lE, lE, LV_sl, lE, lE, lE, lE, lE, lE, rfl⟩, trivial⟩ ⟨lO, lO, trivial⟩)
      ·exact hR _ _ (Option.some.inj h).symm (by subst_vars; exact weak_l rfl rfl ⟨lR, lR, lR, LV_sl, lE, lE, trivial⟩ ⟨lB ⟨LV_sl, lE, lE, LV_sl, lE, lE, lE, lE, lE, lE, rfl⟩, trivial⟩ ⟨lO, lO, trivial⟩)
     ·intro possibly_21 h
      (conv => cbv)
      exact hR _ _ (Option.some.inj h).symm (by subst_vars; exact weak_l rfl rfl ⟨lR, lR, lR, LV_sl, lE, lE, trivial⟩ ⟨lB ⟨LV_sl, lE, lE, LV_sl, lE, lE, lE, lE, lE, lE, rfl⟩, trivial⟩ ⟨lO, lO, trivial⟩)
   ·exact hX _ _ (Option.some.inj h).symm (by subst_vars; exact weak_l rfl rfl ⟨lR, lR, trivial⟩ trivial ⟨lO, lO, trivial⟩)
  ·intro q h
   rcases q with ⟨possibly_16, surely_17⟩
   (conv => cbv)
   cases h
   subst_vars
   exact ⟨(LV_tup ⟨LV_sl, LV_sl, lE, rfl⟩), rfl⟩
theorem w_seal_cloth_missing (N : Nat) (c_1 : seal_cloth) (can_2 : api_Span) (due_3 : api_Span) (o : api_Span × Bool × Bool) (h : m_seal_cloth_missing N c_1 can_2 due_3 = some o) :
  KC Try.prog 93 [.agg [sl_api_SealKind false c_1.SealStatute.Kinds, .int .i64 c_1.SealStatute.Grace, .int .i64 c_1.SealStatute.Fine, sl_int false c_1.SealStatute.Off, .int .i64 c_1.can.a0.Low, .int .i64 c_1.can.a0.High, .int .i64 c_1.can.a1.Low, .int .i64 c_1.can.a1.High, .int .i64 c_1.can.a2.Low, .int .i64 c_1.can.a2.High], .agg [.int .i64 can_2.Low, .int .i64 can_2.High], .agg [.int .i64 due_3.Low, .int .i64 due_3.High]] (.tup [.agg [.int .i64 o.1.Low, .int .i64 o.1.High], .bool o.2.1, .bool o.2.2]) [] := by
 unfold m_seal_cloth_missing at h
 refine con_l [] [1000007, 2000023, 7000000] seat Try.func93 rfl ent_93 (by kernel_rfl) rfl rfl (by simp) ?_; intro base I hI; (conv => cbv)
 refine L_cut hI seat [1000007, 7000000] (by kernel_rfl) h (fun q => match q with | closest_4 => .normal) (fun q => match q with | closest_4 => ⟨59, [(3, .loc 0 0), (4, .loc 1 0), (5, .loc 2 0), (6, .loc 3 0), (9, .int .i64 closest_4)], [(3, ⟨40, [.lit .i64 0, .lit .i64 0], true⟩), (2, ⟨40, [.int .i64 due_3.Low, .int .i64 due_3.High], true⟩), (1, ⟨40, [.int .i64 can_2.Low, .int .i64 can_2.High], true⟩), (0, ⟨120, [sl_api_SealKind false c_1.SealStatute.Kinds, .int .i64 c_1.SealStatute.Grace, .int .i64 c_1.SealStatute.Fine, sl_int false c_1.SealStatute.Off, .int .i64 c_1.can.a0.Low, .int .i64 c_1.can.a0.High, .int .i64 c_1.can.a1.Low, .int .i64 c_1.can.a1.High, .int .i64 c_1.can.a2.Low, .int .i64 c_1.can.a2.High], true⟩)], [], 0⟩) ?_ ?_; all_goals clear h
 ·intro x h R hR
  (conv => cbv)
  refine L_tst hI h (by subst_vars; rfl) ?_ ?_ <;> clear h <;> intro h
  ·exact hR _ _ (Option.some.inj h).symm (by subst_vars; exact weak_l rfl rfl ⟨lR, lR, lR, lR, lE, trivial⟩ ⟨lB ⟨lE, lE, rfl⟩, lB ⟨lE, lE, rfl⟩, lB ⟨lE, lE, rfl⟩, lB ⟨LV_sl, lE, lE, LV_sl, lE, lE, lE, lE, lE, lE, rfl⟩, trivial⟩ trivial)
  ·exact hR _ _ (Option.some.inj h).symm (by subst_vars; exact weak_l rfl rfl ⟨lR, lR, lR, lR, lE, trivial⟩ ⟨lB ⟨lE, lE, rfl⟩, lB ⟨lE, lE, rfl⟩, lB ⟨lE, lE, rfl⟩, lB ⟨LV_sl, lE, lE, LV_sl, lE, lE, lE, lE, lE, lE, rfl⟩, trivial⟩ trivial)
 ·intro closest_4 h
  (conv => cbv)
  refine L_call hI h (fun v hv => w_seal_beyond N closest_4 due_3 v hv) (by subst_vars; exact ⟨(leD_refl _), (leD_refl _), rfl⟩) ?_; clear h; intro r_5 h; (conv => cbv)
  refine L_call hI h (fun v hv => w_seal_beyond N can_2.Low due_3 v hv) (by subst_vars; exact ⟨(leD_refl _), (leD_refl _), rfl⟩) ?_; clear h; intro r_6 h; (conv => cbv)
  refine L_call hI h (fun v hv => w_seal_beyond N can_2.High due_3 v hv) (by subst_vars; exact ⟨(leD_refl _), (leD_refl _), rfl⟩) ?_; clear h; intro r_7 h; (conv => cbv)
  refine L_tst hI h (by subst_vars; rfl) ?_ ?_ <;> clear h <;> intro h
  ·cases h
   subst_vars
   exact ⟨(LV_tup ⟨(LV_agg ⟨lE, lE, rfl⟩), lE, lE, rfl⟩), rfl⟩
  ·replace h := letO_of h; obtain ⟨more_8, hemore_8, h⟩ := h
   replace h := letO_of h; obtain ⟨v_9, hev_9, h⟩ := h
   refine L_cut hI seat [2000023, 7000000] (by kernel_rfl) h (fun q => match q with | () => .normal) (fun q => match q with | () => ⟨59, [(6, .loc 3 0), (7, .bool more_8), (8, .ff)], [(3, ⟨40, [.int .i64 r_5, .int .i64 v_9], true⟩)], [], 0⟩) ?_ ?_; all_goals clear h
   ·intro x h R hR
    (conv => cbv)
    repeat' (first | (refine K_conj hI (show I.rnone from by rw [hI]; rfl) ?_; (conv => cbv)) | (exact hR _ _ (Option.some.inj h).symm (by subst_vars; exact weak_l rfl rfl ⟨lR, lE, lE, trivial⟩ ⟨lB ⟨lE, lE, rfl⟩, trivial⟩ trivial)) | (refine K_conj hI ?_ ?_))
   ·intro q h
    (conv => cbv)
    cases h
    subst_vars
    exact ⟨(LV_tup ⟨(LV_agg ⟨lE, lE, rfl⟩), lE, lE, rfl⟩), rfl⟩
theorem w_seal_cloth_fine (N : Nat) (c_1 : seal_cloth) (k_2 : api_SealKind) (o : api_Span × Bool × Bool) (h : m_seal_cloth_fine N c_1 k_2 = some o) :
  KC Try.prog 64 [.agg [sl_api_SealKind false c_1.SealStatute.Kinds, .int .i64 c_1.SealStatute.Grace, .int .i64 c_1.SealStatute.Fine, sl_int false c_1.SealStatute.Off, .int .i64 c_1.can.a0.Low, .int .i64 c_1.can.a0.High, .int .i64 c_1.can.a1.Low, .int .i64 c_1.can.a1.High, .int .i64 c_1.can.a2.Low, .int .i64 c_1.can.a2.High], .agg [sl_api_Span false k_2.Sizes, .str k_2.Mark]] (.tup [.agg [.int .i64 o.1.Low, .int .i64 o.1.High], .bool o.2.1, .bool o.2.2]) [] := by
 unfold m_seal_cloth_fine at h
 refine con_l [] [1000006, 3000005] seat Try.func64 rfl ent_64 (by kernel_rfl) rfl rfl (by simp) ?_; intro base I hI; (conv => cbv)
 refine W_unroll hI seat [1000006, 3000005] (by kernel_rfl) 5 ?_; (conv => cbv)
 refine L_get hI h (fun g => by subst_vars; exact g) ?_; clear h; intro hc x_3 hxx_3 h
 refine L_call hI h (fun v hv => w_seal_cloth_missing N c_1 c_1.can.a0 x_3 v hv) (by subst_vars; exact ⟨(leD_refl _), (leD_refl _), (leD_refl _), rfl⟩) ?_; clear h; intro r_4 h; (conv => cbv)
 replace h := letO_of h; obtain ⟨surely_15, hesurely_15, h⟩ := h
 replace h := letO_of h; obtain ⟨possibly_16, hepossibly_16, h⟩ := h
 refine L_cut hI seat [3000005] (by kernel_rfl) h (fun q => match q with | () => .normal) (fun q => match q with | () => ⟨63, [(2, .loc 0 0), (3, .loc 1 0), (4, .loc 2 0), (5, .bool surely_15), (6, .bool possibly_16), (9, .loc 4 0), (13, .agg [.int .i64 c_1.can.a0.Low, .int .i64 c_1.can.a0.High, .int .i64 c_1.can.a1.Low, .int .i64 c_1.can.a1.High, .int .i64 c_1.can.a2.Low, .int .i64 c_1.can.a2.High]), (14, .lit .i64 0)], [(4, ⟨40, [.int .i64 r_4.1.Low, .int .i64 r_4.1.High], true⟩), (2, ⟨40, [.lit .i64 0, .lit .i64 0], true⟩), (1, ⟨106, [sl_api_Span false k_2.Sizes, .str k_2.Mark], true⟩), (0, ⟨120, [sl_api_SealKind false c_1.SealStatute.Kinds, .int .i64 c_1.SealStatute.Grace, .int .i64 c_1.SealStatute.Fine, sl_int false c_1.SealStatute.Off, .int .i64 c_1.can.a0.Low, .int .i64 c_1.can.a0.High, .int .i64 c_1.can.a1.Low, .int .i64 c_1.can.a1.High, .int .i64 c_1.can.a2.Low, .int .i64 c_1.can.a2.High], true⟩)], [], 0⟩) ?_ ?_; all_goals clear h
 ·intro x h R hR
  (conv => cbv)
  exact hR _ _ (Option.some.inj h).symm (by subst_vars; exact weak_l rfl rfl ⟨lR, lR, lR, lE, lE, lR, (LV_agg ⟨lE, lE, lE, lE, lE, lE, rfl⟩), lE, trivial⟩ ⟨lB ⟨lE, lE, rfl⟩, lB ⟨lE, lE, rfl⟩, lB ⟨LV_sl, lE, rfl⟩, lB ⟨LV_sl, lE, lE, LV_sl, lE, lE, lE, lE, lE, lE, rfl⟩, trivial⟩ trivial)
 ·intro q h
  (conv => cbv)
  refine L_get hI h (fun g => by subst_vars; exact g) ?_; clear h; intro hc x_17 hxx_17 h
  refine L_call hI h (fun v hv => w_seal_cloth_missing N c_1 c_1.can.a1 x_17 v hv) (by subst_vars; exact ⟨(leD_refl _), (leD_refl _), (leD_refl _), rfl⟩) ?_; clear h; intro r_18 h; (conv => cbv)
  replace h := letO_of h; obtain ⟨v_21, hev_21, h⟩ := h
  replace h := letO_of h; obtain ⟨v_22, hev_22, h⟩ := h
  refine L_cut hI seat [3000005] (by kernel_rfl) h (fun q => match q with | (possibly_19, surely_20) => .normal) (fun q => match q with | (possibly_19, surely_20) => ⟨63, [(2, .loc 0 0), (3, .loc 1 0), (4, .loc 2 0), (5, .bool surely_20), (6, .bool possibly_19), (9, .loc 6 0), (13, .agg [.int .i64 c_1.can.a0.Low, .int .i64 c_1.can.a0.High, .int .i64 c_1.can.a1.Low, .int .i64 c_1.can.a1.High, .int .i64 c_1.can.a2.Low, .int .i64 c_1.can.a2.High]), (14, .lit .i64 1)], [(6, ⟨40, [.int .i64 r_18.1.Low, .int .i64 r_18.1.High], true⟩), (2, ⟨40, [.int .i64 v_21, .int .i64 v_22], true⟩), (1, ⟨106, [sl_api_Span false k_2.Sizes, .str k_2.Mark], true⟩), (0, ⟨120, [sl_api_SealKind false c_1.SealStatute.Kinds, .int .i64 c_1.SealStatute.Grace, .int .i64 c_1.SealStatute.Fine, sl_int false c_1.SealStatute.Off, .int .i64 c_1.can.a0.Low, .int .i64 c_1.can.a0.High, .int .i64 c_1.can.a1.Low, .int .i64 c_1.can.a1.High, .int .i64 c_1.can.a2.Low, .int .i64 c_1.can.a2.High], true⟩)], [], 0⟩) ?_ ?_; all_goals clear h
  ·intro x h R hR
   (conv => cbv)
   refine L_tst hI h (by subst_vars; rfl) ?_ ?_ <;> clear h <;> intro h
   ·refine L_tst hI h (by subst_vars; rfl) ?_ ?_ <;> clear h <;> intro h
    ·exact hR _ _ (Option.some.inj h).symm (by subst_vars; exact weak_l rfl rfl ⟨lR, lR, lR, lE, lE, lR, (LV_agg ⟨lE, lE, lE, lE, lE, lE, rfl⟩), lE, trivial⟩ ⟨lB ⟨lE, lE, rfl⟩, lB ⟨lE, lE, rfl⟩, lB ⟨LV_sl, lE, rfl⟩, lB ⟨LV_sl, lE, lE, LV_sl, lE, lE, lE, lE, lE, lE, rfl⟩, trivial⟩ trivial)
    ·exact hR _ _ (Option.some.inj h).symm (by subst_vars; exact weak_l rfl rfl ⟨lR, lR, lR, lE, lE, lR, (LV_agg ⟨lE, lE, lE, lE, lE, lE, rfl⟩), lE, trivial⟩ ⟨lB ⟨lE, lE, rfl⟩, lB ⟨lE, lE, rfl⟩, lB ⟨LV_sl, lE, rfl⟩, lB ⟨LV_sl, lE, lE, LV_sl, lE, lE, lE, lE, lE, lE, rfl⟩, trivial⟩ trivial)
   ·refine L_tst hI h (by subst_vars; rfl) ?_ ?_ <;> clear h <;> intro h
    ·exact hR _ _ (Option.some.inj h).symm (by subst_vars; exact weak_l rfl rfl ⟨lR, lR, lR, lE, lE, lR, (LV_agg ⟨lE, lE, lE, lE, lE, lE, rfl⟩), lE, trivial⟩ ⟨lB ⟨lE, lE, rfl⟩, lB ⟨lE, lE, rfl⟩, lB ⟨LV_sl, lE, rfl⟩, lB ⟨LV_sl, lE, lE, LV_sl, lE, lE, lE, lE, lE, lE, rfl⟩, trivial⟩ trivial)
    ·exact hR _ _ (Option.some.inj h).symm (by subst_vars; exact weak_l rfl rfl ⟨lR, lR, lR, lE, lE, lR, (LV_agg ⟨lE, lE, lE, lE, lE, lE, rfl⟩), lE, trivial⟩ ⟨lB ⟨lE, lE, rfl⟩, lB ⟨lE, lE, rfl⟩, lB ⟨LV_sl, lE, rfl⟩, lB ⟨LV_sl, lE, lE, LV_sl, lE, lE, lE, lE, lE, lE, rfl⟩, trivial⟩ trivial)
  ·intro q h
   rcases q with ⟨possibly_19, surely_20⟩
   (conv => cbv)
   refine L_get hI h (fun g => by subst_vars; exact g) ?_; clear h; intro hc x_23 hxx_23 h
   refine L_call hI h (fun v hv => w_seal_cloth_missing N c_1 c_1.can.a2 x_23 v hv) (by subst_vars; exact ⟨(leD_refl _), (leD_refl _), (leD_refl _), rfl⟩) ?_; clear h; intro r_24 h; (conv => cbv)
   replace h := letO_of h; obtain ⟨v_27, hev_27, h⟩ := h
   replace h := letO_of h; obtain ⟨v_28, hev_28, h⟩ := h
   refine L_cut hI seat [3000005] (by kernel_rfl) h (fun q => match q with | (possibly_25, surely_26) => .normal) (fun q => match q with | (possibly_25, surely_26) => ⟨63, [(2, .loc 0 0), (3, .loc 1 0), (4, .loc 2 0), (5, .bool surely_26), (6, .bool possibly_25), (9, .loc 8 0), (13, .agg [.int .i64 c_1.can.a0.Low, .int .i64 c_1.can.a0.High, .int .i64 c_1.can.a1.Low, .int .i64 c_1.can.a1.High, .int .i64 c_1.can.a2.Low, .int .i64 c_1.can.a2.High]), (14, .lit .i64 2)], [(8, ⟨40, [.int .i64 r_24.1.Low, .int .i64 r_24.1.High], true⟩), (2, ⟨40, [.int .i64 v_27, .int .i64 v_28], true⟩), (1, ⟨106, [sl_api_Span false k_2.Sizes, .str k_2.Mark], true⟩), (0, ⟨120, [sl_api_SealKind false c_1.SealStatute.Kinds, .int .i64 c_1.SealStatute.Grace, .int .i64 c_1.SealStatute.Fine, sl_int false c_1.SealStatute.Off, .int .i64 c_1.can.a0.Low, .int .i64 c_1.can.a0.High, .int .i64 c_1.can.a1.Low, .int .i64 c_1.can.a1.High, .int .i64 c_1.can.a2.Low, .int .i64 c_1.can.a2.High], true⟩)], [], 0⟩) ?_ ?_; all_goals clear h
   ·intro x h R hR
    (conv => cbv)
    refine L_tst hI h (by subst_vars; rfl) ?_ ?_ <;> clear h <;> intro h
    ·refine L_tst hI h (by subst_vars; rfl) ?_ ?_ <;> clear h <;> intro h
     ·exact hR _ _ (Option.some.inj h).symm (by subst_vars; exact weak_l rfl rfl ⟨lR, lR, lR, lE, lE, lR, (LV_agg ⟨lE, lE, lE, lE, lE, lE, rfl⟩), lE, trivial⟩ ⟨lB ⟨lE, lE, rfl⟩, lB ⟨lE, lE, rfl⟩, lB ⟨LV_sl, lE, rfl⟩, lB ⟨LV_sl, lE, lE, LV_sl, lE, lE, lE, lE, lE, lE, rfl⟩, trivial⟩ trivial)
     ·exact hR _ _ (Option.some.inj h).symm (by subst_vars; exact weak_l rfl rfl ⟨lR, lR, lR, lE, lE, lR, (LV_agg ⟨lE, lE, lE, lE, lE, lE, rfl⟩), lE, trivial⟩ ⟨lB ⟨lE, lE, rfl⟩, lB ⟨lE, lE, rfl⟩, lB ⟨LV_sl, lE, rfl⟩, lB ⟨LV_sl, lE, lE, LV_sl, lE, lE, lE, lE, lE, lE, rfl⟩, trivial⟩ trivial)
    ·refine L_tst hI h (by subst_vars; rfl) ?_ ?_ <;> clear h <;> intro h
     ·exact hR _ _ (Option.some.inj h).symm (by subst_vars; exact weak_l rfl rfl ⟨lR, lR, lR, lE, lE, lR, (LV_agg ⟨lE, lE, lE, lE, lE, lE, rfl⟩), lE, trivial⟩ ⟨lB ⟨lE, lE, rfl⟩, lB ⟨lE, lE, rfl⟩, lB ⟨LV_sl, lE, rfl⟩, lB ⟨LV_sl, lE, lE, LV_sl, lE, lE, lE, lE, lE, lE, rfl⟩, trivial⟩ trivial)
     ·exact hR _ _ (Option.some.inj h).symm (by subst_vars; exact weak_l rfl rfl ⟨lR, lR, lR, lE, lE, lR, (LV_agg ⟨lE, lE, lE, lE, lE, lE, rfl⟩), lE, trivial⟩ ⟨lB ⟨lE, lE, rfl⟩, lB ⟨lE, lE, rfl⟩, lB ⟨LV_sl, lE, rfl⟩, lB ⟨LV_sl, lE, lE, LV_sl, lE, lE, lE, lE, lE, lE, rfl⟩, trivial⟩ trivial)
   ·intro q h
    rcases q with ⟨possibly_25, surely_26⟩
    (conv => cbv)
    cases h
    subst_vars
    exact ⟨(LV_tup ⟨(LV_agg ⟨lE, lE, rfl⟩), lE, lE, rfl⟩), rfl⟩
theorem w_seal_Fine (N : Nat) (s_1 : api_SealStatute) (read_2 : (List Int)) (kind_3 : Int) (o : api_Span × Int) (h : m_seal_Fine N s_1 read_2 kind_3 = some o) :
  KC Try.prog 26 [.agg [sl_api_SealKind false s_1.Kinds, .int .i64 s_1.Grace, .int .i64 s_1.Fine, sl_int false s_1.Off], sl_int false read_2, .int .i64 kind_3] (.tup [.agg [.int .i64 o.1.Low, .int .i64 o.1.High], .int .i64 o.2]) [] := by
 unfold m_seal_Fine at h
 refine con_l [] [3000006] seat Try.func26 rfl ent_26 (by kernel_rfl) rfl rfl (by simp) ?_; intro base I hI; (conv => cbv)
 refine L_call hI h (fun v hv => w_seal_newCloth N s_1 read_2 v hv) (by subst_vars; exact ⟨(leD_refl _), (leD_refl _), rfl⟩) ?_; clear h; intro r_4 h; (conv => cbv)
 refine L_tst hI h (by subst_vars; rfl) ?_ ?_ <;> clear h <;> intro h
 ·cases h
  subst_vars
  exact ⟨(LV_tup ⟨(LV_agg ⟨lE, lE, rfl⟩), lE, rfl⟩), rfl⟩
 ·refine L_call hI h (fun v hv => w_seal_within N 0 (iopR .sub .i64 ((s_1.Kinds.length : Nat) : Int) 1) [kind_3] v hv) (by subst_vars; exact ⟨(leD_refl _), (leD_refl _), ⟨.inl rfl, rfl, leDLL_refl _⟩, rfl⟩) ?_; clear h; intro r_5 h; (conv => cbv)
  refine L_tst hI h (by subst_vars; rfl) ?_ ?_ <;> clear h <;> intro h
  ·cases h
   subst_vars
   exact ⟨(LV_tup ⟨(LV_agg ⟨lE, lE, rfl⟩), lE, rfl⟩), rfl⟩
  ·refine L_get hI h (fun g => by subst_vars; exact g) ?_; clear h; intro hc x_6 hxx_6 h
   refine L_call hI h (fun v hv => w_seal_cloth_fine N r_4.1 x_6 v hv) (by subst_vars; exact ⟨(leD_refl _), (leD_refl _), rfl⟩) ?_; clear h; intro r_7 h; (conv => cbv)
   refine L_tst hI h (by subst_vars; rfl) ?_ ?_ <;> clear h <;> intro h
   ·cases h
    subst_vars
    exact ⟨(LV_tup ⟨(LV_agg ⟨lE, lE, rfl⟩), lE, rfl⟩), rfl⟩
   ·cases h
    subst_vars
    exact ⟨(LV_tup ⟨(LV_agg ⟨lE, lE, rfl⟩), lE, rfl⟩), rfl⟩
theorem w_seal_Best (N : Nat) (s_1 : api_SealStatute) (read_2 : (List Int)) (o : Int × Int × Int) (h : m_seal_Best N s_1 read_2 = some o) :
  KC Try.prog 27 [.agg [sl_api_SealKind false s_1.Kinds, .int .i64 s_1.Grace, .int .i64 s_1.Fine, sl_int false s_1.Off], sl_int false read_2] (.tup [.int .i64 o.1, .int .i64 o.2.1, .int .i64 o.2.2]) [] := by
 unfold m_seal_Best at h
 refine con_l [] [1000009, 2000047] seat Try.func27 rfl ent_27 (by kernel_rfl) rfl rfl (by simp) ?_; intro base I hI; (conv => cbv)
 refine L_call hI h (fun v hv => w_seal_newCloth N s_1 read_2 v hv) (by subst_vars; exact ⟨(leD_refl _), (leD_refl _), rfl⟩) ?_; clear h; intro r_3 h; (conv => cbv)
 refine L_tst hI h (by subst_vars; rfl) ?_ ?_ <;> clear h <;> intro h
 ·cases h
  subst_vars
  exact ⟨(LV_tup ⟨lE, lE, lE, rfl⟩), rfl⟩
 ·replace h := letO_of h; obtain ⟨v_4, hev_4, h⟩ := h
  refine L_loop hI seat [1000009, 2000047] (by kernel_rfl) h (fun q => match q with | (kind_10, fine_11, v_12) => ⟨56, [(4, .int .i64 kind_10), (5, .int .i64 fine_11), (7, .loc 1 0), (23, sl_api_SealKind false s_1.Kinds), (24, .int .i64 v_4), (25, .int .i64 v_12)], [(1, ⟨120, [sl_api_SealKind false r_3.1.SealStatute.Kinds, .int .i64 r_3.1.SealStatute.Grace, .int .i64 r_3.1.SealStatute.Fine, sl_int false r_3.1.SealStatute.Off, .int .i64 r_3.1.can.a0.Low, .int .i64 r_3.1.can.a0.High, .int .i64 r_3.1.can.a1.Low, .int .i64 r_3.1.can.a1.High, .int .i64 r_3.1.can.a2.Low, .int .i64 r_3.1.can.a2.High], true⟩)], [], 0⟩) (fun q => match q with | (kind_18, fine_19) => .exit 0) (fun q => match q with | (kind_18, fine_19) => ⟨56, [(4, .int .i64 kind_18), (5, .int .i64 fine_19)], [], [], 0⟩) (by subst_vars; exact weak_l rfl rfl ⟨lE, lE, lR, LV_sl, lE, lE, trivial⟩ ⟨lB ⟨LV_sl, lE, lE, LV_sl, lE, lE, lE, lE, lE, lE, rfl⟩, trivial⟩ trivial) (by intro q; rcases q with ⟨kind_18, fine_19⟩ <;> (intro e; exact Exit.noConfusion e)) ?_ ?_; all_goals clear h
  ·intro q x h R hR hX
   obtain ⟨kind_10, fine_11, v_12⟩ := q
   rw [m_seal_Best_L1] at h
   (conv => cbv)
   refine L_tst hI h (by subst_vars; rfl) ?_ ?_ <;> clear h <;> intro h
   ·refine L_get hI h (fun g => by subst_vars; exact g) ?_; clear h; intro hc x_20 hxx_20 h
    refine L_call hI h (fun v hv => w_seal_cloth_fine N r_3.1 x_20 v hv) (by subst_vars; exact ⟨(leD_refl _), (leD_refl _), rfl⟩) ?_; clear h; intro r_21 h; (conv => cbv)
    refine L_cut hI seat [2000047] (by kernel_rfl) h (fun q => match q with | v_22 => .normal) (fun q => match q with | v_22 => ⟨56, [(4, .int .i64 kind_10), (5, .int .i64 fine_11), (7, .loc 1 0), (8, .int .i64 v_12), (10, .loc 3 0), (23, sl_api_SealKind false s_1.Kinds), (24, .int .i64 v_4), (25, .int .i64 v_12), (47, .bool v_22)], [(3, ⟨40, [.int .i64 r_21.1.Low, .int .i64 r_21.1.High], true⟩), (1, ⟨120, [sl_api_SealKind false r_3.1.SealStatute.Kinds, .int .i64 r_3.1.SealStatute.Grace, .int .i64 r_3.1.SealStatute.Fine, sl_int false r_3.1.SealStatute.Off, .int .i64 r_3.1.can.a0.Low, .int .i64 r_3.1.can.a0.High, .int .i64 r_3.1.can.a1.Low, .int .i64 r_3.1.can.a1.High, .int .i64 r_3.1.can.a2.Low, .int .i64 r_3.1.can.a2.High], true⟩)], [], 0⟩) ?_ ?_; all_goals clear h
    ·intro x h R hR
     (conv => cbv)
     refine L_tst hI h (by subst_vars; rfl) ?_ ?_ <;> clear h <;> intro h
     ·refine L_tst hI h (by subst_vars; rfl) ?_ ?_ <;> clear h <;> intro h
      ·exact hR _ _ (Option.some.inj h).symm (by subst_vars; exact weak_l rfl rfl ⟨lE, lE, lR, lE, lR, LV_sl, lE, lE, lE, trivial⟩ ⟨lB ⟨lE, lE, rfl⟩, lB ⟨LV_sl, lE, lE, LV_sl, lE, lE, lE, lE, lE, lE, rfl⟩, trivial⟩ trivial)
      ·exact hR _ _ (Option.some.inj h).symm (by subst_vars; exact weak_l rfl rfl ⟨lE, lE, lR, lE, lR, LV_sl, lE, lE, lE, trivial⟩ ⟨lB ⟨lE, lE, rfl⟩, lB ⟨LV_sl, lE, lE, LV_sl, lE, lE, lE, lE, lE, lE, rfl⟩, trivial⟩ trivial)
     ·exact hR _ _ (Option.some.inj h).symm (by subst_vars; exact weak_l rfl rfl ⟨lE, lE, lR, lE, lR, LV_sl, lE, lE, lE, trivial⟩ ⟨lB ⟨lE, lE, rfl⟩, lB ⟨LV_sl, lE, lE, LV_sl, lE, lE, lE, lE, lE, lE, rfl⟩, trivial⟩ trivial)
    ·intro v_22 h
     (conv => cbv)
     refine L_cut hI seat [1000009] (by kernel_rfl) h (fun q => match q with | (kind_23, fine_24) => .normal) (fun q => match q with | (kind_23, fine_24) => ⟨56, [(4, .int .i64 kind_23), (5, .int .i64 fine_24), (7, .loc 1 0), (23, sl_api_SealKind false s_1.Kinds), (24, .int .i64 v_4), (25, .int .i64 v_12)], [(1, ⟨120, [sl_api_SealKind false r_3.1.SealStatute.Kinds, .int .i64 r_3.1.SealStatute.Grace, .int .i64 r_3.1.SealStatute.Fine, sl_int false r_3.1.SealStatute.Off, .int .i64 r_3.1.can.a0.Low, .int .i64 r_3.1.can.a0.High, .int .i64 r_3.1.can.a1.Low, .int .i64 r_3.1.can.a1.High, .int .i64 r_3.1.can.a2.Low, .int .i64 r_3.1.can.a2.High], true⟩)], [], 0⟩) ?_ ?_; all_goals clear h
     ·intro x h R hR
      (conv => cbv)
      refine L_tst hI h (by subst_vars; rfl) ?_ ?_ <;> clear h <;> intro h
      ·exact hR _ _ (Option.some.inj h).symm (by subst_vars; exact weak_l rfl rfl ⟨lE, lE, lR, LV_sl, lE, lE, trivial⟩ ⟨lB ⟨LV_sl, lE, lE, LV_sl, lE, lE, lE, lE, lE, lE, rfl⟩, trivial⟩ trivial)
      ·exact hR _ _ (Option.some.inj h).symm (by subst_vars; exact weak_l rfl rfl ⟨lE, lE, lR, LV_sl, lE, lE, trivial⟩ ⟨lB ⟨LV_sl, lE, lE, LV_sl, lE, lE, lE, lE, lE, lE, rfl⟩, trivial⟩ trivial)
     ·intro q h
      rcases q with ⟨kind_23, fine_24⟩
      (conv => cbv)
      exact hR _ _ (Option.some.inj h).symm (by subst_vars; exact weak_l rfl rfl ⟨lE, lE, lR, LV_sl, lE, lE, trivial⟩ ⟨lB ⟨LV_sl, lE, lE, LV_sl, lE, lE, lE, lE, lE, lE, rfl⟩, trivial⟩ trivial)
   ·exact hX _ _ (Option.some.inj h).symm (by subst_vars; exact weak_l rfl rfl ⟨lE, lE, trivial⟩ trivial trivial)
  ·intro q h
   rcases q with ⟨kind_18, fine_19⟩
   (conv => cbv)
   refine L_tst hI h (by subst_vars; rfl) ?_ ?_ <;> clear h <;> intro h
   ·cases h
    subst_vars
    exact ⟨(LV_tup ⟨lE, lE, lE, rfl⟩), rfl⟩
   ·cases h
    subst_vars
    exact ⟨(LV_tup ⟨lE, lE, lE, rfl⟩), rfl⟩
theorem w_seal_cloth_possible (N : Nat) (c_1 : seal_cloth) (o : Int) (h : m_seal_cloth_possible N c_1 = some o) :
  KC Try.prog 67 [.agg [sl_api_SealKind false c_1.SealStatute.Kinds, .int .i64 c_1.SealStatute.Grace, .int .i64 c_1.SealStatute.Fine, sl_int false c_1.SealStatute.Off, .int .i64 c_1.can.a0.Low, .int .i64 c_1.can.a0.High, .int .i64 c_1.can.a1.Low, .int .i64 c_1.can.a1.High, .int .i64 c_1.can.a2.Low, .int .i64 c_1.can.a2.High]] (.int .i64 o) [] := by
 unfold m_seal_cloth_possible at h
 refine con_l [] [2000021] seat Try.func67 rfl ent_67 (by kernel_rfl) rfl rfl (by simp) ?_; intro base I hI; (conv => cbv)
 replace h := letO_of h; obtain ⟨v_2, hev_2, h⟩ := h
 refine L_loop hI seat [2000021] (by kernel_rfl) h (fun q => match q with | (n_6, v_7) => ⟨26, [(1, .loc 0 0), (2, .int .i64 n_6), (9, sl_api_SealKind false c_1.SealStatute.Kinds), (10, .int .i64 v_2), (11, .int .i64 v_7)], [(0, ⟨120, [sl_api_SealKind false c_1.SealStatute.Kinds, .int .i64 c_1.SealStatute.Grace, .int .i64 c_1.SealStatute.Fine, sl_int false c_1.SealStatute.Off, .int .i64 c_1.can.a0.Low, .int .i64 c_1.can.a0.High, .int .i64 c_1.can.a1.Low, .int .i64 c_1.can.a1.High, .int .i64 c_1.can.a2.Low, .int .i64 c_1.can.a2.High], true⟩)], [], 0⟩) (fun q => match q with | n_11 => .exit 0) (fun q => match q with | n_11 => ⟨26, [(2, .int .i64 n_11)], [], [], 0⟩) (by subst_vars; exact weak_l rfl rfl ⟨lR, lE, LV_sl, lE, lE, trivial⟩ ⟨lB ⟨LV_sl, lE, lE, LV_sl, lE, lE, lE, lE, lE, lE, rfl⟩, trivial⟩ trivial) (by intro q; rcases q with n_11 <;> (intro e; exact Exit.noConfusion e)) ?_ ?_; all_goals clear h
 ·intro q x h R hR hX
  obtain ⟨n_6, v_7⟩ := q
  rw [m_seal_cloth_possible_L1] at h
  (conv => cbv)
  refine L_tst hI h (by subst_vars; rfl) ?_ ?_ <;> clear h <;> intro h
  ·refine L_get hI h (fun g => by subst_vars; exact g) ?_; clear h; intro hc x_12 hxx_12 h
   refine L_call hI h (fun v hv => w_seal_cloth_isOf N c_1 x_12 v hv) (by subst_vars; exact ⟨(leD_refl _), (leD_refl _), rfl⟩) ?_; clear h; intro r_13 h; (conv => cbv)
   refine L_cut hI seat [] (by kernel_rfl) h (fun q => match q with | n_14 => .normal) (fun q => match q with | n_14 => ⟨26, [(1, .loc 0 0), (2, .int .i64 n_14), (9, sl_api_SealKind false c_1.SealStatute.Kinds), (10, .int .i64 v_2), (11, .int .i64 v_7)], [(0, ⟨120, [sl_api_SealKind false c_1.SealStatute.Kinds, .int .i64 c_1.SealStatute.Grace, .int .i64 c_1.SealStatute.Fine, sl_int false c_1.SealStatute.Off, .int .i64 c_1.can.a0.Low, .int .i64 c_1.can.a0.High, .int .i64 c_1.can.a1.Low, .int .i64 c_1.can.a1.High, .int .i64 c_1.can.a2.Low, .int .i64 c_1.can.a2.High], true⟩)], [], 0⟩) ?_ ?_; all_goals clear h
   ·intro x h R hR
    (conv => cbv)
    refine L_tst hI h (by subst_vars; rfl) ?_ ?_ <;> clear h <;> intro h
    ·exact hR _ _ (Option.some.inj h).symm (by subst_vars; exact weak_l rfl rfl ⟨lR, lE, LV_sl, lE, lE, trivial⟩ ⟨lB ⟨LV_sl, lE, lE, LV_sl, lE, lE, lE, lE, lE, lE, rfl⟩, trivial⟩ trivial)
    ·exact hR _ _ (Option.some.inj h).symm (by subst_vars; exact weak_l rfl rfl ⟨lR, lE, LV_sl, lE, lE, trivial⟩ ⟨lB ⟨LV_sl, lE, lE, LV_sl, lE, lE, lE, lE, lE, lE, rfl⟩, trivial⟩ trivial)
   ·intro n_14 h
    (conv => cbv)
    exact hR _ _ (Option.some.inj h).symm (by subst_vars; exact weak_l rfl rfl ⟨lR, lE, LV_sl, lE, lE, trivial⟩ ⟨lB ⟨LV_sl, lE, lE, LV_sl, lE, lE, lE, lE, lE, lE, rfl⟩, trivial⟩ trivial)
  ·exact hX _ _ (Option.some.inj h).symm (by subst_vars; exact weak_l rfl rfl ⟨lE, trivial⟩ trivial trivial)
 ·intro n_11 h
  (conv => cbv)
  cases h
  subst_vars
  exact ⟨lE, rfl⟩
theorem w_seal_cloth_found (N : Nat) (c_1 : seal_cloth) (size_2 : Int) (o : (seal_cloth × Int)) (h : m_seal_cloth_found N c_1 size_2 = some o) :
  KC Try.prog 68 [.agg [sl_api_SealKind false c_1.SealStatute.Kinds, .int .i64 c_1.SealStatute.Grace, .int .i64 c_1.SealStatute.Fine, sl_int false c_1.SealStatute.Off, .int .i64 c_1.can.a0.Low, .int .i64 c_1.can.a0.High, .int .i64 c_1.can.a1.Low, .int .i64 c_1.can.a1.High, .int .i64 c_1.can.a2.Low, .int .i64 c_1.can.a2.High], .int .i64 size_2] (.dfn 94 [.ptr [sl_api_SealKind false o.1.SealStatute.Kinds, .int .i64 o.1.SealStatute.Grace, .int .i64 o.1.SealStatute.Fine, sl_int false o.1.SealStatute.Off, .int .i64 o.1.can.a0.Low, .int .i64 o.1.can.a0.High, .int .i64 o.1.can.a1.Low, .int .i64 o.1.can.a1.High, .int .i64 o.1.can.a2.Low, .int .i64 o.1.can.a2.High], .ptr [.int .i64 o.2]]) [] := by
 unfold m_seal_cloth_found at h
 refine con_l [] [] seat Try.func68 rfl ent_68 (by kernel_rfl) rfl rfl (by simp) ?_; intro base I hI; (conv => cbv)
 cases h
 subst_vars
 exact ⟨lE, rfl⟩
theorem i_seal_cloth_found_1 (N : Nat) (p_1 : seal_cloth) (p_2 : Int) (o : List seal_cloth) (h : m_it_seal_cloth_found_1 N p_1 p_2 = some o) :
  IterCon Try.prog 94 (KV.toDL [.ptr [sl_api_SealKind false p_1.SealStatute.Kinds, .int .i64 p_1.SealStatute.Grace, .int .i64 p_1.SealStatute.Fine, sl_int false p_1.SealStatute.Off, .int .i64 p_1.can.a0.Low, .int .i64 p_1.can.a0.High, .int .i64 p_1.can.a1.Low, .int .i64 p_1.can.a1.High, .int .i64 p_1.can.a2.Low, .int .i64 p_1.can.a2.High], .ptr [.int .i64 p_2]]) ((o.map fun (y : seal_cloth) => [.agg [sl_api_SealKind false y.SealStatute.Kinds, .int .i64 y.SealStatute.Grace, .int .i64 y.SealStatute.Fine, sl_int false y.SealStatute.Off, .int .i64 y.can.a0.Low, .int .i64 y.can.a0.High, .int .i64 y.can.a1.Low, .int .i64 y.can.a1.High, .int .i64 y.can.a2.Low, .int .i64 y.can.a2.High]]).map KV.toDL) := by
 unfold m_it_seal_cloth_found_1 at h
 have h1 := bind_of h; clear h
 obtain ⟨⟨zs, u⟩, h, e⟩ := h1
 cases e
 unfold m_seal_cloth_found_1 at h
 refine iter_l (en := fun (y : seal_cloth) => [.agg [sl_api_SealKind false y.SealStatute.Kinds, .int .i64 y.SealStatute.Grace, .int .i64 y.SealStatute.Fine, sl_int false y.SealStatute.Off, .int .i64 y.can.a0.Low, .int .i64 y.can.a0.High, .int .i64 y.can.a1.Low, .int .i64 y.can.a1.High, .int .i64 y.can.a2.Low, .int .i64 y.can.a2.High]]) [1000000, 1000001, 1000004] seat Try.func94 rfl ent_94 (by kernel_rfl) rfl rfl rfl ?_; intro E Inv Fin hTk base s hy I hI; (conv => cbv)
 refine L_cut hI seat [1000001, 1000004] (by kernel_rfl) h (fun q => match q with | n_3 => .normal) (fun q => match q with | n_3 => ⟨31, [(0, .yld), (1, .ptr [sl_api_SealKind false p_1.SealStatute.Kinds, .int .i64 p_1.SealStatute.Grace, .int .i64 p_1.SealStatute.Fine, sl_int false p_1.SealStatute.Off, .int .i64 p_1.can.a0.Low, .int .i64 p_1.can.a0.High, .int .i64 p_1.can.a1.Low, .int .i64 p_1.can.a1.High, .int .i64 p_1.can.a2.Low, .int .i64 p_1.can.a2.High]), (2, .ptr [.int .i64 p_2]), (4, .int .i64 n_3)], [], [], 0⟩) ?_ ?_; all_goals clear h
 ·intro x h R hR
  (conv => cbv)
  refine L_conj hI h (fun g => by subst_vars; exact g) ?_; clear h; intro hc h
  refine L_tst hI h (by subst_vars; rfl) ?_ ?_ <;> clear h <;> intro h
  ·exact hR _ _ (Option.some.inj h).symm (by subst_vars; exact weak_l rfl rfl ⟨lR, lE, lE, lE, trivial⟩ trivial trivial)
  ·refine L_tst hI h (by subst_vars; rfl) ?_ ?_ <;> clear h <;> intro h
   ·exact hR _ _ (Option.some.inj h).symm (by subst_vars; exact weak_l rfl rfl ⟨lR, lE, lE, lE, trivial⟩ trivial trivial)
   ·exact hR _ _ (Option.some.inj h).symm (by subst_vars; exact weak_l rfl rfl ⟨lR, lE, lE, lE, trivial⟩ trivial trivial)
 ·intro n_3 h
  (conv => cbv)
  refine L_loopY (Fin := Fin) hI seat [1000000, 1000001, 1000004] (by kernel_rfl) h hy (fun q => match q with | n_11 => ⟨31, [(0, .yld), (1, .ptr [sl_api_SealKind false p_1.SealStatute.Kinds, .int .i64 p_1.SealStatute.Grace, .int .i64 p_1.SealStatute.Fine, sl_int false p_1.SealStatute.Off, .int .i64 p_1.can.a0.Low, .int .i64 p_1.can.a0.High, .int .i64 p_1.can.a1.Low, .int .i64 p_1.can.a1.High, .int .i64 p_1.can.a2.Low, .int .i64 p_1.can.a2.High]), (2, .ptr [.int .i64 p_2]), (4, .int .i64 n_11)], [], [], 0⟩) (fun q => match q with | () => .exit 0) (fun q => match q with | () => ⟨31, [], [], [], 0⟩) (.ret) (by subst_vars; exact weak_l rfl rfl ⟨lR, lE, lE, lE, trivial⟩ trivial trivial) (by intro q; rcases q with _ <;> (intro e; exact Exit.noConfusion e)) (by intro e; exact Exit.noConfusion e) ?_ ?_ ?_; all_goals clear h hy
  ·intro n_11 x zs ps s h hy R hR hX hF
   rw [m_seal_cloth_found_1_L1] at h
   (conv => cbv)
   refine L_cut hI seat [1000000, 1000004] (by kernel_rfl) h (fun q => match q with | v_19 => .normal) (fun q => match q with | v_19 => ⟨31, [(0, .yld), (1, .ptr [sl_api_SealKind false p_1.SealStatute.Kinds, .int .i64 p_1.SealStatute.Grace, .int .i64 p_1.SealStatute.Fine, sl_int false p_1.SealStatute.Off, .int .i64 p_1.can.a0.Low, .int .i64 p_1.can.a0.High, .int .i64 p_1.can.a1.Low, .int .i64 p_1.can.a1.High, .int .i64 p_1.can.a2.Low, .int .i64 p_1.can.a2.High]), (2, .ptr [.int .i64 p_2]), (4, .int .i64 n_11), (17, .bool v_19)], [], [], 0⟩) ?_ ?_; all_goals clear h
   ·intro x h R hR
    (conv => cbv)
    refine L_conj hI h (fun g => by subst_vars; exact g) ?_; clear h; intro hc h
    refine L_tst hI h (by subst_vars; rfl) ?_ ?_ <;> clear h <;> intro h
    ·exact hR _ _ (Option.some.inj h).symm (by subst_vars; exact weak_l rfl rfl ⟨lR, lE, lE, lE, lE, trivial⟩ trivial trivial)
    ·refine L_tst hI h (by subst_vars; rfl) ?_ ?_ <;> clear h <;> intro h
     ·exact hR _ _ (Option.some.inj h).symm (by subst_vars; exact weak_l rfl rfl ⟨lR, lE, lE, lE, lE, trivial⟩ trivial trivial)
     ·exact hR _ _ (Option.some.inj h).symm (by subst_vars; exact weak_l rfl rfl ⟨lR, lE, lE, lE, lE, trivial⟩ trivial trivial)
   ·intro v_19 h
    (conv => cbv)
    refine L_tst hI h (by subst_vars; rfl) ?_ ?_ <;> clear h <;> intro h
    ·refine L_cut hI seat [1000000, 1000001] (by kernel_rfl) h (fun q => match q with | (one_20, one_21, one_22, one_23, one_24, one_25) => .normal) (fun q => match q with | (one_20, one_21, one_22, one_23, one_24, one_25) => ⟨31, [(0, .yld), (1, .ptr [sl_api_SealKind false p_1.SealStatute.Kinds, .int .i64 p_1.SealStatute.Grace, .int .i64 p_1.SealStatute.Fine, sl_int false p_1.SealStatute.Off, .int .i64 p_1.can.a0.Low, .int .i64 p_1.can.a0.High, .int .i64 p_1.can.a1.Low, .int .i64 p_1.can.a1.High, .int .i64 p_1.can.a2.Low, .int .i64 p_1.can.a2.High]), (2, .ptr [.int .i64 p_2]), (4, .int .i64 n_11), (5, .loc 0 0)], [(0, ⟨120, [sl_api_SealKind false p_1.SealStatute.Kinds, .int .i64 p_1.SealStatute.Grace, .int .i64 p_1.SealStatute.Fine, sl_int false p_1.SealStatute.Off, .int .i64 one_20, .int .i64 one_21, .int .i64 one_22, .int .i64 one_23, .int .i64 one_24, .int .i64 one_25], true⟩)], [], 0⟩) ?_ ?_; all_goals clear h
     ·intro x h R hR
      (conv => cbv)
      refine L_conj hI h (fun g => by subst_vars; exact g) ?_; clear h; intro hc h
      refine L_tst hI h (by subst_vars; rfl) ?_ ?_ <;> clear h <;> intro h
      ·exact hR _ _ (Option.some.inj h).symm (by subst_vars; exact weak_l rfl rfl ⟨lR, lE, lE, lE, lR, trivial⟩ ⟨lB ⟨LV_sl, lE, lE, LV_sl, lE, lE, lE, lE, lE, lE, rfl⟩, trivial⟩ trivial)
      ·refine L_tst hI h (by subst_vars; rfl) ?_ ?_ <;> clear h <;> intro h
       ·exact hR _ _ (Option.some.inj h).symm (by subst_vars; exact weak_l rfl rfl ⟨lR, lE, lE, lE, lR, trivial⟩ ⟨lB ⟨LV_sl, lE, lE, LV_sl, lE, lE, lE, lE, lE, lE, rfl⟩, trivial⟩ trivial)
       ·exact hR _ _ (Option.some.inj h).symm (by subst_vars; exact weak_l rfl rfl ⟨lR, lE, lE, lE, lR, trivial⟩ ⟨lB ⟨LV_sl, lE, lE, LV_sl, lE, lE, lE, lE, lE, lE, rfl⟩, trivial⟩ trivial)
     ·intro q h
      rcases q with ⟨one_20, one_21, one_22, one_23, one_24, one_25⟩
      (conv => cbv)
      refine L_yield hI hTk (y := (seal_cloth.mk p_1.SealStatute (A3_api_Span.mk (api_Span.mk one_20 one_21) (api_Span.mk one_22 one_23) (api_Span.mk one_24 one_25)))) h hy (by subst_vars; rfl) ?_ ?_ <;> clear h hy
      ·intro zs s h hy
       (conv => cbv)
       refine K_tst hI (fun hq => by first | (rw [hI] at hq; cases hq; done) | cases hq) (fun _ => ?_)
       obtain ⟨rfl, rfl⟩ := L_leafY h; exact hR _ _ _ rfl hy (by subst_vars; exact weak_l rfl rfl ⟨lR, lE, lE, lE, trivial⟩ trivial trivial)
      ·intro s hfin
       (conv => cbv)
       refine K_tst hI (fun _ => ?_) (fun hq => by first | (rw [hI] at hq; cases hq; done) | cases hq)
       exact hF _ _ hfin
    ·obtain ⟨rfl, rfl⟩ := L_leafY h; exact hX _ _ _ rfl hy (by subst_vars; exact weak_l rfl rfl trivial trivial trivial)
  ·intro q zs s h hy
   (conv => cbv)
   exact Y_end hTk h hy
  ·intro S1 s hfin
   (conv => cbv)
   exact hfin
theorem w_seal_Look (N : Nat) (s_1 : api_SealStatute) (read_2 : (List Int)) (o : Int × Int × Int) (h : m_seal_Look N s_1 read_2 = some o) :
  KC Try.prog 31 [.agg [sl_api_SealKind false s_1.Kinds, .int .i64 s_1.Grace, .int .i64 s_1.Fine, sl_int false s_1.Off], sl_int false read_2] (.tup [.int .i64 o.1, .int .i64 o.2.1, .int .i64 o.2.2]) [] := by
 unfold m_seal_Look at h
 refine con_l [] [2000037] seat Try.func31 rfl ent_31 (by kernel_rfl) rfl rfl (by simp) ?_; intro base I hI; (conv => cbv)
 refine L_call hI h (fun v hv => w_seal_newCloth N s_1 read_2 v hv) (by subst_vars; exact ⟨(leD_refl _), (leD_refl _), rfl⟩) ?_; clear h; intro r_3 h; (conv => cbv)
 refine L_tst hI h (by subst_vars; rfl) ?_ ?_ <;> clear h <;> intro h
 ·cases h
  subst_vars
  exact ⟨(LV_tup ⟨lE, lE, lE, rfl⟩), rfl⟩
 ·refine L_call hI h (fun v hv => w_seal_cloth_possible N r_3.1 v hv) (by subst_vars; exact ⟨(leD_refl _), rfl⟩) ?_; clear h; intro r_4 h; (conv => cbv)
  refine W_unroll hI seat [2000037] (by kernel_rfl) 5 ?_; (conv => cbv)
  refine L_call hI h (fun v hv => w_seal_cloth_found N r_3.1 0 v hv) (by subst_vars; exact ⟨(leD_refl _), (leD_refl _), rfl⟩) ?_; clear h; intro r_5 h; (conv => cbv)
  replace h := bind_of h; obtain ⟨ys_6, hyys_6, h⟩ := h
  refine W_weak hI (S' := ⟨46, [(4, .lit .i64 0), (5, .int .i64 r_4), (7, .loc 1 0), (8, .int .i64 r_4), (9, .lit .i64 0), (10, .loc 2 0), (24, .lit .i64 0), (29, .dfn 94 [.ptr [sl_api_SealKind false r_5.1.SealStatute.Kinds, .int .i64 r_5.1.SealStatute.Grace, .int .i64 r_5.1.SealStatute.Fine, sl_int false r_5.1.SealStatute.Off, .int .i64 r_5.1.can.a0.Low, .int .i64 r_5.1.can.a0.High, .int .i64 r_5.1.can.a1.Low, .int .i64 r_5.1.can.a1.High, .int .i64 r_5.1.can.a2.Low, .int .i64 r_5.1.can.a2.High], .ptr [.int .i64 r_5.2]])], [(2, ⟨3, [.int .i64 0], true⟩), (1, ⟨120, [sl_api_SealKind false r_3.1.SealStatute.Kinds, .int .i64 r_3.1.SealStatute.Grace, .int .i64 r_3.1.SealStatute.Fine, sl_int false r_3.1.SealStatute.Off, .int .i64 r_3.1.can.a0.Low, .int .i64 r_3.1.can.a0.High, .int .i64 r_3.1.can.a1.Low, .int .i64 r_3.1.can.a1.High, .int .i64 r_3.1.can.a2.Low, .int .i64 r_3.1.can.a2.High], true⟩)], [], 0⟩) (by subst_vars; exact weak_l rfl rfl ⟨lE, lE, lR, lE, lE, lR, lE, lE, trivial⟩ ⟨lB ⟨lE, rfl⟩, lB ⟨LV_sl, lE, lE, LV_sl, lE, lE, lE, lE, lE, lE, rfl⟩, trivial⟩ trivial) ?_
  refine L_range hI seat [2000037] (by kernel_rfl) (ys := ys_6) (kY := fun y_7 => [.agg [sl_api_SealKind false y_7.SealStatute.Kinds, .int .i64 y_7.SealStatute.Grace, .int .i64 y_7.SealStatute.Fine, sl_int false y_7.SealStatute.Off, .int .i64 y_7.can.a0.Low, .int .i64 y_7.can.a0.High, .int .i64 y_7.can.a1.Low, .int .i64 y_7.can.a1.High, .int .i64 y_7.can.a2.Low, .int .i64 y_7.can.a2.High]]) ((i_seal_cloth_found_1 N r_5.1 r_5.2 ys_6 hyys_6)) rfl h (fun q => match q with | most_26 => ([(2, ⟨3, [.int .i64 most_26], true⟩), (1, ⟨120, [sl_api_SealKind false r_3.1.SealStatute.Kinds, .int .i64 r_3.1.SealStatute.Grace, .int .i64 r_3.1.SealStatute.Fine, sl_int false r_3.1.SealStatute.Off, .int .i64 r_3.1.can.a0.Low, .int .i64 r_3.1.can.a0.High, .int .i64 r_3.1.can.a1.Low, .int .i64 r_3.1.can.a1.High, .int .i64 r_3.1.can.a2.Low, .int .i64 r_3.1.can.a2.High], true⟩)], [])) (fun q => nomatch q) (fun q => nomatch q) rfl (fun _ => ⟨rfl, rfl⟩) 3 rfl (by subst_vars; exact ⟨lB ⟨lE, rfl⟩, lB ⟨LV_sl, lE, lE, LV_sl, lE, lE, lE, lE, lE, lE, rfl⟩, trivial⟩) (by subst_vars; exact trivial) (by intro q; rcases q with ⟨⟩ <;> (intro e; exact Exit.noConfusion e)) (by intro q; rcases q with ⟨⟩ <;> (intro _ e; exact Exit.noConfusion e)) (by intro q; rcases q with ⟨⟩ <;> (intro e; exact Exit.noConfusion e)) ?_ ?_ ?_; all_goals clear h
  ·intro y_7 most_26 x h l I hI R hR hX
   rw [m_seal_Look_L1] at h
   (conv => cbv)
   refine L_call hI h (fun v hv => w_seal_cloth_possible N y_7 v hv) (by subst_vars; exact ⟨(leD_refl _), rfl⟩) ?_; clear h; intro r_28 h; (conv => cbv)
   exact hR _ _ (Option.some.inj h).symm (by subst_vars; exact ⟨lB ⟨lE, rfl⟩, lB ⟨LV_sl, lE, lE, LV_sl, lE, lE, lE, lE, lE, lE, rfl⟩, trivial⟩) (by subst_vars; exact trivial)
  ·intro most_26 h
   (conv => cbv)
   refine L_cut hI seat [] (by kernel_rfl) h (fun q => match q with | left_29 => .normal) (fun q => match q with | left_29 => ⟨46, [(4, .lit .i64 0), (5, .int .i64 left_29), (7, .loc 1 0), (8, .int .i64 r_4), (24, .lit .i64 0)], [(1, ⟨120, [sl_api_SealKind false r_3.1.SealStatute.Kinds, .int .i64 r_3.1.SealStatute.Grace, .int .i64 r_3.1.SealStatute.Fine, sl_int false r_3.1.SealStatute.Off, .int .i64 r_3.1.can.a0.Low, .int .i64 r_3.1.can.a0.High, .int .i64 r_3.1.can.a1.Low, .int .i64 r_3.1.can.a1.High, .int .i64 r_3.1.can.a2.Low, .int .i64 r_3.1.can.a2.High], true⟩)], [], 0⟩) ?_ ?_; all_goals clear h
   ·intro x h R hR
    (conv => cbv)
    refine L_tst hI h (by subst_vars; rfl) ?_ ?_ <;> clear h <;> intro h
    ·exact hR _ _ (Option.some.inj h).symm (by subst_vars; exact weak_l rfl rfl ⟨lE, lE, lR, lE, lE, trivial⟩ ⟨lB ⟨LV_sl, lE, lE, LV_sl, lE, lE, lE, lE, lE, lE, rfl⟩, trivial⟩ trivial)
    ·exact hR _ _ (Option.some.inj h).symm (by subst_vars; exact weak_l rfl rfl ⟨lE, lE, lR, lE, lE, trivial⟩ ⟨lB ⟨LV_sl, lE, lE, LV_sl, lE, lE, lE, lE, lE, lE, rfl⟩, trivial⟩ trivial)
   ·intro left_29 h
    (conv => cbv)
    refine L_call hI h (fun v hv => w_seal_cloth_found N r_3.1 1 v hv) (by subst_vars; exact ⟨(leD_refl _), (leD_refl _), rfl⟩) ?_; clear h; intro r_30 h; (conv => cbv)
    replace h := bind_of h; obtain ⟨ys_31, hyys_31, h⟩ := h
    refine W_weak hI (S' := ⟨46, [(4, .lit .i64 0), (5, .int .i64 left_29), (7, .loc 1 0), (8, .int .i64 r_4), (9, .lit .i64 1), (10, .loc 2 0), (24, .lit .i64 1), (29, .dfn 94 [.ptr [sl_api_SealKind false r_30.1.SealStatute.Kinds, .int .i64 r_30.1.SealStatute.Grace, .int .i64 r_30.1.SealStatute.Fine, sl_int false r_30.1.SealStatute.Off, .int .i64 r_30.1.can.a0.Low, .int .i64 r_30.1.can.a0.High, .int .i64 r_30.1.can.a1.Low, .int .i64 r_30.1.can.a1.High, .int .i64 r_30.1.can.a2.Low, .int .i64 r_30.1.can.a2.High], .ptr [.int .i64 r_30.2]])], [(2, ⟨3, [.int .i64 0], true⟩), (1, ⟨120, [sl_api_SealKind false r_3.1.SealStatute.Kinds, .int .i64 r_3.1.SealStatute.Grace, .int .i64 r_3.1.SealStatute.Fine, sl_int false r_3.1.SealStatute.Off, .int .i64 r_3.1.can.a0.Low, .int .i64 r_3.1.can.a0.High, .int .i64 r_3.1.can.a1.Low, .int .i64 r_3.1.can.a1.High, .int .i64 r_3.1.can.a2.Low, .int .i64 r_3.1.can.a2.High], true⟩)], [], 0⟩) (by subst_vars; exact weak_l rfl rfl ⟨lE, lE, lR, lE, lE, lR, lE, lE, trivial⟩ ⟨lB ⟨lE, rfl⟩, lB ⟨LV_sl, lE, lE, LV_sl, lE, lE, lE, lE, lE, lE, rfl⟩, trivial⟩ trivial) ?_
    refine L_range hI seat [2000037] (by kernel_rfl) (ys := ys_31) (kY := fun y_32 => [.agg [sl_api_SealKind false y_32.SealStatute.Kinds, .int .i64 y_32.SealStatute.Grace, .int .i64 y_32.SealStatute.Fine, sl_int false y_32.SealStatute.Off, .int .i64 y_32.can.a0.Low, .int .i64 y_32.can.a0.High, .int .i64 y_32.can.a1.Low, .int .i64 y_32.can.a1.High, .int .i64 y_32.can.a2.Low, .int .i64 y_32.can.a2.High]]) ((i_seal_cloth_found_1 N r_30.1 r_30.2 ys_31 hyys_31)) rfl h (fun q => match q with | most_34 => ([(2, ⟨3, [.int .i64 most_34], true⟩), (1, ⟨120, [sl_api_SealKind false r_3.1.SealStatute.Kinds, .int .i64 r_3.1.SealStatute.Grace, .int .i64 r_3.1.SealStatute.Fine, sl_int false r_3.1.SealStatute.Off, .int .i64 r_3.1.can.a0.Low, .int .i64 r_3.1.can.a0.High, .int .i64 r_3.1.can.a1.Low, .int .i64 r_3.1.can.a1.High, .int .i64 r_3.1.can.a2.Low, .int .i64 r_3.1.can.a2.High], true⟩)], [])) (fun q => nomatch q) (fun q => nomatch q) rfl (fun _ => ⟨rfl, rfl⟩) 3 rfl (by subst_vars; exact ⟨lB ⟨lE, rfl⟩, lB ⟨LV_sl, lE, lE, LV_sl, lE, lE, lE, lE, lE, lE, rfl⟩, trivial⟩) (by subst_vars; exact trivial) (by intro q; rcases q with ⟨⟩ <;> (intro e; exact Exit.noConfusion e)) (by intro q; rcases q with ⟨⟩ <;> (intro _ e; exact Exit.noConfusion e)) (by intro q; rcases q with ⟨⟩ <;> (intro e; exact Exit.noConfusion e)) ?_ ?_ ?_; all_goals clear h
    ·intro y_32 most_34 x h l I hI R hR hX
     rw [m_seal_Look_L2] at h
     (conv => cbv)
     refine L_call hI h (fun v hv => w_seal_cloth_possible N y_32 v hv) (by subst_vars; exact ⟨(leD_refl _), rfl⟩) ?_; clear h; intro r_36 h; (conv => cbv)
     exact hR _ _ (Option.some.inj h).symm (by subst_vars; exact ⟨lB ⟨lE, rfl⟩, lB ⟨LV_sl, lE, lE, LV_sl, lE, lE, lE, lE, lE, lE, rfl⟩, trivial⟩) (by subst_vars; exact trivial)
    ·intro most_34 h
     (conv => cbv)
     refine L_cut hI seat [] (by kernel_rfl) h (fun q => match q with | (size_37, left_38) => .normal) (fun q => match q with | (size_37, left_38) => ⟨46, [(4, .int .i64 size_37), (5, .int .i64 left_38), (7, .loc 1 0), (8, .int .i64 r_4), (24, .lit .i64 1)], [(1, ⟨120, [sl_api_SealKind false r_3.1.SealStatute.Kinds, .int .i64 r_3.1.SealStatute.Grace, .int .i64 r_3.1.SealStatute.Fine, sl_int false r_3.1.SealStatute.Off, .int .i64 r_3.1.can.a0.Low, .int .i64 r_3.1.can.a0.High, .int .i64 r_3.1.can.a1.Low, .int .i64 r_3.1.can.a1.High, .int .i64 r_3.1.can.a2.Low, .int .i64 r_3.1.can.a2.High], true⟩)], [], 0⟩) ?_ ?_; all_goals clear h
     ·intro x h R hR
      (conv => cbv)
      refine L_tst hI h (by subst_vars; rfl) ?_ ?_ <;> clear h <;> intro h
      ·exact hR _ _ (Option.some.inj h).symm (by subst_vars; exact weak_l rfl rfl ⟨lE, lE, lR, lE, lE, trivial⟩ ⟨lB ⟨LV_sl, lE, lE, LV_sl, lE, lE, lE, lE, lE, lE, rfl⟩, trivial⟩ trivial)
      ·exact hR _ _ (Option.some.inj h).symm (by subst_vars; exact weak_l rfl rfl ⟨lE, lE, lR, lE, lE, trivial⟩ ⟨lB ⟨LV_sl, lE, lE, LV_sl, lE, lE, lE, lE, lE, lE, rfl⟩, trivial⟩ trivial)
     ·intro q h
      rcases q with ⟨size_37, left_38⟩
      (conv => cbv)
      refine L_call hI h (fun v hv => w_seal_cloth_found N r_3.1 2 v hv) (by subst_vars; exact ⟨(leD_refl _), (leD_refl _), rfl⟩) ?_; clear h; intro r_39 h; (conv => cbv)
      replace h := bind_of h; obtain ⟨ys_40, hyys_40, h⟩ := h
      refine W_weak hI (S' := ⟨46, [(4, .int .i64 size_37), (5, .int .i64 left_38), (7, .loc 1 0), (8, .int .i64 r_4), (9, .lit .i64 2), (10, .loc 2 0), (24, .lit .i64 2), (29, .dfn 94 [.ptr [sl_api_SealKind false r_39.1.SealStatute.Kinds, .int .i64 r_39.1.SealStatute.Grace, .int .i64 r_39.1.SealStatute.Fine, sl_int false r_39.1.SealStatute.Off, .int .i64 r_39.1.can.a0.Low, .int .i64 r_39.1.can.a0.High, .int .i64 r_39.1.can.a1.Low, .int .i64 r_39.1.can.a1.High, .int .i64 r_39.1.can.a2.Low, .int .i64 r_39.1.can.a2.High], .ptr [.int .i64 r_39.2]])], [(2, ⟨3, [.int .i64 0], true⟩), (1, ⟨120, [sl_api_SealKind false r_3.1.SealStatute.Kinds, .int .i64 r_3.1.SealStatute.Grace, .int .i64 r_3.1.SealStatute.Fine, sl_int false r_3.1.SealStatute.Off, .int .i64 r_3.1.can.a0.Low, .int .i64 r_3.1.can.a0.High, .int .i64 r_3.1.can.a1.Low, .int .i64 r_3.1.can.a1.High, .int .i64 r_3.1.can.a2.Low, .int .i64 r_3.1.can.a2.High], true⟩)], [], 0⟩) (by subst_vars; exact weak_l rfl rfl ⟨lE, lE, lR, lE, lE, lR, lE, lE, trivial⟩ ⟨lB ⟨lE, rfl⟩, lB ⟨LV_sl, lE, lE, LV_sl, lE, lE, lE, lE, lE, lE, rfl⟩, trivial⟩ trivial) ?_
      refine L_range hI seat [2000037] (by kernel_rfl) (ys := ys_40) (kY := fun y_41 => [.agg [sl_api_SealKind false y_41.SealStatute.Kinds, .int .i64 y_41.SealStatute.Grace, .int .i64 y_41.SealStatute.Fine, sl_int false y_41.SealStatute.Off, .int .i64 y_41.can.a0.Low, .int .i64 y_41.can.a0.High, .int .i64 y_41.can.a1.Low, .int .i64 y_41.can.a1.High, .int .i64 y_41.can.a2.Low, .int .i64 y_41.can.a2.High]]) ((i_seal_cloth_found_1 N r_39.1 r_39.2 ys_40 hyys_40)) rfl h (fun q => match q with | most_43 => ([(2, ⟨3, [.int .i64 most_43], true⟩), (1, ⟨120, [sl_api_SealKind false r_3.1.SealStatute.Kinds, .int .i64 r_3.1.SealStatute.Grace, .int .i64 r_3.1.SealStatute.Fine, sl_int false r_3.1.SealStatute.Off, .int .i64 r_3.1.can.a0.Low, .int .i64 r_3.1.can.a0.High, .int .i64 r_3.1.can.a1.Low, .int .i64 r_3.1.can.a1.High, .int .i64 r_3.1.can.a2.Low, .int .i64 r_3.1.can.a2.High], true⟩)], [])) (fun q => nomatch q) (fun q => nomatch q) rfl (fun _ => ⟨rfl, rfl⟩) 3 rfl (by subst_vars; exact ⟨lB ⟨lE, rfl⟩, lB ⟨LV_sl, lE, lE, LV_sl, lE, lE, lE, lE, lE, lE, rfl⟩, trivial⟩) (by subst_vars; exact trivial) (by intro q; rcases q with ⟨⟩ <;> (intro e; exact Exit.noConfusion e)) (by intro q; rcases q with ⟨⟩ <;> (intro _ e; exact Exit.noConfusion e)) (by intro q; rcases q with ⟨⟩ <;> (intro e; exact Exit.noConfusion e)) ?_ ?_ ?_; all_goals clear h
      ·intro y_41 most_43 x h l I hI R hR hX
       rw [m_seal_Look_L3] at h
       (conv => cbv)
       refine L_call hI h (fun v hv => w_seal_cloth_possible N y_41 v hv) (by subst_vars; exact ⟨(leD_refl _), rfl⟩) ?_; clear h; intro r_45 h; (conv => cbv)
       exact hR _ _ (Option.some.inj h).symm (by subst_vars; exact ⟨lB ⟨lE, rfl⟩, lB ⟨LV_sl, lE, lE, LV_sl, lE, lE, lE, lE, lE, lE, rfl⟩, trivial⟩) (by subst_vars; exact trivial)
      ·intro most_43 h
       (conv => cbv)
       refine L_cut hI seat [] (by kernel_rfl) h (fun q => match q with | (size_46, left_47) => .normal) (fun q => match q with | (size_46, left_47) => ⟨46, [(4, .int .i64 size_46), (5, .int .i64 left_47), (7, .loc 1 0), (8, .int .i64 r_4), (24, .lit .i64 2)], [(1, ⟨120, [sl_api_SealKind false r_3.1.SealStatute.Kinds, .int .i64 r_3.1.SealStatute.Grace, .int .i64 r_3.1.SealStatute.Fine, sl_int false r_3.1.SealStatute.Off, .int .i64 r_3.1.can.a0.Low, .int .i64 r_3.1.can.a0.High, .int .i64 r_3.1.can.a1.Low, .int .i64 r_3.1.can.a1.High, .int .i64 r_3.1.can.a2.Low, .int .i64 r_3.1.can.a2.High], true⟩)], [], 0⟩) ?_ ?_; all_goals clear h
       ·intro x h R hR
        (conv => cbv)
        refine L_tst hI h (by subst_vars; rfl) ?_ ?_ <;> clear h <;> intro h
        ·exact hR _ _ (Option.some.inj h).symm (by subst_vars; exact weak_l rfl rfl ⟨lE, lE, lR, lE, lE, trivial⟩ ⟨lB ⟨LV_sl, lE, lE, LV_sl, lE, lE, lE, lE, lE, lE, rfl⟩, trivial⟩ trivial)
        ·exact hR _ _ (Option.some.inj h).symm (by subst_vars; exact weak_l rfl rfl ⟨lE, lE, lR, lE, lE, trivial⟩ ⟨lB ⟨LV_sl, lE, lE, LV_sl, lE, lE, lE, lE, lE, lE, rfl⟩, trivial⟩ trivial)
       ·intro q h
        rcases q with ⟨size_46, left_47⟩
        (conv => cbv)
        refine L_tst hI h (by subst_vars; rfl) ?_ ?_ <;> clear h <;> intro h
        ·cases h
         subst_vars
         exact ⟨(LV_tup ⟨lE, lE, lE, rfl⟩), rfl⟩
        ·cases h
         subst_vars
         exact ⟨(LV_tup ⟨lE, lE, lE, rfl⟩), rfl⟩
      ·intro q h
       rcases q with ⟨⟩
    ·intro q h
     rcases q with ⟨⟩
  ·intro q h
   rcases q with ⟨⟩
theorem w_seal_Alike (N : Nat) (s_1 : api_SealStatute) (o : (List api_SealPair) × Int) (h : m_seal_Alike N s_1 = some o) :
  KC Try.prog 33 [.agg [sl_api_SealKind false s_1.Kinds, .int .i64 s_1.Grace, .int .i64 s_1.Fine, sl_int false s_1.Off]] (.tup [sl_api_SealPair false o.1, .int .i64 o.2]) [] := by
 unfold m_seal_Alike at h
 refine con_l [] [] seat Try.func33 rfl ent_33 (by kernel_rfl) rfl rfl (by simp) ?_; intro base I hI; (conv => cbv)
 refine L_call hI h (fun v hv => w_seal_Check N s_1 v hv) (by subst_vars; exact ⟨(leD_refl _), rfl⟩) ?_; clear h; intro r_2 h; (conv => cbv)
 refine L_tst hI h (by subst_vars; rfl) ?_ ?_ <;> clear h <;> intro h
 ·cases h
  subst_vars
  exact ⟨(LV_tup ⟨LV_nil, lE, rfl⟩), rfl⟩
 ·replace h := letO_of h; obtain ⟨v_3, hev_3, h⟩ := h
  refine L_loop hI seat [] (by kernel_rfl) h (fun q => match q with | (v_50, l_51) => ⟨61, [(1, .loc 0 0), (2, .osl 1), (16, sl_api_SealKind false s_1.Kinds), (17, .int .i64 v_3), (18, .int .i64 v_50)], [(0, ⟨25, [sl_api_SealKind false s_1.Kinds, .int .i64 s_1.Grace, .int .i64 s_1.Fine, sl_int false s_1.Off], true⟩)], [(1, ⟨59, 2, [.ls api_SealPair d_api_SealPair l_51 e_api_SealPair], false, true⟩)], 0⟩) (fun q => match q with | l_99 => .exit 0) (fun q => match q with | l_99 => ⟨61, [(2, .osl 1)], [], [(1, ⟨59, 2, [.ls api_SealPair d_api_SealPair l_99 e_api_SealPair], false, true⟩)], 0⟩) (by subst_vars; exact (weak_nil 2 1 59 2 rfl rfl rfl rfl).trans (weak_l rfl rfl ⟨lR, lR, LV_sl, lE, lE, trivial⟩ ⟨lB ⟨LV_sl, lE, lE, LV_sl, rfl⟩, trivial⟩ ⟨lO, trivial⟩)) (by intro q; rcases q with l_99 <;> (intro e; exact Exit.noConfusion e)) ?_ ?_; all_goals clear h
  ·intro q x h R hR hX
   obtain ⟨v_50, l_51⟩ := q
   rw [m_seal_Alike_L1] at h
   (conv => cbv)
   refine L_tst hI h (by subst_vars; rfl) ?_ ?_ <;> clear h <;> intro h
   ·refine L_get hI h (fun g => by subst_vars; exact g) ?_; clear h; intro hc x_100 hxx_100 h
    replace h := letO_of h; obtain ⟨b_101, heb_101, h⟩ := h
    refine L_loop hI seat [] (by kernel_rfl) h (fun q => match q with | (b_116, l_117) => ⟨61, [(1, .loc 0 0), (2, .osl 1), (5, .int .i64 v_50), (6, .loc 2 0), (7, .int .i64 b_116), (16, sl_api_SealKind false s_1.Kinds), (17, .int .i64 v_3), (18, .int .i64 v_50)], [(2, ⟨106, [sl_api_Span false x_100.Sizes, .str x_100.Mark], true⟩), (0, ⟨25, [sl_api_SealKind false s_1.Kinds, .int .i64 s_1.Grace, .int .i64 s_1.Fine, sl_int false s_1.Off], true⟩)], [(1, ⟨59, 2, [.ls api_SealPair d_api_SealPair l_117 e_api_SealPair], false, true⟩)], 0⟩) (fun q => match q with | l_132 => .exit 2) (fun q => match q with | l_132 => ⟨61, [(1, .loc 0 0), (2, .osl 1), (16, sl_api_SealKind false s_1.Kinds), (17, .int .i64 v_3), (18, .int .i64 v_50)], [(0, ⟨25, [sl_api_SealKind false s_1.Kinds, .int .i64 s_1.Grace, .int .i64 s_1.Fine, sl_int false s_1.Off], true⟩)], [(1, ⟨59, 2, [.ls api_SealPair d_api_SealPair l_132 e_api_SealPair], false, true⟩)], 0⟩) (by subst_vars; exact weak_l rfl rfl ⟨lR, lR, lE, lR, lE, LV_sl, lE, lE, trivial⟩ ⟨lB ⟨LV_sl, lE, rfl⟩, lB ⟨LV_sl, lE, lE, LV_sl, rfl⟩, trivial⟩ ⟨lO, trivial⟩) (by intro q; rcases q with l_132 <;> (intro e; exact Exit.noConfusion e)) ?_ ?_; all_goals clear h
    ·intro q x h R hR hX
     obtain ⟨b_116, l_117⟩ := q
     rw [m_seal_Alike_L2] at h
     (conv => cbv)
     refine L_tst hI h (by subst_vars; rfl) ?_ ?_ <;> clear h <;> intro h
     ·replace h := letO_of h; obtain ⟨v_133, hev_133, h⟩ := h
      refine L_loop hI seat [] (by kernel_rfl) h (fun q => match q with | v_138 => ⟨61, [(1, .loc 0 0), (2, .osl 1), (5, .int .i64 v_50), (6, .loc 2 0), (7, .int .i64 b_116), (16, sl_api_SealKind false s_1.Kinds), (17, .int .i64 v_3), (18, .int .i64 v_50), (33, sl_api_Span false x_100.Sizes), (34, .int .i64 v_133), (35, .int .i64 v_138)], [(2, ⟨106, [sl_api_Span false x_100.Sizes, .str x_100.Mark], true⟩), (0, ⟨25, [sl_api_SealKind false s_1.Kinds, .int .i64 s_1.Grace, .int .i64 s_1.Fine, sl_int false s_1.Off], true⟩)], [(1, ⟨59, 2, [.ls api_SealPair d_api_SealPair l_117 e_api_SealPair], false, true⟩)], 0⟩) (fun q => match q with | (.inl ()) => .exit 3 | (.inr ()) => .exit 4) (fun q => match q with | (.inl ()) => ⟨61, [(1, .loc 0 0), (2, .osl 1), (5, .int .i64 v_50), (6, .loc 2 0), (7, .int .i64 b_116), (16, sl_api_SealKind false s_1.Kinds), (17, .int .i64 v_3), (18, .int .i64 v_50)], [(2, ⟨106, [sl_api_Span false x_100.Sizes, .str x_100.Mark], true⟩), (0, ⟨25, [sl_api_SealKind false s_1.Kinds, .int .i64 s_1.Grace, .int .i64 s_1.Fine, sl_int false s_1.Off], true⟩)], [(1, ⟨59, 2, [.ls api_SealPair d_api_SealPair l_117 e_api_SealPair], false, true⟩)], 0⟩ | (.inr ()) => ⟨61, [(1, .loc 0 0), (2, .osl 1), (5, .int .i64 v_50), (6, .loc 2 0), (7, .int .i64 b_116), (16, sl_api_SealKind false s_1.Kinds), (17, .int .i64 v_3), (18, .int .i64 v_50)], [(2, ⟨106, [sl_api_Span false x_100.Sizes, .str x_100.Mark], true⟩), (0, ⟨25, [sl_api_SealKind false s_1.Kinds, .int .i64 s_1.Grace, .int .i64 s_1.Fine, sl_int false s_1.Off], true⟩)], [(1, ⟨59, 2, [.ls api_SealPair d_api_SealPair l_117 e_api_SealPair], false, true⟩)], 0⟩) (by subst_vars; exact weak_l rfl rfl ⟨lR, lR, lE, lR, lE, LV_sl, lE, lE, LV_sl, lE, lE, trivial⟩ ⟨lB ⟨LV_sl, lE, rfl⟩, lB ⟨LV_sl, lE, lE, LV_sl, rfl⟩, trivial⟩ ⟨lO, trivial⟩) (by intro q; rcases q with (_ | _) <;> (intro e; exact Exit.noConfusion e)) ?_ ?_; all_goals clear h
      ·intro v_138 x h R hR hX
       rw [m_seal_Alike_L3] at h
       (conv => cbv)
       refine L_tst hI h (by subst_vars; rfl) ?_ ?_ <;> clear h <;> intro h
       ·refine L_get hI h (fun g => by subst_vars; exact g) ?_; clear h; intro hc x_143 hxx_143 h
        refine L_get hI h (fun g => by subst_vars; exact g) ?_; clear h; intro hc x_144 hxx_144 h
        refine L_get hI h (fun g => by subst_vars; exact g) ?_; clear h; intro hc x_145 hxx_145 h
        refine L_call hI h (fun v hv => w_seal_meet N x_143 x_145 v hv) (by subst_vars; exact ⟨(leD_refl _), (leD_refl _), rfl⟩) ?_; clear h; intro r_146 h; (conv => cbv)
        refine L_tst hI h (by subst_vars; rfl) ?_ ?_ <;> clear h <;> intro h
        ·exact hX _ _ (Option.some.inj h).symm (by subst_vars; exact weak_l rfl rfl ⟨lR, lR, lE, lR, lE, LV_sl, lE, lE, trivial⟩ ⟨lB ⟨LV_sl, lE, rfl⟩, lB ⟨LV_sl, lE, lE, LV_sl, rfl⟩, trivial⟩ ⟨lO, trivial⟩)
        ·exact hR _ _ (Option.some.inj h).symm (by subst_vars; exact weak_l rfl rfl ⟨lR, lR, lE, lR, lE, LV_sl, lE, lE, LV_sl, lE, lE, trivial⟩ ⟨lB ⟨LV_sl, lE, rfl⟩, lB ⟨LV_sl, lE, lE, LV_sl, rfl⟩, trivial⟩ ⟨lO, trivial⟩)
       ·exact hX _ _ (Option.some.inj h).symm (by subst_vars; exact weak_l rfl rfl ⟨lR, lR, lE, lR, lE, LV_sl, lE, lE, trivial⟩ ⟨lB ⟨LV_sl, lE, rfl⟩, lB ⟨LV_sl, lE, lE, LV_sl, rfl⟩, trivial⟩ ⟨lO, trivial⟩)
      ·intro q h
       rcases q with (_ | _)
       ·(conv => cbv)
        exact hR _ _ (Option.some.inj h).symm (by subst_vars; exact weak_l rfl rfl ⟨lR, lR, lE, lR, lE, LV_sl, lE, lE, trivial⟩ ⟨lB ⟨LV_sl, lE, rfl⟩, lB ⟨LV_sl, lE, lE, LV_sl, rfl⟩, trivial⟩ ⟨lO, trivial⟩)
       ·(conv => cbv)
        refine L_conj hI h (fun g => by subst_vars; exact g) ?_; clear h; intro hc h
        exact hR _ _ (Option.some.inj h).symm (by subst_vars; exact weak_l rfl rfl ⟨lR, lR, lE, lR, lE, LV_sl, lE, lE, trivial⟩ ⟨lB ⟨LV_sl, lE, rfl⟩, lB ⟨LV_sl, lE, lE, LV_sl, rfl⟩, trivial⟩ ⟨lO, trivial⟩)
     ·exact hX _ _ (Option.some.inj h).symm (by subst_vars; exact weak_l rfl rfl ⟨lR, lR, LV_sl, lE, lE, trivial⟩ ⟨lB ⟨LV_sl, lE, lE, LV_sl, rfl⟩, trivial⟩ ⟨lO, trivial⟩)
    ·intro l_132 h
     (conv => cbv)
     exact hR _ _ (Option.some.inj h).symm (by subst_vars; exact weak_l rfl rfl ⟨lR, lR, LV_sl, lE, lE, trivial⟩ ⟨lB ⟨LV_sl, lE, lE, LV_sl, rfl⟩, trivial⟩ ⟨lO, trivial⟩)
   ·exact hX _ _ (Option.some.inj h).symm (by subst_vars; exact weak_l rfl rfl ⟨lR, trivial⟩ trivial ⟨lO, trivial⟩)
  ·intro l_99 h
   (conv => cbv)
   cases h
   subst_vars
   exact ⟨(LV_tup ⟨LV_sl, lE, rfl⟩), rfl⟩
theorem w_seal_Torn (N : Nat) (p_1 : api_SealStatute) (p_2 : ByteArray) (o : (List Int) × Int) (h : m_seal_Torn N p_1 p_2 = some o) :
  KC Try.prog 34 [.agg [sl_api_SealKind false p_1.Kinds, .int .i64 p_1.Grace, .int .i64 p_1.Fine, sl_int false p_1.Off], .str p_2] (.tup [sl_int false o.1, .int .i64 o.2]) [] := by
 unfold m_seal_Torn at h
 refine con_l [] [1000014, 2000058] seat Try.func34 rfl ent_34 (by kernel_rfl) rfl rfl (by simp) ?_; intro base I hI; (conv => cbv)
 refine L_call hI h (fun v hv => w_seal_Check N p_1 v hv) (by subst_vars; exact ⟨(leD_refl _), rfl⟩) ?_; clear h; intro r_3 h; (conv => cbv)
 refine L_tst hI h (by subst_vars; rfl) ?_ ?_ <;> clear h <;> intro h
 ·cases h
  subst_vars
  exact ⟨(LV_tup ⟨LV_nil, lE, rfl⟩), rfl⟩
 ·refine L_call hI h (fun v hv => w_seal_isMark N p_2 kstrb v hv) (by subst_vars; exact ⟨(leD_refl _), (leD_refl _), rfl⟩) ?_; clear h; intro r_4 h; (conv => cbv)
  refine L_tst hI h (by subst_vars; rfl) ?_ ?_ <;> clear h <;> intro h
  ·cases h
   subst_vars
   exact ⟨(LV_tup ⟨LV_nil, lE, rfl⟩), rfl⟩
  ·replace h := letO_of h; obtain ⟨v_5, hev_5, h⟩ := h
   refine L_loop hI seat [1000014, 2000058] (by kernel_rfl) h (fun q => match q with | (v_19, v_20) => ⟨68, [(1, .str p_2), (4, .osl 1), (22, sl_api_SealKind false p_1.Kinds), (23, .int .i64 v_5), (24, .int .i64 v_19)], [], [(1, ⟨3, 1, [.ls Int 0 v_20 e_int], false, true⟩)], 0⟩) (fun q => match q with | v_34 => .exit 1) (fun q => match q with | v_34 => ⟨68, [(4, .osl 1)], [], [(1, ⟨3, 1, [.ls Int 0 v_34 e_int], false, true⟩)], 0⟩) (by subst_vars; exact (weak_nil 4 1 3 1 rfl rfl rfl rfl).trans (weak_l rfl rfl ⟨lE, lR, LV_sl, lE, lE, trivial⟩ trivial ⟨lO, trivial⟩)) (by intro q; rcases q with v_34 <;> (intro e; exact Exit.noConfusion e)) ?_ ?_; all_goals clear h
   ·intro q x h R hR hX
    obtain ⟨v_19, v_20⟩ := q
    rw [m_seal_Torn_L1] at h
    (conv => cbv)
    refine L_tst hI h (by subst_vars; rfl) ?_ ?_ <;> clear h <;> intro h
    ·refine L_get hI h (fun g => by subst_vars; exact g) ?_; clear h; intro hc x_35 hxx_35 h
     refine L_tst hI h (by subst_vars; rfl) ?_ ?_ <;> clear h <;> intro h
     ·exact hR _ _ (Option.some.inj h).symm (by subst_vars; exact weak_l rfl rfl ⟨lE, lR, LV_sl, lE, lE, trivial⟩ trivial ⟨lO, trivial⟩)
     ·refine L_conj hI h (fun g => by subst_vars; exact g) ?_; clear h; intro hc h
      replace h := letO_of h; obtain ⟨v_36, hev_36, h⟩ := h
      replace h := letO_of h; obtain ⟨v_37, hev_37, h⟩ := h
      refine L_loop hI seat [1000014, 2000058] (by kernel_rfl) h (fun q => match q with | (v_40, v_41) => ⟨68, [(1, .str p_2), (4, .osl 1), (6, .int .i64 v_19), (7, .loc 2 0), (8, .bool v_40), (22, sl_api_SealKind false p_1.Kinds), (23, .int .i64 v_5), (24, .int .i64 v_19), (36, sl_u8 false v_36), (37, .int .i64 v_37), (38, .int .i64 v_41)], [(2, ⟨106, [sl_api_Span false x_35.Sizes, .str x_35.Mark], true⟩)], [(1, ⟨3, 1, [.ls Int 0 v_20 e_int], false, true⟩)], 0⟩) (fun q => match q with | v_44 => .exit 3) (fun q => match q with | v_44 => ⟨68, [(1, .str p_2), (4, .osl 1), (6, .int .i64 v_19), (8, .bool v_44), (22, sl_api_SealKind false p_1.Kinds), (23, .int .i64 v_5), (24, .int .i64 v_19)], [], [(1, ⟨3, 1, [.ls Int 0 v_20 e_int], false, true⟩)], 0⟩) (by subst_vars; exact weak_l rfl rfl ⟨lE, lR, lE, lR, lE, LV_sl, lE, lE, LV_sl, lE, lE, trivial⟩ ⟨lB ⟨LV_sl, lE, rfl⟩, trivial⟩ ⟨lO, trivial⟩) (by intro q; rcases q with v_44 <;> (intro e; exact Exit.noConfusion e)) ?_ ?_; all_goals clear h
      ·intro q x h R hR hX
       obtain ⟨v_40, v_41⟩ := q
       rw [m_seal_Torn_L2] at h
       (conv => cbv)
       refine L_tst hI h (by subst_vars; rfl) ?_ ?_ <;> clear h <;> intro h
       ·refine L_get hI h (fun g => by subst_vars; exact g) ?_; clear h; intro hc x_45 hxx_45 h
        refine L_cut hI seat [2000058] (by kernel_rfl) h (fun q => match q with | v_46 => .normal) (fun q => match q with | v_46 => ⟨68, [(1, .str p_2), (4, .osl 1), (6, .int .i64 v_19), (7, .loc 2 0), (8, .bool v_46), (22, sl_api_SealKind false p_1.Kinds), (23, .int .i64 v_5), (24, .int .i64 v_19), (36, sl_u8 false v_36), (37, .int .i64 v_37), (38, .int .i64 v_41)], [(2, ⟨106, [sl_api_Span false x_35.Sizes, .str x_35.Mark], true⟩)], [(1, ⟨3, 1, [.ls Int 0 v_20 e_int], false, true⟩)], 0⟩) ?_ ?_; all_goals clear h
        ·intro x h R hR
         (conv => cbv)
         refine L_tst hI h (by subst_vars; rfl) ?_ ?_ <;> clear h <;> intro h
         ·refine L_conj hI h (fun g => by subst_vars; exact g) ?_; clear h; intro hc h
          refine L_tst hI h (by subst_vars; rfl) ?_ ?_ <;> clear h <;> intro h
          ·exact hR _ _ (Option.some.inj h).symm (by subst_vars; exact weak_l rfl rfl ⟨lE, lR, lE, lR, lE, LV_sl, lE, lE, LV_sl, lE, lE, trivial⟩ ⟨lB ⟨LV_sl, lE, rfl⟩, trivial⟩ ⟨lO, trivial⟩)
          ·refine L_conj hI h (fun g => by subst_vars; exact g) ?_; clear h; intro hc h
           exact hR _ _ (Option.some.inj h).symm (by subst_vars; exact weak_l rfl rfl ⟨lE, lR, lE, lR, lE, LV_sl, lE, lE, LV_sl, lE, lE, trivial⟩ ⟨lB ⟨LV_sl, lE, rfl⟩, trivial⟩ ⟨lO, trivial⟩)
         ·exact hR _ _ (Option.some.inj h).symm (by subst_vars; exact weak_l rfl rfl ⟨lE, lR, lE, lR, lE, LV_sl, lE, lE, LV_sl, lE, lE, trivial⟩ ⟨lB ⟨LV_sl, lE, rfl⟩, trivial⟩ ⟨lO, trivial⟩)
        ·intro v_46 h
         (conv => cbv)
         exact hR _ _ (Option.some.inj h).symm (by subst_vars; exact weak_l rfl rfl ⟨lE, lR, lE, lR, lE, LV_sl, lE, lE, LV_sl, lE, lE, trivial⟩ ⟨lB ⟨LV_sl, lE, rfl⟩, trivial⟩ ⟨lO, trivial⟩)
       ·exact hX _ _ (Option.some.inj h).symm (by subst_vars; exact weak_l rfl rfl ⟨lE, lR, lE, lE, LV_sl, lE, lE, trivial⟩ trivial ⟨lO, trivial⟩)
      ·intro v_44 h
       (conv => cbv)
       refine L_cut hI seat [1000014] (by kernel_rfl) h (fun q => match q with | v_47 => .normal) (fun q => match q with | v_47 => ⟨68, [(1, .str p_2), (4, .osl 1), (22, sl_api_SealKind false p_1.Kinds), (23, .int .i64 v_5), (24, .int .i64 v_19)], [], [(1, ⟨3, 1, [.ls Int 0 v_47 e_int], false, true⟩)], 0⟩) ?_ ?_; all_goals clear h
       ·intro x h R hR
        (conv => cbv)
        refine L_tst hI h (by subst_vars; rfl) ?_ ?_ <;> clear h <;> intro h
        ·refine L_conj hI h (fun g => by subst_vars; exact g) ?_; clear h; intro hc h
         exact hR _ _ (Option.some.inj h).symm (by subst_vars; exact weak_l rfl rfl ⟨lE, lR, LV_sl, lE, lE, trivial⟩ trivial ⟨lO, trivial⟩)
        ·exact hR _ _ (Option.some.inj h).symm (by subst_vars; exact weak_l rfl rfl ⟨lE, lR, LV_sl, lE, lE, trivial⟩ trivial ⟨lO, trivial⟩)
       ·intro v_47 h
        (conv => cbv)
        exact hR _ _ (Option.some.inj h).symm (by subst_vars; exact weak_l rfl rfl ⟨lE, lR, LV_sl, lE, lE, trivial⟩ trivial ⟨lO, trivial⟩)
    ·exact hX _ _ (Option.some.inj h).symm (by subst_vars; exact weak_l rfl rfl ⟨lR, trivial⟩ trivial ⟨lO, trivial⟩)
   ·intro v_34 h
    (conv => cbv)
    refine L_tst hI h (by subst_vars; rfl) ?_ ?_ <;> clear h <;> intro h
    ·cases h
     subst_vars
     exact ⟨(LV_tup ⟨LV_nil, lE, rfl⟩), rfl⟩
    ·cases h
     subst_vars
     exact ⟨(LV_tup ⟨LV_sl, lE, rfl⟩), rfl⟩
theorem w_slices_IndexFunc_Lapi_SealStrike_api_SealStrike (N : Nat) (s_1 : (List api_SealStrike)) (f_2 : api_SealStrike -> Option Bool) (kf_2 : Nat) (dsf_2 : List D) (hdf_2 : noAggD dsf_2 = true) (hpf_2 : ∀ x0 r, f_2 x0 = some r -> KD Try.prog kf_2 [.agg [.int .i64 x0.Day, .int .i64 x0.Number]] dsf_2 (.bool r)) (o : Int) (h : m_slices_IndexFunc_Lapi_SealStrike_api_SealStrike N s_1 f_2 = some o) :
  KC Try.prog 95 [sl_api_SealStrike false s_1, .d (.fn kf_2 dsf_2)] (.int .i64 o) [] := by
 unfold m_slices_IndexFunc_Lapi_SealStrike_api_SealStrike at h
 refine con_l [] [] seat Try.func95 rfl ent_95 (by kernel_rfl) rfl rfl (by simp) ?_; intro base I hI; (conv => cbv)
 replace h := letO_of h; obtain ⟨v_3, hev_3, h⟩ := h
 refine L_loop hI seat [] (by kernel_rfl) h (fun q => match q with | v_6 => ⟨19, [(0, sl_api_SealStrike false s_1), (1, .d (.fn kf_2 dsf_2)), (7, .int .i64 v_3), (8, .int .i64 v_6)], [], [], 0⟩) (fun q => match q with | (.inl v_9) => .ret | (.inr ()) => .exit 0) (fun q => match q with | (.inl v_9) => ⟨19, [(4, .int .i64 v_9)], [], [], 0⟩ | (.inr ()) => ⟨19, [], [], [], 0⟩) (by subst_vars; exact weak_l rfl rfl ⟨LV_sl, lR, lE, lE, trivial⟩ trivial trivial) (by intro q; rcases q with (v_9 | _) <;> (intro e; exact Exit.noConfusion e)) ?_ ?_; all_goals clear h
 ·intro v_6 x h R hR hX
  rw [m_slices_IndexFunc_Lapi_SealStrike_api_SealStrike_L1] at h
  (conv => cbv)
  refine L_tst hI h (by subst_vars; rfl) ?_ ?_ <;> clear h <;> intro h
  ·refine L_get hI h (fun g => by subst_vars; exact g) ?_; clear h; intro hc x_10 hxx_10 h
   refine K_conj hI (by subst_vars; exact hdf_2) ?_
   refine L_callD hI h (args' := [.agg [.int .i64 x_10.Day, .int .i64 x_10.Number]]) (fun v hv => hpf_2 x_10 v hv) (by subst_vars; rfl) ?_; clear h; intro v_11 h; (conv => cbv)
   refine L_tst hI h (by subst_vars; rfl) ?_ ?_ <;> clear h <;> intro h
   ·exact hX _ _ (Option.some.inj h).symm (by subst_vars; exact weak_l rfl rfl ⟨lE, trivial⟩ trivial trivial)
   ·exact hR _ _ (Option.some.inj h).symm (by subst_vars; exact weak_l rfl rfl ⟨LV_sl, lR, lE, lE, trivial⟩ trivial trivial)
  ·exact hX _ _ (Option.some.inj h).symm (by subst_vars; exact weak_l rfl rfl trivial trivial trivial)
 ·intro q h
  rcases q with (v_9 | _)
  ·(conv => cbv)
   cases h
   subst_vars
   exact ⟨lE, rfl⟩
  ·(conv => cbv)
   cases h
   subst_vars
   exact ⟨lE, rfl⟩
theorem w_slices_ContainsFunc_Lapi_SealStrike_api_SealStrike (N : Nat) (s_1 : (List api_SealStrike)) (f_2 : api_SealStrike -> Option Bool) (kf_2 : Nat) (dsf_2 : List D) (hdf_2 : noAggD dsf_2 = true) (hpf_2 : ∀ x0 r, f_2 x0 = some r -> KD Try.prog kf_2 [.agg [.int .i64 x0.Day, .int .i64 x0.Number]] dsf_2 (.bool r)) (o : Bool) (h : m_slices_ContainsFunc_Lapi_SealStrike_api_SealStrike N s_1 f_2 = some o) :
  KC Try.prog 71 [sl_api_SealStrike false s_1, .d (.fn kf_2 dsf_2)] (.bool o) [] := by
 unfold m_slices_ContainsFunc_Lapi_SealStrike_api_SealStrike at h
 refine con_l [] [] seat Try.func71 rfl ent_71 (by kernel_rfl) rfl rfl (by simp) ?_; intro base I hI; (conv => cbv)
 refine L_call hI h (fun v hv => w_slices_IndexFunc_Lapi_SealStrike_api_SealStrike N s_1 f_2 kf_2 dsf_2 hdf_2 hpf_2 v hv) (by subst_vars; exact ⟨(leD_refl _), (leD_refl _), rfl⟩) ?_; clear h; intro r_3 h; (conv => cbv)
 cases h
 subst_vars
 exact ⟨lE, rfl⟩
theorem w_seal_isStrike (N : Nat) (s_1 : api_SealStrike) (o : Bool) (h : m_seal_isStrike N s_1 = some o) :
  KC Try.prog 73 [.agg [.int .i64 s_1.Day, .int .i64 s_1.Number]] (.bool o) [] := by
 unfold m_seal_isStrike at h
 refine con_l [] [1000001] seat Try.func73 rfl ent_73 (by kernel_rfl) rfl rfl (by simp) ?_; intro base I hI; (conv => cbv)
 refine L_cut hI seat [] (by kernel_rfl) h (fun q => match q with | v_4 => .normal) (fun q => match q with | v_4 => ⟨13, [(2, .bool v_4)], [], [], 0⟩) ?_ ?_; all_goals clear h
 ·intro x h R hR
  (conv => cbv)
  refine L_call hI h (fun v hv => w_seal_within N 1 400 [s_1.Day] v hv) (by subst_vars; exact ⟨(leD_refl _), (leD_refl _), ⟨.inl rfl, rfl, leDLL_refl _⟩, rfl⟩) ?_; clear h; intro r_5 h; (conv => cbv)
  refine L_tst hI h (by subst_vars; rfl) ?_ ?_ <;> clear h <;> intro h
  ·refine L_call hI h (fun v hv => w_seal_within N 1 9999 [s_1.Number] v hv) (by subst_vars; exact ⟨(leD_refl _), (leD_refl _), ⟨.inl rfl, rfl, leDLL_refl _⟩, rfl⟩) ?_; clear h; intro r_6 h; (conv => cbv)
   exact hR _ _ (Option.some.inj h).symm (by subst_vars; exact weak_l rfl rfl ⟨lE, trivial⟩ trivial trivial)
  ·exact hR _ _ (Option.some.inj h).symm (by subst_vars; exact weak_l rfl rfl ⟨lE, trivial⟩ trivial trivial)
 ·intro v_4 h
  (conv => cbv)
  cases h
  subst_vars
  exact ⟨lE, rfl⟩
theorem w_seal_Forged_1 (N : Nat) (s_1 : api_SealStrike) (o : Bool) (h : m_seal_Forged_1 N s_1 = some o) :
  KC Try.prog 72 [.agg [.int .i64 s_1.Day, .int .i64 s_1.Number]] (.bool o) [] := by
 unfold m_seal_Forged_1 at h
 refine con_l [] [] seat Try.func72 rfl ent_72 (by kernel_rfl) rfl rfl (by simp) ?_; intro base I hI; (conv => cbv)
 refine L_call hI h (fun v hv => w_seal_isStrike N s_1 v hv) (by subst_vars; exact ⟨(leD_refl _), rfl⟩) ?_; clear h; intro r_2 h; (conv => cbv)
 cases h
 subst_vars
 exact ⟨lE, rfl⟩
theorem w_slices_Values_Lapi_SealStrike_api_SealStrike (N : Nat) (s_1 : (List api_SealStrike)) (o : ((List api_SealStrike))) (h : m_slices_Values_Lapi_SealStrike_api_SealStrike N s_1 = some o) :
  KC Try.prog 97 [sl_api_SealStrike false s_1] (.dfn 110 [.ptr [sl_api_SealStrike false o]]) [] := by
 unfold m_slices_Values_Lapi_SealStrike_api_SealStrike at h
 refine con_l [] [] seat Try.func97 rfl ent_97 (by kernel_rfl) rfl rfl (by simp) ?_; intro base I hI; (conv => cbv)
 cases h
 subst_vars
 exact ⟨lE, rfl⟩
theorem w_slices_AppendSeq_Lapi_SealStrike_api_SealStrike (N : Nat) (ys_1 : List (api_SealStrike)) (kys_1 : Nat) (dsys_1 : List D) (hdys_1 : noAggD dsys_1 = true) (hitys_1 : IterCon Try.prog kys_1 dsys_1 ((ys_1.map fun y => [.agg [.int .i64 y.Day, .int .i64 y.Number]]).map KV.toDL)) (o : (List api_SealStrike)) (h : m_slices_AppendSeq_Lapi_SealStrike_api_SealStrike N ys_1 = some o) :
  KC Try.prog 113 [.nilsl, .d (.fn kys_1 dsys_1)] (.osl 0) [⟨66, 2, [.ls api_SealStrike d_api_SealStrike o e_api_SealStrike], false, true⟩] := by
 unfold m_slices_AppendSeq_Lapi_SealStrike_api_SealStrike at h
 refine con_l [1] [] seat Try.func113 rfl ent_113 (by kernel_rfl) rfl rfl (by simp) ?_; intro base I hI; (conv => cbv)
 refine W_weak hI (S' := ⟨13, [(2, .loc 0 0), (6, .d (.fn kys_1 dsys_1))], [(0, ⟨63, [.osl 1], true⟩)], [(1, ⟨66, 2, [.ls api_SealStrike d_api_SealStrike [] e_api_SealStrike], false, true⟩)], 0⟩) (by subst_vars; exact (weak_nilH 0 0 1 66 2 ⟨63, [.nilsl], true⟩ rfl rfl rfl rfl).trans (weak_l rfl rfl ⟨lR, lR, trivial⟩ ⟨lB ⟨lR, rfl⟩, trivial⟩ ⟨lO, trivial⟩)) ?_
 refine L_range hI seat [] (by kernel_rfl) (ys := ys_1) (kY := fun y_2 => [.agg [.int .i64 y_2.Day, .int .i64 y_2.Number]]) (hitys_1) hdys_1 h (fun q => match q with | l_3 => ([(0, ⟨63, [.osl 1], true⟩)], [(1, ⟨66, 2, [.ls api_SealStrike d_api_SealStrike l_3 e_api_SealStrike], false, true⟩)])) (fun q => nomatch q) (fun q => nomatch q) rfl (fun _ => ⟨rfl, rfl⟩) 1 rfl (by subst_vars; exact ⟨lB ⟨lR, rfl⟩, trivial⟩) (by subst_vars; exact ⟨lO, trivial⟩) (by intro q; rcases q with ⟨⟩ <;> (intro e; exact Exit.noConfusion e)) (by intro q; rcases q with ⟨⟩ <;> (intro _ e; exact Exit.noConfusion e)) (by intro q; rcases q with ⟨⟩ <;> (intro e; exact Exit.noConfusion e)) ?_ ?_ ?_; all_goals clear h
 ·intro y_2 l_3 x h l I hI R hR hX
  rw [m_slices_AppendSeq_Lapi_SealStrike_api_SealStrike_L1] at h
  (conv => cbv)
  refine L_conj hI h (fun g => by subst_vars; exact g) ?_; clear h; intro hc h
  exact hR _ _ (Option.some.inj h).symm (by subst_vars; exact ⟨lB ⟨lR, rfl⟩, trivial⟩) (by subst_vars; exact ⟨lO, trivial⟩)
 ·intro l_3 h
  (conv => cbv)
  cases h
  subst_vars
  exact ⟨lE, (by first | rfl | (simp only [List.map_cons, List.map_nil, KRow.row, rowsD, KP.rows, KV.toDLL, List.map_append, List.append_nil, List.nil_append, List.append_assoc, List.singleton_append, List.cons_append]; rfl))⟩
 ·intro q h
  rcases q with ⟨⟩
end
end Go.Proofs.Ytfilnnbfppokmaa.Aw
