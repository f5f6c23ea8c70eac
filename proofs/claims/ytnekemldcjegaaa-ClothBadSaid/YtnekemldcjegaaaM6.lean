/- Part 6 of the proof: lemmas. -/
import Derived.Test.YtnekemldcjegaaaM5
import Derived.Test.YtnekemldcjegaaaM4
import Derived.Test.YtnekemldcjegaaaRows

/- Contracts for ClothBad: a bolt's cloth whose measurings are the caller's own row, a copy of a cloth as two rows. Printed by wip/gen/cl_dr.py. -/
namespace Go.Proofs.Ytnekemldcjegaaa.Aw
open Go Go.RowKit Go.Proofs
set_option maxRecDepth 100000
set_option maxHeartbeats 2000000
set_option linter.unusedSimpArgs false
set_option linter.unusedVariables false
theorem con_cloth1 (x : Bolt) (hx : x.ok) (hne : boltM x ≠ []) : KC Try.prog 46 [kBolt x] (.agg [slTrack false (boltT x), .osl 0]) [⟨49, 4, [.ls Meas meas0 (boltM x) eMeas], false, true⟩] := by
  have cme := con_measure x hx
  obtain ⟨M, hM⟩ : ∃ M, M = boltM x := ⟨_, rfl⟩
  rw [← hM] at hne ⊢
  unfold boltM at hM
  have c0 := con_truth0 x hx
  have c1 := con_truth1 x hx
  have c2 := con_truth2 x hx
  have csp := con_span
  have v0 := trk_val (sel_ok hx 0)
  have v1 := trk_val (sel_ok hx 1)
  have v2 := trk_val (sel_ok hx 2)
  have eT : boltT x = [tOf (x.sel 0), tOf (x.sel 1), tOf (x.sel 2)] := rfl
  rw [eT]
  generalize tFirst (x.sel 0) = F0 at *
  generalize tRate (x.sel 0) = G0 at *
  generalize tFirst (x.sel 1) = F1 at *
  generalize tRate (x.sel 1) = G1 at *
  generalize tFirst (x.sel 2) = F2 at *
  generalize tRate (x.sel 2) = G2 at *
  generalize tOf (x.sel 0) = T0 at *
  generalize tOf (x.sel 1) = T1 at *
  generalize tOf (x.sel 2) = T2 at *
  (refine con_k [5] [] seat Try.func46 rfl ent_46 (by kernel_rfl) rfl rfl (by simp) ?_; intro base I hI; conv => cbv)
  refine W_loop hI seat [] (by kernel_rfl) (fun a : Int × KV × List (Nat × KRow) => (3 - a.1).toNat) (fun a => ⟨77, [(1, .loc 0 0), (2, .loc 1 0), (3, .loc 2 0), (4, .lit .i64 a.1)], [(2, ⟨25, [a.2.1, .nilsl], true⟩), (1, ⟨25, [.nilsl, .nilsl], true⟩), (0, ⟨77, [.int .u8 x.t0.a, .int .u8 x.t0.b, .int .u8 x.t0.c, .int .u8 x.t0.d, .int .u8 x.t1.a, .int .u8 x.t1.b, .int .u8 x.t1.c, .int .u8 x.t1.d, .int .u8 x.t2.a, .int .u8 x.t2.b, .int .u8 x.t2.c, .int .u8 x.t2.d, slB4 false x.ms], true⟩)], a.2.2, 0⟩)
    (fun a _ => a = (0, .nilsl, []) ∨ a = (1, .osl 4, [(4, ⟨105, 4, [.ls Track track0 [T0] eTrack], false, true⟩)]) ∨ a = (2, .osl 4, [(4, ⟨105, 4, [.ls Track track0 [T0, T1] eTrack], false, true⟩)]) ∨ a = (3, .osl 4, [(4, ⟨105, 4, [.ls Track track0 [T0, T1, T2] eTrack], false, true⟩)]))
    (0, .nilsl, []) (weak_k rfl rfl ⟨rfl, rfl, rfl, rfl, trivial⟩ ⟨rfl, rfl, rfl, trivial⟩ trivial) (.inl rfl) ?_
  rintro a s ha R hR
  rcases ha with rfl | rfl | rfl | rfl
  · (conv => cbv)
    refine C_call hI c0 rfl ?_; (conv => cbv)
    refine C_call hI (csp _ _) rfl ?_; (conv => cbv)
    refine C_call hI (csp _ _) rfl ?_; (conv => cbv)
    refine K_conj hI (by rw [hI]; show plenN _ * 32 ≤ _ ∧ plenN _ ≤ _; simp [joinP, plenN]) ?_
    have i0 : I.iop .sub .i64 F0 (I.iop .rem .i64 (I.conv .i64 x.t0.c) 16) = T0.first.low := by rw [hI]; exact v0.1
    have i1 : I.iop .add .i64 F0 (I.iop .quo .i64 (I.conv .i64 x.t0.c) 16) = T0.first.high := by rw [hI]; exact v0.2.1
    have i2 : I.iop .sub .i64 G0 (I.iop .rem .i64 (I.conv .i64 x.t0.d) 6) = T0.rate.low := by rw [hI]; exact v0.2.2.1
    have i3 : I.iop .add .i64 G0 (I.iop .rem .i64 (I.iop .quo .i64 (I.conv .i64 x.t0.d) 16) 8) = T0.rate.high := by rw [hI]; exact v0.2.2.2
    have ro : KRow.row ⟨105, 4, [.rw [[.int .i64 (I.iop .sub .i64 F0 (I.iop .rem .i64 (I.conv .i64 x.t0.c) 16)), .int .i64 (I.iop .add .i64 F0 (I.iop .quo .i64 (I.conv .i64 x.t0.c) 16)), .int .i64 (I.iop .sub .i64 G0 (I.iop .rem .i64 (I.conv .i64 x.t0.d) 6)), .int .i64 (I.iop .add .i64 G0 (I.iop .rem .i64 (I.iop .quo .i64 (I.conv .i64 x.t0.d) 16) 8))]]], false, true⟩ = KRow.row ⟨105, 4, [.ls Track track0 [T0] eTrack], false, true⟩ := by rw [i0, i1, i2, i3]; rfl
    exact hR _ _ (1, .osl 4, [(4, ⟨105, 4, [.ls Track track0 [T0] eTrack], false, true⟩)]) (by simp only; omega) (weak_k rfl rfl ⟨rfl, rfl, rfl, rfl, trivial⟩ ⟨rfl, rfl, rfl, trivial⟩ ⟨ro, trivial⟩) (.inr (.inl rfl))
  · (conv => cbv)
    refine C_call hI c1 rfl ?_; (conv => cbv)
    refine C_call hI (csp _ _) rfl ?_; (conv => cbv)
    refine C_call hI (csp _ _) rfl ?_; (conv => cbv)
    refine K_conj hI (by rw [hI]; show plenN _ * 32 ≤ _ ∧ plenN _ ≤ _; simp [joinP, plenN]) ?_
    have i0 : I.iop .sub .i64 F1 (I.iop .rem .i64 (I.conv .i64 x.t1.c) 16) = T1.first.low := by rw [hI]; exact v1.1
    have i1 : I.iop .add .i64 F1 (I.iop .quo .i64 (I.conv .i64 x.t1.c) 16) = T1.first.high := by rw [hI]; exact v1.2.1
    have i2 : I.iop .sub .i64 G1 (I.iop .rem .i64 (I.conv .i64 x.t1.d) 6) = T1.rate.low := by rw [hI]; exact v1.2.2.1
    have i3 : I.iop .add .i64 G1 (I.iop .rem .i64 (I.iop .quo .i64 (I.conv .i64 x.t1.d) 16) 8) = T1.rate.high := by rw [hI]; exact v1.2.2.2
    have ro : KRow.row ⟨105, 4, [.ls Track track0 [T0] eTrack, .rw [[.int .i64 (I.iop .sub .i64 F1 (I.iop .rem .i64 (I.conv .i64 x.t1.c) 16)), .int .i64 (I.iop .add .i64 F1 (I.iop .quo .i64 (I.conv .i64 x.t1.c) 16)), .int .i64 (I.iop .sub .i64 G1 (I.iop .rem .i64 (I.conv .i64 x.t1.d) 6)), .int .i64 (I.iop .add .i64 G1 (I.iop .rem .i64 (I.iop .quo .i64 (I.conv .i64 x.t1.d) 16) 8))]]], false, true⟩ = KRow.row ⟨105, 4, [.ls Track track0 [T0, T1] eTrack], false, true⟩ := by rw [i0, i1, i2, i3]; rfl
    exact hR _ _ (2, .osl 4, [(4, ⟨105, 4, [.ls Track track0 [T0, T1] eTrack], false, true⟩)]) (by simp only; omega) (weak_k rfl rfl ⟨rfl, rfl, rfl, rfl, trivial⟩ ⟨rfl, rfl, rfl, trivial⟩ ⟨ro, trivial⟩) (.inr (.inr (.inl rfl)))
  · (conv => cbv)
    refine C_call hI c2 rfl ?_; (conv => cbv)
    refine C_call hI (csp _ _) rfl ?_; (conv => cbv)
    refine C_call hI (csp _ _) rfl ?_; (conv => cbv)
    refine K_conj hI (by rw [hI]; show plenN _ * 32 ≤ _ ∧ plenN _ ≤ _; simp [joinP, plenN]) ?_
    have i0 : I.iop .sub .i64 F2 (I.iop .rem .i64 (I.conv .i64 x.t2.c) 16) = T2.first.low := by rw [hI]; exact v2.1
    have i1 : I.iop .add .i64 F2 (I.iop .quo .i64 (I.conv .i64 x.t2.c) 16) = T2.first.high := by rw [hI]; exact v2.2.1
    have i2 : I.iop .sub .i64 G2 (I.iop .rem .i64 (I.conv .i64 x.t2.d) 6) = T2.rate.low := by rw [hI]; exact v2.2.2.1
    have i3 : I.iop .add .i64 G2 (I.iop .rem .i64 (I.iop .quo .i64 (I.conv .i64 x.t2.d) 16) 8) = T2.rate.high := by rw [hI]; exact v2.2.2.2
    have ro : KRow.row ⟨105, 4, [.ls Track track0 [T0, T1] eTrack, .rw [[.int .i64 (I.iop .sub .i64 F2 (I.iop .rem .i64 (I.conv .i64 x.t2.c) 16)), .int .i64 (I.iop .add .i64 F2 (I.iop .quo .i64 (I.conv .i64 x.t2.c) 16)), .int .i64 (I.iop .sub .i64 G2 (I.iop .rem .i64 (I.conv .i64 x.t2.d) 6)), .int .i64 (I.iop .add .i64 G2 (I.iop .rem .i64 (I.iop .quo .i64 (I.conv .i64 x.t2.d) 16) 8))]]], false, true⟩ = KRow.row ⟨105, 4, [.ls Track track0 [T0, T1, T2] eTrack], false, true⟩ := by rw [i0, i1, i2, i3]; rfl
    exact hR _ _ (3, .osl 4, [(4, ⟨105, 4, [.ls Track track0 [T0, T1, T2] eTrack], false, true⟩)]) (by simp only; omega) (weak_k rfl rfl ⟨rfl, rfl, rfl, rfl, trivial⟩ ⟨rfl, rfl, rfl, trivial⟩ ⟨ro, trivial⟩) (.inr (.inr (.inr rfl)))
  · (conv => cbv)
    refine W_loop hI seat [] (by kernel_rfl) (fun a : Int × List Meas => (6 - a.1).toNat) (fun a => ⟨77, [(1, .loc 0 0), (2, .loc 1 0), (3, .loc 2 0), (8, .int .i64 a.1)], [(2, ⟨25, [.osl 4, mT a.2], true⟩), (1, ⟨25, [.nilsl, .nilsl], true⟩), (0, ⟨77, [.int .u8 x.t0.a, .int .u8 x.t0.b, .int .u8 x.t0.c, .int .u8 x.t0.d, .int .u8 x.t1.a, .int .u8 x.t1.b, .int .u8 x.t1.c, .int .u8 x.t1.d, .int .u8 x.t2.a, .int .u8 x.t2.b, .int .u8 x.t2.c, .int .u8 x.t2.d, slB4 false x.ms], true⟩)], (4, ⟨105, 4, [.ls Track track0 [T0, T1, T2] eTrack], false, true⟩) :: mO a.2, 0⟩)
      (fun a s' => 0 ≤ a.1 ∧ a.1 ≤ 6 ∧ a.1 ≤ x.ms.length ∧ a.2 = (x.ms.take a.1.toNat).map (mOf x)) (0, []) (weak_k rfl rfl ⟨rfl, rfl, rfl, rfl, trivial⟩ ⟨rfl, rfl, rfl, trivial⟩ ⟨rfl, trivial⟩) ⟨Int.le_refl _, by simp only; omega, by simp only; omega, by simp⟩ ?_
    rintro ⟨i, L0⟩ s2 ⟨i1, i2, i4, i3⟩ R2 hR2
    simp only at i1 i2 i3 i4
    have hend : (¬ i < 6 ∨ ¬ i < (x.ms.length : Int)) → L0 = M := fun h => by
      rw [hM, i3]
      congr 1
      rcases h with h | h
      · rw [show i.toNat = 6 from by omega]
      · rw [List.take_of_length_le (by omega), List.take_of_length_le (by omega)]
    clear hM
    cases L0 with
    | nil =>
      simp only [mT, mO]
      (conv => cbv)
      refine K_tst hI (fun hc => ?_) (fun hc => ?_)
      · have hc : i < (x.ms.length : Int) := by rw [hI] at hc; simpa [primK, icmpR, plenN] using hc
        refine K_tst hI (fun hd => ?_) (fun hd => ?_)
        · have hd : i < 6 := by rw [hI] at hd; simpa [primK, icmpR] using hd
          have cme := cme i i1 hc
          have nx : I.iop .add .i64 i 1 = i + 1 := by rw [hI]; exact wrap_i64 (by omega)
          have htk := take_snoc (d := b40) i1 hc
          obtain ⟨m0, hm0⟩ : ∃ m0, m0 = mOf x (x.ms.getD i.toNat b40) := ⟨_, rfl⟩
          have hn : [m0] = (x.ms.take (i + 1).toNat).map (mOf x) := by rw [htk, List.map_append, ← i3, hm0]; rfl
          rw [← hm0] at cme
          clear hm0
          have hl2 : ([] : List Meas).length ≤ 6 := by rw [i3, List.length_map, List.length_take]; omega
          simp only [List.length_cons, List.length_nil] at hl2
          refine C_call hI cme rfl ?_; (conv => cbv)
          refine K_conj hI (by rw [hI]; show plenN _ * 32 ≤ _ ∧ plenN _ ≤ _; simp only [joinP, List.cons_append, List.nil_append, plenN, List.length_cons, List.length_nil]; omega) ?_
          exact hR2 _ _ (i + 1, [m0]) (by simp only; omega) (weak_k rfl rfl ⟨rfl, rfl, rfl, av_int nx, trivial⟩ ⟨rfl, rfl, rfl, trivial⟩ ⟨rfl, rfl, trivial⟩) ⟨by simp only; omega, by simp only; omega, by simp only; omega, hn⟩
        · have hd : ¬ i < 6 := by rw [hI] at hd; simpa [primK, icmpR] using hd
          have := hend (.inl hd)
          exact absurd this.symm hne
      · have hc : ¬ i < (x.ms.length : Int) := by rw [hI] at hc; simpa [primK, icmpR, plenN] using hc
        have := hend (.inr hc)
        exact absurd this.symm hne
    | cons m1 q =>
      simp only [mT, mO]
      (conv => cbv)
      refine K_tst hI (fun hc => ?_) (fun hc => ?_)
      · have hc : i < (x.ms.length : Int) := by rw [hI] at hc; simpa [primK, icmpR, plenN] using hc
        refine K_tst hI (fun hd => ?_) (fun hd => ?_)
        · have hd : i < 6 := by rw [hI] at hd; simpa [primK, icmpR] using hd
          have cme := cme i i1 hc
          have nx : I.iop .add .i64 i 1 = i + 1 := by rw [hI]; exact wrap_i64 (by omega)
          have htk := take_snoc (d := b40) i1 hc
          obtain ⟨m0, hm0⟩ : ∃ m0, m0 = mOf x (x.ms.getD i.toNat b40) := ⟨_, rfl⟩
          have hn : (m1 :: q) ++ [m0] = (x.ms.take (i + 1).toNat).map (mOf x) := by rw [htk, List.map_append, ← i3, hm0]; rfl
          rw [← hm0] at cme
          clear hm0
          have hl2 : (m1 :: q : List Meas).length ≤ 6 := by rw [i3, List.length_map, List.length_take]; omega
          simp only [List.length_cons, List.length_nil] at hl2
          refine C_call hI cme rfl ?_; (conv => cbv)
          refine K_conj hI (by rw [hI]; show plenN _ * 32 ≤ _ ∧ plenN _ ≤ _; simp only [joinP, List.cons_append, List.nil_append, plenN, List.length_cons, List.length_nil]; omega) ?_
          exact hR2 _ _ (i + 1, (m1 :: q) ++ [m0]) (by simp only; omega) (weak_k rfl rfl ⟨rfl, rfl, rfl, av_int nx, trivial⟩ ⟨rfl, rfl, rfl, trivial⟩ ⟨rfl, rowM_snoc (m1 :: q) m0, trivial⟩) ⟨by simp only; omega, by simp only; omega, by simp only; omega, hn⟩
        · have hd : ¬ i < 6 := by rw [hI] at hd; simpa [primK, icmpR] using hd
          have := hend (.inl hd)
          subst this
          rw [hI]; refine ⟨?_, rfl⟩
          rfl
      · have hc : ¬ i < (x.ms.length : Int) := by rw [hI] at hc; simpa [primK, icmpR, plenN] using hc
        have := hend (.inr hc)
        subst this
        rw [hI]; refine ⟨?_, rfl⟩
        rfl
theorem con_own2 (ts : List Track) (ms : List Meas) (h1 : ts.length ≤ 1000000) (h2 : ms.length ≤ 1000000) (h3 : 1 ≤ ms.length) (h4 : 1 ≤ ts.length) : KC Try.prog 47 [kCloth ts ms] (.agg [.osl 0, .osl 1]) [⟨105, 4, [.ls Track track0 ts eTrack], true, true⟩, ⟨49, 4, [.ls Meas meas0 ms eMeas], true, true⟩] := by
  (refine con_k [2, 3] [100006, 100010] seat Try.func47 rfl ent_47 (by kernel_rfl) rfl rfl (by simp) ?_; intro base I hI; conv => cbv)
  refine K_conj hI (by rw [hI]; show (1 : Int) ≤ plenN _; simp only [plenN]; omega) ?_
  refine K_conj hI (by rw [hI]; show plenN _ * 32 ≤ _ ∧ plenN _ ≤ _; simp only [plenN]; omega) ?_
  refine K_conj hI (by rw [hI]; show (1 : Int) ≤ plenN _; simp only [plenN]; omega) ?_
  refine K_conj hI (by rw [hI]; show plenN _ * 32 ≤ _ ∧ plenN _ ≤ _; simp only [plenN]; omega) ?_
  rw [hI]; refine ⟨?_, rfl⟩
  rfl
noncomputable def m_law01_own2 (N : Nat) (c : api_Cloth) : Option api_Cloth := onlyIf (c.Tracks.length ≤ 1000000 ∧ c.Measures.length ≤ 1000000 ∧ 1 ≤ c.Measures.length ∧ 1 ≤ c.Tracks.length) c
theorem w_law01_own2 (N : Nat) (c : api_Cloth) (o : api_Cloth) (e : m_law01_own2 N c = some o) : KC Try.prog 47 [.agg [slTrack false c.Tracks, slMeas false c.Measures]] (.agg [.osl 0, .osl 1]) [⟨105, 4, [.ls Track track0 o.Tracks eTrack], true, true⟩, ⟨49, 4, [.ls Meas meas0 o.Measures eMeas], true, true⟩] := by
  obtain ⟨hp, rfl⟩ := onlyIf_of e
  exact con_own2 o.Tracks o.Measures hp.1 hp.2.1 hp.2.2.1 hp.2.2.2
theorem nums_own2 (ts : List Track) (ms : List Meas) {a b : Nat} {x y : Bool} : numRows [KRow.row ⟨a, 4, [.ls Track track0 ts eTrack], x, true⟩, KRow.row ⟨b, 4, [.ls Meas meas0 ms eMeas], y, true⟩] := by
  intro R hR
  simp only [List.mem_cons, List.not_mem_nil, or_false] at hR
  rcases hR with rfl | rfl
  · refine ⟨rfl, fun row hrow c hc => ?_⟩
    simp only [KRow.row, rowsD, KP.rows, List.append_nil, List.mem_map] at hrow
    obtain ⟨t, _, rfl⟩ := hrow
    have hc : c ∈ [D.int .i64 t.first.low, D.int .i64 t.first.high, D.int .i64 t.rate.low, D.int .i64 t.rate.high] := hc
    simp only [List.mem_cons, List.not_mem_nil, or_false] at hc
    rcases hc with rfl | rfl | rfl | rfl <;> rfl
  · refine ⟨rfl, fun row hrow c hc => ?_⟩
    simp only [KRow.row, rowsD, KP.rows, List.append_nil, List.mem_map] at hrow
    obtain ⟨t, _, rfl⟩ := hrow
    have hc : c ∈ [D.int .i64 t.what, D.int .i64 t.hour, D.int .i64 t.reading, D.int .i64 t.off] := hc
    simp only [List.mem_cons, List.not_mem_nil, or_false] at hc
    rcases hc with rfl | rfl | rfl | rfl <;> rfl
noncomputable def m_law01_Bolt_cloth1 (N : Nat) (x : law01_Bolt) : Option api_Cloth := onlyIf ((toBolt x).ok ∧ boltM (toBolt x) ≠ []) ⟨boltT (toBolt x), boltM (toBolt x)⟩
theorem w_law01_Bolt_cloth1 (N : Nat) (x : law01_Bolt) (o : api_Cloth) (e : m_law01_Bolt_cloth1 N x = some o) : KC Try.prog 46 [kB x] (.agg [slTrack false o.Tracks, .osl 0]) [⟨49, 4, [.ls Meas meas0 o.Measures eMeas], false, true⟩] := by
  obtain ⟨hp, rfl⟩ := onlyIf_of e
  exact con_cloth1 (toBolt x) hp.1 hp.2
noncomputable def m_law01_Bolt_cloth0 (N : Nat) (x : law01_Bolt) : Option api_Cloth := onlyIf ((toBolt x).ok ∧ boltM (toBolt x) = []) ⟨boltT (toBolt x), boltM (toBolt x)⟩
theorem w_law01_Bolt_cloth0 (N : Nat) (x : law01_Bolt) (o : api_Cloth) (e : m_law01_Bolt_cloth0 N x = some o) : KC Try.prog 46 [kB x] (.agg [slTrack false o.Tracks, .nilsl]) [] := by
  obtain ⟨hp, rfl⟩ := onlyIf_of e
  have := con_cloth0 (toBolt x) hp.1
  rw [hp.2] at this
  exact this
noncomputable def m_cloth_Wrong (N : Nat) (c : api_Cloth) : Option (List Int × Int) := onlyIf (ClothIn c.Tracks c.Measures) (orE (wrongRes c.Tracks c.Measures).1, (wrongRes c.Tracks c.Measures).2)
theorem w_cloth_Wrong (N : Nat) (c : api_Cloth) (o : List Int × Int) (e : m_cloth_Wrong N c = some o) : KC Try.prog 36 [.agg [slTrack false c.Tracks, slMeas false c.Measures]] (.tup [slInt false o.1, .int .i64 o.2]) [] := by
  obtain ⟨hp, rfl⟩ := onlyIf_of e
  exact KC_res (con_Wrong c.Tracks c.Measures hp) (LV_tup ⟨lv_ints _, lR, rfl⟩)
end Go.Proofs.Ytnekemldcjegaaa.Aw

/- Plain models and walks of a law, printed by wip/gen/ch1bad.py. -/
namespace Go.Proofs.Ytnekemldcjegaaa.Aw
open Go Go.RowKit Go.Proofs
set_option maxRecDepth 100000
set_option maxHeartbeats 4000000
set_option linter.unusedSimpArgs false
set_option linter.unusedVariables false
noncomputable section
def m_law01_ClothBad1_L1 (N : Nat) (p_2 : (List A2_u8)) : (Int × (List (Int × Bool)) × (List Meas)) → Option ((Int × (List (Int × Bool)) × (List Meas)) ⊕ ((List (Int × Bool)) × (List Meas)))
  | (v_11, v_12, l_13) =>
    (show Option (Bool) from
      if icmpR .lss v_11 ((p_2.length : Nat) : Int) then
        if icmpR .lss v_11 3 then
          some (icmpR .gtr ((l_13.length : Nat) : Int) 0)
        else
          some false
      else
        some false).bind fun q => match q with
    | v_21 =>
      if v_21 then
        (getO d_A2_u8 p_2 v_11).bind fun x_22 =>
        if ((l_13.length : Nat) : Int) ≠ 0 then
          (getO d_A2_u8 p_2 v_11).bind fun x_23 =>
          if 0 ≤ iopR .rem .i64 (IntKind.wrap .i64 x_22.a0) ((l_13.length : Nat) : Int) ∧ iopR .rem .i64 (IntKind.wrap .i64 x_22.a0) ((l_13.length : Nat) : Int) < ((l_13.length : Nat) : Int) then
            if 0 ≤ iopR .rem .i64 (IntKind.wrap .i64 x_22.a0) ((l_13.length : Nat) : Int) ∧ iopR .rem .i64 (IntKind.wrap .i64 x_22.a0) ((l_13.length : Nat) : Int) < ((l_13.length : Nat) : Int) then
              letO (l_13.set (iopR .rem .i64 (IntKind.wrap .i64 x_22.a0) ((l_13.length : Nat) : Int)).toNat (Meas.mk ((l_13.getD (iopR .rem .i64 (IntKind.wrap .i64 x_22.a0) ((l_13.length : Nat) : Int)).toNat meas0).what) ((l_13.getD (iopR .rem .i64 (IntKind.wrap .i64 x_22.a0) ((l_13.length : Nat) : Int)).toNat meas0).hour) (min 2000 (iopR .mul .i64 8 (IntKind.wrap .i64 x_23.a1))) ((l_13.getD (iopR .rem .i64 (IntKind.wrap .i64 x_22.a0) ((l_13.length : Nat) : Int)).toNat meas0).off))) fun l_24 =>
              letO (mset v_12 (iopR .rem .i64 (IntKind.wrap .i64 x_22.a0) ((l_13.length : Nat) : Int)) true) fun l_25 =>
              some (.inl (iopR .add .i64 v_11 1, l_25, l_24))
            else none
          else none
        else none
      else
        some (.inr (v_12, l_13))
def m_law01_ClothBad1_L3 (N : Nat) (l_20 : (List Meas)) (r_27 : (List Int) × Int) (v_50 : Int) : (Int × (List Meas)) → Option ((Int × (List Meas)) ⊕ ((List Meas)))
  | (v_81, l_82) =>
    if icmpR .lss v_81 ((l_20.length : Nat) : Int) then
      (show Option (Bool) from
        (m_law01_has N r_27.1 v_81).bind fun r_90 =>
        if !r_90 then
          some true
        else
          if icmpR .geq v_50 0 then
            (getO 0 r_27.1 v_50).bind fun x_91 =>
            some (icmpR .eql x_91 v_81)
          else
            some false).bind fun q => match q with
      | v_89 =>
        (show Option ((List Meas)) from
          if v_89 then
            if 0 ≤ v_81 ∧ v_81 < ((l_20.length : Nat) : Int) then
              (getO meas0 l_20 v_81).bind fun x_93 =>
              if fitsN (l_82.length + 1) 32 then
                some (l_82 ++ [x_93])
              else none
            else none
          else
            some l_82).bind fun q => match q with
        | l_92 =>
          some (.inl (iopR .add .i64 v_81 1, l_92))
    else
      some (.inr l_82)
def m_law01_ClothBad1_L2 (N : Nat) (r_27 : (List Int) × Int) (r_3 : api_Cloth) (l_20 : (List Meas)) : Int → Option ((Int) ⊕ ((Unit) ⊕ (Unit)))
  | v_50 =>
    if icmpR .lss v_50 ((r_27.1.length : Nat) : Int) then
      if fitsN (r_3.Tracks.length) 32 then
        (loopO (m_law01_ClothBad1_L3 N l_20 r_27 v_50) N (0, [])).bind fun q => match q with
        | l_88 =>
          (show Option (Bool) from
            if icmpR .geq v_50 0 then
              (getO 0 r_27.1 v_50).bind fun x_95 =>
              if icmpR .lss x_95 0 then
                some true
              else
                (getO 0 r_27.1 v_50).bind fun x_96 =>
                if icmpR .geq x_96 ((l_20.length : Nat) : Int) then
                  some true
                else
                  if icmpR .gtr v_50 0 then
                    (getO 0 r_27.1 v_50).bind fun x_97 =>
                    (getO 0 r_27.1 (iopR .sub .i64 v_50 1)).bind fun x_98 =>
                    some (icmpR .leq x_97 x_98)
                  else
                    some false
            else
              some false).bind fun q => match q with
          | v_94 =>
            if v_94 then
              some (.inr (.inl ()))
            else
              (m_cloth_Rates N (api_Cloth.mk r_3.Tracks l_88)).bind fun r_99 =>
              (show Option (Bool) from
                if !((icmpR .eql r_99.2 0) == (icmpR .lss v_50 0)) then
                  some true
                else
                  if icmpR .neq r_99.2 0 then
                    some (icmpR .neq r_99.2 9)
                  else
                    some false).bind fun q => match q with
              | v_100 =>
                if v_100 then
                  some (.inr (.inl ()))
                else
                  some (.inl (iopR .add .i64 v_50 1))
      else none
    else
      some (.inr (.inr ()))
def m_law01_ClothBad1 (N : Nat) (p_1 : law01_Bolt) (p_2 : (List A2_u8)) : Option (Bool) :=
  (m_law01_Bolt_cloth1 N p_1).bind fun r_3 =>
  (m_law01_own2 N r_3).bind fun r_4 =>
  (m_cloth_Wrong N r_4).bind fun r_5 =>
  if icmpR .neq r_5.2 6 then
    some false
  else
    (loopO (m_law01_ClothBad1_L1 N p_2) N (0, [], r_3.Measures)).bind fun q => match q with
    | (v_19, l_20) =>
      (m_law01_own2 N (api_Cloth.mk r_3.Tracks l_20)).bind fun r_26 =>
      (m_cloth_Wrong N r_26).bind fun r_27 =>
      (m_law01_own2 N (api_Cloth.mk r_3.Tracks l_20)).bind fun r_28 =>
      (m_cloth_Rates N r_28).bind fun r_29 =>
      if icmpR .eql r_29.2 0 then
        (show Option (Bool) from
          if icmpR .eql r_27.2 6 then
            if icmpR .eql ((r_27.1.length : Nat) : Int) 0 then
              (m_law01_known N).bind fun r_31 =>
              some r_31
            else
              some false
          else
            some false).bind fun q => match q with
        | v_30 =>
          some v_30
      else
        (show Option (Bool) from
          if icmpR .neq r_27.2 0 then
            some true
          else
            if icmpR .lss ((r_27.1.length : Nat) : Int) 1 then
              some true
            else
              some (icmpR .gtr ((r_27.1.length : Nat) : Int) ((v_19.length : Nat) : Int))).bind fun q => match q with
        | v_32 =>
          if v_32 then
            some false
          else
            (loopO (m_law01_ClothBad1_L2 N r_27 r_3 l_20) N (-1)).bind fun q => match q with
            | (.inl ()) =>
              some false
            | (.inr ()) =>
              (m_law01_known N).bind fun r_101 =>
              some r_101
theorem w_law01_ClothBad1 (N : Nat) (p_1 : law01_Bolt) (p_2 : (List A2_u8)) (o : Bool) (h : m_law01_ClothBad1 N p_1 p_2 = some o) :
    KC Try.prog 11 [.agg [.int .u8 p_1.Tracks.a0.a, .int .u8 p_1.Tracks.a0.b, .int .u8 p_1.Tracks.a0.c, .int .u8 p_1.Tracks.a0.d, .int .u8 p_1.Tracks.a1.a, .int .u8 p_1.Tracks.a1.b, .int .u8 p_1.Tracks.a1.c, .int .u8 p_1.Tracks.a1.d, .int .u8 p_1.Tracks.a2.a, .int .u8 p_1.Tracks.a2.b, .int .u8 p_1.Tracks.a2.c, .int .u8 p_1.Tracks.a2.d, slB4 false p_1.Measures], sl_A2_u8 false p_2] (.bool o) [] := by
  unfold m_law01_ClothBad1 at h
  refine con_l [] [25, 75, 81, 191, 1000007, 1000014, 1000015, 1000024, 1000026, 1000029, 2000143, 3000010] seat Try.func11 rfl ent_11 (by kernel_rfl) rfl rfl (by simp) ?_; intro base I hI; (conv => cbv)
  refine L_call hI h (fun v hv => w_law01_Bolt_cloth1 N p_1 v hv) (by subst_vars; exact ⟨(leD_refl _), rfl⟩) ?_; clear h; intro r_3 h; (conv => cbv)
  refine L_call hI h (fun v hv => w_law01_own2 N r_3 v hv) (by subst_vars; exact ⟨(leD_refl _), rfl⟩) ?_; clear h; intro r_4 h; (conv => cbv)
  refine K_conj hI (by rw [hI]; exact nums_own2 _ _) ?_
  refine L_call hI h (fun v hv => w_cloth_Wrong N r_4 v hv) (by subst_vars; exact ⟨(leD_refl _), rfl⟩) ?_; clear h; intro r_5 h; (conv => cbv)
  refine L_tst hI h (by subst_vars; rfl) ?_ ?_ <;> clear h <;> intro h
  · cases h
    subst_vars
    exact ⟨lE, rfl⟩
  · refine L_loop hI seat [25, 75, 81, 191, 1000007, 1000014, 1000015, 1000024, 1000026, 1000029, 2000143, 3000010] (by kernel_rfl) h (fun q => match q with | (v_11, v_12, l_13) => ⟨208, [(1, sl_A2_u8 false p_2), (5, .loc 2 0), (8, .osl 5), (9, .int .i64 v_11)], [(2, ⟨25, [slTrack false r_3.Tracks, .osl 1], true⟩)], [(5, ⟨0, 0, [.mp (Int × Bool) (0, false) v_12 me_int_bool], true, true⟩), (1, ⟨49, 4, [.ls Meas meas0 l_13 eMeas], false, true⟩)], 0⟩) (fun q => match q with | (v_19, l_20) => .exit 0) (fun q => match q with | (v_19, l_20) => ⟨208, [(5, .loc 2 0), (8, .osl 5)], [(2, ⟨25, [slTrack false r_3.Tracks, .osl 1], true⟩)], [(5, ⟨0, 0, [.mp (Int × Bool) (0, false) v_19 me_int_bool], true, true⟩), (1, ⟨49, 4, [.ls Meas meas0 l_20 eMeas], false, true⟩)], 0⟩) (by subst_vars; exact weak_l rfl rfl ⟨LV_sl, lR, lR, lE, trivial⟩ ⟨lB ⟨LV_sl, lR, rfl⟩, trivial⟩ ⟨lO, lO, trivial⟩) (by intro q; rcases q with ⟨v_19, l_20⟩ <;> (intro e; exact Exit.noConfusion e)) ?_ ?_; all_goals clear h
    · intro q x h R hR hX
      obtain ⟨v_11, v_12, l_13⟩ := q
      rw [m_law01_ClothBad1_L1] at h
      (conv => cbv)
      refine L_cut hI seat [25, 75, 81, 191, 1000014, 1000015, 1000024, 1000026, 1000029, 2000143, 3000010] (by kernel_rfl) h (fun q => match q with | v_21 => .normal) (fun q => match q with | v_21 => ⟨208, [(1, sl_A2_u8 false p_2), (5, .loc 2 0), (8, .osl 5), (9, .int .i64 v_11), (44, .bool v_21)], [(2, ⟨25, [slTrack false r_3.Tracks, .osl 1], true⟩)], [(5, ⟨0, 0, [.mp (Int × Bool) (0, false) v_12 me_int_bool], true, true⟩), (1, ⟨49, 4, [.ls Meas meas0 l_13 eMeas], false, true⟩)], 0⟩) ?_ ?_; all_goals clear h
      · intro x h R hR
        (conv => cbv)
        refine L_tst hI h (by subst_vars; rfl) ?_ ?_ <;> clear h <;> intro h
        · refine L_tst hI h (by subst_vars; rfl) ?_ ?_ <;> clear h <;> intro h
          · exact hR _ _ (Option.some.inj h).symm (by subst_vars; exact weak_l rfl rfl ⟨LV_sl, lR, lR, lE, lE, trivial⟩ ⟨lB ⟨LV_sl, lR, rfl⟩, trivial⟩ ⟨lO, lO, trivial⟩)
          · exact hR _ _ (Option.some.inj h).symm (by subst_vars; exact weak_l rfl rfl ⟨LV_sl, lR, lR, lE, lE, trivial⟩ ⟨lB ⟨LV_sl, lR, rfl⟩, trivial⟩ ⟨lO, lO, trivial⟩)
        · exact hR _ _ (Option.some.inj h).symm (by subst_vars; exact weak_l rfl rfl ⟨LV_sl, lR, lR, lE, lE, trivial⟩ ⟨lB ⟨LV_sl, lR, rfl⟩, trivial⟩ ⟨lO, lO, trivial⟩)
      · intro v_21 h
        (conv => cbv)
        refine L_tst hI h (by subst_vars; rfl) ?_ ?_ <;> clear h <;> intro h
        · refine L_get hI h (fun g => by subst_vars; exact g) ?_; clear h; intro hc x_22 hxx_22 h
          refine L_conj hI h (fun g => by subst_vars; exact g) ?_; clear h; intro hc h
          refine L_get hI h (fun g => by subst_vars; exact g) ?_; clear h; intro hc x_23 hxx_23 h
          refine L_conj hI h (fun g => by subst_vars; exact g) ?_; clear h; intro hc h
          refine L_conj hI h (fun g => by subst_vars; exact g) ?_; clear h; intro hc h
          replace h := letO_of h; obtain ⟨l_24, hel_24, h⟩ := h
          refine K_setl2 hI l_13 (Meas.mk ((l_13.getD (iopR .rem .i64 (IntKind.wrap .i64 x_22.a0) ((l_13.length : Nat) : Int)).toNat meas0).what) ((l_13.getD (iopR .rem .i64 (IntKind.wrap .i64 x_22.a0) ((l_13.length : Nat) : Int)).toNat meas0).hour) (min 2000 (iopR .mul .i64 8 (IntKind.wrap .i64 x_23.a1))) ((l_13.getD (iopR .rem .i64 (IntKind.wrap .i64 x_22.a0) ((l_13.length : Nat) : Int)).toNat meas0).off)) l_24 hel_24 (by subst_vars; first | rfl | (simp only [rowsD, KP.rows, KV.toDLL, List.map_append, List.map_cons, List.map_nil, List.append_nil, List.nil_append, List.append_assoc, List.singleton_append, List.cons_append, List.map_replicate]; rfl) | (simp only [primK, rowsD, KP.rows, KV.toDLL, List.map_append, List.map_cons, List.map_nil, List.append_nil, List.map_replicate]; rfl)) hc (by subst_vars; rfl) (by subst_vars; rfl) ?_; (conv => cbv)
          replace h := letO_of h; obtain ⟨l_25, hel_25, h⟩ := h
          refine K_mset hI menc_int_bool (d := (0, false)) v_12 (iopR .rem .i64 (IntKind.wrap .i64 x_22.a0) ((l_13.length : Nat) : Int)) true l_25 hel_25 (by subst_vars; first | rfl | (simp only [rowsD, KP.rows, KV.toDLL, List.map_append, List.map_cons, List.map_nil, List.append_nil, List.nil_append, List.append_assoc, List.singleton_append, List.cons_append, List.map_replicate]; rfl) | (simp only [primK, rowsD, KP.rows, KV.toDLL, List.map_append, List.map_cons, List.map_nil, List.append_nil, List.map_replicate]; rfl)) (by subst_vars; rfl) (by subst_vars; rfl) ?_; (conv => cbv)
          exact hR _ _ (Option.some.inj h).symm (by subst_vars; exact weak_l rfl rfl ⟨LV_sl, lR, lR, lE, trivial⟩ ⟨lB ⟨LV_sl, lR, rfl⟩, trivial⟩ ⟨lO, lO, trivial⟩)
        · exact hX _ _ (Option.some.inj h).symm (by subst_vars; exact weak_l rfl rfl ⟨lR, lR, trivial⟩ ⟨lB ⟨LV_sl, lR, rfl⟩, trivial⟩ ⟨lO, lO, trivial⟩)
    · intro q h
      rcases q with ⟨v_19, l_20⟩
      (conv => cbv)
      refine L_call hI h (fun v hv => w_law01_own2 N (api_Cloth.mk r_3.Tracks l_20) v hv) (by subst_vars; exact ⟨⟨⟨.inl rfl, rfl, leDLL_refl _⟩, ⟨.inl rfl, rfl, leDLL_refl _⟩, rfl⟩, rfl⟩) ?_; clear h; intro r_26 h; (conv => cbv)
      refine K_conj hI (by rw [hI]; exact nums_own2 _ _) ?_
      refine L_call hI h (fun v hv => w_cloth_Wrong N r_26 v hv) (by subst_vars; exact ⟨(leD_refl _), rfl⟩) ?_; clear h; intro r_27 h; (conv => cbv)
      refine L_call hI h (fun v hv => w_law01_own2 N (api_Cloth.mk r_3.Tracks l_20) v hv) (by subst_vars; exact ⟨⟨⟨.inl rfl, rfl, leDLL_refl _⟩, ⟨.inl rfl, rfl, leDLL_refl _⟩, rfl⟩, rfl⟩) ?_; clear h; intro r_28 h; (conv => cbv)
      refine K_conj hI (by rw [hI]; exact nums_own2 _ _) ?_
      refine L_call hI h (fun v hv => w_cloth_Rates N r_28 v hv) (by subst_vars; exact ⟨(leD_refl _), rfl⟩) ?_; clear h; intro r_29 h; (conv => cbv)
      refine L_tst hI h (by subst_vars; rfl) ?_ ?_ <;> clear h <;> intro h
      · refine L_cut hI seat [25, 75, 81, 191, 1000007, 1000015, 1000024, 1000026, 1000029, 2000143, 3000010] (by kernel_rfl) h (fun q => match q with | v_30 => .normal) (fun q => match q with | v_30 => ⟨208, [(4, .bool v_30)], [], [], 0⟩) ?_ ?_; all_goals clear h
        · intro x h R hR
          (conv => cbv)
          refine L_tst hI h (by subst_vars; rfl) ?_ ?_ <;> clear h <;> intro h
          · refine L_tst hI h (by subst_vars; rfl) ?_ ?_ <;> clear h <;> intro h
            · refine L_call hI h (fun v hv => w_law01_known N v hv) (by subst_vars; exact rfl) ?_; clear h; intro r_31 h; (conv => cbv)
              exact hR _ _ (Option.some.inj h).symm (by subst_vars; exact weak_l rfl rfl ⟨lE, trivial⟩ trivial trivial)
            · exact hR _ _ (Option.some.inj h).symm (by subst_vars; exact weak_l rfl rfl ⟨lE, trivial⟩ trivial trivial)
          · exact hR _ _ (Option.some.inj h).symm (by subst_vars; exact weak_l rfl rfl ⟨lE, trivial⟩ trivial trivial)
        · intro v_30 h
          (conv => cbv)
          cases h
          subst_vars
          exact ⟨lE, rfl⟩
      · refine L_cut hI seat [25, 75, 81, 191, 1000007, 1000014, 1000024, 1000026, 1000029, 2000143, 3000010] (by kernel_rfl) h (fun q => match q with | v_32 => .normal) (fun q => match q with | v_32 => ⟨208, [(5, .loc 2 0), (11, slInt false r_27.1), (109, .bool v_32)], [(2, ⟨25, [slTrack false r_3.Tracks, .osl 1], true⟩)], [(1, ⟨49, 4, [.ls Meas meas0 l_20 eMeas], false, true⟩)], 0⟩) ?_ ?_; all_goals clear h
        · intro x h R hR
          (conv => cbv)
          refine L_tst hI h (by subst_vars; rfl) ?_ ?_ <;> clear h <;> intro h
          · exact hR _ _ (Option.some.inj h).symm (by subst_vars; exact weak_l rfl rfl ⟨lR, LV_sl, lE, trivial⟩ ⟨lB ⟨LV_sl, lR, rfl⟩, trivial⟩ ⟨lO, trivial⟩)
          · refine L_tst hI h (by subst_vars; rfl) ?_ ?_ <;> clear h <;> intro h
            · exact hR _ _ (Option.some.inj h).symm (by subst_vars; exact weak_l rfl rfl ⟨lR, LV_sl, lE, trivial⟩ ⟨lB ⟨LV_sl, lR, rfl⟩, trivial⟩ ⟨lO, trivial⟩)
            · exact hR _ _ (Option.some.inj h).symm (by subst_vars; exact weak_l rfl rfl ⟨lR, LV_sl, lE, trivial⟩ ⟨lB ⟨LV_sl, lR, rfl⟩, trivial⟩ ⟨lO, trivial⟩)
        · intro v_32 h
          (conv => cbv)
          refine L_tst hI h (by subst_vars; rfl) ?_ ?_ <;> clear h <;> intro h
          · cases h
            subst_vars
            exact ⟨lE, rfl⟩
          · refine L_loop hI seat [25, 75, 81, 191, 1000007, 1000014, 1000015, 1000024, 1000026, 1000029, 2000143, 3000010] (by kernel_rfl) h (fun q => match q with | v_50 => ⟨208, [(5, .loc 2 0), (11, slInt false r_27.1), (15, .int .i64 v_50)], [(2, ⟨25, [slTrack false r_3.Tracks, .osl 1], true⟩)], [(1, ⟨49, 4, [.ls Meas meas0 l_20 eMeas], false, true⟩)], 0⟩) (fun q => match q with | (.inl ()) => .ret | (.inr ()) => .exit 2) (fun q => match q with | (.inl ()) => ⟨208, [(4, .ff)], [], [], 0⟩ | (.inr ()) => ⟨208, [], [], [], 0⟩) (by subst_vars; exact weak_l rfl rfl ⟨lR, LV_sl, lE, trivial⟩ ⟨lB ⟨LV_sl, lR, rfl⟩, trivial⟩ ⟨lO, trivial⟩) (by intro q; rcases q with (_ | _) <;> (intro e; exact Exit.noConfusion e)) ?_ ?_; all_goals clear h
            · intro v_50 x h R hR hX
              rw [m_law01_ClothBad1_L2] at h
              (conv => cbv)
              refine L_tst hI h (by subst_vars; rfl) ?_ ?_ <;> clear h <;> intro h
              · refine L_conj hI h (fun g => by subst_vars; exact g) ?_; clear h; intro hc h
                refine L_loop hI seat [25, 75, 81, 191, 1000007, 1000014, 1000015, 1000024, 1000026, 1000029, 2000143, 3000010] (by kernel_rfl) h (fun q => match q with | (v_81, l_82) => ⟨208, [(5, .loc 2 0), (11, slInt false r_27.1), (15, .int .i64 v_50), (16, .loc 4 0), (17, .int .i64 v_81)], [(4, ⟨25, [.osl 3, .osl 5], true⟩), (2, ⟨25, [slTrack false r_3.Tracks, .osl 1], true⟩)], [(5, ⟨49, 4, [.ls Meas meas0 l_82 eMeas], false, true⟩), (3, ⟨105, 4, [.ls Track track0 r_3.Tracks eTrack], true, true⟩), (1, ⟨49, 4, [.ls Meas meas0 l_20 eMeas], false, true⟩)], 0⟩) (fun q => match q with | l_88 => .exit 4) (fun q => match q with | l_88 => ⟨208, [(5, .loc 2 0), (11, slInt false r_27.1), (15, .int .i64 v_50), (16, .loc 4 0)], [(4, ⟨25, [.osl 3, .osl 5], true⟩), (2, ⟨25, [slTrack false r_3.Tracks, .osl 1], true⟩)], [(5, ⟨49, 4, [.ls Meas meas0 l_88 eMeas], false, true⟩), (3, ⟨105, 4, [.ls Track track0 r_3.Tracks eTrack], true, true⟩), (1, ⟨49, 4, [.ls Meas meas0 l_20 eMeas], false, true⟩)], 0⟩) (by subst_vars; exact (weak_nilH 4 1 5 49 4 ⟨25, [.osl 3, .nilsl], true⟩ rfl rfl rfl rfl).trans (weak_l rfl rfl ⟨lR, LV_sl, lE, lR, lE, trivial⟩ ⟨lB ⟨lR, lR, rfl⟩, lB ⟨LV_sl, lR, rfl⟩, trivial⟩ ⟨lO, lO, lO, trivial⟩)) (by intro q; rcases q with l_88 <;> (intro e; exact Exit.noConfusion e)) ?_ ?_; all_goals clear h
                · intro q x h R hR hX
                  obtain ⟨v_81, l_82⟩ := q
                  rw [m_law01_ClothBad1_L3] at h
                  (conv => cbv)
                  refine L_tst hI h (by subst_vars; rfl) ?_ ?_ <;> clear h <;> intro h
                  · refine L_cut hI seat [25, 75, 81, 191, 1000007, 1000014, 1000015, 1000026, 1000029, 2000143, 3000010] (by kernel_rfl) h (fun q => match q with | v_89 => .normal) (fun q => match q with | v_89 => ⟨208, [(5, .loc 2 0), (11, slInt false r_27.1), (15, .int .i64 v_50), (16, .loc 4 0), (17, .int .i64 v_81), (143, .bool v_89)], [(4, ⟨25, [.osl 3, .osl 5], true⟩), (2, ⟨25, [slTrack false r_3.Tracks, .osl 1], true⟩)], [(5, ⟨49, 4, [.ls Meas meas0 l_82 eMeas], false, true⟩), (3, ⟨105, 4, [.ls Track track0 r_3.Tracks eTrack], true, true⟩), (1, ⟨49, 4, [.ls Meas meas0 l_20 eMeas], false, true⟩)], 0⟩) ?_ ?_; all_goals clear h
                    · intro x h R hR
                      (conv => cbv)
                      refine L_call hI h (fun v hv => w_law01_has N r_27.1 v_81 v hv) (by subst_vars; exact ⟨(leD_refl _), (leD_refl _), rfl⟩) ?_; clear h; intro r_90 h; (conv => cbv)
                      refine L_tst hI h (by subst_vars; rfl) ?_ ?_ <;> clear h <;> intro h
                      · exact hR _ _ (Option.some.inj h).symm (by subst_vars; exact weak_l rfl rfl ⟨lR, LV_sl, lE, lR, lE, lE, trivial⟩ ⟨lB ⟨lR, lR, rfl⟩, lB ⟨LV_sl, lR, rfl⟩, trivial⟩ ⟨lO, lO, lO, trivial⟩)
                      · refine L_tst hI h (by subst_vars; rfl) ?_ ?_ <;> clear h <;> intro h
                        · refine L_get hI h (fun g => by subst_vars; exact g) ?_; clear h; intro hc x_91 hxx_91 h
                          exact hR _ _ (Option.some.inj h).symm (by subst_vars; exact weak_l rfl rfl ⟨lR, LV_sl, lE, lR, lE, lE, trivial⟩ ⟨lB ⟨lR, lR, rfl⟩, lB ⟨LV_sl, lR, rfl⟩, trivial⟩ ⟨lO, lO, lO, trivial⟩)
                        · exact hR _ _ (Option.some.inj h).symm (by subst_vars; exact weak_l rfl rfl ⟨lR, LV_sl, lE, lR, lE, lE, trivial⟩ ⟨lB ⟨lR, lR, rfl⟩, lB ⟨LV_sl, lR, rfl⟩, trivial⟩ ⟨lO, lO, lO, trivial⟩)
                    · intro v_89 h
                      (conv => cbv)
                      refine L_cut hI seat [25, 75, 81, 191, 1000007, 1000014, 1000015, 1000024, 1000026, 1000029, 3000010] (by kernel_rfl) h (fun q => match q with | l_92 => .normal) (fun q => match q with | l_92 => ⟨208, [(5, .loc 2 0), (11, slInt false r_27.1), (15, .int .i64 v_50), (16, .loc 4 0), (17, .int .i64 v_81)], [(4, ⟨25, [.osl 3, .osl 5], true⟩), (2, ⟨25, [slTrack false r_3.Tracks, .osl 1], true⟩)], [(5, ⟨49, 4, [.ls Meas meas0 l_92 eMeas], false, true⟩), (3, ⟨105, 4, [.ls Track track0 r_3.Tracks eTrack], true, true⟩), (1, ⟨49, 4, [.ls Meas meas0 l_20 eMeas], false, true⟩)], 0⟩) ?_ ?_; all_goals clear h
                      · intro x h R hR
                        (conv => cbv)
                        refine L_tst hI h (by subst_vars; rfl) ?_ ?_ <;> clear h <;> intro h
                        · refine L_conj hI h (fun g => by subst_vars; exact g) ?_; clear h; intro hc h
                          refine L_get hI h (fun g => by subst_vars; exact g) ?_; clear h; intro hc x_93 hxx_93 h
                          refine L_conj hI h (fun g => by subst_vars; exact g) ?_; clear h; intro hc h
                          exact hR _ _ (Option.some.inj h).symm (by subst_vars; exact weak_l rfl rfl ⟨lR, LV_sl, lE, lR, lE, trivial⟩ ⟨lB ⟨lR, lR, rfl⟩, lB ⟨LV_sl, lR, rfl⟩, trivial⟩ ⟨lO, lO, lO, trivial⟩)
                        · exact hR _ _ (Option.some.inj h).symm (by subst_vars; exact weak_l rfl rfl ⟨lR, LV_sl, lE, lR, lE, trivial⟩ ⟨lB ⟨lR, lR, rfl⟩, lB ⟨LV_sl, lR, rfl⟩, trivial⟩ ⟨lO, lO, lO, trivial⟩)
                      · intro l_92 h
                        (conv => cbv)
                        exact hR _ _ (Option.some.inj h).symm (by subst_vars; exact weak_l rfl rfl ⟨lR, LV_sl, lE, lR, lE, trivial⟩ ⟨lB ⟨lR, lR, rfl⟩, lB ⟨LV_sl, lR, rfl⟩, trivial⟩ ⟨lO, lO, lO, trivial⟩)
                  · exact hX _ _ (Option.some.inj h).symm (by subst_vars; exact weak_l rfl rfl ⟨lR, LV_sl, lE, lR, trivial⟩ ⟨lB ⟨lR, lR, rfl⟩, lB ⟨LV_sl, lR, rfl⟩, trivial⟩ ⟨lO, lO, lO, trivial⟩)
                · intro l_88 h
                  (conv => cbv)
                  refine L_cut hI seat [25, 75, 81, 191, 1000007, 1000014, 1000015, 1000024, 1000029, 2000143, 3000010] (by kernel_rfl) h (fun q => match q with | v_94 => .normal) (fun q => match q with | v_94 => ⟨208, [(5, .loc 2 0), (11, slInt false r_27.1), (15, .int .i64 v_50), (16, .loc 4 0), (188, .bool v_94)], [(4, ⟨25, [.osl 3, .osl 5], true⟩), (2, ⟨25, [slTrack false r_3.Tracks, .osl 1], true⟩)], [(5, ⟨49, 4, [.ls Meas meas0 l_88 eMeas], false, true⟩), (3, ⟨105, 4, [.ls Track track0 r_3.Tracks eTrack], true, true⟩), (1, ⟨49, 4, [.ls Meas meas0 l_20 eMeas], false, true⟩)], 0⟩) ?_ ?_; all_goals clear h
                  · intro x h R hR
                    (conv => cbv)
                    refine L_tst hI h (by subst_vars; rfl) ?_ ?_ <;> clear h <;> intro h
                    · refine L_get hI h (fun g => by subst_vars; exact g) ?_; clear h; intro hc x_95 hxx_95 h
                      refine L_tst hI h (by subst_vars; rfl) ?_ ?_ <;> clear h <;> intro h
                      · exact hR _ _ (Option.some.inj h).symm (by subst_vars; exact weak_l rfl rfl ⟨lR, LV_sl, lE, lR, lE, trivial⟩ ⟨lB ⟨lR, lR, rfl⟩, lB ⟨LV_sl, lR, rfl⟩, trivial⟩ ⟨lO, lO, lO, trivial⟩)
                      · refine L_get hI h (fun g => by subst_vars; exact g) ?_; clear h; intro hc x_96 hxx_96 h
                        refine L_tst hI h (by subst_vars; rfl) ?_ ?_ <;> clear h <;> intro h
                        · exact hR _ _ (Option.some.inj h).symm (by subst_vars; exact weak_l rfl rfl ⟨lR, LV_sl, lE, lR, lE, trivial⟩ ⟨lB ⟨lR, lR, rfl⟩, lB ⟨LV_sl, lR, rfl⟩, trivial⟩ ⟨lO, lO, lO, trivial⟩)
                        · refine L_tst hI h (by subst_vars; rfl) ?_ ?_ <;> clear h <;> intro h
                          · refine L_get hI h (fun g => by subst_vars; exact g) ?_; clear h; intro hc x_97 hxx_97 h
                            refine L_get hI h (fun g => by subst_vars; exact g) ?_; clear h; intro hc x_98 hxx_98 h
                            exact hR _ _ (Option.some.inj h).symm (by subst_vars; exact weak_l rfl rfl ⟨lR, LV_sl, lE, lR, lE, trivial⟩ ⟨lB ⟨lR, lR, rfl⟩, lB ⟨LV_sl, lR, rfl⟩, trivial⟩ ⟨lO, lO, lO, trivial⟩)
                          · exact hR _ _ (Option.some.inj h).symm (by subst_vars; exact weak_l rfl rfl ⟨lR, LV_sl, lE, lR, lE, trivial⟩ ⟨lB ⟨lR, lR, rfl⟩, lB ⟨LV_sl, lR, rfl⟩, trivial⟩ ⟨lO, lO, lO, trivial⟩)
                    · exact hR _ _ (Option.some.inj h).symm (by subst_vars; exact weak_l rfl rfl ⟨lR, LV_sl, lE, lR, lE, trivial⟩ ⟨lB ⟨lR, lR, rfl⟩, lB ⟨LV_sl, lR, rfl⟩, trivial⟩ ⟨lO, lO, lO, trivial⟩)
                  · intro v_94 h
                    (conv => cbv)
                    refine L_tst hI h (by subst_vars; rfl) ?_ ?_ <;> clear h <;> intro h
                    · exact hX _ _ (Option.some.inj h).symm (by subst_vars; exact weak_l rfl rfl ⟨lE, trivial⟩ trivial trivial)
                    · refine L_call hI h (fun v hv => w_cloth_Rates N (api_Cloth.mk r_3.Tracks l_88) v hv) (by subst_vars; exact ⟨⟨⟨.inl rfl, rfl, leDLL_refl _⟩, ⟨.inl rfl, rfl, leDLL_refl _⟩, rfl⟩, rfl⟩) ?_; clear h; intro r_99 h; (conv => cbv)
                      refine L_cut hI seat [25, 75, 81, 191, 1000007, 1000014, 1000015, 1000024, 1000026, 2000143, 3000010] (by kernel_rfl) h (fun q => match q with | v_100 => .normal) (fun q => match q with | v_100 => ⟨208, [(5, .loc 2 0), (11, slInt false r_27.1), (15, .int .i64 v_50), (206, .bool v_100)], [(2, ⟨25, [slTrack false r_3.Tracks, .osl 1], true⟩)], [(1, ⟨49, 4, [.ls Meas meas0 l_20 eMeas], false, true⟩)], 0⟩) ?_ ?_; all_goals clear h
                      · intro x h R hR
                        (conv => cbv)
                        refine L_tst hI h (by subst_vars; rfl) ?_ ?_ <;> clear h <;> intro h
                        · exact hR _ _ (Option.some.inj h).symm (by subst_vars; exact weak_l rfl rfl ⟨lR, LV_sl, lE, lE, trivial⟩ ⟨lB ⟨LV_sl, lR, rfl⟩, trivial⟩ ⟨lO, trivial⟩)
                        · refine L_tst hI h (by subst_vars; rfl) ?_ ?_ <;> clear h <;> intro h
                          · exact hR _ _ (Option.some.inj h).symm (by subst_vars; exact weak_l rfl rfl ⟨lR, LV_sl, lE, lE, trivial⟩ ⟨lB ⟨LV_sl, lR, rfl⟩, trivial⟩ ⟨lO, trivial⟩)
                          · exact hR _ _ (Option.some.inj h).symm (by subst_vars; exact weak_l rfl rfl ⟨lR, LV_sl, lE, lE, trivial⟩ ⟨lB ⟨LV_sl, lR, rfl⟩, trivial⟩ ⟨lO, trivial⟩)
                      · intro v_100 h
                        (conv => cbv)
                        refine L_tst hI h (by subst_vars; rfl) ?_ ?_ <;> clear h <;> intro h
                        · exact hX _ _ (Option.some.inj h).symm (by subst_vars; exact weak_l rfl rfl ⟨lE, trivial⟩ trivial trivial)
                        · exact hR _ _ (Option.some.inj h).symm (by subst_vars; exact weak_l rfl rfl ⟨lR, LV_sl, lE, trivial⟩ ⟨lB ⟨LV_sl, lR, rfl⟩, trivial⟩ ⟨lO, trivial⟩)
              · exact hX _ _ (Option.some.inj h).symm (by subst_vars; exact weak_l rfl rfl trivial trivial trivial)
            · intro q h
              rcases q with (_ | _)
              · (conv => cbv)
                cases h
                subst_vars
                exact ⟨lE, rfl⟩
              · (conv => cbv)
                refine L_call hI h (fun v hv => w_law01_known N v hv) (by subst_vars; exact rfl) ?_; clear h; intro r_101 h; (conv => cbv)
                cases h
                subst_vars
                exact ⟨lE, rfl⟩
def m_law01_ClothBad0_L1 (N : Nat) (p_2 : (List A2_u8)) : Unit → Option ((Unit) ⊕ (Unit))
  | () =>
    (show Option (Unit) from
      if icmpR .lss 0 ((p_2.length : Nat) : Int) then
        some ()
      else
        some ()).bind fun q => match q with
    | () =>
      some (.inr ())
def m_law01_ClothBad0 (N : Nat) (p_1 : law01_Bolt) (p_2 : (List A2_u8)) : Option (Bool) :=
  (m_law01_Bolt_cloth0 N p_1).bind fun r_3 =>
  (m_law01_own N (api_Cloth.mk r_3.Tracks [])).bind fun r_4 =>
  (m_cloth_Wrong N r_4).bind fun r_5 =>
  if icmpR .neq r_5.2 6 then
    some false
  else
    (loopO (m_law01_ClothBad0_L1 N p_2) N ()).bind fun q => match q with
    | () =>
      (m_law01_own N (api_Cloth.mk r_3.Tracks [])).bind fun r_6 =>
      (m_cloth_Wrong N r_6).bind fun r_7 =>
      (m_law01_own N (api_Cloth.mk r_3.Tracks [])).bind fun r_8 =>
      (m_cloth_Rates N r_8).bind fun r_9 =>
      if icmpR .eql r_9.2 0 then
        (show Option (Bool) from
          if icmpR .eql r_7.2 6 then
            if icmpR .eql ((r_7.1.length : Nat) : Int) 0 then
              (m_law01_known N).bind fun r_11 =>
              some r_11
            else
              some false
          else
            some false).bind fun q => match q with
        | v_10 =>
          some v_10
      else
        none
theorem w_law01_ClothBad0 (N : Nat) (p_1 : law01_Bolt) (p_2 : (List A2_u8)) (o : Bool) (h : m_law01_ClothBad0 N p_1 p_2 = some o) :
    KC Try.prog 11 [.agg [.int .u8 p_1.Tracks.a0.a, .int .u8 p_1.Tracks.a0.b, .int .u8 p_1.Tracks.a0.c, .int .u8 p_1.Tracks.a0.d, .int .u8 p_1.Tracks.a1.a, .int .u8 p_1.Tracks.a1.b, .int .u8 p_1.Tracks.a1.c, .int .u8 p_1.Tracks.a1.d, .int .u8 p_1.Tracks.a2.a, .int .u8 p_1.Tracks.a2.b, .int .u8 p_1.Tracks.a2.c, .int .u8 p_1.Tracks.a2.d, slB4 false p_1.Measures], sl_A2_u8 false p_2] (.bool o) [] := by
  unfold m_law01_ClothBad0 at h
  refine con_l [] [1000007, 1000014] seat Try.func11 rfl ent_11 (by kernel_rfl) rfl rfl (by simp) ?_; intro base I hI; (conv => cbv)
  refine L_call hI h (fun v hv => w_law01_Bolt_cloth0 N p_1 v hv) (by subst_vars; exact ⟨(leD_refl _), rfl⟩) ?_; clear h; intro r_3 h; (conv => cbv)
  refine L_call hI h (fun v hv => w_law01_own N (api_Cloth.mk r_3.Tracks []) v hv) (by subst_vars; exact ⟨⟨⟨.inl rfl, rfl, leDLL_refl _⟩, (show ([] : List (List D)) = [] from rfl), rfl⟩, rfl⟩) ?_; clear h; intro r_4 h; (conv => cbv)
  refine L_call hI h (fun v hv => w_cloth_Wrong N r_4 v hv) (by subst_vars; exact ⟨(leD_refl _), rfl⟩) ?_; clear h; intro r_5 h; (conv => cbv)
  refine L_tst hI h (by subst_vars; rfl) ?_ ?_ <;> clear h <;> intro h
  · cases h
    subst_vars
    exact ⟨lE, rfl⟩
  · refine L_loop hI seat [1000007, 1000014] (by kernel_rfl) h (fun q => match q with | () => ⟨208, [(1, sl_A2_u8 false p_2), (5, .loc 1 0), (8, .osl 2), (9, .lit .i64 0)], [(1, ⟨25, [slTrack false r_3.Tracks, .nilsl], true⟩)], [(2, ⟨0, 0, [], true, true⟩)], 0⟩) (fun q => match q with | () => .exit 0) (fun q => match q with | () => ⟨208, [(5, .loc 1 0), (8, .osl 2)], [(1, ⟨25, [slTrack false r_3.Tracks, .nilsl], true⟩)], [(2, ⟨0, 0, [], true, true⟩)], 0⟩) (by subst_vars; exact weak_l rfl rfl ⟨LV_sl, lR, lR, lE, trivial⟩ ⟨lB ⟨LV_sl, lR, rfl⟩, trivial⟩ ⟨lO, trivial⟩) (by intro q; rcases q with _ <;> (intro e; exact Exit.noConfusion e)) ?_ ?_; all_goals clear h
    · intro q x h R hR hX
      obtain ⟨⟩ := q
      rw [m_law01_ClothBad0_L1] at h
      (conv => cbv)
      refine L_cut hI seat [1000014] (by kernel_rfl) h (fun q => match q with | () => .normal) (fun q => match q with | () => ⟨208, [(1, sl_A2_u8 false p_2), (5, .loc 1 0), (8, .osl 2), (9, .lit .i64 0), (44, .ff)], [(1, ⟨25, [slTrack false r_3.Tracks, .nilsl], true⟩)], [(2, ⟨0, 0, [], true, true⟩)], 0⟩) ?_ ?_; all_goals clear h
      · intro x h R hR
        (conv => cbv)
        refine L_tst hI h (by subst_vars; rfl) ?_ ?_ <;> clear h <;> intro h
        · exact hR _ _ (Option.some.inj h).symm (by subst_vars; exact weak_l rfl rfl ⟨LV_sl, lR, lR, lE, lE, trivial⟩ ⟨lB ⟨LV_sl, lR, rfl⟩, trivial⟩ ⟨lO, trivial⟩)
        · exact hR _ _ (Option.some.inj h).symm (by subst_vars; exact weak_l rfl rfl ⟨LV_sl, lR, lR, lE, lE, trivial⟩ ⟨lB ⟨LV_sl, lR, rfl⟩, trivial⟩ ⟨lO, trivial⟩)
      · intro q h
        (conv => cbv)
        exact hX _ _ (Option.some.inj h).symm (by subst_vars; exact weak_l rfl rfl ⟨lR, lR, trivial⟩ ⟨lB ⟨LV_sl, lR, rfl⟩, trivial⟩ ⟨lO, trivial⟩)
    · intro q h
      (conv => cbv)
      refine L_call hI h (fun v hv => w_law01_own N (api_Cloth.mk r_3.Tracks []) v hv) (by subst_vars; exact ⟨⟨⟨.inl rfl, rfl, leDLL_refl _⟩, (show ([] : List (List D)) = [] from rfl), rfl⟩, rfl⟩) ?_; clear h; intro r_6 h; (conv => cbv)
      refine L_call hI h (fun v hv => w_cloth_Wrong N r_6 v hv) (by subst_vars; exact ⟨(leD_refl _), rfl⟩) ?_; clear h; intro r_7 h; (conv => cbv)
      refine L_call hI h (fun v hv => w_law01_own N (api_Cloth.mk r_3.Tracks []) v hv) (by subst_vars; exact ⟨⟨⟨.inl rfl, rfl, leDLL_refl _⟩, (show ([] : List (List D)) = [] from rfl), rfl⟩, rfl⟩) ?_; clear h; intro r_8 h; (conv => cbv)
      refine L_call hI h (fun v hv => w_cloth_Rates N r_8 v hv) (by subst_vars; exact ⟨(leD_refl _), rfl⟩) ?_; clear h; intro r_9 h; (conv => cbv)
      refine L_tst hI h (by subst_vars; rfl) ?_ ?_ <;> clear h <;> intro h
      · refine L_cut hI seat [1000007] (by kernel_rfl) h (fun q => match q with | v_10 => .normal) (fun q => match q with | v_10 => ⟨208, [(4, .bool v_10)], [], [], 0⟩) ?_ ?_; all_goals clear h
        · intro x h R hR
          (conv => cbv)
          refine L_tst hI h (by subst_vars; rfl) ?_ ?_ <;> clear h <;> intro h
          · refine L_tst hI h (by subst_vars; rfl) ?_ ?_ <;> clear h <;> intro h
            · refine L_call hI h (fun v hv => w_law01_known N v hv) (by subst_vars; exact rfl) ?_; clear h; intro r_11 h; (conv => cbv)
              exact hR _ _ (Option.some.inj h).symm (by subst_vars; exact weak_l rfl rfl ⟨lE, trivial⟩ trivial trivial)
            · exact hR _ _ (Option.some.inj h).symm (by subst_vars; exact weak_l rfl rfl ⟨lE, trivial⟩ trivial trivial)
          · exact hR _ _ (Option.some.inj h).symm (by subst_vars; exact weak_l rfl rfl ⟨lE, trivial⟩ trivial trivial)
        · intro v_10 h
          (conv => cbv)
          cases h
          subst_vars
          exact ⟨lE, rfl⟩
      · cases h
end
end Go.Proofs.Ytnekemldcjegaaa.Aw

/- Plain: what is so from hour to hour. -/
namespace Go.Proofs.Ytnekemldcjegaaa.Aw
open Go Go.RowKit Go.Proofs
set_option linter.unusedSimpArgs false
set_option linter.unusedVariables false
section
variable {ts : List Track} {ms : List Meas}
end
end Go.Proofs.Ytnekemldcjegaaa.Aw

/- Plain model and walk of a law, printed by wip/gen/ch1.py. -/
namespace Go.Proofs.Ytnekemldcjegaaa.Aw
open Go Go.RowKit Go.Proofs
set_option maxRecDepth 100000
set_option maxHeartbeats 4000000
set_option linter.unusedSimpArgs false
set_option linter.unusedVariables false
noncomputable section
end
end Go.Proofs.Ytnekemldcjegaaa.Aw

/- Plain law of ClothBetween. -/
namespace Go.Proofs.Ytnekemldcjegaaa.Aw
open Go Go.RowKit Go.Proofs
set_option linter.unusedSimpArgs false
set_option linter.unusedVariables false
end Go.Proofs.Ytnekemldcjegaaa.Aw

/- Plain: how many numbers lie in a window; the most that do. -/
namespace Go.Proofs.Ytnekemldcjegaaa.Aw
open Go Go.RowKit Go.Proofs
set_option linter.unusedSimpArgs false
set_option linter.unusedVariables false
/-- How many numbers lie between two ends. -/
def cnt (V : List Int) (a b : Int) : Nat := V.countP fun v => decide (a ≤ v ∧ v ≤ b)
theorem cnt_le (V : List Int) (a b : Int) : cnt V a b ≤ V.length := List.countP_le_length
theorem cnt_pos {V : List Int} {a b v : Int} (hv : v ∈ V) (h : a ≤ v ∧ v ≤ b) : 0 < cnt V a b := by
  unfold cnt
  rw [List.countP_pos_iff]
  exact ⟨v, hv, by simpa using h⟩
/-- The most numbers in a window so wide. -/
structure IsMost (V : List Int) (w : Int) (M : Int) : Prop where
  all : ∀ x : Int, (cnt V x (x + w) : Int) ≤ M
  some : ∃ v ∈ V, (cnt V v (v + w) : Int) = M
theorem IsMost.pos {V : List Int} {w M : Int} (h : IsMost V w M) (hw : 0 ≤ w) : 1 ≤ M ∧ M ≤ V.length := by
  obtain ⟨v, hv, e⟩ := h.some
  have := cnt_pos (a := v) (b := v + w) hv (by omega)
  have := cnt_le V v (v + w)
  omega
end Go.Proofs.Ytnekemldcjegaaa.Aw

/- Plain: how many truths are left; where to look. -/
namespace Go.Proofs.Ytnekemldcjegaaa.Aw
open Go Go.RowKit Go.Proofs
set_option linter.unusedSimpArgs false
set_option linter.unusedVariables false
end Go.Proofs.Ytnekemldcjegaaa.Aw

/- Plain: the values of stretches are those of the truths; where to look. -/
namespace Go.Proofs.Ytnekemldcjegaaa.Aw
open Go Go.RowKit Go.Proofs
set_option linter.unusedSimpArgs false
set_option linter.unusedVariables false
section
variable {ts : List Track} {ms : List Meas} {w : Int}
end
end Go.Proofs.Ytnekemldcjegaaa.Aw

/- Plain model and walk of a law, printed by wip/gen/ch1.py. -/
namespace Go.Proofs.Ytnekemldcjegaaa.Aw
open Go Go.RowKit Go.Proofs
set_option maxRecDepth 100000
set_option maxHeartbeats 4000000
set_option linter.unusedSimpArgs false
set_option linter.unusedVariables false
noncomputable section
end
end Go.Proofs.Ytnekemldcjegaaa.Aw

/- Plain law of ClothTold. -/
namespace Go.Proofs.Ytnekemldcjegaaa.Aw
open Go Go.RowKit Go.Proofs
set_option linter.unusedSimpArgs false
set_option linter.unusedVariables false
end Go.Proofs.Ytnekemldcjegaaa.Aw

/- Contracts of the reference: for how many hours a cloth can have been fulled. -/
namespace Go.Proofs.Ytnekemldcjegaaa.Aw
open Go Go.RowKit Go.Proofs
set_option maxRecDepth 100000
set_option maxHeartbeats 2000000
set_option linter.unusedSimpArgs false
set_option linter.unusedVariables false
end Go.Proofs.Ytnekemldcjegaaa.Aw

/- Contracts of the law: ClothHours. -/
namespace Go.Proofs.Ytnekemldcjegaaa.Aw
open Go Go.RowKit Go.Proofs
set_option maxRecDepth 100000
set_option maxHeartbeats 4000000
set_option linter.unusedSimpArgs false
set_option linter.unusedVariables false
end Go.Proofs.Ytnekemldcjegaaa.Aw

/- Contracts of the reference: cloths with other rates; the error of yarns. -/
namespace Go.Proofs.Ytnekemldcjegaaa.Aw
open Go Go.RowKit Go.Proofs
set_option maxRecDepth 100000
set_option maxHeartbeats 4000000
set_option linter.unusedSimpArgs false
set_option linter.unusedVariables false
end Go.Proofs.Ytnekemldcjegaaa.Aw

/- Contracts of the law: ClothYarns. -/
namespace Go.Proofs.Ytnekemldcjegaaa.Aw
open Go Go.RowKit Go.Proofs
set_option maxRecDepth 100000
set_option maxHeartbeats 4000000
set_option linter.unusedSimpArgs false
set_option linter.unusedVariables false
end Go.Proofs.Ytnekemldcjegaaa.Aw

/- Contracts of the reference: all sets of so many numbers. -/
namespace Go.Proofs.Ytnekemldcjegaaa.Aw
open Go Go.RowKit Go.Proofs
set_option maxRecDepth 100000
set_option maxHeartbeats 4000000
set_option linter.unusedSimpArgs false
set_option linter.unusedVariables false
def rangeI (a : Int) : Nat → List Int
  | 0 => []
  | n + 1 => a :: rangeI (a + 1) n
def nextI (b : List Int) : Int := if b = [] then 0 else b.getD (b.length - 1) 0 + 1
def setsS (below : Int) : Nat → List Int → List (List Int)
  | 0, b => [b]
  | k + 1, b => (rangeI (nextI b) (below - nextI b).toNat).flatMap (fun i => setsS below k (b ++ [i]))
theorem nextI_snoc (b : List Int) (i : Int) : nextI (b ++ [i]) = i + 1 := by
  unfold nextI; simp [List.getD_eq_getElem?_getD]
end Go.Proofs.Ytnekemldcjegaaa.Aw

/- Contracts of the reference: the fewest measurings that must be wrong. -/
namespace Go.Proofs.Ytnekemldcjegaaa.Aw
open Go Go.RowKit Go.Proofs
set_option maxRecDepth 100000
set_option maxHeartbeats 4000000
set_option linter.unusedSimpArgs false
set_option linter.unusedVariables false
def wrongFrom (f : List Int → Bool) (n : Int) : Nat → Int → List Int
  | 0, _ => rangeI 0 n.toNat
  | k + 1, many => match (setsS n many.toNat []).find? f with
    | some s => s
    | none => wrongFrom f n k (many + 1)
def rWrongL (ts : List Track) (ms : List Meas) : List Int := wrongFrom (fun s => rTrueB ts ms (fun i => s.contains i)) ms.length ms.length 0
end Go.Proofs.Ytnekemldcjegaaa.Aw

/- Plain: the fewest measurings that must be wrong. -/
namespace Go.Proofs.Ytnekemldcjegaaa.Aw
open Go Go.RowKit Go.Proofs
set_option linter.unusedSimpArgs false
set_option linter.unusedVariables false
/-! The order of lists. -/
theorem cmpL_refl : ∀ a : List Int, cmpL a a = 0
  | [] => rfl
  | x :: r => by simp only [cmpL]; rw [if_neg (by omega), if_neg (by omega)]; exact cmpL_refl r
theorem cmpL_anti : ∀ {a b : List Int}, cmpL a b ≤ 0 → cmpL b a ≤ 0 → a = b
  | [], [], _, _ => rfl
  | [], y :: s, _, h => by simp [cmpL] at h
  | x :: r, [], h, _ => by simp [cmpL] at h
  | x :: r, y :: s, h1, h2 => by
    simp only [cmpL] at h1 h2
    by_cases a : x < y
    · rw [if_neg (by omega), if_pos (by omega)] at h2; omega
    · rw [if_neg a] at h1
      by_cases b : x > y
      · rw [if_pos b] at h1; omega
      · rw [if_neg b] at h1
        rw [if_neg (by omega), if_neg (by omega)] at h2
        rw [show x = y from by omega, cmpL_anti h1 h2]
theorem cmpL_trans : ∀ {a b c : List Int}, cmpL a b ≤ 0 → cmpL b c ≤ 0 → cmpL a c ≤ 0
  | [], _, [], _, _ => by simp [cmpL]
  | [], _, _ :: _, _, _ => by simp [cmpL]
  | x :: r, [], _, h, _ => by simp [cmpL] at h
  | x :: r, y :: s, [], _, h => by simp [cmpL] at h
  | x :: r, y :: s, z :: t, h1, h2 => by
    simp only [cmpL] at *
    by_cases a : x < y
    · by_cases b : y < z
      · rw [if_pos (by omega)]; omega
      · rw [if_neg b] at h2
        by_cases c : y > z
        · rw [if_pos c] at h2; omega
        · rw [if_pos (by omega)]; omega
    · rw [if_neg a] at h1
      by_cases b : x > y
      · rw [if_pos b] at h1; omega
      · rw [if_neg b] at h1
        by_cases c : y < z
        · rw [if_pos (by omega)]; omega
        · rw [if_neg c] at h2
          by_cases d : y > z
          · rw [if_pos d] at h2; omega
          · rw [if_neg d] at h2
            rw [if_neg (by omega), if_neg (by omega)]
            exact cmpL_trans h1 h2
theorem cmpL_flip : ∀ {a b : List Int}, cmpL a b > 0 → cmpL b a ≤ 0
  | [], [], h => by simp [cmpL] at h
  | [], y :: s, h => by simp [cmpL] at h
  | x :: r, [], h => by simp [cmpL]
  | x :: r, y :: s, h => by
    simp only [cmpL] at *
    by_cases a : x < y
    · rw [if_pos a] at h; omega
    · rw [if_neg a] at h
      by_cases b : x > y
      · rw [if_pos (by omega)]; omega
      · rw [if_neg b] at h
        rw [if_neg (by omega), if_neg (by omega)]
        exact cmpL_flip h
theorem cmpL_app : ∀ (b x y : List Int), cmpL (b ++ x) (b ++ y) = cmpL x y
  | [], _, _ => rfl
  | z :: b, x, y => by simp only [List.cons_append, cmpL]; rw [if_neg (by omega), if_neg (by omega)]; exact cmpL_app b x y
def leS (a b : List Int) : Prop := a.length < b.length ∨ (a.length = b.length ∧ cmpL a b ≤ 0)
theorem leS_anti {a b : List Int} (h1 : leS a b) (h2 : leS b a) : a = b := by
  unfold leS at *
  rcases h1 with h1 | ⟨h1, h3⟩ <;> rcases h2 with h2 | ⟨h2, h4⟩
  · omega
  · omega
  · omega
  · exact cmpL_anti h3 h4
theorem leS_trans {a b c : List Int} (h1 : leS a b) (h2 : leS b c) : leS a c := by
  unfold leS at *
  rcases h1 with h1 | ⟨h1, h3⟩ <;> rcases h2 with h2 | ⟨h2, h4⟩
  · left; omega
  · left; omega
  · left; omega
  · exact .inr ⟨by omega, cmpL_trans h3 h4⟩
theorem leS_refl (a : List Int) : leS a a := .inr ⟨rfl, by rw [cmpL_refl]; omega⟩
/-! Ascending sets of numbers below n. -/
def Asc (n : Int) (l : List Int) : Prop := l.Pairwise (· < ·) ∧ ∀ x ∈ l, 0 ≤ x ∧ x < n
theorem setN_asc (bits : Int) : ∀ n : Nat, Asc n (setN bits n)
  | 0 => ⟨by simp [setN], by simp [setN]⟩
  | n + 1 => by
    obtain ⟨h1, h2⟩ := setN_asc bits n
    simp only [setN]
    split
    · refine ⟨List.pairwise_append.2 ⟨h1, by simp, fun a ha b hb => ?_⟩, fun x hx => ?_⟩
      · simp at hb; have := h2 a ha; omega
      · rcases List.mem_append.1 hx with hx | hx
        · have := h2 x hx; omega
        · simp at hx; omega
    · rw [List.append_nil]
      exact ⟨h1, fun x hx => by have := h2 x hx; omega⟩
theorem setN_mem {bits : Int} : ∀ {n : Nat} {i : Int}, i ∈ setN bits n ↔ (0 ≤ i ∧ i < n) ∧ bitB bits i = true
  | 0, i => by simp only [setN, List.not_mem_nil, false_iff]; omega
  | n + 1, i => by
    simp only [setN, List.mem_append, setN_mem (n := n)]
    constructor
    · rintro (⟨h, hb⟩ | h)
      · exact ⟨by omega, hb⟩
      · split at h
        · rename_i hb
          simp at h; subst h; exact ⟨by omega, hb⟩
        · cases h
    · rintro ⟨h, hb⟩
      by_cases e : i = n
      · subst e; right; rw [if_pos hb]; simp
      · exact .inl ⟨by omega, hb⟩
theorem setN_congr {a b : Int} : ∀ {n : Nat}, (∀ i : Nat, i < n → bitB a i = bitB b i) → setN a n = setN b n
  | 0, _ => rfl
  | n + 1, h => by simp only [setN, setN_congr (n := n) (fun i hi => h i (by omega)), h n (by omega)]
theorem setN_surj : ∀ (n : Nat) (l : List Int), Asc n l → ∃ bits : Nat, bits < 2 ^ n ∧ setN bits n = l
  | 0, l, h => by
    cases l with
    | nil => exact ⟨0, by simp, rfl⟩
    | cons x q => have := h.2 x (by simp); omega
  | n + 1, l, h => by
    obtain ⟨hp, hm⟩ := h
    by_cases hn : (n : Int) ∈ l
    · rcases List.eq_nil_or_concat l with rfl | ⟨L, x, rfl⟩
      · cases hn
      · rw [List.concat_eq_append] at *
        obtain ⟨p1, p2, p3⟩ := List.pairwise_append.1 hp
        have hx : x = n := by
          rcases List.mem_append.1 hn with h | h
          · have h1 := p3 _ h x (by simp)
            have := hm x (by simp)
            omega
          · simp at h; omega
        subst hx
        obtain ⟨bits, b1, b2⟩ := setN_surj n L ⟨p1, fun y hy => by have := p3 y hy n (by simp); have := hm y (by simp [hy]); omega⟩
        refine ⟨bits ||| 2 ^ n, ?_, ?_⟩
        · exact Nat.or_lt_two_pow (by rw [Nat.pow_succ]; omega) (by rw [Nat.pow_succ]; have := Nat.two_pow_pos n; omega)
        · simp only [setN]
          rw [setN_congr (b := (bits : Int)) (fun i hi => ?_), b2, if_pos]
          · simp only [bitB, Int.toNat_natCast, Nat.testBit_or, Nat.testBit_two_pow]; simp
          · simp only [bitB, Int.toNat_natCast, Nat.testBit_or, Nat.testBit_two_pow]
            have : ¬ n = i := by omega
            simp [this]
    · obtain ⟨bits, b1, b2⟩ := setN_surj n l ⟨hp, fun y hy => by
        have := hm y hy
        have : y ≠ n := fun e => hn (e ▸ hy)
        omega⟩
      refine ⟨bits, by rw [Nat.pow_succ]; omega, ?_⟩
      simp only [setN, b2]
      rw [if_neg, List.append_nil]
      simp only [bitB, Int.toNat_natCast, Nat.testBit_lt_two_pow b1, Bool.false_eq_true, not_false_eq_true]
theorem mem_rangeI {i : Int} : ∀ {n : Nat} {a : Int}, i ∈ rangeI a n ↔ a ≤ i ∧ i < a + n
  | 0, a => by simp only [rangeI, List.not_mem_nil, false_iff]; omega
  | n + 1, a => by
    simp only [rangeI, List.mem_cons, mem_rangeI (n := n)]; omega
theorem rangeI_sorted : ∀ (n : Nat) (a : Int), (rangeI a n).Pairwise (· < ·)
  | 0, a => by simp [rangeI]
  | n + 1, a => by
    simp only [rangeI, List.pairwise_cons]
    exact ⟨fun x hx => by have := mem_rangeI.1 hx; omega, rangeI_sorted n (a + 1)⟩
theorem asc_len : ∀ (k : Nat) (a : Int) (l : List Int), l.Pairwise (· < ·) → (∀ x ∈ l, a ≤ x ∧ x < a + k) → l.length ≤ k
  | k, a, [], _, _ => Nat.zero_le _
  | 0, a, x :: l, _, h => by have := h x (by simp); omega
  | k + 1, a, x :: l, hp, h => by
    rw [List.pairwise_cons] at hp
    have := asc_len k (a + 1) l hp.2 (fun y hy => by have := hp.1 y hy; have := h x (by simp); have := h y (by simp [hy]); omega)
    simp only [List.length_cons]; omega
theorem asc_full : ∀ (k : Nat) (a : Int) (l : List Int), l.Pairwise (· < ·) → (∀ x ∈ l, a ≤ x ∧ x < a + k) → l.length = k → l = rangeI a k
  | 0, a, l, _, _, h => List.eq_nil_of_length_eq_zero h
  | k + 1, a, [], _, _, h => by simp at h
  | k + 1, a, x :: l, hp, h, hl => by
    rw [List.pairwise_cons] at hp
    have hin : ∀ y ∈ l, a + 1 ≤ y ∧ y < a + 1 + k := fun y hy => by have := hp.1 y hy; have := h x (by simp); have := h y (by simp [hy]); omega
    have := asc_full k (a + 1) l hp.2 hin (by simpa using hl)
    have hx : x = a := by
      cases hk : l with
      | nil => have := h x (by simp); rw [hk] at hl; simp at hl; omega
      | cons y q =>
        have h1 := hp.1 y (by rw [hk]; simp)
        have h2 := h x (by simp)
        rw [this] at hk
        cases k with
        | zero => simp [rangeI] at hk
        | succ k => simp only [rangeI, List.cons.injEq] at hk; omega
    rw [this, hx]; rfl
theorem setsS_mem {n : Int} : ∀ {k : Nat} {b l : List Int}, 0 ≤ nextI b → (l ∈ setsS n k b ↔ ∃ e : List Int, l = b ++ e ∧ e.length = k ∧ e.Pairwise (· < ·) ∧ ∀ x ∈ e, nextI b ≤ x ∧ x < n)
  | 0, b, l, _ => by
    simp only [setsS, List.mem_singleton]
    constructor
    · rintro rfl; exact ⟨[], by simp⟩
    · rintro ⟨e, h1, h2, _⟩
      have := List.eq_nil_of_length_eq_zero h2
      subst this; simpa using h1
  | k + 1, b, l, h0 => by
    simp only [setsS, List.mem_flatMap, mem_rangeI]
    constructor
    · rintro ⟨i, hi, h⟩
      obtain ⟨e, e1, e2, e3, e4⟩ := (setsS_mem (by rw [nextI_snoc]; omega)).1 h
      rw [nextI_snoc] at e4
      refine ⟨i :: e, by rw [e1, List.append_assoc]; rfl, by simp [e2], List.pairwise_cons.2 ⟨fun x hx => by have := e4 x hx; omega, e3⟩, fun x hx => ?_⟩
      rcases List.mem_cons.1 hx with rfl | hx
      · omega
      · have := e4 x hx; omega
    · rintro ⟨e, e1, e2, e3, e4⟩
      cases e with
      | nil => simp at e2
      | cons i e =>
        rw [List.pairwise_cons] at e3
        have hi := e4 i (by simp)
        refine ⟨i, by omega, (setsS_mem (by rw [nextI_snoc]; omega)).2 ⟨e, by rw [e1, List.append_assoc]; rfl, by simpa using e2, e3.2, fun x hx => ?_⟩⟩
        rw [nextI_snoc]
        have := e3.1 x hx; have := e4 x (by simp [hx]); omega
theorem setsS_sorted {n : Int} : ∀ (k : Nat) (b : List Int), 0 ≤ nextI b → (setsS n k b).Pairwise (fun x y => cmpL x y ≤ 0)
  | 0, b, _ => by simp [setsS]
  | k + 1, b, h0 => by
    simp only [setsS]
    rw [List.pairwise_flatMap]
    refine ⟨fun i hi => setsS_sorted k _ (by rw [nextI_snoc]; have := mem_rangeI.1 hi; omega), ?_⟩
    refine (List.pairwise_iff_forall_sublist.2 ?_)
    intro i j hs x hx y hy
    have hlt : i < j := (List.pairwise_iff_forall_sublist.1 (rangeI_sorted _ _)) hs
    have hi := mem_rangeI.1 (hs.subset (by simp : i ∈ [i, j]))
    obtain ⟨e, e1, _⟩ := (setsS_mem (by rw [nextI_snoc]; omega)).1 hx
    obtain ⟨g, g1, _⟩ := (setsS_mem (by rw [nextI_snoc]; omega)).1 hy
    rw [e1, g1, List.append_assoc, List.append_assoc, cmpL_app]
    simp only [List.singleton_append, cmpL]
    rw [if_pos hlt]; omega
theorem find_first {f : List Int → Bool} : ∀ {l : List (List Int)} {s : List Int}, l.Pairwise (fun x y => cmpL x y ≤ 0) → l.find? f = some s → f s = true ∧ s ∈ l ∧ ∀ t ∈ l, f t = true → cmpL s t ≤ 0
  | [], s, _, h => by simp at h
  | a :: l, s, hp, h => by
    rw [List.pairwise_cons] at hp
    rw [List.find?_cons] at h
    cases hf : f a with
    | true =>
      rw [hf] at h
      simp only [Option.some.injEq] at h
      subst h
      refine ⟨hf, by simp, fun t ht _ => ?_⟩
      rcases List.mem_cons.1 ht with rfl | ht
      · rw [cmpL_refl]; omega
      · exact hp.1 t ht
    | false =>
      rw [hf] at h
      obtain ⟨h1, h2, h3⟩ := find_first hp.2 h
      refine ⟨h1, by simp [h2], fun t ht hft => ?_⟩
      rcases List.mem_cons.1 ht with rfl | ht
      · rw [hf] at hft; cases hft
      · exact h3 t ht hft
/-- The least set of m numbers or more for which it is so. -/
def IsMin (f : List Int → Bool) (n : Int) (m : Nat) (s : List Int) : Prop := Asc n s ∧ f s = true ∧ ∀ t, Asc n t → m ≤ t.length → f t = true → leS s t
theorem wrongFrom_min {f : List Int → Bool} {n : Nat} (hfull : f (rangeI 0 n) = true) : ∀ (k m : Nat), m + k = n → IsMin f n m (wrongFrom f n k m)
  | 0, m, h => by
    simp only [wrongFrom, Int.toNat_natCast]
    refine ⟨⟨rangeI_sorted _ _, fun x hx => by have := mem_rangeI.1 hx; omega⟩, hfull, fun t ht hl _ => ?_⟩
    have h1 := asc_len n 0 t ht.1 (fun x hx => by have := ht.2 x hx; omega)
    have := asc_full n 0 t ht.1 (fun x hx => by have := ht.2 x hx; omega) (by omega)
    rw [this]; exact leS_refl _
  | k + 1, m, h => by
    simp only [wrongFrom, Int.toNat_natCast]
    have hmem : ∀ t, Asc n t → t.length = m → t ∈ setsS n m [] := fun t ht hl => (setsS_mem (by simp [nextI])).2 ⟨t, by simp, hl, ht.1, fun x hx => by have := ht.2 x hx; simp [nextI]; omega⟩
    split
    · rename_i s hs
      obtain ⟨h1, h2, h3⟩ := find_first (setsS_sorted m [] (by simp [nextI])) hs
      obtain ⟨e, e1, e2, e3, e4⟩ := (setsS_mem (by simp [nextI])).1 h2
      rw [List.nil_append] at e1
      subst e1
      refine ⟨⟨e3, fun x hx => by have := e4 x hx; simp [nextI] at this; omega⟩, h1, fun t ht hl hft => ?_⟩
      by_cases hm : t.length = m
      · exact .inr ⟨by omega, h3 t (hmem t ht hm) hft⟩
      · exact .inl (by omega)
    · rename_i hs
      have hs := List.find?_eq_none.1 hs
      obtain ⟨h1, h2, h3⟩ := wrongFrom_min hfull k (m + 1) (by omega)
      have e : ((m + 1 : Nat) : Int) = (m : Int) + 1 := by omega
      rw [e] at h1 h2 h3
      refine ⟨h1, h2, fun t ht hl hft => ?_⟩
      by_cases hm : t.length = m
      · exact absurd hft (hs t (hmem t ht hm))
      · exact h3 t ht (by omega) hft
theorem skip_eq {ts : List Track} {ms : List Meas} {bits : Int} (hck : check ts ms = 0) : isTrueB ts ms (bitB bits) = rTrueB ts ms (fun i => (setN bits ms.length).contains i) := by
  rw [← isTrue_eq hck]
  refine isTrueB_congr (fun j h0 h1 => ?_)
  rw [Bool.eq_iff_iff, List.contains_iff_mem, setN_mem]
  exact ⟨fun h => ⟨⟨h0, h1⟩, h⟩, fun h => h.2⟩
theorem wrongTo_min {ts : List Track} {ms : List Meas} (hck : check ts ms = 0) : ∀ N : Nat,
    match wrongTo ts ms N with
    | none => ∀ j : Nat, j < N → isTrueB ts ms (bitB j) = false
    | some s => (∃ j : Nat, j < N ∧ s = setN j ms.length ∧ isTrueB ts ms (bitB j) = true) ∧ ∀ j : Nat, j < N → isTrueB ts ms (bitB j) = true → leS s (setN j ms.length)
  | 0 => by simp [wrongTo]
  | N + 1 => by
    have ih := wrongTo_min hck N
    simp only [wrongTo]
    cases hw : wrongTo ts ms N with
    | none =>
      rw [hw] at ih
      simp only at ih
      simp only [stepW]
      by_cases ht : isTrueB ts ms (bitB N) = true
      · rw [if_pos ht]
        refine ⟨⟨N, by omega, rfl, ht⟩, fun j hj hjt => ?_⟩
        by_cases e : j = N
        · subst e; exact leS_refl _
        · rw [ih j (by omega)] at hjt; cases hjt
      · rw [if_neg ht]
        intro j hj
        by_cases e : j = N
        · subst e; simpa using ht
        · exact ih j (by omega)
    | some b =>
      rw [hw] at ih
      simp only at ih
      obtain ⟨⟨j0, k1, k2, k3⟩, k4⟩ := ih
      simp only [stepW]
      by_cases hc : (setN N ms.length).length > b.length ∨ ((setN N ms.length).length = b.length ∧ cmpL (setN N ms.length) b > 0)
      · rw [if_pos hc]
        refine ⟨⟨j0, by omega, k2, k3⟩, fun j hj hjt => ?_⟩
        by_cases e : j = N
        · subst e
          rcases hc with hc | ⟨hc, hd⟩
          · exact .inl hc
          · exact .inr ⟨hc.symm, cmpL_flip hd⟩
        · exact k4 j (by omega) hjt
      · rw [if_neg hc]
        have hle : leS (setN N ms.length) b := by
          unfold leS
          by_cases h1 : (setN N ms.length).length < b.length
          · exact .inl h1
          · exact .inr ⟨by omega, by
              have : ¬ cmpL (setN N ms.length) b > 0 := fun h => hc (.inr ⟨by omega, h⟩)
              omega⟩
        by_cases ht : isTrueB ts ms (bitB N) = true
        · rw [if_pos ht]
          refine ⟨⟨N, by omega, rfl, ht⟩, fun j hj hjt => ?_⟩
          by_cases e : j = N
          · subst e; exact leS_refl _
          · exact leS_trans hle (k4 j (by omega) hjt)
        · rw [if_neg ht]
          refine ⟨⟨j0, by omega, k2, k3⟩, fun j hj hjt => ?_⟩
          by_cases e : j = N
          · subst e; exact absurd hjt ht
          · exact k4 j (by omega) hjt
theorem okL_skip {w : Int} {has : Int → Bool} {x r : Int} : ∀ {ms : List Meas} {i : Int} {ok : Bool}, (∀ j : Int, i ≤ j → j < i + ms.length → has j = true) → okL w has x r ms i ok = ok
  | [], i, ok, _ => rfl
  | m :: q, i, ok, h => by
    simp only [okL]
    rw [if_neg (fun hh => by have := h i (Int.le_refl _) (by simp only [List.length_cons]; omega); rw [this] at hh; cases hh.2)]
    exact okL_skip (fun j h1 h2 => h j (by omega) (by simp only [List.length_cons]; omega))
theorem full_true {ts : List Track} {ms : List Meas} (hck : check ts ms = 0) : rTrueB ts ms (fun i => (rangeI 0 ms.length).contains i) = true := by
  obtain ⟨g1, g2, g3, g4⟩ := check_zero hck
  have key : ∀ w : Int, 0 ≤ w → w ≤ 2 → hasTru (truW ts ms (fun i => (rangeI 0 ms.length).contains i) w) = true := fun w h0 h1 => by
    have ht := getD_ok g1 g2 h0 h1
    obtain ⟨t1, t2, t3, t4, t5, t6⟩ := ht
    have hm : (⟨(ts.getD w.toNat track0).first.low, (ts.getD w.toNat track0).rate.low⟩ : Tru) ∈ truW ts ms (fun i => (rangeI 0 ms.length).contains i) w := by
      unfold truW truT
      rw [mem_truX]
      refine ⟨⟨Int.le_refl _, by simp only; omega⟩, ⟨Int.le_refl _, by simp only; omega⟩, okL_skip (fun j h1 h2 => ?_)⟩
      rw [List.contains_iff_mem, mem_rangeI]; omega
    have := List.length_pos_of_mem hm
    simp only [hasTru, decide_eq_true_eq]; omega
  unfold rTrueB
  rw [key 0 (by omega) (by omega), key 1 (by omega) (by omega), key 2 (by omega) (by omega)]; rfl
theorem wrong_eq {ts : List Track} {ms : List Meas} (hck : check ts ms = 0) : wrongTo ts ms (2 ^ ms.length) = some (rWrongL ts ms) := by
  have hr := wrongFrom_min (f := fun s => rTrueB ts ms (fun i => s.contains i)) (n := ms.length) (full_true hck) ms.length 0 (by omega)
  obtain ⟨r1, r2, r3⟩ := (hr : IsMin _ _ _ (rWrongL ts ms))
  have hw := wrongTo_min hck (2 ^ ms.length)
  obtain ⟨j0, b1, b2⟩ := setN_surj ms.length (rWrongL ts ms) r1
  have hj0 : isTrueB ts ms (bitB j0) = true := by rw [skip_eq hck, b2]; exact r2
  cases hh : wrongTo ts ms (2 ^ ms.length) with
  | none =>
    rw [hh] at hw
    have := hw j0 b1
    rw [hj0] at this; cases this
  | some s =>
    rw [hh] at hw
    obtain ⟨⟨j, k1, k2, k3⟩, k4⟩ := hw
    have h1 : leS s (rWrongL ts ms) := by rw [← b2]; exact k4 j0 b1 hj0
    have h2 : leS (rWrongL ts ms) s := r3 s (by rw [k2]; exact setN_asc _ _) (Nat.zero_le _) (by rw [k2]; show rTrueB ts ms (fun i => (setN j ms.length).contains i) = true; rw [← skip_eq hck]; exact k3)
    rw [leS_anti h1 h2]
end Go.Proofs.Ytnekemldcjegaaa.Aw

/- Plain: ClothBad. -/
namespace Go.Proofs.Ytnekemldcjegaaa.Aw
open Go Go.RowKit Go.Proofs
set_option linter.unusedSimpArgs false
set_option linter.unusedVariables false
/-! Truths, without some measurings. -/
def nearAt (w x r : Int) (m : Meas) : Prop := m.what = w → nearB (aft x r m.hour.toNat) m.reading m.off = true
theorem okL_iff {w : Int} {has : Int → Bool} {x r : Int} : ∀ {ms : List Meas} {i : Int} {ok : Bool}, okL w has x r ms i ok = true ↔ ok = true ∧ ∀ j : Nat, j < ms.length → has (i + j) = false → nearAt w x r (ms.getD j meas0)
  | [], i, ok => by simp [okL]
  | m :: q, i, ok => by
    simp only [okL]
    rw [okL_iff]
    have key : ((if m.what = w ∧ has i = false then ok && nearB (aft x r m.hour.toNat) m.reading m.off else ok) = true) ↔ ok = true ∧ (has i = false → nearAt w x r m) := by
      unfold nearAt
      by_cases h1 : m.what = w
      · cases h2 : has i <;> simp [h1]
      · simp [h1]
    rw [key]
    constructor
    · rintro ⟨⟨h1, h2⟩, h3⟩
      refine ⟨h1, fun j hj hh => ?_⟩
      cases j with
      | zero => exact h2 (by simpa using hh)
      | succ j => exact h3 j (by simpa using hj) (by rw [show i + 1 + (j : Int) = i + ((j + 1 : Nat) : Int) from by omega]; exact hh)
    · rintro ⟨h1, h2⟩
      exact ⟨⟨h1, fun hh => h2 0 (by simp) (by simpa using hh)⟩, fun j hj hh => h2 (j + 1) (by simpa using hj) (by rw [show i + ((j + 1 : Nat) : Int) = i + 1 + (j : Int) from by omega]; exact hh)⟩
def inT (t : Track) (s : Tru) : Prop := (t.first.low ≤ s.first ∧ s.first < t.first.low + (t.first.high + 1 - t.first.low).toNat) ∧ t.rate.low ≤ s.rate ∧ s.rate < t.rate.low + (t.rate.high + 1 - t.rate.low).toNat
def Fit3 (ts : List Track) (ms : List Meas) (has : Int → Bool) : Prop := ∀ w : Int, 0 ≤ w → w ≤ 2 → ∃ s : Tru, inT (ts.getD w.toNat track0) s ∧ ∀ j : Nat, j < ms.length → has j = false → nearAt w s.first s.rate (ms.getD j meas0)
theorem fit3_iff {ts : List Track} {ms : List Meas} {has : Int → Bool} : rTrueB ts ms has = true ↔ Fit3 ts ms has := by
  have key : ∀ w : Int, hasTru (truW ts ms has w) = true ↔ ∃ s : Tru, inT (ts.getD w.toNat track0) s ∧ ∀ j : Nat, j < ms.length → has j = false → nearAt w s.first s.rate (ms.getD j meas0) := fun w => by
    have e : hasTru (truW ts ms has w) = true ↔ ∃ s, s ∈ truW ts ms has w := by
      simp only [hasTru, decide_eq_true_eq]
      rw [← List.length_pos_iff_exists_mem]; omega
    rw [e]
    unfold truW truT
    constructor
    · rintro ⟨s, hs⟩
      rw [mem_truX] at hs
      refine ⟨s, ⟨hs.1, hs.2.1⟩, fun j hj hh => (okL_iff.1 hs.2.2).2 j hj (by simpa using hh)⟩
    · rintro ⟨s, h1, h2⟩
      exact ⟨s, mem_truX.2 ⟨h1.1, h1.2, okL_iff.2 ⟨rfl, fun j hj hh => h2 j hj (by simpa using hh)⟩⟩⟩
  unfold rTrueB Fit3
  rw [Bool.and_eq_true, Bool.and_eq_true, key, key, key]
  constructor
  · rintro ⟨h0, h1, h2⟩ w w0 w1
    have : w = 0 ∨ w = 1 ∨ w = 2 := by omega
    rcases this with rfl | rfl | rfl
    · exact h0
    · exact h1
    · exact h2
  · intro h
    exact ⟨h 0 (by omega) (by omega), h 1 (by omega) (by omega), h 2 (by omega) (by omega)⟩
/-- Some of the measurings. -/
def restL (keep : Int → Bool) (M : List Meas) : Nat → List Meas
  | 0 => []
  | n + 1 => restL keep M n ++ (if keep n = true then [M.getD n meas0] else [])
theorem restL_mem {keep : Int → Bool} {M : List Meas} {m : Meas} : ∀ {n : Nat}, m ∈ restL keep M n ↔ ∃ j : Nat, j < n ∧ keep j = true ∧ m = M.getD j meas0
  | 0 => by simp [restL]
  | n + 1 => by
    simp only [restL, List.mem_append, restL_mem (n := n)]
    constructor
    · rintro (⟨j, h1, h2, h3⟩ | h)
      · exact ⟨j, by omega, h2, h3⟩
      · split at h
        · rename_i hk
          exact ⟨n, by omega, hk, by simpa using h⟩
        · cases h
    · rintro ⟨j, h1, h2, h3⟩
      by_cases e : j = n
      · subst e; right; rw [if_pos h2]; simp [h3]
      · exact .inl ⟨j, by omega, h2, h3⟩
theorem restL_len {keep : Int → Bool} {M : List Meas} : ∀ {n : Nat}, (restL keep M n).length ≤ n
  | 0 => by simp [restL]
  | n + 1 => by
    have := restL_len (keep := keep) (M := M) (n := n)
    simp only [restL, List.length_append]
    split <;> simp <;> omega
theorem rest_true {ts : List Track} {M : List Meas} {keep : Int → Bool} : rTrueB ts (restL keep M M.length) noSkip = rTrueB ts M (fun i => !keep i) := by
  rw [Bool.eq_iff_iff, fit3_iff, fit3_iff]
  have key : ∀ P : Meas → Prop, (∀ j : Nat, j < (restL keep M M.length).length → noSkip j = false → P ((restL keep M M.length).getD j meas0)) ↔ ∀ j : Nat, j < M.length → (!keep j) = false → P (M.getD j meas0) := fun P => by
    constructor
    · intro h j hj hk
      have hm : M.getD j meas0 ∈ restL keep M M.length := restL_mem.2 ⟨j, hj, by simpa using hk, rfl⟩
      obtain ⟨i, hi, he⟩ := List.mem_iff_getElem.1 hm
      have := h i hi rfl
      rw [List.getD_eq_getElem?_getD, List.getElem?_eq_getElem hi] at this
      simp only [Option.getD_some, he] at this
      exact this
    · intro h j hj _
      have hm : (restL keep M M.length).getD j meas0 ∈ restL keep M M.length := by
        rw [List.getD_eq_getElem?_getD, List.getElem?_eq_getElem hj]; exact List.getElem_mem hj
      obtain ⟨i, h1, h2, h3⟩ := restL_mem.1 hm
      rw [h3]
      exact h i h1 (by simp [h2])
  unfold Fit3
  constructor
  · intro h w w0 w1
    obtain ⟨s, h1, h2⟩ := h w w0 w1
    exact ⟨s, h1, (key _).1 h2⟩
  · intro h w w0 w1
    obtain ⟨s, h1, h2⟩ := h w w0 w1
    exact ⟨s, h1, (key _).2 h2⟩
theorem true_mono {ts : List Track} {ms : List Meas} {f g : Int → Bool} (h : ∀ j : Nat, j < ms.length → f j = true → g j = true) (ht : rTrueB ts ms f = true) : rTrueB ts ms g = true := by
  rw [fit3_iff] at ht ⊢
  intro w w0 w1
  obtain ⟨s, h1, h2⟩ := ht w w0 w1
  exact ⟨s, h1, fun j hj hg => h2 j hj (by
    cases hf : f j with
    | false => rfl
    | true => rw [h j hj hf] at hg; cases hg)⟩
/-! Maps of numbers. -/
theorem mfind_set {ν : Type} {k i : Int} {v : ν} : ∀ {l : List (Int × ν)}, (mfind (mset l k v) i).isSome = (i == k || (mfind l i).isSome)
  | [] => by
    simp only [mset, mfind]
    by_cases h : i = k <;> simp [h]
  | p :: r => by
    simp only [mset]
    by_cases h : k = p.1
    · rw [if_pos (by simp [h])]
      simp only [mfind]
      by_cases h2 : i = p.1
      · subst h; simp [h2]
      · have : ¬ i = k := fun e => h2 (e.trans h)
        simp [h2, this]
    · rw [if_neg (by simp [h])]
      simp only [mfind]
      by_cases h2 : i = p.1
      · simp [h2]
      · simp [h2, mfind_set (l := r)]
theorem mset_len {ν : Type} {k : Int} {v : ν} : ∀ {l : List (Int × ν)}, (mset l k v).length = if (mfind l k).isSome = true then l.length else l.length + 1
  | [] => by simp [mset, mfind]
  | p :: r => by
    simp only [mset, mfind]
    by_cases h : k = p.1
    · simp [h]
    · simp only [beq_iff_eq, h, if_false, List.length_cons, mset_len (l := r)]
      split <;> rfl
theorem filt_len {p : Int → Bool} {k : Int} : ∀ {L : List Int}, L.Pairwise (· < ·) → (L.filter (fun i => i == k || p i)).length ≤ (L.filter p).length + 1
  | [], _ => by simp
  | a :: r, h => by
    rw [List.pairwise_cons] at h
    by_cases e : a = k
    · have : r.filter (fun i => i == k || p i) = r.filter p := List.filter_congr (fun x hx => by
        have := h.1 x hx
        have : ¬ x = k := by omega
        simp [this])
      rw [List.filter_cons, if_pos (by simp [e]), List.length_cons, this, List.filter_cons]
      split <;> simp
    · have := filt_len (p := p) (k := k) h.2
      rw [List.filter_cons, List.filter_cons]
      simp only [beq_iff_eq, e, Bool.or_eq_true, false_or]
      split <;> simp_all
/-- How many are marked. -/
def marked (n : Nat) (m : List (Int × Bool)) : List Int := (rangeI 0 n).filter (fun i => (mfind m i).isSome)
theorem marked_set {n : Nat} {m : List (Int × Bool)} {k : Int} (h : (marked n m).length ≤ m.length) : (marked n (mset m k true)).length ≤ (mset m k true).length := by
  have e : marked n (mset m k true) = (rangeI 0 n).filter (fun i => i == k || (mfind m i).isSome) := by
    unfold marked
    exact List.filter_congr (fun x _ => mfind_set)
  rw [e, mset_len]
  split
  · rename_i hk
    have : (rangeI 0 n).filter (fun i => i == k || (mfind m i).isSome) = marked n m := List.filter_congr (fun x _ => by
      by_cases e : x = k
      · subst e; simp [hk]
      · simp [e])
    rw [this]; exact h
  · have := filt_len (p := fun i => (mfind m i).isSome) (k := k) (rangeI_sorted n 0)
    unfold marked at h
    omega
theorem marked_asc (n : Nat) (m : List (Int × Bool)) : Asc n (marked n m) :=
  ⟨(rangeI_sorted n 0).filter _, fun x hx => by have := mem_rangeI.1 (List.mem_filter.1 hx).1; omega⟩
/-! The loops. -/
theorem has_eq (N : Nat) (hN : 2000000 ≤ N) {l : List Int} {n : Int} (hl : l.length ≤ 8) : m_law01_has N l n = some (l.contains n) := by
  unfold m_law01_has
  obtain ⟨q, hq, hp⟩ := loopO_of (step := m_law01_has_L1 N l n) (fun i => 0 ≤ i ∧ i ≤ l.length ∧ l.contains n = (l.drop i.toNat).contains n) (fun i => (l.length - i).toNat) (fun q => q = if l.contains n = true then .inl () else .inr ()) (fun i hi => by
    obtain ⟨i0, i1, i2⟩ := hi
    by_cases hc : i < (l.length : Int)
    · have hlt : i.toNat < l.length := by omega
      have hget : l.getD i.toNat 0 = l[i.toNat] := by simp [List.getD_eq_getElem?_getD, hlt]
      rw [List.drop_eq_getElem_cons hlt, ← hget, List.contains_cons] at i2
      simp only [m_law01_has_L1, icmp_lss, decide_eq_true_eq, getO_of (d := 0) i0 hc, bindS, icmp_eql]
      rw [if_pos hc]
      by_cases e : l.getD i.toNat 0 = n
      · right; rw [if_pos e]; exact ⟨_, rfl, by rw [i2, beq_iff_eq.2 e.symm]; simp⟩
      · left
        rw [if_neg e, addW (by omega)]
        refine ⟨i + 1, rfl, ⟨by omega, by omega, ?_⟩, by omega⟩
        have : ¬ n = l.getD i.toNat 0 := fun h => e h.symm
        rw [i2, show (i + 1).toNat = i.toNat + 1 from by omega, beq_eq_false_iff_ne.2 this, Bool.false_or]
    · right
      simp only [m_law01_has_L1, icmp_lss, decide_eq_true_eq]
      rw [if_neg hc]
      refine ⟨_, rfl, ?_⟩
      rw [i2, List.drop_eq_nil_of_le (by omega)]; simp) N 0 ⟨by omega, by omega, by simp⟩ (by omega)
  rw [hq, hp, bindS]
  cases l.contains n <;> rfl
def keepB (l : List Int) (k : Int) (i : Int) : Bool := !l.contains i || (decide (k ≥ 0) && decide (l.getD k.toNat 0 = i))
theorem bad_L3 (N : Nat) (hN : 2000000 ≤ N) {M : List Meas} {l : List Int} {e k : Int} (hM : M.length ≤ 8) (hl : l.length ≤ 8) (hk : k < l.length) :
    loopO (m_law01_ClothBad1_L3 N M (l, e) k) N (0, []) = some (restL (keepB l k) M M.length) := by
  obtain ⟨q, hq, hp⟩ := loopO_of (step := m_law01_ClothBad1_L3 N M (l, e) k) (fun s => 0 ≤ s.1 ∧ s.1 ≤ M.length ∧ s.2 = restL (keepB l k) M s.1.toNat) (fun s => (M.length - s.1).toNat) (fun q => q = restL (keepB l k) M M.length) (fun s hi => by
    obtain ⟨i, b⟩ := s
    obtain ⟨i0, i1, i2⟩ := hi
    simp only at i0 i1 i2
    by_cases hc : i < (M.length : Int)
    · left
      have hkp : (if !l.contains i then some true else if icmpR .geq k 0 then (getO 0 l k).bind fun x => some (icmpR .eql x i) else some false) = some (keepB l k i) := by
        unfold keepB
        cases hci : l.contains i with
        | false => simp
        | true =>
          simp only [icmp_geq, Bool.not_true, Bool.false_eq_true, if_false, decide_eq_true_eq, Bool.false_or]
          by_cases h0 : k ≥ 0
          · rw [if_pos h0, getO_of (d := 0) h0 hk, bindS, icmp_eql]; simp [h0]
          · rw [if_neg h0]; simp [h0]
      have hf : fitsN (b.length + 1) 32 := by
        have := restL_len (keep := keepB l k) (M := M) (n := i.toNat)
        rw [← i2] at this
        exact ⟨by omega, by omega⟩
      have hr : restL (keepB l k) M (i + 1).toNat = b ++ (if keepB l k i = true then [M.getD i.toNat meas0] else []) := by
        rw [show (i + 1).toNat = i.toNat + 1 from by omega, restL, ← i2, show ((i.toNat : Nat) : Int) = i from by omega]
      simp only [m_law01_ClothBad1_L3, icmp_lss, decide_eq_true_eq, if_pos hc, has_eq N hN hl, bindS]
      simp only [hkp, bindS]
      cases hkb : keepB l k i with
      | true =>
        rw [hkb, if_pos rfl] at hr
        simp only [if_true, if_pos (And.intro i0 hc), getO_of (d := meas0) i0 hc, bindS, if_pos hf]
        rw [addW (by omega)]
        exact ⟨_, rfl, ⟨by simp only; omega, by simp only; omega, hr.symm⟩, by simp only; omega⟩
      | false =>
        rw [hkb, if_neg (by simp), List.append_nil] at hr
        simp only [Bool.false_eq_true, if_false, bindS]
        rw [addW (by omega)]
        exact ⟨_, rfl, ⟨by simp only; omega, by simp only; omega, hr.symm⟩, by simp only; omega⟩
    · right
      simp only [m_law01_ClothBad1_L3, icmp_lss, decide_eq_true_eq, if_neg hc]
      exact ⟨_, rfl, by rw [i2, show i.toNat = M.length from by omega]⟩) N (0, []) ⟨by simp, by simp, rfl⟩ (by simp only; omega)
  rw [hq, hp]
/-- What the measurings read wrong leave as it was. -/
structure BadIs (M0 : List Meas) (m : List (Int × Bool)) (M : List Meas) : Prop where
  len : M.length = M0.length
  ok : ∀ x ∈ M, isMeas x = true
  cnt : (marked M0.length m).length ≤ m.length
  same : ∀ j : Nat, j < M0.length → (mfind m (j : Int)).isSome = false → M.getD j meas0 = M0.getD j meas0
theorem bad_L1 (N : Nat) (hN : 2000000 ≤ N) {bad : List A2_u8} (hb : ∀ v ∈ bad, (0 ≤ v.a0 ∧ v.a0 ≤ 255) ∧ 0 ≤ v.a1 ∧ v.a1 ≤ 255) {M0 : List Meas} (hM : M0.length ≤ 8) (hne : M0 ≠ []) (hok : ∀ x ∈ M0, isMeas x = true) :
    ∃ m M, loopO (m_law01_ClothBad1_L1 N bad) N (0, [], M0) = some (m, M) ∧ BadIs M0 m M := by
  have hpos := List.length_pos_iff.2 hne
  obtain ⟨q, hq, hp⟩ := loopO_of (step := m_law01_ClothBad1_L1 N bad) (fun s => 0 ≤ s.1 ∧ s.1 ≤ 3 ∧ BadIs M0 s.2.1 s.2.2) (fun s => (3 - s.1).toNat) (fun q => BadIs M0 q.1 q.2) (fun s hi => by
    obtain ⟨i, m, M⟩ := s
    obtain ⟨i0, i1, h⟩ := hi
    simp only at i0 i1 h
    have hlM := h.len
    have hg : icmpR .gtr ((M.length : Nat) : Int) 0 = true := by rw [icmp_gtr, decide_eq_true_eq]; omega
    by_cases hc : i < (bad.length : Int)
    · by_cases hc3 : i < 3
      · left
        obtain ⟨v, hv⟩ : ∃ v, v = bad.getD i.toNat d_A2_u8 := ⟨_, rfl⟩
        have hvm : v ∈ bad := by
          rw [hv, List.getD_eq_getElem?_getD, List.getElem?_eq_getElem (by omega)]; exact List.getElem_mem _
        obtain ⟨⟨a0, a1⟩, b0, b1⟩ := hb v hvm
        obtain ⟨k, hk⟩ : ∃ k, k = v.a0 % ((M.length : Nat) : Int) := ⟨_, rfl⟩
        have ek : iopR .rem .i64 (IntKind.wrap .i64 v.a0) ((M.length : Nat) : Int) = k := by rw [wrap_i64 (n := v.a0) (by omega), remW (by omega), hk]
        have k0 : 0 ≤ k := by rw [hk]; exact Int.emod_nonneg _ (by omega)
        have k1 : k < (M.length : Nat) := by rw [hk]; exact Int.emod_lt_of_pos _ (by omega)
        have er : min 2000 (iopR .mul .i64 8 (IntKind.wrap .i64 v.a1)) = min 2000 (8 * v.a1) := by rw [wrap_i64 (n := v.a1) (by omega), mulW (by omega)]
        obtain ⟨R, hR⟩ : ∃ R : Meas, R = ⟨(M.getD k.toNat meas0).what, (M.getD k.toNat meas0).hour, min 2000 (8 * v.a1), (M.getD k.toNat meas0).off⟩ := ⟨_, rfl⟩
        have hRok : isMeas R = true := by
          have hm : M.getD k.toNat meas0 ∈ M := by
            rw [List.getD_eq_getElem?_getD, List.getElem?_eq_getElem (by omega)]; exact List.getElem_mem _
          have := h.ok _ hm
          simp only [isMeas, isWhat, Bool.and_eq_true, within_one] at this ⊢
          subst hR
          simp only
          omega
        have e1 : icmpR .lss i ((bad.length : Nat) : Int) = true := by rw [icmp_lss, decide_eq_true_eq]; exact hc
        have e2 : icmpR .lss i 3 = true := by rw [icmp_lss, decide_eq_true_eq]; exact hc3
        have hget := getO_of (d := d_A2_u8) i0 hc
        rw [← hv] at hget
        have hnz : ((M.length : Nat) : Int) ≠ 0 := by omega
        simp only [m_law01_ClothBad1_L1, e1, e2, if_true, hg, bindS, hget, if_pos hnz, ek, er, if_pos (And.intro k0 k1), letO_eq]
        rw [addW (by omega), ← hR]
        refine ⟨_, rfl, ⟨by simp only; omega, by simp only; omega, ⟨?_, ?_, marked_set h.cnt, ?_⟩⟩, by simp only; omega⟩
        · simp only [List.length_set]; exact h.len
        · intro x hx
          rcases List.mem_or_eq_of_mem_set hx with hx | hx
          · exact h.ok x hx
          · rw [hx]; exact hRok
        · intro j hj hh
          simp only at hh ⊢
          rw [mfind_set] at hh
          simp only [Bool.or_eq_false_iff, beq_eq_false_iff_ne] at hh
          have hjk : k.toNat ≠ j := by omega
          rw [List.getD_eq_getElem?_getD, List.getElem?_set_ne hjk, ← List.getD_eq_getElem?_getD]
          exact h.same j hj hh.2
      · right
        have e1 : icmpR .lss i ((bad.length : Nat) : Int) = true := by rw [icmp_lss, decide_eq_true_eq]; exact hc
        have e2 : icmpR .lss i 3 = false := by rw [icmp_lss, decide_eq_false_iff_not]; exact hc3
        simp only [m_law01_ClothBad1_L1, e1, e2, if_true, Bool.false_eq_true, if_false, bindS]
        exact ⟨_, rfl, h⟩
    · right
      have e1 : icmpR .lss i ((bad.length : Nat) : Int) = false := by rw [icmp_lss, decide_eq_false_iff_not]; exact hc
      simp only [m_law01_ClothBad1_L1, e1, Bool.false_eq_true, if_false, bindS]
      exact ⟨_, rfl, h⟩) N (0, [], M0) ⟨by simp, by simp, ⟨rfl, hok, by simp [marked, mfind], fun _ _ _ => rfl⟩⟩ (by simp only; omega)
  exact ⟨q.1, q.2, hq, hp⟩
theorem clothIn_of {ts : List Track} {ms : List Meas} (h : check ts ms = 0) : ClothIn ts ms := by
  obtain ⟨h1, h2, h3, h4⟩ := check_zero h
  exact ⟨by omega, by omega, fun m hm => by have := (h4 m hm).2; unfold i64ok; omega⟩
theorem rates_eq (N : Nat) {ts : List Track} {ms : List Meas} (h : check ts ms = 0) : ∃ l, m_cloth_Rates N ⟨ts, ms⟩ = some (l, if rTrueB ts ms noSkip = true then 0 else 9) := by
  have ho := open_eq (ts := ts) (ms := ms)
  unfold rOpen at ho
  rw [if_neg (by simp [h])] at ho
  unfold m_cloth_Rates
  rw [onlyIf_pos (clothIn_of h)]
  refine ⟨orE (ratesRes ts ms).1, ?_⟩
  rw [← ho]
  unfold ratesRes
  split
  · rfl
  · rename_i h1
    have h1 : (openR ts ms).1 = 0 := by simpa using h1
    rw [h1]
theorem wrong_is (N : Nat) {ts : List Track} {ms : List Meas} (h : check ts ms = 0) : m_cloth_Wrong N ⟨ts, ms⟩ = some (if rTrueB ts ms noSkip = true then ([], 6) else (rWrongL ts ms, 0)) := by
  unfold m_cloth_Wrong
  rw [onlyIf_pos (clothIn_of h)]
  simp only
  rw [wrongRes, if_neg (by simp [h]), isTrue_eq h, wrong_eq h]
  split <;> rfl
theorem bad_T {x : Bolt} (hx : x.ok) {M : List Meas} {m : List (Int × Bool)} (h : BadIs (boltM x) m M) : check (boltT x) M = 0 :=
  check_of rfl (boltT_ok hx) (by have := boltM_len x; have := h.len; omega) h.ok
/-- Without those that were read wrong there is a truth. -/
theorem bad_true {x : Bolt} (hx : x.ok) {M : List Meas} {m : List (Int × Bool)} (h : BadIs (boltM x) m M) : rTrueB (boltT x) M (fun i => (marked (boltM x).length m).contains i) = true := by
  have h0 := fit3_iff.1 (bolt_true hx)
  rw [fit3_iff]
  intro w w0 w1
  obtain ⟨s, h1, h2⟩ := h0 w w0 w1
  refine ⟨s, h1, fun j hj hh => ?_⟩
  have hj : j < (boltM x).length := by rw [← h.len]; exact hj
  have hm : (mfind m (j : Int)).isSome = false := by
    cases e : (mfind m (j : Int)).isSome with
    | false => rfl
    | true =>
      have : (marked (boltM x).length m).contains (j : Int) = true := by
        rw [List.contains_iff_mem]
        exact List.mem_filter.2 ⟨mem_rangeI.2 ⟨by omega, by omega⟩, e⟩
      simp only at hh
      rw [this] at hh; cases hh
  rw [h.same j hj hm]
  exact h2 j hj rfl
theorem law_ClothBad1 (N : Nat) (hN : 2000000 ≤ N) (p : law01_Bolt) (bad : List A2_u8) (hx : (toBolt p).ok) (hb : ∀ v ∈ bad, (0 ≤ v.a0 ∧ v.a0 ≤ 255) ∧ 0 ≤ v.a1 ∧ v.a1 ≤ 255) (hne : boltM (toBolt p) ≠ []) : m_law01_ClothBad1 N p bad = some true := by
  have hpos := List.length_pos_iff.2 hne
  have hlen := boltM_len (toBolt p)
  have hcl : m_law01_Bolt_cloth1 N p = some ⟨boltT (toBolt p), boltM (toBolt p)⟩ := onlyIf_pos ⟨hx, hne⟩
  have how : ∀ M : List Meas, M.length = (boltM (toBolt p)).length → m_law01_own2 N ⟨boltT (toBolt p), M⟩ = some ⟨boltT (toBolt p), M⟩ := fun M hM => onlyIf_pos ⟨by simp [boltT], by simp only; omega, by simp only; omega, by simp [boltT]⟩
  have hw0 := wrong_is N (bolt_check hx)
  rw [if_pos (bolt_true hx)] at hw0
  obtain ⟨m, M, hl1, hB⟩ := bad_L1 N hN hb (by omega) hne (boltM_ok hx)
  have hlM := hB.len
  have hck := bad_T hx hB
  obtain ⟨lr, hr⟩ := rates_eq N hck
  have hw := wrong_is N hck
  have htr := bad_true hx hB
  have hmin := wrongFrom_min (f := fun s => rTrueB (boltT (toBolt p)) M (fun i => s.contains i)) (n := M.length) (full_true hck) M.length 0 (by omega)
  have hmin : IsMin (fun s => rTrueB (boltT (toBolt p)) M (fun i => s.contains i)) M.length 0 (rWrongL (boltT (toBolt p)) M) := hmin
  have hrest : ∀ keep : Int → Bool, check (boltT (toBolt p)) (restL keep M M.length) = 0 := fun keep => check_of rfl (boltT_ok hx) (by have := restL_len (keep := keep) (M := M) (n := M.length); omega) (fun x hxm => by
    obtain ⟨j, h1, h2, rfl⟩ := restL_mem.1 hxm
    refine hB.ok _ ?_
    rw [List.getD_eq_getElem?_getD, List.getElem?_eq_getElem h1]; exact List.getElem_mem h1)
  unfold m_law01_ClothBad1
  rw [hcl, bindS, how _ rfl, bindS, hw0, bindS]
  dsimp only
  rw [if_neg (by simp [icmp_neq]), hl1, bindS]
  dsimp only
  rw [how M hlM, bindS, hw, bindS, bindS, hr, bindS]
  dsimp only
  by_cases ht : rTrueB (boltT (toBolt p)) M noSkip = true
  · rw [if_pos ht, if_pos ht]
    simp [icmp_eql, m_law01_known]
  · rw [if_neg ht, if_neg ht]
    generalize rWrongL (boltT (toBolt p)) M = l at *
    obtain ⟨⟨a1, a2⟩, b1, b2⟩ := hmin
    have hl8 : l.length ≤ M.length := asc_len M.length 0 l a1 (fun x hx => by have := a2 x hx; omega)
    have hl1' : 1 ≤ l.length := by
      cases l with
      | nil => exact absurd b1 ht
      | cons a r => simp
    have hlm : l.length ≤ m.length := by
      have h1 := b2 (marked (boltM (toBolt p)).length m) (by rw [hlM]; exact marked_asc _ _) (Nat.zero_le _) htr
      have h2 := hB.cnt
      unfold leS at h1
      omega
    have c1 : ¬ ((l.length : Nat) : Int) < 1 := by omega
    have c2 : ¬ ((l.length : Nat) : Int) > ((m.length : Nat) : Int) := by omega
    have hl2 : loopO (m_law01_ClothBad1_L2 N (l, 0) ⟨boltT (toBolt p), boltM (toBolt p)⟩ M) N (-1) = some (.inr ()) := by
      obtain ⟨q, hq, hp⟩ := loopO_of (step := m_law01_ClothBad1_L2 N (l, 0) ⟨boltT (toBolt p), boltM (toBolt p)⟩ M) (fun k => -1 ≤ k ∧ k ≤ l.length) (fun k => (l.length - k).toNat) (fun q => q = .inr ()) (fun k hi => by
        obtain ⟨k0, k1⟩ := hi
        by_cases hc : k < (l.length : Int)
        · left
          have e1 : icmpR .lss k ((l.length : Nat) : Int) = true := by rw [icmp_lss, decide_eq_true_eq]; exact hc
          have hfT : fitsN (boltT (toBolt p)).length 32 := ⟨by simp [boltT], by simp [boltT]⟩
          obtain ⟨lq, hrq⟩ := rates_eq N (hrest (keepB l k))
          rw [rest_true] at hrq
          have hval : rTrueB (boltT (toBolt p)) M (fun i => !keepB l k i) = decide (k < 0) := by
            by_cases h0 : k < 0
            · rw [decide_eq_true h0]
              refine true_mono (fun j hj hh => ?_) b1
              unfold keepB
              rw [hh]
              simp; omega
            · rw [decide_eq_false h0, Bool.eq_false_iff]
              intro hT
              have hkl : k.toNat < l.length := by omega
              have hmem : l.getD k.toNat 0 ∈ l := by
                rw [List.getD_eq_getElem?_getD, List.getElem?_eq_getElem hkl]; exact List.getElem_mem hkl
              have hT2 : rTrueB (boltT (toBolt p)) M (fun i => (l.erase (l.getD k.toNat 0)).contains i) = true := by
                refine true_mono (fun j hj hh => ?_) hT
                unfold keepB at hh
                simp only [Bool.not_or, Bool.not_not, Bool.not_and, Bool.and_eq_true, Bool.or_eq_true, Bool.not_eq_true', decide_eq_false_iff_not] at hh
                rw [List.contains_iff_mem]
                have hh1 := List.contains_iff_mem.1 hh.1
                rcases hh.2 with h | h
                · omega
                · exact (List.mem_erase_of_ne (fun e => h e.symm)).2 hh1
              have hlt : (l.erase (l.getD k.toNat 0)).length + 1 = l.length := by
                rw [List.length_erase_of_mem hmem]; omega
              have := b2 (l.erase (l.getD k.toNat 0)) ⟨a1.erase _, fun x hx => a2 x (List.mem_of_mem_erase hx)⟩ (Nat.zero_le _) hT2
              unfold leS at this
              omega
          rw [hval] at hrq
          have hmid : (if icmpR .geq k 0 = true then (getO 0 l k).bind fun x_95 => if icmpR .lss x_95 0 = true then some true else (getO 0 l k).bind fun x_96 => if icmpR .geq x_96 ((M.length : Nat) : Int) = true then some true else if icmpR .gtr k 0 = true then (getO 0 l k).bind fun x_97 => (getO 0 l (iopR .sub .i64 k 1)).bind fun x_98 => some (icmpR .leq x_97 x_98) else some false else some false) = some false := by
            by_cases h0 : k ≥ 0
            · have hkl : k.toNat < l.length := by omega
              have hmem : l.getD k.toNat 0 ∈ l := by
                rw [List.getD_eq_getElem?_getD, List.getElem?_eq_getElem hkl]; exact List.getElem_mem hkl
              have ha := a2 _ hmem
              simp only [icmp_geq, icmp_lss, icmp_gtr, icmp_leq, decide_eq_true_eq, if_pos h0, getO_of (d := 0) h0 hc, bindS]
              rw [if_neg (by omega), if_neg (by omega)]
              by_cases h1 : k > 0
              · rw [if_pos h1, subW (by omega), getO_of (d := 0) (by omega) (by omega), bindS]
                have := List.pairwise_iff_getElem.1 a1 (k - 1).toNat k.toNat (by omega) hkl (by omega)
                rw [List.getD_eq_getElem?_getD, List.getD_eq_getElem?_getD, List.getElem?_eq_getElem hkl, List.getElem?_eq_getElem (show (k - 1).toNat < l.length by omega)]
                simp only [Option.getD_some, Option.some.injEq, decide_eq_false_iff_not]
                omega
              · rw [if_neg h1]
            · rw [if_neg (by simp only [icmp_geq, decide_eq_true_eq]; exact h0)]
          refine ⟨k + 1, ?_, ⟨by omega, by omega⟩, by omega⟩
          unfold m_law01_ClothBad1_L2
          dsimp only
          rw [if_pos e1, if_pos hfT, bad_L3 N hN (by omega) (by omega) hc, bindS]
          rw [hmid, bindS]
          rw [if_neg (by simp), hrq, bindS, addW (by omega)]
          by_cases h0 : k < 0
          · simp [icmp_eql, icmp_lss, icmp_neq, h0]
          · simp [icmp_eql, icmp_lss, icmp_neq, h0]
        · right
          have e1 : icmpR .lss k ((l.length : Nat) : Int) = false := by rw [icmp_lss, decide_eq_false_iff_not]; exact hc
          unfold m_law01_ClothBad1_L2
          dsimp only
          rw [if_neg (by simp [e1])]
          exact ⟨_, rfl, rfl⟩) N (-1) ⟨by omega, by omega⟩ (by omega)
      rw [hq, hp]
    rw [hl2]
    simp [icmp_eql, icmp_neq, icmp_lss, icmp_gtr, c1, c2, m_law01_known]
theorem law_ClothBad0 (N : Nat) (hN : 2000000 ≤ N) (p : law01_Bolt) (bad : List A2_u8) (hx : (toBolt p).ok) (hnil : boltM (toBolt p) = []) : m_law01_ClothBad0 N p bad = some true := by
  have hcl : m_law01_Bolt_cloth0 N p = some ⟨boltT (toBolt p), boltM (toBolt p)⟩ := onlyIf_pos ⟨hx, hnil⟩
  have hck := bolt_check hx
  have htr := bolt_true hx
  rw [hnil] at hcl hck htr
  have how : m_law01_own N ⟨boltT (toBolt p), []⟩ = some ⟨boltT (toBolt p), []⟩ := onlyIf_pos ⟨by simp [boltT], by simp⟩
  have hw := wrong_is N hck
  obtain ⟨lr, hr⟩ := rates_eq N hck
  rw [if_pos htr] at hw hr
  have hl : loopO (m_law01_ClothBad0_L1 N bad) N () = some () := by
    obtain ⟨K, rfl⟩ : ∃ K, N = K + 1 := ⟨N - 1, by omega⟩
    exact loopO_inr (by unfold m_law01_ClothBad0_L1; dsimp only; split <;> (try split) <;> rfl)
  unfold m_law01_ClothBad0
  rw [hcl, bindS, how, bindS, hw, bindS]
  dsimp only
  rw [if_neg (by simp [icmp_neq]), hl, bindS]
  rw [bindS, hw, bindS, bindS, hr, bindS]
  simp [icmp_eql, m_law01_known]
end Go.Proofs.Ytnekemldcjegaaa.Aw

/- What comes in, for chapter 1: cloths, measurings, spans, read as data. -/
namespace Go.Proofs.Ytnekemldcjegaaa.Aw
open Go Go.RowKit Go.Proofs
set_option maxRecDepth 100000
set_option linter.unusedSimpArgs false
set_option linter.unusedVariables false
theorem Try.own : ownKnob Try.prog.godebug = none := by kernel_rfl
theorem Try.laidOut : laidOutB Try.prog = true := by kernel_rfl
theorem rows_of {α : Type} {g : α → List D} {p : α → Prop} : ∀ {rows : List (List D)}, (∀ row ∈ rows, ∃ a, row = g a ∧ p a) → ∃ l : List α, rows = l.map g ∧ ∀ a ∈ l, p a
  | [], _ => ⟨[], rfl, fun a h => by cases h⟩
  | row :: r, h => by
    obtain ⟨a, e, hp⟩ := h row (by simp)
    obtain ⟨l, e2, hl⟩ := rows_of (g := g) (p := p) (rows := r) (fun x hx => h x (List.mem_cons_of_mem _ hx))
    refine ⟨a :: l, by rw [e, e2]; rfl, fun b hb => ?_⟩
    rcases List.mem_cons.1 hb with rfl | hb
    · exact hp
    · exact hl b hb
end Go.Proofs.Ytnekemldcjegaaa.Aw

/- What comes in, for chapter 1: bolts, bytes, read as data. -/
namespace Go.Proofs.Ytnekemldcjegaaa.Aw
open Go Go.RowKit Go.Proofs
set_option maxRecDepth 100000
set_option linter.unusedSimpArgs false
set_option linter.unusedVariables false
def shU : Sh := .int .u8
def shB4 : Sh := .agg [shU, shU, shU, shU]
def shBolt : Sh := .agg [.agg [shB4, shB4, shB4], .sl shB4]
def shA2 : Sh := .agg [shU, shU]
theorem fit_U {xs : List D} (h : shU.Fit xs) : ∃ n : Int, xs = [.int .u8 n] ∧ 0 ≤ n ∧ n ≤ 255 := by
  unfold shU Sh.Fit at h
  obtain ⟨n, rfl, h1, h2⟩ := h
  exact ⟨n, rfl, h1, h2⟩
theorem fit_B4 {xs : List D} (h : shB4.Fit xs) : ∃ v : B4, xs = rowD 4 0 (fun j => (eB4 v j).toD) ∧ v.ok := by
  unfold shB4 Sh.Fit at h
  simp only [Sh.FitL] at h
  obtain ⟨a, b, rfl, ha, c, d, rfl, hc, e, f, rfl, he, g, i, rfl, hg, rfl⟩ := h
  obtain ⟨x, rfl, hx⟩ := fit_U ha
  obtain ⟨y, rfl, hy⟩ := fit_U hc
  obtain ⟨z, rfl, hz⟩ := fit_U he
  obtain ⟨u, rfl, hu⟩ := fit_U hg
  exact ⟨⟨x, y, z, u⟩, rfl, hx, hy, hz, hu⟩
theorem fit_A2 {xs : List D} (h : shA2.Fit xs) : ∃ a b : Int, xs = [.int .u8 a, .int .u8 b] ∧ (0 ≤ a ∧ a ≤ 255) ∧ 0 ≤ b ∧ b ≤ 255 := by
  unfold shA2 Sh.Fit at h
  simp only [Sh.FitL] at h
  obtain ⟨a1, b1, rfl, h1, a2, b2, rfl, h2, rfl⟩ := h
  obtain ⟨v0, rfl, k0⟩ := fit_U h1
  obtain ⟨v1, rfl, k1⟩ := fit_U h2
  exact ⟨v0, v1, rfl, k0, k1⟩
theorem fit_bolt {xs : List D} (h : shBolt.Fit xs) : ∃ x : Bolt, shBolt.arg xs = (kBolt x).toD ∧ x.ok := by
  unfold shBolt Sh.Fit at h
  simp only [Sh.FitL] at h
  obtain ⟨a, b, rfl, ha, c, d, rfl, hc, rfl⟩ := h
  unfold Sh.Fit at ha hc
  simp only [Sh.FitL] at ha
  obtain ⟨a1, b1, rfl, h1, a2, b2, rfl, h2, a3, b3, rfl, h3, rfl⟩ := ha
  obtain ⟨t0, rfl, k0⟩ := fit_B4 h1
  obtain ⟨t1, rfl, k1⟩ := fit_B4 h2
  obtain ⟨t2, rfl, k2⟩ := fit_B4 h3
  obtain ⟨rc, rfl, lc, hc⟩ := hc
  obtain ⟨ms, rfl, hm⟩ := rows_of (fun row hr => fit_B4 (hc row hr))
  exact ⟨⟨t0, t1, t2, ms⟩, rfl, k0, k1, k2, hm⟩
end Go.Proofs.Ytnekemldcjegaaa.Aw
