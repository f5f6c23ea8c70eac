/- Part 6 of the proof: lemmas. -/
import Derived.Test.YtnekemldcjegaaaM5
import Derived.Test.YtnekemldcjegaaaM4
import Derived.Test.YtnekemldcjegaaaRows

/- Contracts of the law: all truths of a quantity. -/
namespace Go.Proofs.Ytnekemldcjegaaa.Aw
open Go Go.RowKit Go.Proofs
set_option maxRecDepth 100000
set_option maxHeartbeats 2000000
set_option linter.unusedSimpArgs false
set_option linter.unusedVariables false
theorem inB_iff' {n a b : Int} : inB n a b = true ↔ a ≤ n ∧ n ≤ b := by simp [inB]
theorem near_in {n r o : Int} : inB n (r - o) (r + o) = nearB n r o := by
  cases h : nearB n r o with
  | true => rw [near_iff] at h; exact inB_iff'.2 (by omega)
  | false =>
    cases hb : inB n (r - o) (r + o) with
    | false => rfl
    | true =>
      have := inB_iff'.1 hb
      rw [near_iff.2 (by omega)] at h; cases h
theorem con_ltruths (ts : List Track) (ms : List Meas) (w : Int) (hck : check ts ms = 0) (h0 : 0 ≤ w) (h1 : w ≤ 2) : KC Try.prog 48 [kCloth ts ms, .int .i64 w] (slTru false (truW ts ms noSkip w)) [] := by
  obtain ⟨g1, g2, g3, g4⟩ := check_zero hck
  have ht := getD_ok g1 g2 h0 h1
  have hvl := truT_len ht (fun x r => okL w noSkip x r ms 0 true)
  unfold truW
  obtain ⟨t, htt⟩ : ∃ t, t = ts.getD w.toNat track0 := ⟨_, rfl⟩
  rw [← htt] at ht hvl ⊢
  obtain ⟨V, hV⟩ : ∃ V, V = truT t (fun x r => okL w noSkip x r ms 0 true) := ⟨_, rfl⟩
  rw [← hV] at hvl ⊢
  unfold truT at hV
  obtain ⟨t1, t2, t3, t4, t5, t6⟩ := ht
  obtain ⟨n, hn⟩ : ∃ n : Int, n = ms.length := ⟨_, rfl⟩
  obtain ⟨f, hf⟩ : ∃ f : Int → Int → Bool, f = fun x r => okL w noSkip x r ms 0 true := ⟨_, rfl⟩
  rw [← hf] at hV
  (refine con_k [] [] seat Try.func48 rfl ent_48 (by kernel_rfl) rfl rfl (by simp) ?_; intro base I hI; conv => cbv)
  refine K_conj hI (by rw [hI]; simp only [primK, endK, iopR, icmpR, oknzR, KV.av, KV.avL, plenN, noAggD, reduceCtorEq, EVB]; omega) ?_
  refine W_loop hI seat [] (by kernel_rfl) (fun a : Int × List Tru => (t.first.high + 1 - a.1).toNat) (fun a => ⟨84, [(1, .int .i64 w), (2, .loc 0 0), (5, .osl 1), (6, .loc 2 0), (7, .int .i64 a.1)], [(0, ⟨25, [slTrack false ts, slMeas false ms], true⟩), (2, ⟨105, [.int .i64 t.first.low, .int .i64 t.first.high, .int .i64 t.rate.low, .int .i64 t.rate.high], true⟩)], [(1, ⟨87, 2, [.ls Tru tru0 a.2 eTru], true, true⟩)], 0⟩)
    (fun a _ => t.first.low ≤ a.1 ∧ a.1 ≤ t.first.high + 1 ∧ V = a.2 ++ truX f t.rate.low (t.rate.high + 1 - t.rate.low).toNat (t.first.high + 1 - a.1).toNat a.1) (t.first.low, []) (weak_k rfl rfl ⟨rfl, rfl, rfl, rfl, av_int (by rw [hI, htt]; rfl), trivial⟩ ⟨rfl, by rw [hI, htt]; rfl, trivial⟩ ⟨rfl, trivial⟩) ⟨Int.le_refl _, by omega, by simpa using hV⟩ ?_
  rintro ⟨x, L⟩ s ⟨x1, x2, x3⟩ R hR
  simp only at x1 x2 x3
  (conv => cbv)
  refine K_tst hI (fun hc => ?_) (fun hc => ?_) <;> simp only [primK, endK, iopR, icmpR, oknzR, KV.av, KV.avL, plenN, noAggD, reduceCtorEq, EVB, hI] at hc
  · have hc : x ≤ t.first.high := hc
    rw [show (t.first.high + 1 - x).toNat = (t.first.high + 1 - (x + 1)).toNat + 1 from by omega, truX] at x3
    have nx : I.iop .add .i64 x 1 = x + 1 := by rw [hI]; exact wrap_i64 (by omega)
    (conv => cbv)
    refine W_loop hI seat [] (by kernel_rfl) (fun a : Int × List Tru => (t.rate.high + 1 - a.1).toNat) (fun a => ⟨84, [(1, .int .i64 w), (2, .loc 0 0), (5, .osl 1), (6, .loc 2 0), (7, .int .i64 x), (8, .int .i64 a.1)], [(0, ⟨25, [slTrack false ts, slMeas false ms], true⟩), (2, ⟨105, [.int .i64 t.first.low, .int .i64 t.first.high, .int .i64 t.rate.low, .int .i64 t.rate.high], true⟩)], [(1, ⟨87, 2, [.ls Tru tru0 a.2 eTru], true, true⟩)], 0⟩)
      (fun a s' => s' = s ∧ t.rate.low ≤ a.1 ∧ a.1 ≤ t.rate.high + 1 ∧ V = a.2 ++ (truR f x (t.rate.high + 1 - a.1).toNat a.1 ++ truX f t.rate.low (t.rate.high + 1 - t.rate.low).toNat (t.first.high + 1 - (x + 1)).toNat (x + 1))) (t.rate.low, L) (weak_k rfl rfl ⟨rfl, rfl, rfl, rfl, rfl, rfl, trivial⟩ ⟨rfl, rfl, trivial⟩ ⟨rfl, trivial⟩) ⟨rfl, Int.le_refl _, by simp only; omega, x3⟩ ?_
    rintro ⟨r, L2⟩ s' ⟨rfl, r1, r2, r3⟩ R2 hR2
    simp only at r1 r2 r3
    (conv => cbv)
    refine K_tst hI (fun hd => ?_) (fun hd => ?_) <;> simp only [primK, endK, iopR, icmpR, oknzR, KV.av, KV.avL, plenN, noAggD, reduceCtorEq, EVB, hI] at hd
    · have hd : r ≤ t.rate.high := hd
      rw [show (t.rate.high + 1 - r).toNat = (t.rate.high + 1 - (r + 1)).toNat + 1 from by omega, truR, List.append_assoc] at r3
      have nr : I.iop .add .i64 r 1 = r + 1 := by rw [hI]; exact wrap_i64 (by omega)
      obtain ⟨fv, hfv⟩ : ∃ fv, fv = f x r := ⟨_, rfl⟩
      rw [← hfv] at r3
      have hfv : okL w noSkip x r ms 0 true = fv := by rw [hfv, hf]
      (conv => cbv)
      refine W_loop hI seat [] (by kernel_rfl) (fun a : Int × Bool => (n - a.1).toNat) (fun a => ⟨84, [(1, .int .i64 w), (2, .loc 0 0), (5, .osl 1), (6, .loc 2 0), (7, .int .i64 x), (8, .int .i64 r), (9, .bool a.2), (10, .int .i64 a.1)], [(0, ⟨25, [slTrack false ts, slMeas false ms], true⟩), (2, ⟨105, [.int .i64 t.first.low, .int .i64 t.first.high, .int .i64 t.rate.low, .int .i64 t.rate.high], true⟩)], [(1, ⟨87, 2, [.ls Tru tru0 L2 eTru], true, true⟩)], 0⟩)
        (fun a s2 => s2 = s' ∧ 0 ≤ a.1 ∧ a.1 ≤ n ∧ okL w noSkip x r (ms.drop a.1.toNat) a.1 a.2 = fv) (0, true) (weak_k rfl rfl ⟨rfl, rfl, rfl, rfl, rfl, rfl, rfl, rfl, trivial⟩ ⟨rfl, rfl, trivial⟩ ⟨rfl, trivial⟩) ⟨rfl, Int.le_refl _, by simp only; omega, hfv⟩ ?_
      rintro ⟨i, ok⟩ s2 ⟨rfl, i1, i2, i3⟩ R3 hR3
      simp only at i1 i2 i3
      (conv => cbv)
      refine K_tst hI (fun he => ?_) (fun he => ?_) <;> simp only [primK, endK, iopR, icmpR, oknzR, KV.av, KV.avL, plenN, noAggD, reduceCtorEq, EVB, hI] at he
      · obtain ⟨e1, e2⟩ := drop_getD (d := meas0) i1 (by omega : i < (ms.length : Int))
        obtain ⟨m, hm⟩ : ∃ m, m = ms.getD i.toNat meas0 := ⟨_, rfl⟩
        rw [← hm] at e1 e2
        rw [e1, okL] at i3
        obtain ⟨⟨m1, m2, m3, m4, m5, m6⟩, _, _⟩ := g4 m e2
        have nx2 : I.iop .add .i64 i 1 = i + 1 := by rw [hI]; exact wrap_i64 (by omega)
        have har := aft_range (x := x) (r := r) (by omega) (by omega) m.hour.toNat
        have caf := con_lafter x r m.hour (by omega) (by omega) (by omega)
        have csp := con_span (m.reading - m.off) (m.reading + m.off)
        have cin := con_lin (aft x r m.hour.toNat) ⟨m.reading - m.off, m.reading + m.off⟩
        simp only [near_in] at cin
        obtain ⟨v, hv⟩ : ∃ v, v = nearB (aft x r m.hour.toNat) m.reading m.off := ⟨_, rfl⟩
        rw [← hv] at cin i3
        have s1 : I.iop .sub .i64 m.reading m.off = m.reading - m.off := by rw [hI]; exact wrap_i64 (by omega)
        have s2' : I.iop .add .i64 m.reading m.off = m.reading + m.off := by rw [hI]; exact wrap_i64 (by omega)
        generalize aft x r m.hour.toNat = A at *
        generalize m.reading - m.off = lo at *
        generalize m.reading + m.off = hi at *
        (conv => cbv)
        refine K_conj hI (by rw [hI]; simp only [primK, endK, iopR, icmpR, oknzR, KV.av, KV.avL, plenN, noAggD, reduceCtorEq, EVB]; omega) ?_
        refine K_tst hI (fun hz => ?_) (fun hz => ?_)
        · refine K_tst hI (fun hx => ?_) (fun hx => ?_)
          · have hx : ¬ m.what = w := by
              rw [hI] at hx
              have hx : ((ms.getD i.toNat meas0).what != w) = true := hx
              rw [hm]; simpa using hx
            rw [if_neg (fun h => hx h.1)] at i3
            exact hR3 _ _ (i + 1, true) (by simp only; omega) (weak_k rfl rfl ⟨rfl, rfl, rfl, rfl, rfl, rfl, rfl, av_int nx2, trivial⟩ ⟨rfl, rfl, trivial⟩ ⟨rfl, trivial⟩) ⟨rfl, by simp only; omega, by simp only; omega, by rw [← i3, hz]⟩
          · have hx : m.what = w := by
              rw [hI] at hx
              have hx : ((ms.getD i.toNat meas0).what != w) = false := hx
              rw [hm]; simpa using hx
            rw [if_pos ⟨hx, rfl⟩, hz, Bool.true_and] at i3
            refine C_call hI caf (by rw [hI, hm]; rfl) ?_
            (conv => cbv)
            refine C_call hI csp (by rw [hI] at s1 s2'; rw [hI, ← s1, ← s2', hm]; rfl) ?_
            (conv => cbv)
            refine C_call hI cin rfl ?_
            (conv => cbv)
            exact hR3 _ _ (i + 1, v) (by simp only; omega) (weak_k rfl rfl ⟨rfl, rfl, rfl, rfl, rfl, rfl, rfl, av_int nx2, trivial⟩ ⟨rfl, rfl, trivial⟩ ⟨rfl, trivial⟩) ⟨rfl, by simp only; omega, by simp only; omega, i3⟩
        · have i3 : okL w noSkip x r (ms.drop (i + 1).toNat) (i + 1) false = fv := by
            rw [← i3, hz]; split <;> rfl
          trace_state
          exact hR3 _ _ (i + 1, false) (by simp only; omega) (weak_k rfl rfl ⟨rfl, rfl, rfl, rfl, rfl, rfl, rfl, av_int nx2, trivial⟩ ⟨rfl, rfl, trivial⟩ ⟨rfl, trivial⟩) ⟨rfl, by simp only; omega, by simp only; omega, i3⟩
      · rw [show ms.drop i.toNat = [] from List.drop_eq_nil_of_le (by omega), okL] at i3
        subst i3
        have hvl2 := congrArg List.length r3
        simp only [List.length_append] at hvl2
        (conv => cbv)
        refine K_tst hI (fun hx => ?_) (fun hx => ?_)
        · rw [if_pos hx] at r3
          (conv => cbv)
          refine K_conj hI (by rw [hI]; show plenN _ * 16 ≤ _ ∧ plenN _ ≤ _; simp only [joinP, List.cons_append, List.nil_append, plenN, List.length_cons, List.length_nil]; omega) ?_
          exact hR2 _ _ (r + 1, L2 ++ [(Tru.mk x r)]) (by simp only; omega) (weak_k rfl rfl ⟨rfl, rfl, rfl, rfl, rfl, av_int nr, trivial⟩ ⟨rfl, rfl, trivial⟩ ⟨rowT_snoc L2 x r, trivial⟩) ⟨rfl, by simp only; omega, by simp only; omega, by rw [r3]; simp⟩
        · rw [if_neg (by simp [hx]), List.nil_append] at r3
          (conv => cbv)
          exact hR2 _ _ (r + 1, L2) (by simp only; omega) (weak_k rfl rfl ⟨rfl, rfl, rfl, rfl, rfl, av_int nr, trivial⟩ ⟨rfl, rfl, trivial⟩ ⟨rfl, trivial⟩) ⟨rfl, by simp only; omega, by simp only; omega, r3⟩
    · have hd : ¬ r ≤ t.rate.high := hd
      rw [show (t.rate.high + 1 - r).toNat = 0 from by omega, truR, List.nil_append] at r3
      (conv => cbv)
      exact hR _ _ (x + 1, L2) (by simp only; omega) (weak_k rfl rfl ⟨rfl, rfl, rfl, rfl, av_int nx, trivial⟩ ⟨rfl, rfl, trivial⟩ ⟨rfl, trivial⟩) ⟨by simp only; omega, by simp only; omega, r3⟩
  · have hc : ¬ x ≤ t.first.high := hc
    rw [show (t.first.high + 1 - x).toNat = 0 from by omega, truX, List.append_nil] at x3
    subst x3
    (conv => cbv)
    rw [hI]; refine ⟨?_, rfl⟩
    rfl
end Go.Proofs.Ytnekemldcjegaaa.Aw

/- Plain: a bolt's cloth is valid, and has its truth. -/
namespace Go.Proofs.Ytnekemldcjegaaa.Aw
open Go Go.RowKit Go.Proofs
set_option linter.unusedSimpArgs false
set_option linter.unusedVariables false
theorem within_one {a b n : Int} : within a b [n] = true ↔ a ≤ n ∧ n ≤ b := by
  rw [within_iff]; simp
theorem track_ok {v : B4} (h : v.ok) : isTrack (tOf v) = true := by
  obtain ⟨⟨f0, f1⟩, g0, g1⟩ := tru_range h
  obtain ⟨a, b, c, d⟩ := h
  simp only [isTrack, isRate, Bool.and_eq_true, isSpan_iff, tOf]
  omega
theorem meas_ok {x : Bolt} (hx : x.ok) {v : B4} (h : v.ok) : isMeas (mOf x v) = true := by
  obtain ⟨⟨f0, f1⟩, g0, g1⟩ := tru_range (sel_ok hx (v.a % 3))
  have har := aft_range (x := tFirst (x.sel (v.a % 3))) (r := tRate (x.sel (v.a % 3))) (by omega) (by omega) (v.b % 30).toNat
  obtain ⟨⟨a0, a1⟩, ⟨b0, b1⟩, ⟨c0, c1⟩, d0, d1⟩ := h
  have e1 := Int.emod_nonneg v.d (show 2 * (v.c % 12) + 1 ≠ 0 by omega)
  have e2 := Int.emod_lt_of_pos v.d (show 0 < 2 * (v.c % 12) + 1 by omega)
  simp only [isMeas, isWhat, Bool.and_eq_true, within_one, mOf, mRead]
  generalize v.d % (2 * (v.c % 12) + 1) = q at *
  generalize aft (tFirst (x.sel (v.a % 3))) (tRate (x.sel (v.a % 3))) (v.b % 30).toNat = A at *
  omega
theorem meas_near {x : Bolt} (hx : x.ok) {v : B4} (h : v.ok) : nearB (aft (tFirst (x.sel (mOf x v).what)) (tRate (x.sel (mOf x v).what)) (mOf x v).hour.toNat) (mOf x v).reading (mOf x v).off = true := by
  obtain ⟨⟨f0, f1⟩, g0, g1⟩ := tru_range (sel_ok hx (v.a % 3))
  have har := aft_range (x := tFirst (x.sel (v.a % 3))) (r := tRate (x.sel (v.a % 3))) (by omega) (by omega) (v.b % 30).toNat
  obtain ⟨⟨a0, a1⟩, ⟨b0, b1⟩, ⟨c0, c1⟩, d0, d1⟩ := h
  have e1 := Int.emod_nonneg v.d (show 2 * (v.c % 12) + 1 ≠ 0 by omega)
  have e2 := Int.emod_lt_of_pos v.d (show 0 < 2 * (v.c % 12) + 1 by omega)
  rw [near_iff]
  simp only [mOf, mRead]
  generalize v.d % (2 * (v.c % 12) + 1) = q at *
  generalize aft (tFirst (x.sel (v.a % 3))) (tRate (x.sel (v.a % 3))) (v.b % 30).toNat = A at *
  omega
theorem boltM_len (x : Bolt) : (boltM x).length ≤ 6 := by
  unfold boltM; rw [List.length_map, List.length_take]; omega
theorem boltM_mem {x : Bolt} {m : Meas} (h : m ∈ boltM x) : ∃ v ∈ x.ms, m = mOf x v := by
  unfold boltM at h
  obtain ⟨v, hv, rfl⟩ := List.mem_map.1 h
  exact ⟨v, List.mem_of_mem_take hv, rfl⟩
theorem check_of {ts : List Track} {ms : List Meas} (h1 : ts.length = 3) (h2 : ∀ t ∈ ts, isTrack t = true) (h3 : ms.length ≤ 8) (h4 : ∀ m ∈ ms, isMeas m = true) : check ts ms = 0 := by
  unfold check
  rw [if_neg (by omega), if_neg, if_neg (by omega), if_neg]
  · rw [List.any_eq_true]
    rintro ⟨m, hm, hb⟩
    rw [h4 m hm] at hb; cases hb
  · rw [List.any_eq_true]
    rintro ⟨m, hm, hb⟩
    rw [h2 m hm] at hb; cases hb
theorem boltT_ok {x : Bolt} (hx : x.ok) : ∀ t ∈ boltT x, isTrack t = true := fun t ht => by
  simp only [boltT, List.mem_cons, List.not_mem_nil, or_false] at ht
  rcases ht with rfl | rfl | rfl
  · exact track_ok hx.1
  · exact track_ok hx.2.1
  · exact track_ok hx.2.2.1
theorem boltM_ok {x : Bolt} (hx : x.ok) : ∀ m ∈ boltM x, isMeas m = true := fun m hm => by
  obtain ⟨v, hv, rfl⟩ := boltM_mem hm
  exact meas_ok hx (hx.2.2.2 v hv)
theorem bolt_check {x : Bolt} (hx : x.ok) : check (boltT x) (boltM x) = 0 :=
  check_of rfl (boltT_ok hx) (by have := boltM_len x; omega) (boltM_ok hx)
theorem okL_all {w : Int} {has : Int → Bool} {x r : Int} : ∀ {ms : List Meas} {i : Int}, (∀ m ∈ ms, m.what = w → nearB (aft x r m.hour.toNat) m.reading m.off = true) → okL w has x r ms i true = true
  | [], i, _ => rfl
  | m :: q, i, h => by
    simp only [okL]
    split
    · rename_i hw
      rw [h m (by simp) hw.1, Bool.true_and]
      exact okL_all (fun m hm => h m (List.mem_cons_of_mem _ hm))
    · exact okL_all (fun m hm => h m (List.mem_cons_of_mem _ hm))
theorem sel_track {x : Bolt} {w : Int} (h0 : 0 ≤ w) (h1 : w ≤ 2) : (boltT x).getD w.toNat track0 = tOf (x.sel w) := by
  have hw : w = 0 ∨ w = 1 ∨ w = 2 := by omega
  rcases hw with rfl | rfl | rfl <;> rfl
/-- The true numbers are among the truths, with whatever right measurings. -/
theorem truth_in {x : Bolt} (hx : x.ok) {ms : List Meas} {w : Int} (h0 : 0 ≤ w) (h1 : w ≤ 2) (hm : ∀ m ∈ ms, m.what = w → nearB (aft (tFirst (x.sel w)) (tRate (x.sel w)) m.hour.toNat) m.reading m.off = true) :
    (⟨tFirst (x.sel w), tRate (x.sel w)⟩ : Tru) ∈ truW (boltT x) ms noSkip w := by
  unfold truW truT
  rw [sel_track h0 h1, mem_truX]
  obtain ⟨⟨f0, f1⟩, g0, g1⟩ := tru_range (sel_ok hx w)
  obtain ⟨a, b, c, d⟩ := sel_ok hx w
  simp only [tOf]
  refine ⟨by omega, by omega, okL_all hm⟩
theorem bolt_in {x : Bolt} (hx : x.ok) {w : Int} (h0 : 0 ≤ w) (h1 : w ≤ 2) : (⟨tFirst (x.sel w), tRate (x.sel w)⟩ : Tru) ∈ truW (boltT x) (boltM x) noSkip w :=
  truth_in hx h0 h1 (fun m hm hw => by
    obtain ⟨v, hv, rfl⟩ := boltM_mem hm
    rw [← hw]
    exact meas_near hx (hx.2.2.2 v hv))
theorem true_of {ts : List Track} {ms : List Meas} (h : ∀ w : Int, 0 ≤ w → w ≤ 2 → truW ts ms noSkip w ≠ []) : rTrueB ts ms noSkip = true := by
  have key : ∀ w : Int, 0 ≤ w → w ≤ 2 → hasTru (truW ts ms noSkip w) = true := fun w h0 h1 => by
    have := List.length_pos_iff.2 (h w h0 h1)
    simp only [hasTru, decide_eq_true_eq]; omega
  unfold rTrueB
  rw [key 0 (by omega) (by omega), key 1 (by omega) (by omega), key 2 (by omega) (by omega)]; rfl
theorem bolt_true {x : Bolt} (hx : x.ok) : rTrueB (boltT x) (boltM x) noSkip = true :=
  true_of (fun w h0 h1 e => by have := bolt_in hx h0 h1; rw [e] at this; cases this)
theorem open_of {ts : List Track} {ms : List Meas} (h1 : check ts ms = 0) (h2 : rTrueB ts ms noSkip = true) : (openR ts ms).1 = 0 := by
  rw [open_eq]; unfold rOpen; rw [if_neg (by simp [h1]), if_pos h2]
theorem bolt_open {x : Bolt} (hx : x.ok) : (openR (boltT x) (boltM x)).1 = 0 := open_of (bolt_check hx) (bolt_true hx)
theorem bolt_clothIn (x : Bolt) (hx : x.ok) : ClothIn (boltT x) (boltM x) := by
  refine ⟨by simp [boltT], by have := boltM_len x; omega, fun m hm => ?_⟩
  obtain ⟨v, hv, rfl⟩ := boltM_mem hm
  have := hx.2.2.2 v hv
  obtain ⟨a, _⟩ := this
  simp only [i64ok, mOf]; omega
end Go.Proofs.Ytnekemldcjegaaa.Aw

/- Contracts of the law: what is large; ClothAt. -/
namespace Go.Proofs.Ytnekemldcjegaaa.Aw
open Go Go.RowKit Go.Proofs
set_option maxRecDepth 100000
set_option maxHeartbeats 2000000
set_option linter.unusedSimpArgs false
set_option linter.unusedVariables false
end Go.Proofs.Ytnekemldcjegaaa.Aw

/- Contracts of the law: ClothBelow, ClothFits. -/
namespace Go.Proofs.Ytnekemldcjegaaa.Aw
open Go Go.RowKit Go.Proofs
set_option maxRecDepth 100000
set_option maxHeartbeats 2000000
set_option linter.unusedSimpArgs false
set_option linter.unusedVariables false
end Go.Proofs.Ytnekemldcjegaaa.Aw

/- Contracts of the law: ClothFits. -/
namespace Go.Proofs.Ytnekemldcjegaaa.Aw
open Go Go.RowKit Go.Proofs
set_option maxRecDepth 100000
set_option maxHeartbeats 2000000
set_option linter.unusedSimpArgs false
set_option linter.unusedVariables false
end Go.Proofs.Ytnekemldcjegaaa.Aw

/- Plain: for how long a bolt's cloth was beaten, and of which yarns it is. -/
namespace Go.Proofs.Ytnekemldcjegaaa.Aw
open Go Go.RowKit Go.Proofs
set_option linter.unusedSimpArgs false
set_option linter.unusedVariables false
def trueAt (x : Bolt) (h w : Int) : Int := aft (tFirst (x.sel w)) (tRate (x.sel w)) h.toNat
theorem trueAt_in {x : Bolt} (hx : x.ok) {h w : Int} (h0 : 0 ≤ w) (h1 : w ≤ 2) : trueAt x h w ∈ valT h (truW (boltT x) (boltM x) noSkip w) :=
  List.mem_map.2 ⟨_, bolt_in hx h0 h1, rfl⟩
end Go.Proofs.Ytnekemldcjegaaa.Aw

/- Plain: what is so from hour to hour. -/
namespace Go.Proofs.Ytnekemldcjegaaa.Aw
open Go Go.RowKit Go.Proofs
set_option linter.unusedSimpArgs false
set_option linter.unusedVariables false
theorem aft_less {x r : Int} (hx : 0 ≤ x) (hr : 0 ≤ r ∧ r ≤ 1000) (n : Nat) : aft x r (n + 1) ≤ aft x r n := by
  obtain ⟨h1, h2⟩ := aft_range hx hr n
  have h3 : 0 ≤ aft x r n * r := Int.mul_nonneg h1 hr.1
  have : 0 ≤ aft x r n * r / 1000 := Int.ediv_nonneg h3 (by omega)
  simp only [aft]; omega
/-- The least hour below n at which it is so; a if there is none. -/
theorem downF_spec (f : Int → Bool) : ∀ (n : Nat) (a : Int), (downF f n a = a ∧ ∀ h : Int, 0 ≤ h → h < n → f h = false) ∨ ((0 ≤ downF f n a ∧ downF f n a < n) ∧ f (downF f n a) = true ∧ ∀ h : Int, 0 ≤ h → h < downF f n a → f h = false)
  | 0, a => .inl ⟨rfl, fun h h0 h1 => by omega⟩
  | n + 1, a => by
    simp only [downF]
    rcases downF_spec f n (if f n then n else a) with ⟨e, k⟩ | ⟨e, k, l⟩
    · by_cases hf : f n = true
      · rw [if_pos hf] at e ⊢
        right
        rw [e]
        exact ⟨by omega, hf, k⟩
      · left
        rw [if_neg hf] at e ⊢
        refine ⟨e, fun h h0 h1 => ?_⟩
        by_cases hh : h = n
        · subst hh; simpa using hf
        · exact k h h0 (by omega)
    · right
      exact ⟨by omega, k, l⟩
theorem down_iff {f : Int → Bool} {n : Nat} {a : Int} (ha : a = n) (hm : ∀ h : Int, 0 ≤ h → h + 1 < n → f h = true → f (h + 1) = true) {h : Int} (h0 : 0 ≤ h) (h1 : h < n) : downF f n a ≤ h ↔ f h = true := by
  have up : ∀ (k : Nat) (h : Int), 0 ≤ h → h + k < n → f h = true → f (h + k) = true := by
    intro k
    induction k with
    | zero => intro h _ _ hf; simpa using hf
    | succ k ih =>
      intro h h0 hk hf
      have := hm (h + k) (by omega) (by omega) (ih h h0 (by omega) hf)
      rwa [show h + ((k + 1 : Nat) : Int) = h + k + 1 from by omega]
  rcases downF_spec f n a with ⟨e, k⟩ | ⟨e, k, l⟩
  · rw [e]
    constructor
    · intro hh; omega
    · intro hf; rw [k h h0 h1] at hf; cases hf
  · constructor
    · intro hh
      have := up (h - downF f n a).toNat (downF f n a) e.1 (by omega) k
      rwa [show downF f n a + ((h - downF f n a).toNat : Int) = h from by omega] at this
    · intro hf
      rcases (show h < downF f n a ∨ downF f n a ≤ h from by omega) with hlt | hge
      · rw [l h h0 hlt] at hf; cases hf
      · exact hge
theorem down_range {f : Int → Bool} {n : Nat} {a : Int} (ha : a = n) : 0 ≤ downF f n a ∧ downF f n a ≤ n := by
  rcases downF_spec f n a with ⟨e, k⟩ | ⟨e, k, l⟩ <;> omega
theorem down_le {f g : Int → Bool} {n : Nat} {a : Int} (ha : a = n) (h : ∀ k : Int, 0 ≤ k → k < n → f k = true → g k = true) : downF g n a ≤ downF f n a := by
  rcases downF_spec f n a with ⟨e, k⟩ | ⟨e, k, l⟩
  · rw [e]; have := (down_range (f := g) ha).2; omega
  · rcases downF_spec g n a with ⟨e', k'⟩ | ⟨e', k', l'⟩
    · have := h _ e.1 e.2 k
      rw [k' _ e.1 e.2] at this; cases this
    · rcases (show downF f n a < downF g n a ∨ downF g n a ≤ downF f n a from by omega) with hlt | hge
      · have := h _ e.1 e.2 k
        rw [l' _ e.1 hlt] at this; cases this
      · exact hge
section
variable {ts : List Track} {ms : List Meas}
theorem tru_fit (hck : check ts ms = 0) {w : Int} (h0 : 0 ≤ w) (h1 : w ≤ 2) : ∀ t ∈ truW ts ms noSkip w, (0 ≤ t.first ∧ t.first ≤ 2000) ∧ 0 ≤ t.rate ∧ t.rate ≤ 100 := by
  intro t ht
  obtain ⟨g1, g2, g3, g4⟩ := check_zero hck
  obtain ⟨t1, t2, t3, t4, t5, t6⟩ := getD_ok g1 g2 h0 h1
  unfold truW truT at ht
  rw [mem_truX] at ht
  omega
theorem hull_step (hck : check ts ms = 0) {w : Int} (h0 : 0 ≤ w) (h1 : w ≤ 2) (hne : truW ts ms noSkip w ≠ []) {h : Int} (hh : 0 ≤ h) :
    (hullW ts ms (h + 1) w).low ≤ (hullW ts ms h w).low ∧ (hullW ts ms (h + 1) w).high ≤ (hullW ts ms h w).high := by
  have a := hullW_is (h := h) hck h0 h1 hne
  have b := hullW_is (h := h + 1) hck h0 h1 hne
  have e : (h + 1).toNat = h.toNat + 1 := by omega
  constructor
  · obtain ⟨t, ht, e1⟩ := List.mem_map.1 a.low
    obtain ⟨f1, f2⟩ := tru_fit hck h0 h1 t ht
    have := (b.all _ (List.mem_map.2 ⟨t, ht, rfl⟩)).1
    have := aft_less (x := t.first) (r := t.rate) (by omega) (by omega) h.toNat
    rw [e] at *; omega
  · obtain ⟨t, ht, e1⟩ := List.mem_map.1 b.high
    obtain ⟨f1, f2⟩ := tru_fit hck h0 h1 t ht
    have := (a.all _ (List.mem_map.2 ⟨t, ht, rfl⟩)).2
    have := aft_less (x := t.first) (r := t.rate) (by omega) (by omega) h.toNat
    rw [e] at *; omega
theorem below_iff (hck : check ts ms = 0) {w : Int} (h0 : 0 ≤ w) (h1 : w ≤ 2) (hne : truW ts ms noSkip w ≠ []) {lim h : Int} (hh : 0 ≤ h) (hh2 : h ≤ 48) :
    (belowS ts ms w lim ≤ h ↔ (hullW ts ms h w).high ≤ lim) ∧ (belowP ts ms w lim ≤ h ↔ (hullW ts ms h w).low ≤ lim) := by
  unfold belowS belowP
  constructor
  · rw [down_iff (n := 49) (a := 49) rfl (fun k k0 k1 hk => by
      have := (hull_step hck h0 h1 hne k0).2
      simp only [decide_eq_true_eq] at hk ⊢; omega) hh (by omega)]
    simp
  · rw [down_iff (n := 49) (a := 49) rfl (fun k k0 k1 hk => by
      have := (hull_step hck h0 h1 hne k0).1
      simp only [decide_eq_true_eq] at hk ⊢; omega) hh (by omega)]
    simp
theorem hull_le (hck : check ts ms = 0) {w : Int} (h0 : 0 ≤ w) (h1 : w ≤ 2) (hne : truW ts ms noSkip w ≠ []) (h : Int) : (hullW ts ms h w).low ≤ (hullW ts ms h w).high := by
  have a := hullW_is (h := h) hck h0 h1 hne
  exact (a.all _ a.low).2
theorem below_range (hck : check ts ms = 0) {w : Int} (h0 : 0 ≤ w) (h1 : w ≤ 2) (hne : truW ts ms noSkip w ≠ []) (lim : Int) :
    0 ≤ belowP ts ms w lim ∧ belowP ts ms w lim ≤ belowS ts ms w lim ∧ belowS ts ms w lim ≤ 49 := by
  unfold belowS belowP
  refine ⟨(down_range rfl).1, down_le rfl (fun k k0 k1 hk => ?_), (down_range rfl).2⟩
  have := hull_le hck h0 h1 hne k
  simp only [decide_eq_true_eq] at hk ⊢; omega
end
end Go.Proofs.Ytnekemldcjegaaa.Aw

/- Types of chapter 1, printed by wip/gen/ch1.py. -/
namespace Go.Proofs.Ytnekemldcjegaaa.Aw
open Go Go.RowKit Go.Proofs
set_option maxRecDepth 100000
set_option maxHeartbeats 4000000
set_option linter.unusedSimpArgs false
set_option linter.unusedVariables false
noncomputable section
structure api_Cloth where
  Tracks : (List Track)
  Measures : (List Meas)
structure A3_A4_u8 where
  a0 : B4
  a1 : B4
  a2 : B4
structure law01_Bolt where
  Tracks : A3_A4_u8
  Measures : (List B4)
structure A2_u8 where
  a0 : Int
  a1 : Int
end
end Go.Proofs.Ytnekemldcjegaaa.Aw

/- Plain models of what was walked by hand: the functions of chapter 1, as the laws call them. -/
namespace Go.Proofs.Ytnekemldcjegaaa.Aw
open Go Go.RowKit Go.Proofs
set_option maxRecDepth 100000
set_option linter.unusedSimpArgs false
set_option linter.unusedVariables false
open Classical
/-- Where it is so, x. -/
noncomputable def onlyIf {α : Type} (p : Prop) (x : α) : Option α := if p then some x else none
theorem onlyIf_of {α : Type} {p : Prop} {x o : α} (h : onlyIf p x = some o) : p ∧ o = x := by
  unfold onlyIf at h
  split at h
  · rename_i hp; cases h; exact ⟨hp, rfl⟩
  · cases h
theorem onlyIf_pos {α : Type} {p : Prop} {x : α} (h : p) : onlyIf p x = some x := by unfold onlyIf; rw [if_pos h]
def orE {α : Type} (x : Option (List α)) : List α := x.getD []
theorem lv_spans (x : Option (List Span)) : LV (kSpans x) (slSpan false (orE x)) := by
  cases x with
  | none => exact LV_nil
  | some l => exact lR
def toBolt (x : law01_Bolt) : Bolt := ⟨x.Tracks.a0, x.Tracks.a1, x.Tracks.a2, x.Measures⟩
noncomputable def m_cloth_At (N : Nat) (c : api_Cloth) (h : Int) : Option (List Span × Int) := onlyIf (ClothIn c.Tracks c.Measures) (orE (atRes c.Tracks c.Measures h).1, (atRes c.Tracks c.Measures h).2)
theorem w_cloth_At (N : Nat) (c : api_Cloth) (h : Int) (o : List Span × Int) (e : m_cloth_At N c h = some o) : KC Try.prog 21 [.agg [slTrack false c.Tracks, slMeas false c.Measures], .int .i64 h] (.tup [slSpan false o.1, .int .i64 o.2]) [] := by
  obtain ⟨hp, rfl⟩ := onlyIf_of e
  exact KC_res (con_At c.Tracks c.Measures h hp) (LV_tup ⟨lv_spans _, lR, rfl⟩)
noncomputable def m_cloth_Rates (N : Nat) (c : api_Cloth) : Option (List Span × Int) := onlyIf (ClothIn c.Tracks c.Measures) (orE (ratesRes c.Tracks c.Measures).1, (ratesRes c.Tracks c.Measures).2)
theorem w_cloth_Rates (N : Nat) (c : api_Cloth) (o : List Span × Int) (e : m_cloth_Rates N c = some o) : KC Try.prog 22 [.agg [slTrack false c.Tracks, slMeas false c.Measures]] (.tup [slSpan false o.1, .int .i64 o.2]) [] := by
  obtain ⟨hp, rfl⟩ := onlyIf_of e
  exact KC_res (con_Rates c.Tracks c.Measures hp) (LV_tup ⟨lv_spans _, lR, rfl⟩)
noncomputable def m_cloth_Below (N : Nat) (c : api_Cloth) (w l : Int) : Option (Int × Int × Int) := onlyIf (ClothIn c.Tracks c.Measures ∧ i64ok w) (belowRes c.Tracks c.Measures w l)
theorem w_cloth_Below (N : Nat) (c : api_Cloth) (w l : Int) (o : Int × Int × Int) (e : m_cloth_Below N c w l = some o) : KC Try.prog 30 [.agg [slTrack false c.Tracks, slMeas false c.Measures], .int .i64 w, .int .i64 l] (.tup [.int .i64 o.1, .int .i64 o.2.1, .int .i64 o.2.2]) [] := by
  obtain ⟨hp, rfl⟩ := onlyIf_of e
  exact con_Below c.Tracks c.Measures w l hp.1 hp.2
def m_law01_known (N : Nat) : Option Bool := some true
theorem w_law01_known (N : Nat) (o : Bool) (e : m_law01_known N = some o) : KC Try.prog 18 [] (.bool o) [] := by
  cases e; exact con_known
noncomputable def m_law01_own (N : Nat) (c : api_Cloth) : Option api_Cloth := onlyIf (c.Tracks.length ≤ 1000000 ∧ c.Measures.length ≤ 1000000) c
theorem w_law01_own (N : Nat) (c : api_Cloth) (o : api_Cloth) (e : m_law01_own N c = some o) : KC Try.prog 47 [.agg [slTrack false c.Tracks, slMeas false c.Measures]] (.agg [slTrack false o.Tracks, slMeas false o.Measures]) [] := by
  obtain ⟨hp, rfl⟩ := onlyIf_of e
  exact con_own o.Tracks o.Measures hp.1 hp.2
noncomputable def m_law01_truths (N : Nat) (c : api_Cloth) (w : Int) : Option (List Tru) := onlyIf (check c.Tracks c.Measures = 0 ∧ 0 ≤ w ∧ w ≤ 2) (truW c.Tracks c.Measures noSkip w)
theorem w_law01_truths (N : Nat) (c : api_Cloth) (w : Int) (o : List Tru) (e : m_law01_truths N c w = some o) : KC Try.prog 48 [.agg [slTrack false c.Tracks, slMeas false c.Measures], .int .i64 w] (slTru false o) [] := by
  obtain ⟨hp, rfl⟩ := onlyIf_of e
  exact con_ltruths c.Tracks c.Measures w hp.1 hp.2.1 hp.2.2
def kB (x : law01_Bolt) : KV := .agg [.int .u8 x.Tracks.a0.a, .int .u8 x.Tracks.a0.b, .int .u8 x.Tracks.a0.c, .int .u8 x.Tracks.a0.d, .int .u8 x.Tracks.a1.a, .int .u8 x.Tracks.a1.b, .int .u8 x.Tracks.a1.c, .int .u8 x.Tracks.a1.d, .int .u8 x.Tracks.a2.a, .int .u8 x.Tracks.a2.b, .int .u8 x.Tracks.a2.c, .int .u8 x.Tracks.a2.d, slB4 false x.Measures]
noncomputable def m_law01_Bolt_cloth (N : Nat) (x : law01_Bolt) : Option api_Cloth := onlyIf (toBolt x).ok ⟨boltT (toBolt x), boltM (toBolt x)⟩
theorem w_law01_Bolt_cloth (N : Nat) (x : law01_Bolt) (o : api_Cloth) (e : m_law01_Bolt_cloth N x = some o) : KC Try.prog 46 [kB x] (.agg [slTrack false o.Tracks, slMeas false o.Measures]) [] := by
  obtain ⟨hp, rfl⟩ := onlyIf_of e
  exact con_cloth (toBolt x) hp
noncomputable def m_law01_Bolt_truth (N : Nat) (x : law01_Bolt) (w : Int) : Option (Int × Int) := onlyIf ((toBolt x).ok ∧ 0 ≤ w ∧ w ≤ 2) (tFirst ((toBolt x).sel w), tRate ((toBolt x).sel w))
theorem w_law01_Bolt_truth (N : Nat) (x : law01_Bolt) (w : Int) (o : Int × Int) (e : m_law01_Bolt_truth N x w = some o) : KC Try.prog 49 [kB x, .int .i64 w] (.tup [.int .i64 o.1, .int .i64 o.2]) [] := by
  obtain ⟨hp, rfl⟩ := onlyIf_of e
  exact con_truth (toBolt x) hp.1 hp.2.1 hp.2.2
noncomputable def m_law01_after (N : Nat) (x r h : Int) : Option Int := onlyIf ((0 ≤ x ∧ x ≤ 1000000) ∧ (0 ≤ r ∧ r ≤ 1000) ∧ h ≤ 1000000) (aft x r h.toNat)
theorem w_law01_after (N : Nat) (x r h : Int) (o : Int) (e : m_law01_after N x r h = some o) : KC Try.prog 51 [.int .i64 x, .int .i64 r, .int .i64 h] (.int .i64 o) [] := by
  obtain ⟨hp, rfl⟩ := onlyIf_of e
  exact con_lafter x r h hp.1 hp.2.1 hp.2.2
end Go.Proofs.Ytnekemldcjegaaa.Aw

/- Plain models and walks of chapter 1, printed by wip/gen/ch1.py. -/
namespace Go.Proofs.Ytnekemldcjegaaa.Aw
open Go Go.RowKit Go.Proofs
set_option maxRecDepth 100000
set_option maxHeartbeats 4000000
set_option linter.unusedSimpArgs false
set_option linter.unusedVariables false
noncomputable section
def m_law01_in (N : Nat) (n_1 : Int) (s_2 : Span) : Option (Bool) :=
  (show Option (Bool) from
    if icmpR .geq n_1 s_2.low then
      some (icmpR .leq n_1 s_2.high)
    else
      some false).bind fun q => match q with
  | v_3 =>
    some v_3
theorem w_law01_in (N : Nat) (n_1 : Int) (s_2 : Span) (o : Bool) (h : m_law01_in N n_1 s_2 = some o) :
    KC Try.prog 50 [.int .i64 n_1, .agg [.int .i64 s_2.low, .int .i64 s_2.high]] (.bool o) [] := by
  unfold m_law01_in at h
  refine con_l [] [1000001] seat Try.func50 rfl ent_50 (by kernel_rfl) rfl rfl (by simp) ?_; intro base I hI; (conv => cbv)
  refine L_cut hI seat [] (by kernel_rfl) h (fun q => match q with | v_3 => .normal) (fun q => match q with | v_3 => ⟨15, [(4, .bool v_3)], [], [], 0⟩) ?_ ?_; all_goals clear h
  · intro x h R hR
    (conv => cbv)
    refine L_tst hI h (by subst_vars; rfl) ?_ ?_ <;> clear h <;> intro h
    · exact hR _ _ (Option.some.inj h).symm (by subst_vars; exact weak_l rfl rfl ⟨lE, trivial⟩ trivial trivial)
    · exact hR _ _ (Option.some.inj h).symm (by subst_vars; exact weak_l rfl rfl ⟨lE, trivial⟩ trivial trivial)
  · intro v_3 h
    (conv => cbv)
    cases h
    subst_vars
    exact ⟨lE, rfl⟩
end
end Go.Proofs.Ytnekemldcjegaaa.Aw

/- Plain model and walk of a law, printed by wip/gen/ch1.py. -/
namespace Go.Proofs.Ytnekemldcjegaaa.Aw
open Go Go.RowKit Go.Proofs
set_option maxRecDepth 100000
set_option maxHeartbeats 4000000
set_option linter.unusedSimpArgs false
set_option linter.unusedVariables false
noncomputable section
def m_law01_ClothBetween_L2 (N : Nat) (p_1 : law01_Bolt) (v_266 : Int) (r_268 : (List Span) × Int) (r_6 : (List Span) × Int) (v_190 : Int) (v_189 : (List Span)) : Int → Option ((Int) ⊕ ((Unit) ⊕ (Unit)))
  | v_281 =>
    if icmpR .lss v_281 3 then
      (m_law01_Bolt_truth N p_1 v_281).bind fun r_293 =>
      (show Option (Bool) from
        (m_law01_after N r_293.1 r_293.2 v_266).bind fun r_295 =>
        (getO span0 r_268.1 v_281).bind fun x_296 =>
        (m_law01_in N r_295 x_296).bind fun r_297 =>
        if !r_297 then
          some true
        else
          (getO span0 r_6.1 v_281).bind fun x_298 =>
          (m_law01_in N r_293.2 x_298).bind fun r_299 =>
          if !r_299 then
            some true
          else
            if icmpR .eql v_190 1 then
              (getO span0 r_268.1 v_281).bind fun x_300 =>
              (getO span0 v_189 v_281).bind fun x_301 =>
              if icmpR .gtr x_300.low x_301.low then
                some true
              else
                (getO span0 r_268.1 v_281).bind fun x_302 =>
                (getO span0 v_189 v_281).bind fun x_303 =>
                some (icmpR .gtr x_302.high x_303.high)
            else
              some false).bind fun q => match q with
      | v_294 =>
        if v_294 then
          some (.inr (.inl ()))
        else
          some (.inl (iopR .add .i64 v_281 1))
    else
      some (.inr (.inr ()))
def m_law01_ClothBetween_L3 (N : Nat) (r_13 : (List Tru)) (v_266 : Int) (r_268 : (List Span) × Int) (v_11 : Int) : (Bool × Bool × Int) → Option ((Bool × Bool × Int) ⊕ ((Unit) ⊕ (Bool × Bool)))
  | (v_313, v_314, v_315) =>
    if icmpR .lss v_315 ((r_13.length : Nat) : Int) then
      (getO tru0 r_13 v_315).bind fun x_328 =>
      (getO tru0 r_13 v_315).bind fun x_329 =>
      (m_law01_after N x_328.first x_329.rate v_266).bind fun r_330 =>
      (show Option (Bool × Bool) from
        if v_313 then
          if v_314 then
            some (true, true)
          else
            (getO span0 r_268.1 v_11).bind fun x_333 =>
            some (icmpR .eql r_330 x_333.high, true)
        else
          (getO span0 r_268.1 v_11).bind fun x_334 =>
          if v_314 then
            some (true, icmpR .eql r_330 x_334.low)
          else
            (getO span0 r_268.1 v_11).bind fun x_335 =>
            some (icmpR .eql r_330 x_335.high, icmpR .eql r_330 x_334.low)).bind fun q => match q with
      | (v_331, v_332) =>
        (getO span0 r_268.1 v_11).bind fun x_336 =>
        (m_law01_in N r_330 x_336).bind fun r_337 =>
        if !r_337 then
          some (.inr (.inl ()))
        else
          some (.inl (v_332, v_331, iopR .add .i64 v_315 1))
    else
      some (.inr (.inr (v_313, v_314)))
def m_law01_ClothBetween_L1 (N : Nat) (p_2 : A2_u8) (r_9 : Int × Int × Int) (r_4 : api_Cloth) (p_1 : law01_Bolt) (r_6 : (List Span) × Int) (r_13 : (List Tru)) (v_11 : Int) (v_12 : Int) : ((List Span) × Int) → Option (((List Span) × Int) ⊕ ((Unit) ⊕ (Unit)))
  | (v_189, v_190) =>
    if icmpR .lss v_190 4 then
      (show Option (Int) from
        if 0 ≤ v_190 ∧ v_190 < (4 : Int) then
          if icmpR .eql v_190 0 then
            some (iopR .rem .i64 (IntKind.wrap .i64 p_2.a1) 48)
          else
            if icmpR .eql v_190 1 then
              some (iopR .add .i64 (iopR .rem .i64 (IntKind.wrap .i64 p_2.a1) 48) 1)
            else
              if icmpR .eql v_190 2 then
                some (min r_9.1 48)
              else
                some (min r_9.2.1 48)
        else none).bind fun q => match q with
      | v_266 =>
        (m_law01_own N r_4).bind fun r_267 =>
        (m_cloth_At N r_267 v_266).bind fun r_268 =>
        (show Option (Bool) from
          if icmpR .neq r_268.2 0 then
            some true
          else
            some (icmpR .neq ((r_268.1.length : Nat) : Int) 3)).bind fun q => match q with
        | v_269 =>
          if v_269 then
            some (.inr (.inl ()))
          else
            (loopO (m_law01_ClothBetween_L2 N p_1 v_266 r_268 r_6 v_190 v_189) N 0).bind fun q => match q with
            | (.inl ()) =>
              some (.inr (.inl ()))
            | (.inr ()) =>
              (loopO (m_law01_ClothBetween_L3 N r_13 v_266 r_268 v_11) N (false, false, 0)).bind fun q => match q with
              | (.inl ()) =>
                some (.inr (.inl ()))
              | (.inr (v_326, v_327)) =>
                (show Option (Bool) from
                  if !v_326 then
                    some true
                  else
                    if !v_327 then
                      some true
                    else
                      (getO span0 r_268.1 v_11).bind fun x_339 =>
                      if !((icmpR .geq v_266 r_9.1) == (icmpR .leq x_339.high v_12)) then
                        some true
                      else
                        (getO span0 r_268.1 v_11).bind fun x_340 =>
                        some (!((icmpR .geq v_266 r_9.2.1) == (icmpR .leq x_340.low v_12)))).bind fun q => match q with
                | v_338 =>
                  if v_338 then
                    some (.inr (.inl ()))
                  else
                    some (.inl (r_268.1, iopR .add .i64 v_190 1))
    else
      some (.inr (.inr ()))
def m_law01_ClothBetween (N : Nat) (p_1 : law01_Bolt) (p_2 : A2_u8) (p_3 : Int) : Option (Bool) :=
  (m_law01_Bolt_cloth N p_1).bind fun r_4 =>
  (m_law01_own N r_4).bind fun r_5 =>
  (m_cloth_Rates N r_5).bind fun r_6 =>
  (show Option (Bool) from
    if icmpR .neq r_6.2 0 then
      some true
    else
      some (icmpR .neq ((r_6.1.length : Nat) : Int) 3)).bind fun q => match q with
  | v_7 =>
    if v_7 then
      some false
    else
      (m_law01_own N r_4).bind fun r_8 =>
      (m_cloth_Below N r_8 (iopR .rem .i64 (IntKind.wrap .i64 p_2.a0) 3) (iopR .rem .i64 (IntKind.wrap .i64 p_3) 2001)).bind fun r_9 =>
      letO (iopR .rem .i64 (IntKind.wrap .i64 p_2.a0) 3) fun v_11 =>
      letO (iopR .rem .i64 (IntKind.wrap .i64 p_3) 2001) fun v_12 =>
      (show Option (Bool) from
        if icmpR .neq r_9.2.2 0 then
          some true
        else
          if icmpR .lss r_9.1 r_9.2.1 then
            some true
          else
            if icmpR .lss r_9.2.1 0 then
              some true
            else
              some (icmpR .gtr r_9.1 49)).bind fun q => match q with
      | v_10 =>
        if v_10 then
          some false
        else
          (m_law01_truths N r_4 v_11).bind fun r_13 =>
          (loopO (m_law01_ClothBetween_L1 N p_2 r_9 r_4 p_1 r_6 r_13 v_11 v_12) N ([], 0)).bind fun q => match q with
          | (.inl ()) =>
            some false
          | (.inr ()) =>
            (m_law01_known N).bind fun r_341 =>
            some r_341
theorem w_law01_ClothBetween (N : Nat) (p_1 : law01_Bolt) (p_2 : A2_u8) (p_3 : Int) (o : Bool) (h : m_law01_ClothBetween N p_1 p_2 p_3 = some o) :
    KC Try.prog 9 [.agg [.int .u8 p_1.Tracks.a0.a, .int .u8 p_1.Tracks.a0.b, .int .u8 p_1.Tracks.a0.c, .int .u8 p_1.Tracks.a0.d, .int .u8 p_1.Tracks.a1.a, .int .u8 p_1.Tracks.a1.b, .int .u8 p_1.Tracks.a1.c, .int .u8 p_1.Tracks.a1.d, .int .u8 p_1.Tracks.a2.a, .int .u8 p_1.Tracks.a2.b, .int .u8 p_1.Tracks.a2.c, .int .u8 p_1.Tracks.a2.d, slB4 false p_1.Measures], .agg [.int .u8 p_2.a0, .int .u8 p_2.a1], .int .u16 p_3] (.bool o) [] := by
  unfold m_law01_ClothBetween at h
  refine con_l [] [1000003, 1000007, 1000013, 1000015, 1000021, 1000028, 1000031] seat Try.func9 rfl ent_9 (by kernel_rfl) rfl rfl (by simp) ?_; intro base I hI; (conv => cbv)
  refine L_call hI h (fun v hv => w_law01_Bolt_cloth N p_1 v hv) (by subst_vars; exact ⟨(leD_refl _), rfl⟩) ?_; clear h; intro r_4 h; (conv => cbv)
  refine L_call hI h (fun v hv => w_law01_own N r_4 v hv) (by subst_vars; exact ⟨(leD_refl _), rfl⟩) ?_; clear h; intro r_5 h; (conv => cbv)
  refine L_call hI h (fun v hv => w_cloth_Rates N r_5 v hv) (by subst_vars; exact ⟨(leD_refl _), rfl⟩) ?_; clear h; intro r_6 h; (conv => cbv)
  refine L_cut hI seat [1000007, 1000013, 1000015, 1000021, 1000028, 1000031] (by kernel_rfl) h (fun q => match q with | v_7 => .normal) (fun q => match q with | v_7 => ⟨250, [(2, .int .u16 p_3), (3, .loc 0 0), (4, .loc 1 0), (7, .loc 2 0), (8, slSpan false r_6.1), (42, .bool v_7)], [(2, ⟨25, [slTrack false r_4.Tracks, slMeas false r_4.Measures], true⟩), (1, ⟨78, [.int .u8 p_2.a0, .int .u8 p_2.a1], true⟩), (0, ⟨77, [.int .u8 p_1.Tracks.a0.a, .int .u8 p_1.Tracks.a0.b, .int .u8 p_1.Tracks.a0.c, .int .u8 p_1.Tracks.a0.d, .int .u8 p_1.Tracks.a1.a, .int .u8 p_1.Tracks.a1.b, .int .u8 p_1.Tracks.a1.c, .int .u8 p_1.Tracks.a1.d, .int .u8 p_1.Tracks.a2.a, .int .u8 p_1.Tracks.a2.b, .int .u8 p_1.Tracks.a2.c, .int .u8 p_1.Tracks.a2.d, slB4 false p_1.Measures], true⟩)], [], 0⟩) ?_ ?_; all_goals clear h
  · intro x h R hR
    (conv => cbv)
    refine L_tst hI h (by subst_vars; rfl) ?_ ?_ <;> clear h <;> intro h
    · exact hR _ _ (Option.some.inj h).symm (by subst_vars; exact weak_l rfl rfl ⟨lE, lR, lR, lR, LV_sl, lE, trivial⟩ ⟨lB ⟨LV_sl, LV_sl, rfl⟩, lB ⟨lE, lE, rfl⟩, lB ⟨lE, lE, lE, lE, lE, lE, lE, lE, lE, lE, lE, lE, LV_sl, rfl⟩, trivial⟩ trivial)
    · exact hR _ _ (Option.some.inj h).symm (by subst_vars; exact weak_l rfl rfl ⟨lE, lR, lR, lR, LV_sl, lE, trivial⟩ ⟨lB ⟨LV_sl, LV_sl, rfl⟩, lB ⟨lE, lE, rfl⟩, lB ⟨lE, lE, lE, lE, lE, lE, lE, lE, lE, lE, lE, lE, LV_sl, rfl⟩, trivial⟩ trivial)
  · intro v_7 h
    (conv => cbv)
    refine L_tst hI h (by subst_vars; rfl) ?_ ?_ <;> clear h <;> intro h
    · cases h
      subst_vars
      exact ⟨lE, rfl⟩
    · refine L_call hI h (fun v hv => w_law01_own N r_4 v hv) (by subst_vars; exact ⟨(leD_refl _), rfl⟩) ?_; clear h; intro r_8 h; (conv => cbv)
      refine L_call hI h (fun v hv => w_cloth_Below N r_8 (iopR .rem .i64 (IntKind.wrap .i64 p_2.a0) 3) (iopR .rem .i64 (IntKind.wrap .i64 p_3) 2001) v hv) (by subst_vars; exact ⟨(leD_refl _), (leD_refl _), (leD_refl _), rfl⟩) ?_; clear h; intro r_9 h; (conv => cbv)
      replace h := letO_of h; obtain ⟨v_11, hev_11, h⟩ := h
      replace h := letO_of h; obtain ⟨v_12, hev_12, h⟩ := h
      refine L_cut hI seat [1000003, 1000013, 1000015, 1000021, 1000028, 1000031] (by kernel_rfl) h (fun q => match q with | v_10 => .normal) (fun q => match q with | v_10 => ⟨250, [(3, .loc 0 0), (4, .loc 1 0), (7, .loc 2 0), (8, slSpan false r_6.1), (10, .int .i64 v_11), (11, .int .i64 v_12), (12, .int .i64 r_9.1), (13, .int .i64 r_9.2.1), (73, .bool v_10)], [(2, ⟨25, [slTrack false r_4.Tracks, slMeas false r_4.Measures], true⟩), (1, ⟨78, [.int .u8 p_2.a0, .int .u8 p_2.a1], true⟩), (0, ⟨77, [.int .u8 p_1.Tracks.a0.a, .int .u8 p_1.Tracks.a0.b, .int .u8 p_1.Tracks.a0.c, .int .u8 p_1.Tracks.a0.d, .int .u8 p_1.Tracks.a1.a, .int .u8 p_1.Tracks.a1.b, .int .u8 p_1.Tracks.a1.c, .int .u8 p_1.Tracks.a1.d, .int .u8 p_1.Tracks.a2.a, .int .u8 p_1.Tracks.a2.b, .int .u8 p_1.Tracks.a2.c, .int .u8 p_1.Tracks.a2.d, slB4 false p_1.Measures], true⟩)], [], 0⟩) ?_ ?_; all_goals clear h
      · intro x h R hR
        (conv => cbv)
        refine L_tst hI h (by subst_vars; rfl) ?_ ?_ <;> clear h <;> intro h
        · exact hR _ _ (Option.some.inj h).symm (by subst_vars; exact weak_l rfl rfl ⟨lR, lR, lR, LV_sl, lE, lE, lE, lE, lE, trivial⟩ ⟨lB ⟨LV_sl, LV_sl, rfl⟩, lB ⟨lE, lE, rfl⟩, lB ⟨lE, lE, lE, lE, lE, lE, lE, lE, lE, lE, lE, lE, LV_sl, rfl⟩, trivial⟩ trivial)
        · refine L_tst hI h (by subst_vars; rfl) ?_ ?_ <;> clear h <;> intro h
          · exact hR _ _ (Option.some.inj h).symm (by subst_vars; exact weak_l rfl rfl ⟨lR, lR, lR, LV_sl, lE, lE, lE, lE, lE, trivial⟩ ⟨lB ⟨LV_sl, LV_sl, rfl⟩, lB ⟨lE, lE, rfl⟩, lB ⟨lE, lE, lE, lE, lE, lE, lE, lE, lE, lE, lE, lE, LV_sl, rfl⟩, trivial⟩ trivial)
          · refine L_tst hI h (by subst_vars; rfl) ?_ ?_ <;> clear h <;> intro h
            · exact hR _ _ (Option.some.inj h).symm (by subst_vars; exact weak_l rfl rfl ⟨lR, lR, lR, LV_sl, lE, lE, lE, lE, lE, trivial⟩ ⟨lB ⟨LV_sl, LV_sl, rfl⟩, lB ⟨lE, lE, rfl⟩, lB ⟨lE, lE, lE, lE, lE, lE, lE, lE, lE, lE, lE, lE, LV_sl, rfl⟩, trivial⟩ trivial)
            · exact hR _ _ (Option.some.inj h).symm (by subst_vars; exact weak_l rfl rfl ⟨lR, lR, lR, LV_sl, lE, lE, lE, lE, lE, trivial⟩ ⟨lB ⟨LV_sl, LV_sl, rfl⟩, lB ⟨lE, lE, rfl⟩, lB ⟨lE, lE, lE, lE, lE, lE, lE, lE, lE, lE, lE, lE, LV_sl, rfl⟩, trivial⟩ trivial)
      · intro v_10 h
        (conv => cbv)
        refine L_tst hI h (by subst_vars; rfl) ?_ ?_ <;> clear h <;> intro h
        · cases h
          subst_vars
          exact ⟨lE, rfl⟩
        · refine L_call hI h (fun v hv => w_law01_truths N r_4 v_11 v hv) (by subst_vars; exact ⟨(leD_refl _), (leD_refl _), rfl⟩) ?_; clear h; intro r_13 h; (conv => cbv)
          refine L_loop hI seat [1000003, 1000007, 1000013, 1000015, 1000021, 1000028, 1000031] (by kernel_rfl) h (fun q => match q with | (v_189, v_190) => ⟨250, [(3, .loc 0 0), (4, .loc 1 0), (7, .loc 2 0), (8, slSpan false r_6.1), (10, .int .i64 v_11), (11, .int .i64 v_12), (12, .int .i64 r_9.1), (13, .int .i64 r_9.2.1), (15, slSpan false v_189), (16, slTru false r_13), (17, .int .i64 v_190)], [(2, ⟨25, [slTrack false r_4.Tracks, slMeas false r_4.Measures], true⟩), (1, ⟨78, [.int .u8 p_2.a0, .int .u8 p_2.a1], true⟩), (0, ⟨77, [.int .u8 p_1.Tracks.a0.a, .int .u8 p_1.Tracks.a0.b, .int .u8 p_1.Tracks.a0.c, .int .u8 p_1.Tracks.a0.d, .int .u8 p_1.Tracks.a1.a, .int .u8 p_1.Tracks.a1.b, .int .u8 p_1.Tracks.a1.c, .int .u8 p_1.Tracks.a1.d, .int .u8 p_1.Tracks.a2.a, .int .u8 p_1.Tracks.a2.b, .int .u8 p_1.Tracks.a2.c, .int .u8 p_1.Tracks.a2.d, slB4 false p_1.Measures], true⟩)], [], 0⟩) (fun q => match q with | (.inl ()) => .ret | (.inr ()) => .exit 0) (fun q => match q with | (.inl ()) => ⟨250, [(6, .ff)], [], [], 0⟩ | (.inr ()) => ⟨250, [], [], [], 0⟩) (by subst_vars; exact weak_f [3] (weak_l rfl rfl ⟨lR, lR, lR, LV_sl, lE, lE, lE, lE, (LV_raw rfl), LV_sl, lE, trivial⟩ ⟨lB ⟨LV_sl, LV_sl, rfl⟩, lB ⟨lE, lE, rfl⟩, lB ⟨lE, lE, lE, lE, lE, lE, lE, lE, lE, lE, lE, lE, LV_sl, rfl⟩, trivial⟩ trivial)) (by intro q; rcases q with (_ | _) <;> (intro e; exact Exit.noConfusion e)) ?_ ?_; all_goals clear h
          · intro q x h R hR hX
            obtain ⟨v_189, v_190⟩ := q
            rw [m_law01_ClothBetween_L1] at h
            (conv => cbv)
            refine L_tst hI h (by subst_vars; rfl) ?_ ?_ <;> clear h <;> intro h
            · refine L_cut hI seat [1000003, 1000007, 1000015, 1000021, 1000028, 1000031] (by kernel_rfl) h (fun q => match q with | v_266 => .normal) (fun q => match q with | v_266 => ⟨250, [(3, .loc 0 0), (4, .loc 1 0), (7, .loc 2 0), (8, slSpan false r_6.1), (10, .int .i64 v_11), (11, .int .i64 v_12), (12, .int .i64 r_9.1), (13, .int .i64 r_9.2.1), (15, slSpan false v_189), (16, slTru false r_13), (17, .int .i64 v_190), (18, .int .i64 v_266)], [(2, ⟨25, [slTrack false r_4.Tracks, slMeas false r_4.Measures], true⟩), (1, ⟨78, [.int .u8 p_2.a0, .int .u8 p_2.a1], true⟩), (0, ⟨77, [.int .u8 p_1.Tracks.a0.a, .int .u8 p_1.Tracks.a0.b, .int .u8 p_1.Tracks.a0.c, .int .u8 p_1.Tracks.a0.d, .int .u8 p_1.Tracks.a1.a, .int .u8 p_1.Tracks.a1.b, .int .u8 p_1.Tracks.a1.c, .int .u8 p_1.Tracks.a1.d, .int .u8 p_1.Tracks.a2.a, .int .u8 p_1.Tracks.a2.b, .int .u8 p_1.Tracks.a2.c, .int .u8 p_1.Tracks.a2.d, slB4 false p_1.Measures], true⟩)], [], 0⟩) ?_ ?_; all_goals clear h
              · intro x h R hR
                (conv => cbv)
                refine L_conj hI h (fun g => by subst_vars; exact g) ?_; clear h; intro hc h
                refine L_tst hI h (by subst_vars; rfl) ?_ ?_ <;> clear h <;> intro h
                · exact hR _ _ (Option.some.inj h).symm (by subst_vars; exact weak_l rfl rfl ⟨lR, lR, lR, LV_sl, lE, lE, lE, lE, LV_sl, LV_sl, lE, lE, trivial⟩ ⟨lB ⟨LV_sl, LV_sl, rfl⟩, lB ⟨lE, lE, rfl⟩, lB ⟨lE, lE, lE, lE, lE, lE, lE, lE, lE, lE, lE, lE, LV_sl, rfl⟩, trivial⟩ trivial)
                · refine L_tst hI h (by subst_vars; rfl) ?_ ?_ <;> clear h <;> intro h
                  · exact hR _ _ (Option.some.inj h).symm (by subst_vars; exact weak_l rfl rfl ⟨lR, lR, lR, LV_sl, lE, lE, lE, lE, LV_sl, LV_sl, lE, lE, trivial⟩ ⟨lB ⟨LV_sl, LV_sl, rfl⟩, lB ⟨lE, lE, rfl⟩, lB ⟨lE, lE, lE, lE, lE, lE, lE, lE, lE, lE, lE, lE, LV_sl, rfl⟩, trivial⟩ trivial)
                  · refine L_tst hI h (by subst_vars; rfl) ?_ ?_ <;> clear h <;> intro h
                    · exact hR _ _ (Option.some.inj h).symm (by subst_vars; exact weak_l rfl rfl ⟨lR, lR, lR, LV_sl, lE, lE, lE, lE, LV_sl, LV_sl, lE, lE, trivial⟩ ⟨lB ⟨LV_sl, LV_sl, rfl⟩, lB ⟨lE, lE, rfl⟩, lB ⟨lE, lE, lE, lE, lE, lE, lE, lE, lE, lE, lE, lE, LV_sl, rfl⟩, trivial⟩ trivial)
                    · exact hR _ _ (Option.some.inj h).symm (by subst_vars; exact weak_l rfl rfl ⟨lR, lR, lR, LV_sl, lE, lE, lE, lE, LV_sl, LV_sl, lE, lE, trivial⟩ ⟨lB ⟨LV_sl, LV_sl, rfl⟩, lB ⟨lE, lE, rfl⟩, lB ⟨lE, lE, lE, lE, lE, lE, lE, lE, lE, lE, lE, lE, LV_sl, rfl⟩, trivial⟩ trivial)
              · intro v_266 h
                (conv => cbv)
                refine L_call hI h (fun v hv => w_law01_own N r_4 v hv) (by subst_vars; exact ⟨(leD_refl _), rfl⟩) ?_; clear h; intro r_267 h; (conv => cbv)
                refine L_call hI h (fun v hv => w_cloth_At N r_267 v_266 v hv) (by subst_vars; exact ⟨(leD_refl _), (leD_refl _), rfl⟩) ?_; clear h; intro r_268 h; (conv => cbv)
                refine L_cut hI seat [1000003, 1000007, 1000013, 1000021, 1000028, 1000031] (by kernel_rfl) h (fun q => match q with | v_269 => .normal) (fun q => match q with | v_269 => ⟨250, [(3, .loc 0 0), (4, .loc 1 0), (7, .loc 2 0), (8, slSpan false r_6.1), (10, .int .i64 v_11), (11, .int .i64 v_12), (12, .int .i64 r_9.1), (13, .int .i64 r_9.2.1), (15, slSpan false v_189), (16, slTru false r_13), (17, .int .i64 v_190), (18, .int .i64 v_266), (19, slSpan false r_268.1), (111, .bool v_269)], [(2, ⟨25, [slTrack false r_4.Tracks, slMeas false r_4.Measures], true⟩), (1, ⟨78, [.int .u8 p_2.a0, .int .u8 p_2.a1], true⟩), (0, ⟨77, [.int .u8 p_1.Tracks.a0.a, .int .u8 p_1.Tracks.a0.b, .int .u8 p_1.Tracks.a0.c, .int .u8 p_1.Tracks.a0.d, .int .u8 p_1.Tracks.a1.a, .int .u8 p_1.Tracks.a1.b, .int .u8 p_1.Tracks.a1.c, .int .u8 p_1.Tracks.a1.d, .int .u8 p_1.Tracks.a2.a, .int .u8 p_1.Tracks.a2.b, .int .u8 p_1.Tracks.a2.c, .int .u8 p_1.Tracks.a2.d, slB4 false p_1.Measures], true⟩)], [], 0⟩) ?_ ?_; all_goals clear h
                · intro x h R hR
                  (conv => cbv)
                  refine L_tst hI h (by subst_vars; rfl) ?_ ?_ <;> clear h <;> intro h
                  · exact hR _ _ (Option.some.inj h).symm (by subst_vars; exact weak_l rfl rfl ⟨lR, lR, lR, LV_sl, lE, lE, lE, lE, LV_sl, LV_sl, lE, lE, LV_sl, lE, trivial⟩ ⟨lB ⟨LV_sl, LV_sl, rfl⟩, lB ⟨lE, lE, rfl⟩, lB ⟨lE, lE, lE, lE, lE, lE, lE, lE, lE, lE, lE, lE, LV_sl, rfl⟩, trivial⟩ trivial)
                  · exact hR _ _ (Option.some.inj h).symm (by subst_vars; exact weak_l rfl rfl ⟨lR, lR, lR, LV_sl, lE, lE, lE, lE, LV_sl, LV_sl, lE, lE, LV_sl, lE, trivial⟩ ⟨lB ⟨LV_sl, LV_sl, rfl⟩, lB ⟨lE, lE, rfl⟩, lB ⟨lE, lE, lE, lE, lE, lE, lE, lE, lE, lE, lE, lE, LV_sl, rfl⟩, trivial⟩ trivial)
                · intro v_269 h
                  (conv => cbv)
                  refine L_tst hI h (by subst_vars; rfl) ?_ ?_ <;> clear h <;> intro h
                  · exact hX _ _ (Option.some.inj h).symm (by subst_vars; exact weak_l rfl rfl ⟨lE, trivial⟩ trivial trivial)
                  · refine L_loop hI seat [1000003, 1000007, 1000013, 1000015, 1000021, 1000028, 1000031] (by kernel_rfl) h (fun q => match q with | v_281 => ⟨250, [(3, .loc 0 0), (4, .loc 1 0), (7, .loc 2 0), (8, slSpan false r_6.1), (10, .int .i64 v_11), (11, .int .i64 v_12), (12, .int .i64 r_9.1), (13, .int .i64 r_9.2.1), (15, slSpan false v_189), (16, slTru false r_13), (17, .int .i64 v_190), (18, .int .i64 v_266), (19, slSpan false r_268.1), (21, .int .i64 v_281)], [(2, ⟨25, [slTrack false r_4.Tracks, slMeas false r_4.Measures], true⟩), (1, ⟨78, [.int .u8 p_2.a0, .int .u8 p_2.a1], true⟩), (0, ⟨77, [.int .u8 p_1.Tracks.a0.a, .int .u8 p_1.Tracks.a0.b, .int .u8 p_1.Tracks.a0.c, .int .u8 p_1.Tracks.a0.d, .int .u8 p_1.Tracks.a1.a, .int .u8 p_1.Tracks.a1.b, .int .u8 p_1.Tracks.a1.c, .int .u8 p_1.Tracks.a1.d, .int .u8 p_1.Tracks.a2.a, .int .u8 p_1.Tracks.a2.b, .int .u8 p_1.Tracks.a2.c, .int .u8 p_1.Tracks.a2.d, slB4 false p_1.Measures], true⟩)], [], 0⟩) (fun q => match q with | (.inl ()) => .ret | (.inr ()) => .exit 2) (fun q => match q with | (.inl ()) => ⟨250, [(6, .ff)], [], [], 0⟩ | (.inr ()) => ⟨250, [(3, .loc 0 0), (4, .loc 1 0), (7, .loc 2 0), (8, slSpan false r_6.1), (10, .int .i64 v_11), (11, .int .i64 v_12), (12, .int .i64 r_9.1), (13, .int .i64 r_9.2.1), (16, slTru false r_13), (17, .int .i64 v_190), (18, .int .i64 v_266), (19, slSpan false r_268.1)], [(2, ⟨25, [slTrack false r_4.Tracks, slMeas false r_4.Measures], true⟩), (1, ⟨78, [.int .u8 p_2.a0, .int .u8 p_2.a1], true⟩), (0, ⟨77, [.int .u8 p_1.Tracks.a0.a, .int .u8 p_1.Tracks.a0.b, .int .u8 p_1.Tracks.a0.c, .int .u8 p_1.Tracks.a0.d, .int .u8 p_1.Tracks.a1.a, .int .u8 p_1.Tracks.a1.b, .int .u8 p_1.Tracks.a1.c, .int .u8 p_1.Tracks.a1.d, .int .u8 p_1.Tracks.a2.a, .int .u8 p_1.Tracks.a2.b, .int .u8 p_1.Tracks.a2.c, .int .u8 p_1.Tracks.a2.d, slB4 false p_1.Measures], true⟩)], [], 0⟩) (by subst_vars; exact weak_l rfl rfl ⟨lR, lR, lR, LV_sl, lE, lE, lE, lE, LV_sl, LV_sl, lE, lE, LV_sl, lE, trivial⟩ ⟨lB ⟨LV_sl, LV_sl, rfl⟩, lB ⟨lE, lE, rfl⟩, lB ⟨lE, lE, lE, lE, lE, lE, lE, lE, lE, lE, lE, lE, LV_sl, rfl⟩, trivial⟩ trivial) (by intro q; rcases q with (_ | _) <;> (intro e; exact Exit.noConfusion e)) ?_ ?_; all_goals clear h
                    · intro v_281 x h R hR hX
                      rw [m_law01_ClothBetween_L2] at h
                      (conv => cbv)
                      refine L_tst hI h (by subst_vars; rfl) ?_ ?_ <;> clear h <;> intro h
                      · refine L_call hI h (fun v hv => w_law01_Bolt_truth N p_1 v_281 v hv) (by subst_vars; exact ⟨(leD_refl _), (leD_refl _), rfl⟩) ?_; clear h; intro r_293 h; (conv => cbv)
                        refine L_cut hI seat [1000003, 1000007, 1000013, 1000015, 1000028, 1000031] (by kernel_rfl) h (fun q => match q with | v_294 => .normal) (fun q => match q with | v_294 => ⟨250, [(3, .loc 0 0), (4, .loc 1 0), (7, .loc 2 0), (8, slSpan false r_6.1), (10, .int .i64 v_11), (11, .int .i64 v_12), (12, .int .i64 r_9.1), (13, .int .i64 r_9.2.1), (15, slSpan false v_189), (16, slTru false r_13), (17, .int .i64 v_190), (18, .int .i64 v_266), (19, slSpan false r_268.1), (21, .int .i64 v_281), (170, .bool v_294)], [(2, ⟨25, [slTrack false r_4.Tracks, slMeas false r_4.Measures], true⟩), (1, ⟨78, [.int .u8 p_2.a0, .int .u8 p_2.a1], true⟩), (0, ⟨77, [.int .u8 p_1.Tracks.a0.a, .int .u8 p_1.Tracks.a0.b, .int .u8 p_1.Tracks.a0.c, .int .u8 p_1.Tracks.a0.d, .int .u8 p_1.Tracks.a1.a, .int .u8 p_1.Tracks.a1.b, .int .u8 p_1.Tracks.a1.c, .int .u8 p_1.Tracks.a1.d, .int .u8 p_1.Tracks.a2.a, .int .u8 p_1.Tracks.a2.b, .int .u8 p_1.Tracks.a2.c, .int .u8 p_1.Tracks.a2.d, slB4 false p_1.Measures], true⟩)], [], 0⟩) ?_ ?_; all_goals clear h
                        · intro x h R hR
                          (conv => cbv)
                          refine L_call hI h (fun v hv => w_law01_after N r_293.1 r_293.2 v_266 v hv) (by subst_vars; exact ⟨(leD_refl _), (leD_refl _), (leD_refl _), rfl⟩) ?_; clear h; intro r_295 h; (conv => cbv)
                          refine L_get hI h (fun g => by subst_vars; exact g) ?_; clear h; intro hc x_296 hxx_296 h
                          refine L_call hI h (fun v hv => w_law01_in N r_295 x_296 v hv) (by subst_vars; exact ⟨(leD_refl _), (leD_refl _), rfl⟩) ?_; clear h; intro r_297 h; (conv => cbv)
                          refine L_tst hI h (by subst_vars; rfl) ?_ ?_ <;> clear h <;> intro h
                          · exact hR _ _ (Option.some.inj h).symm (by subst_vars; exact weak_l rfl rfl ⟨lR, lR, lR, LV_sl, lE, lE, lE, lE, LV_sl, LV_sl, lE, lE, LV_sl, lE, lE, trivial⟩ ⟨lB ⟨LV_sl, LV_sl, rfl⟩, lB ⟨lE, lE, rfl⟩, lB ⟨lE, lE, lE, lE, lE, lE, lE, lE, lE, lE, lE, lE, LV_sl, rfl⟩, trivial⟩ trivial)
                          · refine L_get hI h (fun g => by subst_vars; exact g) ?_; clear h; intro hc x_298 hxx_298 h
                            refine L_call hI h (fun v hv => w_law01_in N r_293.2 x_298 v hv) (by subst_vars; exact ⟨(leD_refl _), (leD_refl _), rfl⟩) ?_; clear h; intro r_299 h; (conv => cbv)
                            refine L_tst hI h (by subst_vars; rfl) ?_ ?_ <;> clear h <;> intro h
                            · exact hR _ _ (Option.some.inj h).symm (by subst_vars; exact weak_l rfl rfl ⟨lR, lR, lR, LV_sl, lE, lE, lE, lE, LV_sl, LV_sl, lE, lE, LV_sl, lE, lE, trivial⟩ ⟨lB ⟨LV_sl, LV_sl, rfl⟩, lB ⟨lE, lE, rfl⟩, lB ⟨lE, lE, lE, lE, lE, lE, lE, lE, lE, lE, lE, lE, LV_sl, rfl⟩, trivial⟩ trivial)
                            · refine L_tst hI h (by subst_vars; rfl) ?_ ?_ <;> clear h <;> intro h
                              · refine L_get hI h (fun g => by subst_vars; exact g) ?_; clear h; intro hc x_300 hxx_300 h
                                refine L_get hI h (fun g => by subst_vars; exact g) ?_; clear h; intro hc x_301 hxx_301 h
                                refine L_tst hI h (by subst_vars; rfl) ?_ ?_ <;> clear h <;> intro h
                                · exact hR _ _ (Option.some.inj h).symm (by subst_vars; exact weak_l rfl rfl ⟨lR, lR, lR, LV_sl, lE, lE, lE, lE, LV_sl, LV_sl, lE, lE, LV_sl, lE, lE, trivial⟩ ⟨lB ⟨LV_sl, LV_sl, rfl⟩, lB ⟨lE, lE, rfl⟩, lB ⟨lE, lE, lE, lE, lE, lE, lE, lE, lE, lE, lE, lE, LV_sl, rfl⟩, trivial⟩ trivial)
                                · refine L_get hI h (fun g => by subst_vars; exact g) ?_; clear h; intro hc x_302 hxx_302 h
                                  refine L_get hI h (fun g => by subst_vars; exact g) ?_; clear h; intro hc x_303 hxx_303 h
                                  exact hR _ _ (Option.some.inj h).symm (by subst_vars; exact weak_l rfl rfl ⟨lR, lR, lR, LV_sl, lE, lE, lE, lE, LV_sl, LV_sl, lE, lE, LV_sl, lE, lE, trivial⟩ ⟨lB ⟨LV_sl, LV_sl, rfl⟩, lB ⟨lE, lE, rfl⟩, lB ⟨lE, lE, lE, lE, lE, lE, lE, lE, lE, lE, lE, lE, LV_sl, rfl⟩, trivial⟩ trivial)
                              · exact hR _ _ (Option.some.inj h).symm (by subst_vars; exact weak_l rfl rfl ⟨lR, lR, lR, LV_sl, lE, lE, lE, lE, LV_sl, LV_sl, lE, lE, LV_sl, lE, lE, trivial⟩ ⟨lB ⟨LV_sl, LV_sl, rfl⟩, lB ⟨lE, lE, rfl⟩, lB ⟨lE, lE, lE, lE, lE, lE, lE, lE, lE, lE, lE, lE, LV_sl, rfl⟩, trivial⟩ trivial)
                        · intro v_294 h
                          (conv => cbv)
                          refine L_tst hI h (by subst_vars; rfl) ?_ ?_ <;> clear h <;> intro h
                          · exact hX _ _ (Option.some.inj h).symm (by subst_vars; exact weak_l rfl rfl ⟨lE, trivial⟩ trivial trivial)
                          · exact hR _ _ (Option.some.inj h).symm (by subst_vars; exact weak_l rfl rfl ⟨lR, lR, lR, LV_sl, lE, lE, lE, lE, LV_sl, LV_sl, lE, lE, LV_sl, lE, trivial⟩ ⟨lB ⟨LV_sl, LV_sl, rfl⟩, lB ⟨lE, lE, rfl⟩, lB ⟨lE, lE, lE, lE, lE, lE, lE, lE, lE, lE, lE, lE, LV_sl, rfl⟩, trivial⟩ trivial)
                      · exact hX _ _ (Option.some.inj h).symm (by subst_vars; exact weak_l rfl rfl ⟨lR, lR, lR, LV_sl, lE, lE, lE, lE, LV_sl, lE, lE, LV_sl, trivial⟩ ⟨lB ⟨LV_sl, LV_sl, rfl⟩, lB ⟨lE, lE, rfl⟩, lB ⟨lE, lE, lE, lE, lE, lE, lE, lE, lE, lE, lE, lE, LV_sl, rfl⟩, trivial⟩ trivial)
                    · intro q h
                      rcases q with (_ | _)
                      · (conv => cbv)
                        exact hX _ _ (Option.some.inj h).symm (by subst_vars; exact weak_l rfl rfl ⟨lE, trivial⟩ trivial trivial)
                      · (conv => cbv)
                        refine L_loop hI seat [1000003, 1000007, 1000013, 1000015, 1000021, 1000028, 1000031] (by kernel_rfl) h (fun q => match q with | (v_313, v_314, v_315) => ⟨250, [(3, .loc 0 0), (4, .loc 1 0), (7, .loc 2 0), (8, slSpan false r_6.1), (10, .int .i64 v_11), (11, .int .i64 v_12), (12, .int .i64 r_9.1), (13, .int .i64 r_9.2.1), (16, slTru false r_13), (17, .int .i64 v_190), (18, .int .i64 v_266), (19, slSpan false r_268.1), (24, .bool v_313), (25, .bool v_314), (26, .int .i64 v_315)], [(2, ⟨25, [slTrack false r_4.Tracks, slMeas false r_4.Measures], true⟩), (1, ⟨78, [.int .u8 p_2.a0, .int .u8 p_2.a1], true⟩), (0, ⟨77, [.int .u8 p_1.Tracks.a0.a, .int .u8 p_1.Tracks.a0.b, .int .u8 p_1.Tracks.a0.c, .int .u8 p_1.Tracks.a0.d, .int .u8 p_1.Tracks.a1.a, .int .u8 p_1.Tracks.a1.b, .int .u8 p_1.Tracks.a1.c, .int .u8 p_1.Tracks.a1.d, .int .u8 p_1.Tracks.a2.a, .int .u8 p_1.Tracks.a2.b, .int .u8 p_1.Tracks.a2.c, .int .u8 p_1.Tracks.a2.d, slB4 false p_1.Measures], true⟩)], [], 0⟩) (fun q => match q with | (.inl ()) => .ret | (.inr (v_326, v_327)) => .exit 4) (fun q => match q with | (.inl ()) => ⟨250, [(6, .ff)], [], [], 0⟩ | (.inr (v_326, v_327)) => ⟨250, [(3, .loc 0 0), (4, .loc 1 0), (7, .loc 2 0), (8, slSpan false r_6.1), (10, .int .i64 v_11), (11, .int .i64 v_12), (12, .int .i64 r_9.1), (13, .int .i64 r_9.2.1), (16, slTru false r_13), (17, .int .i64 v_190), (18, .int .i64 v_266), (19, slSpan false r_268.1), (24, .bool v_326), (25, .bool v_327)], [(2, ⟨25, [slTrack false r_4.Tracks, slMeas false r_4.Measures], true⟩), (1, ⟨78, [.int .u8 p_2.a0, .int .u8 p_2.a1], true⟩), (0, ⟨77, [.int .u8 p_1.Tracks.a0.a, .int .u8 p_1.Tracks.a0.b, .int .u8 p_1.Tracks.a0.c, .int .u8 p_1.Tracks.a0.d, .int .u8 p_1.Tracks.a1.a, .int .u8 p_1.Tracks.a1.b, .int .u8 p_1.Tracks.a1.c, .int .u8 p_1.Tracks.a1.d, .int .u8 p_1.Tracks.a2.a, .int .u8 p_1.Tracks.a2.b, .int .u8 p_1.Tracks.a2.c, .int .u8 p_1.Tracks.a2.d, slB4 false p_1.Measures], true⟩)], [], 0⟩) (by subst_vars; exact weak_l rfl rfl ⟨lR, lR, lR, LV_sl, lE, lE, lE, lE, LV_sl, lE, lE, LV_sl, lE, lE, lE, trivial⟩ ⟨lB ⟨LV_sl, LV_sl, rfl⟩, lB ⟨lE, lE, rfl⟩, lB ⟨lE, lE, lE, lE, lE, lE, lE, lE, lE, lE, lE, lE, LV_sl, rfl⟩, trivial⟩ trivial) (by intro q; rcases q with (_ | ⟨v_326, v_327⟩) <;> (intro e; exact Exit.noConfusion e)) ?_ ?_; all_goals clear h
                        · intro q x h R hR hX
                          obtain ⟨v_313, v_314, v_315⟩ := q
                          rw [m_law01_ClothBetween_L3] at h
                          (conv => cbv)
                          refine L_tst hI h (by subst_vars; rfl) ?_ ?_ <;> clear h <;> intro h
                          · refine L_get hI h (fun g => by subst_vars; exact g) ?_; clear h; intro hc x_328 hxx_328 h
                            refine L_get hI h (fun g => by subst_vars; exact g) ?_; clear h; intro hc x_329 hxx_329 h
                            refine L_call hI h (fun v hv => w_law01_after N x_328.first x_329.rate v_266 v hv) (by subst_vars; exact ⟨(leD_refl _), (leD_refl _), (leD_refl _), rfl⟩) ?_; clear h; intro r_330 h; (conv => cbv)
                            refine L_cut hI seat [1000003, 1000007, 1000013, 1000015, 1000021, 1000031] (by kernel_rfl) h (fun q => match q with | (v_331, v_332) => .normal) (fun q => match q with | (v_331, v_332) => ⟨250, [(3, .loc 0 0), (4, .loc 1 0), (7, .loc 2 0), (8, slSpan false r_6.1), (10, .int .i64 v_11), (11, .int .i64 v_12), (12, .int .i64 r_9.1), (13, .int .i64 r_9.2.1), (16, slTru false r_13), (17, .int .i64 v_190), (18, .int .i64 v_266), (19, slSpan false r_268.1), (24, .bool v_332), (25, .bool v_331), (26, .int .i64 v_315), (27, .int .i64 r_330)], [(2, ⟨25, [slTrack false r_4.Tracks, slMeas false r_4.Measures], true⟩), (1, ⟨78, [.int .u8 p_2.a0, .int .u8 p_2.a1], true⟩), (0, ⟨77, [.int .u8 p_1.Tracks.a0.a, .int .u8 p_1.Tracks.a0.b, .int .u8 p_1.Tracks.a0.c, .int .u8 p_1.Tracks.a0.d, .int .u8 p_1.Tracks.a1.a, .int .u8 p_1.Tracks.a1.b, .int .u8 p_1.Tracks.a1.c, .int .u8 p_1.Tracks.a1.d, .int .u8 p_1.Tracks.a2.a, .int .u8 p_1.Tracks.a2.b, .int .u8 p_1.Tracks.a2.c, .int .u8 p_1.Tracks.a2.d, slB4 false p_1.Measures], true⟩)], [], 0⟩) ?_ ?_; all_goals clear h
                            · intro x h R hR
                              (conv => cbv)
                              refine L_tst hI h (by subst_vars; rfl) ?_ ?_ <;> clear h <;> intro h
                              · refine L_tst hI h (by subst_vars; rfl) ?_ ?_ <;> clear h <;> intro h
                                · exact hR _ _ (Option.some.inj h).symm (by subst_vars; exact weak_l rfl rfl ⟨lR, lR, lR, LV_sl, lE, lE, lE, lE, LV_sl, lE, lE, LV_sl, lE, lE, lE, lE, trivial⟩ ⟨lB ⟨LV_sl, LV_sl, rfl⟩, lB ⟨lE, lE, rfl⟩, lB ⟨lE, lE, lE, lE, lE, lE, lE, lE, lE, lE, lE, lE, LV_sl, rfl⟩, trivial⟩ trivial)
                                · refine L_get hI h (fun g => by subst_vars; exact g) ?_; clear h; intro hc x_333 hxx_333 h
                                  exact hR _ _ (Option.some.inj h).symm (by subst_vars; exact weak_l rfl rfl ⟨lR, lR, lR, LV_sl, lE, lE, lE, lE, LV_sl, lE, lE, LV_sl, lE, lE, lE, lE, trivial⟩ ⟨lB ⟨LV_sl, LV_sl, rfl⟩, lB ⟨lE, lE, rfl⟩, lB ⟨lE, lE, lE, lE, lE, lE, lE, lE, lE, lE, lE, lE, LV_sl, rfl⟩, trivial⟩ trivial)
                              · refine L_get hI h (fun g => by subst_vars; exact g) ?_; clear h; intro hc x_334 hxx_334 h
                                refine L_tst hI h (by subst_vars; rfl) ?_ ?_ <;> clear h <;> intro h
                                · exact hR _ _ (Option.some.inj h).symm (by subst_vars; exact weak_l rfl rfl ⟨lR, lR, lR, LV_sl, lE, lE, lE, lE, LV_sl, lE, lE, LV_sl, lE, lE, lE, lE, trivial⟩ ⟨lB ⟨LV_sl, LV_sl, rfl⟩, lB ⟨lE, lE, rfl⟩, lB ⟨lE, lE, lE, lE, lE, lE, lE, lE, lE, lE, lE, lE, LV_sl, rfl⟩, trivial⟩ trivial)
                                · refine L_get hI h (fun g => by subst_vars; exact g) ?_; clear h; intro hc x_335 hxx_335 h
                                  exact hR _ _ (Option.some.inj h).symm (by subst_vars; exact weak_l rfl rfl ⟨lR, lR, lR, LV_sl, lE, lE, lE, lE, LV_sl, lE, lE, LV_sl, lE, lE, lE, lE, trivial⟩ ⟨lB ⟨LV_sl, LV_sl, rfl⟩, lB ⟨lE, lE, rfl⟩, lB ⟨lE, lE, lE, lE, lE, lE, lE, lE, lE, lE, lE, lE, LV_sl, rfl⟩, trivial⟩ trivial)
                            · intro q h
                              rcases q with ⟨v_331, v_332⟩
                              (conv => cbv)
                              refine L_get hI h (fun g => by subst_vars; exact g) ?_; clear h; intro hc x_336 hxx_336 h
                              refine L_call hI h (fun v hv => w_law01_in N r_330 x_336 v hv) (by subst_vars; exact ⟨(leD_refl _), (leD_refl _), rfl⟩) ?_; clear h; intro r_337 h; (conv => cbv)
                              refine L_tst hI h (by subst_vars; rfl) ?_ ?_ <;> clear h <;> intro h
                              · exact hX _ _ (Option.some.inj h).symm (by subst_vars; exact weak_l rfl rfl ⟨lE, trivial⟩ trivial trivial)
                              · exact hR _ _ (Option.some.inj h).symm (by subst_vars; exact weak_l rfl rfl ⟨lR, lR, lR, LV_sl, lE, lE, lE, lE, LV_sl, lE, lE, LV_sl, lE, lE, lE, trivial⟩ ⟨lB ⟨LV_sl, LV_sl, rfl⟩, lB ⟨lE, lE, rfl⟩, lB ⟨lE, lE, lE, lE, lE, lE, lE, lE, lE, lE, lE, lE, LV_sl, rfl⟩, trivial⟩ trivial)
                          · exact hX _ _ (Option.some.inj h).symm (by subst_vars; exact weak_l rfl rfl ⟨lR, lR, lR, LV_sl, lE, lE, lE, lE, LV_sl, lE, lE, LV_sl, lE, lE, trivial⟩ ⟨lB ⟨LV_sl, LV_sl, rfl⟩, lB ⟨lE, lE, rfl⟩, lB ⟨lE, lE, lE, lE, lE, lE, lE, lE, lE, lE, lE, lE, LV_sl, rfl⟩, trivial⟩ trivial)
                        · intro q h
                          rcases q with (_ | ⟨v_326, v_327⟩)
                          · (conv => cbv)
                            exact hX _ _ (Option.some.inj h).symm (by subst_vars; exact weak_l rfl rfl ⟨lE, trivial⟩ trivial trivial)
                          · (conv => cbv)
                            refine L_cut hI seat [1000003, 1000007, 1000013, 1000015, 1000021, 1000028] (by kernel_rfl) h (fun q => match q with | v_338 => .normal) (fun q => match q with | v_338 => ⟨250, [(3, .loc 0 0), (4, .loc 1 0), (7, .loc 2 0), (8, slSpan false r_6.1), (10, .int .i64 v_11), (11, .int .i64 v_12), (12, .int .i64 r_9.1), (13, .int .i64 r_9.2.1), (16, slTru false r_13), (17, .int .i64 v_190), (19, slSpan false r_268.1), (247, .bool v_338)], [(2, ⟨25, [slTrack false r_4.Tracks, slMeas false r_4.Measures], true⟩), (1, ⟨78, [.int .u8 p_2.a0, .int .u8 p_2.a1], true⟩), (0, ⟨77, [.int .u8 p_1.Tracks.a0.a, .int .u8 p_1.Tracks.a0.b, .int .u8 p_1.Tracks.a0.c, .int .u8 p_1.Tracks.a0.d, .int .u8 p_1.Tracks.a1.a, .int .u8 p_1.Tracks.a1.b, .int .u8 p_1.Tracks.a1.c, .int .u8 p_1.Tracks.a1.d, .int .u8 p_1.Tracks.a2.a, .int .u8 p_1.Tracks.a2.b, .int .u8 p_1.Tracks.a2.c, .int .u8 p_1.Tracks.a2.d, slB4 false p_1.Measures], true⟩)], [], 0⟩) ?_ ?_; all_goals clear h
                            · intro x h R hR
                              (conv => cbv)
                              refine L_tst hI h (by subst_vars; rfl) ?_ ?_ <;> clear h <;> intro h
                              · exact hR _ _ (Option.some.inj h).symm (by subst_vars; exact weak_l rfl rfl ⟨lR, lR, lR, LV_sl, lE, lE, lE, lE, LV_sl, lE, LV_sl, lE, trivial⟩ ⟨lB ⟨LV_sl, LV_sl, rfl⟩, lB ⟨lE, lE, rfl⟩, lB ⟨lE, lE, lE, lE, lE, lE, lE, lE, lE, lE, lE, lE, LV_sl, rfl⟩, trivial⟩ trivial)
                              · refine L_tst hI h (by subst_vars; rfl) ?_ ?_ <;> clear h <;> intro h
                                · exact hR _ _ (Option.some.inj h).symm (by subst_vars; exact weak_l rfl rfl ⟨lR, lR, lR, LV_sl, lE, lE, lE, lE, LV_sl, lE, LV_sl, lE, trivial⟩ ⟨lB ⟨LV_sl, LV_sl, rfl⟩, lB ⟨lE, lE, rfl⟩, lB ⟨lE, lE, lE, lE, lE, lE, lE, lE, lE, lE, lE, lE, LV_sl, rfl⟩, trivial⟩ trivial)
                                · refine L_get hI h (fun g => by subst_vars; exact g) ?_; clear h; intro hc x_339 hxx_339 h
                                  refine L_tst hI h (by subst_vars; rfl) ?_ ?_ <;> clear h <;> intro h
                                  · exact hR _ _ (Option.some.inj h).symm (by subst_vars; exact weak_l rfl rfl ⟨lR, lR, lR, LV_sl, lE, lE, lE, lE, LV_sl, lE, LV_sl, lE, trivial⟩ ⟨lB ⟨LV_sl, LV_sl, rfl⟩, lB ⟨lE, lE, rfl⟩, lB ⟨lE, lE, lE, lE, lE, lE, lE, lE, lE, lE, lE, lE, LV_sl, rfl⟩, trivial⟩ trivial)
                                  · refine L_get hI h (fun g => by subst_vars; exact g) ?_; clear h; intro hc x_340 hxx_340 h
                                    exact hR _ _ (Option.some.inj h).symm (by subst_vars; exact weak_l rfl rfl ⟨lR, lR, lR, LV_sl, lE, lE, lE, lE, LV_sl, lE, LV_sl, lE, trivial⟩ ⟨lB ⟨LV_sl, LV_sl, rfl⟩, lB ⟨lE, lE, rfl⟩, lB ⟨lE, lE, lE, lE, lE, lE, lE, lE, lE, lE, lE, lE, LV_sl, rfl⟩, trivial⟩ trivial)
                            · intro v_338 h
                              (conv => cbv)
                              refine L_tst hI h (by subst_vars; rfl) ?_ ?_ <;> clear h <;> intro h
                              · exact hX _ _ (Option.some.inj h).symm (by subst_vars; exact weak_l rfl rfl ⟨lE, trivial⟩ trivial trivial)
                              · exact hR _ _ (Option.some.inj h).symm (by subst_vars; exact weak_l rfl rfl ⟨lR, lR, lR, LV_sl, lE, lE, lE, lE, LV_sl, LV_sl, lE, trivial⟩ ⟨lB ⟨LV_sl, LV_sl, rfl⟩, lB ⟨lE, lE, rfl⟩, lB ⟨lE, lE, lE, lE, lE, lE, lE, lE, lE, lE, lE, lE, LV_sl, rfl⟩, trivial⟩ trivial)
            · exact hX _ _ (Option.some.inj h).symm (by subst_vars; exact weak_l rfl rfl trivial trivial trivial)
          · intro q h
            rcases q with (_ | _)
            · (conv => cbv)
              cases h
              subst_vars
              exact ⟨lE, rfl⟩
            · (conv => cbv)
              refine L_call hI h (fun v hv => w_law01_known N v hv) (by subst_vars; exact rfl) ?_; clear h; intro r_341 h; (conv => cbv)
              cases h
              subst_vars
              exact ⟨lE, rfl⟩
end
end Go.Proofs.Ytnekemldcjegaaa.Aw

/- Plain law of ClothBetween. -/
namespace Go.Proofs.Ytnekemldcjegaaa.Aw
open Go Go.RowKit Go.Proofs
set_option linter.unusedSimpArgs false
set_option linter.unusedVariables false
theorem in_ok (N : Nat) {n : Int} {s : Span} (h : s.low ≤ n ∧ n ≤ s.high) : m_law01_in N n s = some true := by
  unfold m_law01_in
  simp only [icmp_geq, icmp_leq, decide_eq_true_eq]
  rw [if_pos (by omega)]
  simp; omega
def threeS (f : Int → Span) : List Span := [f 0, f 1, f 2]
theorem threeS_len {f : Int → Span} : (threeS f).length = 3 := rfl
theorem three_get {f : Int → Span} {i : Int} (h0 : 0 ≤ i) (h1 : i < 3) : getO span0 (threeS f) i = some (f i) := by
  rw [getO_of h0 (by simp [threeS]; omega)]
  have : i = 0 ∨ i = 1 ∨ i = 2 := by omega
  rcases this with rfl | rfl | rfl <;> rfl
theorem between_L2 (N : Nat) (p : law01_Bolt) (hx : (toBolt p).ok) {h k : Int} {H H' R : Int → Span} {L : List Span} {n1 n2 : Int} (hN : 100 ≤ N) (hh : 0 ≤ h ∧ h ≤ 48)
    (hH : ∀ i : Int, 0 ≤ i → i < 3 → (H i).low ≤ trueAt (toBolt p) h i ∧ trueAt (toBolt p) h i ≤ (H i).high)
    (hR : ∀ i : Int, 0 ≤ i → i < 3 → (R i).low ≤ tRate ((toBolt p).sel i) ∧ tRate ((toBolt p).sel i) ≤ (R i).high)
    (hL : k = 1 → L = threeS H' ∧ ∀ i : Int, 0 ≤ i → i < 3 → (H i).low ≤ (H' i).low ∧ (H i).high ≤ (H' i).high) :
    loopO (m_law01_ClothBetween_L2 N p h (threeS H, n1) (threeS R, n2) k L) N 0 = some (.inr ()) := by
  obtain ⟨q, hq, hp⟩ := loopO_of (step := m_law01_ClothBetween_L2 N p h (threeS H, n1) (threeS R, n2) k L) (fun i => 0 ≤ i ∧ i ≤ 3) (fun i => (3 - i).toNat) (fun q => q = .inr ()) (fun i hi => by
    obtain ⟨i0, i1⟩ := hi
    simp only [m_law01_ClothBetween_L2, icmp_lss, decide_eq_true_eq]
    by_cases hc : i < 3
    · left
      rw [if_pos hc]
      obtain ⟨⟨f0, f1⟩, g0, g1⟩ := tru_range (sel_ok hx i)
      have htr : m_law01_Bolt_truth N p i = some (tFirst ((toBolt p).sel i), tRate ((toBolt p).sel i)) := onlyIf_pos ⟨hx, i0, by omega⟩
      have haf : m_law01_after N (tFirst ((toBolt p).sel i)) (tRate ((toBolt p).sel i)) h = some (trueAt (toBolt p) h i) := onlyIf_pos ⟨by omega, by omega, by omega⟩
      simp only [htr, haf, bindS, three_get i0 hc, in_ok N (hH i i0 hc), in_ok N (hR i i0 hc), Bool.not_true, Bool.false_eq_true, if_false, icmp_eql, icmp_gtr, decide_eq_true_eq, addW (show -9223372036854775808 ≤ i + 1 ∧ i + 1 ≤ 9223372036854775807 by omega)]
      refine ⟨i + 1, ?_, by omega, by omega⟩
      by_cases hk : k = 1
      · obtain ⟨rfl, hl⟩ := hL hk
        have := hl i i0 hc
        have c1 : ¬ (H i).low > (H' i).low := by omega
        have c2 : ¬ (H i).high > (H' i).high := by omega
        simp only [if_pos hk, three_get i0 hc, bindS, c1, c2, if_false, decide_false, Bool.false_eq_true]
      · simp only [if_neg hk, bindS, Bool.false_eq_true, if_false]
    · right
      rw [if_neg hc]
      exact ⟨_, rfl, rfl⟩) N 0 ⟨by omega, by omega⟩ (by omega)
  rw [hq, hp]
/-- Some truth has a number at an hour. -/
def someAt (h n : Int) (T : List Tru) : Bool := T.any fun t => decide (aft t.first t.rate h.toNat = n)
theorem between_L3 (N : Nat) {T : List Tru} {h w : Int} {H : Int → Span} {n1 : Int} (hw : 0 ≤ w ∧ w < 3) (hN : T.length < N) (hN2 : T.length ≤ 1000000) (hh : 0 ≤ h ∧ h ≤ 48) (hT : ∀ t ∈ T, (0 ≤ t.first ∧ t.first ≤ 2000) ∧ 0 ≤ t.rate ∧ t.rate ≤ 100) (hu : IsHull (H w) (valT h T)) :
    loopO (m_law01_ClothBetween_L3 N T h (threeS H, n1) w) N (false, false, 0) = some (.inr (true, true)) := by
  obtain ⟨q, hq, hp⟩ := loopO_of (step := m_law01_ClothBetween_L3 N T h (threeS H, n1) w) (fun s => 0 ≤ s.2.2 ∧ s.2.2 ≤ T.length ∧ s.1 = someAt h (H w).low (T.take s.2.2.toNat) ∧ s.2.1 = someAt h (H w).high (T.take s.2.2.toNat)) (fun s => (T.length - s.2.2).toNat) (fun q => q = .inr (true, true)) (fun s hi => by
    obtain ⟨lo, hg, i⟩ := s
    obtain ⟨i0, i1, e1, e2⟩ := hi
    simp only at i0 i1 e1 e2
    simp only [m_law01_ClothBetween_L3, icmp_lss, decide_eq_true_eq]
    by_cases hc : i < (T.length : Int)
    · left
      rw [if_pos hc]
      have hlt : i.toNat < T.length := by omega
      have hget : T.getD i.toNat tru0 = T[i.toNat] := by simp [List.getD_eq_getElem?_getD, hlt]
      have hmem : T.getD i.toNat tru0 ∈ T := by rw [hget]; exact List.getElem_mem hlt
      obtain ⟨f1, f2⟩ := hT _ hmem
      have htk : T.take (i + 1).toNat = T.take i.toNat ++ [T.getD i.toNat tru0] := by
        rw [show (i + 1).toNat = i.toNat + 1 from by omega, List.take_add_one, List.getElem?_eq_getElem hlt, hget]; rfl
      obtain ⟨t, ht⟩ : ∃ t, t = T.getD i.toNat tru0 := ⟨_, rfl⟩
      rw [← ht] at f1 f2 htk hmem
      have haf : m_law01_after N t.first t.rate h = some (aft t.first t.rate h.toNat) := onlyIf_pos ⟨by omega, by omega, by omega⟩
      have hin := hu.all _ (List.mem_map.2 ⟨t, hmem, rfl⟩)
      simp only [getO_of (d := tru0) i0 hc, ← ht, bindS, haf, three_get hw.1 hw.2, icmp_eql, in_ok N hin, Bool.not_true, Bool.false_eq_true, if_false, addW (show -9223372036854775808 ≤ i + 1 ∧ i + 1 ≤ 9223372036854775807 by omega)]
      refine ⟨(someAt h (H w).low (T.take (i + 1).toNat), someAt h (H w).high (T.take (i + 1).toNat), i + 1), ?_, ⟨by simp only; omega, by simp only; omega, rfl, rfl⟩, by simp only; omega⟩
      have s1 : someAt h (H w).low (T.take (i + 1).toNat) = (lo || decide (aft t.first t.rate h.toNat = (H w).low)) := by
        rw [htk, e1]; simp [someAt]
      have s2 : someAt h (H w).high (T.take (i + 1).toNat) = (hg || decide (aft t.first t.rate h.toNat = (H w).high)) := by
        rw [htk, e2]; simp [someAt]
      rw [s1, s2]
      cases lo <;> cases hg <;> rfl
    · right
      rw [if_neg hc]
      refine ⟨_, rfl, ?_⟩
      have htk : T.take i.toNat = T := List.take_of_length_le (by omega)
      rw [htk] at e1 e2
      obtain ⟨t1, k1, k2⟩ := List.mem_map.1 hu.low
      obtain ⟨t2, k3, k4⟩ := List.mem_map.1 hu.high
      rw [e1, e2, show someAt h (H w).low T = true from List.any_eq_true.2 ⟨t1, k1, by simpa using k2⟩, show someAt h (H w).high T = true from List.any_eq_true.2 ⟨t2, k3, by simpa using k4⟩]) N (false, false, 0) ⟨by simp, by simp, rfl, rfl⟩ (by simp only; omega)
  rw [hq, hp]
theorem truW_len {ts : List Track} {ms : List Meas} (hck : check ts ms = 0) {w : Int} (h0 : 0 ≤ w) (h1 : w ≤ 2) : (truW ts ms noSkip w).length ≤ 1000000 := by
  obtain ⟨g1, g2, g3, g4⟩ := check_zero hck
  have ht := getD_ok g1 g2 h0 h1
  have := truT_len ht (fun x r => okL w noSkip x r ms 0 true)
  unfold truW; omega
theorem kB_ok {x : Bolt} (hx : x.ok) {w h : Int} (h0 : 0 ≤ w) (h1 : w < 3) : (hullW (boltT x) (boltM x) h w).low ≤ trueAt x h w ∧ trueAt x h w ≤ (hullW (boltT x) (boltM x) h w).high :=
  (hullW_is (h := h) (bolt_check hx) h0 (by omega) (fun e => by have := bolt_in hx h0 (by omega : w ≤ 2); rw [e] at this; cases this)).all _ (trueAt_in hx h0 (by omega))
theorem rate_ok {x : Bolt} (hx : x.ok) {w : Int} (h0 : 0 ≤ w) (h1 : w < 3) : (rateW (boltT x) (boltM x) w).low ≤ tRate (x.sel w) ∧ tRate (x.sel w) ≤ (rateW (boltT x) (boltM x) w).high :=
  (rate_is (bolt_check hx) h0 (by omega) (fun e => by have := bolt_in hx h0 (by omega : w ≤ 2); rw [e] at this; cases this)).all _ (List.mem_map.2 ⟨_, bolt_in hx h0 (by omega), rfl⟩)
theorem bolt_lens (x : Bolt) : (boltT x).length ≤ 1000000 ∧ (boltM x).length ≤ 1000000 := ⟨by simp [boltT], by have := boltM_len x; omega⟩
theorem bolt_ne {x : Bolt} (hx : x.ok) {w : Int} (h0 : 0 ≤ w) (h1 : w ≤ 2) : truW (boltT x) (boltM x) noSkip w ≠ [] := fun e => by have := bolt_in hx h0 h1; rw [e] at this; cases this
theorem between_hour {b : Int} (hb : 0 ≤ b ∧ b ≤ 255) : iopR .rem .i64 (IntKind.wrap .i64 b) 48 = b % 48 ∧ iopR .rem .i64 (IntKind.wrap .i64 b) 3 = b % 3 := by
  rw [wrap_i64 (n := b) (by omega), remW (by omega), remW (by omega)]; exact ⟨rfl, rfl⟩
theorem law_ClothBetween (N : Nat) (hN : 2000000 ≤ N) (p : law01_Bolt) (v : A2_u8) (l : Int) (hx : (toBolt p).ok) (hv : (0 ≤ v.a0 ∧ v.a0 ≤ 255) ∧ 0 ≤ v.a1 ∧ v.a1 ≤ 255) (hl : 0 ≤ l ∧ l ≤ 65535) : m_law01_ClothBetween N p v l = some true := by
  have hck := bolt_check hx
  have hin := bolt_clothIn _ hx
  have hop := bolt_open hx
  obtain ⟨ln1, ln2⟩ := bolt_lens (toBolt p)
  have H3 := fun (h w : Int) (h0 : 0 ≤ w) (h1 : w < 3) => kB_ok (h := h) hx h0 h1
  have R3 := fun (w : Int) (h0 : 0 ≤ w) (h1 : w < 3) => rate_ok hx h0 h1
  have hne := fun (w : Int) (h0 : 0 ≤ w) (h1 : w ≤ 2) => bolt_ne hx h0 h1
  have hcl : m_law01_Bolt_cloth N p = some ⟨boltT (toBolt p), boltM (toBolt p)⟩ := onlyIf_pos hx
  have how : m_law01_own N ⟨boltT (toBolt p), boltM (toBolt p)⟩ = some ⟨boltT (toBolt p), boltM (toBolt p)⟩ := onlyIf_pos ⟨ln1, ln2⟩
  obtain ⟨w, hw⟩ : ∃ w, w = v.a0 % 3 := ⟨_, rfl⟩
  obtain ⟨lim, hlim⟩ : ∃ m, m = l % 2001 := ⟨_, rfl⟩
  have hw3 : 0 ≤ w ∧ w < 3 := by omega
  have ew : iopR .rem .i64 (IntKind.wrap .i64 v.a0) 3 = w := by rw [(between_hour hv.1).2, hw]
  have el : iopR .rem .i64 (IntKind.wrap .i64 l) 2001 = lim := by rw [wrap_i64 (n := l) (by omega), remW (by omega), hlim]
  have hrt : m_cloth_Rates N ⟨boltT (toBolt p), boltM (toBolt p)⟩ = some (threeS (rateW (boltT (toBolt p)) (boltM (toBolt p))), 0) := by
    unfold m_cloth_Rates
    rw [onlyIf_pos hin, ratesRes, if_neg (by simp [hop])]; rfl
  have hbl : m_cloth_Below N ⟨boltT (toBolt p), boltM (toBolt p)⟩ w lim = some (belowS (boltT (toBolt p)) (boltM (toBolt p)) w lim, belowP (boltT (toBolt p)) (boltM (toBolt p)) w lim, 0) := by
    unfold m_cloth_Below
    rw [onlyIf_pos ⟨hin, by unfold i64ok; omega⟩, belowRes, if_neg (by simp [hop]), if_pos (by unfold isWhat; rw [within_one]; omega), if_pos (by rw [within_one]; omega)]
  have hat : ∀ h : Int, 0 ≤ h → h ≤ 48 → m_cloth_At N ⟨boltT (toBolt p), boltM (toBolt p)⟩ h = some (threeS (hullW (boltT (toBolt p)) (boltM (toBolt p)) h), 0) := fun h h0 h1 => by
    unfold m_cloth_At
    rw [onlyIf_pos hin, atRes, if_neg (by simp [hop]), if_pos (by rw [within_one]; omega)]; rfl
  have htr : m_law01_truths N ⟨boltT (toBolt p), boltM (toBolt p)⟩ w = some (truW (boltT (toBolt p)) (boltM (toBolt p)) noSkip w) := onlyIf_pos ⟨hck, by omega, by omega⟩
  have hbr := below_range hck hw3.1 (show w ≤ 2 by omega) (hne w hw3.1 (by omega)) lim
  have hbi := fun (h : Int) (h0 : 0 ≤ h) (h1 : h ≤ 48) => below_iff hck hw3.1 (show w ≤ 2 by omega) (hne w hw3.1 (by omega)) (lim := lim) h0 h1
  have hst := fun (i h : Int) (h0 : 0 ≤ i) (h1 : i < 3) (hh : 0 ≤ h) => hull_step hck h0 (show i ≤ 2 by omega) (hne i h0 (by omega)) hh
  have hfit := tru_fit hck hw3.1 (show w ≤ 2 by omega)
  have hlen := truW_len hck hw3.1 (show w ≤ 2 by omega)
  have hhu := fun h : Int => hullW_is (h := h) hck hw3.1 (show w ≤ 2 by omega) (hne w hw3.1 (by omega))
  generalize belowS (boltT (toBolt p)) (boltM (toBolt p)) w lim = S at *
  generalize belowP (boltT (toBolt p)) (boltM (toBolt p)) w lim = P at *
  generalize truW (boltT (toBolt p)) (boltM (toBolt p)) noSkip w = T at *
  have hq : ∃ b, b = v.a1 % 48 := ⟨_, rfl⟩
  obtain ⟨b, hb⟩ := hq
  have hb48 : 0 ≤ b ∧ b < 48 := by omega
  have eb : iopR .rem .i64 (IntKind.wrap .i64 v.a1) 48 = b := by rw [(between_hour hv.2).1, hb]
  have loop1 : loopO (m_law01_ClothBetween_L1 N v (S, P, 0) ⟨boltT (toBolt p), boltM (toBolt p)⟩ p (threeS (rateW (boltT (toBolt p)) (boltM (toBolt p))), 0) T w lim) N ([], 0) = some (.inr ()) := by
    obtain ⟨q, hq, hp⟩ := loopO_of (step := m_law01_ClothBetween_L1 N v (S, P, 0) ⟨boltT (toBolt p), boltM (toBolt p)⟩ p (threeS (rateW (boltT (toBolt p)) (boltM (toBolt p))), 0) T w lim)
      (fun s => 0 ≤ s.2 ∧ s.2 ≤ 4 ∧ (s.2 = 1 → s.1 = threeS (hullW (boltT (toBolt p)) (boltM (toBolt p)) b))) (fun s => (4 - s.2).toNat) (fun q => q = .inr ()) (fun s hi => by
      obtain ⟨last, k⟩ := s
      obtain ⟨k0, k1, k2⟩ := hi
      simp only at k0 k1 k2
      simp only [m_law01_ClothBetween_L1, icmp_lss, decide_eq_true_eq]
      by_cases hc : k < 4
      · left
        rw [if_pos hc, if_pos ⟨k0, hc⟩, eb]
        obtain ⟨h, hh⟩ : ∃ h : Int, (0 ≤ h ∧ h ≤ 48) ∧ (k = 0 → h = b) ∧ (k = 1 → h = b + 1) ∧ (if icmpR .eql k 0 = true then some b else if icmpR .eql k 1 = true then some (iopR .add .i64 b 1) else if icmpR .eql k 2 = true then some (min S 48) else some (min P 48)) = some h := by
          simp only [icmp_eql, decide_eq_true_eq, addW (show -9223372036854775808 ≤ b + 1 ∧ b + 1 ≤ 9223372036854775807 by omega)]
          by_cases e0 : k = 0
          · exact ⟨b, by omega, fun _ => rfl, fun e => by omega, by rw [if_pos e0]⟩
          · by_cases e1 : k = 1
            · exact ⟨b + 1, by omega, fun e => by omega, fun _ => rfl, by rw [if_neg e0, if_pos e1]⟩
            · by_cases e2 : k = 2
              · exact ⟨min S 48, by omega, fun e => by omega, fun e => by omega, by rw [if_neg e0, if_neg e1, if_pos e2]⟩
              · exact ⟨min P 48, by omega, fun e => by omega, fun e => by omega, by rw [if_neg e0, if_neg e1, if_neg e2]⟩
        obtain ⟨hr, hk0, hk1, hh⟩ := hh
        have l2 := between_L2 N p hx (h := h) (k := k) (H := hullW (boltT (toBolt p)) (boltM (toBolt p)) h) (H' := hullW (boltT (toBolt p)) (boltM (toBolt p)) b) (R := rateW (boltT (toBolt p)) (boltM (toBolt p))) (L := last) (n1 := 0) (n2 := 0) (by omega) hr
          (fun i i0 i1 => H3 h i i0 i1) (fun i i0 i1 => R3 i i0 i1) (fun e => ⟨k2 e, fun i i0 i1 => by have := hst i b i0 i1 hb48.1; rw [hk1 e]; exact this⟩)
        have l3 := between_L3 N (T := T) (h := h) (w := w) (H := hullW (boltT (toBolt p)) (boltM (toBolt p)) h) (n1 := 0) hw3 (by omega) hlen hr hfit (hhu h)
        have hb1 := hbi h hr.1 hr.2
        simp only [hh, bindS, how, hat h hr.1 hr.2, icmp_neq, ne_eq, not_true, decide_false, Bool.false_eq_true, if_false, threeS_len, l2, l3]
        have q1 : icmpR .geq h S = icmpR .leq (hullW (boltT (toBolt p)) (boltM (toBolt p)) h w).high lim := by simp only [icmp_geq, icmp_leq]; exact decide_eq_decide.2 hb1.1
        have q2 : icmpR .geq h P = icmpR .leq (hullW (boltT (toBolt p)) (boltM (toBolt p)) h w).low lim := by simp only [icmp_geq, icmp_leq]; exact decide_eq_decide.2 hb1.2
        simp only [three_get hw3.1 hw3.2, bindS, q1, q2, show ((3 : Nat) : Int) = 3 from rfl, ne_eq, not_true, decide_false, Bool.false_eq_true, if_false, Bool.not_true, beq_self_eq_true, addW (show -9223372036854775808 ≤ k + 1 ∧ k + 1 ≤ 9223372036854775807 by omega)]
        exact ⟨_, rfl, ⟨by simp only; omega, by simp only; omega, fun e => by simp only at e ⊢; rw [hk0 (by omega)]⟩, by simp only; omega⟩
      · right
        rw [if_neg hc]
        exact ⟨_, rfl, rfl⟩) N ([], 0) ⟨by simp, by simp, fun e => by simp at e⟩ (by simp only; omega)
    rw [hq, hp]
  unfold m_law01_ClothBetween
  simp only [hcl, bindS, how, hrt, hbl, htr, loop1, letO_eq, ew, el, icmp_neq, icmp_lss, icmp_gtr, threeS_len]
  have c1 : ¬ S < P := by omega
  have c2 : ¬ P < 0 := by omega
  have c3 : ¬ S > 49 := by omega
  simp [c1, c2, c3, m_law01_known]
end Go.Proofs.Ytnekemldcjegaaa.Aw

/- What comes in, for chapter 1: cloths, measurings, spans, read as data. -/
namespace Go.Proofs.Ytnekemldcjegaaa.Aw
open Go Go.RowKit Go.Proofs
set_option maxRecDepth 100000
set_option linter.unusedSimpArgs false
set_option linter.unusedVariables false
theorem Try.own : ownKnob Try.prog.godebug = none := by kernel_rfl
theorem Try.laidOut : laidOutB Try.prog = true := by kernel_rfl
theorem rows_of {α : Type} {g : α → List D} {p : α → Prop} : ∀ {rows : List (List D)}, (∀ row ∈ rows, ∃ a, row = g a ∧ p a) → ∃ l : List α, rows = l.map g ∧ ∀ a ∈ l, p a
  | [], _ => ⟨[], rfl, fun a h => by cases h⟩
  | row :: r, h => by
    obtain ⟨a, e, hp⟩ := h row (by simp)
    obtain ⟨l, e2, hl⟩ := rows_of (g := g) (p := p) (rows := r) (fun x hx => h x (List.mem_cons_of_mem _ hx))
    refine ⟨a :: l, by rw [e, e2]; rfl, fun b hb => ?_⟩
    rcases List.mem_cons.1 hb with rfl | hb
    · exact hp
    · exact hl b hb
end Go.Proofs.Ytnekemldcjegaaa.Aw

/- What comes in, for chapter 1: bolts, bytes, read as data. -/
namespace Go.Proofs.Ytnekemldcjegaaa.Aw
open Go Go.RowKit Go.Proofs
set_option maxRecDepth 100000
set_option linter.unusedSimpArgs false
set_option linter.unusedVariables false
def shU : Sh := .int .u8
def shB4 : Sh := .agg [shU, shU, shU, shU]
def shBolt : Sh := .agg [.agg [shB4, shB4, shB4], .sl shB4]
def shA2 : Sh := .agg [shU, shU]
theorem fit_U {xs : List D} (h : shU.Fit xs) : ∃ n : Int, xs = [.int .u8 n] ∧ 0 ≤ n ∧ n ≤ 255 := by
  unfold shU Sh.Fit at h
  obtain ⟨n, rfl, h1, h2⟩ := h
  exact ⟨n, rfl, h1, h2⟩
theorem fit_B4 {xs : List D} (h : shB4.Fit xs) : ∃ v : B4, xs = rowD 4 0 (fun j => (eB4 v j).toD) ∧ v.ok := by
  unfold shB4 Sh.Fit at h
  simp only [Sh.FitL] at h
  obtain ⟨a, b, rfl, ha, c, d, rfl, hc, e, f, rfl, he, g, i, rfl, hg, rfl⟩ := h
  obtain ⟨x, rfl, hx⟩ := fit_U ha
  obtain ⟨y, rfl, hy⟩ := fit_U hc
  obtain ⟨z, rfl, hz⟩ := fit_U he
  obtain ⟨u, rfl, hu⟩ := fit_U hg
  exact ⟨⟨x, y, z, u⟩, rfl, hx, hy, hz, hu⟩
theorem fit_A2 {xs : List D} (h : shA2.Fit xs) : ∃ a b : Int, xs = [.int .u8 a, .int .u8 b] ∧ (0 ≤ a ∧ a ≤ 255) ∧ 0 ≤ b ∧ b ≤ 255 := by
  unfold shA2 Sh.Fit at h
  simp only [Sh.FitL] at h
  obtain ⟨a1, b1, rfl, h1, a2, b2, rfl, h2, rfl⟩ := h
  obtain ⟨v0, rfl, k0⟩ := fit_U h1
  obtain ⟨v1, rfl, k1⟩ := fit_U h2
  exact ⟨v0, v1, rfl, k0, k1⟩
theorem fit_bolt {xs : List D} (h : shBolt.Fit xs) : ∃ x : Bolt, shBolt.arg xs = (kBolt x).toD ∧ x.ok := by
  unfold shBolt Sh.Fit at h
  simp only [Sh.FitL] at h
  obtain ⟨a, b, rfl, ha, c, d, rfl, hc, rfl⟩ := h
  unfold Sh.Fit at ha hc
  simp only [Sh.FitL] at ha
  obtain ⟨a1, b1, rfl, h1, a2, b2, rfl, h2, a3, b3, rfl, h3, rfl⟩ := ha
  obtain ⟨t0, rfl, k0⟩ := fit_B4 h1
  obtain ⟨t1, rfl, k1⟩ := fit_B4 h2
  obtain ⟨t2, rfl, k2⟩ := fit_B4 h3
  obtain ⟨rc, rfl, lc, hc⟩ := hc
  obtain ⟨ms, rfl, hm⟩ := rows_of (fun row hr => fit_B4 (hc row hr))
  exact ⟨⟨t0, t1, t2, ms⟩, rfl, k0, k1, k2, hm⟩
end Go.Proofs.Ytnekemldcjegaaa.Aw
