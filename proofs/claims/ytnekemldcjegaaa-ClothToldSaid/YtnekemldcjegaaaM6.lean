/- Part 6 of the proof: lemmas. -/
import Derived.Test.YtnekemldcjegaaaM5
import Derived.Test.YtnekemldcjegaaaM4
import Derived.Test.YtnekemldcjegaaaRows

/- Contracts of the law: all truths of a quantity. -/
namespace Go.Proofs.Ytnekemldcjegaaa.Aw
open Go Go.RowKit Go.Proofs
set_option maxRecDepth 100000
set_option maxHeartbeats 2000000
set_option linter.unusedSimpArgs false
set_option linter.unusedVariables false
theorem inB_iff' {n a b : Int} : inB n a b = true ↔ a ≤ n ∧ n ≤ b := by simp [inB]
theorem near_in {n r o : Int} : inB n (r - o) (r + o) = nearB n r o := by
  cases h : nearB n r o with
  | true => rw [near_iff] at h; exact inB_iff'.2 (by omega)
  | false =>
    cases hb : inB n (r - o) (r + o) with
    | false => rfl
    | true =>
      have := inB_iff'.1 hb
      rw [near_iff.2 (by omega)] at h; cases h
theorem con_ltruths (ts : List Track) (ms : List Meas) (w : Int) (hck : check ts ms = 0) (h0 : 0 ≤ w) (h1 : w ≤ 2) : KC Try.prog 48 [kCloth ts ms, .int .i64 w] (slTru false (truW ts ms noSkip w)) [] := by
  obtain ⟨g1, g2, g3, g4⟩ := check_zero hck
  have ht := getD_ok g1 g2 h0 h1
  have hvl := truT_len ht (fun x r => okL w noSkip x r ms 0 true)
  unfold truW
  obtain ⟨t, htt⟩ : ∃ t, t = ts.getD w.toNat track0 := ⟨_, rfl⟩
  rw [← htt] at ht hvl ⊢
  obtain ⟨V, hV⟩ : ∃ V, V = truT t (fun x r => okL w noSkip x r ms 0 true) := ⟨_, rfl⟩
  rw [← hV] at hvl ⊢
  unfold truT at hV
  obtain ⟨t1, t2, t3, t4, t5, t6⟩ := ht
  obtain ⟨n, hn⟩ : ∃ n : Int, n = ms.length := ⟨_, rfl⟩
  obtain ⟨f, hf⟩ : ∃ f : Int → Int → Bool, f = fun x r => okL w noSkip x r ms 0 true := ⟨_, rfl⟩
  rw [← hf] at hV
  (refine con_k [] [] seat Try.func48 rfl ent_48 (by kernel_rfl) rfl rfl (by simp) ?_; intro base I hI; conv => cbv)
  refine K_conj hI (by rw [hI]; simp only [primK, endK, iopR, icmpR, oknzR, KV.av, KV.avL, plenN, noAggD, reduceCtorEq, EVB]; omega) ?_
  refine W_loop hI seat [] (by kernel_rfl) (fun a : Int × List Tru => (t.first.high + 1 - a.1).toNat) (fun a => ⟨84, [(1, .int .i64 w), (2, .loc 0 0), (5, .osl 1), (6, .loc 2 0), (7, .int .i64 a.1)], [(0, ⟨25, [slTrack false ts, slMeas false ms], true⟩), (2, ⟨105, [.int .i64 t.first.low, .int .i64 t.first.high, .int .i64 t.rate.low, .int .i64 t.rate.high], true⟩)], [(1, ⟨87, 2, [.ls Tru tru0 a.2 eTru], true, true⟩)], 0⟩)
    (fun a _ => t.first.low ≤ a.1 ∧ a.1 ≤ t.first.high + 1 ∧ V = a.2 ++ truX f t.rate.low (t.rate.high + 1 - t.rate.low).toNat (t.first.high + 1 - a.1).toNat a.1) (t.first.low, []) (weak_k rfl rfl ⟨rfl, rfl, rfl, rfl, av_int (by rw [hI, htt]; rfl), trivial⟩ ⟨rfl, by rw [hI, htt]; rfl, trivial⟩ ⟨rfl, trivial⟩) ⟨Int.le_refl _, by omega, by simpa using hV⟩ ?_
  rintro ⟨x, L⟩ s ⟨x1, x2, x3⟩ R hR
  simp only at x1 x2 x3
  (conv => cbv)
  refine K_tst hI (fun hc => ?_) (fun hc => ?_) <;> simp only [primK, endK, iopR, icmpR, oknzR, KV.av, KV.avL, plenN, noAggD, reduceCtorEq, EVB, hI] at hc
  · have hc : x ≤ t.first.high := hc
    rw [show (t.first.high + 1 - x).toNat = (t.first.high + 1 - (x + 1)).toNat + 1 from by omega, truX] at x3
    have nx : I.iop .add .i64 x 1 = x + 1 := by rw [hI]; exact wrap_i64 (by omega)
    (conv => cbv)
    refine W_loop hI seat [] (by kernel_rfl) (fun a : Int × List Tru => (t.rate.high + 1 - a.1).toNat) (fun a => ⟨84, [(1, .int .i64 w), (2, .loc 0 0), (5, .osl 1), (6, .loc 2 0), (7, .int .i64 x), (8, .int .i64 a.1)], [(0, ⟨25, [slTrack false ts, slMeas false ms], true⟩), (2, ⟨105, [.int .i64 t.first.low, .int .i64 t.first.high, .int .i64 t.rate.low, .int .i64 t.rate.high], true⟩)], [(1, ⟨87, 2, [.ls Tru tru0 a.2 eTru], true, true⟩)], 0⟩)
      (fun a s' => s' = s ∧ t.rate.low ≤ a.1 ∧ a.1 ≤ t.rate.high + 1 ∧ V = a.2 ++ (truR f x (t.rate.high + 1 - a.1).toNat a.1 ++ truX f t.rate.low (t.rate.high + 1 - t.rate.low).toNat (t.first.high + 1 - (x + 1)).toNat (x + 1))) (t.rate.low, L) (weak_k rfl rfl ⟨rfl, rfl, rfl, rfl, rfl, rfl, trivial⟩ ⟨rfl, rfl, trivial⟩ ⟨rfl, trivial⟩) ⟨rfl, Int.le_refl _, by simp only; omega, x3⟩ ?_
    rintro ⟨r, L2⟩ s' ⟨rfl, r1, r2, r3⟩ R2 hR2
    simp only at r1 r2 r3
    (conv => cbv)
    refine K_tst hI (fun hd => ?_) (fun hd => ?_) <;> simp only [primK, endK, iopR, icmpR, oknzR, KV.av, KV.avL, plenN, noAggD, reduceCtorEq, EVB, hI] at hd
    · have hd : r ≤ t.rate.high := hd
      rw [show (t.rate.high + 1 - r).toNat = (t.rate.high + 1 - (r + 1)).toNat + 1 from by omega, truR, List.append_assoc] at r3
      have nr : I.iop .add .i64 r 1 = r + 1 := by rw [hI]; exact wrap_i64 (by omega)
      obtain ⟨fv, hfv⟩ : ∃ fv, fv = f x r := ⟨_, rfl⟩
      rw [← hfv] at r3
      have hfv : okL w noSkip x r ms 0 true = fv := by rw [hfv, hf]
      (conv => cbv)
      refine W_loop hI seat [] (by kernel_rfl) (fun a : Int × Bool => (n - a.1).toNat) (fun a => ⟨84, [(1, .int .i64 w), (2, .loc 0 0), (5, .osl 1), (6, .loc 2 0), (7, .int .i64 x), (8, .int .i64 r), (9, .bool a.2), (10, .int .i64 a.1)], [(0, ⟨25, [slTrack false ts, slMeas false ms], true⟩), (2, ⟨105, [.int .i64 t.first.low, .int .i64 t.first.high, .int .i64 t.rate.low, .int .i64 t.rate.high], true⟩)], [(1, ⟨87, 2, [.ls Tru tru0 L2 eTru], true, true⟩)], 0⟩)
        (fun a s2 => s2 = s' ∧ 0 ≤ a.1 ∧ a.1 ≤ n ∧ okL w noSkip x r (ms.drop a.1.toNat) a.1 a.2 = fv) (0, true) (weak_k rfl rfl ⟨rfl, rfl, rfl, rfl, rfl, rfl, rfl, rfl, trivial⟩ ⟨rfl, rfl, trivial⟩ ⟨rfl, trivial⟩) ⟨rfl, Int.le_refl _, by simp only; omega, hfv⟩ ?_
      rintro ⟨i, ok⟩ s2 ⟨rfl, i1, i2, i3⟩ R3 hR3
      simp only at i1 i2 i3
      (conv => cbv)
      refine K_tst hI (fun he => ?_) (fun he => ?_) <;> simp only [primK, endK, iopR, icmpR, oknzR, KV.av, KV.avL, plenN, noAggD, reduceCtorEq, EVB, hI] at he
      · obtain ⟨e1, e2⟩ := drop_getD (d := meas0) i1 (by omega : i < (ms.length : Int))
        obtain ⟨m, hm⟩ : ∃ m, m = ms.getD i.toNat meas0 := ⟨_, rfl⟩
        rw [← hm] at e1 e2
        rw [e1, okL] at i3
        obtain ⟨⟨m1, m2, m3, m4, m5, m6⟩, _, _⟩ := g4 m e2
        have nx2 : I.iop .add .i64 i 1 = i + 1 := by rw [hI]; exact wrap_i64 (by omega)
        have har := aft_range (x := x) (r := r) (by omega) (by omega) m.hour.toNat
        have caf := con_lafter x r m.hour (by omega) (by omega) (by omega)
        have csp := con_span (m.reading - m.off) (m.reading + m.off)
        have cin := con_lin (aft x r m.hour.toNat) ⟨m.reading - m.off, m.reading + m.off⟩
        simp only [near_in] at cin
        obtain ⟨v, hv⟩ : ∃ v, v = nearB (aft x r m.hour.toNat) m.reading m.off := ⟨_, rfl⟩
        rw [← hv] at cin i3
        have s1 : I.iop .sub .i64 m.reading m.off = m.reading - m.off := by rw [hI]; exact wrap_i64 (by omega)
        have s2' : I.iop .add .i64 m.reading m.off = m.reading + m.off := by rw [hI]; exact wrap_i64 (by omega)
        generalize aft x r m.hour.toNat = A at *
        generalize m.reading - m.off = lo at *
        generalize m.reading + m.off = hi at *
        (conv => cbv)
        refine K_conj hI (by rw [hI]; simp only [primK, endK, iopR, icmpR, oknzR, KV.av, KV.avL, plenN, noAggD, reduceCtorEq, EVB]; omega) ?_
        refine K_tst hI (fun hz => ?_) (fun hz => ?_)
        · refine K_tst hI (fun hx => ?_) (fun hx => ?_)
          · have hx : ¬ m.what = w := by
              rw [hI] at hx
              have hx : ((ms.getD i.toNat meas0).what != w) = true := hx
              rw [hm]; simpa using hx
            rw [if_neg (fun h => hx h.1)] at i3
            exact hR3 _ _ (i + 1, true) (by simp only; omega) (weak_k rfl rfl ⟨rfl, rfl, rfl, rfl, rfl, rfl, rfl, av_int nx2, trivial⟩ ⟨rfl, rfl, trivial⟩ ⟨rfl, trivial⟩) ⟨rfl, by simp only; omega, by simp only; omega, by rw [← i3, hz]⟩
          · have hx : m.what = w := by
              rw [hI] at hx
              have hx : ((ms.getD i.toNat meas0).what != w) = false := hx
              rw [hm]; simpa using hx
            rw [if_pos ⟨hx, rfl⟩, hz, Bool.true_and] at i3
            refine C_call hI caf (by rw [hI, hm]; rfl) ?_
            (conv => cbv)
            refine C_call hI csp (by rw [hI] at s1 s2'; rw [hI, ← s1, ← s2', hm]; rfl) ?_
            (conv => cbv)
            refine C_call hI cin rfl ?_
            (conv => cbv)
            exact hR3 _ _ (i + 1, v) (by simp only; omega) (weak_k rfl rfl ⟨rfl, rfl, rfl, rfl, rfl, rfl, rfl, av_int nx2, trivial⟩ ⟨rfl, rfl, trivial⟩ ⟨rfl, trivial⟩) ⟨rfl, by simp only; omega, by simp only; omega, i3⟩
        · have i3 : okL w noSkip x r (ms.drop (i + 1).toNat) (i + 1) false = fv := by
            rw [← i3, hz]; split <;> rfl
          trace_state
          exact hR3 _ _ (i + 1, false) (by simp only; omega) (weak_k rfl rfl ⟨rfl, rfl, rfl, rfl, rfl, rfl, rfl, av_int nx2, trivial⟩ ⟨rfl, rfl, trivial⟩ ⟨rfl, trivial⟩) ⟨rfl, by simp only; omega, by simp only; omega, i3⟩
      · rw [show ms.drop i.toNat = [] from List.drop_eq_nil_of_le (by omega), okL] at i3
        subst i3
        have hvl2 := congrArg List.length r3
        simp only [List.length_append] at hvl2
        (conv => cbv)
        refine K_tst hI (fun hx => ?_) (fun hx => ?_)
        · rw [if_pos hx] at r3
          (conv => cbv)
          refine K_conj hI (by rw [hI]; show plenN _ * 16 ≤ _ ∧ plenN _ ≤ _; simp only [joinP, List.cons_append, List.nil_append, plenN, List.length_cons, List.length_nil]; omega) ?_
          exact hR2 _ _ (r + 1, L2 ++ [(Tru.mk x r)]) (by simp only; omega) (weak_k rfl rfl ⟨rfl, rfl, rfl, rfl, rfl, av_int nr, trivial⟩ ⟨rfl, rfl, trivial⟩ ⟨rowT_snoc L2 x r, trivial⟩) ⟨rfl, by simp only; omega, by simp only; omega, by rw [r3]; simp⟩
        · rw [if_neg (by simp [hx]), List.nil_append] at r3
          (conv => cbv)
          exact hR2 _ _ (r + 1, L2) (by simp only; omega) (weak_k rfl rfl ⟨rfl, rfl, rfl, rfl, rfl, av_int nr, trivial⟩ ⟨rfl, rfl, trivial⟩ ⟨rfl, trivial⟩) ⟨rfl, by simp only; omega, by simp only; omega, r3⟩
    · have hd : ¬ r ≤ t.rate.high := hd
      rw [show (t.rate.high + 1 - r).toNat = 0 from by omega, truR, List.nil_append] at r3
      (conv => cbv)
      exact hR _ _ (x + 1, L2) (by simp only; omega) (weak_k rfl rfl ⟨rfl, rfl, rfl, rfl, av_int nx, trivial⟩ ⟨rfl, rfl, trivial⟩ ⟨rfl, trivial⟩) ⟨by simp only; omega, by simp only; omega, r3⟩
  · have hc : ¬ x ≤ t.first.high := hc
    rw [show (t.first.high + 1 - x).toNat = 0 from by omega, truX, List.append_nil] at x3
    subst x3
    (conv => cbv)
    rw [hI]; refine ⟨?_, rfl⟩
    rfl
end Go.Proofs.Ytnekemldcjegaaa.Aw

/- Plain: a bolt's cloth is valid, and has its truth. -/
namespace Go.Proofs.Ytnekemldcjegaaa.Aw
open Go Go.RowKit Go.Proofs
set_option linter.unusedSimpArgs false
set_option linter.unusedVariables false
theorem within_one {a b n : Int} : within a b [n] = true ↔ a ≤ n ∧ n ≤ b := by
  rw [within_iff]; simp
theorem track_ok {v : B4} (h : v.ok) : isTrack (tOf v) = true := by
  obtain ⟨⟨f0, f1⟩, g0, g1⟩ := tru_range h
  obtain ⟨a, b, c, d⟩ := h
  simp only [isTrack, isRate, Bool.and_eq_true, isSpan_iff, tOf]
  omega
theorem meas_ok {x : Bolt} (hx : x.ok) {v : B4} (h : v.ok) : isMeas (mOf x v) = true := by
  obtain ⟨⟨f0, f1⟩, g0, g1⟩ := tru_range (sel_ok hx (v.a % 3))
  have har := aft_range (x := tFirst (x.sel (v.a % 3))) (r := tRate (x.sel (v.a % 3))) (by omega) (by omega) (v.b % 30).toNat
  obtain ⟨⟨a0, a1⟩, ⟨b0, b1⟩, ⟨c0, c1⟩, d0, d1⟩ := h
  have e1 := Int.emod_nonneg v.d (show 2 * (v.c % 12) + 1 ≠ 0 by omega)
  have e2 := Int.emod_lt_of_pos v.d (show 0 < 2 * (v.c % 12) + 1 by omega)
  simp only [isMeas, isWhat, Bool.and_eq_true, within_one, mOf, mRead]
  generalize v.d % (2 * (v.c % 12) + 1) = q at *
  generalize aft (tFirst (x.sel (v.a % 3))) (tRate (x.sel (v.a % 3))) (v.b % 30).toNat = A at *
  omega
theorem meas_near {x : Bolt} (hx : x.ok) {v : B4} (h : v.ok) : nearB (aft (tFirst (x.sel (mOf x v).what)) (tRate (x.sel (mOf x v).what)) (mOf x v).hour.toNat) (mOf x v).reading (mOf x v).off = true := by
  obtain ⟨⟨f0, f1⟩, g0, g1⟩ := tru_range (sel_ok hx (v.a % 3))
  have har := aft_range (x := tFirst (x.sel (v.a % 3))) (r := tRate (x.sel (v.a % 3))) (by omega) (by omega) (v.b % 30).toNat
  obtain ⟨⟨a0, a1⟩, ⟨b0, b1⟩, ⟨c0, c1⟩, d0, d1⟩ := h
  have e1 := Int.emod_nonneg v.d (show 2 * (v.c % 12) + 1 ≠ 0 by omega)
  have e2 := Int.emod_lt_of_pos v.d (show 0 < 2 * (v.c % 12) + 1 by omega)
  rw [near_iff]
  simp only [mOf, mRead]
  generalize v.d % (2 * (v.c % 12) + 1) = q at *
  generalize aft (tFirst (x.sel (v.a % 3))) (tRate (x.sel (v.a % 3))) (v.b % 30).toNat = A at *
  omega
theorem boltM_len (x : Bolt) : (boltM x).length ≤ 6 := by
  unfold boltM; rw [List.length_map, List.length_take]; omega
theorem boltM_mem {x : Bolt} {m : Meas} (h : m ∈ boltM x) : ∃ v ∈ x.ms, m = mOf x v := by
  unfold boltM at h
  obtain ⟨v, hv, rfl⟩ := List.mem_map.1 h
  exact ⟨v, List.mem_of_mem_take hv, rfl⟩
theorem check_of {ts : List Track} {ms : List Meas} (h1 : ts.length = 3) (h2 : ∀ t ∈ ts, isTrack t = true) (h3 : ms.length ≤ 8) (h4 : ∀ m ∈ ms, isMeas m = true) : check ts ms = 0 := by
  unfold check
  rw [if_neg (by omega), if_neg, if_neg (by omega), if_neg]
  · rw [List.any_eq_true]
    rintro ⟨m, hm, hb⟩
    rw [h4 m hm] at hb; cases hb
  · rw [List.any_eq_true]
    rintro ⟨m, hm, hb⟩
    rw [h2 m hm] at hb; cases hb
theorem boltT_ok {x : Bolt} (hx : x.ok) : ∀ t ∈ boltT x, isTrack t = true := fun t ht => by
  simp only [boltT, List.mem_cons, List.not_mem_nil, or_false] at ht
  rcases ht with rfl | rfl | rfl
  · exact track_ok hx.1
  · exact track_ok hx.2.1
  · exact track_ok hx.2.2.1
theorem boltM_ok {x : Bolt} (hx : x.ok) : ∀ m ∈ boltM x, isMeas m = true := fun m hm => by
  obtain ⟨v, hv, rfl⟩ := boltM_mem hm
  exact meas_ok hx (hx.2.2.2 v hv)
theorem bolt_check {x : Bolt} (hx : x.ok) : check (boltT x) (boltM x) = 0 :=
  check_of rfl (boltT_ok hx) (by have := boltM_len x; omega) (boltM_ok hx)
theorem okL_all {w : Int} {has : Int → Bool} {x r : Int} : ∀ {ms : List Meas} {i : Int}, (∀ m ∈ ms, m.what = w → nearB (aft x r m.hour.toNat) m.reading m.off = true) → okL w has x r ms i true = true
  | [], i, _ => rfl
  | m :: q, i, h => by
    simp only [okL]
    split
    · rename_i hw
      rw [h m (by simp) hw.1, Bool.true_and]
      exact okL_all (fun m hm => h m (List.mem_cons_of_mem _ hm))
    · exact okL_all (fun m hm => h m (List.mem_cons_of_mem _ hm))
theorem sel_track {x : Bolt} {w : Int} (h0 : 0 ≤ w) (h1 : w ≤ 2) : (boltT x).getD w.toNat track0 = tOf (x.sel w) := by
  have hw : w = 0 ∨ w = 1 ∨ w = 2 := by omega
  rcases hw with rfl | rfl | rfl <;> rfl
/-- The true numbers are among the truths, with whatever right measurings. -/
theorem truth_in {x : Bolt} (hx : x.ok) {ms : List Meas} {w : Int} (h0 : 0 ≤ w) (h1 : w ≤ 2) (hm : ∀ m ∈ ms, m.what = w → nearB (aft (tFirst (x.sel w)) (tRate (x.sel w)) m.hour.toNat) m.reading m.off = true) :
    (⟨tFirst (x.sel w), tRate (x.sel w)⟩ : Tru) ∈ truW (boltT x) ms noSkip w := by
  unfold truW truT
  rw [sel_track h0 h1, mem_truX]
  obtain ⟨⟨f0, f1⟩, g0, g1⟩ := tru_range (sel_ok hx w)
  obtain ⟨a, b, c, d⟩ := sel_ok hx w
  simp only [tOf]
  refine ⟨by omega, by omega, okL_all hm⟩
theorem bolt_in {x : Bolt} (hx : x.ok) {w : Int} (h0 : 0 ≤ w) (h1 : w ≤ 2) : (⟨tFirst (x.sel w), tRate (x.sel w)⟩ : Tru) ∈ truW (boltT x) (boltM x) noSkip w :=
  truth_in hx h0 h1 (fun m hm hw => by
    obtain ⟨v, hv, rfl⟩ := boltM_mem hm
    rw [← hw]
    exact meas_near hx (hx.2.2.2 v hv))
theorem true_of {ts : List Track} {ms : List Meas} (h : ∀ w : Int, 0 ≤ w → w ≤ 2 → truW ts ms noSkip w ≠ []) : rTrueB ts ms noSkip = true := by
  have key : ∀ w : Int, 0 ≤ w → w ≤ 2 → hasTru (truW ts ms noSkip w) = true := fun w h0 h1 => by
    have := List.length_pos_iff.2 (h w h0 h1)
    simp only [hasTru, decide_eq_true_eq]; omega
  unfold rTrueB
  rw [key 0 (by omega) (by omega), key 1 (by omega) (by omega), key 2 (by omega) (by omega)]; rfl
theorem bolt_true {x : Bolt} (hx : x.ok) : rTrueB (boltT x) (boltM x) noSkip = true :=
  true_of (fun w h0 h1 e => by have := bolt_in hx h0 h1; rw [e] at this; cases this)
theorem open_of {ts : List Track} {ms : List Meas} (h1 : check ts ms = 0) (h2 : rTrueB ts ms noSkip = true) : (openR ts ms).1 = 0 := by
  rw [open_eq]; unfold rOpen; rw [if_neg (by simp [h1]), if_pos h2]
theorem bolt_open {x : Bolt} (hx : x.ok) : (openR (boltT x) (boltM x)).1 = 0 := open_of (bolt_check hx) (bolt_true hx)
theorem bolt_clothIn (x : Bolt) (hx : x.ok) : ClothIn (boltT x) (boltM x) := by
  refine ⟨by simp [boltT], by have := boltM_len x; omega, fun m hm => ?_⟩
  obtain ⟨v, hv, rfl⟩ := boltM_mem hm
  have := hx.2.2.2 v hv
  obtain ⟨a, _⟩ := this
  simp only [i64ok, mOf]; omega
end Go.Proofs.Ytnekemldcjegaaa.Aw

/- Contracts of the law: what is large; ClothAt. -/
namespace Go.Proofs.Ytnekemldcjegaaa.Aw
open Go Go.RowKit Go.Proofs
set_option maxRecDepth 100000
set_option maxHeartbeats 2000000
set_option linter.unusedSimpArgs false
set_option linter.unusedVariables false
end Go.Proofs.Ytnekemldcjegaaa.Aw

/- Contracts of the law: ClothBelow, ClothFits. -/
namespace Go.Proofs.Ytnekemldcjegaaa.Aw
open Go Go.RowKit Go.Proofs
set_option maxRecDepth 100000
set_option maxHeartbeats 2000000
set_option linter.unusedSimpArgs false
set_option linter.unusedVariables false
end Go.Proofs.Ytnekemldcjegaaa.Aw

/- Contracts of the law: ClothFits. -/
namespace Go.Proofs.Ytnekemldcjegaaa.Aw
open Go Go.RowKit Go.Proofs
set_option maxRecDepth 100000
set_option maxHeartbeats 2000000
set_option linter.unusedSimpArgs false
set_option linter.unusedVariables false
end Go.Proofs.Ytnekemldcjegaaa.Aw

/- Plain: for how long a bolt's cloth was beaten, and of which yarns it is. -/
namespace Go.Proofs.Ytnekemldcjegaaa.Aw
open Go Go.RowKit Go.Proofs
set_option linter.unusedSimpArgs false
set_option linter.unusedVariables false
end Go.Proofs.Ytnekemldcjegaaa.Aw

/- Plain: what is so from hour to hour. -/
namespace Go.Proofs.Ytnekemldcjegaaa.Aw
open Go Go.RowKit Go.Proofs
set_option linter.unusedSimpArgs false
set_option linter.unusedVariables false
section
variable {ts : List Track} {ms : List Meas}
theorem tru_fit (hck : check ts ms = 0) {w : Int} (h0 : 0 ≤ w) (h1 : w ≤ 2) : ∀ t ∈ truW ts ms noSkip w, (0 ≤ t.first ∧ t.first ≤ 2000) ∧ 0 ≤ t.rate ∧ t.rate ≤ 100 := by
  intro t ht
  obtain ⟨g1, g2, g3, g4⟩ := check_zero hck
  obtain ⟨t1, t2, t3, t4, t5, t6⟩ := getD_ok g1 g2 h0 h1
  unfold truW truT at ht
  rw [mem_truX] at ht
  omega
end
end Go.Proofs.Ytnekemldcjegaaa.Aw

/- Types of chapter 1, printed by wip/gen/ch1.py. -/
namespace Go.Proofs.Ytnekemldcjegaaa.Aw
open Go Go.RowKit Go.Proofs
set_option maxRecDepth 100000
set_option maxHeartbeats 4000000
set_option linter.unusedSimpArgs false
set_option linter.unusedVariables false
noncomputable section
structure api_Cloth where
  Tracks : (List Track)
  Measures : (List Meas)
structure A3_A4_u8 where
  a0 : B4
  a1 : B4
  a2 : B4
structure law01_Bolt where
  Tracks : A3_A4_u8
  Measures : (List B4)
structure cloth_stretch where
  Span : Span
  rate : Int
def d_cloth_stretch : cloth_stretch := ⟨span0, 0⟩
def c_cloth_stretch (x : cloth_stretch) : List KV := [.int .i64 x.Span.low, .int .i64 x.Span.high, .int .i64 x.rate]
structure A3_L_cloth_stretch where
  a0 : (List cloth_stretch)
  a1 : (List cloth_stretch)
  a2 : (List cloth_stretch)
def e_cloth_stretch (x : cloth_stretch) (j : Nat) : KV := cel (c_cloth_stretch x) j
def sl_cloth_stretch (c : Bool) (l : List cloth_stretch) : KV := .sl c 3 cloth_stretch d_cloth_stretch l e_cloth_stretch
structure A2_u8 where
  a0 : Int
  a1 : Int
structure A3_u8 where
  a0 : Int
  a1 : Int
  a2 : Int
end
end Go.Proofs.Ytnekemldcjegaaa.Aw

/- Plain models of what was walked by hand: the functions of chapter 1, as the laws call them. -/
namespace Go.Proofs.Ytnekemldcjegaaa.Aw
open Go Go.RowKit Go.Proofs
set_option maxRecDepth 100000
set_option linter.unusedSimpArgs false
set_option linter.unusedVariables false
open Classical
/-- Where it is so, x. -/
noncomputable def onlyIf {α : Type} (p : Prop) (x : α) : Option α := if p then some x else none
theorem onlyIf_of {α : Type} {p : Prop} {x o : α} (h : onlyIf p x = some o) : p ∧ o = x := by
  unfold onlyIf at h
  split at h
  · rename_i hp; cases h; exact ⟨hp, rfl⟩
  · cases h
theorem onlyIf_pos {α : Type} {p : Prop} {x : α} (h : p) : onlyIf p x = some x := by unfold onlyIf; rw [if_pos h]
def toBolt (x : law01_Bolt) : Bolt := ⟨x.Tracks.a0, x.Tracks.a1, x.Tracks.a2, x.Measures⟩
def m_law01_known (N : Nat) : Option Bool := some true
theorem w_law01_known (N : Nat) (o : Bool) (e : m_law01_known N = some o) : KC Try.prog 18 [] (.bool o) [] := by
  cases e; exact con_known
noncomputable def m_law01_own (N : Nat) (c : api_Cloth) : Option api_Cloth := onlyIf (c.Tracks.length ≤ 1000000 ∧ c.Measures.length ≤ 1000000) c
theorem w_law01_own (N : Nat) (c : api_Cloth) (o : api_Cloth) (e : m_law01_own N c = some o) : KC Try.prog 47 [.agg [slTrack false c.Tracks, slMeas false c.Measures]] (.agg [slTrack false o.Tracks, slMeas false o.Measures]) [] := by
  obtain ⟨hp, rfl⟩ := onlyIf_of e
  exact con_own o.Tracks o.Measures hp.1 hp.2
noncomputable def m_law01_truths (N : Nat) (c : api_Cloth) (w : Int) : Option (List Tru) := onlyIf (check c.Tracks c.Measures = 0 ∧ 0 ≤ w ∧ w ≤ 2) (truW c.Tracks c.Measures noSkip w)
theorem w_law01_truths (N : Nat) (c : api_Cloth) (w : Int) (o : List Tru) (e : m_law01_truths N c w = some o) : KC Try.prog 48 [.agg [slTrack false c.Tracks, slMeas false c.Measures], .int .i64 w] (slTru false o) [] := by
  obtain ⟨hp, rfl⟩ := onlyIf_of e
  exact con_ltruths c.Tracks c.Measures w hp.1 hp.2.1 hp.2.2
def kB (x : law01_Bolt) : KV := .agg [.int .u8 x.Tracks.a0.a, .int .u8 x.Tracks.a0.b, .int .u8 x.Tracks.a0.c, .int .u8 x.Tracks.a0.d, .int .u8 x.Tracks.a1.a, .int .u8 x.Tracks.a1.b, .int .u8 x.Tracks.a1.c, .int .u8 x.Tracks.a1.d, .int .u8 x.Tracks.a2.a, .int .u8 x.Tracks.a2.b, .int .u8 x.Tracks.a2.c, .int .u8 x.Tracks.a2.d, slB4 false x.Measures]
noncomputable def m_law01_Bolt_cloth (N : Nat) (x : law01_Bolt) : Option api_Cloth := onlyIf (toBolt x).ok ⟨boltT (toBolt x), boltM (toBolt x)⟩
theorem w_law01_Bolt_cloth (N : Nat) (x : law01_Bolt) (o : api_Cloth) (e : m_law01_Bolt_cloth N x = some o) : KC Try.prog 46 [kB x] (.agg [slTrack false o.Tracks, slMeas false o.Measures]) [] := by
  obtain ⟨hp, rfl⟩ := onlyIf_of e
  exact con_cloth (toBolt x) hp
noncomputable def m_law01_after (N : Nat) (x r h : Int) : Option Int := onlyIf ((0 ≤ x ∧ x ≤ 1000000) ∧ (0 ≤ r ∧ r ≤ 1000) ∧ h ≤ 1000000) (aft x r h.toNat)
theorem w_law01_after (N : Nat) (x r h : Int) (o : Int) (e : m_law01_after N x r h = some o) : KC Try.prog 51 [.int .i64 x, .int .i64 r, .int .i64 h] (.int .i64 o) [] := by
  obtain ⟨hp, rfl⟩ := onlyIf_of e
  exact con_lafter x r h hp.1 hp.2.1 hp.2.2
end Go.Proofs.Ytnekemldcjegaaa.Aw

/- Plain models of what was walked by hand: the truths of a cloth, opened, and their values. -/
namespace Go.Proofs.Ytnekemldcjegaaa.Aw
open Go Go.RowKit Go.Proofs
set_option maxRecDepth 100000
set_option linter.unusedSimpArgs false
set_option linter.unusedVariables false
def toStr (s : cloth_stretch) : Str := ⟨s.Span.low, s.Span.high, s.rate⟩
def ofStr (s : Str) : cloth_stretch := ⟨⟨s.low, s.high⟩, s.rate⟩
def toTr (t : A3_L_cloth_stretch) : Tr := ⟨t.a0.map toStr, t.a1.map toStr, t.a2.map toStr⟩
def ofTr (t : Tr) : A3_L_cloth_stretch := ⟨t.a.map ofStr, t.b.map ofStr, t.c.map ofStr⟩
theorem toTr_of (t : Tr) : toTr (ofTr t) = t := by
  cases t
  simp only [toTr, ofTr, List.map_map]
  have : (toStr ∘ ofStr) = id := rfl
  simp [this]
theorem slStr_of (l : List cloth_stretch) : (slStr false (l.map toStr)).toD = (sl_cloth_stretch false l).toD := by
  simp only [slStr, sl_cloth_stretch, KV.toD, List.map_map]
  congr 1
theorem slStr_av (l : List cloth_stretch) : (slStr false (l.map toStr)).av = (sl_cloth_stretch false l).av := by
  have := slStr_of l
  simp only [slStr, sl_cloth_stretch, KV.toD, KV.av] at this ⊢
  rw [this]
theorem lv_orNil (l : List Str) : LV (orNil l) (sl_cloth_stretch false (l.map ofStr)) := by
  cases l with
  | nil => exact LV_nil
  | cons s l =>
    refine LV_eq ?_
    rw [← slStr_av]
    simp only [List.map_map]
    have : (toStr ∘ ofStr) = id := rfl
    simp [this, orNil]
noncomputable def m_cloth_open (N : Nat) (c : api_Cloth) : Option (A3_L_cloth_stretch × Int) := onlyIf (ClothIn c.Tracks c.Measures) (ofTr (openR c.Tracks c.Measures).2, (openR c.Tracks c.Measures).1)
theorem w_cloth_open (N : Nat) (c : api_Cloth) (o : A3_L_cloth_stretch × Int) (e : m_cloth_open N c = some o) : KC Try.prog 67 [.agg [slTrack false c.Tracks, slMeas false c.Measures]] (.tup [.agg [sl_cloth_stretch false o.1.a0, sl_cloth_stretch false o.1.a1, sl_cloth_stretch false o.1.a2], .int .i64 o.2]) [] := by
  obtain ⟨hp, rfl⟩ := onlyIf_of e
  exact KC_res (con_open c.Tracks c.Measures hp.1 hp.2.1 hp.2.2) (LV_tup ⟨LV_agg ⟨lv_orNil _, lv_orNil _, lv_orNil _, rfl⟩, lR, rfl⟩)
def TrIn (t : Tr) (w h : Int) : Prop := (0 ≤ w ∧ w ≤ 2) ∧ h ≤ 1000000 ∧ t.sel w ≠ [] ∧ ((t.sel w).length : Int) ≤ 1000000 ∧ ∀ s ∈ t.sel w, s.ok
noncomputable def m_cloth_truths_at (N : Nat) (t : A3_L_cloth_stretch) (w h : Int) : Option Span := onlyIf (TrIn (toTr t) w h) (hullL (strAtH h) ((toTr t).sel w))
theorem w_cloth_truths_at (N : Nat) (t : A3_L_cloth_stretch) (w h : Int) (o : Span) (e : m_cloth_truths_at N t w h = some o) : KC Try.prog 69 [.agg [sl_cloth_stretch false t.a0, sl_cloth_stretch false t.a1, sl_cloth_stretch false t.a2], .int .i64 w, .int .i64 h] (.agg [.int .i64 o.low, .int .i64 o.high]) [] := by
  obtain ⟨⟨h1, h2, h3, h4, h5⟩, rfl⟩ := onlyIf_of e
  have := con_at (toTr t) w h h1 h2 h3 (by omega) h5
  unfold KC at this ⊢
  have e1 : (slStr false (toTr t).a).toD = (sl_cloth_stretch false t.a0).toD := slStr_of _
  have e2 : (slStr false (toTr t).b).toD = (sl_cloth_stretch false t.a1).toD := slStr_of _
  have e3 : (slStr false (toTr t).c).toD = (sl_cloth_stretch false t.a2).toD := slStr_of _
  simp only [kTr, KV.toDL, KV.toD] at this ⊢
  rw [e1, e2, e3] at this
  exact this
noncomputable def m_it_values (N : Nat) (t : A3_L_cloth_stretch) (w h : Int) : Option (List Int) := onlyIf (TrIn (toTr t) w h) (valsL h ((toTr t).sel w))
theorem i_values (N : Nat) (t : A3_L_cloth_stretch) (w h : Int) (o : List Int) (e : m_it_values N t w h = some o) : IterCon Try.prog 105 (KV.toDL [.ptr [sl_cloth_stretch false t.a0, sl_cloth_stretch false t.a1, sl_cloth_stretch false t.a2], .ptr [.int .i64 w], .ptr [.int .i64 h]]) ((o.map fun n => [.int .i64 n]).map KV.toDL) := by
  obtain ⟨⟨h1, h2, h3, h4, h5⟩, rfl⟩ := onlyIf_of e
  have := iter_values (toTr t) w h h1 h2 h4 h5
  unfold KI at this
  have e1 : (slStr false (toTr t).a).toD = (sl_cloth_stretch false t.a0).toD := slStr_of _
  have e2 : (slStr false (toTr t).b).toD = (sl_cloth_stretch false t.a1).toD := slStr_of _
  have e3 : (slStr false (toTr t).c).toD = (sl_cloth_stretch false t.a2).toD := slStr_of _
  simp only [capsVal, KV.toDL, KV.toD] at this ⊢
  rw [e1, e2, e3] at this
  exact this
end Go.Proofs.Ytnekemldcjegaaa.Aw

/- Plain models and walks of chapter 1, printed by wip/gen/ch1.py. -/
namespace Go.Proofs.Ytnekemldcjegaaa.Aw
open Go Go.RowKit Go.Proofs
set_option maxRecDepth 100000
set_option maxHeartbeats 4000000
set_option linter.unusedSimpArgs false
set_option linter.unusedVariables false
noncomputable section
def m_law01_in (N : Nat) (n_1 : Int) (s_2 : Span) : Option (Bool) :=
  (show Option (Bool) from
    if icmpR .geq n_1 s_2.low then
      some (icmpR .leq n_1 s_2.high)
    else
      some false).bind fun q => match q with
  | v_3 =>
    some v_3
theorem w_law01_in (N : Nat) (n_1 : Int) (s_2 : Span) (o : Bool) (h : m_law01_in N n_1 s_2 = some o) :
    KC Try.prog 50 [.int .i64 n_1, .agg [.int .i64 s_2.low, .int .i64 s_2.high]] (.bool o) [] := by
  unfold m_law01_in at h
  refine con_l [] [1000001] seat Try.func50 rfl ent_50 (by kernel_rfl) rfl rfl (by simp) ?_; intro base I hI; (conv => cbv)
  refine L_cut hI seat [] (by kernel_rfl) h (fun q => match q with | v_3 => .normal) (fun q => match q with | v_3 => ⟨15, [(4, .bool v_3)], [], [], 0⟩) ?_ ?_; all_goals clear h
  · intro x h R hR
    (conv => cbv)
    refine L_tst hI h (by subst_vars; rfl) ?_ ?_ <;> clear h <;> intro h
    · exact hR _ _ (Option.some.inj h).symm (by subst_vars; exact weak_l rfl rfl ⟨lE, trivial⟩ trivial trivial)
    · exact hR _ _ (Option.some.inj h).symm (by subst_vars; exact weak_l rfl rfl ⟨lE, trivial⟩ trivial trivial)
  · intro v_3 h
    (conv => cbv)
    cases h
    subst_vars
    exact ⟨lE, rfl⟩
def m_law01_span (N : Nat) (low_1 : Int) (high_2 : Int) : Option (Span) :=
  some (Span.mk low_1 high_2)
theorem w_law01_span (N : Nat) (low_1 : Int) (high_2 : Int) (o : Span) (h : m_law01_span N low_1 high_2 = some o) :
    KC Try.prog 54 [.int .i64 low_1, .int .i64 high_2] (.agg [.int .i64 o.low, .int .i64 o.high]) [] := by
  unfold m_law01_span at h
  refine con_l [] [] seat Try.func54 rfl ent_54 (by kernel_rfl) rfl rfl (by simp) ?_; intro base I hI; (conv => cbv)
  cases h
  subst_vars
  exact ⟨(LV_agg ⟨lE, lE, rfl⟩), rfl⟩
def m_slices_IndexFunc_Lint_int_L1 (N : Nat) (v_3 : Int) (s_1 : (List Int)) (f_2 : Int → Option Bool) : Int → Option ((Int) ⊕ ((Int) ⊕ (Unit)))
  | v_6 =>
    if icmpR .lss v_6 v_3 then
      (getO 0 s_1 v_6).bind fun x_10 =>
      (f_2 x_10).bind fun v_11 =>
      if v_11 then
        some (.inr (.inl v_6))
      else
        some (.inl (iopR .add .i64 v_6 1))
    else
      some (.inr (.inr ()))
def m_slices_IndexFunc_Lint_int (N : Nat) (s_1 : (List Int)) (f_2 : Int → Option Bool) : Option (Int) :=
  letO (((s_1.length : Nat) : Int) : Int) fun v_3 =>
  (loopO (m_slices_IndexFunc_Lint_int_L1 N v_3 s_1 f_2) N 0).bind fun q => match q with
  | (.inl v_9) =>
    some v_9
  | (.inr ()) =>
    some (-1)
theorem w_slices_IndexFunc_Lint_int (N : Nat) (s_1 : (List Int)) (f_2 : Int → Option Bool) (kf_2 : Nat) (dsf_2 : List D) (hdf_2 : noAggD dsf_2 = true) (hpf_2 : ∀ x0 r, f_2 x0 = some r → KD Try.prog kf_2 [.int .i64 x0] dsf_2 (.bool r)) (o : Int) (h : m_slices_IndexFunc_Lint_int N s_1 f_2 = some o) :
    KC Try.prog 112 [slInt false s_1, .d (.fn kf_2 dsf_2)] (.int .i64 o) [] := by
  unfold m_slices_IndexFunc_Lint_int at h
  refine con_l [] [] seat Try.func112 rfl ent_112 (by kernel_rfl) rfl rfl (by simp) ?_; intro base I hI; (conv => cbv)
  replace h := letO_of h; obtain ⟨v_3, hev_3, h⟩ := h
  refine L_loop hI seat [] (by kernel_rfl) h (fun q => match q with | v_6 => ⟨19, [(0, slInt false s_1), (1, .d (.fn kf_2 dsf_2)), (7, .int .i64 v_3), (8, .int .i64 v_6)], [], [], 0⟩) (fun q => match q with | (.inl v_9) => .ret | (.inr ()) => .exit 0) (fun q => match q with | (.inl v_9) => ⟨19, [(4, .int .i64 v_9)], [], [], 0⟩ | (.inr ()) => ⟨19, [], [], [], 0⟩) (by subst_vars; exact weak_l rfl rfl ⟨LV_sl, lR, lE, lE, trivial⟩ trivial trivial) (by intro q; rcases q with (v_9 | _) <;> (intro e; exact Exit.noConfusion e)) ?_ ?_; all_goals clear h
  · intro v_6 x h R hR hX
    rw [m_slices_IndexFunc_Lint_int_L1] at h
    (conv => cbv)
    refine L_tst hI h (by subst_vars; rfl) ?_ ?_ <;> clear h <;> intro h
    · refine L_get hI h (fun g => by subst_vars; exact g) ?_; clear h; intro hc x_10 hxx_10 h
      refine K_conj hI (by subst_vars; exact hdf_2) ?_
      refine L_callD hI h (args' := [.int .i64 x_10]) (fun v hv => hpf_2 x_10 v hv) (by subst_vars; rfl) ?_; clear h; intro v_11 h; (conv => cbv)
      refine L_tst hI h (by subst_vars; rfl) ?_ ?_ <;> clear h <;> intro h
      · exact hX _ _ (Option.some.inj h).symm (by subst_vars; exact weak_l rfl rfl ⟨lE, trivial⟩ trivial trivial)
      · exact hR _ _ (Option.some.inj h).symm (by subst_vars; exact weak_l rfl rfl ⟨LV_sl, lR, lE, lE, trivial⟩ trivial trivial)
    · exact hX _ _ (Option.some.inj h).symm (by subst_vars; exact weak_l rfl rfl trivial trivial trivial)
  · intro q h
    rcases q with (v_9 | _)
    · (conv => cbv)
      cases h
      subst_vars
      exact ⟨lE, rfl⟩
    · (conv => cbv)
      cases h
      subst_vars
      exact ⟨lE, rfl⟩
def m_slices_ContainsFunc_Lint_int (N : Nat) (s_1 : (List Int)) (f_2 : Int → Option Bool) : Option (Bool) :=
  (m_slices_IndexFunc_Lint_int N s_1 f_2).bind fun r_3 =>
  some (icmpR .geq r_3 0)
theorem w_slices_ContainsFunc_Lint_int (N : Nat) (s_1 : (List Int)) (f_2 : Int → Option Bool) (kf_2 : Nat) (dsf_2 : List D) (hdf_2 : noAggD dsf_2 = true) (hpf_2 : ∀ x0 r, f_2 x0 = some r → KD Try.prog kf_2 [.int .i64 x0] dsf_2 (.bool r)) (o : Bool) (h : m_slices_ContainsFunc_Lint_int N s_1 f_2 = some o) :
    KC Try.prog 100 [slInt false s_1, .d (.fn kf_2 dsf_2)] (.bool o) [] := by
  unfold m_slices_ContainsFunc_Lint_int at h
  refine con_l [] [] seat Try.func100 rfl ent_100 (by kernel_rfl) rfl rfl (by simp) ?_; intro base I hI; (conv => cbv)
  refine L_call hI h (fun v hv => w_slices_IndexFunc_Lint_int N s_1 f_2 kf_2 dsf_2 hdf_2 hpf_2 v hv) (by subst_vars; exact ⟨(leD_refl _), (leD_refl _), rfl⟩) ?_; clear h; intro r_3 h; (conv => cbv)
  cases h
  subst_vars
  exact ⟨lE, rfl⟩
def m_cloth_within_1 (N : Nat) (n_1 : Int) (p_2 : Int) (p_3 : Int) : Option (Bool) :=
  (show Option (Bool) from
    if icmpR .lss n_1 p_2 then
      some true
    else
      some (icmpR .gtr n_1 p_3)).bind fun q => match q with
  | v_4 =>
    some v_4
theorem w_cloth_within_1 (N : Nat) (n_1 : Int) (p_2 : Int) (p_3 : Int) (o : Bool) (h : m_cloth_within_1 N n_1 p_2 p_3 = some o) :
    KC Try.prog 101 [.int .i64 n_1, .ptr [.int .i64 p_2], .ptr [.int .i64 p_3]] (.bool o) [] := by
  unfold m_cloth_within_1 at h
  refine con_l [] [1000001] seat Try.func101 rfl ent_101 (by kernel_rfl) rfl rfl (by simp) ?_; intro base I hI; (conv => cbv)
  refine L_cut hI seat [] (by kernel_rfl) h (fun q => match q with | v_4 => .normal) (fun q => match q with | v_4 => ⟨13, [(4, .bool v_4)], [], [], 0⟩) ?_ ?_; all_goals clear h
  · intro x h R hR
    (conv => cbv)
    refine L_tst hI h (by subst_vars; rfl) ?_ ?_ <;> clear h <;> intro h
    · exact hR _ _ (Option.some.inj h).symm (by subst_vars; exact weak_l rfl rfl ⟨lE, trivial⟩ trivial trivial)
    · exact hR _ _ (Option.some.inj h).symm (by subst_vars; exact weak_l rfl rfl ⟨lE, trivial⟩ trivial trivial)
  · intro v_4 h
    (conv => cbv)
    cases h
    subst_vars
    exact ⟨lE, rfl⟩
def m_cloth_within (N : Nat) (least_1 : Int) (most_2 : Int) (l_3 : (List Int)) : Option (Bool) :=
  (m_slices_ContainsFunc_Lint_int N l_3 (fun x0 => m_cloth_within_1 N x0 least_1 most_2)).bind fun r_4 =>
  some (!r_4)
theorem w_cloth_within (N : Nat) (least_1 : Int) (most_2 : Int) (l_3 : (List Int)) (o : Bool) (h : m_cloth_within N least_1 most_2 l_3 = some o) :
    KC Try.prog 68 [.int .i64 least_1, .int .i64 most_2, slInt false l_3] (.bool o) [] := by
  unfold m_cloth_within at h
  refine con_l [] [] seat Try.func68 rfl ent_68 (by kernel_rfl) rfl rfl (by simp) ?_; intro base I hI; (conv => cbv)
  refine L_call hI h (fun v hv => w_slices_ContainsFunc_Lint_int N l_3 (fun x0 => m_cloth_within_1 N x0 least_1 most_2) 101 (KV.toDL [.ptr [.int .i64 least_1], .ptr [.int .i64 most_2]]) rfl (fun x0 r hr => KD_of (caps := [.ptr [.int .i64 least_1], .ptr [.int .i64 most_2]]) (w_cloth_within_1 N x0 least_1 most_2 r hr)) v hv) (by subst_vars; exact ⟨(leD_refl _), (leD_refl _), rfl⟩) ?_; clear h; intro r_4 h; (conv => cbv)
  cases h
  subst_vars
  exact ⟨lE, rfl⟩
def m_cloth_isWhat (N : Nat) (what_1 : Int) : Option (Bool) :=
  (m_cloth_within N 0 2 [what_1]).bind fun r_2 =>
  some r_2
theorem w_cloth_isWhat (N : Nat) (what_1 : Int) (o : Bool) (h : m_cloth_isWhat N what_1 = some o) :
    KC Try.prog 73 [.int .i64 what_1] (.bool o) [] := by
  unfold m_cloth_isWhat at h
  refine con_l [] [] seat Try.func73 rfl ent_73 (by kernel_rfl) rfl rfl (by simp) ?_; intro base I hI; (conv => cbv)
  refine L_call hI h (fun v hv => w_cloth_within N 0 2 [what_1] v hv) (by subst_vars; exact ⟨(leD_refl _), (leD_refl _), ⟨.inl rfl, rfl, leDLL_refl _⟩, rfl⟩) ?_; clear h; intro r_2 h; (conv => cbv)
  cases h
  subst_vars
  exact ⟨lE, rfl⟩
def m_cloth_truths_values (N : Nat) (t_1 : A3_L_cloth_stretch) (what_2 : Int) (hour_3 : Int) : Option ((A3_L_cloth_stretch × Int × Int)) :=
  some (t_1, what_2, hour_3)
theorem w_cloth_truths_values (N : Nat) (t_1 : A3_L_cloth_stretch) (what_2 : Int) (hour_3 : Int) (o : (A3_L_cloth_stretch × Int × Int)) (h : m_cloth_truths_values N t_1 what_2 hour_3 = some o) :
    KC Try.prog 74 [.agg [sl_cloth_stretch false t_1.a0, sl_cloth_stretch false t_1.a1, sl_cloth_stretch false t_1.a2], .int .i64 what_2, .int .i64 hour_3] (.dfn 105 [.ptr [sl_cloth_stretch false o.1.a0, sl_cloth_stretch false o.1.a1, sl_cloth_stretch false o.1.a2], .ptr [.int .i64 o.2.1], .ptr [.int .i64 o.2.2]]) [] := by
  unfold m_cloth_truths_values at h
  refine con_l [] [] seat Try.func74 rfl ent_74 (by kernel_rfl) rfl rfl (by simp) ?_; intro base I hI; (conv => cbv)
  cases h
  subst_vars
  exact ⟨lE, rfl⟩
def m_cloth_truths_left_L1 (N : Nat) (r_5 : Span) : Int → (List Int) → Option (((List Int)) ⊕ (Empty))
  | y_9, l_12 =>
    if 0 ≤ iopR .sub .i64 y_9 r_5.low ∧ iopR .sub .i64 y_9 r_5.low < ((l_12.length : Nat) : Int) then
      (getO 0 l_12 (iopR .sub .i64 y_9 r_5.low)).bind fun x_15 =>
      if 0 ≤ iopR .sub .i64 y_9 r_5.low ∧ iopR .sub .i64 y_9 r_5.low < ((l_12.length : Nat) : Int) then
        if 0 ≤ iopR .sub .i64 y_9 r_5.low ∧ iopR .sub .i64 y_9 r_5.low < ((l_12.length : Nat) : Int) then
          letO (l_12.set (iopR .sub .i64 y_9 r_5.low).toNat (iopR .add .i64 x_15 1)) fun l_16 =>
          some (.inl l_16)
        else none
      else none
    else none
def m_cloth_truths_left_L2 (N : Nat) (v_17 : Int) (l_12 : (List Int)) (p_4 : Int) : (Int × Int × Int) → Option ((Int × Int × Int) ⊕ (Int))
  | (v_21, v_22, v_23) =>
    if icmpR .lss v_23 v_17 then
      if 0 ≤ v_23 ∧ v_23 < ((l_12.length : Nat) : Int) then
        (getO 0 l_12 v_23).bind fun x_28 =>
        (show Option (Int) from
          if icmpR .geq (iopR .sub .i64 (iopR .sub .i64 v_23 (iopR .mul .i64 2 p_4)) 1) 0 then
            if 0 ≤ iopR .sub .i64 (iopR .sub .i64 v_23 (iopR .mul .i64 2 p_4)) 1 ∧ iopR .sub .i64 (iopR .sub .i64 v_23 (iopR .mul .i64 2 p_4)) 1 < ((l_12.length : Nat) : Int) then
              (getO 0 l_12 (iopR .sub .i64 (iopR .sub .i64 v_23 (iopR .mul .i64 2 p_4)) 1)).bind fun x_30 =>
              some (iopR .sub .i64 (iopR .add .i64 v_22 x_28) x_30)
            else none
          else
            some (iopR .add .i64 v_22 x_28)).bind fun q => match q with
        | v_29 =>
          some (.inl (max v_21 v_29, v_29, iopR .add .i64 v_23 1))
      else none
    else
      some (.inr v_21)
def m_cloth_truths_left (N : Nat) (p_1 : A3_L_cloth_stretch) (p_2 : Int) (p_3 : Int) (p_4 : Int) : Option (Int) :=
  (m_cloth_truths_at N p_1 p_2 p_3).bind fun r_5 =>
  if mkOk (iopR .add .i64 (iopR .sub .i64 r_5.high r_5.low) 1) 8 then
    (m_cloth_truths_values N p_1 p_2 p_3).bind fun r_6 =>
    letO (List.replicate (iopR .add .i64 (iopR .sub .i64 r_5.high r_5.low) 1).toNat 0 : (List Int)) fun l_7 =>
    (m_it_values N r_6.1 r_6.2.1 r_6.2.2).bind fun ys_8 =>
    (rangeO (m_cloth_truths_left_L1 N r_5) ys_8 l_7).bind fun q => match q with
    | .inl l_12 =>
      letO (((l_12.length : Nat) : Int) : Int) fun v_17 =>
      (loopO (m_cloth_truths_left_L2 N v_17 l_12 p_4) N (0, 0, 0)).bind fun q => match q with
      | v_27 =>
        some v_27
  else none
theorem w_cloth_truths_left (N : Nat) (p_1 : A3_L_cloth_stretch) (p_2 : Int) (p_3 : Int) (p_4 : Int) (o : Int) (h : m_cloth_truths_left N p_1 p_2 p_3 p_4 = some o) :
    KC Try.prog 94 [.agg [sl_cloth_stretch false p_1.a0, sl_cloth_stretch false p_1.a1, sl_cloth_stretch false p_1.a2], .int .i64 p_2, .int .i64 p_3, .int .i64 p_4] (.int .i64 o) [] := by
  unfold m_cloth_truths_left at h
  refine con_l [] [2000057] seat Try.func94 rfl ent_94 (by kernel_rfl) rfl rfl (by simp) ?_; intro base I hI; (conv => cbv)
  refine L_call hI h (fun v hv => w_cloth_truths_at N p_1 p_2 p_3 v hv) (by subst_vars; exact ⟨(leD_refl _), (leD_refl _), (leD_refl _), rfl⟩) ?_; clear h; intro r_5 h; (conv => cbv)
  refine L_mk hI h (by first | exact trivial | rfl) (by subst_vars; rfl) ?_; clear h; intro h
  refine L_call hI h (fun v hv => w_cloth_truths_values N p_1 p_2 p_3 v hv) (by subst_vars; exact ⟨(leD_refl _), (leD_refl _), (leD_refl _), rfl⟩) ?_; clear h; intro r_6 h; (conv => cbv)
  replace h := letO_of h; obtain ⟨l_7, hel_7, h⟩ := h
  replace h := bind_of h; obtain ⟨ys_8, hyys_8, h⟩ := h
  refine W_weak hI (S' := ⟨69, [(3, .int .i64 p_4), (8, .lit .i64 0), (9, .loc 1 0), (10, .loc 3 0), (30, .dfn 105 [.ptr [sl_cloth_stretch false r_6.1.a0, sl_cloth_stretch false r_6.1.a1, sl_cloth_stretch false r_6.1.a2], .ptr [.int .i64 r_6.2.1], .ptr [.int .i64 r_6.2.2]])], [(3, ⟨56, [.osl 2], true⟩), (1, ⟨70, [.int .i64 r_5.low, .int .i64 r_5.high], true⟩)], [(2, ⟨3, 1, [.ls Int 0 l_7 eInt], true, true⟩)], 0⟩) (by subst_vars; exact weak_l rfl rfl ⟨lE, lE, lR, lR, lE, trivial⟩ ⟨lB ⟨lR, rfl⟩, lB ⟨lE, lE, rfl⟩, trivial⟩ ⟨lO, trivial⟩) ?_
  refine L_range hI seat [2000057] (by kernel_rfl) (ys := ys_8) (kY := fun y_9 => [.int .i64 y_9]) ((i_values N r_6.1 r_6.2.1 r_6.2.2 ys_8 hyys_8)) rfl h (fun q => match q with | l_12 => ([(3, ⟨56, [.osl 2], true⟩), (1, ⟨70, [.int .i64 r_5.low, .int .i64 r_5.high], true⟩)], [(2, ⟨3, 1, [.ls Int 0 l_12 eInt], true, true⟩)])) (fun q => nomatch q) (fun q => nomatch q) rfl (fun _ => ⟨rfl, rfl⟩) 4 rfl (by subst_vars; exact ⟨lB ⟨lR, rfl⟩, lB ⟨lE, lE, rfl⟩, trivial⟩) (by subst_vars; exact ⟨lO, trivial⟩) (by intro q; rcases q with ⟨⟩ <;> (intro e; exact Exit.noConfusion e)) (by intro q; rcases q with ⟨⟩ <;> (intro _ e; exact Exit.noConfusion e)) (by intro q; rcases q with ⟨⟩ <;> (intro e; exact Exit.noConfusion e)) ?_ ?_ ?_; all_goals clear h
  · intro y_9 l_12 x h l I hI R hR hX
    rw [m_cloth_truths_left_L1] at h
    (conv => cbv)
    refine L_conj hI h (fun g => by subst_vars; exact g) ?_; clear h; intro hc h
    refine L_get hI h (fun g => by subst_vars; exact g) ?_; clear h; intro hc x_15 hxx_15 h
    refine L_conj hI h (fun g => by subst_vars; exact g) ?_; clear h; intro hc h
    refine L_conj hI h (fun g => by subst_vars; exact g) ?_; clear h; intro hc h
    replace h := letO_of h; obtain ⟨l_16, hel_16, h⟩ := h
    refine K_setl2 hI l_12 (iopR .add .i64 x_15 1) l_16 hel_16 (by subst_vars; first | rfl | (simp only [rowsD, KP.rows, KV.toDLL, List.map_append, List.map_cons, List.map_nil, List.append_nil, List.nil_append, List.append_assoc, List.singleton_append, List.cons_append, List.map_replicate]; rfl) | (simp only [primK, rowsD, KP.rows, KV.toDLL, List.map_append, List.map_cons, List.map_nil, List.append_nil, List.map_replicate]; rfl)) hc (by subst_vars; rfl) (by subst_vars; rfl) ?_; (conv => cbv)
    exact hR _ _ (Option.some.inj h).symm (by subst_vars; exact ⟨lB ⟨lR, rfl⟩, lB ⟨lE, lE, rfl⟩, trivial⟩) (by subst_vars; exact ⟨lO, trivial⟩)
  · intro l_12 h
    (conv => cbv)
    replace h := letO_of h; obtain ⟨v_17, hev_17, h⟩ := h
    refine L_loop hI seat [2000057] (by kernel_rfl) h (fun q => match q with | (v_21, v_22, v_23) => ⟨69, [(3, .int .i64 p_4), (8, .int .i64 v_21), (10, .loc 3 0), (12, .int .i64 v_22), (41, .osl 2), (42, .int .i64 v_17), (43, .int .i64 v_23)], [(3, ⟨56, [.osl 2], true⟩)], [(2, ⟨3, 1, [.ls Int 0 l_12 eInt], true, true⟩)], 0⟩) (fun q => match q with | v_27 => .exit 2) (fun q => match q with | v_27 => ⟨69, [(8, .int .i64 v_27)], [], [], 0⟩) (by subst_vars; exact weak_l rfl rfl ⟨lE, lE, lR, lE, lR, lE, lE, trivial⟩ ⟨lB ⟨lR, rfl⟩, trivial⟩ ⟨lO, trivial⟩) (by intro q; rcases q with v_27 <;> (intro e; exact Exit.noConfusion e)) ?_ ?_; all_goals clear h
    · intro q x h R hR hX
      obtain ⟨v_21, v_22, v_23⟩ := q
      rw [m_cloth_truths_left_L2] at h
      (conv => cbv)
      refine L_tst hI h (by subst_vars; rfl) ?_ ?_ <;> clear h <;> intro h
      · refine L_conj hI h (fun g => by subst_vars; exact g) ?_; clear h; intro hc h
        refine L_get hI h (fun g => by subst_vars; exact g) ?_; clear h; intro hc x_28 hxx_28 h
        refine L_cut hI seat [] (by kernel_rfl) h (fun q => match q with | v_29 => .normal) (fun q => match q with | v_29 => ⟨69, [(3, .int .i64 p_4), (8, .int .i64 v_21), (10, .loc 3 0), (12, .int .i64 v_29), (41, .osl 2), (42, .int .i64 v_17), (43, .int .i64 v_23)], [(3, ⟨56, [.osl 2], true⟩)], [(2, ⟨3, 1, [.ls Int 0 l_12 eInt], true, true⟩)], 0⟩) ?_ ?_; all_goals clear h
        · intro x h R hR
          (conv => cbv)
          refine L_tst hI h (by subst_vars; rfl) ?_ ?_ <;> clear h <;> intro h
          · refine L_conj hI h (fun g => by subst_vars; exact g) ?_; clear h; intro hc h
            refine L_get hI h (fun g => by subst_vars; exact g) ?_; clear h; intro hc x_30 hxx_30 h
            exact hR _ _ (Option.some.inj h).symm (by subst_vars; exact weak_l rfl rfl ⟨lE, lE, lR, lE, lR, lE, lE, trivial⟩ ⟨lB ⟨lR, rfl⟩, trivial⟩ ⟨lO, trivial⟩)
          · exact hR _ _ (Option.some.inj h).symm (by subst_vars; exact weak_l rfl rfl ⟨lE, lE, lR, lE, lR, lE, lE, trivial⟩ ⟨lB ⟨lR, rfl⟩, trivial⟩ ⟨lO, trivial⟩)
        · intro v_29 h
          (conv => cbv)
          exact hR _ _ (Option.some.inj h).symm (by subst_vars; exact weak_l rfl rfl ⟨lE, lE, lR, lE, lR, lE, lE, trivial⟩ ⟨lB ⟨lR, rfl⟩, trivial⟩ ⟨lO, trivial⟩)
      · exact hX _ _ (Option.some.inj h).symm (by subst_vars; exact weak_l rfl rfl ⟨lE, trivial⟩ trivial trivial)
    · intro v_27 h
      (conv => cbv)
      cases h
      subst_vars
      exact ⟨lE, rfl⟩
  · intro q h
    rcases q with ⟨⟩
def m_cloth_Look_L1 (N : Nat) : Int → Int → Option ((Int) ⊕ (Empty))
  | y_9, now_10 =>
    some (.inl (iopR .add .i64 now_10 1))
def m_cloth_Look_L2 (N : Nat) (r_4 : A3_L_cloth_stretch × Int) (what_2 : Int) (off_3 : Int) : (Int × Int × Int) → Option ((Int × Int × Int) ⊕ (Int × Int))
  | (left_14, v_15, hour_19) =>
    if icmpR .lss v_15 49 then
      (m_cloth_truths_left N r_4.1 what_2 v_15 off_3).bind fun r_25 =>
      (show Option (Int × Int) from
        if icmpR .lss r_25 left_14 then
          some (v_15, r_25)
        else
          some (hour_19, left_14)).bind fun q => match q with
      | (hour_26, left_27) =>
        some (.inl (left_27, iopR .add .i64 v_15 1, hour_26))
    else
      some (.inr (hour_19, left_14))
def m_cloth_Look (N : Nat) (c_1 : api_Cloth) (what_2 : Int) (off_3 : Int) : Option (Int × Int × Int) :=
  (m_cloth_open N c_1).bind fun r_4 =>
  if icmpR .neq r_4.2 0 then
    some (0, 0, r_4.2)
  else
    (m_cloth_isWhat N what_2).bind fun r_5 =>
    if !r_5 then
      some (0, 0, 7)
    else
      (m_cloth_within N 0 20 [off_3]).bind fun r_6 =>
      if !r_6 then
        some (0, 0, 3)
      else
        (m_cloth_truths_values N r_4.1 what_2 0).bind fun r_7 =>
        (m_it_values N r_7.1 r_7.2.1 r_7.2.2).bind fun ys_8 =>
        (rangeO (m_cloth_Look_L1 N) ys_8 0).bind fun q => match q with
        | .inl now_10 =>
          (loopO (m_cloth_Look_L2 N r_4 what_2 off_3) N (now_10, 0, 0)).bind fun q => match q with
          | (hour_23, left_24) =>
            if icmpR .eql left_24 now_10 then
              some (0, 0, 6)
            else
              some (hour_23, left_24, 0)
theorem w_cloth_Look (N : Nat) (c_1 : api_Cloth) (what_2 : Int) (off_3 : Int) (o : Int × Int × Int) (h : m_cloth_Look N c_1 what_2 off_3 = some o) :
    KC Try.prog 58 [.agg [slTrack false c_1.Tracks, slMeas false c_1.Measures], .int .i64 what_2, .int .i64 off_3] (.tup [.int .i64 o.1, .int .i64 o.2.1, .int .i64 o.2.2]) [] := by
  unfold m_cloth_Look at h
  refine con_l [] [2000048] seat Try.func58 rfl ent_58 (by kernel_rfl) rfl rfl (by simp) ?_; intro base I hI; (conv => cbv)
  refine L_call hI h (fun v hv => w_cloth_open N c_1 v hv) (by subst_vars; exact ⟨(leD_refl _), rfl⟩) ?_; clear h; intro r_4 h; (conv => cbv)
  refine L_tst hI h (by subst_vars; rfl) ?_ ?_ <;> clear h <;> intro h
  · cases h
    subst_vars
    exact ⟨(LV_tup ⟨lE, lE, lE, rfl⟩), rfl⟩
  · refine L_call hI h (fun v hv => w_cloth_isWhat N what_2 v hv) (by subst_vars; exact ⟨(leD_refl _), rfl⟩) ?_; clear h; intro r_5 h; (conv => cbv)
    refine L_tst hI h (by subst_vars; rfl) ?_ ?_ <;> clear h <;> intro h
    · cases h
      subst_vars
      exact ⟨(LV_tup ⟨lE, lE, lE, rfl⟩), rfl⟩
    · refine L_call hI h (fun v hv => w_cloth_within N 0 20 [off_3] v hv) (by subst_vars; exact ⟨(leD_refl _), (leD_refl _), ⟨.inl rfl, rfl, leDLL_refl _⟩, rfl⟩) ?_; clear h; intro r_6 h; (conv => cbv)
      refine L_tst hI h (by subst_vars; rfl) ?_ ?_ <;> clear h <;> intro h
      · cases h
        subst_vars
        exact ⟨(LV_tup ⟨lE, lE, lE, rfl⟩), rfl⟩
      · refine L_call hI h (fun v hv => w_cloth_truths_values N r_4.1 what_2 0 v hv) (by subst_vars; exact ⟨(leD_refl _), (leD_refl _), (leD_refl _), rfl⟩) ?_; clear h; intro r_7 h; (conv => cbv)
        replace h := bind_of h; obtain ⟨ys_8, hyys_8, h⟩ := h
        refine W_weak hI (S' := ⟨57, [(1, .int .i64 what_2), (2, .int .i64 off_3), (6, .lit .i64 0), (9, .loc 1 0), (10, .loc 2 0), (33, .dfn 105 [.ptr [sl_cloth_stretch false r_7.1.a0, sl_cloth_stretch false r_7.1.a1, sl_cloth_stretch false r_7.1.a2], .ptr [.int .i64 r_7.2.1], .ptr [.int .i64 r_7.2.2]])], [(2, ⟨3, [.int .i64 0], true⟩), (1, ⟨115, [sl_cloth_stretch false r_4.1.a0, sl_cloth_stretch false r_4.1.a1, sl_cloth_stretch false r_4.1.a2], true⟩)], [], 0⟩) (by subst_vars; exact weak_l rfl rfl ⟨lE, lE, lE, lR, lR, lE, trivial⟩ ⟨lB ⟨lE, rfl⟩, lB ⟨LV_sl, LV_sl, LV_sl, rfl⟩, trivial⟩ trivial) ?_
        refine L_range hI seat [2000048] (by kernel_rfl) (ys := ys_8) (kY := fun y_9 => [.int .i64 y_9]) ((i_values N r_7.1 r_7.2.1 r_7.2.2 ys_8 hyys_8)) rfl h (fun q => match q with | now_10 => ([(2, ⟨3, [.int .i64 now_10], true⟩), (1, ⟨115, [sl_cloth_stretch false r_4.1.a0, sl_cloth_stretch false r_4.1.a1, sl_cloth_stretch false r_4.1.a2], true⟩)], [])) (fun q => nomatch q) (fun q => nomatch q) rfl (fun _ => ⟨rfl, rfl⟩) 3 rfl (by subst_vars; exact ⟨lB ⟨lE, rfl⟩, lB ⟨LV_sl, LV_sl, LV_sl, rfl⟩, trivial⟩) (by subst_vars; exact trivial) (by intro q; rcases q with ⟨⟩ <;> (intro e; exact Exit.noConfusion e)) (by intro q; rcases q with ⟨⟩ <;> (intro _ e; exact Exit.noConfusion e)) (by intro q; rcases q with ⟨⟩ <;> (intro e; exact Exit.noConfusion e)) ?_ ?_ ?_; all_goals clear h
        · intro y_9 now_10 x h l I hI R hR hX
          rw [m_cloth_Look_L1] at h
          (conv => cbv)
          exact hR _ _ (Option.some.inj h).symm (by subst_vars; exact ⟨lB ⟨lE, rfl⟩, lB ⟨LV_sl, LV_sl, LV_sl, rfl⟩, trivial⟩) (by subst_vars; exact trivial)
        · intro now_10 h
          (conv => cbv)
          refine L_loop hI seat [2000048] (by kernel_rfl) h (fun q => match q with | (left_14, v_15, hour_19) => ⟨57, [(1, .int .i64 what_2), (2, .int .i64 off_3), (6, .int .i64 hour_19), (7, .int .i64 left_14), (9, .loc 1 0), (10, .loc 2 0), (38, .int .i64 v_15)], [(2, ⟨3, [.int .i64 now_10], true⟩), (1, ⟨115, [sl_cloth_stretch false r_4.1.a0, sl_cloth_stretch false r_4.1.a1, sl_cloth_stretch false r_4.1.a2], true⟩)], [], 0⟩) (fun q => match q with | (hour_23, left_24) => .exit 3) (fun q => match q with | (hour_23, left_24) => ⟨57, [(6, .int .i64 hour_23), (7, .int .i64 left_24), (10, .loc 2 0)], [(2, ⟨3, [.int .i64 now_10], true⟩)], [], 0⟩) (by subst_vars; exact weak_l rfl rfl ⟨lE, lE, lE, lE, lR, lR, lE, trivial⟩ ⟨lB ⟨lE, rfl⟩, lB ⟨LV_sl, LV_sl, LV_sl, rfl⟩, trivial⟩ trivial) (by intro q; rcases q with ⟨hour_23, left_24⟩ <;> (intro e; exact Exit.noConfusion e)) ?_ ?_; all_goals clear h
          · intro q x h R hR hX
            obtain ⟨left_14, v_15, hour_19⟩ := q
            rw [m_cloth_Look_L2] at h
            (conv => cbv)
            refine L_tst hI h (by subst_vars; rfl) ?_ ?_ <;> clear h <;> intro h
            · refine L_call hI h (fun v hv => w_cloth_truths_left N r_4.1 what_2 v_15 off_3 v hv) (by subst_vars; exact ⟨(leD_refl _), (leD_refl _), (leD_refl _), (leD_refl _), rfl⟩) ?_; clear h; intro r_25 h; (conv => cbv)
              refine L_cut hI seat [] (by kernel_rfl) h (fun q => match q with | (hour_26, left_27) => .normal) (fun q => match q with | (hour_26, left_27) => ⟨57, [(1, .int .i64 what_2), (2, .int .i64 off_3), (6, .int .i64 hour_26), (7, .int .i64 left_27), (9, .loc 1 0), (10, .loc 2 0), (38, .int .i64 v_15)], [(2, ⟨3, [.int .i64 now_10], true⟩), (1, ⟨115, [sl_cloth_stretch false r_4.1.a0, sl_cloth_stretch false r_4.1.a1, sl_cloth_stretch false r_4.1.a2], true⟩)], [], 0⟩) ?_ ?_; all_goals clear h
              · intro x h R hR
                (conv => cbv)
                refine L_tst hI h (by subst_vars; rfl) ?_ ?_ <;> clear h <;> intro h
                · exact hR _ _ (Option.some.inj h).symm (by subst_vars; exact weak_l rfl rfl ⟨lE, lE, lE, lE, lR, lR, lE, trivial⟩ ⟨lB ⟨lE, rfl⟩, lB ⟨LV_sl, LV_sl, LV_sl, rfl⟩, trivial⟩ trivial)
                · exact hR _ _ (Option.some.inj h).symm (by subst_vars; exact weak_l rfl rfl ⟨lE, lE, lE, lE, lR, lR, lE, trivial⟩ ⟨lB ⟨lE, rfl⟩, lB ⟨LV_sl, LV_sl, LV_sl, rfl⟩, trivial⟩ trivial)
              · intro q h
                rcases q with ⟨hour_26, left_27⟩
                (conv => cbv)
                exact hR _ _ (Option.some.inj h).symm (by subst_vars; exact weak_l rfl rfl ⟨lE, lE, lE, lE, lR, lR, lE, trivial⟩ ⟨lB ⟨lE, rfl⟩, lB ⟨LV_sl, LV_sl, LV_sl, rfl⟩, trivial⟩ trivial)
            · exact hX _ _ (Option.some.inj h).symm (by subst_vars; exact weak_l rfl rfl ⟨lE, lE, lR, trivial⟩ ⟨lB ⟨lE, rfl⟩, trivial⟩ trivial)
          · intro q h
            rcases q with ⟨hour_23, left_24⟩
            (conv => cbv)
            refine L_tst hI h (by subst_vars; rfl) ?_ ?_ <;> clear h <;> intro h
            · cases h
              subst_vars
              exact ⟨(LV_tup ⟨lE, lE, lE, rfl⟩), rfl⟩
            · cases h
              subst_vars
              exact ⟨(LV_tup ⟨lE, lE, lE, rfl⟩), rfl⟩
        · intro q h
          rcases q with ⟨⟩
end
end Go.Proofs.Ytnekemldcjegaaa.Aw

/- Plain model and walk of a law, printed by wip/gen/ch1.py. -/
namespace Go.Proofs.Ytnekemldcjegaaa.Aw
open Go Go.RowKit Go.Proofs
set_option maxRecDepth 100000
set_option maxHeartbeats 4000000
set_option linter.unusedSimpArgs false
set_option linter.unusedVariables false
noncomputable section
end
end Go.Proofs.Ytnekemldcjegaaa.Aw

/- Plain law of ClothBetween. -/
namespace Go.Proofs.Ytnekemldcjegaaa.Aw
open Go Go.RowKit Go.Proofs
set_option linter.unusedSimpArgs false
set_option linter.unusedVariables false
theorem truW_len {ts : List Track} {ms : List Meas} (hck : check ts ms = 0) {w : Int} (h0 : 0 ≤ w) (h1 : w ≤ 2) : (truW ts ms noSkip w).length ≤ 1000000 := by
  obtain ⟨g1, g2, g3, g4⟩ := check_zero hck
  have ht := getD_ok g1 g2 h0 h1
  have := truT_len ht (fun x r => okL w noSkip x r ms 0 true)
  unfold truW; omega
theorem bolt_lens (x : Bolt) : (boltT x).length ≤ 1000000 ∧ (boltM x).length ≤ 1000000 := ⟨by simp [boltT], by have := boltM_len x; omega⟩
theorem bolt_ne {x : Bolt} (hx : x.ok) {w : Int} (h0 : 0 ≤ w) (h1 : w ≤ 2) : truW (boltT x) (boltM x) noSkip w ≠ [] := fun e => by have := bolt_in hx h0 h1; rw [e] at this; cases this
end Go.Proofs.Ytnekemldcjegaaa.Aw

/- Plain: how many numbers lie in a window; the most that do. -/
namespace Go.Proofs.Ytnekemldcjegaaa.Aw
open Go Go.RowKit Go.Proofs
set_option linter.unusedSimpArgs false
set_option linter.unusedVariables false
/-- How many numbers lie between two ends. -/
def cnt (V : List Int) (a b : Int) : Nat := V.countP fun v => decide (a ≤ v ∧ v ≤ b)
theorem cnt_cons (v : Int) (V : List Int) (a b : Int) : cnt (v :: V) a b = cnt V a b + (if a ≤ v ∧ v ≤ b then 1 else 0) := by
  unfold cnt; rw [List.countP_cons]; simp
theorem cnt_le (V : List Int) (a b : Int) : cnt V a b ≤ V.length := List.countP_le_length
theorem cnt_mono {V : List Int} {a b a' b' : Int} (h : ∀ v ∈ V, a ≤ v → v ≤ b → a' ≤ v ∧ v ≤ b') : cnt V a b ≤ cnt V a' b' := by
  unfold cnt
  refine List.countP_mono_left fun v hv hp => ?_
  simp only [decide_eq_true_eq] at hp ⊢
  exact h v hv hp.1 hp.2
theorem cnt_zero {V : List Int} {a b : Int} (h : ∀ v ∈ V, ¬ (a ≤ v ∧ v ≤ b)) : cnt V a b = 0 := by
  unfold cnt
  rw [List.countP_eq_zero]
  intro v hv; simpa using h v hv
theorem cnt_pos {V : List Int} {a b v : Int} (hv : v ∈ V) (h : a ≤ v ∧ v ≤ b) : 0 < cnt V a b := by
  unfold cnt
  rw [List.countP_pos_iff]
  exact ⟨v, hv, by simpa using h⟩
theorem cnt_step (V : List Int) {a b : Int} (h : a ≤ b + 1) : cnt V (a + 1) (b + 1) + cnt V a a = cnt V a b + cnt V (b + 1) (b + 1) := by
  induction V with
  | nil => rfl
  | cons v V ih =>
    simp only [cnt_cons]
    have : (if a + 1 ≤ v ∧ v ≤ b + 1 then 1 else 0) + (if a ≤ v ∧ v ≤ a then 1 else 0) = (if a ≤ v ∧ v ≤ b then 1 else 0) + (if b + 1 ≤ v ∧ v ≤ b + 1 then 1 else 0) := by
      split <;> split <;> split <;> split <;> omega
    omega
/-- The most numbers in a window so wide. -/
structure IsMost (V : List Int) (w : Int) (M : Int) : Prop where
  all : ∀ x : Int, (cnt V x (x + w) : Int) ≤ M
  some : ∃ v ∈ V, (cnt V v (v + w) : Int) = M
theorem IsMost.eq {V : List Int} {w M M' : Int} (h : IsMost V w M) (h' : IsMost V w M') : M = M' := by
  obtain ⟨v, _, e⟩ := h.some
  obtain ⟨v', _, e'⟩ := h'.some
  have := h.all v'
  have := h'.all v
  omega
theorem IsMost.pos {V : List Int} {w M : Int} (h : IsMost V w M) (hw : 0 ≤ w) : 1 ≤ M ∧ M ≤ V.length := by
  obtain ⟨v, hv, e⟩ := h.some
  have := cnt_pos (a := v) (b := v + w) hv (by omega)
  have := cnt_le V v (v + w)
  omega
/-- The least number in a window. -/
theorem least_in {V : List Int} {a b : Int} (h : 0 < cnt V a b) : ∃ v ∈ V, (a ≤ v ∧ v ≤ b) ∧ ∀ u ∈ V, a ≤ u → u ≤ b → v ≤ u := by
  induction V with
  | nil => simp [cnt] at h
  | cons x V ih =>
    by_cases hc : 0 < cnt V a b
    · obtain ⟨v, hv, h1, h2⟩ := ih hc
      by_cases hx : (a ≤ x ∧ x ≤ b) ∧ x < v
      · refine ⟨x, by simp, hx.1, fun u hu ha hb => ?_⟩
        rcases List.mem_cons.1 hu with rfl | hu
        · omega
        · have := h2 u hu ha hb; omega
      · refine ⟨v, List.mem_cons_of_mem _ hv, h1, fun u hu ha hb => ?_⟩
        rcases List.mem_cons.1 hu with rfl | hu
        · omega
        · exact h2 u hu ha hb
    · rw [cnt_cons] at h
      by_cases hx : a ≤ x ∧ x ≤ b
      · refine ⟨x, by simp, hx, fun u hu ha hb => ?_⟩
        rcases List.mem_cons.1 hu with rfl | hu
        · omega
        · exact absurd (cnt_pos hu ⟨ha, hb⟩) hc
      · rw [if_neg hx] at h; omega
/-- It is enough to look at windows that begin with some of the numbers. -/
theorem isMost_of {V : List Int} {w M : Int} (hw : 0 ≤ w) (h0 : 0 ≤ M) (h1 : ∀ v ∈ V, (cnt V v (v + w) : Int) ≤ M) (h2 : ∃ v ∈ V, (cnt V v (v + w) : Int) = M) : IsMost V w M := by
  refine ⟨fun x => ?_, h2⟩
  by_cases hc : 0 < cnt V x (x + w)
  · obtain ⟨v, hv, ⟨a1, a2⟩, a3⟩ := least_in hc
    have := h1 v hv
    have := cnt_mono (V := V) (a := x) (b := x + w) (a' := v) (b' := v + w) (fun u hu ha hb => ⟨a3 u hu ha hb, by omega⟩)
    omega
  · omega
theorem IsMost.of_all {V : List Int} {w M : Int} (hw : 0 ≤ w) (h0 : 1 ≤ M) (h1 : ∀ x : Int, (cnt V x (x + w) : Int) ≤ M) (h2 : ∃ x : Int, (cnt V x (x + w) : Int) = M) : IsMost V w M := by
  refine ⟨h1, ?_⟩
  obtain ⟨x, e⟩ := h2
  have hc : 0 < cnt V x (x + w) := by omega
  obtain ⟨v, hv, ⟨a1, a2⟩, a3⟩ := least_in hc
  refine ⟨v, hv, ?_⟩
  have := h1 v
  have := cnt_mono (V := V) (a := x) (b := x + w) (a' := v) (b' := v + w) (fun u hu ha hb => ⟨a3 u hu ha hb, by omega⟩)
  omega
theorem cnt_perm {V V' : List Int} (h : V.Perm V') (a b : Int) : cnt V a b = cnt V' a b := h.countP_eq _
theorem IsMost.perm {V V' : List Int} {w M : Int} (h : IsMost V w M) (hp : V.Perm V') : IsMost V' w M := by
  refine ⟨fun x => by rw [← cnt_perm hp]; exact h.all x, ?_⟩
  obtain ⟨v, hv, e⟩ := h.some
  exact ⟨v, hp.mem_iff.1 hv, by rw [← cnt_perm hp]; exact e⟩
end Go.Proofs.Ytnekemldcjegaaa.Aw

/- Plain: how many truths are left; where to look. -/
namespace Go.Proofs.Ytnekemldcjegaaa.Aw
open Go Go.RowKit Go.Proofs
set_option linter.unusedSimpArgs false
set_option linter.unusedVariables false
theorem count_step (N : Nat) {s : Span} {V : List Int} (hs : 0 ≤ s.low ∧ s.high ≤ 1000000) (hV : ∀ v ∈ V, s.low ≤ v ∧ v ≤ s.high) (hl : V.length ≤ 1000000) :
    ∃ l : List Int, rangeO (m_cloth_truths_left_L1 N s) V (List.replicate (s.high - s.low + 1).toNat 0) = some (.inl l) ∧ (l.length : Int) = (s.high - s.low + 1).toNat ∧ ∀ j : Nat, j < l.length → l.getD j 0 = cnt V (s.low + j) (s.low + j) := by
  have key : ∀ (ys : List Int) (l : List Int), (∀ v ∈ ys, s.low ≤ v ∧ v ≤ s.high) → (l.length : Int) = (s.high - s.low + 1).toNat → (∀ j : Nat, j < l.length → 0 ≤ l.getD j 0 ∧ l.getD j 0 + cnt ys (s.low + j) (s.low + j) ≤ 1000000) →
      ∃ l' : List Int, rangeO (m_cloth_truths_left_L1 N s) ys l = some (.inl l') ∧ l'.length = l.length ∧ ∀ j : Nat, j < l.length → l'.getD j 0 = l.getD j 0 + cnt ys (s.low + j) (s.low + j) := by
    intro ys
    induction ys with
    | nil => intro l _ _ _; exact ⟨l, rfl, rfl, fun j _ => by simp [cnt]⟩
    | cons y ys ih =>
      intro l hy hlen hb
      obtain ⟨y0, y1⟩ := hy y (by simp)
      have e1 : iopR .sub .i64 y s.low = y - s.low := subW (by omega)
      have hj : (y - s.low).toNat < l.length := by omega
      obtain ⟨b0, b1⟩ := hb _ hj
      have hc : 1 ≤ cnt (y :: ys) (s.low + ((y - s.low).toNat : Nat)) (s.low + ((y - s.low).toNat : Nat)) := cnt_pos (v := y) (by simp) (by omega)
      have e2 : iopR .add .i64 (l.getD (y - s.low).toNat 0) 1 = l.getD (y - s.low).toNat 0 + 1 := addW (by omega)
      have hst : m_cloth_truths_left_L1 N s y l = some (.inl (l.set (y - s.low).toNat (l.getD (y - s.low).toNat 0 + 1))) := by
        simp only [m_cloth_truths_left_L1, e1]
        rw [if_pos (by omega), getO_of (by omega) (by omega), bindS, if_pos (by omega), if_pos (by omega), letO_eq, e2]
      have hget : ∀ j : Nat, j < l.length → (l.set (y - s.low).toNat (l.getD (y - s.low).toNat 0 + 1)).getD j 0 + cnt ys (s.low + j) (s.low + j) = l.getD j 0 + cnt (y :: ys) (s.low + j) (s.low + j) := fun j hj2 => by
        rw [cnt_cons]
        by_cases e : j = (y - s.low).toNat
        · subst e
          rw [if_pos (by omega)]
          simp only [List.getD_eq_getElem?_getD, List.getElem?_set_self hj, Option.getD_some]
          omega
        · rw [if_neg (by omega)]
          simp only [List.getD_eq_getElem?_getD, List.getElem?_set_ne (Ne.symm e)]
          omega
      obtain ⟨l', q1, q2, q3⟩ := ih (l.set (y - s.low).toNat (l.getD (y - s.low).toNat 0 + 1)) (fun v hv => hy v (List.mem_cons_of_mem _ hv)) (by simpa using hlen) (fun j hj2 => by
        rw [List.length_set] at hj2
        have := hget j hj2
        have := hb j hj2
        refine ⟨?_, by omega⟩
        by_cases e : j = (y - s.low).toNat
        · subst e; simp only [List.getD_eq_getElem?_getD, List.getElem?_set_self hj, Option.getD_some] at *; omega
        · simp only [List.getD_eq_getElem?_getD, List.getElem?_set_ne (Ne.symm e)] at *; omega)
      refine ⟨l', by rw [rangeO, hst]; exact q1, by rw [q2, List.length_set], fun j hj2 => ?_⟩
      rw [q3 j (by rw [List.length_set]; exact hj2), hget j hj2]
  have hrep : ∀ (n j : Nat), (List.replicate n (0 : Int)).getD j 0 = 0 := fun n j => by
    rw [List.getD_eq_getElem?_getD, List.getElem?_replicate]; split <;> rfl
  obtain ⟨l, q1, q2, q3⟩ := key V (List.replicate (s.high - s.low + 1).toNat 0) hV (by simp) (fun j _ => by
    rw [hrep]; have := cnt_le V (s.low + j) (s.low + j); omega)
  refine ⟨l, q1, by rw [q2]; simp, fun j hj => ?_⟩
  rw [q3 j (by rw [← q2]; exact hj), hrep]; omega
/-- The most of the windows of which the first ones are looked at. -/
theorem window_loop (N : Nat) {s : Span} {V l : List Int} {off : Int} (hs : 0 ≤ s.low ∧ s.high ≤ 1000000) (ho : 0 ≤ off ∧ off ≤ 20) (hV : ∀ v ∈ V, s.low ≤ v ∧ v ≤ s.high) (hl : V.length ≤ 1000000) (hne : V ≠ []) (hlow : s.low ∈ V)
    (hlen : (l.length : Int) = s.high - s.low + 1) (hN : l.length < N) (hget : ∀ j : Nat, j < l.length → l.getD j 0 = cnt V (s.low + j) (s.low + j)) :
    ∃ M, loopO (m_cloth_truths_left_L2 N (l.length : Nat) l off) N (0, 0, 0) = some M ∧ IsMost V (2 * off) M := by
  have hW : ∀ i : Int, (cnt V (i + 1 - 2 * off) (i + 1) : Int) = cnt V (i - 2 * off) i + cnt V (i + 1) (i + 1) - cnt V (i - 2 * off) (i - 2 * off) := fun i => by
    have := cnt_step V (a := i - 2 * off) (b := i) (by omega)
    rw [show i - 2 * off + 1 = i + 1 - 2 * off from by omega] at this
    omega
  obtain ⟨M, hM, hp⟩ := loopO_of (step := m_cloth_truths_left_L2 N (l.length : Nat) l off)
    (fun t => (0 ≤ t.2.2 ∧ t.2.2 ≤ l.length) ∧ t.2.1 = cnt V (s.low + t.2.2 - 1 - 2 * off) (s.low + t.2.2 - 1) ∧ 0 ≤ t.1 ∧ (∀ x : Int, x < s.low + t.2.2 → (cnt V (x - 2 * off) x : Int) ≤ t.1) ∧ ((t.1 = 0 ∧ t.2.2 = 0) ∨ ∃ x : Int, (cnt V (x - 2 * off) x : Int) = t.1 ∧ 1 ≤ t.1))
    (fun t => (l.length - t.2.2).toNat) (fun M => IsMost V (2 * off) M) (fun t ht => by
    obtain ⟨most, sum, i⟩ := t
    obtain ⟨⟨i0, i1⟩, h1, h2, h3, h4⟩ := ht
    simp only at i0 i1 h1 h2 h3 h4
    have hin : ∀ (a b : Int), (cnt V a b : Int) ≤ 1000000 := fun a b => by have := cnt_le V a b; omega
    simp only [m_cloth_truths_left_L2, icmp_lss, icmp_geq, decide_eq_true_eq]
    by_cases hc : i < ((l.length : Nat) : Int)
    · left
      have e1 : iopR .mul .i64 2 off = 2 * off := mulW (by omega)
      have e2 : iopR .sub .i64 i (2 * off) = i - 2 * off := subW (by omega)
      have e3 : iopR .sub .i64 (i - 2 * off) 1 = i - 2 * off - 1 := subW (by omega)
      have hgi : l.getD i.toNat 0 = cnt V (s.low + i) (s.low + i) := by
        have := hget i.toNat (by omega)
        rwa [show s.low + ((i.toNat : Nat) : Int) = s.low + i from by omega] at this
      have b1 := hin (s.low + i) (s.low + i)
      have b2 := hin (s.low + i - 1 - 2 * off) (s.low + i - 1)
      have e4 : iopR .add .i64 sum (l.getD i.toNat 0) = sum + l.getD i.toNat 0 := addW (by omega)
      have hw := hW (s.low + i - 1)
      rw [show s.low + i - 1 + 1 = s.low + i from by omega] at hw
      rw [if_pos hc, if_pos ⟨i0, hc⟩, getO_of i0 hc, bindS, e1, e2, e3, e4]
      have hsum : ∃ q : Int, (if i - 2 * off - 1 ≥ 0 then (if 0 ≤ i - 2 * off - 1 ∧ i - 2 * off - 1 < ((l.length : Nat) : Int) then (getO 0 l (i - 2 * off - 1)).bind fun x_30 => some (iopR .sub .i64 (sum + l.getD i.toNat 0) x_30) else none) else some (sum + l.getD i.toNat 0)) = some q ∧ q = cnt V (s.low + i - 2 * off) (s.low + i) := by
        by_cases hg : i - 2 * off - 1 ≥ 0
        · have hgo : l.getD (i - 2 * off - 1).toNat 0 = cnt V (s.low + i - 1 - 2 * off) (s.low + i - 1 - 2 * off) := by
            have := hget (i - 2 * off - 1).toNat (by omega)
            rwa [show s.low + (((i - 2 * off - 1).toNat : Nat) : Int) = s.low + i - 1 - 2 * off from by omega] at this
          have b3 := hin (s.low + i - 1 - 2 * off) (s.low + i - 1 - 2 * off)
          rw [if_pos hg, if_pos ⟨by omega, by omega⟩, getO_of (by omega) (by omega), bindS, subW (by omega)]
          exact ⟨_, rfl, by omega⟩
        · have hz : cnt V (s.low + i - 1 - 2 * off) (s.low + i - 1 - 2 * off) = 0 := cnt_zero (fun v hv => by have := hV v hv; omega)
          rw [if_neg hg]
          exact ⟨_, rfl, by omega⟩
      obtain ⟨q, hq, hq2⟩ := hsum
      rw [hq, bindS, addW (by omega)]
      refine ⟨(max most q, q, i + 1), rfl, ⟨⟨by simp only; omega, by simp only; omega⟩, ?_, by simp only; omega, ?_, ?_⟩, by simp only; omega⟩
      · simp only
        rw [hq2, show s.low + (i + 1) - 1 = s.low + i from by omega]
      · intro x hx
        simp only at hx ⊢
        by_cases hx2 : x < s.low + i
        · have := h3 x hx2; omega
        · have : x = s.low + i := by omega
          subst this; omega
      · right
        simp only
        by_cases hm : q ≤ most
        · rcases h4 with ⟨h5, h6⟩ | ⟨x, h5, h6⟩
          · exfalso
            have : 0 < cnt V (s.low + i - 2 * off) (s.low + i) := cnt_pos hlow (by omega)
            omega
          · exact ⟨x, by omega, by omega⟩
        · exact ⟨s.low + i, by omega, by omega⟩
    · right
      rw [if_neg hc]
      refine ⟨_, rfl, ?_⟩
      have hpos : 1 ≤ (l.length : Int) := by
        have := (hV _ hlow); omega
      have h1m : 1 ≤ most := by
        rcases h4 with ⟨h5, h6⟩ | ⟨x, h5, h6⟩ <;> omega
      refine IsMost.of_all (by omega) h1m (fun x => ?_) ?_
      · by_cases hx : x + 2 * off < s.low + i
        · have := h3 (x + 2 * off) hx
          rwa [show x + 2 * off - 2 * off = x from by omega] at this
        · have h5 := h3 (s.low + i - 1) (by omega)
          have := cnt_mono (V := V) (a := x) (b := x + 2 * off) (a' := s.low + i - 1 - 2 * off) (b' := s.low + i - 1) (fun v hv ha hb => by have := hV v hv; omega)
          omega
      · rcases h4 with ⟨h5, h6⟩ | ⟨x, h5, h6⟩
        · omega
        · exact ⟨x - 2 * off, by rw [show x - 2 * off + 2 * off = x from by omega]; exact h5⟩) N (0, 0, 0)
    ⟨⟨by simp, by simp⟩, by
      simp only
      rw [cnt_zero (fun v hv => by have := hV v hv; omega)]; rfl, by simp, fun x hx => by
      simp only at hx ⊢
      rw [cnt_zero (fun v hv => by have := hV v hv; omega)]; simp, .inl ⟨rfl, rfl⟩⟩ (by simp only; omega)
  exact ⟨M, hM, hp⟩
end Go.Proofs.Ytnekemldcjegaaa.Aw

/- Plain: the values of stretches are those of the truths; where to look. -/
namespace Go.Proofs.Ytnekemldcjegaaa.Aw
open Go Go.RowKit Go.Proofs
set_option linter.unusedSimpArgs false
set_option linter.unusedVariables false
def pairN (r : Int) : Nat → Int → List Tru
  | 0, _ => []
  | n + 1, x => ⟨x, r⟩ :: pairN r n (x + 1)
def pairS (s : Str) : List Tru := pairN s.rate (s.high + 1 - s.low).toNat s.low
def pairL (l : List Str) : List Tru := l.flatMap pairS
theorem mem_pairN {r : Int} {t : Tru} : ∀ {n : Nat} {x : Int}, t ∈ pairN r n x ↔ t.rate = r ∧ x ≤ t.first ∧ t.first < x + n
  | 0, x => by simp only [pairN, List.not_mem_nil, false_iff]; omega
  | n + 1, x => by
    simp only [pairN, List.mem_cons, mem_pairN (n := n)]
    constructor
    · rintro (rfl | h)
      · exact ⟨rfl, by simp only; omega, by simp only; omega⟩
      · omega
    · rintro ⟨a, b, c⟩
      by_cases e : t.first = x
      · left; cases t; simp_all
      · right; omega
theorem nodup_pairN (r : Int) : ∀ (n : Nat) (x : Int), (pairN r n x).Nodup
  | 0, x => List.nodup_nil
  | n + 1, x => by
    simp only [pairN, List.nodup_cons]
    exact ⟨fun h => by have := mem_pairN.1 h; simp only at this; omega, nodup_pairN r n (x + 1)⟩
theorem mem_pairL {l : List Str} {t : Tru} : t ∈ pairL l ↔ ∃ s ∈ l, s.rate = t.rate ∧ s.low ≤ t.first ∧ t.first ≤ s.high := by
  unfold pairL pairS
  rw [List.mem_flatMap]
  constructor
  · rintro ⟨s, hs, h⟩
    have := mem_pairN.1 h
    exact ⟨s, hs, this.1.symm, by omega, by omega⟩
  · rintro ⟨s, hs, h1, h2, h3⟩
    exact ⟨s, hs, mem_pairN.2 ⟨h1.symm, by omega, by omega⟩⟩
theorem nodup_pairL : ∀ {l : List Str}, l.Pairwise (fun a b => a.rate < b.rate) → (pairL l).Nodup
  | [], _ => List.nodup_nil
  | s :: l, h => by
    have h := List.pairwise_cons.1 h
    show (pairS s ++ pairL l).Nodup
    rw [List.nodup_append]
    refine ⟨nodup_pairN _ _ _, nodup_pairL h.2, fun a ha b hb e => ?_⟩
    subst e
    obtain ⟨u, hu, e1, _⟩ := mem_pairL.1 hb
    have := (mem_pairN.1 ha).1
    have := h.1 u hu
    omega
theorem strsN_lt {t : Track} {w : Int} {skip : Int → Bool} {ms : List Meas} : ∀ n : Nat, (strsN t w skip ms n).Pairwise (fun a b => a.rate < b.rate)
  | 0 => List.Pairwise.nil
  | n + 1 => by
    simp only [strsN]
    refine List.pairwise_append.2 ⟨strsN_lt n, ?_, fun a ha b hb => ?_⟩
    · unfold strAtR; split <;> simp
    · obtain ⟨k, k1, k2⟩ := mem_strsN.1 ha
      have := (mem_strAtR.1 k2).2.2.1
      have := (mem_strAtR.1 hb).2.2.1
      omega
theorem nodup_truR (f : Int → Int → Bool) (x : Int) : ∀ (n : Nat) (r : Int), (truR f x n r).Nodup
  | 0, r => List.nodup_nil
  | n + 1, r => by
    simp only [truR]
    rw [List.nodup_append]
    refine ⟨by split <;> simp, nodup_truR f x n (r + 1), fun a ha b hb e => ?_⟩
    subst e
    have h2 := (mem_truR.1 hb).2.1
    split at ha
    · simp only [List.mem_singleton] at ha; subst ha; simp only at h2; omega
    · cases ha
theorem nodup_truX (f : Int → Int → Bool) (rl : Int) (nr : Nat) : ∀ (n : Nat) (x : Int), (truX f rl nr n x).Nodup
  | 0, x => List.nodup_nil
  | n + 1, x => by
    simp only [truX]
    rw [List.nodup_append]
    refine ⟨nodup_truR _ _ _ _, nodup_truX f rl nr n (x + 1), fun a ha b hb e => ?_⟩
    subst e
    have h1 := (mem_truR.1 ha).1
    have h2 := (mem_truX.1 hb).1
    omega
theorem valN_map (h r : Int) : ∀ (n : Nat) (x : Int), valN h r n x = valT h (pairN r n x)
  | 0, x => rfl
  | n + 1, x => by
    have := valN_map h r n (x + 1)
    simp only [valN, pairN, valT, List.map_cons] at this ⊢
    rw [this]
theorem valsL_map (h : Int) : ∀ l : List Str, valsL h l = valT h (pairL l)
  | [] => rfl
  | s :: l => by
    show valS h s ++ valsL h l = valT h (pairS s ++ pairL l)
    rw [valsL_map h l, valS, valN_map]
    simp only [valT, List.map_append]; rfl
section
variable {ts : List Track} {ms : List Meas} {w : Int}
theorem pairs_perm (hck : check ts ms = 0) (h0 : 0 ≤ w) (h1 : w ≤ 2) : (pairL (strW ts ms noSkip w)).Perm (truW ts ms noSkip w) := by
  refine (List.perm_ext_iff_of_nodup (nodup_pairL (strsN_lt _)) (nodup_truX _ _ _ _ _)).2 (fun t => ?_)
  rw [mem_pairL]
  have := truW_iff (skip := noSkip) hck h0 h1 (x := t.first) (r := t.rate)
  exact ⟨fun h => this.2 (by obtain ⟨s, a, b, c, d⟩ := h; exact ⟨s, a, b, c, d⟩), fun h => by obtain ⟨s, a, b, c, d⟩ := this.1 h; exact ⟨s, a, b, c, d⟩⟩
theorem vals_perm (hck : check ts ms = 0) (h0 : 0 ≤ w) (h1 : w ≤ 2) (h : Int) : (valW ts ms w h).Perm (valT h (truW ts ms noSkip w)) := by
  unfold valW
  rw [valsL_map]
  exact (pairs_perm hck h0 h1).map _
theorem trIn_of (ho : (openR ts ms).1 = 0) (h0 : 0 ≤ w) (h1 : w ≤ 2) {h : Int} (hh : h ≤ 1000000) : TrIn (openR ts ms).2 w h ∧ (openR ts ms).2.sel w = strW ts ms noSkip w := by
  obtain ⟨g1, g2, g3, g4, g5⟩ := openR_ok ho
  have hs := sel_open (w := w) ho h0 h1
  refine ⟨⟨⟨h0, h1⟩, hh, ?_, ?_, ?_⟩, hs⟩
  · rw [hs]
    have hw : w = 0 ∨ w = 1 ∨ w = 2 := by omega
    rcases hw with rfl | rfl | rfl <;> assumption
  · rw [hs]; have := strW_len (skip := noSkip) g1 h0 h1; omega
  · rw [hs]; exact str_ok g1 h0 h1
/-- How many truths are left. -/
theorem left_is (N : Nat) (hN : 2000000 ≤ N) (ho : (openR ts ms).1 = 0) (h0 : 0 ≤ w) (h1 : w ≤ 2) {h off : Int} (hh : 0 ≤ h ∧ h ≤ 48) (hoff : 0 ≤ off ∧ off ≤ 20) :
    ∃ M, m_cloth_truths_left N (ofTr (openR ts ms).2) w h off = some M ∧ IsMost (valT h (truW ts ms noSkip w)) (2 * off) M := by
  obtain ⟨hck, _⟩ := open_zero ho
  obtain ⟨hti, hsel⟩ := trIn_of ho h0 h1 (h := h) (by omega)
  have hne : truW ts ms noSkip w ≠ [] := fun e => by
    have := (tru_nil (skip := noSkip) hck h0 h1).1 e
    have h3 := hti.2.2.1
    rw [hsel] at h3
    exact h3 this
  have hu := hullW_is (h := h) hck h0 h1 hne
  have hperm := vals_perm hck h0 h1 h
  have hrange : ∀ n ∈ valT h (truW ts ms noSkip w), 0 ≤ n ∧ n ≤ 1000000 := fun n hn => by
    obtain ⟨t, ht, rfl⟩ := List.mem_map.1 hn
    obtain ⟨f1, f2⟩ := tru_fit hck h0 h1 t ht
    have := aft_range (x := t.first) (r := t.rate) (by omega) (by omega) h.toNat
    omega
  have hlen : (valT h (truW ts ms noSkip w)).length ≤ 1000000 := by
    have := truW_len hck h0 h1
    simp only [valT, List.length_map]; omega
  obtain ⟨s, hs⟩ : ∃ s, s = hullW ts ms h w := ⟨_, rfl⟩
  rw [← hs] at hu
  have hat : m_cloth_truths_at N (ofTr (openR ts ms).2) w h = some s := by
    unfold m_cloth_truths_at
    rw [toTr_of, onlyIf_pos hti, hsel, hs]; rfl
  have hit : m_it_values N (ofTr (openR ts ms).2) w h = some (valW ts ms w h) := by
    unfold m_it_values
    rw [toTr_of, onlyIf_pos hti, hsel]; rfl
  have hva : m_cloth_truths_values N (ofTr (openR ts ms).2) w h = some (ofTr (openR ts ms).2, w, h) := rfl
  obtain ⟨V, hV⟩ : ∃ V, V = valW ts ms w h := ⟨_, rfl⟩
  rw [← hV] at hit hperm
  have hin : ∀ v ∈ V, s.low ≤ v ∧ v ≤ s.high := fun v hv => hu.all v (hperm.mem_iff.1 hv)
  have hlow : s.low ∈ V := hperm.mem_iff.2 hu.low
  have hVl : V.length ≤ 1000000 := by rw [hperm.length_eq]; exact hlen
  have b1 := hrange _ hu.low
  have b2 := hrange _ hu.high
  have b3 := hin _ hlow
  obtain ⟨l, q1, q2, q3⟩ := count_step N (s := s) (V := V) (by omega) hin hVl
  obtain ⟨M, m1, m2⟩ := window_loop N (s := s) (V := V) (l := l) (off := off) (by omega) hoff hin hVl (List.ne_nil_of_mem hlow) hlow (by omega) (by omega) q3
  refine ⟨M, ?_, m2.perm hperm⟩
  unfold m_cloth_truths_left
  rw [hat, bindS, subW (by omega), addW (by omega), if_pos (by unfold mkOk; omega), hva, bindS, letO_eq, hit, bindS, q1, bindS]
  simp only [letO_eq, m1, bindS]
theorem now_count (N : Nat) : ∀ (V : List Int) (n : Int), 0 ≤ n → n + V.length ≤ 1000000 → rangeO (m_cloth_Look_L1 N) V n = some (.inl (n + V.length))
  | [], n, _, _ => by simp [rangeO]
  | v :: V, n, h0, h1 => by
    simp only [List.length_cons] at h1
    have := now_count N V (n + 1) (by omega) (by omega)
    rw [rangeO, m_cloth_Look_L1, addW (by omega)]
    simp only
    rw [this, List.length_cons]
    congr 2; omega
theorem within_is (N : Nat) (hN : 2 ≤ N) {a b n : Int} (h : a ≤ n ∧ n ≤ b) : m_cloth_within N a b [n] = some true := by
  obtain ⟨M, rfl⟩ : ∃ M, N = M + 2 := ⟨N - 2, by omega⟩
  have hf : m_cloth_within_1 (M + 2) n a b = some false := by
    simp only [m_cloth_within_1, icmp_lss, icmp_gtr, decide_eq_true_eq]
    rw [if_neg (by omega), bindS]
    simp; omega
  have s0 : m_slices_IndexFunc_Lint_int_L1 (M + 2) 1 [n] (fun x0 => m_cloth_within_1 (M + 2) x0 a b) 0 = some (.inl 1) := by
    simp only [m_slices_IndexFunc_Lint_int_L1, getO_of (d := (0 : Int)) (l := [n]) (i := 0) (by omega) (by simp), bindS, icmp_lss]
    show (if decide ((0 : Int) < 1) = true then (m_cloth_within_1 (M + 2) n a b).bind _ else _) = _
    rw [hf]; rfl
  have s1 : m_slices_IndexFunc_Lint_int_L1 (M + 2) 1 [n] (fun x0 => m_cloth_within_1 (M + 2) x0 a b) 1 = some (.inr (.inr ())) := by
    simp only [m_slices_IndexFunc_Lint_int_L1, icmp_lss]; rfl
  have : m_slices_IndexFunc_Lint_int (M + 2) [n] (fun x0 => m_cloth_within_1 (M + 2) x0 a b) = some (-1) := by
    unfold m_slices_IndexFunc_Lint_int
    simp only [letO_eq, show (([n].length : Nat) : Int) = 1 from rfl]
    rw [show loopO (m_slices_IndexFunc_Lint_int_L1 (M + 2) 1 [n] (fun x0 => m_cloth_within_1 (M + 2) x0 a b)) (M + 2) 0 = some (.inr ()) from by rw [loopO_inl s0, loopO_inr s1]]
    rfl
  unfold m_cloth_within m_slices_ContainsFunc_Lint_int
  rw [this]; rfl
/-- Where to look. -/
structure LookIs (T : List Tru) (off hour left e : Int) : Prop where
  err : (e = 0 ∧ (0 ≤ hour ∧ hour ≤ 48) ∧ (1 ≤ left ∧ left < T.length) ∧ IsMost (valT hour T) (2 * off) left ∧ (∀ h : Int, 0 ≤ h → h ≤ 48 → ∀ M, IsMost (valT h T) (2 * off) M → left ≤ M ∧ (M = left → hour ≤ h))) ∨
    (e = 6 ∧ hour = 0 ∧ left = 0 ∧ ∀ h : Int, 0 ≤ h → h ≤ 48 → ∀ M, IsMost (valT h T) (2 * off) M → (T.length : Int) ≤ M)
theorem look_is (N : Nat) (hN : 2000000 ≤ N) (hin : ClothIn ts ms) (ho : (openR ts ms).1 = 0) (h0 : 0 ≤ w) (h1 : w ≤ 2) {off : Int} (hoff : 0 ≤ off ∧ off ≤ 20) :
    ∃ hour left e, m_cloth_Look N ⟨ts, ms⟩ w off = some (hour, left, e) ∧ LookIs (truW ts ms noSkip w) off hour left e := by
  obtain ⟨hck, _⟩ := open_zero ho
  obtain ⟨hti, hsel⟩ := trIn_of ho h0 h1 (h := 0) (by omega)
  have hlen := truW_len hck h0 h1
  have hop : m_cloth_open N ⟨ts, ms⟩ = some (ofTr (openR ts ms).2, 0) := by
    unfold m_cloth_open
    rw [onlyIf_pos hin, ho]
  have hit : m_it_values N (ofTr (openR ts ms).2) w 0 = some (valW ts ms w 0) := by
    unfold m_it_values
    rw [toTr_of, onlyIf_pos hti, hsel]; rfl
  have hva : m_cloth_truths_values N (ofTr (openR ts ms).2) w 0 = some (ofTr (openR ts ms).2, w, 0) := rfl
  have hvl : (valW ts ms w 0).length = (truW ts ms noSkip w).length := by
    rw [(vals_perm hck h0 h1 0).length_eq]; simp [valT]
  have hwh : m_cloth_isWhat N w = some true := by
    unfold m_cloth_isWhat
    rw [within_is N (by omega) ⟨h0, h1⟩]; rfl
  have hwi : m_cloth_within N 0 20 [off] = some true := within_is N (by omega) hoff
  have hleft := fun (h : Int) (hh : 0 ≤ h ∧ h ≤ 48) => left_is (ts := ts) (ms := ms) (w := w) N hN ho h0 h1 hh hoff
  obtain ⟨T, hT⟩ : ∃ T, T = truW ts ms noSkip w := ⟨_, rfl⟩
  rw [← hT] at hleft hlen hvl ⊢
  obtain ⟨⟨hour, left⟩, hq, hp⟩ := loopO_of (step := m_cloth_Look_L2 N (ofTr (openR ts ms).2, 0) w off)
    (fun s => (0 ≤ s.2.1 ∧ s.2.1 ≤ 49) ∧ ((s.1 = T.length ∧ s.2.2 = 0 ∧ ∀ h : Int, 0 ≤ h → h < s.2.1 → ∀ M, IsMost (valT h T) (2 * off) M → (T.length : Int) ≤ M) ∨
      ((0 ≤ s.2.2 ∧ s.2.2 < s.2.1) ∧ s.1 < T.length ∧ IsMost (valT s.2.2 T) (2 * off) s.1 ∧ ∀ h : Int, 0 ≤ h → h < s.2.1 → ∀ M, IsMost (valT h T) (2 * off) M → s.1 ≤ M ∧ (M = s.1 → s.2.2 ≤ h))))
    (fun s => (49 - s.2.1).toNat) (fun q => (q.2 = T.length ∧ q.1 = 0 ∧ ∀ h : Int, 0 ≤ h → h ≤ 48 → ∀ M, IsMost (valT h T) (2 * off) M → (T.length : Int) ≤ M) ∨
      ((0 ≤ q.1 ∧ q.1 ≤ 48) ∧ q.2 < T.length ∧ IsMost (valT q.1 T) (2 * off) q.2 ∧ ∀ h : Int, 0 ≤ h → h ≤ 48 → ∀ M, IsMost (valT h T) (2 * off) M → q.2 ≤ M ∧ (M = q.2 → q.1 ≤ h))) (fun s hs => by
    obtain ⟨left, v, hour⟩ := s
    obtain ⟨⟨v0, v1⟩, hd⟩ := hs
    simp only at v0 v1 hd
    simp only [m_cloth_Look_L2, icmp_lss, decide_eq_true_eq]
    by_cases hc : v < 49
    · left
      obtain ⟨M, m1, m2⟩ := hleft v ⟨v0, by omega⟩
      rw [if_pos hc, m1, bindS]
      by_cases hlt : M < left
      · rw [if_pos hlt, bindS, addW (by omega)]
        refine ⟨(M, v + 1, v), rfl, ⟨⟨by simp only; omega, by simp only; omega⟩, .inr ⟨⟨v0, by simp only; omega⟩, ?_, m2, fun h h0 h1 M' hM' => ?_⟩⟩, by simp only; omega⟩
        · simp only
          rcases hd with ⟨e1, _⟩ | ⟨_, e1, _⟩ <;> omega
        · simp only at h1 ⊢
          by_cases e : h = v
          · subst e; have := hM'.eq m2; omega
          · rcases hd with ⟨e1, e2, e3⟩ | ⟨e1, e2, e3, e4⟩
            · have := e3 h h0 (by omega) M' hM'; omega
            · have := e4 h h0 (by omega) M' hM'; omega
      · rw [if_neg hlt, bindS, addW (by omega)]
        refine ⟨(left, v + 1, hour), rfl, ⟨⟨by simp only; omega, by simp only; omega⟩, ?_⟩, by simp only; omega⟩
        rcases hd with ⟨e1, e2, e3⟩ | ⟨e1, e2, e3, e4⟩
        · refine .inl ⟨e1, e2, fun h h0 h1 M' hM' => ?_⟩
          simp only at h1
          by_cases e : h = v
          · subst e; have := hM'.eq m2; omega
          · exact e3 h h0 (by omega) M' hM'
        · refine .inr ⟨⟨e1.1, by simp only; omega⟩, e2, e3, fun h h0 h1 M' hM' => ?_⟩
          simp only at h1 ⊢
          by_cases e : h = v
          · subst e; have := hM'.eq m2; omega
          · exact e4 h h0 (by omega) M' hM'
    · right
      rw [if_neg hc]
      refine ⟨_, rfl, ?_⟩
      have : v = 49 := by omega
      subst this
      rcases hd with ⟨e1, e2, e3⟩ | ⟨e1, e2, e3, e4⟩
      · exact .inl ⟨e1, e2, fun h h0 h1 => e3 h h0 (by omega)⟩
      · exact .inr ⟨⟨e1.1, by omega⟩, e2, e3, fun h h0 h1 => e4 h h0 (by omega)⟩) N ((T.length : Int), 0, 0)
    ⟨⟨by simp, by simp⟩, .inl ⟨rfl, rfl, fun h h0 h1 => by simp only at h1; omega⟩⟩ (by simp only; omega)
  simp only at hp
  unfold m_cloth_Look
  rw [hop, bindS]
  simp only [icmp_neq, ne_eq, not_true, decide_false, Bool.false_eq_true, if_false, hwh, hwi, bindS, Bool.not_true, hva, hit, now_count N (valW ts ms w 0) 0 (by omega) (by rw [hvl]; omega), hvl, Int.zero_add, hq, icmp_eql, decide_eq_true_eq]
  rcases hp with ⟨e1, e2, e3⟩ | ⟨e1, e2, e3, e4⟩
  · rw [if_pos e1]
    exact ⟨_, _, _, rfl, ⟨.inr ⟨rfl, rfl, rfl, e3⟩⟩⟩
  · rw [if_neg (by omega)]
    have := e3.pos (by omega)
    exact ⟨_, _, _, rfl, ⟨.inl ⟨rfl, e1, ⟨this.1, e2⟩, e3, e4⟩⟩⟩
end
end Go.Proofs.Ytnekemldcjegaaa.Aw

/- Plain model and walk of a law, printed by wip/gen/ch1.py. -/
namespace Go.Proofs.Ytnekemldcjegaaa.Aw
open Go Go.RowKit Go.Proofs
set_option maxRecDepth 100000
set_option maxHeartbeats 4000000
set_option linter.unusedSimpArgs false
set_option linter.unusedVariables false
noncomputable section
def m_law01_ClothTold_L3 (N : Nat) (r_4 : (List Tru)) (v_297 : Int) (r_351 : Int) (v_8 : Int) : (Int × Int) → Option ((Int × Int) ⊕ (Int))
  | (v_358, v_359) =>
    if icmpR .lss v_359 ((r_4.length : Nat) : Int) then
      (getO tru0 r_4 v_359).bind fun x_367 =>
      (getO tru0 r_4 v_359).bind fun x_368 =>
      (m_law01_after N x_367.first x_368.rate v_297).bind fun r_369 =>
      (m_law01_span N r_351 (iopR .add .i64 r_351 (iopR .mul .i64 2 v_8))).bind fun r_370 =>
      (m_law01_in N r_369 r_370).bind fun r_371 =>
      (show Option (Int) from
        if r_371 then
          some (iopR .add .i64 v_358 1)
        else
          some v_358).bind fun q => match q with
      | v_372 =>
        some (.inl (v_372, iopR .add .i64 v_359 1))
    else
      some (.inr v_358)
def m_law01_ClothTold_L2 (N : Nat) (r_4 : (List Tru)) (v_297 : Int) (v_8 : Int) : (Int × Int) → Option ((Int × Int) ⊕ (Int))
  | (v_322, v_323) =>
    if icmpR .lss v_323 ((r_4.length : Nat) : Int) then
      (getO tru0 r_4 v_323).bind fun x_349 =>
      (getO tru0 r_4 v_323).bind fun x_350 =>
      (m_law01_after N x_349.first x_350.rate v_297).bind fun r_351 =>
      (loopO (m_law01_ClothTold_L3 N r_4 v_297 r_351 v_8) N (0, 0)).bind fun q => match q with
      | v_366 =>
        some (.inl (max v_322 v_366, iopR .add .i64 v_323 1))
    else
      some (.inr v_322)
def m_law01_ClothTold_L1 (N : Nat) (r_6 : Int × Int × Int) (p_2 : A3_u8) (r_4 : (List Tru)) (v_8 : Int) : Int → Option ((Int) ⊕ ((Unit) ⊕ (Unit)))
  | v_219 =>
    if icmpR .lss v_219 2 then
      (show Option (Int) from
        if 0 ≤ v_219 ∧ v_219 < (2 : Int) then
          if icmpR .eql v_219 0 then
            some r_6.1
          else
            some (iopR .rem .i64 (IntKind.wrap .i64 p_2.a2) 49)
        else none).bind fun q => match q with
      | v_297 =>
        (loopO (m_law01_ClothTold_L2 N r_4 v_297 v_8) N (0, 0)).bind fun q => match q with
        | v_348 =>
          (show Option (Bool) from
            if icmpR .eql r_6.2.2 0 then
              if icmpR .eql v_219 0 then
                if icmpR .neq v_348 r_6.2.1 then
                  some true
                else
                  if icmpR .eql v_219 1 then
                    if icmpR .lss v_348 r_6.2.1 then
                      some true
                    else
                      if icmpR .eql v_348 r_6.2.1 then
                        if icmpR .lss v_297 r_6.1 then
                          some true
                        else
                          if icmpR .neq r_6.2.2 0 then
                            some (icmpR .lss v_348 ((r_4.length : Nat) : Int))
                          else
                            some false
                      else
                        if icmpR .neq r_6.2.2 0 then
                          some (icmpR .lss v_348 ((r_4.length : Nat) : Int))
                        else
                          some false
                  else
                    if icmpR .neq r_6.2.2 0 then
                      some (icmpR .lss v_348 ((r_4.length : Nat) : Int))
                    else
                      some false
              else
                if icmpR .eql v_219 1 then
                  if icmpR .lss v_348 r_6.2.1 then
                    some true
                  else
                    if icmpR .eql v_348 r_6.2.1 then
                      if icmpR .lss v_297 r_6.1 then
                        some true
                      else
                        if icmpR .neq r_6.2.2 0 then
                          some (icmpR .lss v_348 ((r_4.length : Nat) : Int))
                        else
                          some false
                    else
                      if icmpR .neq r_6.2.2 0 then
                        some (icmpR .lss v_348 ((r_4.length : Nat) : Int))
                      else
                        some false
                else
                  if icmpR .neq r_6.2.2 0 then
                    some (icmpR .lss v_348 ((r_4.length : Nat) : Int))
                  else
                    some false
            else
              if icmpR .neq r_6.2.2 0 then
                some (icmpR .lss v_348 ((r_4.length : Nat) : Int))
              else
                some false).bind fun q => match q with
          | v_373 =>
            if v_373 then
              some (.inr (.inl ()))
            else
              some (.inl (iopR .add .i64 v_219 1))
    else
      some (.inr (.inr ()))
def m_law01_ClothTold (N : Nat) (p_1 : law01_Bolt) (p_2 : A3_u8) : Option (Bool) :=
  (m_law01_Bolt_cloth N p_1).bind fun r_3 =>
  (m_law01_truths N r_3 (iopR .rem .i64 (IntKind.wrap .i64 p_2.a0) 3)).bind fun r_4 =>
  (m_law01_own N r_3).bind fun r_5 =>
  (m_cloth_Look N r_5 (iopR .rem .i64 (IntKind.wrap .i64 p_2.a0) 3) (iopR .rem .i64 (IntKind.wrap .i64 p_2.a1) 21)).bind fun r_6 =>
  letO (iopR .rem .i64 (IntKind.wrap .i64 p_2.a1) 21 : Int) fun v_8 =>
  (show Option (Bool) from
    if icmpR .neq r_6.2.2 0 then
      if icmpR .neq r_6.2.2 6 then
        some true
      else
        if icmpR .neq r_6.1 0 then
          some true
        else
          if icmpR .neq r_6.2.1 0 then
            some true
          else
            if icmpR .lss r_6.1 0 then
              some true
            else
              if icmpR .gtr r_6.1 48 then
                some true
              else
                if icmpR .eql r_6.2.2 0 then
                  if icmpR .lss r_6.2.1 1 then
                    some true
                  else
                    some (icmpR .geq r_6.2.1 ((r_4.length : Nat) : Int))
                else
                  some false
    else
      if icmpR .lss r_6.1 0 then
        some true
      else
        if icmpR .gtr r_6.1 48 then
          some true
        else
          if icmpR .eql r_6.2.2 0 then
            if icmpR .lss r_6.2.1 1 then
              some true
            else
              some (icmpR .geq r_6.2.1 ((r_4.length : Nat) : Int))
          else
            some false).bind fun q => match q with
  | v_7 =>
    if v_7 then
      some false
    else
      (loopO (m_law01_ClothTold_L1 N r_6 p_2 r_4 v_8) N 0).bind fun q => match q with
      | (.inl ()) =>
        some false
      | (.inr ()) =>
        (m_law01_known N).bind fun r_374 =>
        some r_374
theorem w_law01_ClothTold (N : Nat) (p_1 : law01_Bolt) (p_2 : A3_u8) (o : Bool) (h : m_law01_ClothTold N p_1 p_2 = some o) :
    KC Try.prog 16 [.agg [.int .u8 p_1.Tracks.a0.a, .int .u8 p_1.Tracks.a0.b, .int .u8 p_1.Tracks.a0.c, .int .u8 p_1.Tracks.a0.d, .int .u8 p_1.Tracks.a1.a, .int .u8 p_1.Tracks.a1.b, .int .u8 p_1.Tracks.a1.c, .int .u8 p_1.Tracks.a1.d, .int .u8 p_1.Tracks.a2.a, .int .u8 p_1.Tracks.a2.b, .int .u8 p_1.Tracks.a2.c, .int .u8 p_1.Tracks.a2.d, slB4 false p_1.Measures], .agg [.int .u8 p_2.a0, .int .u8 p_2.a1, .int .u8 p_2.a2]] (.bool o) [] := by
  unfold m_law01_ClothTold at h
  refine con_l [] [1000005, 1000010, 1000022, 2000131] seat Try.func16 rfl ent_16 (by kernel_rfl) rfl rfl (by simp) ?_; intro base I hI; (conv => cbv)
  refine L_call hI h (fun v hv => w_law01_Bolt_cloth N p_1 v hv) (by subst_vars; exact ⟨(leD_refl _), rfl⟩) ?_; clear h; intro r_3 h; (conv => cbv)
  refine L_call hI h (fun v hv => w_law01_truths N r_3 (iopR .rem .i64 (IntKind.wrap .i64 p_2.a0) 3) v hv) (by subst_vars; exact ⟨(leD_refl _), (leD_refl _), rfl⟩) ?_; clear h; intro r_4 h; (conv => cbv)
  refine L_call hI h (fun v hv => w_law01_own N r_3 v hv) (by subst_vars; exact ⟨(leD_refl _), rfl⟩) ?_; clear h; intro r_5 h; (conv => cbv)
  refine L_call hI h (fun v hv => w_cloth_Look N r_5 (iopR .rem .i64 (IntKind.wrap .i64 p_2.a0) 3) (iopR .rem .i64 (IntKind.wrap .i64 p_2.a1) 21) v hv) (by subst_vars; exact ⟨(leD_refl _), (leD_refl _), (leD_refl _), rfl⟩) ?_; clear h; intro r_6 h; (conv => cbv)
  replace h := letO_of h; obtain ⟨v_8, hev_8, h⟩ := h
  refine L_cut hI seat [1000010, 1000022, 2000131] (by kernel_rfl) h (fun q => match q with | v_7 => .normal) (fun q => match q with | v_7 => ⟨178, [(3, .loc 1 0), (7, .int .i64 v_8), (8, slTru false r_4), (9, .int .i64 r_6.1), (10, .int .i64 r_6.2.1), (11, .int .i64 r_6.2.2), (76, .bool v_7)], [(1, ⟨89, [.int .u8 p_2.a0, .int .u8 p_2.a1, .int .u8 p_2.a2], true⟩)], [], 0⟩) ?_ ?_; all_goals clear h
  · intro x h R hR
    (conv => cbv)
    refine L_tst hI h (by subst_vars; rfl) ?_ ?_ <;> clear h <;> intro h
    · refine L_tst hI h (by subst_vars; rfl) ?_ ?_ <;> clear h <;> intro h
      · exact hR _ _ (Option.some.inj h).symm (by subst_vars; exact weak_l rfl rfl ⟨lR, lE, LV_sl, lE, lE, lE, lE, trivial⟩ ⟨lB ⟨lE, lE, lE, rfl⟩, trivial⟩ trivial)
      · refine L_tst hI h (by subst_vars; rfl) ?_ ?_ <;> clear h <;> intro h
        · exact hR _ _ (Option.some.inj h).symm (by subst_vars; exact weak_l rfl rfl ⟨lR, lE, LV_sl, lE, lE, lE, lE, trivial⟩ ⟨lB ⟨lE, lE, lE, rfl⟩, trivial⟩ trivial)
        · refine L_tst hI h (by subst_vars; rfl) ?_ ?_ <;> clear h <;> intro h
          · exact hR _ _ (Option.some.inj h).symm (by subst_vars; exact weak_l rfl rfl ⟨lR, lE, LV_sl, lE, lE, lE, lE, trivial⟩ ⟨lB ⟨lE, lE, lE, rfl⟩, trivial⟩ trivial)
          · refine L_tst hI h (by subst_vars; rfl) ?_ ?_ <;> clear h <;> intro h
            · exact hR _ _ (Option.some.inj h).symm (by subst_vars; exact weak_l rfl rfl ⟨lR, lE, LV_sl, lE, lE, lE, lE, trivial⟩ ⟨lB ⟨lE, lE, lE, rfl⟩, trivial⟩ trivial)
            · refine L_tst hI h (by subst_vars; rfl) ?_ ?_ <;> clear h <;> intro h
              · exact hR _ _ (Option.some.inj h).symm (by subst_vars; exact weak_l rfl rfl ⟨lR, lE, LV_sl, lE, lE, lE, lE, trivial⟩ ⟨lB ⟨lE, lE, lE, rfl⟩, trivial⟩ trivial)
              · refine L_tst hI h (by subst_vars; rfl) ?_ ?_ <;> clear h <;> intro h
                · refine L_tst hI h (by subst_vars; rfl) ?_ ?_ <;> clear h <;> intro h
                  · exact hR _ _ (Option.some.inj h).symm (by subst_vars; exact weak_l rfl rfl ⟨lR, lE, LV_sl, lE, lE, lE, lE, trivial⟩ ⟨lB ⟨lE, lE, lE, rfl⟩, trivial⟩ trivial)
                  · exact hR _ _ (Option.some.inj h).symm (by subst_vars; exact weak_l rfl rfl ⟨lR, lE, LV_sl, lE, lE, lE, lE, trivial⟩ ⟨lB ⟨lE, lE, lE, rfl⟩, trivial⟩ trivial)
                · exact hR _ _ (Option.some.inj h).symm (by subst_vars; exact weak_l rfl rfl ⟨lR, lE, LV_sl, lE, lE, lE, lE, trivial⟩ ⟨lB ⟨lE, lE, lE, rfl⟩, trivial⟩ trivial)
    · refine L_tst hI h (by subst_vars; rfl) ?_ ?_ <;> clear h <;> intro h
      · exact hR _ _ (Option.some.inj h).symm (by subst_vars; exact weak_l rfl rfl ⟨lR, lE, LV_sl, lE, lE, lE, lE, trivial⟩ ⟨lB ⟨lE, lE, lE, rfl⟩, trivial⟩ trivial)
      · refine L_tst hI h (by subst_vars; rfl) ?_ ?_ <;> clear h <;> intro h
        · exact hR _ _ (Option.some.inj h).symm (by subst_vars; exact weak_l rfl rfl ⟨lR, lE, LV_sl, lE, lE, lE, lE, trivial⟩ ⟨lB ⟨lE, lE, lE, rfl⟩, trivial⟩ trivial)
        · refine L_tst hI h (by subst_vars; rfl) ?_ ?_ <;> clear h <;> intro h
          · refine L_tst hI h (by subst_vars; rfl) ?_ ?_ <;> clear h <;> intro h
            · exact hR _ _ (Option.some.inj h).symm (by subst_vars; exact weak_l rfl rfl ⟨lR, lE, LV_sl, lE, lE, lE, lE, trivial⟩ ⟨lB ⟨lE, lE, lE, rfl⟩, trivial⟩ trivial)
            · exact hR _ _ (Option.some.inj h).symm (by subst_vars; exact weak_l rfl rfl ⟨lR, lE, LV_sl, lE, lE, lE, lE, trivial⟩ ⟨lB ⟨lE, lE, lE, rfl⟩, trivial⟩ trivial)
          · exact hR _ _ (Option.some.inj h).symm (by subst_vars; exact weak_l rfl rfl ⟨lR, lE, LV_sl, lE, lE, lE, lE, trivial⟩ ⟨lB ⟨lE, lE, lE, rfl⟩, trivial⟩ trivial)
  · intro v_7 h
    (conv => cbv)
    refine L_tst hI h (by subst_vars; rfl) ?_ ?_ <;> clear h <;> intro h
    · cases h
      subst_vars
      exact ⟨lE, rfl⟩
    · refine L_loop hI seat [1000005, 1000010, 1000022, 2000131] (by kernel_rfl) h (fun q => match q with | v_219 => ⟨178, [(3, .loc 1 0), (7, .int .i64 v_8), (8, slTru false r_4), (9, .int .i64 r_6.1), (10, .int .i64 r_6.2.1), (11, .int .i64 r_6.2.2), (12, .int .i64 v_219)], [(1, ⟨89, [.int .u8 p_2.a0, .int .u8 p_2.a1, .int .u8 p_2.a2], true⟩)], [], 0⟩) (fun q => match q with | (.inl ()) => .ret | (.inr ()) => .exit 0) (fun q => match q with | (.inl ()) => ⟨178, [(4, .ff)], [], [], 0⟩ | (.inr ()) => ⟨178, [], [], [], 0⟩) (by subst_vars; exact weak_l rfl rfl ⟨lR, lE, LV_sl, lE, lE, lE, lE, trivial⟩ ⟨lB ⟨lE, lE, lE, rfl⟩, trivial⟩ trivial) (by intro q; rcases q with (_ | _) <;> (intro e; exact Exit.noConfusion e)) ?_ ?_; all_goals clear h
      · intro v_219 x h R hR hX
        rw [m_law01_ClothTold_L1] at h
        (conv => cbv)
        refine L_tst hI h (by subst_vars; rfl) ?_ ?_ <;> clear h <;> intro h
        · refine L_cut hI seat [1000005, 1000022, 2000131] (by kernel_rfl) h (fun q => match q with | v_297 => .normal) (fun q => match q with | v_297 => ⟨178, [(3, .loc 1 0), (7, .int .i64 v_8), (8, slTru false r_4), (9, .int .i64 r_6.1), (10, .int .i64 r_6.2.1), (11, .int .i64 r_6.2.2), (12, .int .i64 v_219), (13, .int .i64 v_297)], [(1, ⟨89, [.int .u8 p_2.a0, .int .u8 p_2.a1, .int .u8 p_2.a2], true⟩)], [], 0⟩) ?_ ?_; all_goals clear h
          · intro x h R hR
            (conv => cbv)
            refine L_conj hI h (fun g => by subst_vars; exact g) ?_; clear h; intro hc h
            refine L_tst hI h (by subst_vars; rfl) ?_ ?_ <;> clear h <;> intro h
            · exact hR _ _ (Option.some.inj h).symm (by subst_vars; exact weak_l rfl rfl ⟨lR, lE, LV_sl, lE, lE, lE, lE, lE, trivial⟩ ⟨lB ⟨lE, lE, lE, rfl⟩, trivial⟩ trivial)
            · exact hR _ _ (Option.some.inj h).symm (by subst_vars; exact weak_l rfl rfl ⟨lR, lE, LV_sl, lE, lE, lE, lE, lE, trivial⟩ ⟨lB ⟨lE, lE, lE, rfl⟩, trivial⟩ trivial)
          · intro v_297 h
            (conv => cbv)
            refine L_loop hI seat [1000005, 1000010, 1000022, 2000131] (by kernel_rfl) h (fun q => match q with | (v_322, v_323) => ⟨178, [(3, .loc 1 0), (7, .int .i64 v_8), (8, slTru false r_4), (9, .int .i64 r_6.1), (10, .int .i64 r_6.2.1), (11, .int .i64 r_6.2.2), (12, .int .i64 v_219), (13, .int .i64 v_297), (14, .int .i64 v_322), (15, .int .i64 v_323)], [(1, ⟨89, [.int .u8 p_2.a0, .int .u8 p_2.a1, .int .u8 p_2.a2], true⟩)], [], 0⟩) (fun q => match q with | v_348 => .exit 2) (fun q => match q with | v_348 => ⟨178, [(3, .loc 1 0), (7, .int .i64 v_8), (8, slTru false r_4), (9, .int .i64 r_6.1), (10, .int .i64 r_6.2.1), (11, .int .i64 r_6.2.2), (12, .int .i64 v_219), (13, .int .i64 v_297), (14, .int .i64 v_348)], [(1, ⟨89, [.int .u8 p_2.a0, .int .u8 p_2.a1, .int .u8 p_2.a2], true⟩)], [], 0⟩) (by subst_vars; exact weak_l rfl rfl ⟨lR, lE, LV_sl, lE, lE, lE, lE, lE, lE, lE, trivial⟩ ⟨lB ⟨lE, lE, lE, rfl⟩, trivial⟩ trivial) (by intro q; rcases q with v_348 <;> (intro e; exact Exit.noConfusion e)) ?_ ?_; all_goals clear h
            · intro q x h R hR hX
              obtain ⟨v_322, v_323⟩ := q
              rw [m_law01_ClothTold_L2] at h
              (conv => cbv)
              refine L_tst hI h (by subst_vars; rfl) ?_ ?_ <;> clear h <;> intro h
              · refine L_get hI h (fun g => by subst_vars; exact g) ?_; clear h; intro hc x_349 hxx_349 h
                refine L_get hI h (fun g => by subst_vars; exact g) ?_; clear h; intro hc x_350 hxx_350 h
                refine L_call hI h (fun v hv => w_law01_after N x_349.first x_350.rate v_297 v hv) (by subst_vars; exact ⟨(leD_refl _), (leD_refl _), (leD_refl _), rfl⟩) ?_; clear h; intro r_351 h; (conv => cbv)
                refine L_loop hI seat [1000005, 1000010, 1000022, 2000131] (by kernel_rfl) h (fun q => match q with | (v_358, v_359) => ⟨178, [(3, .loc 1 0), (7, .int .i64 v_8), (8, slTru false r_4), (9, .int .i64 r_6.1), (10, .int .i64 r_6.2.1), (11, .int .i64 r_6.2.2), (12, .int .i64 v_219), (13, .int .i64 v_297), (14, .int .i64 v_322), (15, .int .i64 v_323), (16, .int .i64 v_358), (17, .int .i64 r_351), (18, .int .i64 v_359)], [(1, ⟨89, [.int .u8 p_2.a0, .int .u8 p_2.a1, .int .u8 p_2.a2], true⟩)], [], 0⟩) (fun q => match q with | v_366 => .exit 4) (fun q => match q with | v_366 => ⟨178, [(3, .loc 1 0), (7, .int .i64 v_8), (8, slTru false r_4), (9, .int .i64 r_6.1), (10, .int .i64 r_6.2.1), (11, .int .i64 r_6.2.2), (12, .int .i64 v_219), (13, .int .i64 v_297), (14, .int .i64 v_322), (15, .int .i64 v_323), (16, .int .i64 v_366)], [(1, ⟨89, [.int .u8 p_2.a0, .int .u8 p_2.a1, .int .u8 p_2.a2], true⟩)], [], 0⟩) (by subst_vars; exact weak_l rfl rfl ⟨lR, lE, LV_sl, lE, lE, lE, lE, lE, lE, lE, lE, lE, lE, trivial⟩ ⟨lB ⟨lE, lE, lE, rfl⟩, trivial⟩ trivial) (by intro q; rcases q with v_366 <;> (intro e; exact Exit.noConfusion e)) ?_ ?_; all_goals clear h
                · intro q x h R hR hX
                  obtain ⟨v_358, v_359⟩ := q
                  rw [m_law01_ClothTold_L3] at h
                  (conv => cbv)
                  refine L_tst hI h (by subst_vars; rfl) ?_ ?_ <;> clear h <;> intro h
                  · refine L_get hI h (fun g => by subst_vars; exact g) ?_; clear h; intro hc x_367 hxx_367 h
                    refine L_get hI h (fun g => by subst_vars; exact g) ?_; clear h; intro hc x_368 hxx_368 h
                    refine L_call hI h (fun v hv => w_law01_after N x_367.first x_368.rate v_297 v hv) (by subst_vars; exact ⟨(leD_refl _), (leD_refl _), (leD_refl _), rfl⟩) ?_; clear h; intro r_369 h; (conv => cbv)
                    refine L_call hI h (fun v hv => w_law01_span N r_351 (iopR .add .i64 r_351 (iopR .mul .i64 2 v_8)) v hv) (by subst_vars; exact ⟨(leD_refl _), (leD_refl _), rfl⟩) ?_; clear h; intro r_370 h; (conv => cbv)
                    refine L_call hI h (fun v hv => w_law01_in N r_369 r_370 v hv) (by subst_vars; exact ⟨(leD_refl _), (leD_refl _), rfl⟩) ?_; clear h; intro r_371 h; (conv => cbv)
                    refine L_cut hI seat [1000005, 1000010, 1000022] (by kernel_rfl) h (fun q => match q with | v_372 => .normal) (fun q => match q with | v_372 => ⟨178, [(3, .loc 1 0), (7, .int .i64 v_8), (8, slTru false r_4), (9, .int .i64 r_6.1), (10, .int .i64 r_6.2.1), (11, .int .i64 r_6.2.2), (12, .int .i64 v_219), (13, .int .i64 v_297), (14, .int .i64 v_322), (15, .int .i64 v_323), (16, .int .i64 v_372), (17, .int .i64 r_351), (18, .int .i64 v_359)], [(1, ⟨89, [.int .u8 p_2.a0, .int .u8 p_2.a1, .int .u8 p_2.a2], true⟩)], [], 0⟩) ?_ ?_; all_goals clear h
                    · intro x h R hR
                      (conv => cbv)
                      refine L_tst hI h (by subst_vars; rfl) ?_ ?_ <;> clear h <;> intro h
                      · exact hR _ _ (Option.some.inj h).symm (by subst_vars; exact weak_l rfl rfl ⟨lR, lE, LV_sl, lE, lE, lE, lE, lE, lE, lE, lE, lE, lE, trivial⟩ ⟨lB ⟨lE, lE, lE, rfl⟩, trivial⟩ trivial)
                      · exact hR _ _ (Option.some.inj h).symm (by subst_vars; exact weak_l rfl rfl ⟨lR, lE, LV_sl, lE, lE, lE, lE, lE, lE, lE, lE, lE, lE, trivial⟩ ⟨lB ⟨lE, lE, lE, rfl⟩, trivial⟩ trivial)
                    · intro v_372 h
                      (conv => cbv)
                      exact hR _ _ (Option.some.inj h).symm (by subst_vars; exact weak_l rfl rfl ⟨lR, lE, LV_sl, lE, lE, lE, lE, lE, lE, lE, lE, lE, lE, trivial⟩ ⟨lB ⟨lE, lE, lE, rfl⟩, trivial⟩ trivial)
                  · exact hX _ _ (Option.some.inj h).symm (by subst_vars; exact weak_l rfl rfl ⟨lR, lE, LV_sl, lE, lE, lE, lE, lE, lE, lE, lE, trivial⟩ ⟨lB ⟨lE, lE, lE, rfl⟩, trivial⟩ trivial)
                · intro v_366 h
                  (conv => cbv)
                  exact hR _ _ (Option.some.inj h).symm (by subst_vars; exact weak_l rfl rfl ⟨lR, lE, LV_sl, lE, lE, lE, lE, lE, lE, lE, trivial⟩ ⟨lB ⟨lE, lE, lE, rfl⟩, trivial⟩ trivial)
              · exact hX _ _ (Option.some.inj h).symm (by subst_vars; exact weak_l rfl rfl ⟨lR, lE, LV_sl, lE, lE, lE, lE, lE, lE, trivial⟩ ⟨lB ⟨lE, lE, lE, rfl⟩, trivial⟩ trivial)
            · intro v_348 h
              (conv => cbv)
              refine L_cut hI seat [1000005, 1000010, 2000131] (by kernel_rfl) h (fun q => match q with | v_373 => .normal) (fun q => match q with | v_373 => ⟨178, [(3, .loc 1 0), (7, .int .i64 v_8), (8, slTru false r_4), (9, .int .i64 r_6.1), (10, .int .i64 r_6.2.1), (11, .int .i64 r_6.2.2), (12, .int .i64 v_219), (176, .bool v_373)], [(1, ⟨89, [.int .u8 p_2.a0, .int .u8 p_2.a1, .int .u8 p_2.a2], true⟩)], [], 0⟩) ?_ ?_; all_goals clear h
              · intro x h R hR
                (conv => cbv)
                refine L_tst hI h (by subst_vars; rfl) ?_ ?_ <;> clear h <;> intro h
                · refine L_tst hI h (by subst_vars; rfl) ?_ ?_ <;> clear h <;> intro h
                  · refine L_tst hI h (by subst_vars; rfl) ?_ ?_ <;> clear h <;> intro h
                    · exact hR _ _ (Option.some.inj h).symm (by subst_vars; exact weak_l rfl rfl ⟨lR, lE, LV_sl, lE, lE, lE, lE, lE, trivial⟩ ⟨lB ⟨lE, lE, lE, rfl⟩, trivial⟩ trivial)
                    · refine L_tst hI h (by subst_vars; rfl) ?_ ?_ <;> clear h <;> intro h
                      · refine L_tst hI h (by subst_vars; rfl) ?_ ?_ <;> clear h <;> intro h
                        · exact hR _ _ (Option.some.inj h).symm (by subst_vars; exact weak_l rfl rfl ⟨lR, lE, LV_sl, lE, lE, lE, lE, lE, trivial⟩ ⟨lB ⟨lE, lE, lE, rfl⟩, trivial⟩ trivial)
                        · refine L_tst hI h (by subst_vars; rfl) ?_ ?_ <;> clear h <;> intro h
                          · refine L_tst hI h (by subst_vars; rfl) ?_ ?_ <;> clear h <;> intro h
                            · exact hR _ _ (Option.some.inj h).symm (by subst_vars; exact weak_l rfl rfl ⟨lR, lE, LV_sl, lE, lE, lE, lE, lE, trivial⟩ ⟨lB ⟨lE, lE, lE, rfl⟩, trivial⟩ trivial)
                            · refine L_tst hI h (by subst_vars; rfl) ?_ ?_ <;> clear h <;> intro h
                              · exact hR _ _ (Option.some.inj h).symm (by subst_vars; exact weak_l rfl rfl ⟨lR, lE, LV_sl, lE, lE, lE, lE, lE, trivial⟩ ⟨lB ⟨lE, lE, lE, rfl⟩, trivial⟩ trivial)
                              · exact hR _ _ (Option.some.inj h).symm (by subst_vars; exact weak_l rfl rfl ⟨lR, lE, LV_sl, lE, lE, lE, lE, lE, trivial⟩ ⟨lB ⟨lE, lE, lE, rfl⟩, trivial⟩ trivial)
                          · refine L_tst hI h (by subst_vars; rfl) ?_ ?_ <;> clear h <;> intro h
                            · exact hR _ _ (Option.some.inj h).symm (by subst_vars; exact weak_l rfl rfl ⟨lR, lE, LV_sl, lE, lE, lE, lE, lE, trivial⟩ ⟨lB ⟨lE, lE, lE, rfl⟩, trivial⟩ trivial)
                            · exact hR _ _ (Option.some.inj h).symm (by subst_vars; exact weak_l rfl rfl ⟨lR, lE, LV_sl, lE, lE, lE, lE, lE, trivial⟩ ⟨lB ⟨lE, lE, lE, rfl⟩, trivial⟩ trivial)
                      · refine L_tst hI h (by subst_vars; rfl) ?_ ?_ <;> clear h <;> intro h
                        · exact hR _ _ (Option.some.inj h).symm (by subst_vars; exact weak_l rfl rfl ⟨lR, lE, LV_sl, lE, lE, lE, lE, lE, trivial⟩ ⟨lB ⟨lE, lE, lE, rfl⟩, trivial⟩ trivial)
                        · exact hR _ _ (Option.some.inj h).symm (by subst_vars; exact weak_l rfl rfl ⟨lR, lE, LV_sl, lE, lE, lE, lE, lE, trivial⟩ ⟨lB ⟨lE, lE, lE, rfl⟩, trivial⟩ trivial)
                  · refine L_tst hI h (by subst_vars; rfl) ?_ ?_ <;> clear h <;> intro h
                    · refine L_tst hI h (by subst_vars; rfl) ?_ ?_ <;> clear h <;> intro h
                      · exact hR _ _ (Option.some.inj h).symm (by subst_vars; exact weak_l rfl rfl ⟨lR, lE, LV_sl, lE, lE, lE, lE, lE, trivial⟩ ⟨lB ⟨lE, lE, lE, rfl⟩, trivial⟩ trivial)
                      · refine L_tst hI h (by subst_vars; rfl) ?_ ?_ <;> clear h <;> intro h
                        · refine L_tst hI h (by subst_vars; rfl) ?_ ?_ <;> clear h <;> intro h
                          · exact hR _ _ (Option.some.inj h).symm (by subst_vars; exact weak_l rfl rfl ⟨lR, lE, LV_sl, lE, lE, lE, lE, lE, trivial⟩ ⟨lB ⟨lE, lE, lE, rfl⟩, trivial⟩ trivial)
                          · refine L_tst hI h (by subst_vars; rfl) ?_ ?_ <;> clear h <;> intro h
                            · exact hR _ _ (Option.some.inj h).symm (by subst_vars; exact weak_l rfl rfl ⟨lR, lE, LV_sl, lE, lE, lE, lE, lE, trivial⟩ ⟨lB ⟨lE, lE, lE, rfl⟩, trivial⟩ trivial)
                            · exact hR _ _ (Option.some.inj h).symm (by subst_vars; exact weak_l rfl rfl ⟨lR, lE, LV_sl, lE, lE, lE, lE, lE, trivial⟩ ⟨lB ⟨lE, lE, lE, rfl⟩, trivial⟩ trivial)
                        · refine L_tst hI h (by subst_vars; rfl) ?_ ?_ <;> clear h <;> intro h
                          · exact hR _ _ (Option.some.inj h).symm (by subst_vars; exact weak_l rfl rfl ⟨lR, lE, LV_sl, lE, lE, lE, lE, lE, trivial⟩ ⟨lB ⟨lE, lE, lE, rfl⟩, trivial⟩ trivial)
                          · exact hR _ _ (Option.some.inj h).symm (by subst_vars; exact weak_l rfl rfl ⟨lR, lE, LV_sl, lE, lE, lE, lE, lE, trivial⟩ ⟨lB ⟨lE, lE, lE, rfl⟩, trivial⟩ trivial)
                    · refine L_tst hI h (by subst_vars; rfl) ?_ ?_ <;> clear h <;> intro h
                      · exact hR _ _ (Option.some.inj h).symm (by subst_vars; exact weak_l rfl rfl ⟨lR, lE, LV_sl, lE, lE, lE, lE, lE, trivial⟩ ⟨lB ⟨lE, lE, lE, rfl⟩, trivial⟩ trivial)
                      · exact hR _ _ (Option.some.inj h).symm (by subst_vars; exact weak_l rfl rfl ⟨lR, lE, LV_sl, lE, lE, lE, lE, lE, trivial⟩ ⟨lB ⟨lE, lE, lE, rfl⟩, trivial⟩ trivial)
                · refine L_tst hI h (by subst_vars; rfl) ?_ ?_ <;> clear h <;> intro h
                  · exact hR _ _ (Option.some.inj h).symm (by subst_vars; exact weak_l rfl rfl ⟨lR, lE, LV_sl, lE, lE, lE, lE, lE, trivial⟩ ⟨lB ⟨lE, lE, lE, rfl⟩, trivial⟩ trivial)
                  · exact hR _ _ (Option.some.inj h).symm (by subst_vars; exact weak_l rfl rfl ⟨lR, lE, LV_sl, lE, lE, lE, lE, lE, trivial⟩ ⟨lB ⟨lE, lE, lE, rfl⟩, trivial⟩ trivial)
              · intro v_373 h
                (conv => cbv)
                refine L_tst hI h (by subst_vars; rfl) ?_ ?_ <;> clear h <;> intro h
                · exact hX _ _ (Option.some.inj h).symm (by subst_vars; exact weak_l rfl rfl ⟨lE, trivial⟩ trivial trivial)
                · exact hR _ _ (Option.some.inj h).symm (by subst_vars; exact weak_l rfl rfl ⟨lR, lE, LV_sl, lE, lE, lE, lE, trivial⟩ ⟨lB ⟨lE, lE, lE, rfl⟩, trivial⟩ trivial)
        · exact hX _ _ (Option.some.inj h).symm (by subst_vars; exact weak_l rfl rfl trivial trivial trivial)
      · intro q h
        rcases q with (_ | _)
        · (conv => cbv)
          cases h
          subst_vars
          exact ⟨lE, rfl⟩
        · (conv => cbv)
          refine L_call hI h (fun v hv => w_law01_known N v hv) (by subst_vars; exact rfl) ?_; clear h; intro r_374 h; (conv => cbv)
          cases h
          subst_vars
          exact ⟨lE, rfl⟩
end
end Go.Proofs.Ytnekemldcjegaaa.Aw

/- Plain law of ClothTold. -/
namespace Go.Proofs.Ytnekemldcjegaaa.Aw
open Go Go.RowKit Go.Proofs
set_option linter.unusedSimpArgs false
set_option linter.unusedVariables false
theorem in_is (N : Nat) (n : Int) (s : Span) : m_law01_in N n s = some (decide (s.low ≤ n ∧ n ≤ s.high)) := by
  unfold m_law01_in
  simp only [icmp_geq, icmp_leq, decide_eq_true_eq]
  by_cases h : n ≥ s.low
  · rw [if_pos h, bindS]
    exact congrArg some (decide_eq_decide.2 ⟨fun q => ⟨h, q⟩, fun q => q.2⟩)
  · rw [if_neg h, bindS]
    simp; omega
theorem cnt_snoc (V : List Int) (x a b : Int) : cnt (V ++ [x]) a b = cnt V a b + (if a ≤ x ∧ x ≤ b then 1 else 0) := by
  have h : cnt (V ++ [x]) a b = cnt V a b + cnt [x] a b := by unfold cnt; rw [List.countP_append]
  rw [h, cnt_cons]; simp [cnt]
theorem told_L3 (N : Nat) {T : List Tru} {h low off : Int} (hN : T.length < N) (hT2 : T.length ≤ 1000000) (hT : ∀ t ∈ T, (0 ≤ t.first ∧ t.first ≤ 2000) ∧ 0 ≤ t.rate ∧ t.rate ≤ 100) (hh : 0 ≤ h ∧ h ≤ 48) (hl : 0 ≤ low ∧ low ≤ 1000000) (ho : 0 ≤ off ∧ off ≤ 20) :
    loopO (m_law01_ClothTold_L3 N T h low off) N (0, 0) = some (cnt (valT h T) low (low + 2 * off) : Int) := by
  obtain ⟨q, hq, hp⟩ := loopO_of (step := m_law01_ClothTold_L3 N T h low off) (fun s => (0 ≤ s.2 ∧ s.2 ≤ T.length) ∧ s.1 = cnt (valT h (T.take s.2.toNat)) low (low + 2 * off)) (fun s => (T.length - s.2).toNat) (fun q => q = (cnt (valT h T) low (low + 2 * off) : Int)) (fun s hs => by
    obtain ⟨n, i⟩ := s
    obtain ⟨⟨i0, i1⟩, e⟩ := hs
    simp only at i0 i1 e
    simp only [m_law01_ClothTold_L3, icmp_lss, decide_eq_true_eq]
    by_cases hc : i < (T.length : Int)
    · left
      have hlt : i.toNat < T.length := by omega
      have hget : T.getD i.toNat tru0 = T[i.toNat] := by simp [List.getD_eq_getElem?_getD, hlt]
      have hmem : T.getD i.toNat tru0 ∈ T := by rw [hget]; exact List.getElem_mem hlt
      obtain ⟨f1, f2⟩ := hT _ hmem
      have htk : T.take (i + 1).toNat = T.take i.toNat ++ [T.getD i.toNat tru0] := by
        rw [show (i + 1).toNat = i.toNat + 1 from by omega, List.take_add_one, List.getElem?_eq_getElem hlt, hget]; rfl
      obtain ⟨t, ht⟩ : ∃ t, t = T.getD i.toNat tru0 := ⟨_, rfl⟩
      rw [← ht] at f1 f2 htk hmem
      have haf : m_law01_after N t.first t.rate h = some (aft t.first t.rate h.toNat) := onlyIf_pos ⟨by omega, by omega, by omega⟩
      have hb : cnt (valT h (T.take i.toNat)) low (low + 2 * off) ≤ 1000000 := by
        have := cnt_le (valT h (T.take i.toNat)) low (low + 2 * off)
        simp only [valT, List.length_map, List.length_take] at this ⊢; omega
      have hs : (cnt (valT h (T.take (i + 1).toNat)) low (low + 2 * off) : Int) = cnt (valT h (T.take i.toNat)) low (low + 2 * off) + (if low ≤ aft t.first t.rate h.toNat ∧ aft t.first t.rate h.toNat ≤ low + 2 * off then 1 else 0) := by
        rw [htk]
        have : valT h (T.take i.toNat ++ [t]) = valT h (T.take i.toNat) ++ [aft t.first t.rate h.toNat] := by simp [valT]
        rw [this, cnt_snoc]
        split <;> simp
      simp only [if_pos hc, getO_of (d := tru0) i0 hc, ← ht, bindS, haf, show ∀ a b, m_law01_span N a b = some ⟨a, b⟩ from fun _ _ => rfl, in_is, mulW (show -9223372036854775808 ≤ 2 * off ∧ 2 * off ≤ 9223372036854775807 by omega), addW (show -9223372036854775808 ≤ low + 2 * off ∧ low + 2 * off ≤ 9223372036854775807 by omega), decide_eq_true_eq, addW (show -9223372036854775808 ≤ i + 1 ∧ i + 1 ≤ 9223372036854775807 by omega), addW (show -9223372036854775808 ≤ n + 1 ∧ n + 1 ≤ 9223372036854775807 by omega)]
      refine ⟨((cnt (valT h (T.take (i + 1).toNat)) low (low + 2 * off) : Int), i + 1), ?_, ⟨⟨by simp only; omega, by simp only; omega⟩, rfl⟩, by simp only; omega⟩
      rw [hs, ← e]
      by_cases hin : low ≤ aft t.first t.rate h.toNat ∧ aft t.first t.rate h.toNat ≤ low + 2 * off
      · rw [if_pos hin, if_pos hin]; rfl
      · rw [if_neg hin, if_neg hin, bindS, Int.add_zero]
    · right
      rw [if_neg hc]
      exact ⟨_, rfl, by rw [e, List.take_of_length_le (by omega)]⟩) N (0, 0) ⟨⟨by simp, by simp⟩, by simp [valT, cnt]⟩ (by simp only; omega)
  rw [hq, hp]
theorem told_L2 (N : Nat) {T : List Tru} {h off : Int} (hN : T.length < N) (hT2 : T.length ≤ 1000000) (hne : T ≠ []) (hT : ∀ t ∈ T, (0 ≤ t.first ∧ t.first ≤ 2000) ∧ 0 ≤ t.rate ∧ t.rate ≤ 100) (hh : 0 ≤ h ∧ h ≤ 48) (ho : 0 ≤ off ∧ off ≤ 20) :
    ∃ M, loopO (m_law01_ClothTold_L2 N T h off) N (0, 0) = some M ∧ IsMost (valT h T) (2 * off) M := by
  obtain ⟨q, hq, hp⟩ := loopO_of (step := m_law01_ClothTold_L2 N T h off) (fun s => (0 ≤ s.2 ∧ s.2 ≤ T.length) ∧ 0 ≤ s.1 ∧ (∀ t ∈ T.take s.2.toNat, (cnt (valT h T) (aft t.first t.rate h.toNat) (aft t.first t.rate h.toNat + 2 * off) : Int) ≤ s.1) ∧ ((s.1 = 0 ∧ s.2 = 0) ∨ ∃ t ∈ T, (cnt (valT h T) (aft t.first t.rate h.toNat) (aft t.first t.rate h.toNat + 2 * off) : Int) = s.1)) (fun s => (T.length - s.2).toNat) (fun M => IsMost (valT h T) (2 * off) M) (fun s hs => by
    obtain ⟨n, i⟩ := s
    obtain ⟨⟨i0, i1⟩, n0, hall, hsome⟩ := hs
    simp only at i0 i1 n0 hall hsome
    simp only [m_law01_ClothTold_L2, icmp_lss, decide_eq_true_eq]
    by_cases hc : i < (T.length : Int)
    · left
      have hlt : i.toNat < T.length := by omega
      have hget : T.getD i.toNat tru0 = T[i.toNat] := by simp [List.getD_eq_getElem?_getD, hlt]
      have hmem : T.getD i.toNat tru0 ∈ T := by rw [hget]; exact List.getElem_mem hlt
      obtain ⟨f1, f2⟩ := hT _ hmem
      have htk : T.take (i + 1).toNat = T.take i.toNat ++ [T.getD i.toNat tru0] := by
        rw [show (i + 1).toNat = i.toNat + 1 from by omega, List.take_add_one, List.getElem?_eq_getElem hlt, hget]; rfl
      obtain ⟨t, ht⟩ : ∃ t, t = T.getD i.toNat tru0 := ⟨_, rfl⟩
      rw [← ht] at f1 f2 htk hmem
      have haf : m_law01_after N t.first t.rate h = some (aft t.first t.rate h.toNat) := onlyIf_pos ⟨by omega, by omega, by omega⟩
      have har := aft_range (x := t.first) (r := t.rate) (by omega) (by omega) h.toNat
      have hpos : 0 < cnt (valT h T) (aft t.first t.rate h.toNat) (aft t.first t.rate h.toNat + 2 * off) := cnt_pos (List.mem_map.2 ⟨t, hmem, rfl⟩) (by omega)
      simp only [if_pos hc, getO_of (d := tru0) i0 hc, ← ht, bindS, haf, told_L3 N hN hT2 hT hh (low := aft t.first t.rate h.toNat) (by omega) ho, addW (show -9223372036854775808 ≤ i + 1 ∧ i + 1 ≤ 9223372036854775807 by omega)]
      refine ⟨_, rfl, ⟨⟨by simp only; omega, by simp only; omega⟩, by simp only; omega, fun u hu => ?_, ?_⟩, by simp only; omega⟩
      · simp only at hu ⊢
        rw [htk] at hu
        rcases List.mem_append.1 hu with hu | hu
        · have := hall u hu; omega
        · simp only [List.mem_singleton] at hu; subst hu; omega
      · right
        simp only
        by_cases hm : (cnt (valT h T) (aft t.first t.rate h.toNat) (aft t.first t.rate h.toNat + 2 * off) : Int) ≤ n
        · rcases hsome with ⟨e1, e2⟩ | ⟨u, hu, e⟩
          · omega
          · exact ⟨u, hu, by omega⟩
        · exact ⟨t, hmem, by omega⟩
    · right
      rw [if_neg hc]
      refine ⟨_, rfl, ?_⟩
      have hl := List.length_pos_iff.2 hne
      rw [List.take_of_length_le (by omega)] at hall
      refine isMost_of (by omega) n0 (fun v hv => ?_) ?_
      · obtain ⟨t, ht, rfl⟩ := List.mem_map.1 hv
        exact hall t ht
      · rcases hsome with ⟨e1, e2⟩ | ⟨u, hu, e⟩
        · omega
        · exact ⟨_, List.mem_map.2 ⟨u, hu, rfl⟩, e⟩) N (0, 0) ⟨⟨by simp, by simp⟩, by simp, by simp, .inl ⟨rfl, rfl⟩⟩ (by simp only; omega)
  exact ⟨q, hq, hp⟩
theorem law_ClothTold (N : Nat) (hN : 2000000 ≤ N) (p : law01_Bolt) (v : A3_u8) (hx : (toBolt p).ok) (hv : (0 ≤ v.a0 ∧ v.a0 ≤ 255) ∧ (0 ≤ v.a1 ∧ v.a1 ≤ 255) ∧ 0 ≤ v.a2 ∧ v.a2 ≤ 255) : m_law01_ClothTold N p v = some true := by
  have hck := bolt_check hx
  have hin := bolt_clothIn _ hx
  have hop := bolt_open hx
  obtain ⟨ln1, ln2⟩ := bolt_lens (toBolt p)
  have hcl : m_law01_Bolt_cloth N p = some ⟨boltT (toBolt p), boltM (toBolt p)⟩ := onlyIf_pos hx
  have how : m_law01_own N ⟨boltT (toBolt p), boltM (toBolt p)⟩ = some ⟨boltT (toBolt p), boltM (toBolt p)⟩ := onlyIf_pos ⟨ln1, ln2⟩
  obtain ⟨w, hw⟩ : ∃ w, w = v.a0 % 3 := ⟨_, rfl⟩
  obtain ⟨off, hoff⟩ : ∃ m, m = v.a1 % 21 := ⟨_, rfl⟩
  obtain ⟨b, hb⟩ : ∃ m, m = v.a2 % 49 := ⟨_, rfl⟩
  have hw3 : 0 ≤ w ∧ w ≤ 2 := by omega
  have ho20 : 0 ≤ off ∧ off ≤ 20 := by omega
  have hb48 : 0 ≤ b ∧ b ≤ 48 := by omega
  have ew : iopR .rem .i64 (IntKind.wrap .i64 v.a0) 3 = w := by rw [wrap_i64 (n := v.a0) (by omega), remW (by omega), hw]
  have eo : iopR .rem .i64 (IntKind.wrap .i64 v.a1) 21 = off := by rw [wrap_i64 (n := v.a1) (by omega), remW (by omega), hoff]
  have eb : iopR .rem .i64 (IntKind.wrap .i64 v.a2) 49 = b := by rw [wrap_i64 (n := v.a2) (by omega), remW (by omega), hb]
  have htr : m_law01_truths N ⟨boltT (toBolt p), boltM (toBolt p)⟩ w = some (truW (boltT (toBolt p)) (boltM (toBolt p)) noSkip w) := onlyIf_pos ⟨hck, hw3⟩
  obtain ⟨hour, left, e, hlk, ⟨hli⟩⟩ := look_is N hN hin hop hw3.1 hw3.2 (off := off) ho20
  have hfit := tru_fit hck hw3.1 hw3.2
  have hlen := truW_len hck hw3.1 hw3.2
  have hne := bolt_ne hx hw3.1 hw3.2
  generalize truW (boltT (toBolt p)) (boltM (toBolt p)) noSkip w = T at *
  have hl2 := fun (h : Int) (hh : 0 ≤ h ∧ h ≤ 48) => told_L2 N (T := T) (h := h) (off := off) (by omega) hlen hne hfit hh ho20
  have hl1 := List.length_pos_iff.2 hne
  have loop1 : loopO (m_law01_ClothTold_L1 N (hour, left, e) v T off) N 0 = some (.inr ()) := by
    obtain ⟨M0, q0, p0⟩ := hl2 hour (by rcases hli with ⟨_, h, _⟩ | ⟨_, h, _⟩ <;> omega)
    obtain ⟨M1, q1, p1⟩ := hl2 b hb48
    have s0 : m_law01_ClothTold_L1 N (hour, left, e) v T off 0 = some (.inl 1) := by
      simp only [m_law01_ClothTold_L1, q0, icmp_lss, icmp_eql, icmp_neq, bindS]
      rcases hli with ⟨rfl, _, h3, h4, h5⟩ | ⟨rfl, h2, rfl, h4⟩
      · have := p0.eq h4
        subst this
        simp [q0]
        rfl
      · have := h4 hour (by omega) (by omega) M0 p0
        have c : ¬ M0 < (T.length : Int) := by omega
        simp [q0, c]
        rfl
    have s1 : m_law01_ClothTold_L1 N (hour, left, e) v T off 1 = some (.inl 2) := by
      simp only [m_law01_ClothTold_L1, eb, icmp_lss, icmp_eql, icmp_neq, bindS]
      rcases hli with ⟨rfl, _, h3, h4, h5⟩ | ⟨rfl, h2, rfl, h4⟩
      · obtain ⟨k1, k2⟩ := h5 b hb48.1 hb48.2 M1 p1
        have c1 : ¬ M1 < left := by omega
        by_cases hm : M1 = left
        · have c2 : ¬ b < hour := by have := k2 hm; omega
          simp [q1, c1, hm, c2]
          rfl
        · simp [q1, c1, hm]
          rfl
      · have := h4 b hb48.1 hb48.2 M1 p1
        have c : ¬ M1 < (T.length : Int) := by omega
        simp [q1, c]
        rfl
    have s2 : m_law01_ClothTold_L1 N (hour, left, e) v T off 2 = some (.inr (.inr ())) := rfl
    obtain ⟨K, hK⟩ : ∃ K, N = K + 3 := ⟨N - 3, by omega⟩
    have e3 : loopO (m_law01_ClothTold_L1 N (hour, left, e) v T off) (K + 3) 0 = some (.inr ()) := by
      rw [loopO_inl s0, loopO_inl s1, loopO_inr s2]
    rw [hK] at e3 ⊢
    exact e3
  unfold m_law01_ClothTold
  simp only [hcl, bindS, ew, eo, htr, how, hlk, letO_eq, loop1, icmp_neq, icmp_lss, icmp_gtr, icmp_eql, icmp_geq]
  rcases hli with ⟨rfl, h2, h3, h4, h5⟩ | ⟨rfl, rfl, rfl, h4⟩
  · have c1 : ¬ hour < 0 := by omega
    have c2 : ¬ hour > 48 := by omega
    have c3 : ¬ left < 1 := by omega
    have c4 : ¬ left ≥ (T.length : Int) := by omega
    simp [c1, c2, c3, c4, m_law01_known]
  · simp [m_law01_known]
end Go.Proofs.Ytnekemldcjegaaa.Aw

/- What comes in, for chapter 1: cloths, measurings, spans, read as data. -/
namespace Go.Proofs.Ytnekemldcjegaaa.Aw
open Go Go.RowKit Go.Proofs
set_option maxRecDepth 100000
set_option linter.unusedSimpArgs false
set_option linter.unusedVariables false
theorem Try.own : ownKnob Try.prog.godebug = none := by kernel_rfl
theorem Try.laidOut : laidOutB Try.prog = true := by kernel_rfl
theorem rows_of {α : Type} {g : α → List D} {p : α → Prop} : ∀ {rows : List (List D)}, (∀ row ∈ rows, ∃ a, row = g a ∧ p a) → ∃ l : List α, rows = l.map g ∧ ∀ a ∈ l, p a
  | [], _ => ⟨[], rfl, fun a h => by cases h⟩
  | row :: r, h => by
    obtain ⟨a, e, hp⟩ := h row (by simp)
    obtain ⟨l, e2, hl⟩ := rows_of (g := g) (p := p) (rows := r) (fun x hx => h x (List.mem_cons_of_mem _ hx))
    refine ⟨a :: l, by rw [e, e2]; rfl, fun b hb => ?_⟩
    rcases List.mem_cons.1 hb with rfl | hb
    · exact hp
    · exact hl b hb
end Go.Proofs.Ytnekemldcjegaaa.Aw

/- What comes in, for chapter 1: bolts, bytes, read as data. -/
namespace Go.Proofs.Ytnekemldcjegaaa.Aw
open Go Go.RowKit Go.Proofs
set_option maxRecDepth 100000
set_option linter.unusedSimpArgs false
set_option linter.unusedVariables false
def shU : Sh := .int .u8
def shB4 : Sh := .agg [shU, shU, shU, shU]
def shBolt : Sh := .agg [.agg [shB4, shB4, shB4], .sl shB4]
def shA3 : Sh := .agg [shU, shU, shU]
theorem fit_U {xs : List D} (h : shU.Fit xs) : ∃ n : Int, xs = [.int .u8 n] ∧ 0 ≤ n ∧ n ≤ 255 := by
  unfold shU Sh.Fit at h
  obtain ⟨n, rfl, h1, h2⟩ := h
  exact ⟨n, rfl, h1, h2⟩
theorem fit_B4 {xs : List D} (h : shB4.Fit xs) : ∃ v : B4, xs = rowD 4 0 (fun j => (eB4 v j).toD) ∧ v.ok := by
  unfold shB4 Sh.Fit at h
  simp only [Sh.FitL] at h
  obtain ⟨a, b, rfl, ha, c, d, rfl, hc, e, f, rfl, he, g, i, rfl, hg, rfl⟩ := h
  obtain ⟨x, rfl, hx⟩ := fit_U ha
  obtain ⟨y, rfl, hy⟩ := fit_U hc
  obtain ⟨z, rfl, hz⟩ := fit_U he
  obtain ⟨u, rfl, hu⟩ := fit_U hg
  exact ⟨⟨x, y, z, u⟩, rfl, hx, hy, hz, hu⟩
theorem fit_A3 {xs : List D} (h : shA3.Fit xs) : ∃ a b c : Int, xs = [.int .u8 a, .int .u8 b, .int .u8 c] ∧ (0 ≤ a ∧ a ≤ 255) ∧ (0 ≤ b ∧ b ≤ 255) ∧ 0 ≤ c ∧ c ≤ 255 := by
  unfold shA3 Sh.Fit at h
  simp only [Sh.FitL] at h
  obtain ⟨a1, b1, rfl, h1, a2, b2, rfl, h2, a3, b3, rfl, h3, rfl⟩ := h
  obtain ⟨v0, rfl, k0⟩ := fit_U h1
  obtain ⟨v1, rfl, k1⟩ := fit_U h2
  obtain ⟨v2, rfl, k2⟩ := fit_U h3
  exact ⟨v0, v1, v2, rfl, k0, k1, k2⟩
theorem fit_bolt {xs : List D} (h : shBolt.Fit xs) : ∃ x : Bolt, shBolt.arg xs = (kBolt x).toD ∧ x.ok := by
  unfold shBolt Sh.Fit at h
  simp only [Sh.FitL] at h
  obtain ⟨a, b, rfl, ha, c, d, rfl, hc, rfl⟩ := h
  unfold Sh.Fit at ha hc
  simp only [Sh.FitL] at ha
  obtain ⟨a1, b1, rfl, h1, a2, b2, rfl, h2, a3, b3, rfl, h3, rfl⟩ := ha
  obtain ⟨t0, rfl, k0⟩ := fit_B4 h1
  obtain ⟨t1, rfl, k1⟩ := fit_B4 h2
  obtain ⟨t2, rfl, k2⟩ := fit_B4 h3
  obtain ⟨rc, rfl, lc, hc⟩ := hc
  obtain ⟨ms, rfl, hm⟩ := rows_of (fun row hr => fit_B4 (hc row hr))
  exact ⟨⟨t0, t1, t2, ms⟩, rfl, k0, k1, k2, hm⟩
end Go.Proofs.Ytnekemldcjegaaa.Aw
