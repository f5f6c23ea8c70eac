/- Part 7 of the proof: lemmas. -/
import Derived.Test.YtnekemldcjegaaaM6
import Derived.Test.YtnekemldcjegaaaM5
import Derived.Test.YtnekemldcjegaaaM4
import Derived.Test.YtnekemldcjegaaaRows

/- Contracts of the reference: the fewest measurings that must be wrong. -/
namespace Go.Proofs.Ytnekemldcjegaaa.Aw
open Go Go.RowKit Go.Proofs
set_option maxRecDepth 100000
set_option maxHeartbeats 4000000
set_option linter.unusedSimpArgs false
set_option linter.unusedVariables false

def wrongFrom (f : List Int → Bool) (n : Int) : Nat → Int → List Int
  | 0, _ => rangeI 0 n.toNat
  | k + 1, many => match (setsS n many.toNat []).find? f with
    | some s => s
    | none => wrongFrom f n k (many + 1)
def rWrongL (ts : List Track) (ms : List Meas) : List Int := wrongFrom (fun s => rTrueB ts ms (fun i => s.contains i)) ms.length ms.length 0
theorem rangeI_snoc (a : Int) : ∀ n : Nat, rangeI a (n + 1) = rangeI a n ++ [a + n]
  | 0 => by simp [rangeI]
  | n + 1 => by
    have := rangeI_snoc (a + 1) n
    rw [rangeI, this]
    simp only [rangeI, List.cons_append, List.cons.injEq, true_and, List.append_cancel_left_eq, and_true]; omega
theorem setsS_mem_len {below : Int} : ∀ {k : Nat} {b l : List Int}, l ∈ setsS below k b → l.length = b.length + k
  | 0, b, l, h => by simp [setsS] at h; subst h; rfl
  | k + 1, b, l, h => by
    simp only [setsS, List.mem_flatMap] at h
    obtain ⟨i, _, h⟩ := h
    have := setsS_mem_len h
    simp only [List.length_append, List.length_cons, List.length_nil] at this; omega
theorem con_rWrong (ts : List Track) (ms : List Meas) (hck : check ts ms = 0) : KC Try.prog 39 [kCloth ts ms] (slInt false (rWrongL ts ms)) [] := by
  obtain ⟨g1, g2, g3, g4⟩ := check_zero hck
  obtain ⟨n, hn⟩ : ∃ n : Int, n = ms.length := ⟨_, rfl⟩
  have ctr := fun (l : List Int) (hl : (l.length : Int) ≤ 140737488355328) => con_rTrue ts ms l hl hck
  unfold rWrongL
  obtain ⟨f, hf⟩ : ∃ f : List Int → Bool, f = fun s => rTrueB ts ms (fun i => s.contains i) := ⟨_, rfl⟩
  have ctr : ∀ l : List Int, (l.length : Int) ≤ 140737488355328 → KC Try.prog 37 [kCloth ts ms, slInt false l] (.bool (f l)) [] := by rw [hf]; exact ctr
  rw [← hf, ← hn]
  clear hf
  obtain ⟨res, hres⟩ : ∃ res, res = wrongFrom f n n.toNat 0 := ⟨_, rfl⟩
  have e0 : (ms.length : Nat) = n.toNat := by omega
  rw [show wrongFrom f n ms.length 0 = wrongFrom f n n.toNat 0 from by rw [e0], ← hres]
  have hSl : ∀ m : Nat, (m : Int) ≤ 8 → (setsS n m []).length ≤ 16777216 := fun m hm => by
    have h1 := setsS_len (below := n) (by omega) m [] (by simp [nextI]) (by simp)
    have h2 : (8 : Nat) ^ m ≤ 8 ^ 8 := Nat.pow_le_pow_right (by omega) (by omega)
    have : (8 : Nat) ^ 8 = 16777216 := by decide
    omega
  (refine con_k [] [] seat Try.func39 rfl ent_39 (by kernel_rfl) rfl rfl (by simp) ?_; intro base I hI; conv => cbv)
  refine W_loop hI seat [] (by kernel_rfl) (fun m : Int => (n - m).toNat) (fun m => ⟨49, [(1, .loc 0 0), (3, .int .i64 m)], [(0, ⟨25, [slTrack false ts, slMeas false ms], true⟩)], [], 0⟩)
    (fun m _ => 0 ≤ m ∧ m ≤ n ∧ res = wrongFrom f n (n - m).toNat m) 0 (weak_k rfl rfl ⟨rfl, rfl, trivial⟩ ⟨rfl, trivial⟩ trivial) ⟨Int.le_refl _, by omega, by simpa using hres⟩ ?_
  rintro m s ⟨m1, m2, m3⟩ R hR
  (conv => cbv)
  refine K_tst hI (fun hc => ?_) (fun hc => ?_) <;> simp only [primK, endK, iopR, icmpR, oknzR, KV.av, KV.avL, AV.d.injEq, AV.agg.injEq, AV.tup.injEq, D.int.injEq, D.bool.injEq, List.cons.injEq, plenN, List.map_nil, List.length_nil, Nat.add_zero, true_and, and_true, decide_eq_true_eq, decide_eq_false_iff_not, Bool.not_eq_true', Bool.not_eq_false', forall_const, true_implies, reduceCtorEq, false_implies, Int.ofNat_eq_natCast, noAggD, List.getD_cons_zero, List.getD_cons_succ, Int.ofNat_zero, hI] at hc
  · have cse : KC Try.prog 80 [.int .i64 n, .int .i64 m, slInt false []] (slRows false (setsS n m.toNat [])) [] := con_rSets n (by omega) m.toNat [] m (by simp; omega) (by omega) (by simp)
    have cse : KC Try.prog 80 [.int .i64 n, .int .i64 m, .nilsl] (slRows false (setsS n m.toNat [])) [] := KC_le cse ⟨rfl, rfl, rfl, rfl⟩
    have hSl := hSl m.toNat (by omega)
    have hml : ∀ l ∈ setsS n m.toNat [], (l.length : Int) ≤ 8 := fun l hl => by
      have := setsS_mem_len hl
      simp only [List.length_nil] at this; omega
    rw [show (n - m).toNat = (n - (m + 1)).toNat + 1 from by omega, wrongFrom] at m3
    have nx : I.iop .add .i64 m 1 = m + 1 := by rw [hI]; exact wrap_i64 (by omega)
    generalize setsS n m.toNat [] = SS at *
    obtain ⟨rest, hrest⟩ : ∃ rest, rest = wrongFrom f n (n - (m + 1)).toNat (m + 1) := ⟨_, rfl⟩
    rw [← hrest] at m3
    obtain ⟨k, hk⟩ : ∃ k : Int, k = SS.length := ⟨_, rfl⟩
    (conv => cbv)
    refine C_call hI cse (by rw [hI, hn]; rfl) ?_
    (conv => cbv)
    refine W_loop hI seat [] (by kernel_rfl) (fun i : Int => (k - i).toNat) (fun i => ⟨49, [(1, .loc 0 0), (3, .int .i64 m), (4, slRows false SS), (5, .int .i64 i)], [(0, ⟨25, [slTrack false ts, slMeas false ms], true⟩)], [], 0⟩)
      (fun i s' => s' = s ∧ 0 ≤ i ∧ i ≤ k ∧ res = match (SS.drop i.toNat).find? f with | some s => s | none => rest) 0 (weak_k rfl rfl ⟨rfl, rfl, rfl, rfl, trivial⟩ ⟨rfl, trivial⟩ trivial) ⟨rfl, Int.le_refl _, by omega, m3⟩ ?_
    rintro i s' ⟨rfl, i1, i2, i3⟩ R2 hR2
    (conv => cbv)
    refine K_tst hI (fun hd => ?_) (fun hd => ?_) <;> simp only [primK, endK, iopR, icmpR, oknzR, KV.av, KV.avL, AV.d.injEq, AV.agg.injEq, AV.tup.injEq, D.int.injEq, D.bool.injEq, List.cons.injEq, plenN, List.map_nil, List.length_nil, Nat.add_zero, true_and, and_true, decide_eq_true_eq, decide_eq_false_iff_not, Bool.not_eq_true', Bool.not_eq_false', forall_const, true_implies, reduceCtorEq, false_implies, Int.ofNat_eq_natCast, noAggD, List.getD_cons_zero, List.getD_cons_succ, Int.ofNat_zero, hI] at hd
    · obtain ⟨f1, f2⟩ := drop_getD (d := []) i1 (by omega : i < (SS.length : Int))
      have ctr := ctr (SS.getD i.toNat []) (by have := hml _ f2; omega)
      have ni : I.iop .add .i64 i 1 = i + 1 := by rw [hI]; exact wrap_i64 (by omega)
      rw [f1, List.find?_cons] at i3
      obtain ⟨v, hv⟩ : ∃ v, v = f (SS.getD i.toNat []) := ⟨_, rfl⟩
      rw [← hv] at ctr i3
      (conv => cbv)
      refine K_conj hI (by rw [hI]; simp only [primK, endK, iopR, icmpR, oknzR, KV.av, KV.avL, AV.d.injEq, AV.agg.injEq, AV.tup.injEq, D.int.injEq, D.bool.injEq, List.cons.injEq, plenN, List.map_nil, List.length_nil, Nat.add_zero, true_and, and_true, decide_eq_true_eq, decide_eq_false_iff_not, Bool.not_eq_true', Bool.not_eq_false', forall_const, true_implies, reduceCtorEq, false_implies, Int.ofNat_eq_natCast, noAggD, List.getD_cons_zero, List.getD_cons_succ, Int.ofNat_zero]; omega) ?_
      refine C_call hI ctr (by rw [hI]; rfl) ?_
      (conv => cbv)
      refine K_tst hI (fun hz => ?_) (fun hz => ?_)
      · rw [hz] at i3
        simp only at i3
        refine K_conj hI (by rw [hI]; simp only [primK, endK, iopR, icmpR, oknzR, KV.av, KV.avL, AV.d.injEq, AV.agg.injEq, AV.tup.injEq, D.int.injEq, D.bool.injEq, List.cons.injEq, plenN, List.map_nil, List.length_nil, Nat.add_zero, true_and, and_true, decide_eq_true_eq, decide_eq_false_iff_not, Bool.not_eq_true', Bool.not_eq_false', forall_const, true_implies, reduceCtorEq, false_implies, Int.ofNat_eq_natCast, noAggD, List.getD_cons_zero, List.getD_cons_succ, Int.ofNat_zero]; omega) ?_
        (conv => cbv)
        rw [hI, i3]; exact ⟨rfl, rfl⟩
      · rw [hz] at i3
        simp only at i3
        exact hR2 _ _ (i + 1) (by omega) (weak_k rfl rfl ⟨rfl, rfl, rfl, av_int ni, trivial⟩ ⟨rfl, trivial⟩ trivial) ⟨rfl, by omega, by omega, i3⟩
    · rw [show SS.drop i.toNat = [] from List.drop_eq_nil_of_le (by omega), List.find?_nil] at i3
      simp only at i3
      (conv => cbv)
      exact hR _ _ (m + 1) (by omega) (weak_k rfl rfl ⟨rfl, av_int nx, trivial⟩ ⟨rfl, trivial⟩ trivial) ⟨by omega, by omega, by rw [i3, hrest]⟩
  · rw [show (n - m).toNat = 0 from by omega, wrongFrom] at m3
    (conv => cbv)
    refine W_loop hI seat [] (by kernel_rfl) (fun i : Nat => n.toNat - i) (fun i => ⟨49, [(1, .loc 0 0), (6, .osl 1), (7, .int .i64 i)], [(0, ⟨25, [slTrack false ts, slMeas false ms], true⟩)], [(1, ⟨3, 1, [.ls Int 0 (rangeI 0 i) eInt], true, true⟩)], 0⟩)
      (fun i s' => i ≤ n.toNat) 0 (weak_k rfl rfl ⟨rfl, rfl, rfl, trivial⟩ ⟨rfl, trivial⟩ ⟨rfl, trivial⟩) (by omega) ?_
    rintro a s' a1 R2 hR2
    obtain ⟨i, hi⟩ : ∃ i : Int, i = a := ⟨_, rfl⟩
    have hG := rangeI_snoc 0 a
    have hl := rangeI_len 0 a
    obtain ⟨L, hL⟩ : ∃ L, L = rangeI 0 a := ⟨_, rfl⟩
    rw [← hL] at hG hl
    rw [← hi, Int.zero_add] at hG
    simp only [← hi, ← hL]
    (conv => cbv)
    refine K_tst hI (fun hd => ?_) (fun hd => ?_) <;> simp only [primK, endK, iopR, icmpR, oknzR, KV.av, KV.avL, AV.d.injEq, AV.agg.injEq, AV.tup.injEq, D.int.injEq, D.bool.injEq, List.cons.injEq, plenN, List.map_nil, List.length_nil, Nat.add_zero, true_and, and_true, decide_eq_true_eq, decide_eq_false_iff_not, Bool.not_eq_true', Bool.not_eq_false', forall_const, true_implies, reduceCtorEq, false_implies, Int.ofNat_eq_natCast, noAggD, List.getD_cons_zero, List.getD_cons_succ, Int.ofNat_zero, hI] at hd
    · have ni : I.iop .add .i64 i 1 = ((a + 1 : Nat) : Int) := by rw [hI]; show IntKind.i64.wrap (i + 1) = _; rw [wrap_i64 (by omega)]; omega
      (conv => cbv)
      refine K_conj hI (by rw [hI]; show plenN _ * 8 ≤ _ ∧ plenN _ ≤ _; simp only [joinP, List.cons_append, List.nil_append, plenN, List.length_cons, List.length_nil]; omega) ?_
      exact hR2 _ _ (a + 1) (by omega) (weak_k rfl rfl ⟨rfl, rfl, av_int ni, trivial⟩ ⟨rfl, trivial⟩ ⟨by rw [hG]; exact rowI_snoc L i, trivial⟩) (by omega)
    · have : a = n.toNat := by omega
      subst this
      rw [← hL] at m3
      subst m3
      (conv => cbv)
      rw [hI]; refine ⟨?_, rfl⟩
      rfl
end Go.Proofs.Ytnekemldcjegaaa.Aw

/- Plain: the fewest measurings that must be wrong. -/
namespace Go.Proofs.Ytnekemldcjegaaa.Aw
open Go Go.RowKit Go.Proofs
set_option linter.unusedSimpArgs false
set_option linter.unusedVariables false

/-! The order of lists. -/
theorem cmpL_refl : ∀ a : List Int, cmpL a a = 0
  | [] => rfl
  | x :: r => by simp only [cmpL]; rw [if_neg (by omega), if_neg (by omega)]; exact cmpL_refl r
theorem cmpL_anti : ∀ {a b : List Int}, cmpL a b ≤ 0 → cmpL b a ≤ 0 → a = b
  | [], [], _, _ => rfl
  | [], y :: s, _, h => by simp [cmpL] at h
  | x :: r, [], h, _ => by simp [cmpL] at h
  | x :: r, y :: s, h1, h2 => by
    simp only [cmpL] at h1 h2
    by_cases a : x < y
    · rw [if_neg (by omega), if_pos (by omega)] at h2; omega
    · rw [if_neg a] at h1
      by_cases b : x > y
      · rw [if_pos b] at h1; omega
      · rw [if_neg b] at h1
        rw [if_neg (by omega), if_neg (by omega)] at h2
        rw [show x = y from by omega, cmpL_anti h1 h2]
theorem cmpL_trans : ∀ {a b c : List Int}, cmpL a b ≤ 0 → cmpL b c ≤ 0 → cmpL a c ≤ 0
  | [], _, [], _, _ => by simp [cmpL]
  | [], _, _ :: _, _, _ => by simp [cmpL]
  | x :: r, [], _, h, _ => by simp [cmpL] at h
  | x :: r, y :: s, [], _, h => by simp [cmpL] at h
  | x :: r, y :: s, z :: t, h1, h2 => by
    simp only [cmpL] at *
    by_cases a : x < y
    · by_cases b : y < z
      · rw [if_pos (by omega)]; omega
      · rw [if_neg b] at h2
        by_cases c : y > z
        · rw [if_pos c] at h2; omega
        · rw [if_pos (by omega)]; omega
    · rw [if_neg a] at h1
      by_cases b : x > y
      · rw [if_pos b] at h1; omega
      · rw [if_neg b] at h1
        by_cases c : y < z
        · rw [if_pos (by omega)]; omega
        · rw [if_neg c] at h2
          by_cases d : y > z
          · rw [if_pos d] at h2; omega
          · rw [if_neg d] at h2
            rw [if_neg (by omega), if_neg (by omega)]
            exact cmpL_trans h1 h2
theorem cmpL_flip : ∀ {a b : List Int}, cmpL a b > 0 → cmpL b a ≤ 0
  | [], [], h => by simp [cmpL] at h
  | [], y :: s, h => by simp [cmpL] at h
  | x :: r, [], h => by simp [cmpL]
  | x :: r, y :: s, h => by
    simp only [cmpL] at *
    by_cases a : x < y
    · rw [if_pos a] at h; omega
    · rw [if_neg a] at h
      by_cases b : x > y
      · rw [if_pos (by omega)]; omega
      · rw [if_neg b] at h
        rw [if_neg (by omega), if_neg (by omega)]
        exact cmpL_flip h
theorem cmpL_app : ∀ (b x y : List Int), cmpL (b ++ x) (b ++ y) = cmpL x y
  | [], _, _ => rfl
  | z :: b, x, y => by simp only [List.cons_append, cmpL]; rw [if_neg (by omega), if_neg (by omega)]; exact cmpL_app b x y
def leS (a b : List Int) : Prop := a.length < b.length ∨ (a.length = b.length ∧ cmpL a b ≤ 0)
theorem leS_anti {a b : List Int} (h1 : leS a b) (h2 : leS b a) : a = b := by
  unfold leS at *
  rcases h1 with h1 | ⟨h1, h3⟩ <;> rcases h2 with h2 | ⟨h2, h4⟩
  · omega
  · omega
  · omega
  · exact cmpL_anti h3 h4
theorem leS_trans {a b c : List Int} (h1 : leS a b) (h2 : leS b c) : leS a c := by
  unfold leS at *
  rcases h1 with h1 | ⟨h1, h3⟩ <;> rcases h2 with h2 | ⟨h2, h4⟩
  · left; omega
  · left; omega
  · left; omega
  · exact .inr ⟨by omega, cmpL_trans h3 h4⟩
theorem leS_refl (a : List Int) : leS a a := .inr ⟨rfl, by rw [cmpL_refl]; omega⟩
/-! Ascending sets of numbers below n. -/
def Asc (n : Int) (l : List Int) : Prop := l.Pairwise (· < ·) ∧ ∀ x ∈ l, 0 ≤ x ∧ x < n
theorem setN_asc (bits : Int) : ∀ n : Nat, Asc n (setN bits n)
  | 0 => ⟨by simp [setN], by simp [setN]⟩
  | n + 1 => by
    obtain ⟨h1, h2⟩ := setN_asc bits n
    simp only [setN]
    split
    · refine ⟨List.pairwise_append.2 ⟨h1, by simp, fun a ha b hb => ?_⟩, fun x hx => ?_⟩
      · simp at hb; have := h2 a ha; omega
      · rcases List.mem_append.1 hx with hx | hx
        · have := h2 x hx; omega
        · simp at hx; omega
    · rw [List.append_nil]
      exact ⟨h1, fun x hx => by have := h2 x hx; omega⟩
theorem setN_mem {bits : Int} : ∀ {n : Nat} {i : Int}, i ∈ setN bits n ↔ (0 ≤ i ∧ i < n) ∧ bitB bits i = true
  | 0, i => by simp only [setN, List.not_mem_nil, false_iff]; omega
  | n + 1, i => by
    simp only [setN, List.mem_append, setN_mem (n := n)]
    constructor
    · rintro (⟨h, hb⟩ | h)
      · exact ⟨by omega, hb⟩
      · split at h
        · rename_i hb
          simp at h; subst h; exact ⟨by omega, hb⟩
        · cases h
    · rintro ⟨h, hb⟩
      by_cases e : i = n
      · subst e; right; rw [if_pos hb]; simp
      · exact .inl ⟨by omega, hb⟩
theorem setN_congr {a b : Int} : ∀ {n : Nat}, (∀ i : Nat, i < n → bitB a i = bitB b i) → setN a n = setN b n
  | 0, _ => rfl
  | n + 1, h => by simp only [setN, setN_congr (n := n) (fun i hi => h i (by omega)), h n (by omega)]
theorem setN_surj : ∀ (n : Nat) (l : List Int), Asc n l → ∃ bits : Nat, bits < 2 ^ n ∧ setN bits n = l
  | 0, l, h => by
    cases l with
    | nil => exact ⟨0, by simp, rfl⟩
    | cons x q => have := h.2 x (by simp); omega
  | n + 1, l, h => by
    obtain ⟨hp, hm⟩ := h
    by_cases hn : (n : Int) ∈ l
    · rcases List.eq_nil_or_concat l with rfl | ⟨L, x, rfl⟩
      · cases hn
      · rw [List.concat_eq_append] at *
        obtain ⟨p1, p2, p3⟩ := List.pairwise_append.1 hp
        have hx : x = n := by
          rcases List.mem_append.1 hn with h | h
          · have h1 := p3 _ h x (by simp)
            have := hm x (by simp)
            omega
          · simp at h; omega
        subst hx
        obtain ⟨bits, b1, b2⟩ := setN_surj n L ⟨p1, fun y hy => by have := p3 y hy n (by simp); have := hm y (by simp [hy]); omega⟩
        refine ⟨bits ||| 2 ^ n, ?_, ?_⟩
        · exact Nat.or_lt_two_pow (by rw [Nat.pow_succ]; omega) (by rw [Nat.pow_succ]; have := Nat.two_pow_pos n; omega)
        · simp only [setN]
          rw [setN_congr (b := (bits : Int)) (fun i hi => ?_), b2, if_pos]
          · simp only [bitB, Int.toNat_natCast, Nat.testBit_or, Nat.testBit_two_pow]; simp
          · simp only [bitB, Int.toNat_natCast, Nat.testBit_or, Nat.testBit_two_pow]
            have : ¬ n = i := by omega
            simp [this]
    · obtain ⟨bits, b1, b2⟩ := setN_surj n l ⟨hp, fun y hy => by
        have := hm y hy
        have : y ≠ n := fun e => hn (e ▸ hy)
        omega⟩
      refine ⟨bits, by rw [Nat.pow_succ]; omega, ?_⟩
      simp only [setN, b2]
      rw [if_neg, List.append_nil]
      simp only [bitB, Int.toNat_natCast, Nat.testBit_lt_two_pow b1, Bool.false_eq_true, not_false_eq_true]
theorem mem_rangeI {i : Int} : ∀ {n : Nat} {a : Int}, i ∈ rangeI a n ↔ a ≤ i ∧ i < a + n
  | 0, a => by simp only [rangeI, List.not_mem_nil, false_iff]; omega
  | n + 1, a => by
    simp only [rangeI, List.mem_cons, mem_rangeI (n := n)]; omega
theorem rangeI_sorted : ∀ (n : Nat) (a : Int), (rangeI a n).Pairwise (· < ·)
  | 0, a => by simp [rangeI]
  | n + 1, a => by
    simp only [rangeI, List.pairwise_cons]
    exact ⟨fun x hx => by have := mem_rangeI.1 hx; omega, rangeI_sorted n (a + 1)⟩
theorem asc_len : ∀ (k : Nat) (a : Int) (l : List Int), l.Pairwise (· < ·) → (∀ x ∈ l, a ≤ x ∧ x < a + k) → l.length ≤ k
  | k, a, [], _, _ => Nat.zero_le _
  | 0, a, x :: l, _, h => by have := h x (by simp); omega
  | k + 1, a, x :: l, hp, h => by
    rw [List.pairwise_cons] at hp
    have := asc_len k (a + 1) l hp.2 (fun y hy => by have := hp.1 y hy; have := h x (by simp); have := h y (by simp [hy]); omega)
    simp only [List.length_cons]; omega
theorem asc_full : ∀ (k : Nat) (a : Int) (l : List Int), l.Pairwise (· < ·) → (∀ x ∈ l, a ≤ x ∧ x < a + k) → l.length = k → l = rangeI a k
  | 0, a, l, _, _, h => List.eq_nil_of_length_eq_zero h
  | k + 1, a, [], _, _, h => by simp at h
  | k + 1, a, x :: l, hp, h, hl => by
    rw [List.pairwise_cons] at hp
    have hin : ∀ y ∈ l, a + 1 ≤ y ∧ y < a + 1 + k := fun y hy => by have := hp.1 y hy; have := h x (by simp); have := h y (by simp [hy]); omega
    have := asc_full k (a + 1) l hp.2 hin (by simpa using hl)
    have hx : x = a := by
      cases hk : l with
      | nil => have := h x (by simp); rw [hk] at hl; simp at hl; omega
      | cons y q =>
        have h1 := hp.1 y (by rw [hk]; simp)
        have h2 := h x (by simp)
        rw [this] at hk
        cases k with
        | zero => simp [rangeI] at hk
        | succ k => simp only [rangeI, List.cons.injEq] at hk; omega
    rw [this, hx]; rfl
theorem setsS_mem {n : Int} : ∀ {k : Nat} {b l : List Int}, 0 ≤ nextI b → (l ∈ setsS n k b ↔ ∃ e : List Int, l = b ++ e ∧ e.length = k ∧ e.Pairwise (· < ·) ∧ ∀ x ∈ e, nextI b ≤ x ∧ x < n)
  | 0, b, l, _ => by
    simp only [setsS, List.mem_singleton]
    constructor
    · rintro rfl; exact ⟨[], by simp⟩
    · rintro ⟨e, h1, h2, _⟩
      have := List.eq_nil_of_length_eq_zero h2
      subst this; simpa using h1
  | k + 1, b, l, h0 => by
    simp only [setsS, List.mem_flatMap, mem_rangeI]
    constructor
    · rintro ⟨i, hi, h⟩
      obtain ⟨e, e1, e2, e3, e4⟩ := (setsS_mem (by rw [nextI_snoc]; omega)).1 h
      rw [nextI_snoc] at e4
      refine ⟨i :: e, by rw [e1, List.append_assoc]; rfl, by simp [e2], List.pairwise_cons.2 ⟨fun x hx => by have := e4 x hx; omega, e3⟩, fun x hx => ?_⟩
      rcases List.mem_cons.1 hx with rfl | hx
      · omega
      · have := e4 x hx; omega
    · rintro ⟨e, e1, e2, e3, e4⟩
      cases e with
      | nil => simp at e2
      | cons i e =>
        rw [List.pairwise_cons] at e3
        have hi := e4 i (by simp)
        refine ⟨i, by omega, (setsS_mem (by rw [nextI_snoc]; omega)).2 ⟨e, by rw [e1, List.append_assoc]; rfl, by simpa using e2, e3.2, fun x hx => ?_⟩⟩
        rw [nextI_snoc]
        have := e3.1 x hx; have := e4 x (by simp [hx]); omega
theorem setsS_sorted {n : Int} : ∀ (k : Nat) (b : List Int), 0 ≤ nextI b → (setsS n k b).Pairwise (fun x y => cmpL x y ≤ 0)
  | 0, b, _ => by simp [setsS]
  | k + 1, b, h0 => by
    simp only [setsS]
    rw [List.pairwise_flatMap]
    refine ⟨fun i hi => setsS_sorted k _ (by rw [nextI_snoc]; have := mem_rangeI.1 hi; omega), ?_⟩
    refine (List.pairwise_iff_forall_sublist.2 ?_)
    intro i j hs x hx y hy
    have hlt : i < j := (List.pairwise_iff_forall_sublist.1 (rangeI_sorted _ _)) hs
    have hi := mem_rangeI.1 (hs.subset (by simp : i ∈ [i, j]))
    obtain ⟨e, e1, _⟩ := (setsS_mem (by rw [nextI_snoc]; omega)).1 hx
    obtain ⟨g, g1, _⟩ := (setsS_mem (by rw [nextI_snoc]; omega)).1 hy
    rw [e1, g1, List.append_assoc, List.append_assoc, cmpL_app]
    simp only [List.singleton_append, cmpL]
    rw [if_pos hlt]; omega
theorem find_first {f : List Int → Bool} : ∀ {l : List (List Int)} {s : List Int}, l.Pairwise (fun x y => cmpL x y ≤ 0) → l.find? f = some s → f s = true ∧ s ∈ l ∧ ∀ t ∈ l, f t = true → cmpL s t ≤ 0
  | [], s, _, h => by simp at h
  | a :: l, s, hp, h => by
    rw [List.pairwise_cons] at hp
    rw [List.find?_cons] at h
    cases hf : f a with
    | true =>
      rw [hf] at h
      simp only [Option.some.injEq] at h
      subst h
      refine ⟨hf, by simp, fun t ht _ => ?_⟩
      rcases List.mem_cons.1 ht with rfl | ht
      · rw [cmpL_refl]; omega
      · exact hp.1 t ht
    | false =>
      rw [hf] at h
      obtain ⟨h1, h2, h3⟩ := find_first hp.2 h
      refine ⟨h1, by simp [h2], fun t ht hft => ?_⟩
      rcases List.mem_cons.1 ht with rfl | ht
      · rw [hf] at hft; cases hft
      · exact h3 t ht hft
/-- The least set of m numbers or more for which it is so. -/
def IsMin (f : List Int → Bool) (n : Int) (m : Nat) (s : List Int) : Prop := Asc n s ∧ f s = true ∧ ∀ t, Asc n t → m ≤ t.length → f t = true → leS s t
theorem wrongFrom_min {f : List Int → Bool} {n : Nat} (hfull : f (rangeI 0 n) = true) : ∀ (k m : Nat), m + k = n → IsMin f n m (wrongFrom f n k m)
  | 0, m, h => by
    simp only [wrongFrom, Int.toNat_natCast]
    refine ⟨⟨rangeI_sorted _ _, fun x hx => by have := mem_rangeI.1 hx; omega⟩, hfull, fun t ht hl _ => ?_⟩
    have h1 := asc_len n 0 t ht.1 (fun x hx => by have := ht.2 x hx; omega)
    have := asc_full n 0 t ht.1 (fun x hx => by have := ht.2 x hx; omega) (by omega)
    rw [this]; exact leS_refl _
  | k + 1, m, h => by
    simp only [wrongFrom, Int.toNat_natCast]
    have hmem : ∀ t, Asc n t → t.length = m → t ∈ setsS n m [] := fun t ht hl => (setsS_mem (by simp [nextI])).2 ⟨t, by simp, hl, ht.1, fun x hx => by have := ht.2 x hx; simp [nextI]; omega⟩
    split
    · rename_i s hs
      obtain ⟨h1, h2, h3⟩ := find_first (setsS_sorted m [] (by simp [nextI])) hs
      obtain ⟨e, e1, e2, e3, e4⟩ := (setsS_mem (by simp [nextI])).1 h2
      rw [List.nil_append] at e1
      subst e1
      refine ⟨⟨e3, fun x hx => by have := e4 x hx; simp [nextI] at this; omega⟩, h1, fun t ht hl hft => ?_⟩
      by_cases hm : t.length = m
      · exact .inr ⟨by omega, h3 t (hmem t ht hm) hft⟩
      · exact .inl (by omega)
    · rename_i hs
      have hs := List.find?_eq_none.1 hs
      obtain ⟨h1, h2, h3⟩ := wrongFrom_min hfull k (m + 1) (by omega)
      have e : ((m + 1 : Nat) : Int) = (m : Int) + 1 := by omega
      rw [e] at h1 h2 h3
      refine ⟨h1, h2, fun t ht hl hft => ?_⟩
      by_cases hm : t.length = m
      · exact absurd hft (hs t (hmem t ht hm))
      · exact h3 t ht (by omega) hft
theorem skip_eq {ts : List Track} {ms : List Meas} {bits : Int} (hck : check ts ms = 0) : isTrueB ts ms (bitB bits) = rTrueB ts ms (fun i => (setN bits ms.length).contains i) := by
  rw [← isTrue_eq hck]
  refine isTrueB_congr (fun j h0 h1 => ?_)
  rw [Bool.eq_iff_iff, List.contains_iff_mem, setN_mem]
  exact ⟨fun h => ⟨⟨h0, h1⟩, h⟩, fun h => h.2⟩
theorem wrongTo_min {ts : List Track} {ms : List Meas} (hck : check ts ms = 0) : ∀ N : Nat,
    match wrongTo ts ms N with
    | none => ∀ j : Nat, j < N → isTrueB ts ms (bitB j) = false
    | some s => (∃ j : Nat, j < N ∧ s = setN j ms.length ∧ isTrueB ts ms (bitB j) = true) ∧ ∀ j : Nat, j < N → isTrueB ts ms (bitB j) = true → leS s (setN j ms.length)
  | 0 => by simp [wrongTo]
  | N + 1 => by
    have ih := wrongTo_min hck N
    simp only [wrongTo]
    cases hw : wrongTo ts ms N with
    | none =>
      rw [hw] at ih
      simp only at ih
      simp only [stepW]
      by_cases ht : isTrueB ts ms (bitB N) = true
      · rw [if_pos ht]
        refine ⟨⟨N, by omega, rfl, ht⟩, fun j hj hjt => ?_⟩
        by_cases e : j = N
        · subst e; exact leS_refl _
        · rw [ih j (by omega)] at hjt; cases hjt
      · rw [if_neg ht]
        intro j hj
        by_cases e : j = N
        · subst e; simpa using ht
        · exact ih j (by omega)
    | some b =>
      rw [hw] at ih
      simp only at ih
      obtain ⟨⟨j0, k1, k2, k3⟩, k4⟩ := ih
      simp only [stepW]
      by_cases hc : (setN N ms.length).length > b.length ∨ ((setN N ms.length).length = b.length ∧ cmpL (setN N ms.length) b > 0)
      · rw [if_pos hc]
        refine ⟨⟨j0, by omega, k2, k3⟩, fun j hj hjt => ?_⟩
        by_cases e : j = N
        · subst e
          rcases hc with hc | ⟨hc, hd⟩
          · exact .inl hc
          · exact .inr ⟨hc.symm, cmpL_flip hd⟩
        · exact k4 j (by omega) hjt
      · rw [if_neg hc]
        have hle : leS (setN N ms.length) b := by
          unfold leS
          by_cases h1 : (setN N ms.length).length < b.length
          · exact .inl h1
          · exact .inr ⟨by omega, by
              have : ¬ cmpL (setN N ms.length) b > 0 := fun h => hc (.inr ⟨by omega, h⟩)
              omega⟩
        by_cases ht : isTrueB ts ms (bitB N) = true
        · rw [if_pos ht]
          refine ⟨⟨N, by omega, rfl, ht⟩, fun j hj hjt => ?_⟩
          by_cases e : j = N
          · subst e; exact leS_refl _
          · exact leS_trans hle (k4 j (by omega) hjt)
        · rw [if_neg ht]
          refine ⟨⟨j0, by omega, k2, k3⟩, fun j hj hjt => ?_⟩
          by_cases e : j = N
          · subst e; exact absurd hjt ht
          · exact k4 j (by omega) hjt
theorem okL_skip {w : Int} {has : Int → Bool} {x r : Int} : ∀ {ms : List Meas} {i : Int} {ok : Bool}, (∀ j : Int, i ≤ j → j < i + ms.length → has j = true) → okL w has x r ms i ok = ok
  | [], i, ok, _ => rfl
  | m :: q, i, ok, h => by
    simp only [okL]
    rw [if_neg (fun hh => by have := h i (Int.le_refl _) (by simp only [List.length_cons]; omega); rw [this] at hh; cases hh.2)]
    exact okL_skip (fun j h1 h2 => h j (by omega) (by simp only [List.length_cons]; omega))
theorem full_true {ts : List Track} {ms : List Meas} (hck : check ts ms = 0) : rTrueB ts ms (fun i => (rangeI 0 ms.length).contains i) = true := by
  obtain ⟨g1, g2, g3, g4⟩ := check_zero hck
  have key : ∀ w : Int, 0 ≤ w → w ≤ 2 → hasTru (truW ts ms (fun i => (rangeI 0 ms.length).contains i) w) = true := fun w h0 h1 => by
    have ht := getD_ok g1 g2 h0 h1
    obtain ⟨t1, t2, t3, t4, t5, t6⟩ := ht
    have hm : (⟨(ts.getD w.toNat track0).first.low, (ts.getD w.toNat track0).rate.low⟩ : Tru) ∈ truW ts ms (fun i => (rangeI 0 ms.length).contains i) w := by
      unfold truW truT
      rw [mem_truX]
      refine ⟨⟨Int.le_refl _, by simp only; omega⟩, ⟨Int.le_refl _, by simp only; omega⟩, okL_skip (fun j h1 h2 => ?_)⟩
      rw [List.contains_iff_mem, mem_rangeI]; omega
    have := List.length_pos_of_mem hm
    simp only [hasTru, decide_eq_true_eq]; omega
  unfold rTrueB
  rw [key 0 (by omega) (by omega), key 1 (by omega) (by omega), key 2 (by omega) (by omega)]; rfl
theorem wrong_eq {ts : List Track} {ms : List Meas} (hck : check ts ms = 0) : wrongTo ts ms (2 ^ ms.length) = some (rWrongL ts ms) := by
  have hr := wrongFrom_min (f := fun s => rTrueB ts ms (fun i => s.contains i)) (n := ms.length) (full_true hck) ms.length 0 (by omega)
  obtain ⟨r1, r2, r3⟩ := (hr : IsMin _ _ _ (rWrongL ts ms))
  have hw := wrongTo_min hck (2 ^ ms.length)
  obtain ⟨j0, b1, b2⟩ := setN_surj ms.length (rWrongL ts ms) r1
  have hj0 : isTrueB ts ms (bitB j0) = true := by rw [skip_eq hck, b2]; exact r2
  cases hh : wrongTo ts ms (2 ^ ms.length) with
  | none =>
    rw [hh] at hw
    have := hw j0 b1
    rw [hj0] at this; cases this
  | some s =>
    rw [hh] at hw
    obtain ⟨⟨j, k1, k2, k3⟩, k4⟩ := hw
    have h1 : leS s (rWrongL ts ms) := by rw [← b2]; exact k4 j0 b1 hj0
    have h2 : leS (rWrongL ts ms) s := r3 s (by rw [k2]; exact setN_asc _ _) (Nat.zero_le _) (by rw [k2]; show rTrueB ts ms (fun i => (setN j ms.length).contains i) = true; rw [← skip_eq hck]; exact k3)
    rw [leS_anti h1 h2]
end Go.Proofs.Ytnekemldcjegaaa.Aw

/- Contracts of the law: ClothWrongs. -/
namespace Go.Proofs.Ytnekemldcjegaaa.Aw
open Go Go.RowKit Go.Proofs
set_option maxRecDepth 100000
set_option maxHeartbeats 4000000
set_option linter.unusedSimpArgs false
set_option linter.unusedVariables false

theorem con_ClothWrongs (ts : List Track) (ms : List Meas) (hm : ∀ m ∈ ms, i64ok m.what) : KC Try.prog 6 [kCloth ts ms] .tt [] := by
  have ckn := con_known
  have clg := con_large ts ms
  by_cases hL : largeB ts ms = true
  · rw [hL] at clg
    have clg : KC Try.prog 17 [kCloth ts ms] .tt [] := clg
    (refine con_k [] [] seat Try.func6 rfl ent_6 (by kernel_rfl) rfl rfl (by simp) ?_; intro base I hI; conv => cbv)
    repeat (first
      | (refine C_call hI clg rfl ?_; try (conv => cbv))
      | (refine C_call hI ckn rfl ?_; try (conv => cbv))
      | (refine K_tst hI (fun hz => ?_) (fun hz => ?_); focus (exfalso; first | (revert hz; rw [hI]; simp [primK, icmpR]; done) | (simp only [hI, bne_iff_ne, ne_eq, beq_iff_eq, beq_eq_false_iff_ne, bne_eq_false_iff_eq, primK, endK, iopR, icmpR, oknzR, KV.av, KV.avL, AV.d.injEq, AV.agg.injEq, AV.tup.injEq, D.int.injEq, D.bool.injEq, List.cons.injEq, plenN, List.map_nil, List.length_nil, Nat.add_zero, true_and, and_true, decide_eq_true_eq, decide_eq_false_iff_not, Bool.not_eq_true', Bool.not_eq_false', forall_const, true_implies, reduceCtorEq, false_implies, Int.ofNat_eq_natCast, noAggD, List.getD_cons_zero, List.getD_cons_succ, Int.ofNat_zero] at hz <;> omega)); try (conv => cbv))
      | (refine K_tst hI (fun hz => ?_) (fun hz => ?_); rotate_left; focus (exfalso; first | (revert hz; rw [hI]; simp [primK, icmpR]; done) | (simp only [hI, bne_iff_ne, ne_eq, beq_iff_eq, beq_eq_false_iff_ne, bne_eq_false_iff_eq, primK, endK, iopR, icmpR, oknzR, KV.av, KV.avL, AV.d.injEq, AV.agg.injEq, AV.tup.injEq, D.int.injEq, D.bool.injEq, List.cons.injEq, plenN, List.map_nil, List.length_nil, Nat.add_zero, true_and, and_true, decide_eq_true_eq, decide_eq_false_iff_not, Bool.not_eq_true', Bool.not_eq_false', forall_const, true_implies, reduceCtorEq, false_implies, Int.ofNat_eq_natCast, noAggD, List.getD_cons_zero, List.getD_cons_succ, Int.ofNat_zero] at hz <;> omega)); try (conv => cbv))
      | (refine K_conj hI ?_ ?_; focus (rw [hI]; first | (simp only [primK, endK, iopR, icmpR, oknzR, KV.av, KV.avL, AV.d.injEq, AV.agg.injEq, AV.tup.injEq, D.int.injEq, D.bool.injEq, List.cons.injEq, plenN, List.map_nil, List.length_nil, Nat.add_zero, true_and, and_true, decide_eq_true_eq, decide_eq_false_iff_not, Bool.not_eq_true', Bool.not_eq_false', forall_const, true_implies, reduceCtorEq, false_implies, Int.ofNat_eq_natCast, noAggD, List.getD_cons_zero, List.getD_cons_succ, Int.ofNat_zero]; omega) | (show plenN _ * _ ≤ _ ∧ plenN _ ≤ _; simp only [joinP, List.cons_append, List.nil_append, plenN, List.length_cons, List.length_nil, List.length_append]; omega)); try (conv => cbv))
      | (rw [hI]; exact ⟨rfl, rfl⟩))
  have hL : largeB ts ms = false := by simpa using hL
  rw [hL] at clg
  have clg : KC Try.prog 17 [kCloth ts ms] .ff [] := clg
  obtain ⟨l1, l2, hin⟩ := small_in hL hm
  have ccp := con_rCopy ts ms (by omega) (by omega)
  have cwr := con_Wrong ts ms hin
  have csm : KC Try.prog 23 [kCloth ts ms, kCloth ts ms] .tt [] := con_rSame ts ms hin.1 hin.2.1
  have crk := con_rCheck ts ms
  by_cases hck : check ts ms = 0
  · rw [hck] at crk
    have crk : KC Try.prog 24 [kCloth ts ms] (.lit .i64 0) [] := crk
    have ctr := con_rTrue_nil ts ms hck
    rw [wrongRes, if_neg (by simp [hck]), isTrue_eq hck] at cwr
    by_cases ht : rTrueB ts ms noSkip = true
    · rw [ht] at ctr
      have ctr : KC Try.prog 37 [kCloth ts ms, .nilsl] .tt [] := ctr
      rw [if_pos ht] at cwr
      have cwr : KC Try.prog 36 [kCloth ts ms] (.tup [.nilsl, .lit .i64 6]) [] := cwr
      (refine con_k [] [] seat Try.func6 rfl ent_6 (by kernel_rfl) rfl rfl (by simp) ?_; intro base I hI; conv => cbv)
      repeat (first
        | (refine C_call hI clg rfl ?_; try (conv => cbv))
        | (refine C_call hI ckn rfl ?_; try (conv => cbv))
        | (refine C_call hI ccp rfl ?_; try (conv => cbv))
        | (refine C_call hI cwr rfl ?_; try (conv => cbv))
        | (refine C_call hI csm rfl ?_; try (conv => cbv))
        | (refine C_call hI crk rfl ?_; try (conv => cbv))
        | (refine C_call hI ctr rfl ?_; try (conv => cbv))
        | (refine K_tst hI (fun hz => ?_) (fun hz => ?_); focus (exfalso; first | (revert hz; rw [hI]; simp [primK, icmpR]; done) | (simp only [hI, bne_iff_ne, ne_eq, beq_iff_eq, beq_eq_false_iff_ne, bne_eq_false_iff_eq, primK, endK, iopR, icmpR, oknzR, KV.av, KV.avL, AV.d.injEq, AV.agg.injEq, AV.tup.injEq, D.int.injEq, D.bool.injEq, List.cons.injEq, plenN, List.map_nil, List.length_nil, Nat.add_zero, true_and, and_true, decide_eq_true_eq, decide_eq_false_iff_not, Bool.not_eq_true', Bool.not_eq_false', forall_const, true_implies, reduceCtorEq, false_implies, Int.ofNat_eq_natCast, noAggD, List.getD_cons_zero, List.getD_cons_succ, Int.ofNat_zero] at hz <;> omega)); try (conv => cbv))
        | (refine K_tst hI (fun hz => ?_) (fun hz => ?_); rotate_left; focus (exfalso; first | (revert hz; rw [hI]; simp [primK, icmpR]; done) | (simp only [hI, bne_iff_ne, ne_eq, beq_iff_eq, beq_eq_false_iff_ne, bne_eq_false_iff_eq, primK, endK, iopR, icmpR, oknzR, KV.av, KV.avL, AV.d.injEq, AV.agg.injEq, AV.tup.injEq, D.int.injEq, D.bool.injEq, List.cons.injEq, plenN, List.map_nil, List.length_nil, Nat.add_zero, true_and, and_true, decide_eq_true_eq, decide_eq_false_iff_not, Bool.not_eq_true', Bool.not_eq_false', forall_const, true_implies, reduceCtorEq, false_implies, Int.ofNat_eq_natCast, noAggD, List.getD_cons_zero, List.getD_cons_succ, Int.ofNat_zero] at hz <;> omega)); try (conv => cbv))
        | (refine K_conj hI ?_ ?_; focus (rw [hI]; first | (simp only [primK, endK, iopR, icmpR, oknzR, KV.av, KV.avL, AV.d.injEq, AV.agg.injEq, AV.tup.injEq, D.int.injEq, D.bool.injEq, List.cons.injEq, plenN, List.map_nil, List.length_nil, Nat.add_zero, true_and, and_true, decide_eq_true_eq, decide_eq_false_iff_not, Bool.not_eq_true', Bool.not_eq_false', forall_const, true_implies, reduceCtorEq, false_implies, Int.ofNat_eq_natCast, noAggD, List.getD_cons_zero, List.getD_cons_succ, Int.ofNat_zero]; omega) | (show plenN _ * _ ≤ _ ∧ plenN _ ≤ _; simp only [joinP, List.cons_append, List.nil_append, plenN, List.length_cons, List.length_nil, List.length_append]; omega)); try (conv => cbv))
        | (rw [hI]; exact ⟨rfl, rfl⟩))
    · rw [if_neg ht, wrong_eq hck] at cwr
      have ht : rTrueB ts ms noSkip = false := by simpa using ht
      rw [ht] at ctr
      have ctr : KC Try.prog 37 [kCloth ts ms, .nilsl] .ff [] := ctr
      have crw := con_rWrong ts ms hck
      have hlen : (rWrongL ts ms).length ≤ ms.length := by
        obtain ⟨h1, _⟩ := wrongFrom_min (f := fun s => rTrueB ts ms (fun i => s.contains i)) (n := ms.length) (full_true hck) ms.length 0 (by omega)
        exact asc_len ms.length 0 _ h1.1 (fun x hx => by have := h1.2 x hx; omega)
      generalize rWrongL ts ms = G at *
      have cwr : KC Try.prog 36 [kCloth ts ms] (.tup [slInt false G, .lit .i64 0]) [] := cwr
      have ci := con_rInts G G (by omega)
      rw [eqL_refl intEq_refl] at ci
      have ci : KC Try.prog 38 [slInt false G, slInt false G] .tt [] := ci
      (refine con_k [] [] seat Try.func6 rfl ent_6 (by kernel_rfl) rfl rfl (by simp) ?_; intro base I hI; conv => cbv)
      repeat (first
        | (refine C_call hI clg rfl ?_; try (conv => cbv))
        | (refine C_call hI ckn rfl ?_; try (conv => cbv))
        | (refine C_call hI ccp rfl ?_; try (conv => cbv))
        | (refine C_call hI cwr rfl ?_; try (conv => cbv))
        | (refine C_call hI csm rfl ?_; try (conv => cbv))
        | (refine C_call hI crk rfl ?_; try (conv => cbv))
        | (refine C_call hI ctr rfl ?_; try (conv => cbv))
        | (refine C_call hI crw rfl ?_; try (conv => cbv))
        | (refine C_call hI ci rfl ?_; try (conv => cbv))
        | (refine K_tst hI (fun hz => ?_) (fun hz => ?_); focus (exfalso; first | (revert hz; rw [hI]; simp [primK, icmpR]; done) | (simp only [hI, bne_iff_ne, ne_eq, beq_iff_eq, beq_eq_false_iff_ne, bne_eq_false_iff_eq, primK, endK, iopR, icmpR, oknzR, KV.av, KV.avL, AV.d.injEq, AV.agg.injEq, AV.tup.injEq, D.int.injEq, D.bool.injEq, List.cons.injEq, plenN, List.map_nil, List.length_nil, Nat.add_zero, true_and, and_true, decide_eq_true_eq, decide_eq_false_iff_not, Bool.not_eq_true', Bool.not_eq_false', forall_const, true_implies, reduceCtorEq, false_implies, Int.ofNat_eq_natCast, noAggD, List.getD_cons_zero, List.getD_cons_succ, Int.ofNat_zero] at hz <;> omega)); try (conv => cbv))
        | (refine K_tst hI (fun hz => ?_) (fun hz => ?_); rotate_left; focus (exfalso; first | (revert hz; rw [hI]; simp [primK, icmpR]; done) | (simp only [hI, bne_iff_ne, ne_eq, beq_iff_eq, beq_eq_false_iff_ne, bne_eq_false_iff_eq, primK, endK, iopR, icmpR, oknzR, KV.av, KV.avL, AV.d.injEq, AV.agg.injEq, AV.tup.injEq, D.int.injEq, D.bool.injEq, List.cons.injEq, plenN, List.map_nil, List.length_nil, Nat.add_zero, true_and, and_true, decide_eq_true_eq, decide_eq_false_iff_not, Bool.not_eq_true', Bool.not_eq_false', forall_const, true_implies, reduceCtorEq, false_implies, Int.ofNat_eq_natCast, noAggD, List.getD_cons_zero, List.getD_cons_succ, Int.ofNat_zero] at hz <;> omega)); try (conv => cbv))
        | (refine K_conj hI ?_ ?_; focus (rw [hI]; first | (simp only [primK, endK, iopR, icmpR, oknzR, KV.av, KV.avL, AV.d.injEq, AV.agg.injEq, AV.tup.injEq, D.int.injEq, D.bool.injEq, List.cons.injEq, plenN, List.map_nil, List.length_nil, Nat.add_zero, true_and, and_true, decide_eq_true_eq, decide_eq_false_iff_not, Bool.not_eq_true', Bool.not_eq_false', forall_const, true_implies, reduceCtorEq, false_implies, Int.ofNat_eq_natCast, noAggD, List.getD_cons_zero, List.getD_cons_succ, Int.ofNat_zero]; omega) | (show plenN _ * _ ≤ _ ∧ plenN _ ≤ _; simp only [joinP, List.cons_append, List.nil_append, plenN, List.length_cons, List.length_nil, List.length_append]; omega)); try (conv => cbv))
        | (rw [hI]; exact ⟨rfl, rfl⟩))
  · rw [wrongRes, if_pos hck] at cwr
    generalize check ts ms = d at *
    have cwr : KC Try.prog 36 [kCloth ts ms] (.tup [.nilsl, .int .i64 d]) [] := cwr
    (refine con_k [] [] seat Try.func6 rfl ent_6 (by kernel_rfl) rfl rfl (by simp) ?_; intro base I hI; conv => cbv)
    repeat (first
      | (refine C_call hI clg rfl ?_; try (conv => cbv))
      | (refine C_call hI ckn rfl ?_; try (conv => cbv))
      | (refine C_call hI ccp rfl ?_; try (conv => cbv))
      | (refine C_call hI cwr rfl ?_; try (conv => cbv))
      | (refine C_call hI csm rfl ?_; try (conv => cbv))
      | (refine C_call hI crk rfl ?_; try (conv => cbv))
      | (refine K_tst hI (fun hz => ?_) (fun hz => ?_); focus (exfalso; first | (revert hz; rw [hI]; simp [primK, icmpR, hck]; done) | (simp only [hI, bne_iff_ne, ne_eq, beq_iff_eq, beq_eq_false_iff_ne, bne_eq_false_iff_eq, primK, endK, iopR, icmpR, oknzR, KV.av, KV.avL, AV.d.injEq, AV.agg.injEq, AV.tup.injEq, D.int.injEq, D.bool.injEq, List.cons.injEq, plenN, List.map_nil, List.length_nil, Nat.add_zero, true_and, and_true, decide_eq_true_eq, decide_eq_false_iff_not, Bool.not_eq_true', Bool.not_eq_false', forall_const, true_implies, reduceCtorEq, false_implies, Int.ofNat_eq_natCast, noAggD, List.getD_cons_zero, List.getD_cons_succ, Int.ofNat_zero] at hz <;> omega)); try (conv => cbv))
      | (refine K_tst hI (fun hz => ?_) (fun hz => ?_); rotate_left; focus (exfalso; first | (revert hz; rw [hI]; simp [primK, icmpR, hck]; done) | (simp only [hI, bne_iff_ne, ne_eq, beq_iff_eq, beq_eq_false_iff_ne, bne_eq_false_iff_eq, primK, endK, iopR, icmpR, oknzR, KV.av, KV.avL, AV.d.injEq, AV.agg.injEq, AV.tup.injEq, D.int.injEq, D.bool.injEq, List.cons.injEq, plenN, List.map_nil, List.length_nil, Nat.add_zero, true_and, and_true, decide_eq_true_eq, decide_eq_false_iff_not, Bool.not_eq_true', Bool.not_eq_false', forall_const, true_implies, reduceCtorEq, false_implies, Int.ofNat_eq_natCast, noAggD, List.getD_cons_zero, List.getD_cons_succ, Int.ofNat_zero] at hz <;> omega)); try (conv => cbv))
      | (refine K_conj hI ?_ ?_; focus (rw [hI]; first | (simp only [primK, endK, iopR, icmpR, oknzR, KV.av, KV.avL, AV.d.injEq, AV.agg.injEq, AV.tup.injEq, D.int.injEq, D.bool.injEq, List.cons.injEq, plenN, List.map_nil, List.length_nil, Nat.add_zero, true_and, and_true, decide_eq_true_eq, decide_eq_false_iff_not, Bool.not_eq_true', Bool.not_eq_false', forall_const, true_implies, reduceCtorEq, false_implies, Int.ofNat_eq_natCast, noAggD, List.getD_cons_zero, List.getD_cons_succ, Int.ofNat_zero]; omega) | (show plenN _ * _ ≤ _ ∧ plenN _ ≤ _; simp only [joinP, List.cons_append, List.nil_append, plenN, List.length_cons, List.length_nil, List.length_append]; omega)); try (conv => cbv))
      | (rw [hI]; exact ⟨rfl, rfl⟩))
end Go.Proofs.Ytnekemldcjegaaa.Aw

/- What comes in, for chapter 1: cloths, measurings, spans, read as data. -/
namespace Go.Proofs.Ytnekemldcjegaaa.Aw
open Go Go.RowKit Go.Proofs
set_option maxRecDepth 100000
set_option linter.unusedSimpArgs false
set_option linter.unusedVariables false

theorem Try.own : ownKnob Try.prog.godebug = none := by kernel_rfl
theorem Try.laidOut : laidOutB Try.prog = true := by kernel_rfl
def okI (n : Int) : Prop := -9223372036854775808 ≤ n ∧ n ≤ 9223372036854775807
theorem rows_of {α : Type} {g : α → List D} {p : α → Prop} : ∀ {rows : List (List D)}, (∀ row ∈ rows, ∃ a, row = g a ∧ p a) → ∃ l : List α, rows = l.map g ∧ ∀ a ∈ l, p a
  | [], _ => ⟨[], rfl, fun a h => by cases h⟩
  | row :: r, h => by
    obtain ⟨a, e, hp⟩ := h row (by simp)
    obtain ⟨l, e2, hl⟩ := rows_of (g := g) (p := p) (rows := r) (fun x hx => h x (List.mem_cons_of_mem _ hx))
    refine ⟨a :: l, by rw [e, e2]; rfl, fun b hb => ?_⟩
    rcases List.mem_cons.1 hb with rfl | hb
    · exact hp
    · exact hl b hb
def shI : Sh := .int .i64
def shSpan : Sh := .agg [shI, shI]
def shTrack : Sh := .agg [shSpan, shSpan]
def shMeas : Sh := .agg [shI, shI, shI, shI]
def shCloth : Sh := .agg [.sl shTrack, .sl shMeas]
theorem fit_I {xs : List D} (h : shI.Fit xs) : ∃ n, xs = [.int .i64 n] ∧ okI n := by
  unfold shI Sh.Fit at h
  obtain ⟨n, rfl, h1, h2⟩ := h
  exact ⟨n, rfl, h1, h2⟩
theorem fit_span {xs : List D} (h : shSpan.Fit xs) : ∃ s : Span, xs = [.int .i64 s.low, .int .i64 s.high] ∧ okI s.low ∧ okI s.high := by
  unfold shSpan Sh.Fit at h
  simp only [Sh.FitL] at h
  obtain ⟨a, b, rfl, ha, c, d, rfl, hc, rfl⟩ := h
  obtain ⟨x, rfl, hx⟩ := fit_I ha
  obtain ⟨y, rfl, hy⟩ := fit_I hc
  exact ⟨⟨x, y⟩, rfl, hx, hy⟩
theorem fit_track {xs : List D} (h : shTrack.Fit xs) : ∃ t : Track, xs = rowD 4 0 (fun j => (eTrack t j).toD) ∧ True := by
  unfold shTrack Sh.Fit at h
  simp only [Sh.FitL] at h
  obtain ⟨a, b, rfl, ha, c, d, rfl, hc, rfl⟩ := h
  obtain ⟨x, rfl, hx⟩ := fit_span ha
  obtain ⟨y, rfl, hy⟩ := fit_span hc
  exact ⟨⟨x, y⟩, rfl, trivial⟩
theorem fit_meas {xs : List D} (h : shMeas.Fit xs) : ∃ m : Meas, xs = rowD 4 0 (fun j => (eMeas m j).toD) ∧ okI m.what := by
  unfold shMeas Sh.Fit at h
  simp only [Sh.FitL] at h
  obtain ⟨a, b, rfl, ha, c, d, rfl, hc, e, f, rfl, he, g, i, rfl, hg, rfl⟩ := h
  obtain ⟨x, rfl, hx⟩ := fit_I ha
  obtain ⟨y, rfl, hy⟩ := fit_I hc
  obtain ⟨z, rfl, hz⟩ := fit_I he
  obtain ⟨u, rfl, hu⟩ := fit_I hg
  exact ⟨⟨x, y, z, u⟩, rfl, hx⟩
theorem fit_cloth {xs : List D} (h : shCloth.Fit xs) : ∃ (ts : List Track) (ms : List Meas), shCloth.arg xs = (kCloth ts ms).toD ∧ ∀ m ∈ ms, okI m.what := by
  unfold shCloth Sh.Fit at h
  simp only [Sh.FitL] at h
  obtain ⟨a, b, rfl, ha, c, d, rfl, hc, rfl⟩ := h
  unfold Sh.Fit at ha hc
  obtain ⟨ra, rfl, la, ha⟩ := ha
  obtain ⟨rc, rfl, lc, hc⟩ := hc
  obtain ⟨ts, rfl, _⟩ := rows_of (fun row hr => fit_track (ha row hr))
  obtain ⟨ms, rfl, hm⟩ := rows_of (fun row hr => fit_meas (hc row hr))
  exact ⟨ts, ms, rfl, hm⟩
def rowS (s : Span) : List D := rowD 2 0 (fun j => (eSpan s j).toD)
theorem fit_spans {xs : List D} (h : (Sh.sl shSpan).Fit xs) : ∃ l : List Span, xs = [(slSpan false l).toD] := by
  unfold Sh.Fit at h
  obtain ⟨ra, rfl, la, ha⟩ := h
  obtain ⟨l, rfl, _⟩ := rows_of (g := rowS) (p := fun _ => True) (fun row hr => by
    obtain ⟨s, e, _⟩ := fit_span (ha row hr)
    exact ⟨s, e, trivial⟩)
  exact ⟨l, rfl⟩
theorem fit_yarns {xs : List D} (h : (Sh.sl (.sl shSpan)).Fit xs) : ∃ l : List (List Span), xs = [(slYarn false l).toD] := by
  unfold Sh.Fit at h
  obtain ⟨ra, rfl, la, ha⟩ := h
  obtain ⟨l, rfl, _⟩ := rows_of (g := fun y : List Span => [(slSpan false y).toD]) (p := fun _ => True) (fun row hr => by
    obtain ⟨y, e⟩ := fit_spans (ha row hr)
    exact ⟨y, e, trivial⟩)
  exact ⟨l, rfl⟩
end Go.Proofs.Ytnekemldcjegaaa.Aw
