/- Part 4 of the proof: lemmas. -/
import Derived.Test.YtfilnnbfppokmaaM3
import Derived.Test.YtfilnnbfppokmaaProg
import Derived.KernelRfl
import Derived.Deep.Slices
import Derived.ProofKit
set_option linter.unusedVariables false
set_option linter.unusedSimpArgs false
set_option linter.unusedSectionVars false

namespace Go.Proofs.Ytfilnnbfppokmaa.Aw
open Go Go.RowKit
universe u
variable {P : Program} {E : Env P} {base : Nat} {r : Option Nat} {post : KV -> List KRow -> Prop} {tb : Nat -> Option TI}
theorem segS_Tnone {ops : Array Oper} {X : Nat -> Bool} {t : Nat} : ∀ (l : List Sg) (i : Nat) (S : St), (∀ j, j < l.length -> dstAt ops (i + j) = none) -> look (segS ops X i l S).T t = look S.T t
 | [], _, _, _ => rfl
 | g :: rest, i, S, h => by
  simp only [segS]
  rw [segS_Tnone rest (i + 1) _ (fun j hj => by have := h (j + 1) (by simp; omega); rwa [show i + (j + 1) = i + 1 + j from by omega] at this)]
  have h0 := h 0 (by simp)
  rw [Nat.add_zero] at h0
  rw [h0]
  cases X i <;> rfl
theorem segS_Hother {ops : Array Oper} {X : Nat -> Bool} {b : Nat} : ∀ (l : List Sg) (i : Nat) (S : St), (∀ (j : Nat) (g : Sg), l[j]? = some g -> X (i + j) = true -> b ∉ keys g.nh) -> look (segS ops X i l S).H b = look S.H b
 | [], _, _, _ => rfl
 | g :: rest, i, S, h => by
  simp only [segS]
  rw [segS_Hother rest (i + 1) _ (fun j g' hg hX => h (j + 1) g' (by simpa using hg) (by rw [show i + (j + 1) = i + 1 + j from by omega]; exact hX))]
  cases hX : X i with
  | false => rfl
  | true =>
   simp only [if_true, St.add, look_append]
   rw [look_none_of_key (h 0 g rfl (by simpa using hX)), Option.none_or]
theorem segS_Oother {ops : Array Oper} {X : Nat -> Bool} {b : Nat} : ∀ (l : List Sg) (i : Nat) (S : St), (∀ (j : Nat) (g : Sg), l[j]? = some g -> X (i + j) = true -> b ∉ keys g.no) -> look (segS ops X i l S).O b = look S.O b
 | [], _, _, _ => rfl
 | g :: rest, i, S, h => by
  simp only [segS]
  rw [segS_Oother rest (i + 1) _ (fun j g' hg hX => h (j + 1) g' (by simpa using hg) (by rw [show i + (j + 1) = i + 1 + j from by omega]; exact hX))]
  cases hX : X i with
  | false => rfl
  | true =>
   simp only [if_true, St.add, look_append]
   rw [look_none_of_key (h 0 g rfl (by simpa using hX)), Option.none_or]
def stW (ops : Array Oper) (X : Nat -> Bool) (Lf Lw : List Sg) (S : St) : St := segS ops X Lf.length Lw (segS ops X 0 Lf S)
theorem stW_n {ops : Array Oper} {X : Nat -> Bool} {Lf Lw : List Sg} {S : St} : (stW ops X Lf Lw S).n = S.n := by unfold stW; rw [segS_n, segS_n]
def pureS (ops : Array Oper) (B : List Nat) (L : List Sg) (S : St) (i : Nat) (o : Oper) : St := { preS ops B 0 L S i o with H := [], O := [] }
theorem AWN_segw {ops : Array Oper} {S : St} {s : E.σ} {Q : Exit -> St -> E.σ -> Prop} (B : List Nat) (Lf Lw : List Sg) (hB : depOk ops B = true) (hsz : Lf.length + Lw.length = ops.size)
  (hap : apartB ops B 0 Lf.length = true) (hdis : dis (keys S.H) (keys S.O) Lf = true) (hfr : freshL ops B 0 Lf S = true) (hob : Obls P ops B 0 Lf S 0 Lf)
  (hdn : ∀ j, j < Lw.length -> dstAt ops (Lf.length + j) = none)
  (hpt : ∀ (p : Nat) (g : Sg) (q : Nat) (g' : Sg), Lf[p]? = some g -> Lw[q]? = some g' -> (B.getD (Lf.length + q) 0).testBit p = true \/ ((∀ b ∈ keys g.nh, sgBox b g' = false) /\ ∀ b ∈ keys g.no, sgRow b g' = false))
  (hno : ∀ (p : Nat) (o : Oper) (q : Nat) (g' : Sg), p < Lf.length -> ops[p]? = some o -> Lw[q]? = some g' -> (B.getD (Lf.length + q) 0).testBit p = true \/ isPure o = true \/ ((∀ b ∈ keys g'.nh, look (preS ops B 0 Lf S p o).H b = none) /\ ∀ b ∈ keys g'.no, look (preS ops B 0 Lf S p o).O b = none))
  (hpu : ∀ (p : Nat) (g : Sg) (o : Oper), Lf[p]? = some g -> ops[p]? = some o -> isPure o = true -> g.run = true -> Free P o (pureS ops B Lf S p o) g.res g.nh g.no)
  (hwr : ∀ (q : Nat) (g' : Sg), Lw[q]? = some g' -> ∃ o, ops[Lf.length + q]? = some o /\ o.guard = none /\ ∀ (X : Nat -> Bool), (∀ k, Dep ops (Lf.length + q) k -> X k = true) -> X (Lf.length + q) = false ->
   (∀ j k, j < ops.size -> X j = true -> Dep ops j k -> X k = true) -> ∃ S'', Bar E o (stW ops X Lf Lw S) s S'' s /\ Leq S'' (stW ops (fun j => X j || j == Lf.length + q) Lf Lw S))
  {S2 : St} (hl2 : Leq (stW ops (fun _ => true) Lf Lw S) S2) (h : Q .normal S2 s) : AWN E base r ops 0 S s Q := by
 intro M a w hc fuel listed hfuel hp
 have key : ∀ (c : Nat) (X : Nat -> Bool), missing X 0 ops.size = c -> (∀ j k, j < ops.size -> X j = true -> Dep ops j k -> X k = true) ->
   ∀ (fuel : Nat) (listed : Array Bool) (M' : Mp) (a' : Act) (w' : World), c <= fuel -> Pre ops listed X -> Cfg E base (stW ops X Lf Lw S) s M' a' w' -> Ext S M w (stW ops X Lf Lw S) M' w' ->
   wpAnyIn (FW r) 0 P .any ops (Post E base Q S M w) fuel listed a' w' := by
  intro c
  induction c with
  | zero =>
   intro X hmis hcl fuel listed M' a' w' hfuel hp hc' hx'
   have hall := missing_zero hmis
   have e : stW ops X Lf Lw S = stW ops (fun _ => true) Lf Lw S := by
    unfold stW
    rw [segS_congr (X := X) (Y := fun _ => true) Lf 0 S (fun j h1 h2 => by have := hall j (by omega); simpa using this)]
    exact segS_congr Lw Lf.length _ (fun j h1 h2 => by have := hall j (by omega); simpa using this)
   rw [e] at hc' hx'
   refine wpAnyIn_done ?_ ⟨_, s, M', h, hc'.leq hl2, hx'.trans (hl2.ext M' w')⟩ fuel
   refine List.eq_nil_iff_forall_not_mem.2 (fun i hi => ?_)
   obtain ⟨h1, o, ho, _⟩ := hp.ready.1 hi
   have := (Array.getElem?_eq_some_iff.1 ho).1
   have := hall i this
   rw [Nat.zero_add, h1] at this; cases this
  | succ c ih =>
   intro X hmis hcl fuel listed M' a' w' hfuel hp hc' hx'
   have hmiss : ∃ p, p < ops.size /\ X p = false := by
    apply Classical.byContradiction
    intro hh
    have : missing X 0 ops.size = 0 := missing_full (fun j hj => by
     rw [Nat.zero_add]
     cases hX : X j with
     | true => rfl
     | false => exact absurd ⟨j, hj, hX⟩ hh)
    omega
   obtain ⟨p0, ⟨hp0, hX0⟩, hmin⟩ := exists_least (fun p => p < ops.size /\ X p = false) hmiss
   obtain ⟨o0, ho0⟩ : ∃ o, ops[p0]? = some o := ⟨ops[p0]'(by omega), by simp⟩
   have hready0 : p0 ∈ Region.ready .any ops listed := hp.ready.2 ⟨hX0, o0, ho0, fun e he hb => by
    have hlt := depOk_edge hB ho0 he hb
    refine ⟨by omega, ?_⟩
    cases hX : X e.on with
    | true => rfl
    | false => have := hmin e.on ⟨by omega, hX⟩; omega⟩
   obtain ⟨fuel, rfl⟩ : ∃ f, fuel = f + 1 := ⟨fuel - 1, by omega⟩
   refine ⟨fun h0 => (by rw [h0] at hready0; cases hready0), fun i hi => ?_⟩
   obtain ⟨hXi, o, ho, hdeps⟩ := hp.ready.1 hi
   have hisz := (Array.getElem?_eq_some_iff.1 ho).1
   have hdep : ∀ k, Dep ops i k -> X k = true := by
    intro k hk
    cases hk with
    | one ho' he hb => rw [ho] at ho'; cases ho'; exact (hdeps _ he hb).2
    | step ho' he hb hd => rw [ho] at ho'; cases ho'; exact hcl _ k (hdeps _ he hb).1 (hdeps _ he hb).2 hd
   have hnw : ∀ j, j < ops.size -> X j = true -> (B.getD j 0).testBit i = false := by
    intro j hj hXj
    cases hb : (B.getD j 0).testBit i with
    | false => rfl
    | true => have := hcl j _ hj hXj (depOk_sound hB j hj _ hb); rw [hXi] at this; cases this
   have hXsub : ∀ j, (B.getD i 0).testBit j = true -> X j = true := fun j hj => hdep j (depOk_sound hB _ hisz j hj)
   have hgo : ∀ (M2 : Mp) (a2 : Act) (w2 : World), Cfg E base (stW ops (fun j => X j || j == i) Lf Lw S) s M2 a2 w2 -> Ext S M w (stW ops (fun j => X j || j == i) Lf Lw S) M2 w2 ->
     wpAnyIn (FW r) 0 P .any ops (Post E base Q S M w) fuel (listed.setIfInBounds i true) a2 w2 := by
    intro M2 a2 w2 c2 x2
    refine ih (fun j => X j || j == i) ?_ ?_ fuel _ M2 a2 w2 (by omega) (hp.set _) c2 x2
    ·have := missing_set (X := X) (m := 0) (p := i) (n := ops.size) (by simpa using hXi) hisz
     simp only [Nat.zero_add] at this; omega
    ·intro j k hj hXj hd
     simp only [Bool.or_eq_true, beq_iff_eq] at hXj ⊢
     rcases hXj with hXj | rfl
     ·exact .inl (hcl j k hj hXj hd)
     ·exact .inl (hdep k hd)
   by_cases hil : i < Lf.length
   ·-- a free operation
    obtain ⟨g, hg⟩ : ∃ g, Lf[i]? = some g := ⟨Lf[i], by simp [hil]⟩
    have hob' := hob.get i g hg
    rw [Nat.zero_add] at hob'
    obtain ⟨o', ho', hgd, hdst, hfree, hskip⟩ := hob'
    rw [ho] at ho'; cases ho'
    have hwdone : ∀ (q : Nat) (g' : Sg), Lw[q]? = some g' -> X (Lf.length + q) = true -> (B.getD (Lf.length + q) 0).testBit i = false := fun q g' hq hX => hnw _ (by have := (List.getElem?_eq_some_iff.1 hq).1; omega) hX
    have hwa : ∀ (q : Nat) (g' : Sg), Lw[q]? = some g' -> X (Lf.length + q) = true -> (∀ b ∈ keys g.nh, sgBox b g' = false) /\ ∀ b ∈ keys g.no, sgRow b g' = false := fun q g' hq hX => (hpt i g q g' hg hq).resolve_left (by rw [hwdone q g' hq hX]; simp)
    have hsub0 : Sub (segS ops X 0 Lf S) (preS ops B 0 Lf S i o) := by
     have hHO := segS_lookH (ops := ops) (X := fun j => (B.getD i 0).testBit j) (Y := X) Lf 0 S S (keys S.H) (keys S.O) (fun _ _ x => x) (fun _ _ x => x) (fun _ x => x) (fun _ x => x) hdis hXsub
     refine ⟨by rw [segS_n]; show (segS ops _ 0 Lf S).n = S.n; exact segS_n _ _ _, fun t c ht => ?_, hHO.1, hHO.2⟩
     have ht' : look ((segS ops (fun j => (B.getD i 0).testBit j) 0 Lf S).T.filter fun q => memN q.1 (names ops o)) t = some c := ht
     rw [look_filter (f := fun k => memN k (names ops o))] at ht'
     by_cases hn : memN t (names ops o) = true
     ·rw [if_pos hn] at ht'
      rw [<- ht']
      refine segS_look Lf 0 S S rfl (fun j g' hg' hd => ?_)
      have hj : j < Lf.length := (List.getElem?_eq_some_iff.1 hg').1
      rw [Nat.zero_add] at hd ⊢
      cases hXj : X j with
      | false =>
       cases hb : (B.getD i 0).testBit j with
       | false => rfl
       | true => rw [hXsub _ hb] at hXj; cases hXj
      | true =>
       simp only [apartB, List.all_eq_true, List.mem_range, Bool.or_eq_true, Nat.zero_add] at hap
       have := hap i hil j hj
       rw [ho, hd] at this
       simp only [hn, Bool.true_or, Bool.not_true, Bool.false_eq_true, or_false] at this
       rcases this with (h1 | h1) | h1
       ·have : i = j := by simpa using h1
        subst this; rw [hXi] at hXj; cases hXj
       ·exact h1.symm
       ·rw [hnw j (by omega) hXj] at h1; cases h1
     ·rw [if_neg hn] at ht'; cases ht'
    obtain ⟨Sx, hsub, hTx, hfree⟩ : ∃ Sx, Sub (stW ops X Lf Lw S) Sx /\ Sx.T = (preS ops B 0 Lf S i o).T /\ (g.run = true -> Free P o Sx g.res g.nh g.no) := by
     cases hpur : isPure o with
     | true => exact ⟨pureS ops B Lf S i o, ⟨by rw [stW_n]; show (preS ops B 0 Lf S i o).n = S.n; rw [hsub0.n, segS_n], fun t c ht => by unfold stW; rw [segS_Tnone Lw _ _ hdn]; exact hsub0.T t c ht, fun b B' hb => (by cases hb), fun b R' hb => (by cases hb)⟩, rfl, hpu i g o hg ho hpur⟩
     | false =>
      refine ⟨preS ops B 0 Lf S i o, ⟨by rw [stW_n, hsub0.n, segS_n], fun t c ht => ?_, fun b B' hb => ?_, fun b R' hb => ?_⟩, rfl, hfree⟩
      ·unfold stW; rw [segS_Tnone Lw _ _ hdn]; exact hsub0.T t c ht
      ·unfold stW
       rw [segS_Hother Lw _ _ (fun q g' hq hX hk => ?_)]
       ·exact hsub0.H b B' hb
       ·rcases hno i o q g' hil ho hq with h1 | h1 | h1
        ·rw [hwdone q g' hq hX] at h1; cases h1
        ·rw [hpur] at h1; cases h1
        ·rw [h1.1 b hk] at hb; cases hb
      ·unfold stW
       rw [segS_Oother Lw _ _ (fun q g' hq hX hk => ?_)]
       ·exact hsub0.O b R' hb
       ·rcases hno i o q g' hil ho hq with h1 | h1 | h1
        ·rw [hwdone q g' hq hX] at h1; cases h1
        ·rw [hpur] at h1; cases h1
        ·rw [h1.2 b hk] at hb; cases hb
    rw [<- hTx] at hgd
    have hrel := hc'.rel.sub hsub
    have hfree0 : Fresh (segS ops X 0 Lf S) g.nh g.no := by
     simp only [freshL, List.all_eq_true, List.mem_range] at hfr
     have h1 := hfr i hil
     rw [hg] at h1
     simp only [Bool.and_eq_true, List.all_eq_true, List.mem_range, Bool.or_eq_true, Nat.zero_add] at h1
     have h2 := fresh_of h1.1
     have h3 : ∀ (j : Nat) (g' : Sg), Lf[j]? = some g' -> X (0 + j) = true -> (∀ b ∈ keys g.nh, sgBox b g' = false) /\ ∀ b ∈ keys g.no, sgRow b g' = false := by
      intro j g' hg' hXj
      rw [Nat.zero_add] at hXj
      have hj : j < Lf.length := (List.getElem?_eq_some_iff.1 hg').1
      rcases h1.2 j hj with (h4 | h4) | h4
      ·have : i = j := by simpa using h4
       subst this; rw [hXi] at hXj; cases hXj
      ·rw [hnw j (by omega) hXj] at h4; cases h4
      ·rw [hg'] at h4
       simp only [Bool.and_eq_true, List.all_eq_true, Bool.not_eq_true'] at h4
       exact h4
     exact ⟨fun b hb => segS_uses Lf 0 S (h2.box b hb) (fun j g' hg' hXj => (h3 j g' hg' hXj).1 b hb), fun b hb => segS_usesRow Lf 0 S (h2.row b hb) (fun j g' hg' hXj => (h3 j g' hg' hXj).2 b hb), fun b hb => by rw [segS_low]; exact h2.bl b hb, fun b hb => by rw [segS_low]; exact h2.rl b hb, h2.rp⟩
    have hfree' : Fresh (stW ops X Lf Lw S) g.nh g.no :=
     ⟨fun b hb => segS_uses Lw _ _ (hfree0.box b hb) (fun q g' hq hX => (hwa q g' hq hX).1 b hb), fun b hb => segS_usesRow Lw _ _ (hfree0.row b hb) (fun q g' hq hX => (hwa q g' hq hX).2 b hb), fun b hb => by unfold stW; rw [segS_low]; exact hfree0.bl b hb, fun b hb => by unfold stW; rw [segS_low]; exact hfree0.rl b hb, hfree0.rp⟩
    have hdst' : dstOk (stW ops X Lf Lw S) o.dst = true := by
     cases hd : o.dst with
     | none => rfl
     | some t => rw [hd] at hdst; simp only [dstOk] at hdst ⊢; rw [stW_n]; exact hdst
    have hdAt : dstAt ops i = o.dst := by simp [dstAt, ho]
    have hmore0 : Leq ((segS ops X 0 Lf S).add (dstAt ops i) g.res g.nh g.no) (segS ops (fun j => X j || j == i) 0 Lf S) := by
     have := segS_more (ops := ops) (X := X) (m := 0) (S := S) hg (by rw [Nat.zero_add]; exact hXi) (fun j g' hg' hpj hXj => ⟨fun t ht hd => ?_, fun b hb hb' => ?_, fun b hb hb' => ?_⟩)
     ·simpa using this
     all_goals rw [Nat.zero_add] at hXj
     all_goals have hj : j < Lf.length := (List.getElem?_eq_some_iff.1 hg').1
     ·simp only [apartB, List.all_eq_true, List.mem_range, Bool.or_eq_true, Nat.zero_add] at hap
      have := hap i hil j hj
      rw [Nat.zero_add] at ht hd
      rw [hdAt] at ht
      rw [ho, hd] at this
      simp only [ht, beq_self_eq_true, Bool.or_true, Bool.not_true, Bool.false_eq_true, or_false] at this
      rcases this with (h1 | h1) | h1
      ·have : i = j := by simpa using h1
       omega
      ·have := (depOk_sound hB _ hisz _ h1).lt hB; omega
      ·rw [hnw j (by omega) hXj] at h1; cases h1
     ·simp only [freshL, List.all_eq_true, List.mem_range] at hfr
      have h1 := hfr i hil
      rw [hg] at h1
      simp only [Bool.and_eq_true, List.all_eq_true, List.mem_range, Bool.or_eq_true, Nat.zero_add] at h1
      rcases h1.2 j hj with (h4 | h4) | h4
      ·have : i = j := by simpa using h4
       omega
      ·rw [hnw j (by omega) hXj] at h4; cases h4
      ·rw [hg'] at h4
       simp only [Bool.and_eq_true, List.all_eq_true, Bool.not_eq_true'] at h4
       have := h4.1 b hb
       simp [sgBox, memN_iff.2 hb'] at this
     ·simp only [freshL, List.all_eq_true, List.mem_range] at hfr
      have h1 := hfr i hil
      rw [hg] at h1
      simp only [Bool.and_eq_true, List.all_eq_true, List.mem_range, Bool.or_eq_true, Nat.zero_add] at h1
      rcases h1.2 j hj with (h4 | h4) | h4
      ·have : i = j := by simpa using h4
       omega
      ·rw [hnw j (by omega) hXj] at h4; cases h4
      ·rw [hg'] at h4
       simp only [Bool.and_eq_true, List.all_eq_true, Bool.not_eq_true'] at h4
       have := h4.2 b hb
       simp [sgRow, memN_iff.2 hb'] at this
    have hcongr : segS ops (fun j => X j || j == i) Lf.length Lw (segS ops (fun j => X j || j == i) 0 Lf S) = segS ops X Lf.length Lw (segS ops (fun j => X j || j == i) 0 Lf S) := segS_congr Lw Lf.length _ (fun j h1 h2 => by
     have : (j == i) = false := by simp; omega
     simp [this])
    have hmore : Leq ((stW ops X Lf Lw S).add (dstAt ops i) g.res g.nh g.no) (stW ops (fun j => X j || j == i) Lf Lw S) := by
     unfold stW
     rw [hcongr]
     refine (segS_late Lw Lf.length _ (fun q g' hq hX => ⟨fun t ht => ?_, fun b hb hb' => ?_, fun b hb hb' => ?_⟩)).trans (segS_leq Lw _ hmore0)
     ·rw [hdn q (List.getElem?_eq_some_iff.1 hq).1]; simp
     ·have := (hwa q g' hq hX).1 b hb
      simp [sgBox, memN_iff.2 hb'] at this
     ·have := (hwa q g' hq hX).2 b hb
      simp [sgRow, memN_iff.2 hb'] at this
    have hnext : ∀ (v : Value) (M2 : Mp) (w2 : World), Cfg E base ((stW ops X Lf Lw S).add o.dst g.res g.nh g.no) s M2 (a'.put o.dst v) w2 -> Ext (stW ops X Lf Lw S) M' w' ((stW ops X Lf Lw S).add o.dst g.res g.nh g.no) M2 w2 ->
      wpAnyIn (FW r) 0 P .any ops (Post E base Q S M w) fuel (listed.setIfInBounds i true) (a'.put o.dst v) w2 := by
     intro v M2 w2 c2 x2
     rw [<- hdAt] at c2 x2
     rw [hdAt] at c2
     rw [<- hdAt] at c2
     rw [<- hdAt]
     exact hgo M2 _ w2 (c2.leq hmore) ((hx'.trans x2).trans (hmore.ext M2 w2))
    unfold wpOpIn
    simp only [ho]
    cases hrun : g.run with
    | true =>
     rw [guardB_spec hgd hrel, hrun, if_pos rfl]
     refine hfree hrun r base M' E.l a' w' hrel _ _ (fun v w2 M2 hn => ?_)
     obtain ⟨c2, x2⟩ := hc'.new hn hfree' hdst'
     exact hnext v M2 w2 c2 x2
    | false =>
     rw [guardB_spec hgd hrel, hrun]
     simp only [Bool.false_eq_true, if_false]
     obtain ⟨e1, e2, e3⟩ := hskip hrun
     refine ⟨fun _ _ => trivial, ?_⟩
     have hn : New M' E.l w' g.nh g.no g.res undef M' w' := by rw [e1, e2, e3]; exact { New.skip with res := .tup [] #[] rfl (fun i c v h => by simp at h) }
     obtain ⟨c2, x2⟩ := hc'.new hn hfree' hdst'
     exact hnext undef M' w' c2 x2
   ·-- a store
    obtain ⟨q, rfl⟩ : ∃ q, i = Lf.length + q := ⟨i - Lf.length, by omega⟩
    obtain ⟨g', hg'⟩ : ∃ g, Lw[q]? = some g := ⟨Lw[q]'(by omega), by simp⟩
    obtain ⟨o', ho', hgn, hbar⟩ := hwr q g' hg'
    rw [ho] at ho'; cases ho'
    obtain ⟨S'', hb, hl⟩ := hbar X hdep hXi hcl
    unfold wpOpIn
    simp only [ho]
    have hgd : guardB ops (stW ops X Lf Lw S).T o = some true := by unfold guardB; rw [hgn]
    rw [guardB_spec hgd hc'.rel, if_pos rfl]
    exact hb r base M' a' w' hc' _ _ (fun v w2 M2 c2 x2 => hgo M2 _ w2 (c2.leq hl) ((hx'.trans x2).trans (hl.ext M2 w2)))
 have hX0 : stW ops (fun j => Nat.blt j 0) Lf Lw S = S := by
  have : ∀ (l : List Sg) (i : Nat) (S : St), segS ops (fun j => Nat.blt j 0) i l S = S := by
   intro l
   induction l with
   | nil => intro _ _; rfl
   | cons g rest ih =>
    intro i S
    have hb : Nat.blt i 0 = false := by cases hh : Nat.blt i 0 with | false => rfl | true => rw [Nat.blt_eq] at hh; omega
    simp only [segS, hb, Bool.false_eq_true, if_false]
    exact ih (i + 1) S
  unfold stW
  rw [this, this]
 have hmis0 : missing (fun j => Nat.blt j 0) 0 ops.size = ops.size := by
  generalize ops.size = n
  induction n with
  | zero => rfl
  | succ n ih =>
   have hb : Nat.blt (0 + n) 0 = false := by cases hh : Nat.blt (0 + n) 0 with | false => rfl | true => rw [Nat.blt_eq] at hh; omega
   simp only [missing, ih, hb]; rfl
 refine key ops.size (fun j => Nat.blt j 0) hmis0 (fun j k hj hX hd => ?_) fuel listed M a w (by omega) hp (by rw [hX0]; exact hc) (by rw [hX0]; exact Ext.refl _ _ _)
 rw [Nat.blt_eq] at hX; omega
theorem pureS_T {ops : Array Oper} {B : List Nat} {L : List Sg} {S : St} {i : Nat} {o : Oper} : (pureS ops B L S i o).T = (preS ops B 0 L S i o).T := rfl
def PurI (P : Program) (ops : Array Oper) (B : List Nat) (L : List Sg) (S : St) : Prop := ∀ (p : Nat) (g : Sg) (o : Oper), L[p]? = some g -> ops[p]? = some o -> isPure o = true -> g.run = true -> Free P o (pureS ops B L S p o) g.res g.nh g.no
theorem pre_look {ops : Array Oper} (hB : depOk ops (depsK ops.toList []) = true) {L : List Sg} {S0 S : KSt} {Rs : List (Nat × SgK)} (h : SegInv P ops (depsK ops.toList []) 0 L S0 S Rs) {o : Oper} (ho : ops[L.length]? = some o) (hap : apartB ops (depsK ops.toList []) 0 ops.size = true) (t : Nat) :
  look (preS ops (depsK ops.toList []) 0 L S0.st L.length o).T t = if memN t (names ops o) then look S.st.T t else none := by
 have hi := (Array.getElem?_eq_some_iff.1 ho).1
 have hlook : ∀ t, t ∈ names ops o -> look (segS ops (fun j => ((depsK ops.toList []).getD L.length 0).testBit j) 0 L S0.st).T t = look S.st.T t := fun t ht => by
  rw [h.leq.T t]
  refine segS_look L 0 _ _ rfl (fun j g hj hdj => ?_)
  have hjl := (List.getElem?_eq_some_iff.1 hj).1
  rw [Nat.zero_add] at hdj ⊢
  simp only [apartB, List.all_eq_true, List.mem_range, Nat.zero_add] at hap
  have := hap L.length hi j (by omega)
  simp only [Bool.or_eq_true, beq_iff_eq] at this
  rcases this with ((h1 | h1) | h1) | h1
  ·omega
  ·rw [ho, hdj] at h1
   simp only [Bool.not_eq_true', Bool.or_eq_false_iff] at h1
   rw [memN_iff.2 ht] at h1; cases h1.1
  ·exact h1
  ·have := (depOk_sound hB j (by omega) _ h1).lt hB; omega
 unfold preS restr
 simp only
 rw [look_filter (f := fun k => memN k (names ops o))]
 cases hm : memN t (names ops o) with
 | false => rfl
 | true => simp only [if_true]; exact hlook t (memN_iff.1 hm)
theorem PurI.snoc {ops : Array Oper} (hB : depOk ops (depsK ops.toList []) = true) {L : List Sg} {S0 S : KSt} {Rs : List (Nat × SgK)} (h : SegInv P ops (depsK ops.toList []) 0 L S0 S Rs) (hp : PurI P ops (depsK ops.toList []) L S0.st) {o : Oper} (ho : ops[L.length]? = some o) (hap : apartB ops (depsK ops.toList []) 0 ops.size = true) {gk : SgK} {run : Bool}
  (hrun : run = true -> isPure o = true -> Free P o (KSt.st ⟨S.n, restrK S.T (namesK ops.toList o), [], [], S.low⟩) gk.res.av (mapH gk.nh) (mapO gk.no)) : PurI P ops (depsK ops.toList []) (L ++ [sgOf gk run]) S0.st := by
 intro p g o' hg ho' hpur hr
 have hpi := (Array.getElem?_eq_some_iff.1 ho').1
 have hlt : p < (L ++ [sgOf gk run]).length := (List.getElem?_eq_some_iff.1 hg).1
 have heq : pureS ops (depsK ops.toList []) (L ++ [sgOf gk run]) S0.st p o' = pureS ops (depsK ops.toList []) L S0.st p o' := by
  unfold pureS
  rw [preS_snoc hB hpi (by simp at hlt; omega)]
 rw [heq]
 rcases getElem?_snoc hg with hg | ⟨rfl, rfl⟩
 ·exact hp p g o' hg ho' hpur hr
 ·obtain rfl : o = o' := Option.some.inj (ho.symm.trans ho')
  refine Free_sub (hrun hr hpur) ⟨?_, fun t c ht => ?_, fun b B' hb => (by cases hb), fun b B' hb => (by cases hb)⟩
  ·show S.n = (preS ops (depsK ops.toList []) 0 L S0.st L.length o).n
   have hn : S.n = S0.n := by have := h.leq.n; rw [segS_n] at this; exact this
   rw [hn]
   unfold preS restr
   simp only [segS_n]; rfl
  ·rw [st_look] at ht
   cases hh : lk (restrK S.T (namesK ops.toList o)) t with
   | none => simp only [hh] at ht; cases ht
   | some v =>
    simp only [hh, Option.map_some, Option.some.injEq] at ht
    obtain ⟨h1, h2⟩ := restrK_look hh
    rw [pureS_T, pre_look hB h ho hap t, if_pos (memN_iff.2 (namesK_mem h1)), st_look, h2, <- ht]; rfl
theorem drawFK_spec {ops : Array Oper} {pz : List Nat} (hT : ∀ t i, tb t = some i -> TIOk P t i) (hB : depOk ops (depsK ops.toList []) = true) (hap : apartB ops (depsK ops.toList []) 0 ops.size = true) {K : KSt -> List (Nat × SgK) -> Prop} :
  ∀ (n : Nat) (rest : List Oper) (i : Nat) (L : List Sg) (S0 S : KSt) (Rs : List (Nat × SgK)) (s : E.σ), (∀ (j : Nat) (o : Oper), rest[j]? = some o -> ops[i + j]? = some o) -> i = L.length ->
  SegInv P ops (depsK ops.toList []) 0 L S0 S Rs -> PurI P ops (depsK ops.toList []) L S0.st -> (∀ p ∈ Rs, p.1 < i) -> drawFK (primK P E base r post) tb pz ops.toList n rest i S0 Rs S s K -> ∃ L' S' Rs', SegInv P ops (depsK ops.toList []) 0 L' S0 S' Rs' /\ PurI P ops (depsK ops.toList []) L' S0.st /\ L'.length = i + n /\ (∀ p ∈ Rs', p.1 < i + n) /\ K S' Rs'
 | 0, rest, i, L, S0, S, Rs, s, hl, him, hinv, hpI, hR, h => ⟨L, S, Rs, hinv, hpI, by omega, fun p hp => hR p hp, by unfold drawFK at h; exact h⟩
 | n + 1, [], i, L, S0, S, Rs, s, hl, him, hinv, hpI, hR, h => by unfold drawFK at h; exact h.elim
 | n + 1, o :: rest, i, L, S0, S, Rs, s, hl, him, hinv, hpI, hR, h => by
  have ho : ops[i]? = some o := by simpa using hl 0 o rfl
  have hisz := (Array.getElem?_eq_some_iff.1 ho).1
  have hrest : ∀ (j : Nat) (o : Oper), rest[j]? = some o -> ops[i + 1 + j]? = some o := fun j o h => by
   have := hl (j + 1) o (by simpa using h)
   rwa [show i + (j + 1) = i + 1 + j from by omega] at this
  unfold drawFK at h
  obtain ⟨S', hleq, h⟩ := wantK_spec h
  have hinv := hinv.leq' hleq
  have step : ∀ (gk : SgK) (run : Bool), guardB ops S'.st.T o = some run -> dstK S' o.dst = true -> freshKH S' gk.nh = true -> freshKO S' gk.no = true -> freshKH S0 gk.nh = true -> freshKO S0 gk.no = true -> okNew ops.toList i gk Rs = true ->
    (run = true -> Free P o (KSt.st ⟨S'.n, restrK S'.T (namesK ops.toList o), pureH o S0.H, pureO o S0.O, S'.low⟩) gk.res.av (mapH gk.nh) (mapO gk.no)) -> (run = false -> gk = ⟨.tup [], [], []⟩) ->
    drawFK (primK P E base r post) tb pz ops.toList n rest (i + 1) S0 ((i, gk) :: Rs) (S'.add o.dst gk.res gk.nh gk.no) s K -> ∃ L' S' Rs', SegInv P ops (depsK ops.toList []) 0 L' S0 S' Rs' /\ PurI P ops (depsK ops.toList []) L' S0.st /\ L'.length = i + (n + 1) /\ (∀ p ∈ Rs', p.1 < i + (n + 1)) /\ K S' Rs' := fun gk run hg hd f1 f2 f3 f4 f5 hr hs h => by
   subst him
   have hr' : run = true -> Free P o (KSt.st ⟨S'.n, restrK S'.T (namesK ops.toList o), S0.H, S0.O, S'.low⟩) gk.res.av (mapH gk.nh) (mapO gk.no) := fun e => by
    refine Free_sub (hr e) ⟨rfl, fun t c ht => ht, fun b B' hb => ?_, fun b B' hb => ?_⟩
    ·show look (mapH S0.H) b = some B'
     have hb : look (mapH (pureH o S0.H)) b = some B' := hb
     unfold pureH at hb
     split at hb
     ·cases hb
     ·exact hb
    ·show look (mapO S0.O) b = some B'
     have hb : look (mapO (pureO o S0.O)) b = some B' := hb
     unfold pureO at hb
     split at hb
     ·cases hb
     ·exact hb
   have one := SegInv.snoc (m := 0) hB hinv (o := o) (by rw [Nat.zero_add]; exact ho) hg hd f1 f2 f3 f4 (by rw [Nat.zero_add]; exact f5) hr' hs (cnt := ops.size) hisz hap
   rw [Nat.zero_add] at one
   have onep := PurI.snoc (gk := gk) (run := run) hB hinv hpI ho hap (fun e hpur => by have := hr e; unfold pureH pureO at this; rw [hpur] at this; exact this)
   have := drawFK_spec hT hB hap n rest (L.length + 1) (L ++ [sgOf gk run]) S0 _ _ s hrest (by simp) one onep (fun p hp => by
    rcases List.mem_cons.1 hp with rfl | hp
    ·exact Nat.lt_succ_self _
    ·have := hR p hp; omega) h
   rwa [show L.length + 1 + n = L.length + (n + 1) from by omega] at this
  rcases h with ⟨hg, h⟩ | ⟨hg, h⟩
  ·obtain ⟨res, nh, no, hf, h⟩ := freeK_spec hT h
   replace h := kif_spec h; obtain ⟨h1, h⟩ := h
   simp only [Bool.and_eq_true] at h1
   obtain ⟨⟨⟨⟨⟨f1, f2⟩, f3⟩, f4⟩, f5⟩, f6⟩ := h1
   exact step ⟨res, nh, no⟩ true hg f5 f1 f2 f3 f4 f6 (fun _ => hf) (fun h => by cases h) h
  ·replace h := kif_spec h; obtain ⟨h1, h⟩ := h
   simp only [Bool.and_eq_true] at h1
   exact step ⟨.tup [], [], []⟩ false hg h1.1 rfl rfl rfl rfl h1.2 (fun h => by cases h) (fun _ => rfl) h
theorem onlyBy_spec {b i : Nat} {D : List Nat} : ∀ {Rs : List (Nat × SgK)}, onlyBy b D i Rs = true -> ∀ p ∈ Rs, b ∈ ks p.2.nh -> (D.getD i 0).testBit p.1 = true
 | [], h, p, hp, _ => by cases hp
 | (j, g) :: r, h, p, hp, hb => by
  unfold onlyBy at h
  split at h
  ·simp only [Bool.and_eq_true] at h
   rcases List.mem_cons.1 hp with rfl | hp
   ·exact h.1
   ·exact onlyBy_spec h.2 p hp hb
  ·rename_i hm
   rcases List.mem_cons.1 hp with rfl | hp
   ·rw [memN_iff.2 hb] at hm; cases hm
   ·exact onlyBy_spec h p hp hb
theorem notIn_spec {b i : Nat} {D : List Nat} : ∀ {Rs : List (Nat × SgK)}, notIn b D i Rs = true -> ∀ p ∈ Rs, b ∈ ks p.2.nh -> (D.getD i 0).testBit p.1 = false
 | [], h, p, hp, _ => by cases hp
 | (j, g) :: r, h, p, hp, hb => by
  unfold notIn at h
  split at h
  ·simp only [Bool.and_eq_true, Bool.not_eq_true'] at h
   rcases List.mem_cons.1 hp with rfl | hp
   ·exact h.1
   ·exact notIn_spec h.2 p hp hb
  ·rename_i hm
   rcases List.mem_cons.1 hp with rfl | hp
   ·rw [memN_iff.2 hb] at hm; cases hm
   ·exact notIn_spec h p hp hb
theorem pureAt_spec {ops : List Oper} {p : Nat} (h : pureAt ops p = true) : ∃ o, nth ops p = some o /\ isPure o = true := by
 unfold pureAt at h
 split at h
 ·rename_i o ho; exact ⟨o, ho, h⟩
 ·cases h
theorem unreadW_spec {b i : Nat} {D : List Nat} {ops : List Oper} {Rs : List (Nat × SgK)} : ∀ {n : Nat}, unreadW b D i ops Rs n = true -> ∀ p, p < n -> (D.getD i 0).testBit p = true \/ (∃ o, nth ops p = some o /\ isPure o = true) \/ ∀ q ∈ Rs, b ∈ ks q.2.nh -> (D.getD p 0).testBit q.1 = false
 | 0, _, p, hp => by omega
 | n + 1, h, p, hp => by
  simp only [unreadW, Bool.and_eq_true, Bool.or_eq_true] at h
  by_cases e : p = n
  ·subst e
   rcases h.1 with (h1 | h1) | h1
   ·exact .inl h1
   ·exact .inr (.inr (notIn_spec h1))
   ·exact .inr (.inl (pureAt_spec h1))
  ·exact unreadW_spec h.2 p (by omega)
theorem freeN_le : ∀ (l : List Oper), freeN l <= l.length
 | [] => Nat.le_refl _
 | o :: r => by
  simp only [freeN]
  split
  ·simp
  ·have := freeN_le r; simp; omega
theorem allWr_get : ∀ {l : List Oper}, allWr l = true -> ∀ o ∈ l, isWr o = true
 | [], _, o, h => by cases h
 | x :: r, h, o, ho => by
  simp only [allWr] at h
  split at h
  ·rename_i hx
   rcases List.mem_cons.1 ho with rfl | ho
   ·exact hx
   ·exact allWr_get h o ho
  ·cases h
theorem isWr_spec {o : Oper} (h : isWr o = true) : o.guard = none /\ o.dst = none := by
 unfold isWr at h
 split at h
 ·split at h
  ·rename_i hg
   split at h
   ·rename_i hd; exact ⟨hg, hd⟩
   ·cases h
  ·cases h
 ·cases h
theorem putK_allD {cells cs : List KV} {off : Nat} (h : allD cells = true) (h1 : allD cs = true) : allD (putK cells off cs) = true := by
 have key : ∀ {l : List KV}, allD l = true ↔ ∀ c ∈ l, c.isD = true := fun {l} => ⟨allD_get, fun hh => by
  induction l with
  | nil => rfl
  | cons c r ih => simp only [allD, Bool.and_eq_true]; exact ⟨hh c (by simp), ih (fun c' hc => hh c' (by simp [hc]))⟩⟩
 rw [key] at h h1 ⊢
 intro c hc
 unfold putK at hc
 simp only [List.mem_append] at hc
 rcases hc with (hc | hc) | hc
 ·rw [takeK_eq] at hc; exact h c (List.mem_of_mem_take hc)
 ·exact h1 c hc
 ·rw [dropK_eq] at hc; exact h c (List.mem_of_mem_drop hc)
theorem lk_stA {α : Type u} {b : Nat} {v u : α} : ∀ {l : List (Nat × α)}, lk l b = some u -> ∀ b', lk (stA l b v) b' = if b = b' then some v else lk l b'
 | [], h, b' => by cases h
 | (k, w) :: r, h, b' => by
  rw [lk_cons] at h
  rw [stA_cons]
  by_cases e : k = b
  ·subst e
   rw [if_pos rfl, lk_cons]
   by_cases e2 : k = b'
   ·rw [if_pos e2, if_pos e2]
   ·rw [if_neg e2, if_neg e2, lk_cons, if_neg e2]
  ·rw [if_neg e] at h
   rw [if_neg e, lk_cons, lk_cons]
   by_cases e2 : k = b'
   ·rw [if_pos e2, if_pos e2, if_neg (fun e3 => e (e2.trans e3.symm))]
   ·rw [if_neg e2, if_neg e2, lk_stA h b']
theorem segS_has {ops : Array Oper} {X : Nat -> Bool} {b : Nat} : ∀ (l : List Sg) (i : Nat) (S : St), (b ∈ keys S.H \/ ∃ (j : Nat) (g : Sg), l[j]? = some g /\ X (i + j) = true /\ b ∈ keys g.nh) -> b ∈ keys (segS ops X i l S).H
 | [], i, S, h => by
  rcases h with h | ⟨j, g, h, _⟩
  ·exact h
  ·simp at h
 | g :: rest, i, S, h => by
  simp only [segS]
  refine segS_has rest (i + 1) _ ?_
  rcases h with h | ⟨j, g', hg, hX, hb⟩
  ·left
   cases X i with
   | false => exact h
   | true => simp only [if_true, St.add, keys_append, List.mem_append]; exact .inr h
  ·cases j with
   | zero =>
    cases hg
    left
    rw [Nat.add_zero] at hX
    rw [hX]
    simp only [if_true, St.add, keys_append, List.mem_append]; exact .inl hb
   | succ j => exact .inr ⟨j, g', by simpa using hg, by rw [show i + 1 + j = i + (j + 1) from by omega]; exact hX, hb⟩
theorem avL_box {b : Nat} : ∀ {l : List KV}, allD l = true -> (KV.avL l).any (fun c => c.box b) = false /\ (KV.avL l).any (fun c => c.hasRow b) = false
 | [], _ => ⟨rfl, rfl⟩
 | c :: r, h => by
  simp only [allD, Bool.and_eq_true] at h
  obtain ⟨h1, h2⟩ := avL_box (b := b) h.2
  simp only [KV.avL, List.any_cons, KV.isD_av h.1, h1, h2, Bool.or_false]
  exact ⟨rfl, rfl⟩
theorem opnd_congr {T T' : List (Nat × AV)} {p : Operand} (h : ∀ t, p = .tmp t -> look T t = look T' t) : opnd T p = opnd T' p := by
 cases p with
 | tmp t => exact h t rfl
 | _ => rfl
theorem purW_spec {D : List Nat} {i : Nat} {ops : List Oper} : ∀ {n : Nat}, purW D i ops n = true -> ∀ p, p < n -> (D.getD i 0).testBit p = true \/ ∃ o, nth ops p = some o /\ isPure o = true
 | 0, _, p, hp => by omega
 | n + 1, h, p, hp => by
  simp only [purW, Bool.and_eq_true, Bool.or_eq_true] at h
  by_cases e : p = n
  ·subst e
   refine h.1.imp id (fun hh => ?_)
   split at hh
   ·rename_i o ho; exact ⟨o, ho, hh⟩
   ·cases hh
  ·exact purW_spec h.2 p (by omega)
structure WrI (E : Env P) (s : E.σ) (ops : Array Oper) (n : Nat) (H0 O0 : List Nat) (Rs : List (Nat × SgK)) (Sf : St) (i : Nat) (g : Sg) : Prop where
 op : ∃ o, ops[i]? = some o /\ isWr o = true /\ ∀ T : St, (∀ y ∈ o.op.operands.toList, opnd T.T y = opnd Sf.T y) -> (∀ b ∈ keys g.nh, look T.H b = look Sf.H b) -> (∀ b ∈ keys g.no, look T.O b = look Sf.O b) -> ∃ S'', Bar E o T s S'' s /\ Leq S'' (T.add none .any g.nh g.no)
 res : g.res = .any
 tgt : (∃ b B, g.nh = [(b, B)] /\ g.no = [] /\ (∀ b0, B.cells.any (fun c => c.box b0) = false /\ B.cells.any (fun c => c.hasRow b0) = false) /\ b ∉ H0 /\ b ∈ keys Sf.H /\ ownW b (depsK ops.toList []) i ops.toList n Rs = true) \/
  (∃ b R, g.nh = [] /\ g.no = [(b, R)] /\ b ∈ O0 /\ purW (depsK ops.toList []) i ops.toList n = true)
theorem leq_box {T : St} {S : KSt} {b : Nat} {B0 B : KBlk} (h : Leq T S.st) (hB : lk S.H b = some B0) : Leq (T.add none .any [(b, B.blk)] []) (KSt.st ⟨S.n, S.T, stA S.H b B, S.O, S.low⟩) := by
 refine ⟨h.n, h.low, h.T, fun b' => ?_, h.O⟩
 simp only [St.add, List.singleton_append, look]
 show look (mapH (stA S.H b B)) b' = _
 rw [look_mapH, lk_stA hB]
 by_cases e : b = b'
 ·simp [e]
 ·rw [if_neg e, if_neg e, <- look_mapH]; exact h.H b'
theorem leq_row {T : St} {S : KSt} {b : Nat} {R0 R : KRow} (h : Leq T S.st) (hR : lk S.O b = some R0) : Leq (T.add none .any [] [(b, R.row)]) (KSt.st ⟨S.n, S.T, S.H, stA S.O b R, S.low⟩) := by
 refine ⟨h.n, h.low, h.T, h.H, fun b' => ?_⟩
 simp only [St.add, List.singleton_append, look]
 show look (mapO (stA S.O b R)) b' = _
 rw [look_mapO, lk_stA hR]
 by_cases e : b = b'
 ·simp [e]
 ·rw [if_neg e, if_neg e, <- look_mapO]; exact h.O b'
theorem leq_putS {T : St} {id : Nat} {R : Row} {rows : List (List D)} (h : look T.O id = some R) : Leq (putS T id R rows) (T.add none .any [] [(id, ⟨R.e, R.sz, rows, R.nn, true⟩)]) := by
 refine ⟨rfl, rfl, fun t => rfl, fun b => rfl, fun b' => ?_⟩
 simp only [putS, St.add, List.singleton_append, look]
 rw [look_setA h]
theorem leq_setBox {T : St} {b : Nat} {B0 B : Blk} (h : look T.H b = some B0) : Leq (setBox T b B) (T.add none .any [(b, B)] []) := by
 refine ⟨rfl, rfl, fun t => rfl, fun b' => ?_, fun b => rfl⟩
 simp only [setBox, St.add, List.singleton_append, look]
 rw [look_setA h]
theorem wrK_spec (hT : ∀ t i, tb t = some i -> TIOk P t i) {ops : Array Oper} {n : Nat} {H0 O0 : List Nat} {Rs : List (Nat × SgK)} {Sf : KSt} {s : E.σ} {K : KSt -> Prop} : ∀ (l : List Oper) (i : Nat) (bs rs : List Nat) (S : KSt), (∀ (j : Nat) (o : Oper), l[j]? = some o -> ops[i + j]? = some o /\ isWr o = true) -> S.T = Sf.T -> (∀ b, b ∉ bs -> lk S.H b = lk Sf.H b) -> (∀ b, b ∉ rs -> lk S.O b = lk Sf.O b) ->
  wrK (primK P E base r post) tb ops.toList (depsK ops.toList []) n H0 O0 Rs l i bs rs S s K -> ∃ (W : List Sg) (S' : KSt), W.length = l.length /\ (∀ (q : Nat) (g : Sg), W[q]? = some g -> WrI E s ops n H0 O0 Rs Sf.st (i + q) g /\ (∀ b ∈ keys g.nh, b ∉ bs) /\ ∀ b ∈ keys g.no, b ∉ rs) /\
   (∀ (q q' : Nat) (g g' : Sg), W[q]? = some g -> W[q']? = some g' -> q < q' -> (∀ b ∈ keys g.nh, b ∉ keys g'.nh) /\ ∀ b ∈ keys g.no, b ∉ keys g'.no) /\ K S' /\
   ∀ (T : St) (j : Nat), (∀ k, k < W.length -> dstAt ops (j + k) = none) -> Leq T S.st -> Leq (segS ops (fun _ => true) j W T) S'.st
 | [], i, bs, rs, S, hl, hTT, hH, hO, h => ⟨[], S, rfl, fun q g hq => by simp at hq, fun q q' g g' hq => by simp at hq, by unfold wrK at h; exact h, fun T j _ hl => hl⟩
 | o :: rest, i, bs, rs, S, hl, hTT, hH, hO, h => by
  obtain ⟨ho, hwr⟩ : ops[i]? = some o /\ isWr o = true := by simpa using hl 0 o rfl
  obtain ⟨hgn, hdst⟩ := isWr_spec hwr
  have hl' : ∀ (j : Nat) (o : Oper), rest[j]? = some o -> ops[i + 1 + j]? = some o /\ isWr o = true := fun j o' hj => by
   have := hl (j + 1) o' (by simpa using hj)
   rwa [show i + (j + 1) = i + 1 + j from by omega] at this
  have hTst : ∀ t, look S.st.T t = look Sf.st.T t := fun t => by show look (mapT S.T) t = look (mapT Sf.T) t; rw [hTT]
  have hop' : ∀ {T : St} {y : Operand}, opnd T.T y = opnd Sf.st.T y -> opnd T.T y = opnd S.st.T y := fun {T y} e => e.trans (opnd_congr (fun t _ => (hTst t).symm))
  have cons : ∀ (g : Sg) (S1 : KSt) (bs1 rs1 : List Nat), (∀ b, b ∈ bs1 ↔ b ∈ keys g.nh \/ b ∈ bs) -> (∀ b, b ∈ rs1 ↔ b ∈ keys g.no \/ b ∈ rs) -> g.res = .any -> WrI E s ops n H0 O0 Rs Sf.st i g -> (∀ b ∈ keys g.nh, b ∉ bs) -> (∀ b ∈ keys g.no, b ∉ rs) ->
    (∀ T, Leq T S.st -> Leq (T.add none .any g.nh g.no) S1.st) -> (∃ (W : List Sg) (S' : KSt), W.length = rest.length /\ (∀ (q : Nat) (g : Sg), W[q]? = some g -> WrI E s ops n H0 O0 Rs Sf.st (i + 1 + q) g /\ (∀ b ∈ keys g.nh, b ∉ bs1) /\ ∀ b ∈ keys g.no, b ∉ rs1) /\
     (∀ (q q' : Nat) (g g' : Sg), W[q]? = some g -> W[q']? = some g' -> q < q' -> (∀ b ∈ keys g.nh, b ∉ keys g'.nh) /\ ∀ b ∈ keys g.no, b ∉ keys g'.no) /\ K S' /\
     ∀ (T : St) (j : Nat), (∀ k, k < W.length -> dstAt ops (j + k) = none) -> Leq T S1.st -> Leq (segS ops (fun _ => true) j W T) S'.st) -> ∃ (W : List Sg) (S' : KSt), W.length = (o :: rest).length /\ (∀ (q : Nat) (g : Sg), W[q]? = some g -> WrI E s ops n H0 O0 Rs Sf.st (i + q) g /\ (∀ b ∈ keys g.nh, b ∉ bs) /\ ∀ b ∈ keys g.no, b ∉ rs) /\
     (∀ (q q' : Nat) (g g' : Sg), W[q]? = some g -> W[q']? = some g' -> q < q' -> (∀ b ∈ keys g.nh, b ∉ keys g'.nh) /\ ∀ b ∈ keys g.no, b ∉ keys g'.no) /\ K S' /\
     ∀ (T : St) (j : Nat), (∀ k, k < W.length -> dstAt ops (j + k) = none) -> Leq T S.st -> Leq (segS ops (fun _ => true) j W T) S'.st := by
   rintro g S1 bs1 rs1 hb1 hr1 hres hwi hnb hnr hstep ⟨W, S', e1, e2, e3, e4, e5⟩
   refine ⟨g :: W, S', by simp [e1], fun q g' hq => ?_, fun q q' g1 g2 h1 h2 hlt => ?_, e4, fun T j hd hle => ?_⟩
   ·cases q with
    | zero => cases hq; exact ⟨hwi, hnb, hnr⟩
    | succ q =>
     obtain ⟨k1, k2, k3⟩ := e2 q g' (by simpa using hq)
     rw [show i + (q + 1) = i + 1 + q from by omega]
     exact ⟨k1, fun b hb hh => k2 b hb ((hb1 b).2 (.inr hh)), fun b hb hh => k3 b hb ((hr1 b).2 (.inr hh))⟩
   ·cases q' with
    | zero => omega
    | succ q' =>
     cases q with
     | zero =>
      cases h1
      obtain ⟨k1, k2, k3⟩ := e2 q' g2 (by simpa using h2)
      exact ⟨fun b hb hh => k2 b hh ((hb1 b).2 (.inl hb)), fun b hb hh => k3 b hh ((hr1 b).2 (.inl hb))⟩
     | succ q => exact e3 q q' g1 g2 (by simpa using h1) (by simpa using h2) (by omega)
   ·simp only [segS, if_true]
    have h0 := hd 0 (by simp)
    rw [Nat.add_zero] at h0
    rw [h0, hres]
    exact e5 _ (j + 1) (fun k hk => by have := hd (k + 1) (by simp; omega); rwa [show j + (k + 1) = j + 1 + k from by omega] at this) (hstep T hle)
  unfold wrK at h
  split at h
  ·rename_i t p x hop
   replace h := kk_spec h; obtain ⟨c, hc, h⟩ := h
   replace h := kk_spec h; obtain ⟨d, hd, h⟩ := h
   replace h := kk_spec h; obtain ⟨cs, hcs, h⟩ := h
   replace h := kk_spec h; obtain ⟨ti, hti, h⟩ := h
   replace h := kif_spec h; obtain ⟨h1, h⟩ := h
   have h1 := Nat.eq_of_beq_eq_true h1
   have hyp : p ∈ o.op.operands.toList := by rw [hop]; simp [Op.operands]
   have hyx : x ∈ o.op.operands.toList := by rw [hop]; simp [Op.operands]
   split at h
   ·rename_i b off
    replace h := kk_spec h; obtain ⟨B0, hB0, h⟩ := h
    replace h := kif_spec h; obtain ⟨h2, h⟩ := h
    simp only [Bool.and_eq_true, Bool.not_eq_true'] at h2
    obtain ⟨⟨⟨⟨⟨⟨g1, g2⟩, g3⟩, g4⟩, g5⟩, g7⟩, g6⟩ := h2
    have hbs : b ∉ bs := fun hh => by rw [memN_iff.2 hh] at g5; cases g5
    have hlk := lk_stA (v := (⟨B0.e, putK B0.cells off cs, true⟩ : KBlk)) hB0
    have hSf : look Sf.st.H b = some B0.blk := by rw [st_lookH, <- hH b hbs, hB0]; rfl
    refine cons ⟨.any, [(b, KBlk.blk ⟨B0.e, putK B0.cells off cs, true⟩)], [], true⟩ ⟨S.n, S.T, stA S.H b ⟨B0.e, putK B0.cells off cs, true⟩, S.O, S.low⟩ (b :: bs) rs (fun b' => by simp [keys]) (fun b' => by simp [keys]) rfl
     ⟨⟨o, ho, hwr, fun T hy hTH hTO => ?_⟩, rfl, .inl ⟨b, _, rfl, rfl, fun b0 => avL_box (putK_allD g2 g3), (fun hh => by rw [memN_iff.2 hh] at g7; cases g7), look_key hSf, g6⟩⟩ (fun b' hb' => by simp [keys] at hb'; subst hb'; exact hbs) (fun b' hb' => (by cases hb')) (fun T hle => leq_box hle hB0)
     (wrK_spec hT rest (i + 1) (b :: bs) rs ⟨S.n, S.T, stA S.H b ⟨B0.e, putK B0.cells off cs, true⟩, S.O, S.low⟩ hl' hTT (fun b' hb' => by
      simp only [List.mem_cons, not_or] at hb'
      exact (hlk b').trans ((if_neg (fun e => hb'.1 e.symm)).trans (hH b' hb'.2))) hO h)
    have hTb : look T.H b = some B0.blk := (hTH b (by simp [keys])).trans hSf
    have hb := bar_store (s := s) (E := E) hop hdst ((hop' (hy p hyp)).trans (kop_st hc)) hTb g1 ((hop' (hy x hyx)).trans (kop_st hd)) (cellsK_spec hcs) (by rw [(hT _ _ hti).sz, h1, avL_len]) (by rw [avL_len, show B0.blk.cells = KV.avL B0.cells from rfl, avL_len]; exact g4)
    refine ⟨_, hb, ?_⟩
    have := leq_setBox (B := ⟨B0.blk.e, putL B0.blk.cells off (KV.avL cs), true⟩) hTb
    simp only [KBlk.blk, putK_spec]
    exact this
   ·rename_i id sz ix j
    replace h := kk_spec h; obtain ⟨R, hR, h⟩ := h
    replace h := kif_spec h; obtain ⟨h2, h⟩ := h
    simp only [Bool.and_eq_true, Bool.not_eq_true'] at h2
    obtain ⟨⟨⟨⟨⟨⟨g1, g2⟩, g3⟩, g4⟩, g5⟩, g6⟩, g7⟩ := h2
    have g2 := Nat.eq_of_beq_eq_true g2
    subst g2
    have g3 := Nat.le_of_ble_eq_true g3
    have hrs : id ∉ rs := fun hh => by rw [memN_iff.2 hh] at g5; cases g5
    replace h : (0 <= ix /\ ix < (plenN R.ps : Int)) /\ ∃ ps', rowsD R.sz ps' = (rowsD R.sz R.ps).set ix.toNat (putG ((rowsD R.sz R.ps).getD ix.toNat []) j (KV.toDL cs)) /\ wrK (primK P E base r post) tb ops.toList (depsK ops.toList []) n H0 O0 Rs rest (i + 1) bs (id :: rs) ⟨S.n, S.T, S.H, stA S.O id ⟨R.e, R.sz, ps', R.nn, true⟩, S.low⟩ s K := h
    obtain ⟨⟨h6, h7⟩, ps', h8, h⟩ := h
    have hlk := lk_stA (v := (⟨R.e, R.sz, ps', R.nn, true⟩ : KRow)) hR
    have hSf : look Sf.st.O id = some R.row := by rw [st_lookO, <- hO id hrs, hR]; rfl
    refine cons ⟨.any, [], [(id, KRow.row ⟨R.e, R.sz, ps', R.nn, true⟩)], true⟩ ⟨S.n, S.T, S.H, stA S.O id ⟨R.e, R.sz, ps', R.nn, true⟩, S.low⟩ bs (id :: rs) (fun b' => by simp [keys]) (fun b' => by simp [keys]) rfl
     ⟨⟨o, ho, hwr, fun T hy hTH hTO => ?_⟩, rfl, .inr ⟨id, _, rfl, rfl, memN_iff.1 g6, g7⟩⟩ (fun b' hb' => (by cases hb')) (fun b' hb' => by simp [keys] at hb'; subst hb'; exact hrs) (fun T hle => leq_row hle hR)
     (wrK_spec hT rest (i + 1) bs (id :: rs) ⟨S.n, S.T, S.H, stA S.O id ⟨R.e, R.sz, ps', R.nn, true⟩, S.low⟩ hl' hTT hH (fun b' hb' => by
      simp only [List.mem_cons, not_or] at hb'
      exact (hlk b').trans ((if_neg (fun e => hb'.1 e.symm)).trans (hO b' hb'.2))) h)
    have hTb : look T.O id = some R.row := (hTO id (by simp [keys])).trans hSf
    have hlen : ix.toNat < (rowsD R.sz R.ps).length := by rw [plenN_spec]; omega
    have hb := bar_storeRow (s := s) (E := E) (ds := KV.toDL cs) (row := (rowsD R.sz R.ps)[ix.toNat]) (i := ix.toNat) (R := R.row) hop hdst ((hop' (hy p hyp)).trans (kop_st hc)) hTb g1 ((hop' (hy x hyx)).trans (kop_st hd)) (by rw [cellsK_spec hcs, allD_av g4]) (by rw [(hT _ _ hti).sz, h1, toDL_len]) (by show (rowsD R.sz R.ps)[ix.toNat]? = _; simp [hlen]) (by rw [toDL_len]; exact g3)
    refine ⟨_, hb, ?_⟩
    have e2 : KRow.row ⟨R.e, R.sz, ps', R.nn, true⟩ = ⟨R.row.e, R.row.sz, R.row.rows.set ix.toNat (putG (rowsD R.sz R.ps)[ix.toNat] j (KV.toDL cs)), R.row.nn, true⟩ := by
     simp only [KRow.row, h8]
     rw [List.getD_eq_getElem?_getD, List.getElem?_eq_getElem hlen]; rfl
    rw [e2]
    exact leq_putS hTb
   ·exact h.elim
  ·rename_i t m k x hop
   replace h := kk_spec h; obtain ⟨c, hc, h⟩ := h
   replace h := kk_spec h; obtain ⟨kc, hk, h⟩ := h
   replace h := kk_spec h; obtain ⟨v, hv, h⟩ := h
   replace h := kk_spec h; obtain ⟨ti, hi, h⟩ := h
   replace h := kk_spec h; obtain ⟨⟨kt, et⟩, hr, h⟩ := h
   replace h := kk_spec h; obtain ⟨ki, hki, h⟩ := h
   replace h := kif_spec h; obtain ⟨hkd, h⟩ := h
   simp only [Bool.and_eq_true] at hkd
   have hym : m ∈ o.op.operands.toList := by rw [hop]; simp [Op.operands]
   have hyk : k ∈ o.op.operands.toList := by rw [hop]; simp [Op.operands]
   have hyx : x ∈ o.op.operands.toList := by rw [hop]; simp [Op.operands]
   split at h
   ·rename_i id
    replace h := kk_spec h; obtain ⟨R, hR, h⟩ := h
    replace h := kif_spec h; obtain ⟨h2, h⟩ := h
    simp only [Bool.and_eq_true, Bool.not_eq_true'] at h2
    obtain ⟨⟨⟨⟨⟨g1, g2⟩, g3⟩, g5⟩, g6⟩, g7⟩ := h2
    have hs := Nat.eq_of_beq_eq_true g2
    have hrs : id ∉ rs := fun hh => by rw [memN_iff.2 hh] at g5; cases g5
    obtain ⟨d, k1, k2, k3, ps', k4, h⟩ := h
    have hlk := lk_stA (v := (⟨R.e, R.sz, ps', R.nn, true⟩ : KRow)) hR
    have hSf : look Sf.st.O id = some R.row := by rw [st_lookO, <- hO id hrs, hR]; rfl
    refine cons ⟨.any, [], [(id, KRow.row ⟨R.e, R.sz, ps', R.nn, true⟩)], true⟩ ⟨S.n, S.T, S.H, stA S.O id ⟨R.e, R.sz, ps', R.nn, true⟩, S.low⟩ bs (id :: rs) (fun b' => by simp [keys]) (fun b' => by simp [keys]) rfl
     ⟨⟨o, ho, hwr, fun T hy hTH hTO => ?_⟩, rfl, .inr ⟨id, _, rfl, rfl, memN_iff.1 g6, g7⟩⟩ (fun b' hb' => (by cases hb')) (fun b' hb' => by simp [keys] at hb'; subst hb'; exact hrs) (fun T hle => leq_row hle hR)
     (wrK_spec hT rest (i + 1) bs (id :: rs) ⟨S.n, S.T, S.H, stA S.O id ⟨R.e, R.sz, ps', R.nn, true⟩, S.low⟩ hl' hTT hH (fun b' hb' => by
      simp only [List.mem_cons, not_or] at hb'
      exact (hlk b').trans ((if_neg (fun e => hb'.1 e.symm)).trans (hO b' hb'.2))) h)
    have hTb : look T.O id = some R.row := (hTO id (by simp [keys])).trans hSf
    have e0 : R.row.rows = rowsD 0 R.ps := by show rowsD R.sz R.ps = _; rw [hs]
    have hka : okDat kc = true := hkd.1
    have hb := bar_mapUpdate (s := s) (E := E) (R := R.row) (vD := v.toD) hop hdst ((hT _ _ hi).mp _ hr) (unK_spec (hT _ _ hki) k1) ((hop' (hy m hym)).trans (kop_st hc)) hTb hs g3 g1 (kD := kc.toD) (fun w ok μ ν yl u hu => okDat_rd hka (by rw [okDat_av hka]; exact hu)) (by rw [hop' (hy k hyk), kop_st hk, okDat_av hka]) k2 (by rw [e0]; exact k3) ((hop' (hy x hyx)).trans (kop_st hv)) (fun w ok μ ν yl u hu => okDat_rd hkd.2 hu)
    refine ⟨_, hb, ?_⟩
    have e2 : KRow.row ⟨R.e, R.sz, ps', R.nn, true⟩ = ⟨R.row.e, R.row.sz, msetD R.row.rows kc.toD v.toD, R.row.nn, true⟩ := by
     simp only [KRow.row]
     rw [show rowsD R.sz ps' = rowsD 0 ps' from by rw [hs], k4, show rowsD R.sz R.ps = rowsD 0 R.ps from by rw [hs]]
    rw [e2]
    exact leq_putS hTb
   ·exact h.elim
  ·exact h.elim
theorem drawW_spec {ops : Array Oper} {pz : List Nat} (hT : ∀ t i, tb t = some i -> TIOk P t i) {S : KSt} {s : E.σ} {Q : Exit -> St -> E.σ -> Prop} {K : KSt -> E.σ -> Prop} (hQ : ∀ S s, K S s -> Q .normal S.st s) (h : drawW (primK P E base r post) tb pz ops S s K) : AWN E base r ops 0 S.st s Q := by
 replace h := kif_spec h; obtain ⟨hok, h⟩ := h
 simp only [wOk, Bool.and_eq_true] at hok
 obtain ⟨⟨hB, hap⟩, haw⟩ := hok
 obtain ⟨L, Sf, Rs, hinv, hpur, hlen, hRlt, hk⟩ := drawFK_spec hT hB hap _ _ 0 [] S S [] s (fun j o h => by simpa using h) rfl (segInv_nil _ _ _ _) (fun p g o hg => by simp at hg) (fun p hp => by cases hp) h
 rw [Nat.zero_add] at hlen hRlt
 have hfn := freeN_le ops.toList
 rw [<- hlen] at hk haw hfn
 obtain ⟨W, S', w1, w2, w3, w4, w5⟩ := wrK_spec hT _ _ [] [] _ (fun (j : Nat) (o : Oper) (hj : (ops.toList.drop L.length)[j]? = some o) => (⟨by rw [List.getElem?_drop] at hj; simpa using hj, allWr_get haw o (List.mem_of_getElem? hj)⟩ : ops[L.length + j]? = some o /\ isWr o = true)) rfl (fun _ _ => rfl) (fun _ _ => rfl) hk
 have hsz : L.length + W.length = ops.size := by
  rw [w1, List.length_drop]; simp only [Array.length_toList] at hfn ⊢; omega
 have hdn : ∀ j, j < W.length -> dstAt ops (L.length + j) = none := fun j hj => by
  obtain ⟨o, ho, hw, _⟩ := (w2 j W[j] (by simp [hj])).1.op
  simp [dstAt, ho, (isWr_spec hw).2]
 have hrs : ∀ (p : Nat) (g : Sg), L[p]? = some g -> ∃ gk run, (p, gk) ∈ Rs /\ g = sgOf gk run := fun p g hp => by
  have := hinv.rs p g hp; rwa [Nat.zero_add] at this
 have hap' : apartB ops (depsK ops.toList []) 0 L.length = true := by
  simp only [apartB, List.all_eq_true, List.mem_range] at hap ⊢
  exact fun i hi j hj => hap i (by omega) j (by omega)
 have hmade : ∀ (i b : Nat), b ∉ ks S.H -> b ∈ keys Sf.st.H -> ownW b (depsK ops.toList []) i ops.toList L.length Rs = true -> b ∉ keys S.st.H /\ ∃ (j : Nat) (g : Sg), L[j]? = some g /\ b ∈ keys g.nh /\ ((depsK ops.toList []).getD i 0).testBit j = true := fun i b g1 g0 g2 => by
  have hb0 : b ∉ keys S.st.H := by
   show b ∉ keys (mapH S.H)
   rw [keys_mapH]; exact g1
  refine ⟨hb0, ?_⟩
  have h1 : b ∈ keys (segS ops (fun _ => true) 0 L S.st).H := by
   obtain ⟨v, hv⟩ := key_look g0
   rw [hinv.leq.H b] at hv
   exact look_key hv
  rw [segS_keysH] at h1
  rcases h1 with h1 | ⟨g, hg, hb⟩
  ·exact absurd h1 hb0
  ·obtain ⟨j, hj⟩ := List.mem_iff_getElem?.1 hg
   obtain ⟨gk, run, h2, rfl⟩ := hrs j g hj
   simp only [ownW, Bool.and_eq_true] at g2
   exact ⟨j, _, hj, hb, onlyBy_spec g2.1.2 _ h2 (by rw [<- keys_mapH]; exact hb)⟩
 have hbase : ∀ b, b ∈ ks S.O -> b ∈ keys S.st.O := fun b hb => by show b ∈ keys (mapO S.O); rw [keys_mapO]; exact hb
 have hnew : ∀ (p : Nat) (g : Sg), L[p]? = some g -> ∀ b, b ∈ ks S.O -> b ∉ keys g.no := fun p g hp b hb hh => by
  have h1 := (fresh_of (hinv.fresh p g hp)).row b hh
  simp only [usesRow, Bool.or_eq_false_iff] at h1
  rw [memN_iff.2 (hbase b hb)] at h1; cases h1.1.1
 refine AWN_segw (depsK ops.toList []) L W hB hsz hap' hinv.dis ?_ ?_ hdn ?_ ?_ hpur ?_ (w5 _ _ hdn hinv.leq) (hQ _ _ w4)
 ·simp only [freshL, List.all_eq_true, List.mem_range]
  intro i hi
  obtain ⟨g, hg⟩ : ∃ g, L[i]? = some g := ⟨L[i], by simp [hi]⟩
  rw [hg]
  simp only [Bool.and_eq_true, List.all_eq_true, List.mem_range, Bool.or_eq_true, beq_iff_eq]
  refine ⟨hinv.fresh i g hg, fun j hj => ?_⟩
  obtain ⟨g', hg'⟩ : ∃ g, L[j]? = some g := ⟨L[j], by simp [hj]⟩
  rw [hg']
  rcases hinv.apt i g j g' hg hg' with e | e | e
  ·exact .inl (.inl e)
  ·exact .inl (.inr e)
  ·refine .inr ?_
   simp only [Bool.and_eq_true, List.all_eq_true, Bool.not_eq_true']
   exact e
 ·have : ∀ (l : List Sg) (p : Nat), (∀ (q : Nat) (g : Sg), l[q]? = some g -> Obl P ops (depsK ops.toList []) 0 L S.st (p + q) g) -> Obls P ops (depsK ops.toList []) 0 L S.st p l := by
   intro l
   induction l with
   | nil => intro p _; trivial
   | cons g q ih =>
    intro p hh
    refine ⟨by simpa using hh 0 g rfl, ?_⟩
    exact ih (p + 1) (fun q' g' hq => by have := hh (q' + 1) g' (by simpa using hq); rwa [show p + (q' + 1) = p + 1 + q' from by omega] at this)
  exact this L 0 (fun q g hq => hinv.obl q g hq)
 ·intro p g q g' hp hq
  have hw := (w2 q g' hq).1
  obtain ⟨gk, run, h1, rfl⟩ := hrs p g hp
  rcases hw.tgt with ⟨b, B, e1, e2, e3, e4, e5, e6⟩ | ⟨b, R, e1, e2, e3, e4⟩
  ·by_cases hb : b ∈ ks gk.nh
   ·left
    simp only [ownW, Bool.and_eq_true] at e6
    exact onlyBy_spec e6.1.2 _ h1 hb
   ·right
    refine ⟨fun b0 hb0 => ?_, fun b0 hb0 => ?_⟩
    ·have hne : ¬ (b == b0) = true := fun e => hb (by
      have : b0 ∈ keys (mapH gk.nh) := hb0
      rw [keys_mapH] at this
      rw [show b = b0 from by simpa using e]; exact this)
     have hne' : (b == b0) = false := by simpa using hne
     simp [sgBox, hw.res, e1, AV.box, keys, memN, hne']
     simpa using (e3 b0).1
    ·simp [sgRow, hw.res, e1, e2, AV.hasRow, keys, memN]
     simpa using (e3 b0).2
  ·right
   refine ⟨fun b0 hb0 => by simp [sgBox, hw.res, e1, AV.box, keys, memN], fun b0 hb0 => ?_⟩
   have hne : (b == b0) = false := by
    cases hh : b == b0 with
    | false => rfl
    | true => exact absurd (show b ∈ keys (sgOf gk run).no from by rw [show b = b0 from by simpa using hh]; exact hb0) (hnew p _ hp b e3)
   simp [sgRow, hw.res, e1, e2, AV.hasRow, keys, memN, hne]
 ·intro p o q g' hp ho hq
  have hw := (w2 q g' hq).1
  rcases hw.tgt with ⟨b, B, e1, e2, e3, e4, e5, e6⟩ | ⟨b, R, e1, e2, e3, e4⟩
  ·have hm := hmade _ b e4 e5 e6
   simp only [ownW, Bool.and_eq_true] at e6
   rcases unreadW_spec e6.2 p hp with h1 | ⟨o', h1, h2⟩ | h1
   ·exact .inl h1
   ·refine .inr (.inl ?_)
    rw [nth_eq, Array.getElem?_toList, ho] at h1
    cases h1; exact h2
   ·refine .inr (.inr ⟨fun b' hb' => ?_, fun b' hb' => by rw [e2] at hb'; cases hb'⟩)
    have : b' = b := by rw [e1] at hb'; simpa [keys] using hb'
    subst this
    show look (segS ops (fun j => ((depsK ops.toList []).getD p 0).testBit j) 0 L S.st).H b' = none
    rw [segS_Hother L 0 S.st (fun j g hj hX hb => ?_)]
    ·exact look_none_of_key hm.1
    ·rw [Nat.zero_add] at hX
     obtain ⟨gk, run, h2, rfl⟩ := hrs j g hj
     rw [h1 _ h2 (by rw [<- keys_mapH]; exact hb)] at hX; cases hX
  ·rcases purW_spec e4 p hp with h1 | ⟨o', h1, h2⟩
   ·exact .inl h1
   ·refine .inr (.inl ?_)
    rw [nth_eq, Array.getElem?_toList, ho] at h1
    cases h1; exact h2
 ·intro q g' hq
  have hqW : q < W.length := (List.getElem?_eq_some_iff.1 hq).1
  have hw := (w2 q g' hq).1
  obtain ⟨o, ho, hwr', hall⟩ := hw.op
  obtain ⟨hgn, hdst⟩ := isWr_spec hwr'
  refine ⟨o, ho, hgn, fun X hX hXq hcl => ?_⟩
  have hosz := (Array.getElem?_eq_some_iff.1 ho).1
  have hT' : ∀ t, t ∈ names ops o -> look (stW ops X L W S.st).T t = look Sf.st.T t := fun t ht => by
   unfold stW
   rw [segS_Tnone _ _ _ hdn, hinv.leq.T t]
   refine segS_look L 0 _ _ rfl (fun j g hj hdj => ?_)
   have hjl := (List.getElem?_eq_some_iff.1 hj).1
   rw [Nat.zero_add] at hdj ⊢
   simp only [apartB, List.all_eq_true, List.mem_range] at hap
   have := hap (L.length + q) (by omega) j (by omega)
   simp only [Bool.or_eq_true, beq_iff_eq, Nat.zero_add] at this
   rcases this with ((h1 | h1) | h1) | h1
   ·omega
   ·rw [ho, hdj] at h1
    simp only [Bool.not_eq_true', Bool.or_eq_false_iff] at h1
    rw [memN_iff.2 ht] at h1; cases h1.1
   ·exact hX j (depOk_sound hB _ hosz _ h1)
   ·have := (depOk_sound hB j (by omega) _ h1).lt hB; omega
  have hother : ∀ (q2 : Nat) (g2 : Sg), W[q2]? = some g2 -> X (L.length + q2) = true -> (∀ b ∈ keys g'.nh, b ∉ keys g2.nh) /\ ∀ b ∈ keys g'.no, b ∉ keys g2.no := fun q2 g2 hq2 hX2 => by
   rcases Nat.lt_trichotomy q q2 with hlt | rfl | hlt
   ·exact w3 q q2 g' g2 hq hq2 hlt
   ·rw [hXq] at hX2; cases hX2
   ·have := w3 q2 q g2 g' hq2 hq hlt
    exact ⟨fun b hb hh => this.1 b hh hb, fun b hb hh => this.2 b hh hb⟩
  have hTH : ∀ b ∈ keys g'.nh, look (stW ops X L W S.st).H b = look Sf.st.H b := fun b hb => by
   unfold stW
   rw [segS_Hother _ _ _ (fun q2 g2 hq2 hX2 hb2 => (hother q2 g2 hq2 hX2).1 b hb hb2)]
   rcases hw.tgt with ⟨b', B, e1, e2, e3, e4, e5, e6⟩ | ⟨b', R, e1, e2, e3, e4⟩
   ·have : b = b' := by rw [e1] at hb; simpa [keys] using hb
    subst this
    obtain ⟨hb0, j0, g0, hj0, hbj, hbit⟩ := hmade _ b e4 e5 e6
    obtain ⟨v, hv⟩ := key_look (segS_has (ops := ops) (X := X) L 0 S.st (.inr ⟨j0, g0, hj0, by rw [Nat.zero_add]; exact hX j0 (depOk_sound hB _ hosz _ hbit), hbj⟩))
    have := (segS_lookH (ops := ops) (X := X) (Y := fun _ => true) L 0 S.st S.st _ _ (fun _ _ x => x) (fun _ _ x => x) (fun _ x => x) (fun _ x => x) hinv.dis (fun _ _ => rfl)).1 b v hv
    rw [hv, hinv.leq.H b]; exact this.symm
   ·rw [e1] at hb; cases hb
  have hTO : ∀ b ∈ keys g'.no, look (stW ops X L W S.st).O b = look Sf.st.O b := fun b hb => by
   unfold stW
   rw [segS_Oother _ _ _ (fun q2 g2 hq2 hX2 hb2 => (hother q2 g2 hq2 hX2).2 b hb hb2)]
   rcases hw.tgt with ⟨b', B, e1, e2, e3, e4, e5, e6⟩ | ⟨b', R, e1, e2, e3, e4⟩
   ·rw [e2] at hb; cases hb
   ·have : b = b' := by rw [e2] at hb; simpa [keys] using hb
    subst this
    rw [hinv.leq.O b, segS_Oother L 0 S.st (fun j g hj _ hh => hnew j g hj b e3 hh), segS_Oother L 0 S.st (fun j g hj _ hh => hnew j g hj b e3 hh)]
  obtain ⟨S'', hb, hl⟩ := hall (stW ops X L W S.st) (fun y hy => opnd_congr (fun t e => hT' t (List.mem_append_left _ (List.mem_filterMap.2 ⟨y, hy, by rw [e]; rfl⟩)))) hTH hTO
  refine ⟨S'', hb, hl.trans ?_⟩
  have hcongr : segS ops (fun j => X j || j == L.length + q) 0 L S.st = segS ops X 0 L S.st := segS_congr L 0 _ (fun j h1 h2 => by
   have : (j == L.length + q) = false := by simp; omega
   simp [this])
  have hdq : dstAt ops (L.length + q) = none := hdn q hqW
  have hmore := segS_more (ops := ops) (X := X) (m := L.length) (p := q) (S := segS ops X 0 L S.st) hq hXq (fun j g'' hg'' hpj hXj => ⟨fun t ht => (by rw [hdq] at ht; cases ht), (hother j g'' hg'' hXj).1, (hother j g'' hg'' hXj).2⟩)
  rw [hdq, hw.res] at hmore
  unfold stW
  rw [hcongr]
  exact hmore
end Go.Proofs.Ytfilnnbfppokmaa.Aw
namespace Go.Proofs.Ytfilnnbfppokmaa.Aw
open Go Go.RowKit
variable {P : Program} {E : Env P} {base : Nat} {r : Option Nat}
theorem posN_get : ∀ {l : List Nat} {i : Nat}, i ∈ l -> l[posN i l]? = some i
 | [], i, h => by cases h
 | k :: q, i, h => by
  unfold posN
  split
  ·rename_i hb
   rw [Nat.eq_of_beq_eq_true hb]; rfl
  ·rename_i hb
   rcases List.mem_cons.1 h with e | h
   ·subst e
    rw [Nat.beq_refl] at hb; cases hb
   ·rw [List.getElem?_cons_succ]; exact posN_get h
theorem posN_not : ∀ {l : List Nat} {i : Nat}, i ∉ l -> posN i l = l.length
 | [], i, h => rfl
 | k :: q, i, h => by
  unfold posN
  split
  ·rename_i hb
   exact absurd (by rw [Nat.eq_of_beq_eq_true hb]; simp) h
  ·rw [posN_not (fun hm => h (List.mem_cons_of_mem _ hm)), List.length_cons]
theorem posN_at : ∀ {l : List Nat} {k i : Nat}, l.Nodup -> l[k]? = some i -> posN i l = k
 | [], k, i, _, h => by simp at h
 | x :: q, 0, i, hn, h => by
  simp at h; subst h
  unfold posN
  rw [Nat.beq_refl]
 | x :: q, k + 1, i, hn, h => by
  have h' : q[k]? = some i := by simpa using h
  have hne : Nat.beq x i = false := by
   cases hb : Nat.beq x i with
   | false => rfl
   | true =>
    have := Nat.eq_of_beq_eq_true hb
    subst this
    exact absurd (List.mem_of_getElem? h') (List.nodup_cons.1 hn).1
  unfold posN
  rw [hne]
  simp only
  rw [posN_at (List.nodup_cons.1 hn).2 h']
structure Perm (ops ops' : Array Oper) (f : Nat -> Nat) : Prop where
 size : ops'.size = ops.size
 op : ∀ i o, ops[i]? = some o -> ∃ A : Array Edge, (∀ e ∈ A, e ∈ o.after) /\ ops'[f i]? = some (renO f { o with after := A })
 no : ∀ i, ops[i]? = none -> ops'[f i]? = none
 back : ∀ k, k < ops.size -> ∃ i, i < ops.size /\ f i = k
 inj : ∀ i j, i < ops.size -> j < ops.size -> f i = f j -> i = j
theorem renO_wp {F : Fence} {n : Nat} {o : Oper} {A : Array Edge} {f : Nat -> Nat} {a : Act} {w : World} {K : Act -> World -> Prop} {Q : Exit -> Act -> World -> Prop} : (renO f { o with after := A }).wpIn F n P a w K Q = o.wpIn F n P a w K Q := by
 cases o; rfl
theorem renO_about {o : Oper} {A : Array Edge} {f : Nat -> Nat} {w : World} {ρ : Operand -> Value} : (renO f { o with after := A }).about P w ρ = o.about P w ρ := by cases o; rfl
theorem perm_yielded {ops ops' : Array Oper} {f : Nat -> Nat} (h : Perm ops ops' f) (t : Array Value) (j : Nat) : yielded ops' t (f j) = yielded ops t j := by
 unfold yielded
 cases ho : ops[j]? with
 | none => rw [h.no j ho]
 | some o => obtain ⟨A, _, hA⟩ := h.op j o ho; rw [hA]; cases o; rfl
theorem perm_wanted {ops ops' : Array Oper} {f : Nat -> Nat} (h : Perm ops ops' f) (t : Array Value) (o : Oper) (A : Array Edge) : Region.wanted (renO f { o with after := A }) (yielded ops' t) = Region.wanted o (yielded ops t) := by
 cases o with
 | mk dst op type pos after guard =>
  cases guard with
  | none => rfl
  | some g =>
   obtain ⟨j, want⟩ := g
   show (yielded ops' t (f j) == some want) = (yielded ops t j == some want)
   rw [perm_yielded h]
theorem perm_wpOp {ops ops' : Array Oper} {f : Nat -> Nat} (h : Perm ops ops' f) {F : Fence} {n : Nat} {Q : Exit -> Act -> World -> Prop} {i : Nat} {K : Act -> World -> Prop} {a : Act} {w : World} (hi : i < ops.size) :
  wpOpIn F n P ops' Q (f i) K a w = wpOpIn F n P ops Q i K a w := by
 have ho : ops[i]? = some ops[i] := by simp [hi]
 obtain ⟨A, _, hA⟩ := h.op i _ ho
 unfold wpOpIn
 rw [hA, ho]
 simp only
 rw [perm_wanted h, renO_wp, renO_about]
 cases ops[i]; rfl
theorem wpOpIn_mono2 {F : Fence} {n : Nat} {ops : Array Oper} {Q : Exit -> Act -> World -> Prop} {i : Nat} {K K' : Act -> World -> Prop} {a : Act} {w : World} (hk : ∀ a w, K a w -> K' a w) (h : wpOpIn F n P ops Q i K a w) : wpOpIn F n P ops Q i K' a w := by
 unfold wpOpIn at h ⊢
 split
 ·rename_i ho; rw [ho] at h; exact hk _ _ h
 ·rename_i o ho
  rw [ho] at h
  simp only at h
  split
  ·rename_i hw; rw [if_pos hw] at h; exact Oper.wpIn_mono hk h
  ·rename_i hw; rw [if_neg hw] at h; exact ⟨h.1, hk _ _ h.2⟩
def Rel2 (ops : Array Oper) (f : Nat -> Nat) (l l' : Array Bool) : Prop := l.size = ops.size /\ l'.size = ops.size /\ ∀ i, i < ops.size -> l'[f i]? = l[i]?
theorem rel2_getD {ops ops' : Array Oper} {f : Nat -> Nat} (h : Perm ops ops' f) {l l' : Array Bool} (hl : Rel2 ops f l l') (j : Nat) (b : Bool) : l'.getD (f j) b = l.getD j b := by
 obtain ⟨h1, h2, h3⟩ := hl
 rw [Array.getD_eq_getD_getElem?, Array.getD_eq_getD_getElem?]
 by_cases hj : j < ops.size
 ·rw [h3 j hj]
 ·have e1 : l[j]? = none := by rw [Array.getElem?_eq_none_iff]; omega
  have e2 : ops'[f j]? = none := h.no j (by rw [Array.getElem?_eq_none_iff]; omega)
  have e3 : l'[f j]? = none := by
   rw [Array.getElem?_eq_none_iff] at e2 ⊢
   have := h.size; omega
  rw [e1, e3]
theorem perm_ready {ops ops' : Array Oper} {f : Nat -> Nat} (h : Perm ops ops' f) {l l' : Array Bool} (hl : Rel2 ops f l l') {i : Nat} (hi : i < ops.size) (hr : i ∈ Region.ready .any ops l) : f i ∈ Region.ready .any ops' l' := by
 have hd := rel2_getD h hl
 have ho : ops[i]? = some ops[i] := by simp [hi]
 obtain ⟨A, hA, hop⟩ := h.op i _ ho
 rw [mem_ready] at hr ⊢
 rw [hd]
 obtain ⟨g1, o, g2, g3⟩ := hr
 rw [ho] at g2
 cases g2
 refine ⟨g1, _, hop, fun e he hb => ?_⟩
 simp only [renO, Array.mem_map] at he
 obtain ⟨e0, he0, rfl⟩ := he
 have := g3 e0 (hA _ he0) (by cases e0; exact hb)
 rw [hd]; exact this
theorem backL_spec {i : Nat} : ∀ {l : List Edge}, backL i l = true -> ∀ e ∈ l, Region.binds .any e = true -> e.on < i
 | [], _, e, he, _ => by cases he
 | x :: q, h, e, he, hb => by
  unfold backL at h
  rcases List.mem_cons.1 he with rfl | he
  ·rw [hb] at h
   simp only [Bool.and_eq_true, Nat.blt_eq] at h
   exact h.1
  ·split at h
   ·simp only [Bool.and_eq_true] at h; exact backL_spec h.2 e he hb
   ·exact backL_spec h e he hb
theorem backOk_spec : ∀ {l : List Oper} {s : Nat}, backOk s l = true -> ∀ k o, l[k]? = some o -> ∀ e ∈ o.after, Region.binds .any e = true -> e.on < s + k
 | [], s, _, k, o, ho, _, _, _ => by simp at ho
 | x :: q, s, h, k, o, ho, e, he, hb => by
  unfold backOk at h
  simp only [Bool.and_eq_true] at h
  cases k with
  | zero =>
   simp at ho; subst ho
   exact backL_spec h.1 e (by simpa using he) hb
  | succ k =>
   have := backOk_spec h.2 k o (by simpa using ho) e he hb
   omega
theorem back_done {ops : Array Oper} (hb : backOk 0 ops.toList = true) {l : Array Bool} (hl : l.size = ops.size) (h0 : Region.ready .any ops l = []) : ∀ (i : Nat), i < ops.size -> l.getD i true = true := by
 intro i
 induction i using Nat.strongRecOn with
 | _ i ih =>
  intro hi
  cases hg : l.getD i true with
  | true => rfl
  | false =>
   have ho : ops[i]? = some ops[i] := by simp [hi]
   have : i ∈ Region.ready .any ops l := mem_ready.2 ⟨hg, _, ho, fun e he hbe => by
    have hlt : e.on < 0 + i := backOk_spec hb i _ (by simpa using ho) e he hbe
    have := ih e.on (by omega) (by omega)
    rw [Array.getD_eq_getD_getElem?] at this ⊢
    have hs : l[e.on]? = some (l[e.on]'(by omega)) := by simp [show e.on < l.size by omega]
    rw [hs] at this ⊢
    exact this⟩
   rw [h0] at this; cases this
theorem perm_wp {ops ops' : Array Oper} {f : Nat -> Nat} (h : Perm ops ops' f) (hb : backOk 0 ops.toList = true) {F : Fence} {n : Nat} {Q : Exit -> Act -> World -> Prop} : ∀ (fuel : Nat) (l l' : Array Bool) (a : Act) (w : World), Rel2 ops f l l' -> wpAnyIn F n P .any ops' Q fuel l' a w -> wpAnyIn F n P .any ops Q fuel l a w
 | 0, l, l', a, w, hl, hw => by
  refine ⟨?_, hw.2⟩
  refine List.eq_nil_iff_forall_not_mem.2 (fun i hi => ?_)
  have hlt : i < ops.size := by obtain ⟨_, o, ho, _⟩ := mem_ready.1 hi; exact (Array.getElem?_eq_some_iff.1 ho).1
  have := perm_ready h hl hlt hi
  rw [hw.1] at this; cases this
 | fuel + 1, l, l', a, w, hl, hw => by
  refine ⟨fun h0 => hw.1 ?_, fun i hi => ?_⟩
  ·refine List.eq_nil_iff_forall_not_mem.2 (fun k hk => ?_)
   have hlt : k < ops'.size := by obtain ⟨_, o, ho, _⟩ := mem_ready.1 hk; exact (Array.getElem?_eq_some_iff.1 ho).1
   obtain ⟨i, hi, rfl⟩ := h.back k (h.size ▸ hlt)
   have h1 := (mem_ready.1 hk).1
   rw [rel2_getD h hl, back_done hb hl.1 h0 i hi] at h1
   cases h1
  ·have hlt : i < ops.size := by obtain ⟨_, o, ho, _⟩ := mem_ready.1 hi; exact (Array.getElem?_eq_some_iff.1 ho).1
   have := hw.2 (f i) (perm_ready h hl hlt hi)
   rw [perm_wpOp h hlt] at this
   refine wpOpIn_mono2 (fun a w hk => perm_wp h hb fuel _ _ a w ?_ hk) this
   obtain ⟨h1, h2, h3⟩ := hl
   refine ⟨by simp [h1], by simp [h2], fun j hj => ?_⟩
   rw [Array.getElem?_setIfInBounds, Array.getElem?_setIfInBounds]
   by_cases e : i = j
   ·subst e
    have hfi : f i < ops.size := by
     obtain ⟨A, _, hA⟩ := h.op i _ (by simp [hlt] : ops[i]? = some ops[i])
     have := (Array.getElem?_eq_some_iff.1 hA).1
     have := h.size; omega
    rw [if_pos rfl, if_pos rfl, if_pos (by omega), if_pos (by omega)]
   ·rw [if_neg (fun he => e (h.inj _ _ hlt hj he)), if_neg e]
    exact h3 j hj
theorem AWN_perm {ops ops' : Array Oper} {f : Nat -> Nat} (h : Perm ops ops' f) (hb : backOk 0 ops.toList = true) {S : St} {s : E.σ} {Q : Exit -> St -> E.σ -> Prop} (hw : AWN E base r ops' 0 S s Q) : AWN E base r ops 0 S s Q := by
 intro M a w hc fuel listed hf hp
 have hp' : ∀ j, j < ops.size -> listed[j]? = some false := fun j hj => by
  have h1 : listed[j]? = some (Nat.blt j 0) := hp.2 j hj
  exact h1
 refine perm_wp h hb fuel listed listed a w ⟨hp.1, hp.1, fun i hi => ?_⟩ (hw M a w hc fuel listed (by rw [h.size]; exact hf) ⟨by rw [h.size]; exact hp.1, fun j hj => ?_⟩)
 ·have hfi : f i < ops.size := by
   obtain ⟨A, _, hA⟩ := h.op i _ (by simp [hi] : ops[i]? = some ops[i])
   have := (Array.getElem?_eq_some_iff.1 hA).1
   have := h.size; omega
  rw [hp' _ hfi, hp' _ hi]
 ·exact hp' j (h.size ▸ hj)
theorem dropW_mem {ops : List Oper} {e : Edge} : ∀ {l : List Edge}, e ∈ dropW ops l -> e ∈ l
 | [], h => h
 | x :: q, h => by
  unfold dropW at h
  split at h
  ·split at h
   ·exact List.mem_cons_of_mem _ (dropW_mem h)
   ·rcases List.mem_cons.1 h with rfl | h
    ·exact List.mem_cons_self ..
    ·exact List.mem_cons_of_mem _ (dropW_mem h)
  ·rcases List.mem_cons.1 h with rfl | h
   ·exact List.mem_cons_self ..
   ·exact List.mem_cons_of_mem _ (dropW_mem h)
theorem offA_mem {ops : List Oper} {o : Oper} {e : Edge} (h : e ∈ offA ops o) : e ∈ o.after := by
 unfold offA at h
 split at h
 ·exact h
 ·have := dropW_mem (by simpa using h)
  simpa using this
theorem ordW_mem : ∀ {l : List Oper} {i k : Nat}, k ∈ ordW i l ↔ i <= k /\ k < i + l.length := by
 have key : ∀ (b : Bool) (l : List Oper) (i k : Nat), k ∈ selW b i l -> i <= k /\ k < i + l.length := by
  intro b l
  induction l with
  | nil => intro i k h; cases h
  | cons o q ih =>
   intro i k h
   unfold selW at h
   split at h
   ·rcases List.mem_cons.1 h with e | h
    ·subst e; simp
    ·have := ih _ _ h; simp only [List.length_cons]; omega
   ·have := ih _ _ h; simp only [List.length_cons]; omega
 have key2 : ∀ (l : List Oper) (i k : Nat), i <= k -> k < i + l.length -> k ∈ selW false i l \/ k ∈ selW true i l := by
  intro l
  induction l with
  | nil => intro i k h1 h2; simp at h2; omega
  | cons o q ih =>
   intro i k h1 h2
   simp only [List.length_cons] at h2
   by_cases e : k = i
   ·subst e
    cases hw : isWr o with
    | true => right; unfold selW; rw [hw]; simp
    | false => left; unfold selW; rw [hw]; simp
   ·have := ih (i + 1) k (by omega) (by omega)
    rcases this with h | h
    ·left; unfold selW; split
     ·exact List.mem_cons_of_mem _ h
     ·exact h
    ·right; unfold selW; split
     ·exact List.mem_cons_of_mem _ h
     ·exact h
 intro l i k
 unfold ordW
 rw [List.mem_append]
 constructor
 ·rintro (h | h)
  ·exact key _ _ _ _ h
  ·exact key _ _ _ _ h
 ·rintro ⟨h1, h2⟩
  exact key2 l i k h1 h2
theorem selW_nodup : ∀ (b : Bool) (l : List Oper) (i : Nat), (selW b i l).Nodup /\ ∀ k ∈ selW b i l, i <= k
 | b, [], i => ⟨List.nodup_nil, fun k h => by cases h⟩
 | b, o :: q, i => by
  obtain ⟨h1, h2⟩ := selW_nodup b q (i + 1)
  unfold selW
  split
  ·refine ⟨List.nodup_cons.2 ⟨fun h => by have := h2 _ h; omega, h1⟩, fun k h => ?_⟩
   rcases List.mem_cons.1 h with e | h
   ·omega
   ·have := h2 _ h; omega
  ·exact ⟨h1, fun k h => by have := h2 _ h; omega⟩
theorem selW_kind : ∀ (b : Bool) (l : List Oper) (i k : Nat), k ∈ selW b i l -> ∃ o, l[k - i]? = some o /\ i <= k /\ isWr o = b
 | b, [], i, k, h => by cases h
 | b, o :: q, i, k, h => by
  unfold selW at h
  split at h
  ·rename_i hb
   rcases List.mem_cons.1 h with e | h
   ·subst e
    refine ⟨o, by simp, Nat.le_refl _, ?_⟩
    cases b <;> cases hw : isWr o <;> simp_all
   ·obtain ⟨o', h1, h2, h3⟩ := selW_kind b q (i + 1) k h
    exact ⟨o', by rw [show k - i = (k - (i + 1)) + 1 by omega]; exact h1, by omega, h3⟩
  ·obtain ⟨o', h1, h2, h3⟩ := selW_kind b q (i + 1) k h
   exact ⟨o', by rw [show k - i = (k - (i + 1)) + 1 by omega]; exact h1, by omega, h3⟩
theorem ordW_nodup (l : List Oper) (i : Nat) : (ordW i l).Nodup := by
 unfold ordW
 refine List.nodup_append.2 ⟨(selW_nodup _ _ _).1, (selW_nodup _ _ _).1, fun a ha b hb e => ?_⟩
 subst e
 obtain ⟨o, h1, _, h2⟩ := selW_kind _ _ _ _ ha
 obtain ⟨o', h3, _, h4⟩ := selW_kind _ _ _ _ hb
 rw [h1] at h3
 cases h3
 rw [h2] at h4; cases h4
theorem perm_permA (ops : Array Oper) : Perm ops (permA ops) (fun i => posN i (ordW 0 ops.toList)) := by
 have hnd := ordW_nodup ops.toList 0
 have hmem : ∀ k, k ∈ ordW 0 ops.toList ↔ k < ops.size := fun k => by rw [ordW_mem]; simp
 have hlen : (ordW 0 ops.toList).length = ops.size := by
  have key : ∀ (l : List Oper) (i : Nat), (selW false i l).length + (selW true i l).length = l.length := by
   intro l
   induction l with
   | nil => intro i; rfl
   | cons o q ih =>
    intro i
    have := ih (i + 1)
    unfold selW
    cases isWr o <;> simp <;> omega
  unfold ordW
  rw [List.length_append, key, Array.length_toList]
 have hall : ∀ (l : List Nat), (∀ k ∈ l, k < ops.size) -> permL ops.toList (ordW 0 ops.toList) l = l.map fun k => renO (fun i => posN i (ordW 0 ops.toList)) { (ops.getD k default) with after := offA ops.toList (ops.getD k default) } := by
  intro l
  induction l with
  | nil => intro _; rfl
  | cons k q ih =>
   intro h
   have hk := h k (by simp)
   unfold permL
   rw [nth_eq, Array.getElem?_toList]
   have ho : ops[k]? = some ops[k] := by simp [hk]
   rw [ho]
   simp only [List.map_cons]
   rw [ih (fun k' h' => h k' (List.mem_cons_of_mem _ h')), Array.getD_eq_getD_getElem?, ho]
   rfl
 have hperm : (permA ops).toList = (ordW 0 ops.toList).map fun k => renO (fun i => posN i (ordW 0 ops.toList)) { (ops.getD k default) with after := offA ops.toList (ops.getD k default) } := by
  unfold permA
  simp only
  exact hall _ (fun k hk => (hmem k).1 hk)
 have hsz : (permA ops).size = ops.size := by rw [<- Array.length_toList, hperm, List.length_map, hlen]
 refine ⟨hsz, fun i o ho => ?_, fun i ho => ?_, fun k hk => ?_, fun i j hi hj he => ?_⟩
 ·have hi := (Array.getElem?_eq_some_iff.1 ho).1
  refine ⟨offA ops.toList o, fun e he => offA_mem he, ?_⟩
  rw [<- Array.getElem?_toList, hperm, List.getElem?_map, posN_get ((hmem i).2 hi)]
  simp only [Option.map_some]
  rw [Array.getD_eq_getD_getElem?, ho]; rfl
 ·have hi : ¬ i < ops.size := by rw [Array.getElem?_eq_none_iff] at ho; omega
  rw [posN_not (fun h => hi ((hmem i).1 h)), hlen, Array.getElem?_eq_none_iff]
  omega
 ·have hk' : k < (ordW 0 ops.toList).length := by rw [hlen]; exact hk
  obtain ⟨i, hi⟩ : ∃ i, (ordW 0 ops.toList)[k]? = some i := ⟨_, List.getElem?_eq_getElem hk'⟩
  exact ⟨i, (hmem i).1 (List.mem_of_getElem? hi), posN_at hnd hi⟩
 ·have h1 := posN_get ((hmem i).2 hi)
  have h2 := posN_get ((hmem j).2 hj)
  have he : posN i (ordW 0 ops.toList) = posN j (ordW 0 ops.toList) := he
  rw [he] at h1
  rw [h1] at h2
  exact Option.some.inj h2
end Go.Proofs.Ytfilnnbfppokmaa.Aw
namespace Go.Proofs.Ytfilnnbfppokmaa.Aw
open Go Go.RowKit
universe u
variable {P : Program} {E : Env P} {base : Nat} {r : Option Nat} {post : KV -> List KRow -> Prop} {tb : Nat -> Option TI}
theorem KQ_of {Q : Exit -> KSt -> E.σ -> Prop} {e : Exit} {S : KSt} {s : E.σ} (h : Q e S s) : KQ Q e S.st s := ⟨S, Weak.refl _, h⟩
theorem onLt_spec {n : Nat} : ∀ {l : List Edge}, onLt n l = true -> ∀ e ∈ l, e.on < n
 | [], _, e, he => by cases he
 | x :: r, h, e, he => by
  simp only [onLt, Bool.and_eq_true, Nat.blt_eq] at h
  rcases List.mem_cons.1 he with rfl | he
  ·exact h.1
  ·exact onLt_spec h.2 e he
theorem onOk_spec {n : Nat} : ∀ {l : List Oper}, onOk n l = true -> ∀ o ∈ l, ∀ e ∈ o.after, e.on < n
 | [], _, o, ho => by cases ho
 | x :: r, h, o, ho => by
  simp only [onOk, Bool.and_eq_true] at h
  rcases List.mem_cons.1 ho with rfl | ho
  ·exact fun e he => onLt_spec h.1 e (by simpa using he)
  ·exact onOk_spec h.2 o ho
theorem wpK_aw {pz : List Nat} (hm : P.follows .mixedOrders = true) (hT : ∀ t i, tb t = some i -> TIOk P t i) : ∀ {c : Code}, drawsOk pz c = true -> ∀ {S : KSt} {s : E.σ} {Q : Exit -> KSt -> E.σ -> Prop}, wpK (primK P E base r post) tb pz c S s Q -> AW E base r c S.st s (KQ Q) := by
 intro c hdr
 induction c with
 | seq x y ihx ihy =>
  simp only [drawsOk, Bool.and_eq_true] at hdr
  replace ihx := @ihx hdr.1; replace ihy := @ihy hdr.2
  intro S s Q h
  refine AW_seq ((ihx h).mono ?_)
  rintro e S' s' ⟨S'', hw, hq⟩
  cases e with
  | normal => exact AW_weak hw (ihy hq)
  | _ => exact ⟨S'', hw, hq⟩
 | skip => exact fun h => AW_skip (KQ_of h)
 | label l => exact fun h => AW_label (KQ_of h)
 | exit id => exact fun h => AW_exit (KQ_of h)
 | goto l => exact fun h => AW_goto (KQ_of h)
 | ret => exact fun h => AW_ret (KQ_of h)
 | block id c ih =>
  replace ih := @ih hdr
  intro S s Q h
  refine AW_block ((ih h).mono ?_)
  rintro e S' s' ⟨S'', hw, hq⟩
  cases e with
  | exit j =>
   simp only [blkK] at hq
   by_cases hj : j = id
   ·subst hj
    simp only [Nat.beq_refl] at hq
    simp only [blockQ, if_true]
    exact ⟨S'', hw, hq⟩
   ·have : Nat.beq j id = false := by cases h : Nat.beq j id with
     | false => rfl
     | true => exact absurd (Nat.eq_of_beq_eq_true h) hj
    rw [this] at hq
    simp only [blockQ, if_neg hj]
    exact ⟨S'', hw, hq⟩
  | _ => exact ⟨S'', hw, hq⟩
 | scope c ih =>
  replace ih := @ih hdr
  intro S s Q h
  refine AW_scope ((ih h).mono ?_)
  rintro e S' s' ⟨S'', hw, hq⟩
  cases e with
  | goto l => exact hq.elim
  | _ => exact ⟨S'', hw, hq⟩
 | cond c x y ihx ihy =>
  simp only [drawsOk, Bool.and_eq_true] at hdr
  replace ihx := @ihx hdr.1; replace ihy := @ihy hdr.2
  intro S s Q h
  replace h := kk_spec h; obtain ⟨v, hv, h⟩ := h
  have hv' := kop_st hv
  split at h
  ·exact AW_cond hv' (fun _ => ihx h) (fun hb => by cases hb)
  ·exact AW_cond hv' (fun hb => by cases hb) (fun _ => ihy h)
  ·rename_i b
   split at h
   ·exact h
   have key : ∀ v : KV, v.av = .d (.bool b) -> Leq S.st (S.lit c v).st := fun v hvv => by
    cases c with
    | tmp t => exact lit_leq hv rfl hvv
    | _ => exact Leq.refl _
   refine AW_cond hv' (fun hb => ?_) (fun hb => ?_)
   ·subst hb
    exact AW_weak (key .tt rfl).less.weak (ihx (h.1 rfl))
   ·subst hb
    exact AW_weak (key .ff rfl).less.weak (ihy (h.2 rfl))
  ·exact h.elim
 | region id ops d =>
  intro S s Q h
  cases d with
  | false =>
   unfold wpK at h
   split at h
   ·exact h
   ·exact regK_spec hT (fun S s h => KQ_of h) h
  | true =>
   unfold wpK at h
   split at h
   ·exact h
   refine AW_region_draw hm ?_
   have ex : (∀ o ∈ ops.toList, ∀ e ∈ o.after, e.on < ops.size) -> exK (primK P E base r post) tb (pzOf pz ops.toList) ops.toList (lenK ops.toList + 1) (enumU 0 ops.toList) S s (Q .normal) -> AWN E base r ops 0 S.st s (KQ Q) := fun hdr h => by
    have := exK_spec (ops := ops) hT (Q := fun e S s => e = .normal /\ KQ Q .normal S s) (fun S s h => ⟨rfl, KQ_of h⟩) (fun c S s h => by cases h.1) _ (enumU 0 ops.toList) S s (fun p hp => by simpa using enumU_get hp) enumU_nodup (fun i o ho e he => hdr o (List.mem_of_getElem? (by rw [Array.getElem?_toList]; exact ho)) e he) h
    intro M a w hc fuel listed hf hp
    refine wpAnyIn_mono' (fun e a w k => ?_) _ _ _ _ (this M a w hc fuel listed (by rw [enumU_len]; simpa using hf) ⟨hp.1, fun j hj => ?_⟩)
    ·obtain ⟨S', s', M', ⟨rfl, q⟩, rest⟩ := k
     exact ⟨S', s', M', q, rest⟩
    rw [hp.2 j hj]
    have hb : Nat.blt j 0 = false := rfl
    simp only
    rw [hb, (undone_iff (U := enumU 0 ops.toList) (j := j)).2 ⟨ops[j], enumU_mem (by simp [hj])⟩]; rfl
   unfold drawsOk at hdr
   split at h
   ·rename_i hex
    rw [hex] at hdr
    simp only [List.all_eq_true, Nat.blt_eq] at hdr
    split at h
    ·obtain ⟨hb, h⟩ := kif_spec h
     exact AWN_perm (perm_permA ops) hb (drawW_spec hT (fun S s h => KQ_of h) h)
    split at h
    ·obtain ⟨hd, h⟩ := kif_spec h
     simp only [drawOk, Bool.and_eq_true] at hd
     exact drawK_spec hT hd.1 (Q := KQ Q) (fun S s h => KQ_of h) ops.toList 0 0 [] S S [] s (fun j o h => by simpa using h) (by simp) rfl (by simpa using hd.2) (segInv_nil _ _ _ _) h
    exact ex (fun o ho e he => hdr o ho e (by simpa using he)) h
   rename_i hex
   split at h
   ·obtain ⟨hon, h⟩ := kif_spec h
    exact ex (fun o ho e he => by have := onOk_spec hon o ho e he; rwa [lenK_eq, Array.length_toList] at this) h
   rename_i hno
   rw [hex] at hdr
   simp only [hno, Bool.false_or, drawOk, Bool.and_eq_true] at hdr
   exact drawK_spec hT hdr.1 (Q := KQ Q) (fun S s h => KQ_of h) ops.toList 0 0 [] S S [] s (fun j o h => by simpa using h) (by simp) rfl (by simpa using hdr.2) (segInv_nil _ _ _ _) h
 | _ => exact fun h => h
end Go.Proofs.Ytfilnnbfppokmaa.Aw
namespace Go.Proofs.Ytfilnnbfppokmaa.Aw
open Go Go.RowKit
universe u
variable {P : Program} {E : Env P} {base : Nat} {r : Option Nat} {post : KV -> List KRow -> Prop} {tb : Nat -> Option TI} {pz : List Nat}
structure SeatOk (P : Program) (tb : Nat -> Option TI) : Prop where
 tab : ∀ t i, tb t = some i -> TIOk P t i
 mix : P.follows .mixedOrders = true
def resK (tb : Nat -> Option TI) (S : KSt) : ResultVar -> Option KV
 | .tmp t => lk S.T t
 | .cell ad t => match lk S.T ad with
  | some (.loc b off) => match lk S.H b with
   | some B => match tb t with
    | some i => match i.ag with
     | false => nth B.cells off
     | true => match Nat.ble (off + i.sz) (lenK B.cells) with
      | true => some (.agg (takeK i.sz (dropK off B.cells)))
      | false => none
    | none => none
   | none => none
  | _ => none
def resKL (tb : Nat -> Option TI) (S : KSt) : List ResultVar -> Option (List KV)
 | [] => some []
 | x :: r => match resK tb S x with
  | some c => match resKL tb S r with
   | some l => some (c :: l)
   | none => none
  | none => none
theorem resK_spec (hT : ∀ t i, tb t = some i -> TIOk P t i) {S : KSt} {x : ResultVar} {c : KV} (h : resK tb S x = some c) : resV P S.st x = some c.av := by
 cases x with
 | tmp t => simp only [resK] at h; simp only [resV, st_look, h, Option.map_some]
 | cell ad t =>
  simp only [resK] at h
  split at h
  ·rename_i b off h1
   split at h
   ·rename_i B h2
    split at h
    ·rename_i i h3
     have hi := hT _ _ h3
     simp only [resV, st_look, h1, Option.map_some, KV.av, st_lookH, h2, hi.ag]
     cases hag : i.ag with
     | false =>
      rw [hag] at h
      simp only [show B.blk.cells = KV.avL B.cells from rfl, nth_avL, h, Option.map_some]
     | true =>
      rw [hag] at h
      simp only [hi.sz, show B.blk.cells = KV.avL B.cells from rfl, avL_len]
      simp only at h
      split at h
      ·rename_i hb
       cases h
       rw [if_pos hb, avL_drop, avL_take]; rfl
      ·cases h
    ·cases h
   ·cases h
  ·cases h
theorem resKL_spec (hT : ∀ t i, tb t = some i -> TIOk P t i) {S : KSt} : ∀ {l : List ResultVar} {cs : List KV}, resKL tb S l = some cs -> resVL P S.st l = some (KV.avL cs)
 | [], cs, h => by simp [resKL] at h; subst h; rfl
 | x :: r, cs, h => by
  simp only [resKL] at h
  cases h1 : resK tb S x with
  | none => rw [h1] at h; cases h
  | some c =>
   cases h2 : resKL tb S r with
   | none => rw [h1, h2] at h; cases h
   | some l =>
    rw [h1, h2] at h
    simp only [Option.some.injEq] at h; subst h
    simp only [resVL, resK_spec hT h1, resKL_spec hT h2, KV.avL]
def oneK : List KV -> KV
 | [c] => c
 | cs => .tup cs
theorem oneK_spec (cs : List KV) : (oneK cs).av = oneOf (KV.avL cs) := by
 cases cs with
 | nil => rfl
 | cons c r => cases r <;> rfl
def KSt.less (S : KSt) (ids : List Nat) : KSt := ⟨S.n, S.T, S.H, lessK ids S.O, S.low⟩
theorem KSt.less_st (S : KSt) (ids : List Nat) : (S.less ids).st = lessO S.st ids := by simp only [KSt.less, KSt.st, lessO, lessK_spec]
def ret1K (ids : List Nat) (S : KSt) (c : KV) : Option KV := match c with
 | .osl id => match idxK' id ids 0 with
  | some i => some (.osl i)
  | none => snapK true (S.less ids) 8 (.osl id)
 | .agg _ => none
 | .fn f cs => snapK true (S.less ids) 8 (.fn f cs)
 | .loc b off => snapK true (S.less ids) 8 (.loc b off)
 | c => match c.isD with
  | true => some c
  | false => none
theorem ret1K_spec {ids : List Nat} {S : KSt} {c v : KV} (h : ret1K ids S c = some v) : ret1 ids S.st c.av = some v.av := by
 have main : ∀ c : KV, (∀ l, c ≠ .agg l) -> snapK true (S.less ids) 8 c = some v -> (snap true (lessO S.st ids) 8 c.av).map .d = some v.av := fun c hc h => by
  have := snapK_spec 8 c v h
  rw [KSt.less_st] at this
  rw [this, snapped_av (snapK_noagg h hc)]; rfl
 have dd : ∀ c : KV, c.isD = true -> some c = some v -> ret1 ids S.st c.av = some v.av := fun c hd e => by
  cases e
  have hav := KV.isD_av hd
  have hag := KV.isD_agg hd
  rw [hav]
  unfold ret1
  simp only
  have : snap true (lessO S.st ids) 8 (.d v.toD) = some v.toD := by
   cases hx : v.toD with
   | agg l => exact absurd hx (hag l)
   | _ => rfl
  rw [this]; rfl
 unfold ret1K at h
 split at h
 ·rename_i id
  rw [idxK'_spec] at h
  simp only [KV.av, ret1]
  split at h
  ·rename_i i hi
   rw [hi]
   cases h; rfl
  ·rename_i hi
   rw [hi]
   exact main (.osl id) (fun l e => by cases e) h
 ·cases h
 ·exact main _ (fun l e => by cases e) h
 ·exact main _ (fun l e => by cases e) h
 ·split at h
  ·rename_i hd; exact dd _ hd h
  ·cases h
def ret1KL (ids : List Nat) (S : KSt) : List KV -> Option (List KV)
 | [] => some []
 | c :: r => match ret1K ids S c with
  | some x => match ret1KL ids S r with
   | some l => some (x :: l)
   | none => none
  | none => none
theorem ret1KL_spec {ids : List Nat} {S : KSt} : ∀ {cs vs : List KV}, ret1KL ids S cs = some vs -> ret1L ids S.st (KV.avL cs) = some (KV.avL vs)
 | [], vs, h => by simp [ret1KL] at h; subst h; rfl
 | c :: r, vs, h => by
  simp only [ret1KL] at h
  cases h1 : ret1K ids S c with
  | none => rw [h1] at h; cases h
  | some v =>
   cases h2 : ret1KL ids S r with
   | none => rw [h1, h2] at h; cases h
   | some l =>
    rw [h1, h2] at h
    simp only [Option.some.injEq] at h; subst h
    simp only [KV.avL, ret1L, ret1K_spec h1, ret1KL_spec h2]
def ret2K (ids : List Nat) (S : KSt) (c : KV) : Option KV := match c with
 | .agg cs => omap (ret1KL ids S cs) .agg
 | c => ret1K ids S c
theorem ret2K_spec {ids : List Nat} {S : KSt} {c v : KV} (h : ret2K ids S c = some v) : ret2 ids S.st c.av = some v.av := by
 unfold ret2K at h
 split at h
 ·obtain ⟨l, h1, rfl⟩ := omap_spec h
  simp only [KV.av, ret2, ret1KL_spec h1, Option.map_some]
 ·rename_i hc
  have := ret1K_spec h
  cases c <;> first | exact absurd rfl (hc _) | exact this
def ret2KL (ids : List Nat) (S : KSt) : List KV -> Option (List KV)
 | [] => some []
 | c :: r => match ret2K ids S c with
  | some x => match ret2KL ids S r with
   | some l => some (x :: l)
   | none => none
  | none => none
theorem ret2KL_spec {ids : List Nat} {S : KSt} : ∀ {cs vs : List KV}, ret2KL ids S cs = some vs -> ret2L ids S.st (KV.avL cs) = some (KV.avL vs)
 | [], vs, h => by simp [ret2KL] at h; subst h; rfl
 | c :: r, vs, h => by
  simp only [ret2KL] at h
  cases h1 : ret2K ids S c with
  | none => rw [h1] at h; cases h
  | some v =>
   cases h2 : ret2KL ids S r with
   | none => rw [h1, h2] at h; cases h
   | some l =>
    rw [h1, h2] at h
    simp only [Option.some.injEq] at h; subst h
    simp only [KV.avL, ret2L, ret2K_spec h1, ret2KL_spec h2]
def ret3K (ids : List Nat) (S : KSt) (c : KV) : Option KV := match c with
 | .tup cs => omap (ret2KL ids S cs) .tup
 | c => ret2K ids S c
theorem ret3K_spec {ids : List Nat} {S : KSt} {c v : KV} (h : ret3K ids S c = some v) : ret3 ids S.st c.av = some v.av := by
 unfold ret3K at h
 split at h
 ·obtain ⟨l, h1, rfl⟩ := omap_spec h
  simp only [KV.av, ret3, ret2KL_spec h1, Option.map_some]
 ·rename_i hc
  have := ret2K_spec h
  cases c <;> first | exact absurd rfl (hc _) | exact this
def retKQ {σ : Type} (I : Prim σ) (tb : Nat -> Option TI) (rs : List ResultVar) (ids : List Nat) (e : Exit) (S : KSt) (s : σ) : Prop :=
 match (match e with | .normal => true | .ret => true | _ => false) with
 | true => kk (resKL tb S rs) fun cs => kk (ret3K ids S (oneK cs)) fun v => kk (rowsOfK S ids) fun rows => I.post v rows
 | false => False
def okArg : KV -> Bool
 | .agg cs => allD cs
 | c => c.isD
def okArgs : List KV -> Bool
 | [] => true
 | c :: r => okArg c && okArgs r
theorem okArg_av {c : KV} (h : okArg c = true) : toAV c.toD = c.av := by
 unfold okArg at h
 split at h
 ·simp only [KV.toD, toAV, KV.av, allD_av h]
 ·rw [KV.isD_av h]
  have := KV.isD_agg h
  cases hx : c.toD with
  | agg l => exact absurd hx (this l)
  | _ => rfl
def argK : Nat -> List KV -> List (Nat × KV)
 | _, [] => []
 | i, c :: r => (i, c) :: argK (i + 1) r
theorem argK_spec : ∀ {args : List KV} {i : Nat}, okArgs args = true -> mapT (argK i args) = argT i (KV.toDL args)
 | [], _, _ => rfl
 | c :: q, i, h => by
  simp only [okArgs, Bool.and_eq_true] at h
  simp only [argK, mapT, KV.toDL, argT, okArg_av h.1, argK_spec h.2]
def KS0 (n : Nat) (args : List KV) : KSt := ⟨n, argK 0 args, [], [], 0⟩
def KC (P : Program) (f : Nat) (args : List KV) (res : KV) (rows : List KRow) : Prop := Con P f (KV.toDL args) res.av (rows.map KRow.row)
theorem W_loop {A : Type u} {I : Prim E.σ} (hI : I = primK P E base r post) (hT : SeatOk P tb) (pz : List Nat) {c : Code} (hdr : drawsOk pz c = true) {S : KSt} {s : E.σ} {Q : Exit -> KSt -> E.σ -> Prop} (m : A -> Nat) (st : A -> KSt) (inv : A -> E.σ -> Prop) (a0 : A)
  (hw : Weak S.st (st a0).st) (h0 : inv a0 s) (round : ∀ a s, inv a s -> ∀ R : KSt -> E.σ -> Prop, (∀ S' s' a', m a' < m a -> Weak S'.st (st a').st -> inv a' s' -> R S' s') -> wpK I tb pz c (st a) s (thenK R Q)) : I.W (.loop c) S s Q := by
 subst hI
 refine AW_weak hw (AW_loop (fun k S s => ∃ a, S = (st a).st /\ k = m a /\ inv a s) (m a0) ⟨a0, rfl, rfl, h0⟩ ?_)
 rintro k S s ⟨a, rfl, rfl, h1⟩
 refine AW_weakQ ((wpK_aw hT.mix hT.tab hdr (round a s h1 (fun S' s' => ∃ a', m a' < m a /\ Weak S'.st (st a').st /\ inv a' s') (fun S' s' a' h1 h2 h3 => ⟨a', h1, h2, h3⟩))).mono ?_)
 rintro e S2 s2 ⟨S3, hw3, hq⟩
 refine ⟨S3.st, hw3, ?_⟩
 cases e with
 | normal =>
  obtain ⟨a', hk, hw4, h4⟩ := hq
  exact ⟨m a', (st a').st, hk, hw4, a', rfl, rfl, h4⟩
 | _ => exact KQ_of hq
theorem CD_call {I : Prim E.σ} (hI : I = primK P E base r post) {g : Nat} {args : List KV} {ds xs : List D} {res : KV} {rows : List KRow} {K : KV -> List KRow -> Prop} (h : Con P g xs res.av (rows.map KRow.row)) (ha : KV.toDL args ++ ds = xs) (k : K res rows) : I.CD g args ds K := by
 subst hI
 subst ha
 exact ⟨res, rows, h, k⟩
theorem K_tst {I : Prim E.σ} (hI : I = primK P E base r post) {b : Bool} {A B : Prop} (h1 : b = true -> A) (h2 : b = false -> B) : I.tst b A B := by
 subst hI; exact ⟨h1, h2⟩
theorem K_conj {I : Prim E.σ} (hI : I = primK P E base r post) {A B : Prop} (h1 : A) (h2 : B) : I.conj A B := by
 subst hI; exact ⟨h1, h2⟩
end Go.Proofs.Ytfilnnbfppokmaa.Aw
namespace Go.Proofs.Ytfilnnbfppokmaa.Aw
open Go Go.RowKit
universe u
variable {P : Program} {E : Env P} {base : Nat} {r : Option Nat} {post : KV -> List KRow -> Prop} {tb : Nat -> Option TI}
def KSY (n : Nat) (caps : List KV) : KSt := ⟨n, (0, .yld) :: argK 1 caps, [], [], 0⟩
def finK {σ : Type} (Fin : σ -> Prop) (e : Exit) (S : KSt) (s : σ) : Prop := match (match e with | .normal => true | .ret => true | _ => false) with
 | true => Fin s
 | false => False
def KI (P : Program) (f : Nat) (caps : List KV) (ys : List (List KV)) : Prop := IterCon P f (KV.toDL caps) (ys.map KV.toDL)
theorem iter_k {f : Nat} {fn : Func} {c : Code} {caps : List KV} {ys : List (List KV)} (pz : List Nat) (hT : SeatOk P tb) (hf : P.funcs[f]? = some fn) (hb : fn.body = some c) (hent : Ent P f) (hdr : drawsOk pz c = true) (hn : Nat.ble (lenK caps + 1) fn.ntmps = true) (ha : okArgs caps = true) (hres : fn.results = #[])
  (h : ∀ (E : Env P) (Inv : Nat -> E.σ -> Prop) (Fin : E.σ -> Prop), Takes E (ys.map KV.toDL) Inv Fin -> ∀ (base : Nat) (s : E.σ), Inv 0 s -> ∀ I, I = primK P E base none (fun _ _ => False) -> wpK I tb pz c (KSY fn.ntmps caps) s (finK Fin)) : KI P f caps ys := by
 refine iter_intro hf hb hent (by rw [toDL_len]; exact hn) hres fun E Inv Fin hT' base s h0 => ?_
 have := wpK_aw hT.mix hT.tab hdr (h E Inv Fin hT' base s h0 _ rfl)
 rw [show (KSY fn.ntmps caps).st = SY fn.ntmps (KV.toDL caps) from by simp only [KSY, KSt.st, SY, mapT, argK_spec ha]; rfl] at this
 refine this.mono ?_
 rintro e S s' ⟨S', hw, hq⟩
 unfold finK at hq
 split at hq
 ·rename_i he
  refine ⟨?_, hq⟩
  cases e <;> first | exact .inl rfl | exact .inr rfl | cases he
 ·exact hq.elim
theorem Y_take {I : Prim E.σ} (hI : I = primK P E base r post) {ys : List (List KV)} {Inv : Nat -> E.σ -> Prop} {Fin : E.σ -> Prop} (hT : Takes E (ys.map KV.toDL) Inv Fin) {s : E.σ} {xs y : List KV} {K : Bool -> E.σ -> Prop} (i : Nat) (hi : ys[i]? = some y) (hy : KV.toDL xs = KV.toDL y) (h0 : Inv i s)
  (ht : ∀ s', Inv (i + 1) s' -> K true s') (hf : ∀ s', Fin s' -> K false s') : I.Y s xs K := by
 subst hI
 have hg : (ys.map KV.toDL)[i]? = some (KV.toDL xs) := by rw [List.getElem?_map, hi, hy]; rfl
 refine ⟨hT.next i _ s hg h0, fun s' b hb => ?_⟩
 obtain ⟨h1, h2⟩ := hT.out i _ s s' b hg h0 hb
 cases b with
 | true => exact ht s' (h1 rfl)
 | false => exact hf s' (h2 rfl)
def putPK : List Nat -> List KV -> List (Nat × KV) -> List (Nat × KV)
 | p :: ps, x :: xs, T => putPK ps xs ((p, x) :: T)
 | _, _, T => T
theorem putPs_leq : ∀ {ps : List Nat} {xs : List D} {T T' : List (Nat × AV)}, (∀ t, look T t = look T' t) -> ∀ t, look (putPs ps xs T) t = look (putPs ps xs T') t
 | [], _, T, T', h, t => by simpa [putPs] using h t
 | p :: ps, [], T, T', h, t => by simpa [putPs] using h t
 | p :: ps, x :: xs, T, T', h, t => by
  simp only [putPs]
  exact putPs_leq (fun u => by rw [look_setT, look_setT, h u]) t
theorem putPK_spec : ∀ {ps : List Nat} {xs : List KV} {T : List (Nat × KV)}, okArgs xs = true -> ∀ t, look (mapT (putPK ps xs T)) t = look (putPs ps (KV.toDL xs) (mapT T)) t
 | [], xs, T, _, t => by cases xs <;> rfl
 | p :: ps, [], T, _, t => rfl
 | p :: ps, x :: xs, T, h, t => by
  simp only [okArgs, Bool.and_eq_true] at h
  simp only [putPK, KV.toDL, putPs]
  rw [putPK_spec h.2]
  refine putPs_leq (fun u => ?_) t
  simp only [mapT, look, look_setT, okArg_av h.1]
mutual
def KV.calm (N : Nat) : KV -> Bool
 | .agg cs => KV.calmL N cs
 | .tup cs => KV.calmL N cs
 | .fn _ cs => KV.calmL N cs
 | .loc b _ => Nat.blt b N
 | .osl _ => false
 | .oloc _ _ _ _ => false
 | _ => true
def KV.calmL (N : Nat) : List KV -> Bool
 | [] => true
 | c :: r => match c.calm N with
  | true => KV.calmL N r
  | false => false
end
mutual
theorem calm_av (N : Nat) : ∀ (c : KV), c.av.calm N = c.calm N
 | .agg cs => by simp only [KV.av, AV.calm, KV.calm, calmL_av N cs]
 | .tup cs => by simp only [KV.av, AV.calm, KV.calm, calmL_av N cs]
 | .fn _ cs => by simp only [KV.av, AV.calm, KV.calm, calmL_av N cs]
 | .loc _ _ => rfl
 | .osl _ => rfl
 | .oloc _ _ _ _ => rfl
 | .any | .int _ _ | .lit _ _ | .bool _ | .tt | .ff | .str _ | .dfn _ _ | .bfn _ _ | .nilfn | .nilsl | .nilmap | .nilptr | .ptr _ | .sl _ _ _ _ _ _ | .slr _ _ _ | .mp _ _ _ _ | .d _ | .yld => by simp only [KV.av, AV.calm, KV.calm]
theorem calmL_av (N : Nat) : ∀ (cs : List KV), AV.calmL N (KV.avL cs) = KV.calmL N cs
 | [] => rfl
 | c :: r => by
  simp only [KV.avL, AV.calmL, KV.calmL, calm_av N c, calmL_av N r]
  cases c.calm N <;> simp
end
def calmTK (N : Nat) : List (Nat × KV) -> Bool
 | [] => true
 | (_, c) :: r => match c.calm N with
  | true => calmTK N r
  | false => false
theorem calmTK_spec {N : Nat} : ∀ (T : List (Nat × KV)), calmT N (mapT T) = calmTK N T
 | [] => rfl
 | (t, c) :: r => by
  simp only [mapT, calmT, calmTK, calm_av, calmTK_spec r]
  cases c.calm N <;> simp
def KSt.ho (S : KSt) (x : List (Nat × KBlk) × List (Nat × KRow)) : KSt := ⟨S.n, S.T, x.1, x.2, S.low⟩
def assignK {σ : Type} (K : KSt -> σ -> Prop) (e : Exit) (S : KSt) (s : σ) : Prop := match e with
 | .normal => K S s
 | _ => False
def rangeArg (S : KSt) (g : Operand) : Option (Nat × List D) := match kop S.T g with
 | some (.d (.fn f ds)) => some (f, ds)
 | some fv => match fnK fv with
  | some (f, cs) => match mapK (snapK false S 8) cs with
   | some caps => some (f, KV.toDL caps)
   | none => none
  | none => none
 | none => none
theorem rangeArg_spec {S : KSt} {g : Operand} {f : Nat} {ds : List D} (h : rangeArg S g = some (f, ds)) (hna : noAggD ds = true) : ∃ fv caps, opnd S.st.T g = some fv /\ fnOf fv = some (f, caps) /\ snapL false S.st caps = some ds := by
 unfold rangeArg at h
 split at h
 ·rename_i f' ds' h1
  simp only [Option.some.injEq, Prod.mk.injEq] at h
  obtain ⟨rfl, rfl⟩ := h
  exact ⟨_, _, kop_st h1, rfl, snapL_app (cs := []) (xs := []) rfl hna⟩
 ·rename_i fv _ h1
  split at h
  ·rename_i f' cs h2
   split at h
   ·rename_i caps0 h3
    simp only [Option.some.injEq, Prod.mk.injEq] at h
    obtain ⟨rfl, rfl⟩ := h
    exact ⟨_, _, kop_st h1, fnK_spec h2, snapL_spec' h3⟩
   ·cases h
  ·cases h
 ·cases h
def rangeArgB (S : KSt) (g : Operand) : Option (Nat × List D × List D) := match kop S.T g with
 | some (.bfn f cs) => some (f, KV.toDL cs, [])
 | _ => match rangeArg S g with
  | some (f, ds) => some (f, [], ds)
  | none => none
theorem rangeArgB_spec {S : KSt} {g : Operand} {f : Nat} {fs ds : List D} (h : rangeArgB S g = some (f, fs, ds)) (hna : noAggD ds = true) : ∃ fv caps, opnd S.st.T g = some fv /\ fnOfB fv = some (f, fs, caps) /\ snapL false S.st caps = some ds := by
 unfold rangeArgB at h
 split at h
 ·rename_i f' cs' h1
  simp only [Option.some.injEq, Prod.mk.injEq] at h
  obtain ⟨rfl, rfl, rfl⟩ := h
  exact ⟨_, _, kop_st h1, rfl, snapL_app (cs := []) (xs := []) rfl hna⟩
 ·split at h
  ·rename_i f' ds' h1
   simp only [Option.some.injEq, Prod.mk.injEq] at h
   obtain ⟨rfl, rfl, rfl⟩ := h
   obtain ⟨fv, caps, e1, e2, e3⟩ := rangeArg_spec h1 hna
   exact ⟨fv, caps, e1, fnOfB_of e2, e3⟩
  ·cases h
theorem st_ho (S : KSt) (x : List (Nat × KBlk) × List (Nat × KRow)) : (S.ho x).st = S.st.ho (mapH x.1, mapO x.2) := rfl
end Go.Proofs.Ytfilnnbfppokmaa.Aw
namespace Go.Proofs.Ytfilnnbfppokmaa.Aw
open Go Go.RowKit Go.Proofs
theorem tiok {t : Nat} {i : TI} (sz : szT Try.prog t = some i.sz := by kernel_rfl) (ag : isAggT Try.prog t = some i.ag := by kernel_rfl) (el : ∀ r, i.el = some r -> eltT Try.prog t = some r := by intro r h; cases h <;> kernel_rfl) (ar : ∀ r, i.ar = some r -> arrT Try.prog t = some r := by intro r h; cases h <;> kernel_rfl)
  (z : ∀ z, i.z = some z -> zeroC Try.prog t = some (KV.avL z) := by intro r h; cases h <;> kernel_rfl) (pl : ∀ r, i.pl = some r -> plT Try.prog t = some r := by intro r h; cases h <;> kernel_rfl) (bytes : (Try.prog.info? t).map (fun x : TypeInfo => x.bytes) = some i.bytes := by kernel_rfl)
  (bool : i.un = .bool -> Try.prog.underlying t = some .bool := by intro h; cases h <;> kernel_rfl) (str : i.un = .str -> Try.prog.underlying t = some .string := by intro h; cases h <;> kernel_rfl) (int : ∀ k, i.un = .int k -> Try.prog.underlying t = some (.int k) := by intro r h; cases h <;> kernel_rfl)
  (fl : ∀ f r, nth i.fl f = some r -> fldT Try.prog t f = some r := by intro f r h; cases h) (eqn : ∀ n, i.eqn = some n -> flatN Try.prog 8 t = some n /\ isAggT Try.prog t = some true /\ Try.prog.eqGuardType Try.prog.depth t = false := by intro n h; cases h <;> exact ⟨by kernel_rfl, by kernel_rfl, by kernel_rfl⟩)
  (mp : ∀ r, i.mp = some r -> mapT' Try.prog t = some r := by intro r h; cases h <;> kernel_rfl) (zv : ∀ z, i.zv = some z -> zeroV Try.prog t = some z.toD := by intro r h; cases h <;> kernel_rfl) : TIOk Try.prog t i := ⟨sz, ag, el, ar, z, pl, bytes, bool, str, int, fl, eqn, mp, zv⟩
def ti0 : TI := ⟨1, false, none, none, none, none, 0, .other, [], none, none, none⟩
theorem ok0 : TIOk Try.prog 0 ti0 := tiok
def ti1 : TI := ⟨1, false, none, none, (some [.nilfn]), none, 8, .other, [], none, none, (some (.nilfn))⟩
theorem ok1 : TIOk Try.prog 1 ti1 := tiok
def ti2 : TI := ⟨1, false, none, none, (some [.int .i64 0]), none, 8, (.int .i64), [], none, none, (some (.int .i64 0))⟩
theorem ok2 : TIOk Try.prog 2 ti2 := tiok
def ti3 : TI := ⟨1, false, none, none, (some [.int .i64 0]), none, 8, (.int .i64), [], none, none, (some (.int .i64 0))⟩
theorem ok3 : TIOk Try.prog 3 ti3 := tiok
def ti4 : TI := ⟨1, false, none, none, (some [.bool false]), none, 1, .bool, [], none, none, (some (.bool false))⟩
theorem ok4 : TIOk Try.prog 4 ti4 := tiok
def ti5 : TI := ⟨1, false, none, none, (some [.int .u8 0]), none, 1, (.int .u8), [], none, none, (some (.int .u8 0))⟩
theorem ok5 : TIOk Try.prog 5 ti5 := tiok
def ti6 : TI := ⟨1, false, none, none, (some [.int .u8 0]), none, 1, (.int .u8), [], none, none, (some (.int .u8 0))⟩
theorem ok6 : TIOk Try.prog 6 ti6 := tiok
def ti7 : TI := ⟨4, true, none, none, (some [.int .i64 0, .int .i64 0, .bool false, .int .u8 0]), (some (.st [(0, 1), (1, 1), (2, 1), (3, 1)])), 24, .other, [(0, 1, 2), (1, 1, 3), (2, 1, 4), (3, 1, 6)], none, none, (some (.agg [.int .i64 0, .int .i64 0, .bool false, .int .u8 0]))⟩
theorem ok7 : TIOk Try.prog 7 ti7 := tiok (fl := fun f r h => match f, h with | 0, h => by cases h; kernel_rfl | 1, h => by cases h; kernel_rfl | 2, h => by cases h; kernel_rfl | 3, h => by cases h; kernel_rfl | (n + 4), h => by simp [ti7, nth] at h)
def ti8 : TI := ⟨4, true, none, none, (some [.int .i64 0, .int .i64 0, .bool false, .int .u8 0]), (some (.st [(0, 1), (1, 1), (2, 1), (3, 1)])), 24, .other, [(0, 1, 2), (1, 1, 3), (2, 1, 4), (3, 1, 6)], none, none, (some (.agg [.int .i64 0, .int .i64 0, .bool false, .int .u8 0]))⟩
theorem ok8 : TIOk Try.prog 8 ti8 := tiok (fl := fun f r h => match f, h with | 0, h => by cases h; kernel_rfl | 1, h => by cases h; kernel_rfl | 2, h => by cases h; kernel_rfl | 3, h => by cases h; kernel_rfl | (n + 4), h => by simp [ti8, nth] at h)
def ti9 : TI := ⟨1, false, none, none, (some [.str ⟨#[]⟩]), none, 16, .str, [], none, none, (some (.str ⟨#[]⟩))⟩
theorem ok9 : TIOk Try.prog 9 ti9 := tiok
def ti10 : TI := ⟨1, false, none, none, (some [.str ⟨#[]⟩]), none, 16, .str, [], none, none, (some (.str ⟨#[]⟩))⟩
theorem ok10 : TIOk Try.prog 10 ti10 := tiok
def ti11 : TI := ⟨1, false, none, none, (some [.str ⟨#[]⟩]), none, 16, .str, [], none, none, (some (.str ⟨#[]⟩))⟩
theorem ok11 : TIOk Try.prog 11 ti11 := tiok
def ti12 : TI := ⟨1, false, none, none, (some [.int .u64 0]), none, 8, (.int .u64), [], none, none, (some (.int .u64 0))⟩
theorem ok12 : TIOk Try.prog 12 ti12 := tiok
def ti13 : TI := ⟨2, true, none, none, (some [.str ⟨#[]⟩, .int .u64 0]), (some (.st [(0, 1), (1, 1)])), 24, .other, [(0, 1, 9), (1, 1, 12)], none, none, (some (.agg [.str ⟨#[]⟩, .int .u64 0]))⟩
theorem ok13 : TIOk Try.prog 13 ti13 := tiok (fl := fun f r h => match f, h with | 0, h => by cases h; kernel_rfl | 1, h => by cases h; kernel_rfl | (n + 2), h => by simp [ti13, nth] at h)
def ti14 : TI := ⟨2, true, none, none, (some [.str ⟨#[]⟩, .int .u64 0]), (some (.st [(0, 1), (1, 1)])), 24, .other, [(0, 1, 9), (1, 1, 12)], none, none, (some (.agg [.str ⟨#[]⟩, .int .u64 0]))⟩
theorem ok14 : TIOk Try.prog 14 ti14 := tiok (fl := fun f r h => match f, h with | 0, h => by cases h; kernel_rfl | 1, h => by cases h; kernel_rfl | (n + 2), h => by simp [ti14, nth] at h)
def ti15 : TI := ⟨1, false, none, none, (some [.nilptr]), none, 8, .other, [], none, none, (some (.nilptr))⟩
theorem ok15 : TIOk Try.prog 15 ti15 := tiok
def ti16 : TI := ⟨1, false, none, none, (some [.nilptr]), none, 8, .other, [], none, none, (some (.nilptr))⟩
theorem ok16 : TIOk Try.prog 16 ti16 := tiok
def ti17 : TI := ⟨1, false, none, none, (some [.nilptr]), none, 8, .other, [], none, none, (some (.nilptr))⟩
theorem ok17 : TIOk Try.prog 17 ti17 := tiok
def ti18 : TI := ⟨1, true, none, none, (some [.nilptr]), (some (.st [(0, 1)])), 8, .other, [(0, 1, 17)], none, none, (some (.agg [.nilptr]))⟩
theorem ok18 : TIOk Try.prog 18 ti18 := tiok (fl := fun f r h => match f, h with | 0, h => by cases h; kernel_rfl | (n + 1), h => by simp [ti18, nth] at h)
def ti19 : TI := ⟨1, true, none, none, (some [.nilptr]), (some (.st [(0, 1)])), 8, .other, [(0, 1, 17)], none, none, (some (.agg [.nilptr]))⟩
theorem ok19 : TIOk Try.prog 19 ti19 := tiok (fl := fun f r h => match f, h with | 0, h => by cases h; kernel_rfl | (n + 1), h => by simp [ti19, nth] at h)
def ti20 : TI := ⟨1, false, none, none, none, none, 16, .other, [], none, none, none⟩
theorem ok20 : TIOk Try.prog 20 ti20 := tiok
def ti21 : TI := ⟨1, false, none, none, (some [.int .i32 0]), none, 4, (.int .i32), [], none, none, (some (.int .i32 0))⟩
theorem ok21 : TIOk Try.prog 21 ti21 := tiok
def ti22 : TI := ⟨1, false, (some (106, 2)), none, (some [.nilsl]), none, 24, .other, [], none, none, (some (.nilsl))⟩
theorem ok22 : TIOk Try.prog 22 ti22 := tiok
def ti23 : TI := ⟨1, false, (some (3, 1)), none, (some [.nilsl]), none, 24, .other, [], none, none, (some (.nilsl))⟩
theorem ok23 : TIOk Try.prog 23 ti23 := tiok
def ti24 : TI := ⟨4, true, none, none, (some [.nilsl, .int .i64 0, .int .i64 0, .nilsl]), (some (.st [(0, 1), (1, 1), (2, 1), (3, 1)])), 64, .other, [(0, 1, 22), (1, 1, 3), (2, 1, 3), (3, 1, 23)], none, none, (some (.agg [.nilsl, .int .i64 0, .int .i64 0, .nilsl]))⟩
theorem ok24 : TIOk Try.prog 24 ti24 := tiok (fl := fun f r h => match f, h with | 0, h => by cases h; kernel_rfl | 1, h => by cases h; kernel_rfl | 2, h => by cases h; kernel_rfl | 3, h => by cases h; kernel_rfl | (n + 4), h => by simp [ti24, nth] at h)
def ti25 : TI := ⟨4, true, none, none, (some [.nilsl, .int .i64 0, .int .i64 0, .nilsl]), (some (.st [(0, 1), (1, 1), (2, 1), (3, 1)])), 64, .other, [(0, 1, 22), (1, 1, 3), (2, 1, 3), (3, 1, 23)], none, none, (some (.agg [.nilsl, .int .i64 0, .int .i64 0, .nilsl]))⟩
theorem ok25 : TIOk Try.prog 25 ti25 := tiok (fl := fun f r h => match f, h with | 0, h => by cases h; kernel_rfl | 1, h => by cases h; kernel_rfl | 2, h => by cases h; kernel_rfl | 3, h => by cases h; kernel_rfl | (n + 4), h => by simp [ti25, nth] at h)
def ti26 : TI := ⟨1, false, none, none, (some [.nilfn]), none, 8, .other, [], none, none, (some (.nilfn))⟩
theorem ok26 : TIOk Try.prog 26 ti26 := tiok
def ti27 : TI := ⟨1, false, none, none, (some [.nilfn]), none, 8, .other, [], none, none, (some (.nilfn))⟩
theorem ok27 : TIOk Try.prog 27 ti27 := tiok
def ti28 : TI := ⟨1, false, none, none, (some [.nilfn]), none, 8, .other, [], none, none, (some (.nilfn))⟩
theorem ok28 : TIOk Try.prog 28 ti28 := tiok
def ti29 : TI := ⟨1, false, none, none, (some [.nilfn]), none, 8, .other, [], none, none, (some (.nilfn))⟩
theorem ok29 : TIOk Try.prog 29 ti29 := tiok
def ti30 : TI := ⟨1, false, none, none, (some [.int .i64 0]), none, 8, (.int .i64), [], none, none, (some (.int .i64 0))⟩
theorem ok30 : TIOk Try.prog 30 ti30 := tiok
def ti31 : TI := ⟨1, false, none, none, (some [.nilfn]), none, 8, .other, [], none, none, (some (.nilfn))⟩
theorem ok31 : TIOk Try.prog 31 ti31 := tiok
def ti32 : TI := ⟨1, false, none, none, none, none, 0, .other, [], none, none, none⟩
theorem ok32 : TIOk Try.prog 32 ti32 := tiok
def ti33 : TI := ⟨1, false, none, none, (some [.nilfn]), none, 8, .other, [], none, none, (some (.nilfn))⟩
theorem ok33 : TIOk Try.prog 33 ti33 := tiok
def ti34 : TI := ⟨1, false, none, none, (some [.nilfn]), none, 8, .other, [], none, none, (some (.nilfn))⟩
theorem ok34 : TIOk Try.prog 34 ti34 := tiok
def ti35 : TI := ⟨1, false, none, none, (some [.nilfn]), none, 8, .other, [], none, none, (some (.nilfn))⟩
theorem ok35 : TIOk Try.prog 35 ti35 := tiok
def ti36 : TI := ⟨1, false, none, none, (some [.nilfn]), none, 8, .other, [], none, none, (some (.nilfn))⟩
theorem ok36 : TIOk Try.prog 36 ti36 := tiok
def ti37 : TI := ⟨1, false, none, none, none, none, 0, .other, [], none, none, none⟩
theorem ok37 : TIOk Try.prog 37 ti37 := tiok
def ti38 : TI := ⟨1, false, none, none, (some [.nilfn]), none, 8, .other, [], none, none, (some (.nilfn))⟩
theorem ok38 : TIOk Try.prog 38 ti38 := tiok
def ti39 : TI := ⟨2, true, none, none, (some [.int .i64 0, .int .i64 0]), (some (.st [(0, 1), (1, 1)])), 16, .other, [(0, 1, 3), (1, 1, 3)], (some 2), none, (some (.agg [.int .i64 0, .int .i64 0]))⟩
theorem ok39 : TIOk Try.prog 39 ti39 := tiok (fl := fun f r h => match f, h with | 0, h => by cases h; kernel_rfl | 1, h => by cases h; kernel_rfl | (n + 2), h => by simp [ti39, nth] at h)
def ti40 : TI := ⟨2, true, none, none, (some [.int .i64 0, .int .i64 0]), (some (.st [(0, 1), (1, 1)])), 16, .other, [(0, 1, 3), (1, 1, 3)], (some 2), none, (some (.agg [.int .i64 0, .int .i64 0]))⟩
theorem ok40 : TIOk Try.prog 40 ti40 := tiok (fl := fun f r h => match f, h with | 0, h => by cases h; kernel_rfl | 1, h => by cases h; kernel_rfl | (n + 2), h => by simp [ti40, nth] at h)
def ti41 : TI := ⟨1, false, none, none, none, none, 0, .other, [], none, none, none⟩
theorem ok41 : TIOk Try.prog 41 ti41 := tiok
def ti42 : TI := ⟨1, false, none, none, (some [.nilfn]), none, 8, .other, [], none, none, (some (.nilfn))⟩
theorem ok42 : TIOk Try.prog 42 ti42 := tiok
def ti43 : TI := ⟨1, false, none, none, none, none, 0, .other, [], none, none, none⟩
theorem ok43 : TIOk Try.prog 43 ti43 := tiok
def ti44 : TI := ⟨1, false, none, none, (some [.nilfn]), none, 8, .other, [], none, none, (some (.nilfn))⟩
theorem ok44 : TIOk Try.prog 44 ti44 := tiok
def ti45 : TI := ⟨1, false, none, none, none, none, 0, .other, [], none, none, none⟩
theorem ok45 : TIOk Try.prog 45 ti45 := tiok
def ti46 : TI := ⟨1, false, none, none, (some [.nilfn]), none, 8, .other, [], none, none, (some (.nilfn))⟩
theorem ok46 : TIOk Try.prog 46 ti46 := tiok
def ti47 : TI := ⟨1, false, none, none, (some [.nilfn]), none, 8, .other, [], none, none, (some (.nilfn))⟩
theorem ok47 : TIOk Try.prog 47 ti47 := tiok
def ti48 : TI := ⟨1, false, none, none, none, none, 0, .other, [], none, none, none⟩
theorem ok48 : TIOk Try.prog 48 ti48 := tiok
def ti49 : TI := ⟨1, false, none, none, (some [.nilfn]), none, 8, .other, [], none, none, (some (.nilfn))⟩
theorem ok49 : TIOk Try.prog 49 ti49 := tiok
def ti50 : TI := ⟨1, false, none, none, (some [.nilfn]), none, 8, .other, [], none, none, (some (.nilfn))⟩
theorem ok50 : TIOk Try.prog 50 ti50 := tiok
def ti51 : TI := ⟨1, false, none, none, (some [.nilfn]), none, 8, .other, [], none, none, (some (.nilfn))⟩
theorem ok51 : TIOk Try.prog 51 ti51 := tiok
def ti52 : TI := ⟨1, false, (some (59, 2)), none, (some [.nilsl]), none, 24, .other, [], none, none, (some (.nilsl))⟩
theorem ok52 : TIOk Try.prog 52 ti52 := tiok
def ti53 : TI := ⟨1, false, none, none, none, none, 0, .other, [], none, none, none⟩
theorem ok53 : TIOk Try.prog 53 ti53 := tiok
def ti54 : TI := ⟨1, false, none, none, (some [.nilfn]), none, 8, .other, [], none, none, (some (.nilfn))⟩
theorem ok54 : TIOk Try.prog 54 ti54 := tiok
def ti55 : TI := ⟨1, false, none, none, none, none, 0, .other, [], none, none, none⟩
theorem ok55 : TIOk Try.prog 55 ti55 := tiok
def ti56 : TI := ⟨1, false, none, none, (some [.nilfn]), none, 8, .other, [], none, none, (some (.nilfn))⟩
theorem ok56 : TIOk Try.prog 56 ti56 := tiok
def ti57 : TI := ⟨1, false, none, none, (some [.nilfn]), none, 8, .other, [], none, none, (some (.nilfn))⟩
theorem ok57 : TIOk Try.prog 57 ti57 := tiok
def ti58 : TI := ⟨2, true, none, none, (some [.int .i64 0, .int .i64 0]), (some (.st [(0, 1), (1, 1)])), 16, .other, [(0, 1, 3), (1, 1, 3)], (some 2), none, (some (.agg [.int .i64 0, .int .i64 0]))⟩
theorem ok58 : TIOk Try.prog 58 ti58 := tiok (fl := fun f r h => match f, h with | 0, h => by cases h; kernel_rfl | 1, h => by cases h; kernel_rfl | (n + 2), h => by simp [ti58, nth] at h)
def ti59 : TI := ⟨2, true, none, none, (some [.int .i64 0, .int .i64 0]), (some (.st [(0, 1), (1, 1)])), 16, .other, [(0, 1, 3), (1, 1, 3)], (some 2), none, (some (.agg [.int .i64 0, .int .i64 0]))⟩
theorem ok59 : TIOk Try.prog 59 ti59 := tiok (fl := fun f r h => match f, h with | 0, h => by cases h; kernel_rfl | 1, h => by cases h; kernel_rfl | (n + 2), h => by simp [ti59, nth] at h)
def ti60 : TI := ⟨1, false, none, none, (some [.nilfn]), none, 8, .other, [], none, none, (some (.nilfn))⟩
theorem ok60 : TIOk Try.prog 60 ti60 := tiok
def ti61 : TI := ⟨1, false, none, none, (some [.nilfn]), none, 8, .other, [], none, none, (some (.nilfn))⟩
theorem ok61 : TIOk Try.prog 61 ti61 := tiok
def ti62 : TI := ⟨1, false, none, none, (some [.nilfn]), none, 8, .other, [], none, none, (some (.nilfn))⟩
theorem ok62 : TIOk Try.prog 62 ti62 := tiok
def ti63 : TI := ⟨1, false, (some (66, 2)), none, (some [.nilsl]), none, 24, .other, [], none, none, (some (.nilsl))⟩
theorem ok63 : TIOk Try.prog 63 ti63 := tiok
def ti64 : TI := ⟨1, false, none, none, (some [.nilfn]), none, 8, .other, [], none, none, (some (.nilfn))⟩
theorem ok64 : TIOk Try.prog 64 ti64 := tiok
def ti65 : TI := ⟨2, true, none, none, (some [.int .i64 0, .int .i64 0]), (some (.st [(0, 1), (1, 1)])), 16, .other, [(0, 1, 3), (1, 1, 3)], (some 2), none, (some (.agg [.int .i64 0, .int .i64 0]))⟩
theorem ok65 : TIOk Try.prog 65 ti65 := tiok (fl := fun f r h => match f, h with | 0, h => by cases h; kernel_rfl | 1, h => by cases h; kernel_rfl | (n + 2), h => by simp [ti65, nth] at h)
def ti66 : TI := ⟨2, true, none, none, (some [.int .i64 0, .int .i64 0]), (some (.st [(0, 1), (1, 1)])), 16, .other, [(0, 1, 3), (1, 1, 3)], (some 2), none, (some (.agg [.int .i64 0, .int .i64 0]))⟩
theorem ok66 : TIOk Try.prog 66 ti66 := tiok (fl := fun f r h => match f, h with | 0, h => by cases h; kernel_rfl | 1, h => by cases h; kernel_rfl | (n + 2), h => by simp [ti66, nth] at h)
def ti67 : TI := ⟨1, false, none, none, (some [.nilfn]), none, 8, .other, [], none, none, (some (.nilfn))⟩
theorem ok67 : TIOk Try.prog 67 ti67 := tiok
def ti68 : TI := ⟨1, false, none, none, (some [.nilfn]), none, 8, .other, [], none, none, (some (.nilfn))⟩
theorem ok68 : TIOk Try.prog 68 ti68 := tiok
def ti69 : TI := ⟨1, false, none, none, (some [.nilfn]), none, 8, .other, [], none, none, (some (.nilfn))⟩
theorem ok69 : TIOk Try.prog 69 ti69 := tiok
def ti70 : TI := ⟨1, false, (some (77, 2)), none, (some [.nilsl]), none, 24, .other, [], none, none, (some (.nilsl))⟩
theorem ok70 : TIOk Try.prog 70 ti70 := tiok
def ti71 : TI := ⟨1, false, (some (40, 2)), none, (some [.nilsl]), none, 24, .other, [], none, none, (some (.nilsl))⟩
theorem ok71 : TIOk Try.prog 71 ti71 := tiok
def ti72 : TI := ⟨1, false, none, none, none, none, 0, .other, [], none, none, none⟩
theorem ok72 : TIOk Try.prog 72 ti72 := tiok
def ti73 : TI := ⟨1, false, none, none, (some [.nilfn]), none, 8, .other, [], none, none, (some (.nilfn))⟩
theorem ok73 : TIOk Try.prog 73 ti73 := tiok
def ti74 : TI := ⟨1, false, none, none, none, none, 0, .other, [], none, none, none⟩
theorem ok74 : TIOk Try.prog 74 ti74 := tiok
def ti75 : TI := ⟨1, false, none, none, (some [.nilfn]), none, 8, .other, [], none, none, (some (.nilfn))⟩
theorem ok75 : TIOk Try.prog 75 ti75 := tiok
def ti76 : TI := ⟨2, true, none, none, (some [.int .i64 0, .int .i64 0]), (some (.st [(0, 1), (1, 1)])), 16, .other, [(0, 1, 3), (1, 1, 3)], (some 2), none, (some (.agg [.int .i64 0, .int .i64 0]))⟩
theorem ok76 : TIOk Try.prog 76 ti76 := tiok (fl := fun f r h => match f, h with | 0, h => by cases h; kernel_rfl | 1, h => by cases h; kernel_rfl | (n + 2), h => by simp [ti76, nth] at h)
def ti77 : TI := ⟨2, true, none, none, (some [.int .i64 0, .int .i64 0]), (some (.st [(0, 1), (1, 1)])), 16, .other, [(0, 1, 3), (1, 1, 3)], (some 2), none, (some (.agg [.int .i64 0, .int .i64 0]))⟩
theorem ok77 : TIOk Try.prog 77 ti77 := tiok (fl := fun f r h => match f, h with | 0, h => by cases h; kernel_rfl | 1, h => by cases h; kernel_rfl | (n + 2), h => by simp [ti77, nth] at h)
def ti78 : TI := ⟨1, false, none, none, (some [.nilfn]), none, 8, .other, [], none, none, (some (.nilfn))⟩
theorem ok78 : TIOk Try.prog 78 ti78 := tiok
def ti79 : TI := ⟨1, false, none, none, (some [.nilfn]), none, 8, .other, [], none, none, (some (.nilfn))⟩
theorem ok79 : TIOk Try.prog 79 ti79 := tiok
def ti80 : TI := ⟨1, false, none, none, (some [.nilfn]), none, 8, .other, [], none, none, (some (.nilfn))⟩
theorem ok80 : TIOk Try.prog 80 ti80 := tiok
def ti81 : TI := ⟨1, false, none, none, none, none, 0, .other, [], none, none, none⟩
theorem ok81 : TIOk Try.prog 81 ti81 := tiok
def ti82 : TI := ⟨1, false, none, none, (some [.nilfn]), none, 8, .other, [], none, none, (some (.nilfn))⟩
theorem ok82 : TIOk Try.prog 82 ti82 := tiok
def ti83 : TI := ⟨1, false, none, none, (some [.nilfn]), none, 8, .other, [], none, none, (some (.nilfn))⟩
theorem ok83 : TIOk Try.prog 83 ti83 := tiok
def ti84 : TI := ⟨1, false, (some (149, 6)), none, (some [.nilsl]), none, 24, .other, [], none, none, (some (.nilsl))⟩
theorem ok84 : TIOk Try.prog 84 ti84 := tiok
def ti85 : TI := ⟨1, false, (some (108, 1)), none, (some [.nilsl]), none, 24, .other, [], none, none, (some (.nilsl))⟩
theorem ok85 : TIOk Try.prog 85 ti85 := tiok
def ti86 : TI := ⟨3, true, none, (some (3, 5, 1)), (some [.int .u8 0, .int .u8 0, .int .u8 0]), (some (.ar 1)), 3, .other, [], none, none, (some (.agg [.int .u8 0, .int .u8 0, .int .u8 0]))⟩
theorem ok86 : TIOk Try.prog 86 ti86 := tiok
def ti87 : TI := ⟨7, true, none, none, (some [.nilsl, .nilsl, .int .u8 0, .int .u8 0, .int .u8 0, .int .u8 0, .int .u8 0]), (some (.st [(0, 1), (1, 1), (2, 1), (3, 1), (4, 3)])), 56, .other, [(0, 1, 84), (1, 1, 85), (2, 1, 5), (3, 1, 5), (4, 3, 86)], none, none, (some (.agg [.nilsl, .nilsl, .int .u8 0, .int .u8 0, .int .u8 0, .int .u8 0, .int .u8 0]))⟩
theorem ok87 : TIOk Try.prog 87 ti87 := tiok (fl := fun f r h => match f, h with | 0, h => by cases h; kernel_rfl | 1, h => by cases h; kernel_rfl | 2, h => by cases h; kernel_rfl | 3, h => by cases h; kernel_rfl | 4, h => by cases h; kernel_rfl | (n + 5), h => by simp [ti87, nth] at h)
def ti88 : TI := ⟨7, true, none, none, (some [.nilsl, .nilsl, .int .u8 0, .int .u8 0, .int .u8 0, .int .u8 0, .int .u8 0]), (some (.st [(0, 1), (1, 1), (2, 1), (3, 1), (4, 3)])), 56, .other, [(0, 1, 84), (1, 1, 85), (2, 1, 5), (3, 1, 5), (4, 3, 86)], none, none, (some (.agg [.nilsl, .nilsl, .int .u8 0, .int .u8 0, .int .u8 0, .int .u8 0, .int .u8 0]))⟩
theorem ok88 : TIOk Try.prog 88 ti88 := tiok (fl := fun f r h => match f, h with | 0, h => by cases h; kernel_rfl | 1, h => by cases h; kernel_rfl | 2, h => by cases h; kernel_rfl | 3, h => by cases h; kernel_rfl | 4, h => by cases h; kernel_rfl | (n + 5), h => by simp [ti88, nth] at h)
def ti89 : TI := ⟨6, true, none, none, (some [.int .u8 0, .int .u8 0, .int .u8 0, .int .u8 0, .int .u8 0, .int .u8 0]), (some (.st [(0, 3), (3, 3)])), 6, .other, [(0, 3, 86), (3, 3, 86)], none, none, (some (.agg [.int .u8 0, .int .u8 0, .int .u8 0, .int .u8 0, .int .u8 0, .int .u8 0]))⟩
theorem ok89 : TIOk Try.prog 89 ti89 := tiok (fl := fun f r h => match f, h with | 0, h => by cases h; kernel_rfl | 1, h => by cases h; kernel_rfl | (n + 2), h => by simp [ti89, nth] at h)
def ti90 : TI := ⟨6, true, none, none, (some [.int .u8 0, .int .u8 0, .int .u8 0, .int .u8 0, .int .u8 0, .int .u8 0]), (some (.st [(0, 3), (3, 3)])), 6, .other, [(0, 3, 86), (3, 3, 86)], none, none, (some (.agg [.int .u8 0, .int .u8 0, .int .u8 0, .int .u8 0, .int .u8 0, .int .u8 0]))⟩
theorem ok90 : TIOk Try.prog 90 ti90 := tiok (fl := fun f r h => match f, h with | 0, h => by cases h; kernel_rfl | 1, h => by cases h; kernel_rfl | (n + 2), h => by simp [ti90, nth] at h)
def ti91 : TI := ⟨1, false, none, none, (some [.nilfn]), none, 8, .other, [], none, none, (some (.nilfn))⟩
theorem ok91 : TIOk Try.prog 91 ti91 := tiok
def ti92 : TI := ⟨1, false, none, none, (some [.nilfn]), none, 8, .other, [], none, none, (some (.nilfn))⟩
theorem ok92 : TIOk Try.prog 92 ti92 := tiok
def ti93 : TI := ⟨3, true, none, (some (3, 3, 1)), (some [.int .i64 0, .int .i64 0, .int .i64 0]), (some (.ar 1)), 24, .other, [], none, none, (some (.agg [.int .i64 0, .int .i64 0, .int .i64 0]))⟩
theorem ok93 : TIOk Try.prog 93 ti93 := tiok
def ti94 : TI := ⟨1, false, none, none, (some [.nilfn]), none, 8, .other, [], none, none, (some (.nilfn))⟩
theorem ok94 : TIOk Try.prog 94 ti94 := tiok
def ti95 : TI := ⟨1, false, none, none, (some [.nilfn]), none, 8, .other, [], none, none, (some (.nilfn))⟩
theorem ok95 : TIOk Try.prog 95 ti95 := tiok
def ti96 : TI := ⟨1, false, none, none, none, none, 0, .other, [], none, none, none⟩
theorem ok96 : TIOk Try.prog 96 ti96 := tiok
def ti97 : TI := ⟨1, false, none, none, (some [.nilfn]), none, 8, .other, [], none, none, (some (.nilfn))⟩
theorem ok97 : TIOk Try.prog 97 ti97 := tiok
def ti98 : TI := ⟨1, false, none, none, (some [.nilfn]), none, 8, .other, [], none, none, (some (.nilfn))⟩
theorem ok98 : TIOk Try.prog 98 ti98 := tiok
def ti99 : TI := ⟨1, false, none, none, (some [.nilfn]), none, 8, .other, [], none, none, (some (.nilfn))⟩
theorem ok99 : TIOk Try.prog 99 ti99 := tiok
def ti100 : TI := ⟨1, false, none, none, (some [.nilfn]), none, 8, .other, [], none, none, (some (.nilfn))⟩
theorem ok100 : TIOk Try.prog 100 ti100 := tiok
def ti101 : TI := ⟨2, true, none, (some (2, 3, 1)), (some [.int .i64 0, .int .i64 0]), (some (.ar 1)), 16, .other, [], none, none, (some (.agg [.int .i64 0, .int .i64 0]))⟩
theorem ok101 : TIOk Try.prog 101 ti101 := tiok
def ti102 : TI := ⟨1, false, none, none, (some [.nilfn]), none, 8, .other, [], none, none, (some (.nilfn))⟩
theorem ok102 : TIOk Try.prog 102 ti102 := tiok
def ti103 : TI := ⟨2, true, none, (some (2, 5, 1)), (some [.int .u8 0, .int .u8 0]), (some (.ar 1)), 2, .other, [], none, none, (some (.agg [.int .u8 0, .int .u8 0]))⟩
theorem ok103 : TIOk Try.prog 103 ti103 := tiok
def ti104 : TI := ⟨2, true, none, (some (2, 9, 1)), (some [.str ⟨#[]⟩, .str ⟨#[]⟩]), (some (.ar 1)), 32, .other, [], none, none, (some (.agg [.str ⟨#[]⟩, .str ⟨#[]⟩]))⟩
theorem ok104 : TIOk Try.prog 104 ti104 := tiok
def ti105 : TI := ⟨2, true, none, none, (some [.nilsl, .str ⟨#[]⟩]), (some (.st [(0, 1), (1, 1)])), 40, .other, [(0, 1, 71), (1, 1, 9)], none, none, (some (.agg [.nilsl, .str ⟨#[]⟩]))⟩
theorem ok105 : TIOk Try.prog 105 ti105 := tiok (fl := fun f r h => match f, h with | 0, h => by cases h; kernel_rfl | 1, h => by cases h; kernel_rfl | (n + 2), h => by simp [ti105, nth] at h)
def ti106 : TI := ⟨2, true, none, none, (some [.nilsl, .str ⟨#[]⟩]), (some (.st [(0, 1), (1, 1)])), 40, .other, [(0, 1, 71), (1, 1, 9)], none, none, (some (.agg [.nilsl, .str ⟨#[]⟩]))⟩
theorem ok106 : TIOk Try.prog 106 ti106 := tiok (fl := fun f r h => match f, h with | 0, h => by cases h; kernel_rfl | 1, h => by cases h; kernel_rfl | (n + 2), h => by simp [ti106, nth] at h)
def ti107 : TI := ⟨1, false, none, none, (some [.int .u64 0]), none, 8, (.int .u64), [], none, none, (some (.int .u64 0))⟩
theorem ok107 : TIOk Try.prog 107 ti107 := tiok
def ti108 : TI := ⟨1, false, (some (5, 1)), none, (some [.nilsl]), none, 24, .other, [], none, none, (some (.nilsl))⟩
theorem ok108 : TIOk Try.prog 108 ti108 := tiok
def ti109 : TI := ⟨1, false, none, none, (some [.nilfn]), none, 8, .other, [], none, none, (some (.nilfn))⟩
theorem ok109 : TIOk Try.prog 109 ti109 := tiok
def ti110 : TI := ⟨1, false, (some (103, 2)), none, (some [.nilsl]), none, 24, .other, [], none, none, (some (.nilsl))⟩
theorem ok110 : TIOk Try.prog 110 ti110 := tiok
def ti111 : TI := ⟨1, false, none, none, (some [.nilfn]), none, 8, .other, [], none, none, (some (.nilfn))⟩
theorem ok111 : TIOk Try.prog 111 ti111 := tiok
def ti112 : TI := ⟨1, false, (some (86, 3)), none, (some [.nilsl]), none, 24, .other, [], none, none, (some (.nilsl))⟩
theorem ok112 : TIOk Try.prog 112 ti112 := tiok
def ti113 : TI := ⟨4, true, none, (some (4, 5, 1)), (some [.int .u8 0, .int .u8 0, .int .u8 0, .int .u8 0]), (some (.ar 1)), 4, .other, [], none, none, (some (.agg [.int .u8 0, .int .u8 0, .int .u8 0, .int .u8 0]))⟩
theorem ok113 : TIOk Try.prog 113 ti113 := tiok
def ti114 : TI := ⟨1, false, none, none, (some [.nilfn]), none, 8, .other, [], none, none, (some (.nilfn))⟩
theorem ok114 : TIOk Try.prog 114 ti114 := tiok
def ti115 : TI := ⟨1, false, none, none, (some [.nilfn]), none, 8, .other, [], none, none, (some (.nilfn))⟩
theorem ok115 : TIOk Try.prog 115 ti115 := tiok
def ti116 : TI := ⟨1, false, none, none, (some [.nilfn]), none, 8, .other, [], none, none, (some (.nilfn))⟩
theorem ok116 : TIOk Try.prog 116 ti116 := tiok
def ti117 : TI := ⟨1, false, none, none, (some [.nilfn]), none, 8, .other, [], none, none, (some (.nilfn))⟩
theorem ok117 : TIOk Try.prog 117 ti117 := tiok
def ti118 : TI := ⟨6, true, none, (some (3, 40, 2)), (some [.int .i64 0, .int .i64 0, .int .i64 0, .int .i64 0, .int .i64 0, .int .i64 0]), (some (.ar 2)), 48, .other, [], none, none, (some (.agg [.int .i64 0, .int .i64 0, .int .i64 0, .int .i64 0, .int .i64 0, .int .i64 0]))⟩
theorem ok118 : TIOk Try.prog 118 ti118 := tiok
def ti119 : TI := ⟨10, true, none, none, (some [.nilsl, .int .i64 0, .int .i64 0, .nilsl, .int .i64 0, .int .i64 0, .int .i64 0, .int .i64 0, .int .i64 0, .int .i64 0]), (some (.st [(0, 4), (4, 6)])), 112, .other, [(0, 4, 25), (4, 6, 118)], none, none, (some (.agg [.nilsl, .int .i64 0, .int .i64 0, .nilsl, .int .i64 0, .int .i64 0, .int .i64 0, .int .i64 0, .int .i64 0, .int .i64 0]))⟩
theorem ok119 : TIOk Try.prog 119 ti119 := tiok (fl := fun f r h => match f, h with | 0, h => by cases h; kernel_rfl | 1, h => by cases h; kernel_rfl | (n + 2), h => by simp [ti119, nth] at h)
def ti120 : TI := ⟨10, true, none, none, (some [.nilsl, .int .i64 0, .int .i64 0, .nilsl, .int .i64 0, .int .i64 0, .int .i64 0, .int .i64 0, .int .i64 0, .int .i64 0]), (some (.st [(0, 4), (4, 6)])), 112, .other, [(0, 4, 25), (4, 6, 118)], none, none, (some (.agg [.nilsl, .int .i64 0, .int .i64 0, .nilsl, .int .i64 0, .int .i64 0, .int .i64 0, .int .i64 0, .int .i64 0, .int .i64 0]))⟩
theorem ok120 : TIOk Try.prog 120 ti120 := tiok (fl := fun f r h => match f, h with | 0, h => by cases h; kernel_rfl | 1, h => by cases h; kernel_rfl | (n + 2), h => by simp [ti120, nth] at h)
def ti121 : TI := ⟨1, false, none, none, none, none, 0, .other, [], none, none, none⟩
theorem ok121 : TIOk Try.prog 121 ti121 := tiok
def ti122 : TI := ⟨1, false, none, none, (some [.nilfn]), none, 8, .other, [], none, none, (some (.nilfn))⟩
theorem ok122 : TIOk Try.prog 122 ti122 := tiok
def ti123 : TI := ⟨1, false, none, none, none, none, 0, .other, [], none, none, none⟩
theorem ok123 : TIOk Try.prog 123 ti123 := tiok
def ti124 : TI := ⟨1, false, none, none, (some [.nilfn]), none, 8, .other, [], none, none, (some (.nilfn))⟩
theorem ok124 : TIOk Try.prog 124 ti124 := tiok
def ti125 : TI := ⟨1, false, none, none, (some [.nilfn]), none, 8, .other, [], none, none, (some (.nilfn))⟩
theorem ok125 : TIOk Try.prog 125 ti125 := tiok
def ti126 : TI := ⟨1, false, none, none, (some [.nilfn]), none, 8, .other, [], none, none, (some (.nilfn))⟩
theorem ok126 : TIOk Try.prog 126 ti126 := tiok
def ti127 : TI := ⟨1, false, none, none, (some [.nilfn]), none, 8, .other, [], none, none, (some (.nilfn))⟩
theorem ok127 : TIOk Try.prog 127 ti127 := tiok
def ti128 : TI := ⟨1, false, none, none, (some [.nilfn]), none, 8, .other, [], none, none, (some (.nilfn))⟩
theorem ok128 : TIOk Try.prog 128 ti128 := tiok
def ti129 : TI := ⟨1, false, none, none, (some [.nilfn]), none, 8, .other, [], none, none, (some (.nilfn))⟩
theorem ok129 : TIOk Try.prog 129 ti129 := tiok
def ti130 : TI := ⟨1, false, none, none, (some [.nilfn]), none, 8, .other, [], none, none, (some (.nilfn))⟩
theorem ok130 : TIOk Try.prog 130 ti130 := tiok
def ti131 : TI := ⟨1, false, none, none, (some [.nilfn]), none, 8, .other, [], none, none, (some (.nilfn))⟩
theorem ok131 : TIOk Try.prog 131 ti131 := tiok
def ti132 : TI := ⟨1, false, none, none, (some [.nilfn]), none, 8, .other, [], none, none, (some (.nilfn))⟩
theorem ok132 : TIOk Try.prog 132 ti132 := tiok
def ti133 : TI := ⟨1, false, none, none, (some [.nilfn]), none, 8, .other, [], none, none, (some (.nilfn))⟩
theorem ok133 : TIOk Try.prog 133 ti133 := tiok
def ti134 : TI := ⟨1, false, none, none, (some [.nilfn]), none, 8, .other, [], none, none, (some (.nilfn))⟩
theorem ok134 : TIOk Try.prog 134 ti134 := tiok
def ti135 : TI := ⟨1, false, none, none, (some [.nilfn]), none, 8, .other, [], none, none, (some (.nilfn))⟩
theorem ok135 : TIOk Try.prog 135 ti135 := tiok
def ti136 : TI := ⟨1, false, none, none, (some [.nilmap]), none, 8, .other, [], none, (some (3, 66)), (some (.nilmap))⟩
theorem ok136 : TIOk Try.prog 136 ti136 := tiok
def ti137 : TI := ⟨1, false, none, none, (some [.nilfn]), none, 8, .other, [], none, none, (some (.nilfn))⟩
theorem ok137 : TIOk Try.prog 137 ti137 := tiok
def ti138 : TI := ⟨1, false, none, none, (some [.nilfn]), none, 8, .other, [], none, none, (some (.nilfn))⟩
theorem ok138 : TIOk Try.prog 138 ti138 := tiok
def ti139 : TI := ⟨1, false, (some (23, 1)), none, (some [.nilsl]), none, 24, .other, [], none, none, (some (.nilsl))⟩
theorem ok139 : TIOk Try.prog 139 ti139 := tiok
def ti140 : TI := ⟨1, false, none, none, (some [.nilfn]), none, 8, .other, [], none, none, (some (.nilfn))⟩
theorem ok140 : TIOk Try.prog 140 ti140 := tiok
def ti141 : TI := ⟨1, false, none, none, (some [.nilfn]), none, 8, .other, [], none, none, (some (.nilfn))⟩
theorem ok141 : TIOk Try.prog 141 ti141 := tiok
def ti142 : TI := ⟨6, true, none, none, (some [.nilsl, .int .i64 0, .int .i64 0, .nilsl, .nilsl, .int .i64 0]), (some (.st [(0, 4), (4, 1), (5, 1)])), 96, .other, [(0, 4, 25), (4, 1, 70), (5, 1, 3)], none, none, (some (.agg [.nilsl, .int .i64 0, .int .i64 0, .nilsl, .nilsl, .int .i64 0]))⟩
theorem ok142 : TIOk Try.prog 142 ti142 := tiok (fl := fun f r h => match f, h with | 0, h => by cases h; kernel_rfl | 1, h => by cases h; kernel_rfl | 2, h => by cases h; kernel_rfl | (n + 3), h => by simp [ti142, nth] at h)
def ti143 : TI := ⟨6, true, none, none, (some [.nilsl, .int .i64 0, .int .i64 0, .nilsl, .nilsl, .int .i64 0]), (some (.st [(0, 4), (4, 1), (5, 1)])), 96, .other, [(0, 4, 25), (4, 1, 70), (5, 1, 3)], none, none, (some (.agg [.nilsl, .int .i64 0, .int .i64 0, .nilsl, .nilsl, .int .i64 0]))⟩
theorem ok143 : TIOk Try.prog 143 ti143 := tiok (fl := fun f r h => match f, h with | 0, h => by cases h; kernel_rfl | 1, h => by cases h; kernel_rfl | 2, h => by cases h; kernel_rfl | (n + 3), h => by simp [ti143, nth] at h)
def ti144 : TI := ⟨1, false, none, none, none, none, 0, .other, [], none, none, none⟩
theorem ok144 : TIOk Try.prog 144 ti144 := tiok
def ti145 : TI := ⟨1, false, none, none, (some [.nilfn]), none, 8, .other, [], none, none, (some (.nilfn))⟩
theorem ok145 : TIOk Try.prog 145 ti145 := tiok
def ti146 : TI := ⟨1, false, none, none, (some [.nilfn]), none, 8, .other, [], none, none, (some (.nilfn))⟩
theorem ok146 : TIOk Try.prog 146 ti146 := tiok
def ti147 : TI := ⟨1, false, none, none, (some [.nilfn]), none, 8, .other, [], none, none, (some (.nilfn))⟩
theorem ok147 : TIOk Try.prog 147 ti147 := tiok
def ti148 : TI := ⟨1, false, none, none, (some [.nilfn]), none, 8, .other, [], none, none, (some (.nilfn))⟩
theorem ok148 : TIOk Try.prog 148 ti148 := tiok
def ti149 : TI := ⟨6, true, none, (some (6, 5, 1)), (some [.int .u8 0, .int .u8 0, .int .u8 0, .int .u8 0, .int .u8 0, .int .u8 0]), (some (.ar 1)), 6, .other, [], none, none, (some (.agg [.int .u8 0, .int .u8 0, .int .u8 0, .int .u8 0, .int .u8 0, .int .u8 0]))⟩
theorem ok149 : TIOk Try.prog 149 ti149 := tiok
def ti150 : TI := ⟨1, false, none, none, (some [.nilfn]), none, 8, .other, [], none, none, (some (.nilfn))⟩
theorem ok150 : TIOk Try.prog 150 ti150 := tiok
def ti151 : TI := ⟨1, false, none, none, (some [.nilfn]), none, 8, .other, [], none, none, (some (.nilfn))⟩
theorem ok151 : TIOk Try.prog 151 ti151 := tiok
def ti152 : TI := ⟨1, false, none, none, (some [.nilfn]), none, 8, .other, [], none, none, (some (.nilfn))⟩
theorem ok152 : TIOk Try.prog 152 ti152 := tiok
def ti153 : TI := ⟨1, false, none, none, (some [.nilfn]), none, 8, .other, [], none, none, (some (.nilfn))⟩
theorem ok153 : TIOk Try.prog 153 ti153 := tiok
def ti154 : TI := ⟨1, false, none, none, (some [.nilfn]), none, 8, .other, [], none, none, (some (.nilfn))⟩
theorem ok154 : TIOk Try.prog 154 ti154 := tiok
def ti155 : TI := ⟨1, false, none, none, (some [.nilfn]), none, 8, .other, [], none, none, (some (.nilfn))⟩
theorem ok155 : TIOk Try.prog 155 ti155 := tiok
def ti156 : TI := ⟨1, false, none, none, (some [.nilfn]), none, 8, .other, [], none, none, (some (.nilfn))⟩
theorem ok156 : TIOk Try.prog 156 ti156 := tiok
def ti157 : TI := ⟨1, false, none, none, (some [.nilfn]), none, 8, .other, [], none, none, (some (.nilfn))⟩
theorem ok157 : TIOk Try.prog 157 ti157 := tiok
def ti158 : TI := ⟨1, false, none, none, (some [.nilfn]), none, 8, .other, [], none, none, (some (.nilfn))⟩
theorem ok158 : TIOk Try.prog 158 ti158 := tiok
def ti159 : TI := ⟨1, false, none, none, (some [.nilfn]), none, 8, .other, [], none, none, (some (.nilfn))⟩
theorem ok159 : TIOk Try.prog 159 ti159 := tiok
def ti160 : TI := ⟨1, false, none, none, (some [.nilfn]), none, 8, .other, [], none, none, (some (.nilfn))⟩
theorem ok160 : TIOk Try.prog 160 ti160 := tiok
def ti161 : TI := ⟨1, false, none, none, (some [.nilfn]), none, 8, .other, [], none, none, (some (.nilfn))⟩
theorem ok161 : TIOk Try.prog 161 ti161 := tiok
def ti162 : TI := ⟨1, false, none, none, (some [.nilfn]), none, 8, .other, [], none, none, (some (.nilfn))⟩
theorem ok162 : TIOk Try.prog 162 ti162 := tiok
def ti163 : TI := ⟨1, false, none, none, (some [.nilfn]), none, 8, .other, [], none, none, (some (.nilfn))⟩
theorem ok163 : TIOk Try.prog 163 ti163 := tiok
def ti164 : TI := ⟨1, false, none, none, (some [.nilfn]), none, 8, .other, [], none, none, (some (.nilfn))⟩
theorem ok164 : TIOk Try.prog 164 ti164 := tiok
def ti165 : TI := ⟨1, false, none, none, (some [.nilfn]), none, 8, .other, [], none, none, (some (.nilfn))⟩
theorem ok165 : TIOk Try.prog 165 ti165 := tiok
def ti166 : TI := ⟨1, false, none, none, (some [.nilfn]), none, 8, .other, [], none, none, (some (.nilfn))⟩
theorem ok166 : TIOk Try.prog 166 ti166 := tiok
def ti167 : TI := ⟨1, false, none, none, (some [.nilfn]), none, 8, .other, [], none, none, (some (.nilfn))⟩
theorem ok167 : TIOk Try.prog 167 ti167 := tiok
def ti168 : TI := ⟨1, false, none, none, (some [.nilfn]), none, 8, .other, [], none, none, (some (.nilfn))⟩
theorem ok168 : TIOk Try.prog 168 ti168 := tiok
def ti169 : TI := ⟨1, false, none, none, (some [.nilfn]), none, 8, .other, [], none, none, (some (.nilfn))⟩
theorem ok169 : TIOk Try.prog 169 ti169 := tiok
def ti170 : TI := ⟨1, false, none, none, (some [.nilfn]), none, 8, .other, [], none, none, (some (.nilfn))⟩
theorem ok170 : TIOk Try.prog 170 ti170 := tiok
def ti171 : TI := ⟨1, false, none, none, (some [.nilfn]), none, 8, .other, [], none, none, (some (.nilfn))⟩
theorem ok171 : TIOk Try.prog 171 ti171 := tiok
def ti172 : TI := ⟨1, false, none, none, (some [.nilfn]), none, 8, .other, [], none, none, (some (.nilfn))⟩
theorem ok172 : TIOk Try.prog 172 ti172 := tiok
def ti173 : TI := ⟨1, false, none, none, (some [.nilfn]), none, 8, .other, [], none, none, (some (.nilfn))⟩
theorem ok173 : TIOk Try.prog 173 ti173 := tiok
def ti174 : TI := ⟨1, false, none, none, (some [.nilfn]), none, 8, .other, [], none, none, (some (.nilfn))⟩
theorem ok174 : TIOk Try.prog 174 ti174 := tiok
def ti175 : TI := ⟨1, false, none, none, (some [.nilfn]), none, 8, .other, [], none, none, (some (.nilfn))⟩
theorem ok175 : TIOk Try.prog 175 ti175 := tiok
def ti176 : TI := ⟨1, false, none, none, (some [.nilfn]), none, 8, .other, [], none, none, (some (.nilfn))⟩
theorem ok176 : TIOk Try.prog 176 ti176 := tiok
def ti177 : TI := ⟨1, false, none, none, (some [.nilfn]), none, 8, .other, [], none, none, (some (.nilfn))⟩
theorem ok177 : TIOk Try.prog 177 ti177 := tiok
def ti178 : TI := ⟨1, false, none, none, (some [.nilfn]), none, 8, .other, [], none, none, (some (.nilfn))⟩
theorem ok178 : TIOk Try.prog 178 ti178 := tiok
def ti179 : TI := ⟨1, false, none, none, (some [.nilfn]), none, 8, .other, [], none, none, (some (.nilfn))⟩
theorem ok179 : TIOk Try.prog 179 ti179 := tiok
def ti180 : TI := ⟨1, false, none, none, (some [.int .i64 0]), none, 8, (.int .i64), [], none, none, (some (.int .i64 0))⟩
theorem ok180 : TIOk Try.prog 180 ti180 := tiok
def ti181 : TI := ⟨1, false, none, none, none, none, 0, .other, [], none, none, none⟩
theorem ok181 : TIOk Try.prog 181 ti181 := tiok
def ti182 : TI := ⟨1, false, none, none, (some [.nilfn]), none, 8, .other, [], none, none, (some (.nilfn))⟩
theorem ok182 : TIOk Try.prog 182 ti182 := tiok
def ti183 : TI := ⟨1, false, none, none, (some [.nilfn]), none, 8, .other, [], none, none, (some (.nilfn))⟩
theorem ok183 : TIOk Try.prog 183 ti183 := tiok
def ti184 : TI := ⟨1, false, none, none, (some [.nilfn]), none, 8, .other, [], none, none, (some (.nilfn))⟩
theorem ok184 : TIOk Try.prog 184 ti184 := tiok
def ti185 : TI := ⟨1, false, none, none, (some [.nilfn]), none, 8, .other, [], none, none, (some (.nilfn))⟩
theorem ok185 : TIOk Try.prog 185 ti185 := tiok
def ti186 : TI := ⟨1, false, none, none, (some [.nilfn]), none, 8, .other, [], none, none, (some (.nilfn))⟩
theorem ok186 : TIOk Try.prog 186 ti186 := tiok
def ti187 : TI := ⟨1, false, none, none, (some [.int .u32 0]), none, 4, (.int .u32), [], none, none, (some (.int .u32 0))⟩
theorem ok187 : TIOk Try.prog 187 ti187 := tiok
def ti188 : TI := ⟨1, false, none, none, (some [.nilfn]), none, 8, .other, [], none, none, (some (.nilfn))⟩
theorem ok188 : TIOk Try.prog 188 ti188 := tiok
def ti189 : TI := ⟨1, false, none, none, (some [.int .u64 0]), none, 8, (.int .u64), [], none, none, (some (.int .u64 0))⟩
theorem ok189 : TIOk Try.prog 189 ti189 := tiok
def ti190 : TI := ⟨1, false, none, none, (some [.int .u64 0]), none, 8, (.int .u64), [], none, none, (some (.int .u64 0))⟩
theorem ok190 : TIOk Try.prog 190 ti190 := tiok
def ti191 : TI := ⟨1, false, none, none, (some [.nilfn]), none, 8, .other, [], none, none, (some (.nilfn))⟩
theorem ok191 : TIOk Try.prog 191 ti191 := tiok
def ti192 : TI := ⟨1, false, none, none, (some [.nilfn]), none, 8, .other, [], none, none, (some (.nilfn))⟩
theorem ok192 : TIOk Try.prog 192 ti192 := tiok
def ti193 : TI := ⟨1, false, none, none, (some [.nilfn]), none, 8, .other, [], none, none, (some (.nilfn))⟩
theorem ok193 : TIOk Try.prog 193 ti193 := tiok
def ti194 : TI := ⟨1, false, none, none, (some [.nilptr]), none, 8, .other, [], none, none, (some (.nilptr))⟩
theorem ok194 : TIOk Try.prog 194 ti194 := tiok
def ti195 : TI := ⟨1, false, none, none, (some [.nilfn]), none, 8, .other, [], none, none, (some (.nilfn))⟩
theorem ok195 : TIOk Try.prog 195 ti195 := tiok
def ti196 : TI := ⟨1, false, none, none, (some [.nilptr]), none, 8, .other, [], none, none, (some (.nilptr))⟩
theorem ok196 : TIOk Try.prog 196 ti196 := tiok
def ti197 : TI := ⟨1, false, none, none, (some [.nilfn]), none, 8, .other, [], none, none, (some (.nilfn))⟩
theorem ok197 : TIOk Try.prog 197 ti197 := tiok
def ti198 : TI := ⟨1, false, none, none, (some [.nilfn]), none, 8, .other, [], none, none, (some (.nilfn))⟩
theorem ok198 : TIOk Try.prog 198 ti198 := tiok
def ti199 : TI := ⟨4, true, none, none, (some [.nilptr, .nilptr, .nilptr, .str ⟨#[]⟩]), (some (.st [(0, 1), (1, 1), (2, 1), (3, 1)])), 40, .other, [(0, 1, 17), (1, 1, 17), (2, 1, 17), (3, 1, 9)], none, none, (some (.agg [.nilptr, .nilptr, .nilptr, .str ⟨#[]⟩]))⟩
theorem ok199 : TIOk Try.prog 199 ti199 := tiok (fl := fun f r h => match f, h with | 0, h => by cases h; kernel_rfl | 1, h => by cases h; kernel_rfl | 2, h => by cases h; kernel_rfl | 3, h => by cases h; kernel_rfl | (n + 4), h => by simp [ti199, nth] at h)
def ti200 : TI := ⟨4, true, none, none, (some [.nilptr, .nilptr, .nilptr, .str ⟨#[]⟩]), (some (.st [(0, 1), (1, 1), (2, 1), (3, 1)])), 40, .other, [(0, 1, 17), (1, 1, 17), (2, 1, 17), (3, 1, 9)], none, none, (some (.agg [.nilptr, .nilptr, .nilptr, .str ⟨#[]⟩]))⟩
theorem ok200 : TIOk Try.prog 200 ti200 := tiok (fl := fun f r h => match f, h with | 0, h => by cases h; kernel_rfl | 1, h => by cases h; kernel_rfl | 2, h => by cases h; kernel_rfl | 3, h => by cases h; kernel_rfl | (n + 4), h => by simp [ti200, nth] at h)
def ti201 : TI := ⟨0, true, none, (some (0, 16, 1)), (some []), (some (.ar 1)), 0, .other, [], none, none, (some (.agg []))⟩
theorem ok201 : TIOk Try.prog 201 ti201 := tiok
def ti202 : TI := ⟨0, true, none, none, (some []), (some (.st [(0, 0)])), 0, .other, [(0, 0, 201)], none, none, (some (.agg []))⟩
theorem ok202 : TIOk Try.prog 202 ti202 := tiok (fl := fun f r h => match f, h with | 0, h => by cases h; kernel_rfl | (n + 1), h => by simp [ti202, nth] at h)
def ti203 : TI := ⟨0, true, none, none, (some []), (some (.st [(0, 0)])), 0, .other, [(0, 0, 201)], none, none, (some (.agg []))⟩
theorem ok203 : TIOk Try.prog 203 ti203 := tiok (fl := fun f r h => match f, h with | 0, h => by cases h; kernel_rfl | (n + 1), h => by simp [ti203, nth] at h)
def ti204 : TI := ⟨1, false, none, none, (some [.int .u8 0]), none, 1, (.int .u8), [], none, none, (some (.int .u8 0))⟩
theorem ok204 : TIOk Try.prog 204 ti204 := tiok
def ti205 : TI := ⟨1, false, none, none, (some [.int .u8 0]), none, 1, (.int .u8), [], none, none, (some (.int .u8 0))⟩
theorem ok205 : TIOk Try.prog 205 ti205 := tiok
def ti206 : TI := ⟨1, false, none, none, (some [.nilfn]), none, 8, .other, [], none, none, (some (.nilfn))⟩
theorem ok206 : TIOk Try.prog 206 ti206 := tiok
def ti207 : TI := ⟨1, false, none, none, (some [.nilptr]), none, 8, .other, [], none, none, (some (.nilptr))⟩
theorem ok207 : TIOk Try.prog 207 ti207 := tiok
def ti208 : TI := ⟨1, false, none, none, (some [.int .i32 0]), none, 4, (.int .i32), [], none, none, (some (.int .i32 0))⟩
theorem ok208 : TIOk Try.prog 208 ti208 := tiok
def ti209 : TI := ⟨1, false, none, none, (some [.int .i32 0]), none, 4, (.int .i32), [], none, none, (some (.int .i32 0))⟩
theorem ok209 : TIOk Try.prog 209 ti209 := tiok
def ti210 : TI := ⟨11, true, none, none, (some [.int .u64 0, .int .u64 0, .int .u32 0, .int .u8 0, .int .u8 0, .int .u8 0, .int .u8 0, .nilfn, .nilptr, .int .i32 0, .int .i32 0]), (some (.st [(0, 1), (1, 1), (2, 1), (3, 1), (4, 1), (5, 1), (6, 1), (7, 1), (8, 1), (9, 1), (10, 1)])), 48, .other, [(0, 1, 12), (1, 1, 12), (2, 1, 187), (3, 1, 204), (4, 1, 5), (5, 1, 5), (6, 1, 205), (7, 1, 206), (8, 1, 207), (9, 1, 208), (10, 1, 209)], none, none, (some (.agg [.int .u64 0, .int .u64 0, .int .u32 0, .int .u8 0, .int .u8 0, .int .u8 0, .int .u8 0, .nilfn, .nilptr, .int .i32 0, .int .i32 0]))⟩
theorem ok210 : TIOk Try.prog 210 ti210 := tiok (fl := fun f r h => match f, h with | 0, h => by cases h; kernel_rfl | 1, h => by cases h; kernel_rfl | 2, h => by cases h; kernel_rfl | 3, h => by cases h; kernel_rfl | 4, h => by cases h; kernel_rfl | 5, h => by cases h; kernel_rfl | 6, h => by cases h; kernel_rfl | 7, h => by cases h; kernel_rfl | 8, h => by cases h; kernel_rfl | 9, h => by cases h; kernel_rfl | 10, h => by cases h; kernel_rfl | (n + 11), h => by simp [ti210, nth] at h)
def ti211 : TI := ⟨11, true, none, none, (some [.int .u64 0, .int .u64 0, .int .u32 0, .int .u8 0, .int .u8 0, .int .u8 0, .int .u8 0, .nilfn, .nilptr, .int .i32 0, .int .i32 0]), (some (.st [(0, 1), (1, 1), (2, 1), (3, 1), (4, 1), (5, 1), (6, 1), (7, 1), (8, 1), (9, 1), (10, 1)])), 48, .other, [(0, 1, 12), (1, 1, 12), (2, 1, 187), (3, 1, 204), (4, 1, 5), (5, 1, 5), (6, 1, 205), (7, 1, 206), (8, 1, 207), (9, 1, 208), (10, 1, 209)], none, none, (some (.agg [.int .u64 0, .int .u64 0, .int .u32 0, .int .u8 0, .int .u8 0, .int .u8 0, .int .u8 0, .nilfn, .nilptr, .int .i32 0, .int .i32 0]))⟩
theorem ok211 : TIOk Try.prog 211 ti211 := tiok (fl := fun f r h => match f, h with | 0, h => by cases h; kernel_rfl | 1, h => by cases h; kernel_rfl | 2, h => by cases h; kernel_rfl | 3, h => by cases h; kernel_rfl | 4, h => by cases h; kernel_rfl | 5, h => by cases h; kernel_rfl | 6, h => by cases h; kernel_rfl | 7, h => by cases h; kernel_rfl | 8, h => by cases h; kernel_rfl | 9, h => by cases h; kernel_rfl | 10, h => by cases h; kernel_rfl | (n + 11), h => by simp [ti211, nth] at h)
def ti212 : TI := ⟨1, false, none, none, (some [.nilptr]), none, 8, .other, [], none, none, (some (.nilptr))⟩
theorem ok212 : TIOk Try.prog 212 ti212 := tiok
def tabT : Tree := (.node (.node (.node (.node (.node (.node (.node (.node .leaf 0 ti0 .leaf) 1 ti1 (.node .leaf 2 ti2 .leaf)) 3 ti3 (.node (.node .leaf 4 ti4 .leaf) 5 ti5 .leaf)) 6 ti6 (.node (.node (.node .leaf 7 ti7 .leaf) 8 ti8 (.node .leaf 9 ti9 .leaf)) 10 ti10 (.node (.node .leaf 11 ti11 .leaf) 12 ti12 .leaf))) 13 ti13 (.node (.node (.node (.node .leaf 14 ti14 .leaf) 15 ti15 (.node .leaf 16 ti16 .leaf)) 17 ti17 (.node (.node .leaf 18 ti18 .leaf) 19 ti19 .leaf)) 20 ti20 (.node (.node (.node .leaf 21 ti21 .leaf) 22 ti22 .leaf) 23 ti23 (.node (.node .leaf 24 ti24 .leaf) 25 ti25 .leaf)))) 26 ti26 (.node (.node (.node (.node (.node .leaf 27 ti27 .leaf) 28 ti28 (.node .leaf 29 ti29 .leaf)) 30 ti30 (.node (.node .leaf 31 ti31 .leaf) 32 ti32 .leaf)) 33 ti33 (.node (.node (.node .leaf 34 ti34 .leaf) 35 ti35 (.node .leaf 36 ti36 .leaf)) 37 ti37 (.node (.node .leaf 38 ti38 .leaf) 39 ti39 .leaf))) 40 ti40 (.node (.node (.node (.node .leaf 41 ti41 .leaf) 42 ti42 (.node .leaf 43 ti43 .leaf)) 44 ti44 (.node (.node .leaf 45 ti45 .leaf) 46 ti46 .leaf)) 47 ti47 (.node (.node (.node .leaf 48 ti48 .leaf) 49 ti49 .leaf) 50 ti50 (.node (.node .leaf 51 ti51 .leaf) 52 ti52 .leaf))))) 53 ti53 (.node (.node (.node (.node (.node (.node .leaf 54 ti54 .leaf) 55 ti55 (.node .leaf 56 ti56 .leaf)) 57 ti57 (.node (.node .leaf 58 ti58 .leaf) 59 ti59 .leaf)) 60 ti60 (.node (.node (.node .leaf 61 ti61 .leaf) 62 ti62 (.node .leaf 63 ti63 .leaf)) 64 ti64 (.node (.node .leaf 65 ti65 .leaf) 66 ti66 .leaf))) 67 ti67 (.node (.node (.node (.node .leaf 68 ti68 .leaf) 69 ti69 (.node .leaf 70 ti70 .leaf)) 71 ti71 (.node (.node .leaf 72 ti72 .leaf) 73 ti73 .leaf)) 74 ti74 (.node (.node (.node .leaf 75 ti75 .leaf) 76 ti76 .leaf) 77 ti77 (.node (.node .leaf 78 ti78 .leaf) 79 ti79 .leaf)))) 80 ti80 (.node (.node (.node (.node (.node .leaf 81 ti81 .leaf) 82 ti82 (.node .leaf 83 ti83 .leaf)) 84 ti84 (.node (.node .leaf 85 ti85 .leaf) 86 ti86 .leaf)) 87 ti87 (.node (.node (.node .leaf 88 ti88 .leaf) 89 ti89 .leaf) 90 ti90 (.node (.node .leaf 91 ti91 .leaf) 92 ti92 .leaf))) 93 ti93 (.node (.node (.node (.node .leaf 94 ti94 .leaf) 95 ti95 (.node .leaf 96 ti96 .leaf)) 97 ti97 (.node (.node .leaf 98 ti98 .leaf) 99 ti99 .leaf)) 100 ti100 (.node (.node (.node .leaf 101 ti101 .leaf) 102 ti102 .leaf) 103 ti103 (.node (.node .leaf 104 ti104 .leaf) 105 ti105 .leaf)))))) 106 ti106 (.node (.node (.node (.node (.node (.node (.node .leaf 107 ti107 .leaf) 108 ti108 (.node .leaf 109 ti109 .leaf)) 110 ti110 (.node (.node .leaf 111 ti111 .leaf) 112 ti112 .leaf)) 113 ti113 (.node (.node (.node .leaf 114 ti114 .leaf) 115 ti115 (.node .leaf 116 ti116 .leaf)) 117 ti117 (.node (.node .leaf 118 ti118 .leaf) 119 ti119 .leaf))) 120 ti120 (.node (.node (.node (.node .leaf 121 ti121 .leaf) 122 ti122 (.node .leaf 123 ti123 .leaf)) 124 ti124 (.node (.node .leaf 125 ti125 .leaf) 126 ti126 .leaf)) 127 ti127 (.node (.node (.node .leaf 128 ti128 .leaf) 129 ti129 .leaf) 130 ti130 (.node (.node .leaf 131 ti131 .leaf) 132 ti132 .leaf)))) 133 ti133 (.node (.node (.node (.node (.node .leaf 134 ti134 .leaf) 135 ti135 (.node .leaf 136 ti136 .leaf)) 137 ti137 (.node (.node .leaf 138 ti138 .leaf) 139 ti139 .leaf)) 140 ti140 (.node (.node (.node .leaf 141 ti141 .leaf) 142 ti142 (.node .leaf 143 ti143 .leaf)) 144 ti144 (.node (.node .leaf 145 ti145 .leaf) 146 ti146 .leaf))) 147 ti147 (.node (.node (.node (.node .leaf 148 ti148 .leaf) 149 ti149 (.node .leaf 150 ti150 .leaf)) 151 ti151 (.node (.node .leaf 152 ti152 .leaf) 153 ti153 .leaf)) 154 ti154 (.node (.node (.node .leaf 155 ti155 .leaf) 156 ti156 .leaf) 157 ti157 (.node (.node .leaf 158 ti158 .leaf) 159 ti159 .leaf))))) 160 ti160 (.node (.node (.node (.node (.node (.node .leaf 161 ti161 .leaf) 162 ti162 (.node .leaf 163 ti163 .leaf)) 164 ti164 (.node (.node .leaf 165 ti165 .leaf) 166 ti166 .leaf)) 167 ti167 (.node (.node (.node .leaf 168 ti168 .leaf) 169 ti169 (.node .leaf 170 ti170 .leaf)) 171 ti171 (.node (.node .leaf 172 ti172 .leaf) 173 ti173 .leaf))) 174 ti174 (.node (.node (.node (.node .leaf 175 ti175 .leaf) 176 ti176 (.node .leaf 177 ti177 .leaf)) 178 ti178 (.node (.node .leaf 179 ti179 .leaf) 180 ti180 .leaf)) 181 ti181 (.node (.node (.node .leaf 182 ti182 .leaf) 183 ti183 .leaf) 184 ti184 (.node (.node .leaf 185 ti185 .leaf) 186 ti186 .leaf)))) 187 ti187 (.node (.node (.node (.node (.node .leaf 188 ti188 .leaf) 189 ti189 (.node .leaf 190 ti190 .leaf)) 191 ti191 (.node (.node .leaf 192 ti192 .leaf) 193 ti193 .leaf)) 194 ti194 (.node (.node (.node .leaf 195 ti195 .leaf) 196 ti196 .leaf) 197 ti197 (.node (.node .leaf 198 ti198 .leaf) 199 ti199 .leaf))) 200 ti200 (.node (.node (.node (.node .leaf 201 ti201 .leaf) 202 ti202 (.node .leaf 203 ti203 .leaf)) 204 ti204 (.node (.node .leaf 205 ti205 .leaf) 206 ti206 .leaf)) 207 ti207 (.node (.node (.node .leaf 208 ti208 .leaf) 209 ti209 .leaf) 210 ti210 (.node (.node .leaf 211 ti211 .leaf) 212 ti212 .leaf)))))))
def tab (n : Nat) : Option TI := tabT.look n
theorem tabTOk : TabOk Try.prog tabT := ⟨ok106, ⟨ok53, ⟨ok26, ⟨ok13, ⟨ok6, ⟨ok3, ⟨ok1, ⟨ok0, trivial, trivial⟩, ⟨ok2, trivial, trivial⟩⟩, ⟨ok5, ⟨ok4, trivial, trivial⟩, trivial⟩⟩, ⟨ok10, ⟨ok8, ⟨ok7, trivial, trivial⟩, ⟨ok9, trivial, trivial⟩⟩, ⟨ok12, ⟨ok11, trivial, trivial⟩, trivial⟩⟩⟩, ⟨ok20, ⟨ok17, ⟨ok15, ⟨ok14, trivial, trivial⟩, ⟨ok16, trivial, trivial⟩⟩, ⟨ok19, ⟨ok18, trivial, trivial⟩, trivial⟩⟩, ⟨ok23, ⟨ok22, ⟨ok21, trivial, trivial⟩, trivial⟩, ⟨ok25, ⟨ok24, trivial, trivial⟩, trivial⟩⟩⟩⟩, ⟨ok40, ⟨ok33, ⟨ok30, ⟨ok28, ⟨ok27, trivial, trivial⟩, ⟨ok29, trivial, trivial⟩⟩, ⟨ok32, ⟨ok31, trivial, trivial⟩, trivial⟩⟩, ⟨ok37, ⟨ok35, ⟨ok34, trivial, trivial⟩, ⟨ok36, trivial, trivial⟩⟩, ⟨ok39, ⟨ok38, trivial, trivial⟩, trivial⟩⟩⟩, ⟨ok47, ⟨ok44, ⟨ok42, ⟨ok41, trivial, trivial⟩, ⟨ok43, trivial, trivial⟩⟩, ⟨ok46, ⟨ok45, trivial, trivial⟩, trivial⟩⟩, ⟨ok50, ⟨ok49, ⟨ok48, trivial, trivial⟩, trivial⟩, ⟨ok52, ⟨ok51, trivial, trivial⟩, trivial⟩⟩⟩⟩⟩, ⟨ok80, ⟨ok67, ⟨ok60, ⟨ok57, ⟨ok55, ⟨ok54, trivial, trivial⟩, ⟨ok56, trivial, trivial⟩⟩, ⟨ok59, ⟨ok58, trivial, trivial⟩, trivial⟩⟩, ⟨ok64, ⟨ok62, ⟨ok61, trivial, trivial⟩, ⟨ok63, trivial, trivial⟩⟩, ⟨ok66, ⟨ok65, trivial, trivial⟩, trivial⟩⟩⟩, ⟨ok74, ⟨ok71, ⟨ok69, ⟨ok68, trivial, trivial⟩, ⟨ok70, trivial, trivial⟩⟩, ⟨ok73, ⟨ok72, trivial, trivial⟩, trivial⟩⟩, ⟨ok77, ⟨ok76, ⟨ok75, trivial, trivial⟩, trivial⟩, ⟨ok79, ⟨ok78, trivial, trivial⟩, trivial⟩⟩⟩⟩, ⟨ok93, ⟨ok87, ⟨ok84, ⟨ok82, ⟨ok81, trivial, trivial⟩, ⟨ok83, trivial, trivial⟩⟩, ⟨ok86, ⟨ok85, trivial, trivial⟩, trivial⟩⟩, ⟨ok90, ⟨ok89, ⟨ok88, trivial, trivial⟩, trivial⟩, ⟨ok92, ⟨ok91, trivial, trivial⟩, trivial⟩⟩⟩, ⟨ok100, ⟨ok97, ⟨ok95, ⟨ok94, trivial, trivial⟩, ⟨ok96, trivial, trivial⟩⟩, ⟨ok99, ⟨ok98, trivial, trivial⟩, trivial⟩⟩, ⟨ok103, ⟨ok102, ⟨ok101, trivial, trivial⟩, trivial⟩, ⟨ok105, ⟨ok104, trivial, trivial⟩, trivial⟩⟩⟩⟩⟩⟩, ⟨ok160, ⟨ok133, ⟨ok120, ⟨ok113, ⟨ok110, ⟨ok108, ⟨ok107, trivial, trivial⟩, ⟨ok109, trivial, trivial⟩⟩, ⟨ok112, ⟨ok111, trivial, trivial⟩, trivial⟩⟩, ⟨ok117, ⟨ok115, ⟨ok114, trivial, trivial⟩, ⟨ok116, trivial, trivial⟩⟩, ⟨ok119, ⟨ok118, trivial, trivial⟩, trivial⟩⟩⟩, ⟨ok127, ⟨ok124, ⟨ok122, ⟨ok121, trivial, trivial⟩, ⟨ok123, trivial, trivial⟩⟩, ⟨ok126, ⟨ok125, trivial, trivial⟩, trivial⟩⟩, ⟨ok130, ⟨ok129, ⟨ok128, trivial, trivial⟩, trivial⟩, ⟨ok132, ⟨ok131, trivial, trivial⟩, trivial⟩⟩⟩⟩, ⟨ok147, ⟨ok140, ⟨ok137, ⟨ok135, ⟨ok134, trivial, trivial⟩, ⟨ok136, trivial, trivial⟩⟩, ⟨ok139, ⟨ok138, trivial, trivial⟩, trivial⟩⟩, ⟨ok144, ⟨ok142, ⟨ok141, trivial, trivial⟩, ⟨ok143, trivial, trivial⟩⟩, ⟨ok146, ⟨ok145, trivial, trivial⟩, trivial⟩⟩⟩, ⟨ok154, ⟨ok151, ⟨ok149, ⟨ok148, trivial, trivial⟩, ⟨ok150, trivial, trivial⟩⟩, ⟨ok153, ⟨ok152, trivial, trivial⟩, trivial⟩⟩, ⟨ok157, ⟨ok156, ⟨ok155, trivial, trivial⟩, trivial⟩, ⟨ok159, ⟨ok158, trivial, trivial⟩, trivial⟩⟩⟩⟩⟩, ⟨ok187, ⟨ok174, ⟨ok167, ⟨ok164, ⟨ok162, ⟨ok161, trivial, trivial⟩, ⟨ok163, trivial, trivial⟩⟩, ⟨ok166, ⟨ok165, trivial, trivial⟩, trivial⟩⟩, ⟨ok171, ⟨ok169, ⟨ok168, trivial, trivial⟩, ⟨ok170, trivial, trivial⟩⟩, ⟨ok173, ⟨ok172, trivial, trivial⟩, trivial⟩⟩⟩, ⟨ok181, ⟨ok178, ⟨ok176, ⟨ok175, trivial, trivial⟩, ⟨ok177, trivial, trivial⟩⟩, ⟨ok180, ⟨ok179, trivial, trivial⟩, trivial⟩⟩, ⟨ok184, ⟨ok183, ⟨ok182, trivial, trivial⟩, trivial⟩, ⟨ok186, ⟨ok185, trivial, trivial⟩, trivial⟩⟩⟩⟩, ⟨ok200, ⟨ok194, ⟨ok191, ⟨ok189, ⟨ok188, trivial, trivial⟩, ⟨ok190, trivial, trivial⟩⟩, ⟨ok193, ⟨ok192, trivial, trivial⟩, trivial⟩⟩, ⟨ok197, ⟨ok196, ⟨ok195, trivial, trivial⟩, trivial⟩, ⟨ok199, ⟨ok198, trivial, trivial⟩, trivial⟩⟩⟩, ⟨ok207, ⟨ok204, ⟨ok202, ⟨ok201, trivial, trivial⟩, ⟨ok203, trivial, trivial⟩⟩, ⟨ok206, ⟨ok205, trivial, trivial⟩, trivial⟩⟩, ⟨ok210, ⟨ok209, ⟨ok208, trivial, trivial⟩, trivial⟩, ⟨ok212, ⟨ok211, trivial, trivial⟩, trivial⟩⟩⟩⟩⟩⟩⟩
theorem tabOk : ∀ t i, tab t = some i -> TIOk Try.prog t i := fun _ _ h => tabTOk.look h
theorem seat : SeatOk Try.prog tab := ⟨tabOk, by kernel_rfl⟩
theorem ent_3 : Ent Try.prog 3 := enters_of Try.func3 (by kernel_rfl) rfl
theorem ent_15 : Ent Try.prog 15 := enters_of Try.func15 (by kernel_rfl) rfl
theorem ent_16 : Ent Try.prog 16 := enters_of Try.func16 (by kernel_rfl) rfl
theorem ent_17 : Ent Try.prog 17 := enters_of Try.func17 (by kernel_rfl) rfl
theorem ent_18 : Ent Try.prog 18 := enters_of Try.func18 (by kernel_rfl) rfl
theorem ent_19 : Ent Try.prog 19 := enters_of Try.func19 (by kernel_rfl) rfl
theorem ent_20 : Ent Try.prog 20 := enters_of Try.func20 (by kernel_rfl) rfl
theorem ent_21 : Ent Try.prog 21 := enters_of Try.func21 (by kernel_rfl) rfl
theorem ent_22 : Ent Try.prog 22 := enters_of Try.func22 (by kernel_rfl) rfl
theorem ent_23 : Ent Try.prog 23 := enters_of Try.func23 (by kernel_rfl) rfl
theorem ent_24 : Ent Try.prog 24 := enters_of Try.func24 (by kernel_rfl) rfl
theorem ent_25 : Ent Try.prog 25 := enters_of Try.func25 (by kernel_rfl) rfl
theorem ent_26 : Ent Try.prog 26 := enters_of Try.func26 (by kernel_rfl) rfl
theorem ent_27 : Ent Try.prog 27 := enters_of Try.func27 (by kernel_rfl) rfl
theorem ent_29 : Ent Try.prog 29 := enters_of Try.func29 (by kernel_rfl) rfl
theorem ent_31 : Ent Try.prog 31 := enters_of Try.func31 (by kernel_rfl) rfl
theorem ent_33 : Ent Try.prog 33 := enters_of Try.func33 (by kernel_rfl) rfl
theorem ent_34 : Ent Try.prog 34 := enters_of Try.func34 (by kernel_rfl) rfl
theorem ent_36 : Ent Try.prog 36 := enters_of Try.func36 (by kernel_rfl) rfl
theorem ent_38 : Ent Try.prog 38 := enters_of Try.func38 (by kernel_rfl) rfl
theorem ent_41 : Ent Try.prog 41 := enters_of Try.func41 (by kernel_rfl) rfl
theorem ent_42 : Ent Try.prog 42 := enters_of Try.func42 (by kernel_rfl) rfl
theorem ent_45 : Ent Try.prog 45 := enters_of Try.func45 (by kernel_rfl) rfl
theorem ent_54 : Ent Try.prog 54 := enters_of Try.func54 (by kernel_rfl) rfl
theorem ent_55 : Ent Try.prog 55 := enters_of Try.func55 (by kernel_rfl) rfl
theorem ent_56 : Ent Try.prog 56 := enters_of Try.func56 (by kernel_rfl) rfl
theorem ent_57 : Ent Try.prog 57 := enters_of Try.func57 (by kernel_rfl) rfl
theorem ent_58 : Ent Try.prog 58 := enters_of Try.func58 (by kernel_rfl) rfl
theorem ent_59 : Ent Try.prog 59 := enters_of Try.func59 (by kernel_rfl) rfl
theorem ent_60 : Ent Try.prog 60 := enters_of Try.func60 (by kernel_rfl) rfl
theorem ent_61 : Ent Try.prog 61 := enters_of Try.func61 (by kernel_rfl) rfl
theorem ent_62 : Ent Try.prog 62 := enters_of Try.func62 (by kernel_rfl) rfl
theorem ent_63 : Ent Try.prog 63 := enters_of Try.func63 (by kernel_rfl) rfl
theorem ent_64 : Ent Try.prog 64 := enters_of Try.func64 (by kernel_rfl) rfl
theorem ent_65 : Ent Try.prog 65 := enters_of Try.func65 (by kernel_rfl) rfl
theorem ent_66 : Ent Try.prog 66 := enters_of Try.func66 (by kernel_rfl) rfl
theorem ent_67 : Ent Try.prog 67 := enters_of Try.func67 (by kernel_rfl) rfl
theorem ent_68 : Ent Try.prog 68 := enters_of Try.func68 (by kernel_rfl) rfl
theorem ent_69 : Ent Try.prog 69 := enters_of Try.func69 (by kernel_rfl) rfl
theorem ent_70 : Ent Try.prog 70 := enters_of Try.func70 (by kernel_rfl) rfl
theorem ent_71 : Ent Try.prog 71 := enters_of Try.func71 (by kernel_rfl) rfl
theorem ent_72 : Ent Try.prog 72 := enters_of Try.func72 (by kernel_rfl) rfl
theorem ent_73 : Ent Try.prog 73 := enters_of Try.func73 (by kernel_rfl) rfl
theorem ent_74 : Ent Try.prog 74 := enters_of Try.func74 (by kernel_rfl) rfl
theorem ent_75 : Ent Try.prog 75 := enters_of Try.func75 (by kernel_rfl) rfl
theorem ent_78 : Ent Try.prog 78 := enters_of Try.func78 (by kernel_rfl) rfl
theorem ent_79 : Ent Try.prog 79 := enters_of Try.func79 (by kernel_rfl) rfl
theorem ent_80 : Ent Try.prog 80 := enters_of Try.func80 (by kernel_rfl) rfl
theorem ent_85 : Ent Try.prog 85 := enters_of Try.func85 (by kernel_rfl) rfl
theorem ent_86 : Ent Try.prog 86 := enters_of Try.func86 (by kernel_rfl) rfl
theorem ent_87 : Ent Try.prog 87 := enters_of Try.func87 (by kernel_rfl) rfl
theorem ent_88 : Ent Try.prog 88 := enters_of Try.func88 (by kernel_rfl) rfl
theorem ent_89 : Ent Try.prog 89 := enters_of Try.func89 (by kernel_rfl) rfl
theorem ent_90 : Ent Try.prog 90 := enters_of Try.func90 (by kernel_rfl) rfl
theorem ent_91 : Ent Try.prog 91 := enters_of Try.func91 (by kernel_rfl) rfl
theorem ent_92 : Ent Try.prog 92 := enters_of Try.func92 (by kernel_rfl) rfl
theorem ent_93 : Ent Try.prog 93 := enters_of Try.func93 (by kernel_rfl) rfl
theorem ent_94 : Ent Try.prog 94 := enters_of Try.func94 (by kernel_rfl) rfl
theorem ent_95 : Ent Try.prog 95 := enters_of Try.func95 (by kernel_rfl) rfl
theorem ent_96 : Ent Try.prog 96 := enters_of Try.func96 (by kernel_rfl) rfl
theorem ent_97 : Ent Try.prog 97 := enters_of Try.func97 (by kernel_rfl) rfl
theorem ent_98 : Ent Try.prog 98 := enters_of Try.func98 (by kernel_rfl) rfl
theorem ent_100 : Ent Try.prog 100 := enters_of Try.func100 (by kernel_rfl) rfl
theorem ent_101 : Ent Try.prog 101 := enters_of Try.func101 (by kernel_rfl) rfl
theorem ent_102 : Ent Try.prog 102 := enters_of Try.func102 (by kernel_rfl) rfl
theorem ent_103 : Ent Try.prog 103 := enters_of Try.func103 (by kernel_rfl) rfl
theorem ent_104 : Ent Try.prog 104 := enters_of Try.func104 (by kernel_rfl) rfl
theorem ent_106 : Ent Try.prog 106 := enters_of Try.func106 (by kernel_rfl) rfl
theorem ent_107 : Ent Try.prog 107 := enters_of Try.func107 (by kernel_rfl) rfl
theorem ent_108 : Ent Try.prog 108 := enters_of Try.func108 (by kernel_rfl) rfl
theorem ent_109 : Ent Try.prog 109 := enters_of Try.func109 (by kernel_rfl) rfl
theorem ent_110 : Ent Try.prog 110 := enters_of Try.func110 (by kernel_rfl) rfl
theorem ent_111 : Ent Try.prog 111 := enters_of Try.func111 (by kernel_rfl) rfl
theorem ent_112 : Ent Try.prog 112 := enters_of Try.func112 (by kernel_rfl) rfl
theorem ent_113 : Ent Try.prog 113 := enters_of Try.func113 (by kernel_rfl) rfl
theorem ent_114 : Ent Try.prog 114 := enters_of Try.func114 (by kernel_rfl) rfl
theorem ent_115 : Ent Try.prog 115 := enters_of Try.func115 (by kernel_rfl) rfl
theorem ent_116 : Ent Try.prog 116 := enters_of Try.func116 (by kernel_rfl) rfl
theorem ent_125 : Ent Try.prog 125 := enters_of Try.func125 (by kernel_rfl) rfl
end Go.Proofs.Ytfilnnbfppokmaa.Aw
namespace Go.Proofs.Ytfilnnbfppokmaa.Aw
open Go Go.RowKit
mutual
def leD : D -> D -> Prop
 | .sl c sz rows, y => match y with
  | .sl c' sz' rows' => (c' = false \/ c = c') /\ sz = sz' /\ leDLL rows rows'
  | _ => False
 | .agg l, y => match y with
  | .agg l' => leDL l l'
  | _ => False
 | .int k n, y => D.int k n = y
 | .bool b, y => D.bool b = y
 | .str s, y => D.str s = y
 | .fn f cs, y => match y with
  | .fn f' cs' => f = f' /\ leDL cs cs'
  | _ => False
 | .bnd f fs cs, y => D.bnd f fs cs = y
 | .nilfn, y => D.nilfn = y
 | .ptr cs, y => match y with
  | .ptr cs' => leDL cs cs'
  | _ => False
 | .nilsl, y => match y with
  | .nilsl => True
  | .sl _ _ rows => rows = []
  | _ => False
 | .nilmap, y => D.nilmap = y
 | .nilptr, y => D.nilptr = y
 | .map rows, y => D.map rows = y
def leDL : List D -> List D -> Prop
 | [], q => q = []
 | x :: r, q => match q with
  | [] => False
  | y :: q => leD x y /\ leDL r q
def leDLL : List (List D) -> List (List D) -> Prop
 | [], q => q = []
 | x :: r, q => match q with
  | [] => False
  | y :: q => leDL x y /\ leDLL r q
end
mutual
theorem leD_refl : ∀ (x : D), leD x x
 | .sl c sz rows => ⟨.inr rfl, rfl, leDLL_refl rows⟩
 | .agg l => leDL_refl l
 | .int k n => rfl
 | .bool b => rfl
 | .str s => rfl
 | .fn f cs => ⟨rfl, leDL_refl cs⟩
 | .bnd _ _ _ => rfl
 | .nilfn => rfl
 | .ptr cs => leDL_refl cs
 | .nilsl => trivial
 | .nilmap => rfl
 | .nilptr => rfl
 | .map _ => rfl
theorem leDL_refl : ∀ (l : List D), leDL l l
 | [] => rfl
 | x :: r => ⟨leD_refl x, leDL_refl r⟩
theorem leDLL_refl : ∀ (l : List (List D)), leDLL l l
 | [] => rfl
 | x :: r => ⟨leDL_refl x, leDLL_refl r⟩
end
theorem leDL_get : ∀ {l q : List D}, leDL l q -> l.length = q.length /\ ∀ (i : Nat) (y : D), q[i]? = some y -> ∃ x, l[i]? = some x /\ leD x y
 | [], q, h => by
  have h : q = [] := h
  subst h
  exact ⟨rfl, fun i y hy => by simp at hy⟩
 | x :: r, [], h => h.elim
 | x :: r, y :: q, h => by
  obtain ⟨h1, h2⟩ := (h : leD x y /\ leDL r q)
  obtain ⟨g1, g2⟩ := leDL_get h2
  refine ⟨by simp [g1], fun i z hz => ?_⟩
  match i, hz with
  | 0, hz => cases hz; exact ⟨x, rfl, h1⟩
  | i + 1, hz => exact g2 i z (by simpa using hz)
theorem leDLL_get : ∀ {l q : List (List D)}, leDLL l q -> l.length = q.length /\ ∀ (i : Nat) (y : List D), q[i]? = some y -> ∃ x, l[i]? = some x /\ leDL x y
 | [], q, h => by
  have h : q = [] := h
  subst h
  exact ⟨rfl, fun i y hy => by simp at hy⟩
 | x :: r, [], h => h.elim
 | x :: r, y :: q, h => by
  obtain ⟨h1, h2⟩ := (h : leDL x y /\ leDLL r q)
  obtain ⟨g1, g2⟩ := leDLL_get h2
  refine ⟨by simp [g1], fun i z hz => ?_⟩
  match i, hz with
  | 0, hz => cases hz; exact ⟨x, rfl, h1⟩
  | i + 1, hz => exact g2 i z (by simpa using hz)
theorem Rd.le {w : World} {ok : Nat -> Prop} {x : D} {v : Value} (h : Rd w ok x v) : ∀ {y : D}, leD x y -> Rd w ok y v := by
 induction h with
 | int k n => intro y e; cases (e : D.int k n = y); exact .int k n
 | bool b => intro y e; cases (e : D.bool b = y); exact .bool b
 | str s => intro y e; cases (e : D.str s = y); exact .str s
 | agg cs vs hl h1 h ih =>
  intro y e
  cases y with
  | agg l =>
   obtain ⟨g1, g2⟩ := leDL_get (e : leDL cs l)
   refine .agg l vs (by rw [hl, g1]) h1 (fun i c v hc hv => ?_)
   obtain ⟨x, e1, e2⟩ := g2 i c hc
   exact ih i x v e1 hv e2
  | _ => exact e.elim
 | fn f cs vs hl h ih =>
  intro y e
  cases y with
  | fn f' l =>
   obtain ⟨rfl, e⟩ := (e : f = f' /\ leDL cs l)
   obtain ⟨g1, g2⟩ := leDL_get e
   refine .fn f l vs (by rw [hl, g1]) (fun i c v hc hv => ?_)
   obtain ⟨x, e1, e2⟩ := g2 i c hc
   exact ih i x v e1 hv e2
  | _ => exact e.elim
 | bnd f fs cs us vs hl' h' hl h ih' ih => intro y e; cases (e : D.bnd f fs cs = y); exact .bnd f fs cs us vs hl' h' hl h
 | nilfn => intro y e; cases (e : D.nilfn = y); exact .nilfn
 | map rows k clock es vs hok hh hn hst hsz hv h ih => intro y e; cases (e : D.map rows = y); exact .map rows k clock es vs hok hh hn hst hsz hv h
 | ptr cs b off vs hok hc h ih =>
  intro y e
  cases y with
  | ptr l =>
   obtain ⟨g1, g2⟩ := leDL_get (e : leDL cs l)
   refine .ptr l b off vs hok (fun i c hi => ?_) (fun i c hi => ?_)
   ·obtain ⟨x, e1, e2⟩ := g2 i c hi
    exact hc i x e1
   ·obtain ⟨x, e1, e2⟩ := g2 i c hi
    exact ih i x e1 e2
  | _ => exact e.elim
 | sl0 clip sz =>
  intro y e
  cases y with
  | sl c' sz' rows' =>
   obtain ⟨_, rfl, h3⟩ := (e : (c' = false \/ clip = c') /\ sz = sz' /\ rows' = [])
   subst h3
   exact .sl0 _ _
  | _ => exact e.elim
 | slE clip sz ad =>
  intro y e
  cases y with
  | sl c' sz' rows' =>
   obtain ⟨_, rfl, h3⟩ := (e : (c' = false \/ clip = c') /\ sz = sz' /\ rows' = [])
   subst h3
   exact .slE _ _ _
  | _ => exact e.elim
 | sl clip sz rows b off cap vs hok h1 h2 h3 h4 h5 h6 h7 ih =>
  intro y e
  cases y with
  | sl c' sz' rows' =>
   obtain ⟨g1, rfl, g3⟩ := (e : (c' = false \/ clip = c') /\ sz = sz' /\ leDLL rows rows')
   obtain ⟨l1, l2⟩ := leDLL_get g3
   have key : ∀ (i : Nat) (row : List D) (j : Nat) (c : D), rows'[i]? = some row -> row[j]? = some c -> ∃ row0 c0, rows[i]? = some row0 /\ row0[j]? = some c0 /\ leD c0 c := fun i row j c hi hj => by
    obtain ⟨row0, e1, e2⟩ := l2 i row hi
    obtain ⟨c0, e3, e4⟩ := (leDL_get e2).2 j c hj
    exact ⟨row0, c0, e1, e3, e4⟩
   rw [l1]
   refine .sl c' sz rows' b off cap vs hok (by rw [<- l1]; exact h1) h2 (fun hc => ?_) (fun row hr => ?_) (fun i row j c hi hj => ?_) (fun i row j c hi hj => ?_) (fun i row j c hi hj => ?_)
   ·rcases g1 with g1 | g1
    ·rw [g1] at hc; cases hc
    ·rw [<- l1]; exact h3 (g1.trans hc)
   ·obtain ⟨i, hi⟩ := List.mem_iff_getElem?.1 hr
    obtain ⟨row0, e1, e2⟩ := l2 i row hi
    rw [<- (leDL_get e2).1]
    exact h4 row0 (List.mem_iff_getElem?.2 ⟨i, e1⟩)
   ·obtain ⟨row0, c0, e1, e2, e3⟩ := key i row j c hi hj
    exact h5 i row0 j c0 e1 e2
   ·obtain ⟨row0, c0, e1, e2, e3⟩ := key i row j c hi hj
    exact h6 i row0 j c0 e1 e2
   ·obtain ⟨row0, c0, e1, e2, e3⟩ := key i row j c hi hj
    exact ih i row0 j c0 e1 e2 e3
  | _ => exact e.elim
 | nilsl =>
  intro y e
  cases y with
  | nilsl => exact .nilsl
  | sl c sz rows =>
   cases (e : rows = [])
   exact .sl0 _ _
  | _ => exact e.elim
 | nilmap => intro y e; cases (e : D.nilmap = y); exact .nilmap
 | nilptr => intro y e; cases (e : D.nilptr = y); exact .nilptr
theorem Con.le {P : Program} {f : Nat} {args args' : List D} {res : AV} {rows : List Row} (h : Con P f args' res rows) (ha : leDL args args') : Con P f args res rows := by
 obtain ⟨g1, g2⟩ := leDL_get ha
 refine ⟨h.1, fun w ok vs hok hvs => h.2 w ok vs hok ⟨by rw [hvs.1, g1], fun i x v hx hv => ?_⟩⟩
 obtain ⟨y, e1, e2⟩ := g2 i x hx
 exact (hvs.2 i y v e1 hv).le e2
variable {P : Program} {E : Env P} {base : Nat} {r : Option Nat} {post : KV -> List KRow -> Prop}
theorem C_le {I : Prim E.σ} (hI : I = primK P E base r post) {g : Nat} {args args' : List KV} {res : KV} {rows : List KRow} {K : KV -> List KRow -> Prop} (h : KC P g args' res rows) (ha : leDL (KV.toDL args) (KV.toDL args')) (k : K res rows) : I.C g args K := by
 subst hI
 exact ⟨res, rows, Con.le h ha, k⟩
mutual
def leA : AV -> AV -> Prop
 | .d x, y => match y with
  | .d x' => leD x x'
  | _ => False
 | .agg l, y => match y with
  | .agg l' => leAL l l'
  | _ => False
 | .tup l, y => match y with
  | .tup l' => leAL l l'
  | _ => False
 | .any, y => AV.any = y
 | .fn f cs, y => AV.fn f cs = y
 | .loc b o, y => AV.loc b o = y
 | .asl a b c d, y => AV.asl a b c d = y
 | .osl i, y => AV.osl i = y
 | .oloc a b c d, y => AV.oloc a b c d = y
 | .yld, y => AV.yld = y
def leAL : List AV -> List AV -> Prop
 | [], q => q = []
 | x :: r, q => match q with
  | [] => False
  | y :: q => leA x y /\ leAL r q
end
theorem leAL_get : ∀ {l q : List AV}, leAL l q -> l.length = q.length /\ ∀ (i : Nat) (y : AV), q[i]? = some y -> ∃ x, l[i]? = some x /\ leA x y
 | [], q, h => by
  have h : q = [] := h
  subst h
  exact ⟨rfl, fun i y hy => by simp at hy⟩
 | x :: r, [], h => h.elim
 | x :: r, y :: q, h => by
  obtain ⟨h1, h2⟩ := (h : leA x y /\ leAL r q)
  obtain ⟨g1, g2⟩ := leAL_get h2
  refine ⟨by simp [g1], fun i z hz => ?_⟩
  match i, hz with
  | 0, hz => cases hz; exact ⟨x, rfl, h1⟩
  | i + 1, hz => exact g2 i z (by simpa using hz)
theorem RdA.le {w : World} {ok : Nat -> Prop} {μ : Nat -> Option Nat} {ν : Nat -> Option Value} {yl : Nat} {x : AV} {v : Value} (h : RdA w ok μ ν yl x v) : ∀ {y : AV}, leA x y -> RdA w ok μ ν yl y v := by
 induction h with
 | d hd =>
  intro y e
  cases y with
  | d x' => exact .d (hd.le e)
  | _ => exact e.elim
 | agg cs vs hl h1 h ih =>
  intro y e
  cases y with
  | agg l =>
   obtain ⟨g1, g2⟩ := leAL_get (e : leAL cs l)
   refine .agg l vs (by rw [hl, g1]) h1 (fun i c v hc hv => ?_)
   obtain ⟨x, e1, e2⟩ := g2 i c hc
   exact ih i x v e1 hv e2
  | _ => exact e.elim
 | tup cs vs hl h ih =>
  intro y e
  cases y with
  | tup l =>
   obtain ⟨g1, g2⟩ := leAL_get (e : leAL cs l)
   refine .tup l vs (by rw [hl, g1]) (fun i c v hc hv => ?_)
   obtain ⟨x, e1, e2⟩ := g2 i c hc
   exact ih i x v e1 hv e2
  | _ => exact e.elim
 | any v => intro y e; cases (e : AV.any = y); exact .any v
 | fn f cs vs hl h ih => intro y e; cases (e : AV.fn f cs = y); exact .fn f cs vs hl h
 | loc h => intro y e; cases (e : AV.loc _ _ = y); exact .loc h
 | osl h h1 => intro y e; cases (e : AV.osl _ = y); exact .osl h h1
 | _ => intro y e; first | (cases (e : _ = y); constructor <;> assumption) | skip
end Go.Proofs.Ytfilnnbfppokmaa.Aw
namespace Go.Proofs.Ytfilnnbfppokmaa.Aw
open Go Go.RowKit
universe u
variable {P : Program} {E : Env P} {base : Nat} {r : Option Nat} {post : KV -> List KRow -> Prop} {tb : Nat -> Option TI}
def NNle (sz : Nat) (nn' nn : Bool) : Prop := (nn' = true -> nn = true) /\ (sz = 0 -> nn' = nn)
theorem ownsR_nn {w : World} {lo : Nat} {e : TypeId} {sz : Nat} {nn nn' : Bool} {v : Value} {n : Nat} {flat : List Value} (hn : NNle sz nn' nn) (h : ownsR w lo e sz nn v n flat) : ownsR w lo e sz nn' v n flat := by
 by_cases h0 : sz = 0
 ·rw [hn.2 h0]; exact h
 ·exact .inl ⟨by omega, h.sl (by omega)⟩
theorem weak_v {S S' : St} (hn : S'.n = S.n) (hl : S.low = S'.low) (hT : ∀ t c, look S'.T t = some c -> ∃ c0, look S.T t = some c0 /\ leA c0 c)
  (hH : ∀ b B, look S'.H b = some B -> ∃ cs l, look S.H b = some ⟨B.e, cs, l⟩ /\ leAL cs B.cells /\ (B.live = true -> l = true))
  (hO : ∀ b R, look S'.O b = some R -> ∃ nn l, look S.O b = some ⟨R.e, R.sz, R.rows, nn, l⟩ /\ NNle R.sz R.nn nn /\ (R.live = true -> l = true)) : Weak S S' := by
 intro P E base s M a w hc
 have hr := hc.rel
 have hmu : ∀ x k, At S'.H S'.O M x k -> At S.H S.O M x k := by
  intro x k hx
  cases x with
  | inl b => obtain ⟨⟨B, hB⟩, hk⟩ := hx; obtain ⟨_, l, h1, _⟩ := hH b B hB; exact ⟨⟨_, h1⟩, hk⟩
  | inr b => obtain ⟨⟨B, hB⟩, hk⟩ := hx; obtain ⟨_, l, h1, _⟩ := hO b B hB; exact ⟨⟨_, h1⟩, hk⟩
 let fz : Nat -> Prop := fun k => (∃ x, At S'.H S'.O M x k /\ ¬ Liv S'.H S'.O x) /\ ∃ x, At S.H S.O M x k /\ Liv S.H S.O x
 let M' : Mp := { M with ok := fun k => M.ok k \/ fz k }
 have hfz : ∀ k, fz k -> Own S M k := fun k hk => .inl hk.2
 have hat : ∀ (H : List (Nat × Blk)) (O : List (Nat × Row)) x k, At H O M' x k ↔ At H O M x k := fun H O x k => by cases x <;> exact Iff.rfl
 have hlive : ∀ x, Liv S'.H S'.O x -> Liv S.H S.O x := by
  intro x hx
  cases x with
  | inl b => obtain ⟨B, hB, hl⟩ := hx; obtain ⟨_, l, h1, _, h2⟩ := hH b B hB; exact ⟨_, h1, h2 hl⟩
  | inr b => obtain ⟨B, hB, hl⟩ := hx; obtain ⟨_, l, h1, _, h2⟩ := hO b B hB; exact ⟨_, h1, h2 hl⟩
 have hown : ∀ k, Own S' M' k -> Own S M k := by
  rintro k (⟨x, hx, hl⟩ | hd)
  ·exact .inl ⟨x, hmu x k ((hat _ _ x k).1 hx), hlive x hl⟩
  ·exact .inr hd
 have hmono : ∀ {c v}, RdA w M.ok M.μ M.ν E.l c v -> RdA w M'.ok M'.μ M'.ν E.l c v := fun hv => hv.mono (fun k x => .inl x) (fun _ _ => rfl) (fun _ _ => rfl) (fun _ _ => rfl)
 refine ⟨M', ⟨⟨hr.lo, hr.size.trans hn.symm, ?_, ⟨?_, ?_, ?_⟩, ?_, hr.dfr, ?_, hr.dsN⟩, hc.j, ?_, fun k hk => hc.own k (hown k hk), ?_, hc.bDom⟩,
  ⟨rfl, rfl, rfl, Nat.le_refl _, fun _ _ _ _ => rfl, fun k _ hk => hown k hk, fun k x => .inl x, ?_, fun _ _ x => x, Nat.le_of_eq hl, fun _ _ => rfl, fun _ _ x => .inl x, fun _ _ => rfl⟩⟩
 ·intro t c ht
  obtain ⟨c0, h1, hle⟩ := hT t c ht
  obtain ⟨v, h2, h3⟩ := hr.tmp t c0 h1
  exact ⟨v, h2, (hmono h3).le hle⟩
 ·intro b B hB
  obtain ⟨cs, l, h1, hcs, h2⟩ := hH b B hB
  obtain ⟨k, vs, e1, e2, e3, e4, e5, e6, e7, e8⟩ := hr.heap.blk b _ h1
  obtain ⟨g1, g2⟩ := leAL_get hcs
  refine ⟨k, vs, e1, e2, e3, e4.trans g1, fun i c v hi hv => ?_, e6, ?_, ?_⟩
  ·obtain ⟨x, hx1, hx2⟩ := g2 i c hi
   exact (hmono (e5 i x v hx1 hv)).le hx2
  ·rintro hl (hk | ⟨⟨x, hx, hnl⟩, _⟩)
   ·exact e7 (h2 hl) hk
   ·have : x = .inl b := hr.heap.inj x (.inl b) k (hmu x k hx) ⟨⟨_, h1⟩, e1⟩
    subst this; exact hnl ⟨B, hB, hl⟩
  ·intro hl
   cases l with
   | false => exact .inl (e8 rfl)
   | true => exact .inr ⟨⟨.inl b, ⟨⟨B, hB⟩, e1⟩, fun ⟨B2, hB2, hl2⟩ => by rw [hB] at hB2; cases hB2; rw [hl] at hl2; cases hl2⟩, .inl b, ⟨⟨_, h1⟩, e1⟩, ⟨_, h1, rfl⟩⟩
 ·intro b R hR
  obtain ⟨nn, l, h1, hnn, h2⟩ := hO b R hR
  obtain ⟨v, flat, e1, e2, e3, e4, e5⟩ := hr.heap.row b _ h1
  refine ⟨v, flat, e1, ownsR_nn hnn e2, e3.mono (fun k x => .inl x) (fun _ _ => rfl), fun h => e4 (hnn.1 h), fun k hk => ⟨?_, ?_⟩⟩
  ·rintro hl (hk' | ⟨⟨x, hx, hnl⟩, _⟩)
   ·exact (e5 k hk).1 (h2 hl) hk'
   ·have : x = .inr b := hr.heap.inj x (.inr b) k (hmu x k hx) ⟨⟨_, h1⟩, v, e1, hk⟩
    subst this; exact hnl ⟨R, hR, hl⟩
  ·intro hl
   cases l with
   | false => exact .inl ((e5 k hk).2 rfl)
   | true => exact .inr ⟨⟨.inr b, ⟨⟨R, hR⟩, v, e1, hk⟩, fun ⟨B2, hB2, hl2⟩ => by rw [hR] at hB2; cases hB2; rw [hl] at hl2; cases hl2⟩, .inr b, ⟨⟨_, h1⟩, v, e1, hk⟩, ⟨_, h1, rfl⟩⟩
 ·intro x y k hx hy
  exact hr.heap.inj x y k (hmu x k ((hat _ _ x k).1 hx)) (hmu y k ((hat _ _ y k).1 hy))
 ·rintro k (hk | hk)
  ·exact hr.okLt k hk
  ·obtain ⟨x, hx, _⟩ := hk.2; exact (hr.heap.at_lt hx).2.1
 ·intro D hD
  obtain ⟨h1, h2, h3⟩ := hr.dsOk D hD
  refine ⟨h1, h2, ?_⟩
  rintro (hk | hk)
  ·exact h3 hk
  ·obtain ⟨x, hx, _⟩ := hk.2
   obtain ⟨_, _, ob, he, ho⟩ := hr.heap.at_lt hx
   rw [h2] at he; cases he; cases ho
 ·rintro k (hk | hk)
  ·exact hc.okLv k hk
  ·exact (hc.own k (hfz k hk)).1
 ·rintro k (hk | hk)
  ·exact hc.okDom k hk
  ·obtain ⟨x, hx, _⟩ := hk.2; exact hc.bDom k (hr.heap.at_lt hx).1
 ·rintro k _ (hk | hk)
  ·exact .inl hk
  ·exact .inr (hfz k hk)
def LV (c d : KV) : Prop := leA c.av d.av
def LVL : List KV -> List KV -> Prop
 | [], q => q = []
 | c :: r, q => match q with
  | [] => False
  | d :: q => LV c d /\ LVL r q
def LBl (B C : KBlk) : Prop := B.e = C.e /\ LVL B.cells C.cells /\ (C.live = true -> B.live = true)
def LRo (B C : KRow) : Prop := B.e = C.e /\ B.sz = C.sz /\ rowsD B.sz B.ps = rowsD B.sz C.ps /\ NNle B.sz C.nn B.nn /\ (C.live = true -> B.live = true)
mutual
theorem leA_refl : ∀ (c : AV), leA c c
 | .d x => leD_refl x
 | .agg l => leAL_refl l
 | .tup l => leAL_refl l
 | .any => rfl
 | .fn f cs => rfl
 | .loc b o => rfl
 | .asl a b c d => rfl
 | .osl i => rfl
 | .oloc a b c d => rfl
 | .yld => rfl
theorem leAL_refl : ∀ (l : List AV), leAL l l
 | [] => rfl
 | c :: r => ⟨leA_refl c, leAL_refl r⟩
end
theorem LV_eq {c d : KV} (h : c.av = d.av) : LV c d := by unfold LV; rw [h]; exact leA_refl _
theorem LVL_spec : ∀ {l q : List KV}, LVL l q -> leAL (KV.avL l) (KV.avL q)
 | [], q, h => by cases (h : q = []); exact rfl
 | c :: r, [], h => h.elim
 | c :: r, d :: q, h => ⟨h.1, LVL_spec h.2⟩
theorem LV_agg {l q : List KV} (h : LVL l q) : LV (.agg l) (.agg q) := LVL_spec h
theorem LV_tup {l q : List KV} (h : LVL l q) : LV (.tup l) (.tup q) := LVL_spec h
theorem LV_sl {c : Bool} {sz : Nat} {α : Type} {d : α} {l : List α} {f : α -> Nat -> KV} : LV (.sl c sz α d l f) (.sl false sz α d l f) := ⟨.inl rfl, rfl, leDLL_refl _⟩
theorem LV_slr {c : Bool} {sz : Nat} {rows : List (List KV)} {α : Type} {d : α} {l : List α} {f : α -> Nat -> KV} (h : KV.toDLL rows = l.map fun a => rowD sz 0 fun j => (f a j).toD) : LV (.slr c sz rows) (.sl false sz α d l f) :=
 ⟨.inl rfl, rfl, by rw [h]; exact leDLL_refl _⟩
theorem LV_slr_le {c : Bool} {sz : Nat} {rows : List (List KV)} {α : Type} {d : α} {l : List α} {f : α -> Nat -> KV} (h : leDLL (KV.toDLL rows) (l.map fun a => rowD sz 0 fun j => (f a j).toD)) : LV (.slr c sz rows) (.sl false sz α d l f) :=
 ⟨.inl rfl, rfl, h⟩
theorem LV_nil {c : Bool} {sz : Nat} {α : Type} {d : α} {f : α -> Nat -> KV} : LV .nilsl (.sl c sz α d [] f) := (rfl : ([] : List (List D)) = [])
def lvT (T : List (Nat × KV)) : List (Nat × KV) -> Prop
 | [] => True
 | (t, c) :: r => (match lk T t with | some v => LV v c | none => False) /\ lvT T r
def lvH (T : List (Nat × KBlk)) : List (Nat × KBlk) -> Prop
 | [] => True
 | (t, c) :: r => (match lk T t with | some v => LBl v c | none => False) /\ lvH T r
def lvO (T : List (Nat × KRow)) : List (Nat × KRow) -> Prop
 | [] => True
 | (t, c) :: r => (match lk T t with | some v => LRo v c | none => False) /\ lvO T r
theorem lvT_spec {T : List (Nat × KV)} : ∀ {T' : List (Nat × KV)}, lvT T T' -> ∀ t c, look (mapT T') t = some c -> ∃ c0, look (mapT T) t = some c0 /\ leA c0 c
 | [], _, t, c, h => by cases h
 | (k, v) :: q, h, t, c, hc => by
  rw [look_mapT, lk_cons] at hc
  by_cases e : k = t
  ·subst e
   rw [if_pos rfl] at hc
   cases hc
   have := h.1
   split at this
   ·rename_i v0 hv; exact ⟨_, by rw [look_mapT, hv]; rfl, this⟩
   ·exact this.elim
  ·rw [if_neg e, <- look_mapT] at hc
   exact lvT_spec h.2 t c hc
theorem lvH_spec {T : List (Nat × KBlk)} : ∀ {T' : List (Nat × KBlk)}, lvH T T' -> ∀ b B, look (mapH T') b = some B -> ∃ cs l, look (mapH T) b = some ⟨B.e, cs, l⟩ /\ leAL cs B.cells /\ (B.live = true -> l = true)
 | [], _, t, c, h => by cases h
 | (k, v) :: q, h, t, c, hc => by
  rw [look_mapH, lk_cons] at hc
  by_cases e : k = t
  ·subst e
   rw [if_pos rfl] at hc
   cases hc
   have := h.1
   split at this
   ·rename_i v0 hv
    obtain ⟨e1, e2, e3⟩ := this
    exact ⟨_, _, by rw [look_mapH, hv]; simp only [Option.map_some, KBlk.blk, e1], LVL_spec e2, e3⟩
   ·exact this.elim
  ·rw [if_neg e, <- look_mapH] at hc
   exact lvH_spec h.2 t c hc
theorem lvO_spec {T : List (Nat × KRow)} : ∀ {T' : List (Nat × KRow)}, lvO T T' -> ∀ b R, look (mapO T') b = some R -> ∃ nn l, look (mapO T) b = some ⟨R.e, R.sz, R.rows, nn, l⟩ /\ NNle R.sz R.nn nn /\ (R.live = true -> l = true)
 | [], _, t, c, h => by cases h
 | (k, v) :: q, h, t, c, hc => by
  rw [look_mapO, lk_cons] at hc
  by_cases e : k = t
  ·subst e
   rw [if_pos rfl] at hc
   cases hc
   have := h.1
   split at this
   ·rename_i v0 hv
    obtain ⟨e1, e2, e3, e4, e5⟩ := this
    refine ⟨_, _, by rw [look_mapO, hv]; simp only [Option.map_some, KRow.row, e1, e2, e3]; rw [<- e2, e3], e2 ▸ e4, e5⟩
   ·exact this.elim
  ·rw [if_neg e, <- look_mapO] at hc
   exact lvO_spec h.2 t c hc
theorem weak_l {S S' : KSt} (hn : S'.n = S.n) (hl : S.low = S'.low) (hT : lvT S.T S'.T) (hH : lvH S.H S'.H) (hO : lvO S.O S'.O) : Weak S.st S'.st :=
 weak_v hn hl (lvT_spec hT) (lvH_spec hH) (lvO_spec hO)
theorem weak_nil {S : KSt} (t id e sz : Nat) (ht : lk S.T t = some .nilsl) (hsz : Nat.blt 0 sz = true) (hf : freshKO S [(id, ⟨e, sz, [], false, true⟩)] = true) (hd : dstK S (some t) = true) : Weak S.st (S.add (some t) (.osl id) [] [(id, ⟨e, sz, [], false, true⟩)]).st := by
 intro P E base s M a w hc
 have hr := hc.rel
 have hsz0 : 0 < sz := by rw [Nat.blt_eq] at hsz; exact hsz
 have hlk : look S.st.T t = some (.d .nilsl) := by rw [st_look, ht]; rfl
 obtain ⟨v, hv1, hv2⟩ := hr.tmp t _ hlk
 have hvn : v = .slice none 0 0 := by cases hv2 with | d h => cases h; rfl
 subst hvn
 have hput : a.put (some t) (.slice none 0 0) = a := by
  obtain ⟨tmps, defers⟩ := a
  have hv1 : tmps[t]? = some (.slice none 0 0) := hv1
  obtain ⟨hlt, hg⟩ := Array.getElem?_eq_some_iff.1 hv1
  simp only [Act.put]
  congr 1
  apply Array.ext
  ·simp
  ·intro i h1 h2
   rw [Array.getElem_setIfInBounds]
   split
   ·rename_i e; subst e; exact hg.symm
   ·rfl
 have hnew : New M E.l w [] [(id, ⟨e, sz, [], false, true⟩)] (.osl id) (.slice none 0 0) (setν M id (.slice none 0 0)) w := by
  refine ⟨Below.refl _ _, rfl, rfl, rfl, fun _ _ => rfl, fun b hb => ?_, fun k x => x, fun k x => .inl x, .osl (by simp [setν]) rfl, ⟨fun b B h => (by cases h), fun id' R hR => ?_, fun x y k hx hy => ?_⟩⟩
  ·have : ¬ b = id := fun e => hb (by simp [keys, e])
   simp [setν, this]
  ·simp only [look] at hR
   by_cases hbb : id = id'
   ·rw [if_pos hbb] at hR; cases hR; subst hbb
    exact ⟨.slice none 0 0, [], by simp [setν], .inl ⟨hsz0, ⟨by simp, .inl ⟨rfl, rfl⟩⟩⟩, ⟨fun row h => (by cases h), fun i row j c h => by simp at h⟩, fun h => (by cases h), fun k hk => by cases hk⟩
   ·rw [if_neg hbb] at hR; cases hR
  ·cases x with
   | inl b => obtain ⟨⟨_, h⟩, _⟩ := hx; cases h
   | inr x =>
    obtain ⟨⟨_, hx1⟩, v, hx2, hx3⟩ := hx
    simp only [look] at hx1
    by_cases h1 : id = x
    ·subst h1
     have : v = .slice none 0 0 := by simpa [setν] using hx2.symm
     subst this; cases hx3
    ·rw [if_neg h1] at hx1; cases hx1
 have := hc.new hnew (dst := some t) (freshK_spec (S := S) (nh := []) (no := [(id, ⟨e, sz, [], false, true⟩)]) rfl hf) (dstK_spec hd)
 rw [hput] at this
 rw [KSt.add_st]
 exact ⟨_, this⟩
theorem lR {c : KV} : LV c c := leA_refl _
theorem lE {c d : KV} (h : c.av = d.av := by rfl) : LV c d := LV_eq h
theorem lB {B C : KBlk} (h : LVL B.cells C.cells) (h1 : B.e = C.e := by rfl) (h2 : C.live = true -> B.live = true := by exact fun _ => rfl) : LBl B C := ⟨h1, h, h2⟩
theorem lO {B C : KRow} (h : rowsD B.sz B.ps = rowsD B.sz C.ps := by first | rfl | (simp only [rowsD, KP.rows, KV.toDLL, List.map_append, List.map_cons, List.map_nil, List.append_nil, List.nil_append, List.append_assoc, List.singleton_append, List.cons_append, List.map_replicate]; rfl) | (simp only [primK, rowsD, KP.rows, KV.toDLL, List.map_append, List.map_cons, List.map_nil, List.append_nil, List.map_replicate]; rfl))
  (h1 : B.e = C.e := by rfl) (h2 : B.sz = C.sz := by rfl) (h3 : NNle B.sz C.nn B.nn := by first | exact ⟨fun _ => rfl, fun _ => rfl⟩ | exact ⟨fun h => (by cases h), fun _ => rfl⟩ | exact ⟨fun h => (by cases h), fun h => (by cases h)⟩) (h4 : C.live = true -> B.live = true := by first | exact fun _ => rfl | exact fun h => (by cases h)) : LRo B C := ⟨h1, h2, h, h3, h4⟩
def cel (l : List KV) (j : Nat) : KV := match nth l j with
 | some c => c
 | none => .any
theorem con_introL {f : Nat} {fn : Func} {c : Code} (hf : P.funcs[f]? = some fn) (hb : fn.body = some c) (hent : Ent P f) {args : List D} (hn : Nat.ble args.length fn.ntmps = true) {res : AV} {rows : List Row}
  (h : ∀ base, AW (noEnv P) base none c (S0 fn.ntmps args) () (fun e S _ => (e = .normal \/ e = .ret) /\ ∃ rv, leA rv res /\ RetOk P fn S rv rows)) : Con P f args res rows := by
 refine ⟨hent, fun w ok vs hok hvs => (callsIn_wide (n := 0)).1 ?_⟩
 refine callsIn_of_wp_marks (F := FW none) (n := 0) hf hb trivial ?_
 let M0 : Mp := ⟨fun _ => none, fun _ => none, ok, fun _ => False, fun _ => False, []⟩
 have hn' := Nat.le_of_ble_eq_true hn
 have hr0 : Rel w.heap.size (S0 fn.ntmps args) M0 (noEnv P).l { tmps := vs ++ Array.replicate (fn.ntmps - vs.size) undef, defers := [] } w := by
  refine ⟨Nat.le_refl _, ?_, fun t c ht => ?_, ⟨fun b B hB => (by cases hB), fun b B hB => (by cases hB), fun x y k hx => by cases x <;> (obtain ⟨⟨_, h⟩, _⟩ := hx; cases h)⟩, hok, rfl, fun D hD => (by cases hD), List.nodup_nil⟩
  ·show (vs ++ Array.replicate (fn.ntmps - vs.size) undef).size = fn.ntmps
   rw [Array.size_append, Array.size_replicate, hvs.1]; omega
  ·obtain ⟨_, x, h1, rfl⟩ := look_argT ht
   rw [Nat.sub_zero] at h1
   have hlt := (List.getElem?_eq_some_iff.1 h1).1
   obtain ⟨v, hv⟩ : ∃ v, vs[t]? = some v := ⟨vs[t]'(by rw [hvs.1]; exact hlt), by simp⟩
   exact ⟨v, by show (vs ++ _)[t]? = some v; rw [Array.getElem?_append_left (by rw [hvs.1]; exact hlt)]; exact hv, toAV_spec (hvs.2 t x v h1 hv)⟩
 have hown0 : ∀ k, ¬ Own (S0 fn.ntmps args) M0 k := by
  rintro k (⟨x, hx, _⟩ | hd)
  ·cases x <;> (obtain ⟨⟨_, h⟩, _⟩ := hx; cases h)
  ·cases hd
 have hc0 : Cfg (noEnv P) w.heap.size (S0 fn.ntmps args) () M0 { tmps := vs ++ Array.replicate (fn.ntmps - vs.size) undef, defers := [] } w :=
  ⟨hr0, ⟨fun _ h => h, fun _ h => h⟩, fun _ _ h => h, fun k hk => absurd hk (hown0 k), fun _ _ => trivial, fun _ _ => trivial⟩
 refine wpIn_mono (h w.heap.size M0 _ w hc0) ?_
 rintro e a' w' ⟨S', s', M', ⟨he, hret⟩, hc', hx⟩
 have hgoal : LeavesInM (FW none) 0 P fn a'.tmps (fun e w' => ∃ v ok' ν', e = .returned v /\ Below w.heap.size w w' /\ (∀ k, ok k -> ok' k) /\ (∀ k, ok' k -> ok k \/ (w.heap.size <= k /\ k < w'.heap.size)) /\
   (∀ μ yl, RdA w' ok' μ ν' yl res v) /\ HeapOk w.heap.size [] (enumR 0 rows) ⟨fun _ => none, ν', ok', fun _ => False, fun _ => False, []⟩ 0 w') a'.defers .returning w' := by
  rw [hc'.rel.dfr]
  have hbel : Below w.heap.size w w' := ⟨hx.os, hx.tape, hx.output, hx.size, fun k hk => hx.keep k hk (hown0 k) (fun h => h)⟩
  refine leaves_marks (S := S') (base := w.heap.size) (w0 := w) (Nat.le_refl _) M'.ds M' a' w' rfl hc'.rel hbel (fun M2 a2 w2 hr2 hb2 e1 e2 e3 e4 e5 => ?_)
  obtain ⟨rv, hle, cs, ids, h1, h2, h3, h4⟩ := hret
  obtain ⟨v, h5, h6⟩ := run_results (P := P) (fn := fn) hr2 h1
  rw [<- e4]
  obtain ⟨r1, r2⟩ := rowsOf_get h3
  have hsub := lessO_sub S' ids
  refine ⟨v, h5, v, okS true (lessO S' ids) M2, fun i => (ids[i]?).bind M2.ν, rfl, hb2, fun k hk => .inl (e3 ▸ hx.okm k hk), fun k hk => ?_, fun μ yl => (ret3_spec hr2 (fun i id hi => by simp [hi]) h2 h6 μ yl).le hle, ⟨fun b B hB => (by cases hB), fun i R hR => ?_, fun x y k hx' hy' => ?_⟩⟩
  ·rcases hk with hk | ⟨_, x, hx', _⟩
   ·rw [e3] at hk
    by_cases hlt : k < w.heap.size
    ·rcases hx.okn k hlt hk with h | h
     ·exact .inl h
     ·exact absurd h (hown0 k)
    ·exact .inr ⟨by omega, by rw [e5]; exact hc'.rel.okLt k hk⟩
   ·obtain ⟨g1, g2, _⟩ := hr2.heap.at_lt (hsub.at hx')
    exact .inr ⟨g1, g2⟩
  ·rw [look_enumR] at hR
   obtain ⟨id, i1, i2, i3⟩ := r2 i R (by simpa using hR.2)
   obtain ⟨v', flat, f1, f2, f3, f4, f5⟩ := hr2.heap.row id R i2
   refine ⟨v', flat, by simp [i1, f1], f2, f3.mono (fun k x => .inl x) (fun _ _ => rfl), f4, fun k hk => ⟨fun hl hh => ?_, fun hl => by rw [i3] at hl; cases hl⟩⟩
   rcases hh with hh | ⟨_, x, hx', _⟩
   ·exact (f5 k hk).1 hl hh
   ·have := hr2.heap.inj x (.inr id) k (hsub.at hx') ⟨⟨R, i2⟩, v', f1, hk⟩
    subst this
    obtain ⟨⟨R', hR'⟩, _⟩ := hx'
    rw [lessO_not (List.mem_of_getElem? i1)] at hR'; cases hR'
  ·have aux : ∀ x : Nat ⊕ Nat, At [] (enumR 0 rows) ⟨fun _ => none, fun i => (ids[i]?).bind M2.ν, okS true (lessO S' ids) M2, fun _ => False, fun _ => False, []⟩ x k -> ∃ i id, x = .inr i /\ ids[i]? = some id /\ At S'.H S'.O M2 (.inr id) k := by
    intro x hx'
    cases x with
    | inl b => obtain ⟨⟨_, h⟩, _⟩ := hx'; cases h
    | inr i =>
     obtain ⟨⟨R, hR⟩, v', hv, hk⟩ := hx'
     rw [look_enumR] at hR
     obtain ⟨id, i1, i2, i3⟩ := r2 i R (by simpa using hR.2)
     have hv' : (ids[i]?).bind M2.ν = some v' := hv
     rw [i1] at hv'
     exact ⟨i, id, rfl, i1, ⟨R, i2⟩, v', hv', hk⟩
   obtain ⟨i, id, rfl, hi, g1⟩ := aux x hx'
   obtain ⟨j, jd, rfl, hj, g2⟩ := aux y hy'
   have := hr2.heap.inj _ _ k g1 g2
   simp only [Sum.inr.injEq] at this
   subst this
   congr 1
   exact (List.getElem?_inj (List.getElem?_eq_some_iff.1 hi).1 h4).1 (hi.trans hj.symm)
 rcases he with rfl | rfl
 ·exact hgoal
 ·exact hgoal
def endL (res : KV) (rows : List KRow) : KV -> List KRow -> Prop := fun v rs => LV v res /\ rs.map KRow.row = rows.map KRow.row
theorem con_l {f : Nat} {fn : Func} {c : Code} {args : List KV} {res : KV} {rows : List KRow} (ids : List Nat) (pz : List Nat) (hT : SeatOk P tb) (hf : P.funcs[f]? = some fn) (hb : fn.body = some c) (hent : Ent P f)
  (hdr : drawsOk pz c = true) (hn : Nat.ble (lenK args) fn.ntmps = true) (ha : okArgs args = true) (hid : ids.Nodup)
  (h : ∀ base I, I = primK P (noEnv P) base none (endL res rows) -> wpK I tb pz c (KS0 fn.ntmps args) () (retKQ I tb fn.results.toList ids)) : KC P f args res rows := by
 refine con_introL hf hb hent (by rw [toDL_len]; exact hn) fun base => ?_
 have := wpK_aw hT.mix hT.tab hdr (h base _ rfl)
 rw [show (KS0 fn.ntmps args).st = S0 fn.ntmps (KV.toDL args) from by simp only [KS0, KSt.st, S0, argK_spec ha]; rfl] at this
 refine AW_weakQ (this.mono ?_)
 rintro e S s ⟨S', hw, hq⟩
 refine ⟨S'.st, hw, ?_⟩
 unfold retKQ at hq
 split at hq
 ·rename_i he
  replace hq := kk_spec hq; obtain ⟨cs, h1, hq⟩ := hq
  replace hq := kk_spec hq; obtain ⟨v, h2, hq⟩ := hq
  replace hq := kk_spec hq; obtain ⟨rs, h3, hq⟩ := hq
  obtain ⟨e1, e2⟩ := (hq : leA v.av res.av /\ rs.map KRow.row = rows.map KRow.row)
  refine ⟨?_, v.av, e1, KV.avL cs, ids, resKL_spec hT.tab h1, ?_, ?_, hid⟩
  ·cases e <;> first | exact .inl rfl | exact .inr rfl | cases he
  ·rw [<- oneK_spec, ret3K_spec h2]
  ·rw [rowsOfK_spec h3, e2]
 ·exact hq.elim
def fitsN (n bytes : Nat) : Prop := n * bytes <= 140737488355328 /\ n <= 140737488355328
instance {n bytes : Nat} : Decidable (fitsN n bytes) := inferInstanceAs (Decidable (_ /\ _))
def mkOk (n : Int) (bytes : Nat) : Prop := 0 <= n /\ (bytes : Int) * n <= 281474976710656 /\ n <= 9223372036854775807
instance {n : Int} {bytes : Nat} : Decidable (mkOk n bytes) := inferInstanceAs (Decidable (_ /\ _ /\ _))
def getO {α : Type} (d : α) (l : List α) (i : Int) : Option α := if 0 <= i /\ i < ((l.length : Nat) : Int) then some (l.getD i.toNat d) else none
def loopO {σ ρ : Type} (step : σ -> Option (σ ⊕ ρ)) : Nat -> σ -> Option ρ
 | 0, _ => none
 | n + 1, s => match step s with
  | none => none
  | some (.inl s') => loopO step n s'
  | some (.inr q) => some q
def rangeO {υ σ ρ : Type} (step : υ -> σ -> Option (σ ⊕ ρ)) : List υ -> σ -> Option (σ ⊕ ρ)
 | [], s => some (.inl s)
 | y :: ys, s => match step y s with
  | none => none
  | some (.inl s') => rangeO step ys s'
  | some (.inr q) => some (.inr q)
theorem L_tst {I : Prim E.σ} (hI : I = primK P E base r post) {α : Type} {b b' : Bool} {X Y : Option α} {o : α} {A B : Prop} (h : (if b = true then X else Y) = some o) (e : b' = b) (k1 : X = some o -> A) (k2 : Y = some o -> B) : I.tst b' A B := by
 subst hI; subst e
 cases b' with
 | true => exact ⟨fun _ => k1 h, fun e => by cases e⟩
 | false => exact ⟨fun e => by (cases e), fun _ => k2 h⟩
theorem L_conj {I : Prim E.σ} (hI : I = primK P E base r post) {α : Type} {C C' : Prop} [Decidable C] {X : Option α} {o : α} {B : Prop} (h : (if C then X else none) = some o) (e : C -> C') (k : C -> X = some o -> B) : I.conj C' B := by
 subst hI
 by_cases hc : C
 ·rw [if_pos hc] at h; exact ⟨e hc, k hc h⟩
 ·rw [if_neg hc] at h; cases h
theorem L_get {I : Prim E.σ} (hI : I = primK P E base r post) {α β : Type} {d : α} {l : List α} {i : Int} {k : α -> Option β} {o : β} {C' B : Prop} (h : (getO d l i).bind k = some o) (e : (0 <= i /\ i < ((l.length : Nat) : Int)) -> C') (kk : (0 <= i /\ i < ((l.length : Nat) : Int)) -> ∀ x, x = l.getD i.toNat d -> k x = some o -> B) : I.conj C' B := by
 subst hI
 unfold getO at h
 by_cases hc : 0 <= i /\ i < ((l.length : Nat) : Int)
 ·rw [if_pos hc] at h; exact ⟨e hc, kk hc _ rfl h⟩
 ·rw [if_neg hc] at h; cases h
theorem L_mk {I : Prim E.σ} (hI : I = primK P E base r post) {α : Type} {n n' : Int} {bytes : Nat} {X : Option α} {o : α} {A B : Prop} (h : (if mkOk n bytes then X else none) = some o) (ea : A) (en : n' = n) (k : X = some o -> B) : I.conj A (I.conj (I.mkok n' bytes) B) := by
 subst hI; subst en
 by_cases hc : mkOk n' bytes
 ·rw [if_pos hc] at h; exact ⟨ea, hc, k h⟩
 ·rw [if_neg hc] at h; cases h
theorem K_setl2 {I : Prim E.σ} (hI : I = primK P E base r post) {ps : List KP} {sz : Nat} {ix : Int} {j : Nat} {cs : List KV} {α : Type} {d : α} {f : α -> Nat -> KV} {K : List KP -> Prop} (l0 : List α) (v : α) (l1 : List α) {i : Int} (hl1 : l1 = l0.set i.toNat v) (hps : rowsD sz ps = rowsD sz [.ls α d l0 f])
  (hi : 0 <= i /\ i < ((l0.length : Nat) : Int)) (hix : ix = i) (hv : rowD sz 0 (fun q => (f v q).toD) = putG (rowD sz 0 fun q => (f (l0.getD i.toNat d) q).toD) j (KV.toDL cs)) (k : K [.ls α d l1 f]) : I.setl ps sz ix j cs K := by
 subst hI; subst hix; subst hl1
 refine ⟨_, ?_, k⟩
 rw [hps]
 have hlt : ix.toNat < l0.length := by omega
 simp only [rowsD, KP.rows, List.append_nil]
 rw [List.map_set, hv]
 congr 1
 simp [List.getD_eq_getElem?_getD, hlt]
def letO {α β : Type} (x : α) (k : α -> Option β) : Option β := k x
theorem letO_of {α β : Type} {x : α} {k : α -> Option β} {o : β} (h : letO x k = some o) : ∃ y, y = x /\ k y = some o := ⟨x, rfl, h⟩
theorem bind_of {α β : Type} {m : Option α} {k : α -> Option β} {o : β} (h : m.bind k = some o) : ∃ v, m = some v /\ k v = some o := by
 cases m with
 | none => cases h
 | some v => exact ⟨v, rfl, h⟩
theorem guard_of {α : Type} {C : Prop} [Decidable C] {X : Option α} {o : α} (h : (if C then X else none) = some o) : C /\ X = some o := by
 by_cases hc : C
 ·rw [if_pos hc] at h; exact ⟨hc, h⟩
 ·rw [if_neg hc] at h; cases h
theorem get_of {α β : Type} {d : α} {l : List α} {i : Int} {k : α -> Option β} {o : β} (h : (getO d l i).bind k = some o) : (0 <= i /\ i < ((l.length : Nat) : Int)) /\ ∃ x, x = l.getD i.toNat d /\ k x = some o := by
 unfold getO at h
 by_cases hc : 0 <= i /\ i < ((l.length : Nat) : Int)
 ·rw [if_pos hc] at h; exact ⟨hc, _, rfl, h⟩
 ·rw [if_neg hc] at h; cases h
theorem L_call {I : Prim E.σ} (hI : I = primK P E base r post) {α β : Type} {m : Option α} {k : α -> Option β} {o : β} {g : Nat} {args args' : List KV} {res : α -> KV} {rows : α -> List KRow} {K : KV -> List KRow -> Prop} (h : m.bind k = some o)
  (hc : ∀ v, m = some v -> KC P g args' (res v) (rows v)) (ha : leDL (KV.toDL args) (KV.toDL args')) (kk : ∀ v, k v = some o -> K (res v) (rows v)) : I.C g args K := by
 obtain ⟨v, h1, h2⟩ := bind_of h
 exact C_le hI (hc v h1) ha (kk v h2)
def KD (P : Program) (g : Nat) (args : List KV) (ds : List D) (res : KV) : Prop := Con P g (KV.toDL args ++ ds) res.av []
theorem L_callD {I : Prim E.σ} (hI : I = primK P E base r post) {α β : Type} {m : Option α} {k : α -> Option β} {o : β} {g : Nat} {args args' : List KV} {ds : List D} {res : α -> KV} {K : KV -> List KRow -> Prop} (h : m.bind k = some o)
  (hc : ∀ v, m = some v -> KD P g args' ds (res v)) (ha : KV.toDL args = KV.toDL args') (kk : ∀ v, k v = some o -> K (res v) []) : I.CD g args ds K := by
 obtain ⟨v, h1, h2⟩ := bind_of h
 exact CD_call hI (res := res v) (rows := []) (hc v h1) (by rw [ha]) (kk v h2)
theorem KD_of {g : Nat} {args caps : List KV} {res : KV} (h : KC P g (args ++ caps) res []) : KD P g args (KV.toDL caps) res := by
 unfold KD; unfold KC at h
 rwa [show KV.toDL (args ++ caps) = KV.toDL args ++ KV.toDL caps from by simp [toDL_map]] at h
theorem L_loop {σ ρ : Type} {I : Prim E.σ} (hI : I = primK P E base r post) (hT : SeatOk P tb) (pz : List Nat) {c : Code} (hdr : drawsOk pz c = true) {S : KSt} {s : E.σ} {Q : Exit -> KSt -> E.σ -> Prop} {β : Type} {o : β}
  {step : σ -> Option (σ ⊕ ρ)} {n : Nat} {s0 : σ} {k : ρ -> Option β} (h : (loopO step n s0).bind k = some o) (st : σ -> KSt) (ex : ρ -> Exit) (sx : ρ -> KSt) (hw : Weak S.st (st s0).st) (hx : ∀ q, ex q ≠ .normal)
  (round : ∀ (a : σ) (x : σ ⊕ ρ), step a = some x -> ∀ R : Exit -> KSt -> E.σ -> Prop, (∀ S' a', x = .inl a' -> Weak S'.st (st a').st -> R .normal S' s) -> (∀ S' q, x = .inr q -> Weak S'.st (sx q).st -> R (ex q) S' s) -> wpK I tb pz c (st a) s R)
  (hQ : ∀ q, k q = some o -> Q (ex q) (sx q) s) : I.W (.loop c) S s Q := by
 subst hI
 obtain ⟨q, h1, h2⟩ := bind_of h
 refine AW_weak hw (AW_loop (fun n S' s' => ∃ a, S' = (st a).st /\ s' = s /\ loopO step n a = some q) n ⟨s0, rfl, rfl, h1⟩ ?_)
 rintro n S' s' ⟨a, rfl, rfl, hl⟩
 cases n with
 | zero => cases hl
 | succ n =>
  obtain ⟨x, hxs⟩ : ∃ x, step a = some x := by
   cases hs : step a with
   | none => rw [loopO, hs] at hl; cases hl
   | some x => exact ⟨x, rfl⟩
  rw [loopO, hxs] at hl
  refine AW_weakQ ((wpK_aw hT.mix hT.tab hdr (round a x hxs (fun e S2 s2 => s2 = s' /\ ((e = .normal /\ ∃ a', x = .inl a' /\ Weak S2.st (st a').st) \/ (∃ q', x = .inr q' /\ e = ex q' /\ Weak S2.st (sx q').st)))
   (fun S' a' e1 e2 => ⟨rfl, .inl ⟨rfl, a', e1, e2⟩⟩) (fun S' q' e1 e2 => ⟨rfl, .inr ⟨q', e1, rfl, e2⟩⟩))).mono ?_)
  rintro e S2 s2 ⟨S3, hw3, rfl, hq | ⟨q', rfl, rfl, hw4⟩⟩
  ·obtain ⟨rfl, a', rfl, hw4⟩ := hq
   exact ⟨(st a').st, hw3.trans hw4, n, (st a').st, Nat.lt_succ_self n, Weak.refl _, a', rfl, rfl, hl⟩
  ·cases hl
   refine ⟨(sx q).st, hw3.trans hw4, ?_⟩
   have := KQ_of (Q := Q) (hQ q h2)
   cases he : ex q with
   | normal => exact absurd he (hx q)
   | _ => rw [he] at this; exact this
theorem L_cut {ρ : Type} {I : Prim E.σ} (hI : I = primK P E base r post) (hT : SeatOk P tb) (pz : List Nat) {c : Code} (hdr : drawsOk pz c = true) {S : KSt} {s : E.σ} {Q : Exit -> KSt -> E.σ -> Prop} {β : Type} {o : β}
  {m : Option ρ} {k : ρ -> Option β} (h : m.bind k = some o) (ex : ρ -> Exit) (sx : ρ -> KSt)
  (body : ∀ x, m = some x -> ∀ R : Exit -> KSt -> E.σ -> Prop, (∀ S' q, x = q -> Weak S'.st (sx q).st -> R (ex q) S' s) -> wpK I tb pz c S s R)
  (hQ : ∀ q, k q = some o -> Q (ex q) (sx q) s) : I.W c S s Q := by
 subst hI
 obtain ⟨q, h1, h2⟩ := bind_of h
 refine AW_weakQ ((wpK_aw hT.mix hT.tab hdr (body q h1 (fun e S2 s2 => s2 = s /\ e = ex q /\ Weak S2.st (sx q).st) (fun S' q' e1 e2 => by subst e1; exact ⟨rfl, rfl, e2⟩))).mono ?_)
 rintro e S2 s2 ⟨S3, hw3, rfl, rfl, hw4⟩
 exact ⟨(sx q).st, hw3.trans hw4, KQ_of (hQ q h2)⟩
def unrK {σ : Type} (I : Prim σ) (tb : Nat -> Option TI) (pz : List Nat) (c : Code) (Q : Exit -> KSt -> σ -> Prop) : Nat -> KSt -> σ -> Prop
 | 0, _, _ => False
 | n + 1, S, s => wpK I tb pz c S s (thenK (fun S' s' => unrK I tb pz c Q n S' s') Q)
theorem W_unroll {I : Prim E.σ} (hI : I = primK P E base r post) (hT : SeatOk P tb) (pz : List Nat) {c : Code} (hdr : drawsOk pz c = true) {S : KSt} {s : E.σ} {Q : Exit -> KSt -> E.σ -> Prop} (n : Nat) (h : unrK I tb pz c Q n S s) : I.W (.loop c) S s Q := by
 subst hI
 refine AW_loop (fun n S' s' => ∃ S2 : KSt, S' = S2.st /\ unrK (primK P E base r post) tb pz c Q n S2 s') n ⟨S, rfl, h⟩ ?_
 rintro n S' s' ⟨S2, rfl, hu⟩
 cases n with
 | zero => exact hu.elim
 | succ n =>
  refine AW_weakQ ((wpK_aw hT.mix hT.tab hdr hu).mono ?_)
  rintro e S3 s3 ⟨S4, hw, hq⟩
  cases e with
  | normal => exact ⟨S4.st, hw, n, S4.st, Nat.lt_succ_self n, Weak.refl _, S4, rfl, hq⟩
  | _ => exact ⟨S4.st, hw, KQ_of hq⟩
def roundL {A : Type u} {σ : Type} (hs : A -> List (Nat × KBlk) × List (Nat × KRow)) (inv : A -> σ -> Prop) (jx : Exit -> A -> σ -> Prop) (e : Exit) (S : KSt) (s : σ) : Prop := match e with
 | .panic _ => False
 | .outgrown => False
 | .normal => ∃ a, lvH S.H (hs a).1 /\ lvO S.O (hs a).2 /\ inv a s
 | e => ∃ a, lvH S.H (hs a).1 /\ lvO S.O (hs a).2 /\ jx e a s
theorem weak_hv {S : St} {H : List (Nat × KBlk)} {O : List (Nat × KRow)} {y : List (Nat × KBlk) × List (Nat × KRow)} (hH : lvH H y.1) (hO : lvO O y.2) : Weak (S.ho (mapH H, mapO O)) (S.ho (mapH y.1, mapO y.2)) :=
 weak_v (S := S.ho (mapH H, mapO O)) (S' := S.ho (mapH y.1, mapO y.2)) rfl rfl (fun t c h => ⟨c, h, leA_refl c⟩) (lvH_spec hH) (lvO_spec hO)
theorem W_weak {I : Prim E.σ} (hI : I = primK P E base r post) {c : Code} {S S' : KSt} {s : E.σ} {Q : Exit -> KSt -> E.σ -> Prop} (hw : Weak S.st S'.st) (h : I.W c S' s Q) : I.W c S s Q := by
 subst hI; exact AW_weak hw h
theorem W_rangeL {A : Type u} {I : Prim E.σ} (hI : I = primK P E base none post) (hT : SeatOk P tb) (pz : List Nat) {g : Operand} {ps : Array Tmp} {assign body : Code} {S : KSt} {s : E.σ} {Q : Exit -> KSt -> E.σ -> Prop} {f : Nat} {fs ds : List D} {ys : List (List KV)} (hdr : (drawsOk pz assign && drawsOk pz body) = true)
  (hit : IterConB P f fs ds (ys.map KV.toDL)) (hna : noAggD ds = true) (hs : A -> List (Nat × KBlk) × List (Nat × KRow)) (inv : Nat -> A -> E.σ -> Prop) (jx : Exit -> A -> E.σ -> Prop) (a0 : A) (hg : rangeArgB (S.ho (hs a0)) g = some (f, fs, ds))
  (hlen : ∀ y ∈ ys, lenK y = ps.size /\ okArgs y = true) (N : Nat) (hps : (belowN S.n ps.toList && calmTK N S.T && Nat.ble S.low N) = true) (hH : lvH S.H (hs a0).1) (hO : lvO S.O (hs a0).2) (h0 : inv 0 a0 s)
  (round : ∀ (i : Nat) (y : List KV) (a : A) (s : E.σ), ys[i]? = some y -> inv i a s -> ∀ (l : Nat) (I : Prim E.σ), I = primK P E base (some l) post -> ∀ (R : Exit -> KSt -> E.σ -> Prop), (∀ S' s' a', lvH S'.H (hs a').1 -> lvO S'.O (hs a').2 -> inv (i + 1) a' s' -> R .normal S' s') -> (∀ e S' s' a', (match e with | .normal => false | .panic _ => false | .outgrown => false | _ => true) = true -> lvH S'.H (hs a').1 -> lvO S'.O (hs a').2 -> jx e a' s' -> R e S' s') ->
   wpK I tb pz assign ⟨S.n, putPK ps.toList y S.T, (hs a).1, (hs a).2, N⟩ s (assignK fun S2 s2 => wpK I tb pz body S2 s2 R))
  (hend : ∀ a s', inv ys.length a s' -> Q .normal (S.ho (hs a)) s') (hjmp : ∀ e a s', jx e a s' -> Q e (S.ho (hs a)) s') : I.W (.rangeFunc g ps assign body) S s Q := by
 subst hI
 simp only [Bool.and_eq_true] at hdr hps
 obtain ⟨⟨hp1, hp2⟩, hp3⟩ := hps
 obtain ⟨fv, cs, h1, h2, h3⟩ := rangeArgB_spec hg hna
 have hwk : Weak S.st (S.ho (hs a0)).st := by
  rw [st_ho]
  exact weak_hv (S := S.st) (H := S.H) (O := S.O) hH hO
 refine AW_weak hwk ?_
 refine AW_rangeFuncB (ys := ys.map KV.toDL) N h1 h2 h3 hit (fun y hy => ?_) hp1 (by rw [show (S.ho (hs a0)).st.T = mapT S.T from rfl, calmTK_spec]; exact hp2) (Nat.le_of_ble_eq_true hp3)
  (fun i x s => ∃ a, x = (mapH (hs a).1, mapO (hs a).2) /\ inv i a s) (fun e x s => ∃ a H O, x = (mapH H, mapO O) /\ lvH H (hs a).1 /\ lvO O (hs a).2 /\ jx e a s) ⟨a0, rfl, h0⟩ ?_ ?_ ?_
 ·obtain ⟨y', hy', rfl⟩ := List.mem_map.1 hy
  rw [toDL_len]; exact (hlen y' hy').1
 ·rintro i y x s hi ⟨a, rfl, ha⟩ l
  rw [List.getElem?_map] at hi
  cases hy : ys[i]? with
  | none => rw [hy] at hi; cases hi
  | some y' =>
   rw [hy] at hi
   cases hi
   have hok := (hlen y' (List.mem_of_getElem? hy)).2
   have hrd := wpK_aw hT.mix hT.tab hdr.1 (round i y' a s hy ha l _ rfl (roundL hs (inv (i + 1)) jx) (fun S' s' a' h1 h2 h3 => ⟨a', h1, h2, h3⟩) (fun e S' s' a' he h1 h2 h3 => by cases e <;> first | exact ⟨a', h1, h2, h3⟩ | cases he))
   have hlq : Leq (SR (S.ho (hs a0)).st ps.toList (KV.toDL y') (mapH (hs a).1, mapO (hs a).2) N) (KSt.st ⟨S.n, putPK ps.toList y' S.T, (hs a).1, (hs a).2, N⟩) :=
    ⟨rfl, rfl, fun t => (putPK_spec hok t), fun _ => rfl, fun _ => rfl⟩
   refine AW_weak hlq.less.weak (AW_weakQ (hrd.mono ?_))
   rintro e S2 s2 ⟨S3, hw3, hq⟩
   refine ⟨S3.st, hw3, ?_⟩
   cases e with
   | normal =>
    refine ⟨rfl, ?_⟩
    have hb := wpK_aw hT.mix hT.tab hdr.2 (show wpK _ tb pz body S3 s2 _ from hq)
    refine AW_weakQ (hb.mono ?_)
    rintro e S4 s4 ⟨S5, hw5, hq⟩
    refine ⟨S5.st, hw5, ?_⟩
    cases e with
    | normal =>
     obtain ⟨a', e1, e2, e3⟩ := hq
     exact ⟨S5.st.ho (mapH (hs a').1, mapO (hs a').2), weak_hv (S := S5.st) (H := S5.H) (O := S5.O) e1 e2, a', rfl, e3⟩
    | panic => exact hq.elim
    | outgrown => exact hq.elim
    | _ =>
     obtain ⟨a', e1, e2, e3⟩ := hq
     exact ⟨a', S5.H, S5.O, rfl, e1, e2, e3⟩
   | _ => exact hq.elim
 ·rintro x s' ⟨a, rfl, ha⟩
  rw [List.length_map] at ha
  exact ⟨S.ho (hs a), Weak.refl _, hend a s' ha⟩
 ·rintro e c x s' _ ⟨a, H, O, rfl, e1, e2, e3⟩
  exact ⟨S.ho (hs a), weak_hv (S := S.st) (H := H) (O := O) e1 e2, hjmp e a s' e3⟩
theorem L_range {υ σ ρ : Type} {I : Prim E.σ} (hI : I = primK P E base none post) (hT : SeatOk P tb) (pz : List Nat) {g : Operand} {ps : Array Tmp} {assign body : Code} (hdr : (drawsOk pz assign && drawsOk pz body) = true) {S : KSt} {s : E.σ} {Q : Exit -> KSt -> E.σ -> Prop} {β : Type} {o : β}
  {ys : List υ} {kY : υ -> List KV} {f : Nat} {fs ds : List D} (hit : IterConB P f fs ds ((ys.map kY).map KV.toDL)) (hna : noAggD ds = true)
  {step : υ -> σ -> Option (σ ⊕ ρ)} {s0 : σ} {k : σ ⊕ ρ -> Option β} (h : (rangeO step ys s0).bind k = some o) (st : σ -> List (Nat × KBlk) × List (Nat × KRow)) (ex : ρ -> Exit) (sx : ρ -> List (Nat × KBlk) × List (Nat × KRow))
  (hg : rangeArgB (S.ho (st s0)) g = some (f, fs, ds)) (hlen : ∀ y, lenK (kY y) = ps.size /\ okArgs (kY y) = true) (N : Nat) (hps : (belowN S.n ps.toList && calmTK N S.T && Nat.ble S.low N) = true)
  (hH : lvH S.H (st s0).1) (hO : lvO S.O (st s0).2) (hx : ∀ q, ex q ≠ .normal) (hx2 : ∀ q ch, ex q ≠ .panic ch) (hx3 : ∀ q, ex q ≠ .outgrown)
  (round : ∀ (y : υ) (a : σ) (x : σ ⊕ ρ), step y a = some x -> ∀ (l : Nat) (I : Prim E.σ), I = primK P E base (some l) post -> ∀ R : Exit -> KSt -> E.σ -> Prop,
   (∀ S' a', x = .inl a' -> lvH S'.H (st a').1 -> lvO S'.O (st a').2 -> R .normal S' s) -> (∀ S' q, x = .inr q -> lvH S'.H (sx q).1 -> lvO S'.O (sx q).2 -> R (ex q) S' s) ->
   wpK I tb pz assign ⟨S.n, putPK ps.toList (kY y) S.T, (st a).1, (st a).2, N⟩ s (assignK fun S2 s2 => wpK I tb pz body S2 s2 R))
  (hend : ∀ a, k (.inl a) = some o -> Q .normal (S.ho (st a)) s) (hjmp : ∀ q, k (.inr q) = some o -> Q (ex q) (S.ho (sx q)) s) : I.W (.rangeFunc g ps assign body) S s Q := by
 obtain ⟨fin, h1, h2⟩ := bind_of h
 let hs : σ ⊕ ρ -> List (Nat × KBlk) × List (Nat × KRow) := fun x => match x with | .inl a => st a | .inr q => sx q
 refine W_rangeL (A := σ ⊕ ρ) hI hT pz hdr hit hna hs (fun i x s' => s' = s /\ ∃ a, x = .inl a /\ rangeO step (ys.drop i) a = some fin) (fun e x s' => s' = s /\ ∃ q, x = .inr q /\ fin = .inr q /\ e = ex q) (.inl s0) hg ?_ N hps hH hO ⟨rfl, s0, rfl, by simpa using h1⟩ ?_ ?_ ?_
 ·intro y hy
  obtain ⟨u, _, rfl⟩ := List.mem_map.1 hy
  exact hlen u
 ·rintro i y x s' hy ⟨rfl, a, rfl, hr⟩ l J hJ R hR hX
  rw [List.getElem?_map] at hy
  cases hyi : ys[i]? with
  | none => rw [hyi] at hy; cases hy
  | some u =>
   rw [hyi] at hy
   cases hy
   have hi := (List.getElem?_eq_some_iff.1 hyi).1
   have hd : ys.drop i = u :: ys.drop (i + 1) := by
    rw [List.drop_eq_getElem_cons hi]
    congr 1
    exact (List.getElem?_eq_some_iff.1 hyi).2
   rw [hd, rangeO] at hr
   cases hst : step u a with
   | none => rw [hst] at hr; cases hr
   | some x =>
    rw [hst] at hr
    refine round u a x hst l J hJ R (fun S' a' e1 e2 e3 => ?_) (fun S' q e1 e2 e3 => ?_)
    ·subst e1
     exact hR S' _ (.inl a') e2 e3 ⟨rfl, a', rfl, hr⟩
    ·subst e1
     cases hr
     exact hX (ex q) S' _ (.inr q) (by cases he : ex q <;> first | exact absurd he (hx q) | exact absurd he (hx2 q _) | exact absurd he (hx3 q) | (simp)) e2 e3 ⟨rfl, q, rfl, rfl, rfl⟩
 ·rintro x s' ⟨rfl, a, rfl, hr⟩
  rw [List.length_map, List.drop_length, rangeO] at hr
  cases hr
  exact hend a h2
 ·rintro e x s' ⟨rfl, q, rfl, rfl, rfl⟩
  exact hjmp q h2
end Go.Proofs.Ytfilnnbfppokmaa.Aw
namespace Go.Proofs.Ytfilnnbfppokmaa.Aw
open Go Go.RowKit
theorem loopO_of {σ ρ : Type} {step : σ -> Option (σ ⊕ ρ)} (inv : σ -> Prop) (m : σ -> Nat) (post : ρ -> Prop)
  (hstep : ∀ s, inv s -> (∃ s', step s = some (.inl s') /\ inv s' /\ m s' < m s) \/ (∃ q, step s = some (.inr q) /\ post q)) : ∀ (n : Nat) (s : σ), inv s -> m s < n -> ∃ q, loopO step n s = some q /\ post q
 | 0, s, _, h => by omega
 | n + 1, s, hi, hm => by
  rcases hstep s hi with ⟨s', e, hi', hm'⟩ | ⟨q, e, hp⟩
  ·obtain ⟨q, e2, hp⟩ := loopO_of inv m post hstep n s' hi' (by omega)
   exact ⟨q, by rw [loopO, e]; exact e2, hp⟩
  ·exact ⟨q, by rw [loopO, e], hp⟩
theorem loopO_inl {σ ρ : Type} {step : σ -> Option (σ ⊕ ρ)} {n : Nat} {s s' : σ} (h : step s = some (.inl s')) : loopO step (n + 1) s = loopO step n s' := by rw [loopO, h]
theorem loopO_inr {σ ρ : Type} {step : σ -> Option (σ ⊕ ρ)} {n : Nat} {s : σ} {q : ρ} (h : step s = some (.inr q)) : loopO step (n + 1) s = some q := by rw [loopO, h]
theorem getO_of {α : Type} {d : α} {l : List α} {i : Int} (h0 : 0 <= i) (h1 : i < l.length) : getO d l i = some (l.getD i.toNat d) := by
 unfold getO; rw [if_pos ⟨h0, h1⟩]
theorem icmp_lss {a b : Int} : icmpR .lss a b = decide (a < b) := by simp only [icmpR]
theorem icmp_leq {a b : Int} : icmpR .leq a b = decide (a <= b) := by simp only [icmpR]
theorem icmp_gtr {a b : Int} : icmpR .gtr a b = decide (a > b) := by simp only [icmpR]
theorem icmp_geq {a b : Int} : icmpR .geq a b = decide (a >= b) := by simp only [icmpR]
theorem icmp_eql {a b : Int} : icmpR .eql a b = decide (a = b) := by
 show (a == b) = decide (a = b)
 by_cases h : a = b <;> simp [h]
theorem icmp_neq {a b : Int} : icmpR .neq a b = decide (a ≠ b) := by
 show (a != b) = decide (a ≠ b)
 by_cases h : a = b <;> simp [h]
theorem addW {a b : Int} (h : -9223372036854775808 <= a + b /\ a + b <= 9223372036854775807) : iopR .add .i64 a b = a + b := wrap_i64 h
theorem subW {a b : Int} (h : -9223372036854775808 <= a - b /\ a - b <= 9223372036854775807) : iopR .sub .i64 a b = a - b := wrap_i64 h
theorem letO_eq {α β : Type} (x : α) (k : α -> Option β) : letO x k = k x := rfl
theorem bindS {α β : Type} (a : α) (k : α -> Option β) : (some a).bind k = k a := rfl
end Go.Proofs.Ytfilnnbfppokmaa.Aw
namespace Go.Proofs.Ytfilnnbfppokmaa.Aw
open Go Go.RowKit
universe u
variable {P : Program} {E : Env P} {base : Nat} {r : Option Nat} {post : KV -> List KRow -> Prop} {tb : Nat -> Option TI}
section
variable {κ ν : Type} [BEq κ]
def mfind (l : List (κ × ν)) (k : κ) : Option ν := match l with
 | [] => none
 | p :: r => if k == p.1 then some p.2 else mfind r k
def mget (l : List (κ × ν)) (k : κ) (z : ν) : ν := (mfind l k).getD z
def mset (l : List (κ × ν)) (k : κ) (v : ν) : List (κ × ν) := match l with
 | [] => [(k, v)]
 | p :: r => if k == p.1 then (k, v) :: r else p :: mset r k v
def mdel (l : List (κ × ν)) (k : κ) : List (κ × ν) := match l with
 | [] => []
 | p :: r => if k == p.1 then r else p :: mdel r k
end
theorem msetD_cons (row : List D) (r : List (List D)) (k v : D) : msetD (row :: r) k v = if dsame k (row.headD .nilfn) = true then [k, v] :: r else row :: msetD r k v := by
 simp only [msetD, mpos]
 cases dsame k (row.headD .nilfn) with
 | true => simp
 | false =>
  cases mpos k r with
  | none => simp
  | some i => simp
theorem mdelD_cons (row : List D) (r : List (List D)) (k : D) : mdelD (row :: r) k = if dsame k (row.headD .nilfn) = true then r else row :: mdelD r k := by
 simp only [mdelD, mpos]
 cases dsame k (row.headD .nilfn) with
 | true => simp
 | false =>
  cases mpos k r with
  | none => simp
  | some i => simp
structure MapEnc {κ ν : Type} [BEq κ] (u : Un) (f : κ × ν -> Nat -> KV) (fk : κ -> KV) (fv : ν -> KV) : Prop where
 t : ∃ d, unK u d /\ ∀ a, isKeyD d (fk a).toD
 f0 : ∀ a, f a 0 = fk a.1
 f1 : ∀ a, f a 1 = fv a.2
 same : ∀ a b, dsame (fk a).toD (fk b).toD = (a == b)
 dat : ∀ a, okDat (fv a) = true
section
variable {κ ν : Type} [BEq κ] {u : Un} {f : κ × ν -> Nat -> KV} {fk : κ -> KV} {fv : ν -> KV}
def mrows (fk : κ -> KV) (fv : ν -> KV) (l : List (κ × ν)) : List (List D) := l.map fun p => [(fk p.1).toD, (fv p.2).toD]
theorem mrows_eq (h : MapEnc u f fk fv) (d : κ × ν) (l : List (κ × ν)) : rowsD 0 [.mp (κ × ν) d l f] = mrows fk fv l := by
 simp [rowsD, KP.rows, mrows, rowD, h.f0, h.f1]
theorem mrows_keys {d : KeyT} (h : ∀ a, isKeyD d (fk a).toD) (l : List (κ × ν)) : keysD d (mrows fk fv l) := by
 intro row hr
 obtain ⟨p, _, rfl⟩ := List.mem_map.1 hr
 exact ⟨_, _, rfl, h p.1⟩
theorem msetD_rows (h : MapEnc u f fk fv) (k : κ) (v : ν) : ∀ (l : List (κ × ν)), msetD (mrows fk fv l) (fk k).toD (fv v).toD = mrows fk fv (mset l k v)
 | [] => rfl
 | p :: r => by
  have ih := msetD_rows h k v r
  simp only [mrows, List.map_cons, msetD_cons, List.headD_cons, h.same, mset] at ih ⊢
  by_cases hb : (k == p.1) = true
  ·simp [hb]
  ·simp only [hb, if_false, Bool.false_eq_true, List.map_cons]; rw [ih]
theorem mdelD_rows (h : MapEnc u f fk fv) (k : κ) : ∀ (l : List (κ × ν)), mdelD (mrows fk fv l) (fk k).toD = mrows fk fv (mdel l k)
 | [] => rfl
 | p :: r => by
  have ih := mdelD_rows h k r
  simp only [mrows, List.map_cons, mdelD_cons, List.headD_cons, h.same, mdel] at ih ⊢
  by_cases hb : (k == p.1) = true
  ·simp [hb]
  ·simp only [hb, if_false, Bool.false_eq_true, List.map_cons]; rw [ih]
theorem K_mset {I : Prim E.σ} (hI : I = primK P E base r post) {ps : List KP} {kc v : KV} {K : List KP -> Prop} (h : MapEnc u f fk fv) {d : κ × ν} (l : List (κ × ν)) (key : κ) (x : ν) (l1 : List (κ × ν)) (hl : l1 = mset l key x)
  (hps : rowsD 0 ps = rowsD 0 [.mp (κ × ν) d l f]) (hk : kc.toD = (fk key).toD) (hv : v.toD = (fv x).toD) (k : K [.mp (κ × ν) d l1 f]) : I.mset u ps kc v K := by
 subst hI hl
 obtain ⟨d', h1, h2⟩ := h.t
 refine ⟨d', h1, by rw [hk]; exact h2 key, by rw [hps, mrows_eq h]; exact mrows_keys h2 l, _, ?_, k⟩
 rw [hps, mrows_eq h, mrows_eq h, hk, hv, msetD_rows h]
theorem K_mdel {I : Prim E.σ} (hI : I = primK P E base r post) {ps : List KP} {kc : KV} {K : List KP -> Prop} (h : MapEnc u f fk fv) {d : κ × ν} (l : List (κ × ν)) (key : κ) (l1 : List (κ × ν)) (hl : l1 = mdel l key)
  (hps : rowsD 0 ps = rowsD 0 [.mp (κ × ν) d l f]) (hk : kc.toD = (fk key).toD) (k : K [.mp (κ × ν) d l1 f]) : I.mdel u ps kc K := by
 subst hI hl
 obtain ⟨d', h1, h2⟩ := h.t
 refine ⟨d', h1, by rw [hk]; exact h2 key, by rw [hps, mrows_eq h]; exact mrows_keys h2 l, _, ?_, k⟩
 rw [hps, mrows_eq h, mrows_eq h, hk, mdelD_rows h]
end
theorem K_mnext {I : Prim E.σ} (hI : I = primK P E base r post) {α : Type} {l : List α} {Ks : α -> List α -> Prop} {Ke : Prop} (h1 : l = [] -> Ke) (h2 : ∀ i x rem, rem = l.eraseIdx i -> l[i]? = some x -> Ks x rem) : I.mnext α l Ks Ke := by
 subst hI; exact ⟨h1, fun i x h => h2 i x _ rfl h⟩
theorem perm_erase {υ : Type} : ∀ {l : List υ} {i : Nat} {y : υ}, l[i]? = some y -> (y :: l.eraseIdx i).Perm l
 | [], i, y, h => by simp at h
 | x :: r, 0, y, h => by cases h; exact List.Perm.refl _
 | x :: r, i + 1, y, h => by
  have := perm_erase (l := r) (i := i) (y := y) (by simpa using h)
  exact (List.Perm.swap x y _).trans (this.cons x)
theorem perm_pick {υ : Type} {rem l : List υ} {i : Nat} {y : υ} (hy : rem[i]? = some y) (h : l.Perm (rem.eraseIdx i)) : (y :: l).Perm rem := (h.cons y).trans (perm_erase hy)
end Go.Proofs.Ytfilnnbfppokmaa.Aw
namespace Go.Proofs.Ytfilnnbfppokmaa.Aw
open Go Go.RowKit Go.Proofs
set_option maxRecDepth 100000
theorem weak_cell {P : Program} {E : Env P} {base : Nat} {s : E.σ} {M : Mp} {a : Act} {w : World} {S S' : St} (hc : Cfg E base S s M a w) (hn : S'.n = S.n) (hT : S'.T = S.T) (hO : S'.O = S.O) (hl : S'.low = S.low)
  (hH : ∀ b B', look S'.H b = some B' -> ∃ B, look S.H b = some B /\ B'.e = B.e /\ B'.live = B.live /\ B'.cells.length = B.cells.length /\
   ∀ (i : Nat) (c' : AV) (v : Value), B'.cells[i]? = some c' -> ∃ c, B.cells[i]? = some c /\ (RdA w M.ok M.μ M.ν E.l c v -> RdA w M.ok M.μ M.ν E.l c' v)) : Cfg E base S' s M a w /\ Ext S M w S' M w := by
 have hr := hc.rel
 have hmu : ∀ x k, At S'.H S'.O M x k -> At S.H S.O M x k := by
  intro x k hx
  cases x with
  | inl b => obtain ⟨⟨B, hB⟩, hk⟩ := hx; obtain ⟨B0, h1, _⟩ := hH b B hB; exact ⟨⟨_, h1⟩, hk⟩
  | inr b => obtain ⟨⟨B, hB⟩, hk⟩ := hx; rw [hO] at hB; exact ⟨⟨_, hB⟩, hk⟩
 have hlive : ∀ x, Liv S'.H S'.O x -> Liv S.H S.O x := by
  intro x hx
  cases x with
  | inl b => obtain ⟨B, hB, hl⟩ := hx; obtain ⟨B0, h1, _, h2, _⟩ := hH b B hB; exact ⟨_, h1, h2 ▸ hl⟩
  | inr b => obtain ⟨B, hB, hl⟩ := hx; rw [hO] at hB; exact ⟨_, hB, hl⟩
 have hown : ∀ k, Own S' M k -> Own S M k := by
  rintro k (⟨x, hx, hl⟩ | hd)
  ·exact .inl ⟨x, hmu x k hx, hlive x hl⟩
  ·exact .inr hd
 refine ⟨⟨⟨hr.lo, hr.size.trans hn.symm, fun t c ht => hr.tmp t c (hT ▸ ht), ⟨?_, ?_, ?_⟩, hr.okLt, hr.dfr, hr.dsOk, hr.dsN⟩, hc.j, hc.okLv, fun k hk => hc.own k (hown k hk), hc.okDom, hc.bDom⟩,
  ⟨rfl, rfl, rfl, Nat.le_refl _, fun _ _ _ _ => rfl, fun k _ hk => hown k hk, fun k x => x, fun k _ x => .inl x, fun _ _ x => x, Nat.le_of_eq hl.symm, fun _ _ => rfl, fun _ _ x => .inl x, fun _ _ => rfl⟩⟩
 ·intro b B' hB'
  obtain ⟨B, h1, h2, h3, h4, h5⟩ := hH b B' hB'
  obtain ⟨k, vs, e1, e2, e3, e4, e5, e6, e7, e8⟩ := hr.heap.blk b _ h1
  refine ⟨k, vs, e1, e2, h2 ▸ e3, e4.trans h4.symm, fun i c v hi hv => ?_, e6, fun h => e7 (h3 ▸ h), fun h => e8 (h3 ▸ h)⟩
  obtain ⟨c0, g1, g2⟩ := h5 i c v hi
  exact g2 (e5 i c0 v g1 hv)
 ·intro b R hR
  exact hr.heap.row b R (hO ▸ hR)
 ·intro x y k hx hy
  exact hr.heap.inj x y k (hmu x k hx) (hmu y k hy)
theorem weak_nilH {S : KSt} (b i id e sz : Nat) (B : KBlk) (hb : lk S.H b = some B) (hci : nth B.cells i = some .nilsl) (hsz : Nat.blt 0 sz = true) (hf : freshKO S [(id, ⟨e, sz, [], false, true⟩)] = true) :
  Weak S.st (KSt.st ⟨S.n, S.T, stA S.H b ⟨B.e, B.cells.set i (.osl id), B.live⟩, (id, ⟨e, sz, [], false, true⟩) :: S.O, S.low⟩) := by
 intro P E base s M a w hc
 have hsz0 : 0 < sz := by rw [Nat.blt_eq] at hsz; exact hsz
 have hnew : New M E.l w [] [(id, ⟨e, sz, [], false, true⟩)] (.osl id) (.slice none 0 0) (setν M id (.slice none 0 0)) w := by
  refine ⟨Below.refl _ _, rfl, rfl, rfl, fun _ _ => rfl, fun b hb => ?_, fun k x => x, fun k x => .inl x, .osl (by simp [setν]) rfl, ⟨fun b B h => (by cases h), fun id' R hR => ?_, fun x y k hx hy => ?_⟩⟩
  ·have : ¬ b = id := fun e => hb (by simp [keys, e])
   simp [setν, this]
  ·simp only [look] at hR
   by_cases hbb : id = id'
   ·rw [if_pos hbb] at hR; cases hR; subst hbb
    exact ⟨.slice none 0 0, [], by simp [setν], .inl ⟨hsz0, ⟨by simp, .inl ⟨rfl, rfl⟩⟩⟩, ⟨fun row h => (by cases h), fun i row j c h => by simp at h⟩, fun h => (by cases h), fun k hk => by cases hk⟩
   ·rw [if_neg hbb] at hR; cases hR
  ·cases x with
   | inl b => obtain ⟨⟨_, h⟩, _⟩ := hx; cases h
   | inr x =>
    obtain ⟨⟨_, hx1⟩, v, hx2, hx3⟩ := hx
    simp only [look] at hx1
    by_cases h1 : id = x
    ·subst h1
     have : v = .slice none 0 0 := by simpa [setν] using hx2.symm
     subst this; cases hx3
    ·rw [if_neg h1] at hx1; cases hx1
 have h1 := hc.new hnew (dst := none) (freshK_spec (S := S) (nh := []) (no := [(id, ⟨e, sz, [], false, true⟩)]) rfl hf) rfl
 have h2 := weak_cell (S' := KSt.st ⟨S.n, S.T, stA S.H b ⟨B.e, B.cells.set i (.osl id), B.live⟩, (id, ⟨e, sz, [], false, true⟩) :: S.O, S.low⟩) h1.1 rfl rfl rfl rfl (fun b' B' hB' => by
  rw [st_lookH] at hB'
  simp only at hB'
  rw [lk_stA hb] at hB'
  by_cases e1 : b = b'
  ·subst e1
   rw [if_pos rfl] at hB'
   cases hB'
   refine ⟨B.blk, ?_, rfl, rfl, ?_, fun j c' v hj => ?_⟩
   ·show look (S.st.add _ _ [] _).H b = _
    rw [St.add]; show look S.st.H b = _
    rw [st_lookH, hb]; rfl
   ·show (KV.avL (B.cells.set i (.osl id))).length = (KV.avL B.cells).length
    rw [avL_map, avL_map, List.length_map, List.length_map, List.length_set]
   ·have hj : (KV.avL (B.cells.set i (.osl id)))[j]? = some c' := hj
    show ∃ c, (KV.avL B.cells)[j]? = some c /\ _
    rw [avL_map, List.map_set] at hj
    rw [nth_eq] at hci
    by_cases e2 : i = j
    ·subst e2
     have hlt := (List.getElem?_eq_some_iff.1 hci).1
     rw [List.getElem?_set_self (by rw [List.length_map]; exact hlt)] at hj
     cases hj
     refine ⟨(KV.nilsl).av, by rw [avL_map, List.getElem?_map, hci]; rfl, fun hv => ?_⟩
     have hvn : v = .slice none 0 0 := by cases hv with | d h => cases h; rfl
     subst hvn
     exact .osl (by simp [setν]) rfl
    ·rw [List.getElem?_set_ne e2] at hj
     exact ⟨c', by rw [avL_map]; exact hj, fun h => h⟩
  ·rw [if_neg e1] at hB'
   exact ⟨B', by show look S.st.H b' = _; rw [st_lookH]; exact hB', rfl, rfl, rfl, fun j c' v hj => ⟨c', hj, fun h => h⟩⟩)
 exact ⟨_, h2.1, h1.2.trans h2.2⟩
end Go.Proofs.Ytfilnnbfppokmaa.Aw
namespace Go.Proofs.Ytfilnnbfppokmaa.Aw
open Go Go.RowKit
universe u
variable {P : Program} {E : Env P} {base : Nat} {r : Option Nat} {post : KV -> List KRow -> Prop} {tb : Nat -> Option TI}
def yieldO {Y ρ : Type} (y : Y) (m : Option (List Y × ρ)) : Option (List Y × ρ) := m.bind fun q => some (y :: q.1, q.2)
def thenY {Y ρ τ : Type} (m : Option (List Y × ρ)) (k : ρ -> Option (List Y × τ)) : Option (List Y × τ) := m.bind fun q => (k q.2).bind fun t => some (q.1 ++ t.1, t.2)
def loopY {Y σ ρ : Type} (step : σ -> Option (List Y × (σ ⊕ ρ))) : Nat -> σ -> Option (List Y × ρ)
 | 0, _ => none
 | n + 1, s => match step s with
  | none => none
  | some (ys, .inr q) => some (ys, q)
  | some (ys, .inl s') => (loopY step n s').bind fun t => some (ys ++ t.1, t.2)
def YS {σ : Type} {Y : Type} (V : List Y) (Inv : Nat -> σ -> Prop) (zs ps : List Y) (s : σ) : Prop := ∃ pre, V = pre ++ (zs ++ ps) /\ Inv pre.length s
theorem thenY_of {Y ρ τ : Type} {m : Option (List Y × ρ)} {k : ρ -> Option (List Y × τ)} {zs : List Y} {o : τ} (h : thenY m k = some (zs, o)) : ∃ ys q ts, m = some (ys, q) /\ k q = some (ts, o) /\ zs = ys ++ ts := by
 unfold thenY at h
 obtain ⟨⟨ys, q⟩, h1, h2⟩ := bind_of h
 obtain ⟨⟨ts, t⟩, h3, h4⟩ := bind_of h2
 cases h4
 exact ⟨ys, q, ts, h1, h3, rfl⟩
theorem Y_end {Y : Type} {en : Y -> List KV} {V : List Y} {Inv : Nat -> E.σ -> Prop} {Fin : E.σ -> Prop} (hTk : Takes E ((V.map en).map KV.toDL) Inv Fin) {ρ : Type} {x o : ρ} {zs : List Y} {s : E.σ} (h : some (([] : List Y), x) = some (zs, o)) (hy : YS V Inv zs [] s) : Fin s := by
 cases h
 obtain ⟨pre, h1, h2⟩ := hy
 refine hTk.done s ?_
 rw [List.length_map, List.length_map, h1]
 simpa using h2
theorem L_leafY {Y ρ : Type} {x o : ρ} {zs : List Y} (h : some (([] : List Y), x) = some (zs, o)) : zs = [] /\ o = x := by cases h; exact ⟨rfl, rfl⟩
theorem L_yield {I : Prim E.σ} (hI : I = primK P E base r post) {Y β : Type} {en : Y -> List KV} {V : List Y} {Inv : Nat -> E.σ -> Prop} {Fin : E.σ -> Prop} (hTk : Takes E ((V.map en).map KV.toDL) Inv Fin) {y : Y} {m : Option (List Y × β)} {zs ps : List Y} {o : β} {s : E.σ} {xs : List KV} {K : Bool -> E.σ -> Prop}
  (h : yieldO y m = some (zs, o)) (hy : YS V Inv zs ps s) (he : KV.toDL xs = KV.toDL (en y)) (ht : ∀ zs' s', m = some (zs', o) -> YS V Inv zs' ps s' -> K true s') (hf : ∀ s', Fin s' -> K false s') : I.Y s xs K := by
 unfold yieldO at h
 obtain ⟨⟨zs', o'⟩, h1, h2⟩ := bind_of h
 cases h2
 obtain ⟨pre, h3, h4⟩ := hy
 refine Y_take hI hTk pre.length (y := en y) ?_ he h4 (fun s' hs' => ht zs' s' h1 ⟨pre ++ [y], by rw [h3]; simp, by simpa using hs'⟩) hf
 rw [h3, List.getElem?_map]; simp
theorem L_loopY {Y σ ρ : Type} {I : Prim E.σ} (hI : I = primK P E base r post) (hT : SeatOk P tb) (pz : List Nat) {c : Code} (hdr : drawsOk pz c = true) {S : KSt} {s : E.σ} {Q : Exit -> KSt -> E.σ -> Prop} {β : Type} {o : β} {zs ps V : List Y} {Inv : Nat -> E.σ -> Prop} {Fin : E.σ -> Prop}
  {step : σ -> Option (List Y × (σ ⊕ ρ))} {n : Nat} {s0 : σ} {k : ρ -> Option (List Y × β)} (h : thenY (loopY step n s0) k = some (zs, o)) (hy : YS V Inv zs ps s) (st : σ -> KSt) (ex : ρ -> Exit) (sx : ρ -> KSt) (eF : Exit) (hw : Weak S.st (st s0).st) (hx : ∀ q, ex q ≠ .normal) (hF : eF ≠ .normal)
  (round : ∀ (a : σ) (x : σ ⊕ ρ) (ys ps' : List Y) (s' : E.σ), step a = some (ys, x) -> YS V Inv ys ps' s' -> ∀ R : Exit -> KSt -> E.σ -> Prop,
   (∀ S' a' s'', x = .inl a' -> YS V Inv [] ps' s'' -> Weak S'.st (st a').st -> R .normal S' s'') -> (∀ S' q s'', x = .inr q -> YS V Inv [] ps' s'' -> Weak S'.st (sx q).st -> R (ex q) S' s'') -> (∀ S' s'', Fin s'' -> R eF S' s'') -> wpK I tb pz c (st a) s' R)
  (hQ : ∀ q zs' s', k q = some (zs', o) -> YS V Inv zs' ps s' -> Q (ex q) (sx q) s') (hQF : ∀ S' s', Fin s' -> Q eF S' s') : I.W (.loop c) S s Q := by
 subst hI
 obtain ⟨ys, q, ts, h1, h2, rfl⟩ := thenY_of h
 refine AW_weak hw (AW_loop (fun n S' s' => ∃ a ys, S' = (st a).st /\ loopY step n a = some (ys, q) /\ YS V Inv (ys ++ ts) ps s') n ⟨s0, ys, rfl, h1, hy⟩ ?_)
 rintro n S' s' ⟨a, ys, rfl, hl, hy⟩
 cases n with
 | zero => cases hl
 | succ n =>
  obtain ⟨y1, x, hxs⟩ : ∃ y1 x, step a = some (y1, x) := by
   cases hs : step a with
   | none => rw [loopY, hs] at hl; cases hl
   | some x => exact ⟨x.1, x.2, rfl⟩
  rw [loopY, hxs] at hl
  obtain ⟨y2, hy2, hyx⟩ : ∃ y2, ys = y1 ++ y2 /\ (match x with | .inr q' => q' = q /\ y2 = [] | .inl a' => loopY step n a' = some (y2, q)) := by
   cases x with
   | inr q' => cases hl; exact ⟨[], by simp, rfl, rfl⟩
   | inl a' =>
    obtain ⟨⟨y2, q2⟩, g1, g2⟩ := bind_of hl
    cases g2
    exact ⟨y2, rfl, g1⟩
  subst hy2
  rw [List.append_assoc] at hy
  have hy' : YS V Inv y1 (y2 ++ ts ++ ps) s' := by
   obtain ⟨pre, e1, e2⟩ := hy
   exact ⟨pre, by rw [e1]; simp, e2⟩
  refine AW_weakQ ((wpK_aw hT.mix hT.tab hdr (round a x y1 _ s' hxs hy' (fun e S2 s2 => (e = .normal /\ ∃ a', x = .inl a' /\ YS V Inv [] (y2 ++ ts ++ ps) s2 /\ Weak S2.st (st a').st) \/ (∃ q', x = .inr q' /\ YS V Inv [] (y2 ++ ts ++ ps) s2 /\ e = ex q' /\ Weak S2.st (sx q').st) \/ (e = eF /\ Fin s2))
   (fun S' a' s'' e1 e2 e3 => .inl ⟨rfl, a', e1, e2, e3⟩) (fun S' q' s'' e1 e2 e3 => .inr (.inl ⟨q', e1, e2, rfl, e3⟩)) (fun S' s'' e1 => .inr (.inr ⟨rfl, e1⟩)))).mono ?_)
  rintro e S2 s2 ⟨S3, hw3, ⟨rfl, a', rfl, g1, hw4⟩ | ⟨q', rfl, g1, rfl, hw4⟩ | ⟨rfl, g1⟩⟩
  ·refine ⟨(st a').st, hw3.trans hw4, n, (st a').st, Nat.lt_succ_self n, Weak.refl _, a', y2, rfl, hyx, ?_⟩
   obtain ⟨pre, e1, e2⟩ := g1
   exact ⟨pre, by rw [e1]; simp, e2⟩
  ·obtain ⟨rfl, rfl⟩ := hyx
   refine ⟨(sx q').st, hw3.trans hw4, ?_⟩
   have := KQ_of (Q := Q) (hQ q' ts s2 h2 (by
    obtain ⟨pre, e1, e2⟩ := g1
    exact ⟨pre, by rw [e1]; simp, e2⟩))
   cases he : ex q' with
   | normal => exact absurd he (hx q')
   | _ => rw [he] at this; exact this
  ·refine ⟨S3.st, hw3, ?_⟩
   have := KQ_of (Q := Q) (hQF S3 s2 g1)
   cases he : e with
   | normal => exact absurd he hF
   | _ => rw [he] at this; exact this
theorem iter_l {f : Nat} {fn : Func} {c : Code} {caps : List KV} {Y : Type} {en : Y -> List KV} {V : List Y} (pz : List Nat) (hT : SeatOk P tb) (hf : P.funcs[f]? = some fn) (hb : fn.body = some c) (hent : Ent P f) (hdr : drawsOk pz c = true) (hn : Nat.ble (lenK caps + 1) fn.ntmps = true) (ha : okArgs caps = true) (hres : fn.results = #[])
  (h : ∀ (E : Env P) (Inv : Nat -> E.σ -> Prop) (Fin : E.σ -> Prop), Takes E ((V.map en).map KV.toDL) Inv Fin -> ∀ (base : Nat) (s : E.σ), YS V Inv V [] s -> ∀ I, I = primK P E base none (fun _ _ => False) -> wpK I tb pz c (KSY fn.ntmps caps) s (finK Fin)) : IterCon P f (KV.toDL caps) ((V.map en).map KV.toDL) :=
 iter_k pz hT hf hb hent hdr hn ha hres fun E Inv Fin hTk base s h0 I hI => h E Inv Fin hTk base s ⟨[], by simp, h0⟩ I hI
def KSYB (n : Nat) (fs : List KV) : KSt := ⟨n, argK 0 fs ++ [(lenK fs, .yld)], [], [], 0⟩
theorem iter_kB {f : Nat} {fn : Func} {c : Code} {fs : List KV} {ys : List (List KV)} (pz : List Nat) (hT : SeatOk P tb) (hf : P.funcs[f]? = some fn) (hb : fn.body = some c) (hent : Ent P f) (hdr : drawsOk pz c = true) (hn : Nat.ble (lenK fs + 1) fn.ntmps = true) (ha : okArgs fs = true) (hres : fn.results = #[])
  (h : ∀ (E : Env P) (Inv : Nat -> E.σ -> Prop) (Fin : E.σ -> Prop), Takes E (ys.map KV.toDL) Inv Fin -> ∀ (base : Nat) (s : E.σ), Inv 0 s -> ∀ I, I = primK P E base none (fun _ _ => False) -> wpK I tb pz c (KSYB fn.ntmps fs) s (finK Fin)) : IterConB P f (KV.toDL fs) [] (ys.map KV.toDL) := by
 refine iter_introB hf hb hent (by rw [toDL_len]; exact hn) hres fun E Inv Fin hT' base s h0 => ?_
 have := wpK_aw hT.mix hT.tab hdr (h E Inv Fin hT' base s h0 _ rfl)
 rw [show (KSYB fn.ntmps fs).st = SYB fn.ntmps (KV.toDL fs) [] from by simp only [KSYB, KSt.st, SYB, mapT_app, argK_spec ha, toDL_len]; rfl] at this
 refine this.mono ?_
 rintro e S s' ⟨S', hw, hq⟩
 unfold finK at hq
 split at hq
 ·rename_i he
  refine ⟨?_, hq⟩
  cases e <;> first | exact .inl rfl | exact .inr rfl | cases he
 ·exact hq.elim
theorem iter_lB {f : Nat} {fn : Func} {c : Code} {fs : List KV} {Y : Type} {en : Y -> List KV} {V : List Y} (pz : List Nat) (hT : SeatOk P tb) (hf : P.funcs[f]? = some fn) (hb : fn.body = some c) (hent : Ent P f) (hdr : drawsOk pz c = true) (hn : Nat.ble (lenK fs + 1) fn.ntmps = true) (ha : okArgs fs = true) (hres : fn.results = #[])
  (h : ∀ (E : Env P) (Inv : Nat -> E.σ -> Prop) (Fin : E.σ -> Prop), Takes E ((V.map en).map KV.toDL) Inv Fin -> ∀ (base : Nat) (s : E.σ), YS V Inv V [] s -> ∀ I, I = primK P E base none (fun _ _ => False) -> wpK I tb pz c (KSYB fn.ntmps fs) s (finK Fin)) : IterConB P f (KV.toDL fs) [] ((V.map en).map KV.toDL) :=
 iter_kB pz hT hf hb hent hdr hn ha hres fun E Inv Fin hTk base s h0 I hI => h E Inv Fin hTk base s ⟨[], by simp, h0⟩ I hI
end Go.Proofs.Ytfilnnbfppokmaa.Aw
namespace Go.Proofs.Ytfilnnbfppokmaa.Aw
open Go Go.RowKit
universe u
variable {P : Program} {E : Env P} {base : Nat} {r : Option Nat} {post : KV -> List KRow -> Prop} {tb : Nat -> Option TI}
def enumBK (q : Nat) : List KBlk -> List (Nat × KBlk)
 | [] => []
 | R :: r => (q, R) :: enumBK (q + 1) r
theorem enumBK_spec : ∀ (l : List KBlk) (q : Nat), mapH (enumBK q l) = enumB q (l.map KBlk.blk)
 | [], q => rfl
 | R :: r, q => by simp only [enumBK, mapH, List.map_cons, enumB, enumBK_spec r]
theorem enumK_spec' : ∀ (l : List KRow) (q : Nat), mapO (enumK q l) = enumR q (l.map KRow.row)
 | [], q => rfl
 | R :: r, q => by simp only [enumK, mapO, List.map_cons, enumR, enumK_spec' r]
def iotaK {α : Type u} (q : Nat) : List α -> List Nat
 | [] => []
 | _ :: r => q :: iotaK (q + 1) r
def KCW (P : Program) (f : Nat) (args : List KV) (Hs : List KBlk) (Os : List KRow) (res : KV) (Bs : List KBlk) (Rs : List KRow) : Prop :=
 ConW P f (KV.avL args) (enumB 0 (Hs.map KBlk.blk)) (enumR 100 (Os.map KRow.row)) res.av (enumB 0 (Bs.map KBlk.blk)) (enumR 100 (Rs.map KRow.row))
def KW0 (n : Nat) (args : List KV) (Hs : List KBlk) (Os : List KRow) : KSt := ⟨n, argK 0 args, enumBK 0 Hs, enumK 100 Os, lenK Hs⟩
def retWQ (tb : Nat -> Option TI) (rs : List ResultVar) (hb hr : List Nat) (PW : KV -> List KBlk -> List KRow -> Prop) {σ : Type} (e : Exit) (S : KSt) (s : σ) : Prop :=
 match (match e with | .normal => true | .ret => true | _ => false) with
 | true => kk (resKL tb S rs) fun cs => kk (blksOfK S hb) fun Hs => kk (rowsOfK S hr) fun Os => PW (oneK cs) Hs Os
 | false => False
def endW (res : KV) (Bs : List KBlk) (Rs : List KRow) : KV -> List KBlk -> List KRow -> Prop := fun v hs os => v.av = res.av /\ hs.map KBlk.blk = Bs.map KBlk.blk /\ os.map KRow.row = Rs.map KRow.row
theorem argA_spec : ∀ {args : List KV} {i : Nat}, mapT (argK i args) = argA i (KV.avL args)
 | [], _ => rfl
 | c :: q, i => by simp only [argK, mapT, KV.avL, argA, argA_spec (args := q)]
theorem iotaK_get {α : Type u} : ∀ {l : List α} {q i : Nat} {k : Nat}, (iotaK q l)[i]? = some k -> k = q + i
 | [], q, i, k, h => by simp [iotaK] at h
 | _ :: r, q, 0, k, h => by simp [iotaK] at h; omega
 | _ :: r, q, i + 1, k, h => by simp [iotaK] at h; have := iotaK_get h; omega
theorem con_w {f : Nat} {fn : Func} {c : Code} {args : List KV} {Hs Bs : List KBlk} {Os Rs : List KRow} {res : KV} (pz : List Nat) (hT : SeatOk P tb) (hf : P.funcs[f]? = some fn) (hb : fn.body = some c) (hent : Ent P f)
  (hdr : drawsOk pz c = true) (hn : Nat.ble (lenK args) fn.ntmps = true) (hs : res.scalar = true) (hd : dataHs Bs = true) (hl : Nat.beq (lenK Bs) (lenK Hs) = true)
  (h : ∀ yl I PW, I = primK P (noEnvL P yl) 0 none (fun _ _ => False) -> PW = endW res Bs Rs -> wpK I tb pz c (KW0 fn.ntmps args Hs Os) () (retWQ tb fn.results.toList (iotaK 0 Hs) (iotaK 100 Os) PW)) : KCW P f args Hs Os res Bs Rs := by
 have hl := Nat.eq_of_beq_eq_true hl
 rw [lenK_eq, lenK_eq] at hl
 refine conW_intro hf hb hent (lenK Hs) (by rw [avL_len]; exact hn) (scalar_av _ hs) (fun b B hB => ?_) (fun id R hR => ?_) fun yl => ?_
 ·rw [look_enumB] at hB
  have hlt := (List.getElem?_eq_some_iff.1 hB.2).1
  refine ⟨by rw [lenK_eq]; simp at hlt; omega, fun c hc => ?_⟩
  have := dataHs_spec hd B (List.mem_of_getElem? hB.2) c hc
  cases c with
  | d x => exact ⟨x, rfl⟩
  | _ => cases this
 ·rw [look_enumR] at hR; exact hR.1
 ·have := wpK_aw hT.mix hT.tab hdr (h yl _ _ rfl rfl)
  rw [show (KW0 fn.ntmps args Hs Os).st = SW fn.ntmps (KV.avL args) (enumB 0 (Hs.map KBlk.blk)) (enumR 100 (Os.map KRow.row)) (lenK Hs) from by simp only [KW0, KSt.st, SW, argA_spec, enumBK_spec, enumK_spec']] at this
  refine AW_weakQ (this.mono ?_)
  rintro e S s ⟨S', hw, hq⟩
  refine ⟨S'.st, hw, ?_⟩
  unfold retWQ at hq
  split at hq
  ·rename_i he
   replace hq := kk_spec hq; obtain ⟨cs, h1, hq⟩ := hq
   replace hq := kk_spec hq; obtain ⟨hs', h2, hq⟩ := hq
   replace hq := kk_spec hq; obtain ⟨os', h3, hq⟩ := hq
   obtain ⟨e1, e2, e3⟩ := hq
   refine ⟨by (cases e <;> first | exact .inl rfl | exact .inr rfl | cases he), KV.avL cs, resKL_spec hT.tab h1, by rw [<- oneK_spec, e1], fun b B hB => ?_, fun id R hR => ?_⟩
   ·rw [look_enumB] at hB
    obtain ⟨_, g2⟩ := blksOf_get (blksOfK_spec h2)
    rw [<- e2] at hB
    obtain ⟨id, i1, i2, _⟩ := g2 _ B hB.2
    have := iotaK_get i1
    have : id = b := by omega
    subst this; exact i2
   ·rw [look_enumR] at hR
    obtain ⟨_, g2⟩ := rowsOf_get (rowsOfK_spec h3)
    rw [<- e3] at hR
    obtain ⟨id', i1, i2, _⟩ := g2 _ R hR.2
    have := iotaK_get i1
    have : id' = id := by omega
    subst this; exact i2
  ·exact hq.elim
theorem ArgsA.le {w : World} {ok : Nat -> Prop} {μ : Nat -> Option Nat} {ν : Nat -> Option Value} {yl : Nat} {args args' : List AV} {vs : Array Value} (h : ArgsA w ok μ ν yl args vs) (hle : leAL args args') : ArgsA w ok μ ν yl args' vs := by
 obtain ⟨g1, g2⟩ := leAL_get hle
 refine ⟨h.1.trans g1, fun i c v hc hv => ?_⟩
 obtain ⟨x, hx1, hx2⟩ := g2 i c hc
 exact (h.2 i x v hx1 hv).le hx2
theorem L_callW {I : Prim E.σ} (hI : I = primK P E base r post) {α β : Type} {m : Option α} {k : α -> Option β} {o : β} {g : Nat} {args args' : List KV} {Hs Hs' : List KBlk} {Os Os' : List KRow} {res : α -> KV} {Bs : α -> List KBlk} {Rs : α -> List KRow} {K : KV -> List KBlk -> List KRow -> Prop} (h : m.bind k = some o)
  (hc : ∀ v, m = some v -> KCW P g args' Hs' Os' (res v) (Bs v) (Rs v)) (ha : leAL (KV.avL args) (KV.avL args')) (hH : Hs.map KBlk.blk = Hs'.map KBlk.blk) (hO : Os.map KRow.row = Os'.map KRow.row) (kk : ∀ v, k v = some o -> K (res v) (Bs v) (Rs v)) : I.CW g args Hs Os K := by
 obtain ⟨v, h1, h2⟩ := bind_of h
 subst hI
 refine ⟨res v, Bs v, Rs v, ?_, kk v h2⟩
 obtain ⟨c1, c2⟩ := hc v h1
 refine ⟨c1, fun w M yl vs hheap hok hvs => ?_⟩
 rw [hH, hO] at hheap
 have := c2 w M yl vs hheap hok (hvs.le ha)
 rw [hH, hO]; exact this
theorem numsW_ls {e sz : Nat} {α : Type} {d : α} (l : List α) {c : α -> Nat -> KV} {nn : Bool} (h : ∀ a, (rowD sz 0 fun j => (c a j).toD).all D.num = true) : numRows ([(⟨e, sz, [.ls α d l c], nn, true⟩ : KRow)].map KRow.row) := by
 intro R hR
 simp only [List.map_cons, List.map_nil, List.mem_singleton] at hR
 subst hR
 refine ⟨rfl, fun row hrow x hx => ?_⟩
 simp only [KRow.row, rowsD, KP.rows, List.append_nil, List.mem_map] at hrow
 obtain ⟨a, _, rfl⟩ := hrow
 exact List.all_eq_true.1 (h a) x hx
end Go.Proofs.Ytfilnnbfppokmaa.Aw
namespace Go.Proofs.Ytfilnnbfppokmaa.Aw
open Go Go.RowKit
universe u
variable {P : Program} {E : Env P} {base : Nat} {r : Option Nat} {post : KV -> List KRow -> Prop}
end Go.Proofs.Ytfilnnbfppokmaa.Aw
namespace Go.Proofs.Ytfilnnbfppokmaa.Aw
open Go Go.RowKit
universe u
variable {P : Program} {E : Env P} {base : Nat} {r : Option Nat} {post : KV -> List KRow -> Prop} {tb : Nat -> Option TI}
noncomputable def permO {α β : Type} (l : List α) (k : List α -> Option β) : Option β :=
 open Classical in if h : ∃ o, ∀ l' : List α, l'.Perm l -> k l' = some o then some (Classical.choose h) else none
theorem permO_spec {α β : Type} {l : List α} {k : List α -> Option β} {o : β} : permO l k = some o ↔ ∀ l' : List α, l'.Perm l -> k l' = some o := by
 unfold permO
 constructor
 ·intro h
  split at h
  ·rename_i hh; cases h; exact Classical.choose_spec hh
  ·cases h
 ·intro h
  have hh : ∃ o, ∀ l' : List α, l'.Perm l -> k l' = some o := ⟨o, h⟩
  rw [dif_pos hh]
  have := Classical.choose_spec hh l (List.Perm.refl _)
  rw [h l (List.Perm.refl _)] at this
  exact this.symm
def KCN (P : Program) (g : Nat) (args : List KV) (RR : KRow -> Prop) : Prop := ConN P g (KV.toDL args) (.osl 0) 1 (fun rows => ∃ R, (∃ R', RR R' /\ R = R'.row) /\ rows = [R])
theorem L_callN {I : Prim E.σ} (hI : I = primK P E base r post) {α β : Type} {l : List α} {k : List α -> Option β} {o : β} {g : Nat} {args args' : List KV} {row : List α -> KRow} {K : KRow -> Prop} (h : permO l k = some o)
  (hc : KCN P g args' (fun R => ∃ l' : List α, l'.Perm l /\ R = row l')) (ha : KV.toDL args = KV.toDL args') (hn : ∀ l', numRows [(row l').row]) (kk : ∀ l' : List α, l'.Perm l -> k l' = some o -> K (row l')) : I.CN g args K := by
 subst hI
 refine ⟨_, by rw [ha]; exact hc, ?_⟩
 rintro R ⟨l', hp, rfl⟩
 exact ⟨hn l', kk l' hp (permO_spec.1 h l' hp)⟩
def endN (RR : KRow -> Prop) : KV -> List KRow -> Prop := fun v rs => LV v (.osl 0) /\ ∃ R, RR R /\ rs.map KRow.row = [R.row]
theorem con_introN {f : Nat} {fn : Func} {c : Code} (hf : P.funcs[f]? = some fn) (hb : fn.body = some c) (hent : Ent P f) {args : List D} (hn : Nat.ble args.length fn.ntmps = true) {res : AV} {n : Nat} {RR : List Row -> Prop}
  (h : ∀ base, AW (noEnv P) base none c (S0 fn.ntmps args) () (fun e S _ => (e = .normal \/ e = .ret) /\ ∃ rows, RR rows /\ rows.length = n /\ ∃ rv, leA rv res /\ RetOk P fn S rv rows)) : ConN P f args res n RR := by
 refine ⟨hent, fun w ok vs hok hvs => (callsIn_wide (n := 0)).1 ?_⟩
 refine callsIn_of_wp_marks (F := FW none) (n := 0) hf hb trivial ?_
 let M0 : Mp := ⟨fun _ => none, fun _ => none, ok, fun _ => False, fun _ => False, []⟩
 have hn' := Nat.le_of_ble_eq_true hn
 have hr0 : Rel w.heap.size (S0 fn.ntmps args) M0 (noEnv P).l { tmps := vs ++ Array.replicate (fn.ntmps - vs.size) undef, defers := [] } w := by
  refine ⟨Nat.le_refl _, ?_, fun t c ht => ?_, ⟨fun b B hB => (by cases hB), fun b B hB => (by cases hB), fun x y k hx => by cases x <;> (obtain ⟨⟨_, h⟩, _⟩ := hx; cases h)⟩, hok, rfl, fun D hD => (by cases hD), List.nodup_nil⟩
  ·show (vs ++ Array.replicate (fn.ntmps - vs.size) undef).size = fn.ntmps
   rw [Array.size_append, Array.size_replicate, hvs.1]; omega
  ·obtain ⟨_, x, h1, rfl⟩ := look_argT ht
   rw [Nat.sub_zero] at h1
   have hlt := (List.getElem?_eq_some_iff.1 h1).1
   obtain ⟨v, hv⟩ : ∃ v, vs[t]? = some v := ⟨vs[t]'(by rw [hvs.1]; exact hlt), by simp⟩
   exact ⟨v, by show (vs ++ _)[t]? = some v; rw [Array.getElem?_append_left (by rw [hvs.1]; exact hlt)]; exact hv, toAV_spec (hvs.2 t x v h1 hv)⟩
 have hown0 : ∀ k, ¬ Own (S0 fn.ntmps args) M0 k := by
  rintro k (⟨x, hx, _⟩ | hd)
  ·cases x <;> (obtain ⟨⟨_, h⟩, _⟩ := hx; cases h)
  ·cases hd
 have hc0 : Cfg (noEnv P) w.heap.size (S0 fn.ntmps args) () M0 { tmps := vs ++ Array.replicate (fn.ntmps - vs.size) undef, defers := [] } w :=
  ⟨hr0, ⟨fun _ h => h, fun _ h => h⟩, fun _ _ h => h, fun k hk => absurd hk (hown0 k), fun _ _ => trivial, fun _ _ => trivial⟩
 refine wpIn_mono (h w.heap.size M0 _ w hc0) ?_
 rintro e a' w' ⟨S', s', M', ⟨he, rows, hRR, hlen, hret⟩, hc', hx⟩
 have hgoal : LeavesInM (FW none) 0 P fn a'.tmps (fun e w' => ∃ rows, RR rows /\ rows.length = n /\ ∃ v ok' ν', e = .returned v /\ Below w.heap.size w w' /\ (∀ k, ok k -> ok' k) /\ (∀ k, ok' k -> ok k \/ (w.heap.size <= k /\ k < w'.heap.size)) /\
   (∀ μ yl, RdA w' ok' μ ν' yl res v) /\ HeapOk w.heap.size [] (enumR 0 rows) ⟨fun _ => none, ν', ok', fun _ => False, fun _ => False, []⟩ 0 w') a'.defers .returning w' := by
  rw [hc'.rel.dfr]
  have hbel : Below w.heap.size w w' := ⟨hx.os, hx.tape, hx.output, hx.size, fun k hk => hx.keep k hk (hown0 k) (fun h => h)⟩
  refine leaves_marks (S := S') (base := w.heap.size) (w0 := w) (Nat.le_refl _) M'.ds M' a' w' rfl hc'.rel hbel (fun M2 a2 w2 hr2 hb2 e1 e2 e3 e4 e5 => ?_)
  obtain ⟨rv, hle, cs, ids, h1, h2, h3, h4⟩ := hret
  obtain ⟨v, h5, h6⟩ := run_results (P := P) (fn := fn) hr2 h1
  rw [<- e4]
  obtain ⟨r1, r2⟩ := rowsOf_get h3
  have hsub := lessO_sub S' ids
  refine ⟨v, h5, rows, hRR, hlen, v, okS true (lessO S' ids) M2, fun i => (ids[i]?).bind M2.ν, rfl, hb2, fun k hk => .inl (e3 ▸ hx.okm k hk), fun k hk => ?_, fun μ yl => (ret3_spec hr2 (fun i id hi => by simp [hi]) h2 h6 μ yl).le hle, ⟨fun b B hB => (by cases hB), fun i R hR => ?_, fun x y k hx' hy' => ?_⟩⟩
  ·rcases hk with hk | ⟨_, x, hx', _⟩
   ·rw [e3] at hk
    by_cases hlt : k < w.heap.size
    ·rcases hx.okn k hlt hk with h | h
     ·exact .inl h
     ·exact absurd h (hown0 k)
    ·exact .inr ⟨by omega, by rw [e5]; exact hc'.rel.okLt k hk⟩
   ·obtain ⟨g1, g2, _⟩ := hr2.heap.at_lt (hsub.at hx')
    exact .inr ⟨g1, g2⟩
  ·rw [look_enumR] at hR
   obtain ⟨id, i1, i2, i3⟩ := r2 i R (by simpa using hR.2)
   obtain ⟨v', flat, f1, f2, f3, f4, f5⟩ := hr2.heap.row id R i2
   refine ⟨v', flat, by simp [i1, f1], f2, f3.mono (fun k x => .inl x) (fun _ _ => rfl), f4, fun k hk => ⟨fun hl hh => ?_, fun hl => by rw [i3] at hl; cases hl⟩⟩
   rcases hh with hh | ⟨_, x, hx', _⟩
   ·exact (f5 k hk).1 hl hh
   ·have := hr2.heap.inj x (.inr id) k (hsub.at hx') ⟨⟨R, i2⟩, v', f1, hk⟩
    subst this
    obtain ⟨⟨R', hR'⟩, _⟩ := hx'
    rw [lessO_not (List.mem_of_getElem? i1)] at hR'; cases hR'
  ·have aux : ∀ x : Nat ⊕ Nat, At [] (enumR 0 rows) ⟨fun _ => none, fun i => (ids[i]?).bind M2.ν, okS true (lessO S' ids) M2, fun _ => False, fun _ => False, []⟩ x k -> ∃ i id, x = .inr i /\ ids[i]? = some id /\ At S'.H S'.O M2 (.inr id) k := by
    intro x hx'
    cases x with
    | inl b => obtain ⟨⟨_, h⟩, _⟩ := hx'; cases h
    | inr i =>
     obtain ⟨⟨R, hR⟩, v', hv, hk⟩ := hx'
     rw [look_enumR] at hR
     obtain ⟨id, i1, i2, i3⟩ := r2 i R (by simpa using hR.2)
     have hv' : (ids[i]?).bind M2.ν = some v' := hv
     rw [i1] at hv'
     exact ⟨i, id, rfl, i1, ⟨R, i2⟩, v', hv', hk⟩
   obtain ⟨i, id, rfl, hi, g1⟩ := aux x hx'
   obtain ⟨j, jd, rfl, hj, g2⟩ := aux y hy'
   have := hr2.heap.inj _ _ k g1 g2
   simp only [Sum.inr.injEq] at this
   subst this
   congr 1
   exact (List.getElem?_inj (List.getElem?_eq_some_iff.1 hi).1 h4).1 (hi.trans hj.symm)
 rcases he with rfl | rfl
 ·exact hgoal
 ·exact hgoal
theorem con_n {f : Nat} {fn : Func} {c : Code} {args : List KV} {RR : KRow -> Prop} (ids : List Nat) (pz : List Nat) (hT : SeatOk P tb) (hf : P.funcs[f]? = some fn) (hb : fn.body = some c) (hent : Ent P f)
  (hdr : drawsOk pz c = true) (hn : Nat.ble (lenK args) fn.ntmps = true) (ha : okArgs args = true) (hid : ids.Nodup)
  (h : ∀ base I, I = primK P (noEnv P) base none (endN RR) -> wpK I tb pz c (KS0 fn.ntmps args) () (retKQ I tb fn.results.toList ids)) : KCN P f args RR := by
 refine con_introN hf hb hent (by rw [toDL_len]; exact hn) fun base => ?_
 have := wpK_aw hT.mix hT.tab hdr (h base _ rfl)
 rw [show (KS0 fn.ntmps args).st = S0 fn.ntmps (KV.toDL args) from by simp only [KS0, KSt.st, S0, argK_spec ha]; rfl] at this
 refine AW_weakQ (this.mono ?_)
 rintro e S s ⟨S', hw, hq⟩
 refine ⟨S'.st, hw, ?_⟩
 unfold retKQ at hq
 split at hq
 ·rename_i he
  replace hq := kk_spec hq; obtain ⟨cs, h1, hq⟩ := hq
  replace hq := kk_spec hq; obtain ⟨v, h2, hq⟩ := hq
  replace hq := kk_spec hq; obtain ⟨rs, h3, hq⟩ := hq
  obtain ⟨e1, R, hR, e2⟩ := (hq : leA v.av (.osl 0) /\ ∃ R, RR R /\ rs.map KRow.row = [R.row])
  refine ⟨?_, [R.row], ⟨_, ⟨R, hR, rfl⟩, rfl⟩, rfl, v.av, e1, KV.avL cs, ids, resKL_spec hT.tab h1, ?_, ?_, hid⟩
  ·cases e <;> first | exact .inl rfl | exact .inr rfl | cases he
  ·rw [<- oneK_spec, ret3K_spec h2]
  ·rw [rowsOfK_spec h3, e2]
 ·exact hq.elim
end Go.Proofs.Ytfilnnbfppokmaa.Aw
namespace Go.Proofs.Ytfilnnbfppokmaa.Aw
open Go Go.RowKit
universe u
section
variable {σ : Type} (I : Prim σ) (tb : Nat -> Option TI)
end
variable {σ : Type} {I : Prim σ} {tb : Nat -> Option TI}
end Go.Proofs.Ytfilnnbfppokmaa.Aw
namespace Go.Proofs.Ytfilnnbfppokmaa.Aw
open Go Go.RowKit Go.ChangeShapes Go.WideShapes
inductive Sh where
 | int (k : IntKind)
 | bool
 | str
 | agg (l : List Sh)
 | sl (e : Sh)
mutual
def Sh.n : Sh -> Nat
 | .int _ => 1
 | .bool => 1
 | .str => 1
 | .agg l => Sh.nL l
 | .sl _ => 1
def Sh.nL : List Sh -> Nat
 | [] => 0
 | s :: r => s.n + Sh.nL r
end
mutual
def Sh.Fit : Sh -> List D -> Prop
 | .int k, xs => ∃ n, xs = [.int k n] /\ k.min <= n /\ n <= k.max
 | .bool, xs => ∃ b, xs = [.bool b]
 | .str, xs => ∃ s, xs = [.str s] /\ s.size <= maxLen
 | .agg l, xs => Sh.FitL l xs
 | .sl e, xs => ∃ rows : List (List D), xs = [.sl false e.n rows] /\ rows.length <= maxLen /\ ∀ row ∈ rows, e.Fit row
def Sh.FitL : List Sh -> List D -> Prop
 | [], xs => xs = []
 | s :: r, xs => ∃ a b, xs = a ++ b /\ s.Fit a /\ Sh.FitL r b
end
def shF (P : Program) (g : TypeId -> Option Sh) : List (TypeId × Nat) -> Nat -> Option (List Sh)
 | [], _ => some []
 | (t, o) :: r, off => if o = off then match g t with
  | some s => if s.n = P.cellsOf t then match shF P g r (off + s.n) with
   | some l => some (s :: l)
   | none => none
   else none
  | none => none
  else none
def shT (P : Program) : Nat -> TypeId -> Option Sh
 | 0, _ => none
 | f + 1, t => match P.underlying t with
  | some .bool => some .bool
  | some (.int k) => some (.int k)
  | some .string => some .str
  | some (.slice e) => match shT P f e with
   | some s => if s.n = P.cellsOf e /\ 0 < s.n then some (.sl s) else none
   | none => none
  | some (.struct fs) => (shF P (shT P f) (fs.toList.map fun x => (x.type, x.offset)) 0).map .agg
  | some (.array n e) => (shF P (shT P f) ((List.range n).map fun i => (e, i * P.cellsOf e)) 0).map .agg
  | _ => none
def RdC (w : World) (xs : List D) (cs : List Value) : Prop :=
 xs.length = cs.length /\ ∀ (i : Nat) (c : D) (v : Value), xs[i]? = some c -> cs[i]? = some v -> Rd w (fun k => k < w.heap.size) c v /\ v.oneCell' = true
theorem RdC.append {w : World} {xs ys : List D} {cs ds : List Value} (h : RdC w xs cs) (k : RdC w ys ds) : RdC w (xs ++ ys) (cs ++ ds) := by
 refine ⟨by simp [h.1, k.1], fun i c v hc hv => ?_⟩
 by_cases hi : i < xs.length
 ·rw [List.getElem?_append_left hi] at hc
  rw [List.getElem?_append_left (by rw [<- h.1]; exact hi)] at hv
  exact h.2 i c v hc hv
 ·rw [List.getElem?_append_right (by omega)] at hc
  rw [List.getElem?_append_right (by rw [<- h.1]; omega), <- h.1] at hv
  exact k.2 _ c v hc hv
theorem RdC.one {w : World} {x : D} {v : Value} (h : Rd w (fun k => k < w.heap.size) x v) (h1 : v.oneCell' = true) : RdC w [x] [v] := by
 refine ⟨rfl, fun i c u hc hu => ?_⟩
 match i, hc, hu with
 | 0, hc, hu => cases hc; cases hu; exact ⟨h, h1⟩
 | i + 1, hc, hu => simp at hc
section
variable {H : Type} {enc : TypeId × Value -> H} {P : Program} {w : World} {held : Bool}
theorem open_parts {g : TypeId -> Option Sh} {rd : TypeId -> List Value -> Option (DataW H × List MemPlace)} {cs : List Value}
  (ih : ∀ t s, g t = some s -> ∀ cs x, rd t cs = some x -> cs.length = s.n -> ∃ xs, s.Fit xs /\ RdC w xs cs) :
  ∀ {l : List (TypeId × Nat)} {off : Nat} {shs : List Sh} {ys : List (DataW H × List MemPlace)}, shF P g l off = some shs ->
   (l.mapM fun f => rd f.1 ((cs.drop f.2).take (P.cellsOf f.1))) = some ys -> off + Sh.nL shs = cs.length -> ∃ xs, Sh.FitL shs xs /\ RdC w xs (cs.drop off)
 | [], off, shs, ys, h1, _, h3 => by
  simp only [shF, Option.some.injEq] at h1
  subst h1
  refine ⟨[], rfl, ?_, fun i c v hc => by simp at hc⟩
  simp only [Sh.nL] at h3
  simp only [List.length_drop, List.length_nil]; omega
 | (t, o) :: r, off, shs, ys, h1, h2, h3 => by
  simp only [shF] at h1
  split at h1
  ·rename_i ho
   subst ho
   cases hg : g t with
   | none => rw [hg] at h1; cases h1
   | some s =>
    rw [hg] at h1
    simp only at h1
    split at h1
    ·rename_i hn
     cases hr : shF P g r (o + s.n) with
     | none => rw [hr] at h1; cases h1
     | some l =>
      rw [hr] at h1
      simp only [Option.some.injEq] at h1
      subst h1
      rw [List.mapM_cons] at h2
      cases hy : rd t ((cs.drop o).take (P.cellsOf t)) with
      | none => simp [hy] at h2
      | some y =>
       cases hz : (r.mapM fun f => rd f.1 ((cs.drop f.2).take (P.cellsOf f.1))) with
       | none => simp [hy, hz] at h2
       | some zs =>
        simp only [Sh.nL] at h3
        obtain ⟨a, a1, a2⟩ := ih t s hg _ y hy (by rw [List.length_take, List.length_drop, hn]; omega)
        obtain ⟨b, b1, b2⟩ := open_parts ih hr hz (by omega)
        refine ⟨a ++ b, ⟨a, b, rfl, a1, b1⟩, ?_⟩
        have := a2.append b2
        rw [<- hn] at this
        have e : List.take s.n (List.drop o cs) ++ List.drop (o + s.n) cs = List.drop o cs := by
         rw [<- List.drop_drop]; exact List.take_append_drop _ _
        rwa [e] at this
    ·cases h1
  ·cases h1
theorem cells?_spec {a : Addr} {n : Nat} {cs : List Value} (h : w.cells? 0 a n = some cs) : cs.length = n /\ ∀ j v, cs[j]? = some v -> w.cell? (a.add j) = some v := by
 unfold World.cells? at h
 rw [if_pos (Nat.zero_le _)] at h
 obtain ⟨h1, h2⟩ := mapM_get h
 rw [List.length_range] at h1
 refine ⟨h1.symm, fun j v hj => ?_⟩
 obtain ⟨x, e1, e2⟩ := h2 j v hj
 have hlt := (List.getElem?_eq_some_iff.1 hj).1
 rw [List.getElem?_range (by omega)] at e1
 cases e1
 exact e2
theorem cell_plain {a : Addr} {v : Value} (h : w.cell? a = some v) : a.spot = none /\ a.block < w.heap.size := by
 unfold World.cell? at h
 split at h
 ·rename_i c x y hb
  split at h
  ·cases h
  ·rename_i hs
   refine ⟨?_, (Array.getElem?_eq_some_iff.1 hb).1⟩
   cases hq : a.spot with
   | none => rfl
   | some z => rw [hq] at hs; simp at hs
 ·cases h
theorem open_sh : ∀ (f : Nat) (t : TypeId) (sh : Sh), shT P f t = some sh -> ∀ (fuel : Nat) (cs : List Value) (x : DataW H × List MemPlace), DataW.trod enc P w 0 (fun _ => true) held fuel t cs = some x -> cs.length = sh.n ->
  ∃ xs, sh.Fit xs /\ RdC w xs cs
 | 0, t, sh, h => by simp [shT] at h
 | f + 1, t, sh, h => by
  intro fuel cs x hx hlen
  have hx0 := hx
  cases fuel with
  | zero => simp [DataW.trod] at hx
  | succ fuel =>
   unfold shT at h
   unfold DataW.trod at hx
   split at h <;> rename_i hu
   ·cases h
    rw [hu] at hx
    split at hx <;> simp_all
    rename_i b
    exact ⟨[.bool b], ⟨b, rfl⟩, RdC.one (.bool b) rfl⟩
   ·cases h
    rw [hu] at hx
    split at hx <;> simp_all
    rename_i k' n e
    subst e
    obtain ⟨⟨rfl, hw⟩, _⟩ := hx
    simp only [Lit.wf, Bool.and_eq_true, decide_eq_true_eq] at hw
    exact ⟨[.int k' n], ⟨n, rfl, hw⟩, RdC.one (.int k' n) rfl⟩
   ·cases h
    rw [hu] at hx
    split at hx <;> simp_all
    rename_i s
    exact ⟨[.str s], ⟨s, rfl, hx.1⟩, RdC.one (.str s) rfl⟩
   ·rename_i e
    cases he : shT P f e with
    | none => rw [he] at h; cases h
    | some s =>
     rw [he] at h
     simp only at h
     split at h
     ·rename_i hc
      cases h
      obtain ⟨hc1, hc2⟩ := hc
      rcases Go.Deep.open_slice hu hx0 with ⟨rfl, _⟩ | ⟨a, len, cap, m, n, Dd, Pl, rfl, _, hl, hm, hmm, _, hel⟩
      ·exact ⟨[.sl false s.n []], ⟨[], rfl, Nat.zero_le _, fun row hr => by cases hr⟩, RdC.one (.sl0 _ _) rfl⟩
      ·simp only [if_true] at hmm
       subst hmm
       by_cases h0 : m = 0
       ·subst h0
        have : len = 0 := by omega
        subst this
        exact ⟨[.sl false s.n []], ⟨[], rfl, Nat.zero_le _, fun row hr => by cases hr⟩, RdC.one (.slE _ _ a) rfl⟩
       ·have hread : ∀ i, i < m -> ∃ z : List D × List Value, w.cells? 0 (a.add (i * P.cellsOf e)) (P.cellsOf e) = some z.2 /\ s.Fit z.1 /\ RdC w z.1 z.2 := fun i hi => by
         obtain ⟨cs', c1, c2⟩ := hel i hi
         obtain ⟨xs, f1, f2⟩ := open_sh f e s he n cs' _ c2 (by rw [(cells?_spec c1).1, hc1])
         exact ⟨(xs, cs'), c1, f1, f2⟩
        obtain ⟨Z, hZ⟩ := Go.Deep.choose_lt (α := List D × List Value) hread
        obtain ⟨z1, z2, z3⟩ := hZ 0 (by omega)
        obtain ⟨y1, y2⟩ := cells?_spec z1
        have hcell0 : w.cell? (a.add (0 * P.cellsOf e)) = some ((Z 0).2[0]'(by rw [y1]; omega)) := by
         have := y2 0 ((Z 0).2[0]'(by rw [y1]; omega)) (by simp)
         simpa [Addr.add] using this
        rw [Nat.zero_mul] at hcell0
        have e0 : a.add 0 = a := rfl
        rw [e0] at hcell0
        obtain ⟨hsp, hblk⟩ := cell_plain hcell0
        obtain ⟨b, off, spot⟩ := a
        simp only at hsp hblk
        subst hsp
        have hadd : ∀ j, (⟨b, off, none⟩ : Addr).add j = ⟨b, off + j, none⟩ := fun j => by unfold Addr.add; split <;> simp_all
        have hadd2 : ∀ o j, (⟨b, o, none⟩ : Addr).add j = ⟨b, o + j, none⟩ := fun o j => by unfold Addr.add; split <;> simp_all
        have hrows : ∀ (i : Nat) (row : List D), ((List.range len).map fun i => (Z i).1)[i]? = some row -> i < len /\ row = (Z i).1 := fun i row hi => by
         have hlt := (List.getElem?_eq_some_iff.1 hi).1
         simp only [List.length_map, List.length_range] at hlt
         rw [List.getElem?_map, List.getElem?_range hlt] at hi
         exact ⟨hlt, by simpa using hi.symm⟩
        have key : ∀ (i : Nat) (row : List D) (j : Nat) (c : D), ((List.range len).map fun i => (Z i).1)[i]? = some row -> row[j]? = some c ->
          w.cell? ⟨b, off + i * s.n + j, none⟩ = some ((Z i).2.getD j undef) /\ ((Z i).2.getD j undef).oneCell' = true /\ Rd w (fun k => k < w.heap.size) c ((Z i).2.getD j undef) := fun i row j c hi hj => by
         obtain ⟨hlt, rfl⟩ := hrows i row hi
         obtain ⟨q1, q2, q3⟩ := hZ i (by omega)
         obtain ⟨r1, r2⟩ := cells?_spec q1
         have hj' := (List.getElem?_eq_some_iff.1 hj).1
         have hlen2 := q3.1
         have hv : (Z i).2[j]? = some ((Z i).2.getD j undef) := by
          rw [List.getD_eq_getElem?_getD, List.getElem?_eq_getElem (by omega)]; rfl
         have t1 := r2 j _ hv
         obtain ⟨t2, t3⟩ := q3.2 j c _ hj hv
         refine ⟨?_, t3, t2⟩
         rw [hadd, hadd2, <- hc1] at t1
         exact t1
        refine ⟨[.sl false s.n ((List.range len).map fun i => (Z i).1)], ⟨_, rfl, by simp only [List.length_map, List.length_range]; omega, fun row hr => ?_⟩, RdC.one ?_ rfl⟩
        ·obtain ⟨i, hi, rfl⟩ := List.mem_map.1 hr
         exact (hZ i (by have := List.mem_range.1 hi; omega)).2.1
        ·have := Rd.sl (w := w) (ok := fun k => k < w.heap.size) false s.n ((List.range len).map fun i => (Z i).1) b off m (fun i j => (Z i).2.getD j undef) hblk (by simpa using hl) hm (fun h => by cases h)
          (fun row hr => by
           obtain ⟨i, hi, rfl⟩ := List.mem_map.1 hr
           obtain ⟨q1, q2, q3⟩ := hZ i (by have := List.mem_range.1 hi; omega)
           rw [q3.1, (cells?_spec q1).1, hc1])
          (fun i row j c hi hj => (key i row j c hi hj).1) (fun i row j c hi hj => (key i row j c hi hj).2.1) (fun i row j c hi hj => (key i row j c hi hj).2.2)
         simpa using this
     ·cases h
   ·rename_i fs
    rw [hu] at hx
    cases hl : shF P (shT P f) (fs.toList.map fun x => (x.type, x.offset)) 0 with
    | none => rw [hl] at h; cases h
    | some l =>
     rw [hl] at h; cases h
     simp only at hx
     split at hx
     ·rename_i ys hq
      cases hys : (fs.toList.mapM fun f => DataW.trod enc P w 0 (fun _ => true) held fuel f.type ((cs.drop f.offset).take (P.cellsOf f.type))) with
      | none => rw [hys] at hx; cases hx
      | some ys =>
       have := open_parts (P := P) (w := w) (g := shT P f) (rd := fun t cs => DataW.trod enc P w 0 (fun _ => true) held fuel t cs) (cs := cs) (fun t s hs cs x hx hn => open_sh f t s hs fuel cs x hx hn) (l := fs.toList.map fun x => (x.type, x.offset)) (ys := ys) hl
        (by rw [List.mapM_map]; exact hys) (by simpa [Sh.n] using hlen.symm)
       rw [List.drop_zero] at this
       obtain ⟨xs, a1, a2⟩ := this
       exact ⟨xs, by unfold Sh.Fit; exact a1, a2⟩
     ·cases hx
   ·rename_i n e
    rw [hu] at hx
    cases hl : shF P (shT P f) ((List.range n).map fun i => (e, i * P.cellsOf e)) 0 with
    | none => rw [hl] at h; cases h
    | some l =>
     rw [hl] at h; cases h
     simp only at hx
     split at hx
     ·cases hys : ((List.range n).mapM fun i => DataW.trod enc P w 0 (fun _ => true) held fuel e ((cs.drop (i * P.cellsOf e)).take (P.cellsOf e))) with
      | none => rw [hys] at hx; cases hx
      | some ys =>
       have := open_parts (P := P) (w := w) (g := shT P f) (rd := fun t cs => DataW.trod enc P w 0 (fun _ => true) held fuel t cs) (cs := cs) (fun t s hs cs x hx hn => open_sh f t s hs fuel cs x hx hn) (l := (List.range n).map fun i => (e, i * P.cellsOf e)) (ys := ys) hl
        (by rw [List.mapM_map]; exact hys) (by simpa [Sh.n] using hlen.symm)
       rw [List.drop_zero] at this
       obtain ⟨xs, a1, a2⟩ := this
       exact ⟨xs, by unfold Sh.Fit; exact a1, a2⟩
     ·cases hx
   ·cases h
def Sh.isAgg : Sh -> Bool
 | .agg _ => true
 | _ => false
def Sh.arg : Sh -> List D -> D
 | .agg _, xs => .agg xs
 | _, xs => xs.headD .nilptr
theorem Rd.aggOf {xs : List D} {vs : Array Value} (h : RdC w xs vs.toList) : Rd w (fun k => k < w.heap.size) (.agg xs) (.agg vs) := by
 have hl : vs.size = xs.length := by rw [h.1]; simp
 refine .agg xs vs hl (fun i v hv => ?_) (fun i c v hc hv => (h.2 i c v hc (by simpa using hv)).1)
 have hlt := (Array.getElem?_eq_some_iff.1 hv).1
 have hx : xs[i]? = some (xs[i]'(by omega)) := List.getElem?_eq_getElem (by omega)
 exact (h.2 i _ v hx (by simpa using hv)).2
theorem open_arg {f : Nat} {t : TypeId} {sh : Sh} {v : Value} {d : DataW H} {p : List MemPlace} {r : Reach} {b : Nat} (hs : shT P f t = some sh) (hn : sh.n = P.cellsOf t) (hval : Value.okWide P w r b t v)
  (hd : DataW.Trod enc P w 0 (fun _ => true) held t v d p) : ∃ xs, sh.Fit xs /\ Rd w (fun k => k < w.heap.size) (sh.arg xs) v := by
 obtain ⟨fuel, hd⟩ := hd
 have one : ∀ {s : Sh}, s.isAgg = false -> s.n = 1 := fun {s} h => by cases s <;> first | rfl | cases h
 have fin : sh.isAgg = false -> v.cells.toList = [v] -> ∃ xs, sh.Fit xs /\ Rd w (fun k => k < w.heap.size) (sh.arg xs) v := fun ha hv => by
  rw [hv] at hd
  obtain ⟨xs, a1, a2⟩ := open_sh f t sh hs fuel [v] _ hd (by rw [one ha]; rfl)
  refine ⟨xs, a1, ?_⟩
  obtain ⟨l1, l2⟩ := a2
  match xs, l1 with
  | [x], _ =>
   have := (l2 0 x v rfl rfl).1
   cases sh <;> first | exact this | cases ha
 have fin2 : ∀ l, sh = .agg l -> (∃ cs, v = .agg cs /\ cs.size = P.cellsOf t) -> ∃ xs, sh.Fit xs /\ Rd w (fun k => k < w.heap.size) (sh.arg xs) v := fun l hl ⟨cs, hv, hc⟩ => by
  subst hl; subst hv
  obtain ⟨xs, a1, a2⟩ := open_sh f t _ hs fuel cs.toList _ hd (by simp only [Array.length_toList]; rw [hc, hn])
  exact ⟨xs, a1, Rd.aggOf a2⟩
 have hs0 := hs
 cases f with
 | zero => simp [shT] at hs
 | succ f =>
  unfold shT at hs
  split at hs <;> rename_i hu
  ·cases hs; obtain ⟨b, rfl⟩ := okWide_bool hu hval; exact fin rfl rfl
  ·cases hs; obtain ⟨n, rfl⟩ := okWide_int hu hval; exact fin rfl rfl
  ·cases hs; obtain ⟨n, rfl⟩ := okWide_string hu hval; exact fin rfl rfl
  ·rename_i e
   cases he : shT P f e with
   | none => rw [he] at hs; cases hs
   | some s =>
    rw [he] at hs
    simp only at hs
    split at hs
    ·cases hs; obtain ⟨a, len, cap, rfl⟩ := okWide_slice hu hval; exact fin rfl rfl
    ·cases hs
  ·rename_i fs
   cases hl : shF P (shT P f) (fs.toList.map fun x => (x.type, x.offset)) 0 with
   | none => rw [hl] at hs; cases hs
   | some l => rw [hl] at hs; cases hs; exact fin2 l rfl (okWide_struct hu hval)
  ·rename_i n e
   cases hl : shF P (shT P f) ((List.range n).map fun i => (e, i * P.cellsOf e)) 0 with
   | none => rw [hl] at hs; cases hs
   | some l =>
    rw [hl] at hs; cases hs
    refine fin2 l rfl ?_
    simp only [Value.okWide, hu] at hval
    obtain ⟨cs, h1, h2, _⟩ := hval
    exact ⟨cs, h1, h2⟩
  ·cases hs
def FitA : List Sh -> List D -> Prop
 | [], xs => xs = []
 | s :: r, xs => ∃ a q, xs = s.arg a :: q /\ s.Fit a /\ FitA r q
def shA (P : Program) (f : Nat) : List TypeId -> Option (List Sh)
 | [] => some []
 | t :: r => match shT P f t with
  | some s => if s.n = P.cellsOf t then match shA P f r with
   | some l => some (s :: l)
   | none => none
   else none
  | none => none
theorem open_args {f : Nat} {r : Reach} {b : Nat} : ∀ {ts : List TypeId} {shs : List Sh} {vs : List Value} {ds : List (DataW H)} {p : List MemPlace}, shA P f ts = some shs -> DataW.TrodAll enc P w 0 (fun _ => true) held ts vs ds p ->
  (∀ (j : Nat) t v, ts[j]? = some t -> vs[j]? = some v -> Value.okWide P w r b t v) -> ∃ xs : List D, FitA shs xs /\ vs.length = xs.length /\ ∀ (i : Nat) (x : D) (v : Value), xs[i]? = some x -> vs[i]? = some v -> Rd w (fun k => k < w.heap.size) x v
 | [], shs, vs, ds, p, h1, h2, _ => by
  simp only [shA, Option.some.injEq] at h1
  subst h1
  obtain ⟨rfl, _, _⟩ := trodAll_nil h2
  exact ⟨[], rfl, rfl, fun i x v h => by simp at h⟩
 | t :: ts, shs, vs, ds, p, h1, h2, h3 => by
  simp only [shA] at h1
  cases hs : shT P f t with
  | none => rw [hs] at h1; cases h1
  | some s =>
   rw [hs] at h1
   simp only at h1
   split at h1
   ·rename_i hn
    cases hl : shA P f ts with
    | none => rw [hl] at h1; cases h1
    | some l =>
     rw [hl] at h1
     simp only [Option.some.injEq] at h1
     subst h1
     obtain ⟨v, vs', d, ds', p', q', rfl, rfl, rfl, hd, hr⟩ := trodAll_cons h2
     obtain ⟨xs, a1, a2⟩ := open_arg hs hn (h3 0 t v rfl rfl) hd
     obtain ⟨ys, b1, b2, b3⟩ := open_args hl hr (fun j t v e1 e2 => h3 (j + 1) t v (by simpa using e1) (by simpa using e2))
     refine ⟨s.arg xs :: ys, ⟨xs, ys, rfl, a1, b1⟩, by simp [b2], fun i x u hx hu => ?_⟩
     match i, hx, hu with
     | 0, hx, hu => cases hx; cases hu; exact a2
     | i + 1, hx, hu => exact b3 i x u (by simpa using hx) (by simpa using hu)
   ·cases h1
theorem trodAll_below (hl : laidOutB P = true) {W' : World} (hb : Below w.heap.size w W') : ∀ {ts : List TypeId} {vs : List Value} {ds : List (DataW H)} {p : List MemPlace}, (ts.all fun t => P.readableRec t && decide (t < P.types.size)) = true ->
  DataW.TrodAll enc P w 0 (fun _ => true) true ts vs ds p -> (∀ x ∈ p, x.block < w.heap.size) -> DataW.TrodAll enc P W' 0 (fun b => decide (b < w.heap.size)) true ts vs ds p
 | [], vs, ds, p, _, h, _ => by
  obtain ⟨rfl, rfl, rfl⟩ := trodAll_nil h
  exact rfl
 | t :: ts, vs, ds, p, ht, h, hlt => by
  simp only [List.all_cons, Bool.and_eq_true, decide_eq_true_eq] at ht
  obtain ⟨v, vs', d, ds', p', q', rfl, rfl, rfl, hd, hr⟩ := trodAll_cons h
  refine ⟨p', q', Below.trod hl ht.1.1 ht.1.2 hd hb (fun x hx => hlt x (List.mem_append_left _ hx)), ?_, rfl⟩
  exact trodAll_below hl hb (by simpa using ht.2) hr (fun x hx => hlt x (List.mem_append_right _ hx))
theorem trodAll_below' (hl : laidOutB P = true) {W' : World} (hb : Below w.heap.size w W') : ∀ {ts : List TypeId} {vs : List Value} {ds : List (DataW H)} {p : List MemPlace}, (ts.all fun t => P.readableRec t && decide (t < P.types.size)) = true ->
  DataW.TrodAll enc P w 0 (fun _ => true) true ts vs ds p -> (∀ x ∈ p, x.block < w.heap.size) -> DataW.TrodAll enc P W' 0 (fun _ => true) true ts vs ds p
 | [], vs, ds, p, _, h, _ => by
  obtain ⟨rfl, rfl, rfl⟩ := trodAll_nil h
  exact rfl
 | t :: ts, vs, ds, p, ht, h, hlt => by
  simp only [List.all_cons, Bool.and_eq_true, decide_eq_true_eq] at ht
  obtain ⟨v, vs', d, ds', p', q', rfl, rfl, rfl, hd, hr⟩ := trodAll_cons h
  refine ⟨p', q', WideElems.Trod_stays hl ht.1.1 ht.1.2 hd (fun x hx => hb.same (hlt x (List.mem_append_left _ hx))) (fun x hx => rfl), ?_, rfl⟩
  exact trodAll_below' hl hb (by simpa using ht.2) hr (fun x hx => hlt x (List.mem_append_right _ hx))
theorem trodAll_len {base : Nat} {sp : Nat -> Bool} : ∀ {ts : List TypeId} {vs : List Value} {ds : List (DataW H)} {p : List MemPlace}, DataW.TrodAll enc P w base sp held ts vs ds p -> ds.length = ts.length
 | [], vs, ds, p, h => by
  obtain ⟨rfl, rfl, rfl⟩ := trodAll_nil h
  rfl
 | t :: ts, vs, ds, p, h => by
  obtain ⟨v, vs', d, ds', p', q', rfl, rfl, rfl, hd, hr⟩ := trodAll_cons h
  simp only [List.length_cons, trodAll_len hr]
theorem lifted {C : Checked} {os : Os} {f : FuncId} {fn : Func} {s : ChangeSpec} {apart fresh handsOn again : Bool} {tb : TypeId} {shs : List Sh} {fl : Nat}
  (own : ownKnob C.prog.godebug = none) (started : os.Started) (noInit : C.prog.inits.idxOf? f = none) (hfn : C.prog.funcs[f]? = some fn)
  (witness : ∃ (w : World) (tape : Tape) (i : Input), w.os = os /\ (w.forCall tape i).Shaped C.prog /\ i.vars = [] /\ Input.okWide C.prog (w.forCall tape i) .any w.heap.size f i /\
   s.pre6 enc C.prog fn [] apart (w.forCall tape i).memory i.args /\ ({} : Assume).holds C.prog (lone (Frame.enter C.prog f i.args .normal) [] (w.forCall tape i)))
  (hl : laidOutB C.prog = true) (hv : s.vars = []) (hres : fn.resultTypes = #[tb]) (htb : C.prog.underlying tb = some .bool)
  (hsp : ∀ ds : List (DataW H), ds.length = fn.params.toList.length -> s.fn H ds = { results := [.lit (.bool true)], args := ds })
  (hsh : shA C.prog fl fn.params.toList = some shs) (hrd : (fn.params.toList.all fun t => C.prog.readableRec t && decide (t < C.prog.types.size)) = true)
  (con : ∀ xs, FitA shs xs -> Con C.prog f xs (.d (.bool true)) []) :
  ReturnsInHanded {} C os f .any (s.pre6 enc C.prog fn [] apart) (s.post enc C.prog fn apart fresh handsOn again) := by
 refine returnsInHanded_of_change own started noInit hfn witness ?_
 intro W base args ds gs before hval hW hcnd _
 have hW' := hW
 have hlt : ∀ p ∈ before, p.block < W.heap.size := fun p hp => by simpa using hW.lt p hp
 obtain ⟨p, q, hA, hV, hpq, hfz, hnd⟩ := hW
 rw [hv] at hV
 obtain ⟨rfl, rfl⟩ := trodVars_none hV
 have hpq : before = p := by simpa using hpq
 subst hpq
 obtain ⟨xs, x1, x2, x3⟩ := open_args hsh hA (fun j t v e1 e2 => hval j t v (by simpa using e1) (by simpa using e2))
 have hlen : ds.length = fn.params.toList.length := trodAll_len hA
 have hcon := con xs x1
 refine (hcon.2 W (fun k => k < W.heap.size) args (fun k h => h) ⟨by simpa using x2, fun i x v e1 e2 => x3 i x v e1 (by simpa using e2)⟩).mono ?_
 rintro e W' ⟨v, ok', ν', rfl, hb, _, _, hv', _⟩
 have hvv : v = .bool true := (hv' (fun _ => none) 0).bool
 subst hvv
 refine ⟨_, rfl, ?_⟩
 have hfz' : ∀ b off, MemPlace.cell b off ∈ before -> W'.frozen? ⟨b, off, none⟩ = false := fun b off hp => by
  rw [hb.frozen (p := ⟨b, off, none⟩) (hlt _ hp)]; exact hfz b off hp
 have hok := ok_one (P := C.prog) (W' := W') hres rfl (okWide_bool_mk htb true)
 have e1 : (s.fn H (ds ++ [])).results = [.lit (.bool true)] := by rw [List.append_nil, hsp ds hlen]
 have e2 : (s.fn H (ds ++ [])).args = ds := by rw [List.append_nil, hsp ds hlen]
 have e3 : (s.fn H (ds ++ [])).vars = [] := by rw [List.append_nil, hsp ds hlen]
 have r1 : ∀ (b : Nat) (sp : Nat -> Bool) (hd : Bool), DataW.TrodAll enc C.prog W' b sp hd fn.resultTypes.toList ((Value.bool true).resultList fn.resultTypes.size) [.lit (.bool true)] [] := fun b sp hd => by
  rw [hres]
  exact trodAll_mk1 (shut_bool htb true)
 have hv2 : ∀ sp : Nat -> Bool, DataW.TrodVars enc C.prog W' sp s.vars (s.fn H (ds ++ [])).vars [] := fun sp => by rw [hv, e3]; exact rfl
 have a2 := trodAll_below' hl hb hrd hA hlt
 refine ⟨ds, [], before, [], before, [], hW', ?_, ?_, hv2 _, hb.frame _, fun _ => ⟨hok, [.lit (.bool true)] ++ ds, (s.fn H (ds ++ [])).vars, before, ⟨[] ++ before, [], ?_, hv2 _, by simp, hfz', hnd⟩, fun p hp _ => hp⟩⟩
 ·rw [e1]; exact r1 _ _ _
 ·rw [e2]; exact trodAll_below hl hb hrd hA hlt
 ·exact trodAll_append a2 (r1 _ _ _)
end
end Go.Proofs.Ytfilnnbfppokmaa.Aw
