/- ClothBad returns true for every input: no more measurings than those that were read wrong must be wrong; without those of Wrong there is a truth, with any one of them there is none. No condition. -/
import Derived.Test.YtnekemldcjegaaaM6

namespace Go.Proofs.Ytnekemldcjegaaa
open Go Go.RowKit Go.ChangeAt Go.Proofs Aw
set_option maxRecDepth 100000

def shLA2 : Sh := .sl shA2
theorem fit_LA2 {xs : List D} (h : shLA2.Fit xs) : ∃ l : List A2_u8, xs = [(sl_A2_u8 false l).toD] ∧ ∀ v ∈ l, (0 ≤ v.a0 ∧ v.a0 ≤ 255) ∧ 0 ≤ v.a1 ∧ v.a1 ≤ 255 := by
  unfold shLA2 Sh.Fit at h
  obtain ⟨ra, rfl, la, ha⟩ := h
  obtain ⟨l, rfl, hl⟩ := rows_of (g := fun v : A2_u8 => rowD 2 0 (fun j => (e_A2_u8 v j).toD)) (p := fun v => (0 ≤ v.a0 ∧ v.a0 ≤ 255) ∧ 0 ≤ v.a1 ∧ v.a1 ≤ 255) (fun row hr => by
    obtain ⟨a, b, rfl, h1, h2⟩ := fit_A2 (ha row hr)
    exact ⟨⟨a, b⟩, rfl, h1, h2⟩)
  exact ⟨l, rfl, hl⟩
theorem clothBad_con (xs : List D) (h : FitA [shBolt, shLA2] xs) : Con Try.prog 11 xs (.d (.bool true)) [] := by
  obtain ⟨a, q, rfl, ha, b, r, rfl, hb, rfl⟩ := h
  obtain ⟨x, e, hx⟩ := fit_bolt ha
  obtain ⟨l, rfl, hl⟩ := fit_LA2 hb
  rw [e]
  by_cases hn : boltM (toBolt ⟨⟨x.t0, x.t1, x.t2⟩, x.ms⟩) = []
  · exact w_law01_ClothBad0 2000000 ⟨⟨x.t0, x.t1, x.t2⟩, x.ms⟩ l true (law_ClothBad0 2000000 (Nat.le_refl _) ⟨⟨x.t0, x.t1, x.t2⟩, x.ms⟩ l hx hn)
  · exact w_law01_ClothBad1 2000000 ⟨⟨x.t0, x.t1, x.t2⟩, x.ms⟩ l true (law_ClothBad1 2000000 (Nat.le_refl _) ⟨⟨x.t0, x.t1, x.t2⟩, x.ms⟩ l hx hl hn)
theorem clothBad_lifted (os : Os) (started : os.Started) (H : Type) (enc : TypeId × Value → H) :
    ReturnsInHanded {} Try.checked os 11 .any (Rows.clothBadSpec.pre6 enc Try.prog Try.f11 Rows.clothBadRow.domain false) (Rows.clothBadSpec.post enc Try.prog Try.f11 false true false false) :=
  lifted (C := Try.checked) (tb := 4) (fl := 8) (shs := [shBolt, shLA2]) Aw.Try.own started (by kernel_rfl) Try.func11
    (ChangeSpec.witness6 (enc := enc) (C := Try.checked) false ⟨#[], #[.agg #[.int .u8 0, .int .u8 0, .int .u8 0, .int .u8 0, .int .u8 0, .int .u8 0, .int .u8 0, .int .u8 0, .int .u8 0, .int .u8 0, .int .u8 0, .int .u8 0, .slice none 0 0], .slice none 0 0], []⟩ 8 (by kernel_rfl) (by kernel_rfl) (by kernel_rfl) (by kernel_rfl))
    Aw.Try.laidOut rfl (by kernel_rfl) (by kernel_rfl) (fun ds hd => by match ds, hd with | [a, b], _ => rfl) (by kernel_rfl) (by kernel_rfl) clothBad_con
theorem clothBad_holds : Rows.ClothBadSaid :=
  OpenClaim.holds_of_wide 11 Try.f11 rfl rfl rfl rfl rfl rfl rfl ⟨rfl, rfl, rfl, rfl, rfl⟩ rfl rfl rfl rfl rfl (by kernel_rfl) Try.func11 (by kernel_rfl)
    (of_decide_eq_true (by kernel_rfl)) (by unfold Func.isWrapper; rw [if_neg (of_decide_eq_false (by kernel_rfl))]; exact ⟨rfl, rfl⟩)
    (fun os started H enc _ => clothBad_lifted os started H enc)
#print axioms clothBad_holds
end Go.Proofs.Ytnekemldcjegaaa
