/- ClothBetween returns true for every input: whatever was truly so lies between the ends of At and Rates; the ends are those of truths, and no end becomes greater; Below names the first hours. No condition. -/
import Derived.Test.YtnekemldcjegaaaM6

namespace Go.Proofs.Ytnekemldcjegaaa
open Go Go.RowKit Go.ChangeAt Go.Proofs Aw
set_option maxRecDepth 100000

theorem clothBetween_con (xs : List D) (h : FitA [shBolt, shA2, .int .u16] xs) : Con Try.prog 9 xs (.d (.bool true)) [] := by
  obtain ⟨a, q, rfl, ha, b, r, rfl, hb, c, s, rfl, hc, rfl⟩ := h
  obtain ⟨x, e, hx⟩ := fit_bolt ha
  obtain ⟨v0, v1, rfl, k0, k1⟩ := fit_A2 hb
  unfold Sh.Fit at hc
  obtain ⟨l, rfl, l0, l1⟩ := hc
  rw [e]
  exact w_law01_ClothBetween 2000000 ⟨⟨x.t0, x.t1, x.t2⟩, x.ms⟩ ⟨v0, v1⟩ l true (law_ClothBetween 2000000 (Nat.le_refl _) ⟨⟨x.t0, x.t1, x.t2⟩, x.ms⟩ ⟨v0, v1⟩ l hx ⟨k0, k1⟩ ⟨l0, l1⟩)
theorem clothBetween_lifted (os : Os) (started : os.Started) (H : Type) (enc : TypeId × Value → H) :
    ReturnsInHanded {} Try.checked os 9 .any (Rows.clothBetweenSpec.pre6 enc Try.prog Try.f9 Rows.clothBetweenRow.domain false) (Rows.clothBetweenSpec.post enc Try.prog Try.f9 false true false false) :=
  lifted (C := Try.checked) (tb := 4) (fl := 8) (shs := [shBolt, shA2, .int .u16]) Aw.Try.own started (by kernel_rfl) Try.func9
    (ChangeSpec.witness6 (enc := enc) (C := Try.checked) false ⟨#[], #[.agg #[.int .u8 0, .int .u8 0, .int .u8 0, .int .u8 0, .int .u8 0, .int .u8 0, .int .u8 0, .int .u8 0, .int .u8 0, .int .u8 0, .int .u8 0, .int .u8 0, .slice none 0 0], .agg #[.int .u8 0, .int .u8 0], .int .u16 0], []⟩ 8 (by kernel_rfl) (by kernel_rfl) (by kernel_rfl) (by kernel_rfl))
    Aw.Try.laidOut rfl (by kernel_rfl) (by kernel_rfl) (fun ds hd => by match ds, hd with | [a, b, c], _ => rfl) (by kernel_rfl) (by kernel_rfl) clothBetween_con
theorem clothBetween_holds : Rows.ClothBetweenSaid :=
  OpenClaim.holds_of_wide 9 Try.f9 rfl rfl rfl rfl rfl rfl rfl ⟨rfl, rfl, rfl, rfl, rfl⟩ rfl rfl rfl rfl rfl (by kernel_rfl) Try.func9 (by kernel_rfl)
    (of_decide_eq_true (by kernel_rfl)) (by unfold Func.isWrapper; rw [if_neg (of_decide_eq_false (by kernel_rfl))]; exact ⟨rfl, rfl⟩)
    (fun os started H enc _ => clothBetween_lifted os started H enc)
#print axioms clothBetween_holds
end Go.Proofs.Ytnekemldcjegaaa
