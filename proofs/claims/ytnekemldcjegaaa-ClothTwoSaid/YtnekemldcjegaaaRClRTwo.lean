/- ClothTwo returns true for every input: a cloth that truly is two other ones sewn together, whatever was measured, possibly is so; known exactly it surely is, and with another seam it is not possibly. No condition. -/
import Derived.Test.YtnekemldcjegaaaM6

namespace Go.Proofs.Ytnekemldcjegaaa
open Go Go.RowKit Go.ChangeAt Go.Proofs Aw
set_option maxRecDepth 100000

theorem clothTwo_con (xs : List D) (h : FitA [shBolt, shBolt, shB4] xs) : Con Try.prog 14 xs (.d (.bool true)) [] := by
  obtain ⟨a, q, rfl, ha, b, r, rfl, hb, c, s, rfl, hc, rfl⟩ := h
  obtain ⟨x, e, hx⟩ := fit_bolt ha
  obtain ⟨y, e2, hy⟩ := fit_bolt hb
  obtain ⟨v, rfl, hv⟩ := fit_B4 hc
  rw [e, e2]
  exact w_law01_ClothTwo 2000000 ⟨⟨x.t0, x.t1, x.t2⟩, x.ms⟩ ⟨⟨y.t0, y.t1, y.t2⟩, y.ms⟩ v true (law_ClothTwo 2000000 (Nat.le_refl _) ⟨⟨x.t0, x.t1, x.t2⟩, x.ms⟩ ⟨⟨y.t0, y.t1, y.t2⟩, y.ms⟩ v hx hy hv)
theorem clothTwo_lifted (os : Os) (started : os.Started) (H : Type) (enc : TypeId × Value → H) :
    ReturnsInHanded {} Try.checked os 14 .any (Rows.clothTwoSpec.pre6 enc Try.prog Try.f14 Rows.clothTwoRow.domain false) (Rows.clothTwoSpec.post enc Try.prog Try.f14 false true false false) :=
  lifted (C := Try.checked) (tb := 4) (fl := 8) (shs := [shBolt, shBolt, shB4]) Aw.Try.own started (by kernel_rfl) Try.func14
    (ChangeSpec.witness6 (enc := enc) (C := Try.checked) false ⟨#[], #[.agg #[.int .u8 0, .int .u8 0, .int .u8 0, .int .u8 0, .int .u8 0, .int .u8 0, .int .u8 0, .int .u8 0, .int .u8 0, .int .u8 0, .int .u8 0, .int .u8 0, .slice none 0 0], .agg #[.int .u8 0, .int .u8 0, .int .u8 0, .int .u8 0, .int .u8 0, .int .u8 0, .int .u8 0, .int .u8 0, .int .u8 0, .int .u8 0, .int .u8 0, .int .u8 0, .slice none 0 0], .agg #[.int .u8 0, .int .u8 0, .int .u8 0, .int .u8 0]], []⟩ 8 (by kernel_rfl) (by kernel_rfl) (by kernel_rfl) (by kernel_rfl))
    Aw.Try.laidOut rfl (by kernel_rfl) (by kernel_rfl) (fun ds hd => by match ds, hd with | [a, b, c], _ => rfl) (by kernel_rfl) (by kernel_rfl) clothTwo_con
theorem clothTwo_holds : Rows.ClothTwoSaid :=
  OpenClaim.holds_of_wide 14 Try.f14 rfl rfl rfl rfl rfl rfl rfl ⟨rfl, rfl, rfl, rfl, rfl⟩ rfl rfl rfl rfl rfl (by kernel_rfl) Try.func14 (by kernel_rfl)
    (of_decide_eq_true (by kernel_rfl)) (by unfold Func.isWrapper; rw [if_neg (of_decide_eq_false (by kernel_rfl))]; exact ⟨rfl, rfl⟩)
    (fun os started H enc _ => clothTwo_lifted os started H enc)
#print axioms clothTwo_holds
end Go.Proofs.Ytnekemldcjegaaa
