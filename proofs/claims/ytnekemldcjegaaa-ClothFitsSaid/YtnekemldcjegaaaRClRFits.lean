/- ClothFits returns true for every input, and leaves its arguments as they were: whether a measuring is right, surely and possibly, is what the reference says. No condition. -/
import Derived.Test.YtnekemldcjegaaaM5

namespace Go.Proofs.Ytnekemldcjegaaa
open Go Go.RowKit Go.ChangeAt Go.Proofs Aw
set_option maxRecDepth 100000

theorem clothFits_con (xs : List D) (h : FitA [shCloth, shMeas] xs) : Con Try.prog 5 xs (.d (.bool true)) [] := by
  obtain ⟨a, q, rfl, ha, b, r, rfl, hb, rfl⟩ := h
  obtain ⟨ts, ms, e, hm⟩ := fit_cloth ha
  obtain ⟨m, rfl, hn⟩ := fit_meas hb
  rw [e]
  exact con_ClothFits ts ms m hm hn
theorem clothFits_lifted (os : Os) (started : os.Started) (H : Type) (enc : TypeId × Value → H) :
    ReturnsInHanded {} Try.checked os 5 .any (Rows.clothFitsSpec.pre6 enc Try.prog Try.f5 Rows.clothFitsRow.domain false) (Rows.clothFitsSpec.post enc Try.prog Try.f5 false true false false) :=
  lifted (C := Try.checked) (tb := 4) (fl := 8) (shs := [shCloth, shMeas]) Aw.Try.own started (by kernel_rfl) Try.func5
    (ChangeSpec.witness6 (enc := enc) (C := Try.checked) false ⟨#[], #[.agg #[.slice none 0 0, .slice none 0 0], .agg #[.int .i64 0, .int .i64 0, .int .i64 0, .int .i64 0]], []⟩ 8 (by kernel_rfl) (by kernel_rfl) (by kernel_rfl) (by kernel_rfl))
    Aw.Try.laidOut rfl (by kernel_rfl) (by kernel_rfl) (fun ds hd => by match ds, hd with | [a, b], _ => rfl) (by kernel_rfl) (by kernel_rfl) clothFits_con
theorem clothFits_holds : Rows.ClothFitsSaid :=
  OpenClaim.holds_of_wide 5 Try.f5 rfl rfl rfl rfl rfl rfl rfl ⟨rfl, rfl, rfl, rfl, rfl⟩ rfl rfl rfl rfl rfl (by kernel_rfl) Try.func5 (by kernel_rfl)
    (of_decide_eq_true (by kernel_rfl)) (by unfold Func.isWrapper; rw [if_neg (of_decide_eq_false (by kernel_rfl))]; exact ⟨rfl, rfl⟩)
    (fun os started H enc _ => clothFits_lifted os started H enc)
#print axioms clothFits_holds
end Go.Proofs.Ytnekemldcjegaaa
