/- ClothWrongs returns true for every input, and leaves its arguments as they were: the fewest measurings of a cloth that must be wrong are what the reference says. No condition. -/
import Derived.Test.YtnekemldcjegaaaM7

namespace Go.Proofs.Ytnekemldcjegaaa
open Go Go.RowKit Go.ChangeAt Go.Proofs Aw
set_option maxRecDepth 100000

theorem clothWrongs_con (xs : List D) (h : FitA [shCloth] xs) : Con Try.prog 6 xs (.d (.bool true)) [] := by
  obtain ⟨a, q, rfl, ha, rfl⟩ := h
  obtain ⟨ts, ms, e, hm⟩ := fit_cloth ha
  rw [e]
  exact con_ClothWrongs ts ms hm
theorem clothWrongs_lifted (os : Os) (started : os.Started) (H : Type) (enc : TypeId × Value → H) :
    ReturnsInHanded {} Try.checked os 6 .any (Rows.clothWrongsSpec.pre6 enc Try.prog Try.f6 Rows.clothWrongsRow.domain false) (Rows.clothWrongsSpec.post enc Try.prog Try.f6 false true false false) :=
  lifted (C := Try.checked) (tb := 4) (fl := 8) (shs := [shCloth]) Aw.Try.own started (by kernel_rfl) Try.func6
    (ChangeSpec.witness6 (enc := enc) (C := Try.checked) false ⟨#[], #[.agg #[.slice none 0 0, .slice none 0 0]], []⟩ 8 (by kernel_rfl) (by kernel_rfl) (by kernel_rfl) (by kernel_rfl))
    Aw.Try.laidOut rfl (by kernel_rfl) (by kernel_rfl) (fun ds hd => by match ds, hd with | [a], _ => rfl) (by kernel_rfl) (by kernel_rfl) clothWrongs_con
theorem clothWrongs_holds : Rows.ClothWrongsSaid :=
  OpenClaim.holds_of_wide 6 Try.f6 rfl rfl rfl rfl rfl rfl rfl ⟨rfl, rfl, rfl, rfl, rfl⟩ rfl rfl rfl rfl rfl (by kernel_rfl) Try.func6 (by kernel_rfl)
    (of_decide_eq_true (by kernel_rfl)) (by unfold Func.isWrapper; rw [if_neg (of_decide_eq_false (by kernel_rfl))]; exact ⟨rfl, rfl⟩)
    (fun os started H enc _ => clothWrongs_lifted os started H enc)
#print axioms clothWrongs_holds
end Go.Proofs.Ytnekemldcjegaaa
