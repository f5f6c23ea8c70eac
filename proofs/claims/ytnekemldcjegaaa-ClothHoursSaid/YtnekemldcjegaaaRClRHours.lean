/- ClothHours returns true for every input, and leaves its arguments as they were: for how many hours a cloth can have been fulled is what the reference says. No condition. -/
import Derived.Test.YtnekemldcjegaaaM6

namespace Go.Proofs.Ytnekemldcjegaaa
open Go Go.RowKit Go.ChangeAt Go.Proofs Aw
set_option maxRecDepth 100000

theorem clothHours_con (xs : List D) (h : FitA [shCloth, .sl shSpan] xs) : Con Try.prog 8 xs (.d (.bool true)) [] := by
  obtain ⟨a, q, rfl, ha, b, r, rfl, hb, rfl⟩ := h
  obtain ⟨ts, ms, e, hm⟩ := fit_cloth ha
  obtain ⟨now, rfl⟩ := fit_spans hb
  rw [e]
  exact con_ClothHours ts ms now hm
theorem clothHours_lifted (os : Os) (started : os.Started) (H : Type) (enc : TypeId × Value → H) :
    ReturnsInHanded {} Try.checked os 8 .any (Rows.clothHoursSpec.pre6 enc Try.prog Try.f8 Rows.clothHoursRow.domain false) (Rows.clothHoursSpec.post enc Try.prog Try.f8 false true false false) :=
  lifted (C := Try.checked) (tb := 4) (fl := 8) (shs := [shCloth, .sl shSpan]) Aw.Try.own started (by kernel_rfl) Try.func8
    (ChangeSpec.witness6 (enc := enc) (C := Try.checked) false ⟨#[], #[.agg #[.slice none 0 0, .slice none 0 0], .slice none 0 0], []⟩ 8 (by kernel_rfl) (by kernel_rfl) (by kernel_rfl) (by kernel_rfl))
    Aw.Try.laidOut rfl (by kernel_rfl) (by kernel_rfl) (fun ds hd => by match ds, hd with | [a, b], _ => rfl) (by kernel_rfl) (by kernel_rfl) clothHours_con
theorem clothHours_holds : Rows.ClothHoursSaid :=
  OpenClaim.holds_of_wide 8 Try.f8 rfl rfl rfl rfl rfl rfl rfl ⟨rfl, rfl, rfl, rfl, rfl⟩ rfl rfl rfl rfl rfl (by kernel_rfl) Try.func8 (by kernel_rfl)
    (of_decide_eq_true (by kernel_rfl)) (by unfold Func.isWrapper; rw [if_neg (of_decide_eq_false (by kernel_rfl))]; exact ⟨rfl, rfl⟩)
    (fun os started H enc _ => clothHours_lifted os started H enc)
#print axioms clothHours_holds
end Go.Proofs.Ytnekemldcjegaaa
