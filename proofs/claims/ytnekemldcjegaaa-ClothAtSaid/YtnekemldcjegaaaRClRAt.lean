/- ClothAt returns true for every input, and leaves its arguments as they were: the error of a cloth, what its quantities can be at an hour, and its rates are what the reference says. No condition. -/
import Derived.Test.YtnekemldcjegaaaM5

namespace Go.Proofs.Ytnekemldcjegaaa
open Go Go.RowKit Go.ChangeAt Go.Proofs Aw
set_option maxRecDepth 100000

theorem clothAt_con (xs : List D) (h : FitA [shCloth, shI] xs) : Con Try.prog 3 xs (.d (.bool true)) [] := by
  obtain ⟨a, q, rfl, ha, b, r, rfl, hb, rfl⟩ := h
  obtain ⟨ts, ms, e, hm⟩ := fit_cloth ha
  obtain ⟨n, rfl, _⟩ := fit_I hb
  rw [e]
  exact con_ClothAt ts ms n hm
theorem clothAt_lifted (os : Os) (started : os.Started) (H : Type) (enc : TypeId × Value → H) :
    ReturnsInHanded {} Try.checked os 3 .any (Rows.clothAtSpec.pre6 enc Try.prog Try.f3 Rows.clothAtRow.domain false) (Rows.clothAtSpec.post enc Try.prog Try.f3 false true false false) :=
  lifted (C := Try.checked) (tb := 4) (fl := 6) (shs := [shCloth, shI]) Aw.Try.own started (by kernel_rfl) Try.func3
    (ChangeSpec.witness6 (enc := enc) (C := Try.checked) false ⟨#[], #[.agg #[.slice none 0 0, .slice none 0 0], .int .i64 0], []⟩ 8 (by kernel_rfl) (by kernel_rfl) (by kernel_rfl) (by kernel_rfl))
    Aw.Try.laidOut rfl (by kernel_rfl) (by kernel_rfl) (fun ds hd => by match ds, hd with | [a, b], _ => rfl) (by kernel_rfl) (by kernel_rfl) clothAt_con
theorem clothAt_holds : Rows.ClothAtSaid :=
  OpenClaim.holds_of_wide 3 Try.f3 rfl rfl rfl rfl rfl rfl rfl ⟨rfl, rfl, rfl, rfl, rfl⟩ rfl rfl rfl rfl rfl (by kernel_rfl) Try.func3 (by kernel_rfl)
    (of_decide_eq_true (by kernel_rfl)) (by unfold Func.isWrapper; rw [if_neg (of_decide_eq_false (by kernel_rfl))]; exact ⟨rfl, rfl⟩)
    (fun os started H enc _ => clothAt_lifted os started H enc)
#print axioms clothAt_holds
end Go.Proofs.Ytnekemldcjegaaa
