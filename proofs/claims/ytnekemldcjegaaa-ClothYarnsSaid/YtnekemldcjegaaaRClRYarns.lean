/- ClothYarns returns true for every input, and leaves its arguments as they were: of which yarns a cloth can be is what the reference says. No condition. -/
import Derived.Test.YtnekemldcjegaaaM6

namespace Go.Proofs.Ytnekemldcjegaaa
open Go Go.RowKit Go.ChangeAt Go.Proofs Aw
set_option maxRecDepth 100000

theorem clothYarns_con (xs : List D) (h : FitA [shCloth, .sl (.sl shSpan)] xs) : Con Try.prog 7 xs (.d (.bool true)) [] := by
  obtain ⟨a, q, rfl, ha, b, r, rfl, hb, rfl⟩ := h
  obtain ⟨ts, ms, e, hm⟩ := fit_cloth ha
  obtain ⟨ys, rfl⟩ := fit_yarns hb
  rw [e]
  exact con_ClothYarns ts ms ys hm
theorem clothYarns_lifted (os : Os) (started : os.Started) (H : Type) (enc : TypeId × Value → H) :
    ReturnsInHanded {} Try.checked os 7 .any (Rows.clothYarnsSpec.pre6 enc Try.prog Try.f7 Rows.clothYarnsRow.domain false) (Rows.clothYarnsSpec.post enc Try.prog Try.f7 false true false false) :=
  lifted (C := Try.checked) (tb := 4) (fl := 8) (shs := [shCloth, .sl (.sl shSpan)]) Aw.Try.own started (by kernel_rfl) Try.func7
    (ChangeSpec.witness6 (enc := enc) (C := Try.checked) false ⟨#[], #[.agg #[.slice none 0 0, .slice none 0 0], .slice none 0 0], []⟩ 8 (by kernel_rfl) (by kernel_rfl) (by kernel_rfl) (by kernel_rfl))
    Aw.Try.laidOut rfl (by kernel_rfl) (by kernel_rfl) (fun ds hd => by match ds, hd with | [a, b], _ => rfl) (by kernel_rfl) (by kernel_rfl) clothYarns_con
theorem clothYarns_holds : Rows.ClothYarnsSaid :=
  OpenClaim.holds_of_wide 7 Try.f7 rfl rfl rfl rfl rfl rfl rfl ⟨rfl, rfl, rfl, rfl, rfl⟩ rfl rfl rfl rfl rfl (by kernel_rfl) Try.func7 (by kernel_rfl)
    (of_decide_eq_true (by kernel_rfl)) (by unfold Func.isWrapper; rw [if_neg (of_decide_eq_false (by kernel_rfl))]; exact ⟨rfl, rfl⟩)
    (fun os started H enc _ => clothYarns_lifted os started H enc)
#print axioms clothYarns_holds
end Go.Proofs.Ytnekemldcjegaaa
