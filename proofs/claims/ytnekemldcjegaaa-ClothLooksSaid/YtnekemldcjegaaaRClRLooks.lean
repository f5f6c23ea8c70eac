/- ClothLooks returns true for every input, and leaves the cloth as it was: at which hour it is best to measure, and how many truths are left then, or the error, is what the reference says. No condition. -/
import Derived.Test.YtnekemldcjegaaaM6

namespace Go.Proofs.Ytnekemldcjegaaa
open Go Go.RowKit Go.ChangeAt Go.Proofs Aw
set_option maxRecDepth 100000

theorem clothLooks_con (xs : List D) (h : FitA [shCloth, shI, shI] xs) : Con Try.prog 15 xs (.d (.bool true)) [] := by
  obtain ⟨a, q, rfl, ha, b, r, rfl, hb, c, s, rfl, hc, rfl⟩ := h
  obtain ⟨ts, ms, e, hm⟩ := fit_cloth ha
  obtain ⟨w, rfl, hw⟩ := fit_I hb
  obtain ⟨off, rfl, hf⟩ := fit_I hc
  rw [e]
  exact w_law01_ClothLooks 2000000 ⟨ts, ms⟩ w off true (law_ClothLooks 2000000 (Nat.le_refl _) ts ms hm w off)
theorem clothLooks_lifted (os : Os) (started : os.Started) (H : Type) (enc : TypeId × Value → H) :
    ReturnsInHanded {} Try.checked os 15 .any (Rows.clothLooksSpec.pre6 enc Try.prog Try.f15 Rows.clothLooksRow.domain false) (Rows.clothLooksSpec.post enc Try.prog Try.f15 false true false false) :=
  lifted (C := Try.checked) (tb := 4) (fl := 8) (shs := [shCloth, shI, shI]) Aw.Try.own started (by kernel_rfl) Try.func15
    (ChangeSpec.witness6 (enc := enc) (C := Try.checked) false ⟨#[], #[.agg #[.slice none 0 0, .slice none 0 0], .int .i64 0, .int .i64 0], []⟩ 8 (by kernel_rfl) (by kernel_rfl) (by kernel_rfl) (by kernel_rfl))
    Aw.Try.laidOut rfl (by kernel_rfl) (by kernel_rfl) (fun ds hd => by match ds, hd with | [a, b, c], _ => rfl) (by kernel_rfl) (by kernel_rfl) clothLooks_con
theorem clothLooks_holds : Rows.ClothLooksSaid :=
  OpenClaim.holds_of_wide 15 Try.f15 rfl rfl rfl rfl rfl rfl rfl ⟨rfl, rfl, rfl, rfl, rfl⟩ rfl rfl rfl rfl rfl (by kernel_rfl) Try.func15 (by kernel_rfl)
    (of_decide_eq_true (by kernel_rfl)) (by unfold Func.isWrapper; rw [if_neg (of_decide_eq_false (by kernel_rfl))]; exact ⟨rfl, rfl⟩)
    (fun os started H enc _ => clothLooks_lifted os started H enc)
#print axioms clothLooks_holds
end Go.Proofs.Ytnekemldcjegaaa
