/- ClothBelow returns true for every input, and leaves its arguments as they were: from which hours on a quantity is at most a limit is what the reference says. No condition. -/
import Derived.Test.YtnekemldcjegaaaM5

namespace Go.Proofs.Ytnekemldcjegaaa
open Go Go.RowKit Go.ChangeAt Go.Proofs Aw
set_option maxRecDepth 100000

theorem clothBelow_con (xs : List D) (h : FitA [shCloth, shI, shI] xs) : Con Try.prog 4 xs (.d (.bool true)) [] := by
  obtain ⟨a, q, rfl, ha, b, r, rfl, hb, c, r', rfl, hc, rfl⟩ := h
  obtain ⟨ts, ms, e, hm⟩ := fit_cloth ha
  obtain ⟨n, rfl, hn⟩ := fit_I hb
  obtain ⟨m, rfl, _⟩ := fit_I hc
  rw [e]
  exact con_ClothBelow ts ms n m hm hn
theorem clothBelow_lifted (os : Os) (started : os.Started) (H : Type) (enc : TypeId × Value → H) :
    ReturnsInHanded {} Try.checked os 4 .any (Rows.clothBelowSpec.pre6 enc Try.prog Try.f4 Rows.clothBelowRow.domain false) (Rows.clothBelowSpec.post enc Try.prog Try.f4 false true false false) :=
  lifted (C := Try.checked) (tb := 4) (fl := 8) (shs := [shCloth, shI, shI]) Aw.Try.own started (by kernel_rfl) Try.func4
    (ChangeSpec.witness6 (enc := enc) (C := Try.checked) false ⟨#[], #[.agg #[.slice none 0 0, .slice none 0 0], .int .i64 0, .int .i64 0], []⟩ 8 (by kernel_rfl) (by kernel_rfl) (by kernel_rfl) (by kernel_rfl))
    Aw.Try.laidOut rfl (by kernel_rfl) (by kernel_rfl) (fun ds hd => by match ds, hd with | [a, b, c], _ => rfl) (by kernel_rfl) (by kernel_rfl) clothBelow_con
theorem clothBelow_holds : Rows.ClothBelowSaid :=
  OpenClaim.holds_of_wide 4 Try.f4 rfl rfl rfl rfl rfl rfl rfl ⟨rfl, rfl, rfl, rfl, rfl⟩ rfl rfl rfl rfl rfl (by kernel_rfl) Try.func4 (by kernel_rfl)
    (of_decide_eq_true (by kernel_rfl)) (by unfold Func.isWrapper; rw [if_neg (of_decide_eq_false (by kernel_rfl))]; exact ⟨rfl, rfl⟩)
    (fun os started H enc _ => clothBelow_lifted os started H enc)
#print axioms clothBelow_holds
end Go.Proofs.Ytnekemldcjegaaa
