/- TopWorkNarrow returns true for every input, and leaves its arguments as they were: a cloth surely is no wider than a limit after so many hours under one hammer; by the fewest hours in which so much work is done, and by the plan with the most work of these hours, it surely is no wider; with an hour less of these there is no such plan. No condition. -/
import Derived.Test.YtelnoeamkdpjhaaM6
import Derived.Test.YtelnoeamkdpjhaaM7

namespace Go.Proofs.Ytelnoeamkdpjhaa
open Go Go.RowKit Go.ChangeAt Go.Proofs Aw
set_option maxRecDepth 100000

theorem topWorkNarrow_con (xs : List D) (h : FitA [shFirYarn, shFirBeck, shU] xs) : Con Try.prog 3 xs (.d (.bool true)) [] := by
  obtain ⟨a, q, rfl, ha, b, r, rfl, hb, c, s, rfl, hc, rfl⟩ := h
  obtain ⟨x, e1, hx⟩ := fit_FirYarn ha
  obtain ⟨y, e2, hy⟩ := fit_FirBeck hb
  obtain ⟨v, rfl, hv⟩ := fit_U hc
  rw [e1, e2]
  exact w_top_TopWorkNarrow 2000000 x y v true (law_TopWorkNarrow x y v hx hy hv)
theorem topWorkNarrow_lifted (os : Os) (started : os.Started) (H : Type) (enc : TypeId × Value → H) :
    ReturnsInHanded {} Try.checked os 3 .any (Rows.topWorkNarrowSpec.pre6 enc Try.prog Try.f3 Rows.topWorkNarrowRow.domain false) (Rows.topWorkNarrowSpec.post enc Try.prog Try.f3 false true false false) :=
  lifted (C := Try.checked) (tb := 4) (fl := 8) (shs := [shFirYarn, shFirBeck, shU]) Aw.Try.own started (by kernel_rfl) Try.func3
    (ChangeSpec.witness6 (enc := enc) (C := Try.checked) false ⟨#[], #[.agg #[.int .u8 0, .int .u8 0, .int .u8 0, .int .u8 0, .int .u8 0, .int .u8 0, .int .u8 0, .int .u8 0, .int .u8 0, .int .u8 0, .int .u8 0, .int .u8 0], .agg #[.int .u8 0, .int .u8 0, .int .u8 0, .int .u8 0, .slice none 0 0], .int .u8 0], []⟩ 8 (by kernel_rfl) (by kernel_rfl) (by kernel_rfl) (by kernel_rfl))
    Aw.Try.laidOut rfl (by kernel_rfl) (by kernel_rfl) (fun ds hd => by match ds, hd with | [a, b, c], _ => rfl) (by kernel_rfl) (by kernel_rfl) topWorkNarrow_con
theorem topWorkNarrow_holds : Rows.TopWorkNarrowSaid :=
  OpenClaim.holds_of_wide 3 Try.f3 rfl rfl rfl rfl rfl rfl rfl ⟨rfl, rfl, rfl, rfl, rfl⟩ rfl rfl rfl rfl rfl (by kernel_rfl) Try.func3 (by kernel_rfl)
    (of_decide_eq_true (by kernel_rfl)) (by unfold Func.isWrapper; rw [if_neg (of_decide_eq_false (by kernel_rfl))]; exact ⟨rfl, rfl⟩)
    (fun os started H enc _ => topWorkNarrow_lifted os started H enc)
#print axioms topWorkNarrow_holds
end Go.Proofs.Ytelnoeamkdpjhaa
