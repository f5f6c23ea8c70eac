/- TopWindowDry returns true for every input, and leaves its arguments as they were: a cloth that is hung in the hour after the first window surely is dry in time just if this is not after its Late; if it is not hung so late, a later window is no better. No condition. -/
import Derived.Test.YtgefdljjhmjdaaaM6

namespace Go.Proofs.Ytgefdljjhmjdaaa
open Go Go.RowKit Go.ChangeAt Go.Proofs Aw
set_option maxRecDepth 100000

theorem topWindowDry_con (xs : List D) (h : FitA [shElmMill, shElmSky, shA4] xs) : Con Try.prog 3 xs (.d (.bool true)) [] := by
  obtain ⟨a, q, rfl, ha, b, r, rfl, hb, c, s, rfl, hc, rfl⟩ := h
  obtain ⟨x, e1, hx, hf⟩ := fit_ElmMill ha
  obtain ⟨y, e2, hy⟩ := fit_ElmSky hb
  obtain ⟨v, rfl, hv⟩ := fit_A4 hc
  rw [e1, e2]
  exact w_top_TopWindowDry 2000000 x y v true (law_TopWindowDry x y v hx hf hy hv)
theorem topWindowDry_lifted (os : Os) (started : os.Started) (H : Type) (enc : TypeId × Value → H) :
    ReturnsInHanded {} Try.checked os 3 .any (Rows.topWindowDrySpec.pre6 enc Try.prog Try.f3 Rows.topWindowDryRow.domain false) (Rows.topWindowDrySpec.post enc Try.prog Try.f3 false true false false) :=
  lifted (C := Try.checked) (tb := 4) (fl := 8) (shs := [shElmMill, shElmSky, shA4]) Aw.Try.own started (by kernel_rfl) Try.func3
    (ChangeSpec.witness6 (enc := enc) (C := Try.checked) false ⟨#[], #[.agg #[.int .u8 0, .int .u8 0, .int .u8 0, .int .u8 0, .int .u8 0, .slice none 0 0], .agg #[.slice none 0 0], .agg #[.int .u8 0, .int .u8 0, .int .u8 0, .int .u8 0]], []⟩ 8 (by kernel_rfl) (by kernel_rfl) (by kernel_rfl) (by kernel_rfl))
    Aw.Try.laidOut rfl (by kernel_rfl) (by kernel_rfl) (fun ds hd => by match ds, hd with | [a, b, c], _ => rfl) (by kernel_rfl) (by kernel_rfl) topWindowDry_con
theorem topWindowDry_holds : Rows.TopWindowDrySaid :=
  OpenClaim.holds_of_wide 3 Try.f3 rfl rfl rfl rfl rfl rfl rfl ⟨rfl, rfl, rfl, rfl, rfl⟩ rfl rfl rfl rfl rfl (by kernel_rfl) Try.func3 (by kernel_rfl)
    (of_decide_eq_true (by kernel_rfl)) (by unfold Func.isWrapper; rw [if_neg (of_decide_eq_false (by kernel_rfl))]; exact ⟨rfl, rfl⟩)
    (fun os started H enc _ => topWindowDry_lifted os started H enc)
#print axioms topWindowDry_holds
end Go.Proofs.Ytgefdljjhmjdaaa
