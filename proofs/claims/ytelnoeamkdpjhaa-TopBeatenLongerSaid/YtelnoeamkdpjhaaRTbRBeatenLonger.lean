/- TopBeatenLonger returns true for every input, and leaves its arguments as they were: a cloth that is beaten for as long as hammers possibly last is no greater in any quantity than one that is beaten for as long as they surely last; after both times it is no greater than raw. No condition. -/
import Derived.Test.YtelnoeamkdpjhaaM6

namespace Go.Proofs.Ytelnoeamkdpjhaa
open Go Go.RowKit Go.ChangeAt Go.Proofs Aw
set_option maxRecDepth 100000

theorem topBeatenLonger_con (xs : List D) (h : FitA [shFirYarn, shFirBeck, shA2] xs) : Con Try.prog 4 xs (.d (.bool true)) [] := by
  obtain ⟨a, q, rfl, ha, b, r, rfl, hb, c, s, rfl, hc, rfl⟩ := h
  obtain ⟨x, e1, hx⟩ := fit_FirYarn ha
  obtain ⟨y, e2, hy⟩ := fit_FirBeck hb
  obtain ⟨v, e3, hv⟩ := fit_A2 hc
  subst e3
  rw [e1, e2]
  exact w_top_TopBeatenLonger 2000000 x y v true (law_TopBeatenLonger x y v hx hy hv)
theorem topBeatenLonger_lifted (os : Os) (started : os.Started) (H : Type) (enc : TypeId × Value → H) :
    ReturnsInHanded {} Try.checked os 4 .any (Rows.topBeatenLongerSpec.pre6 enc Try.prog Try.f4 Rows.topBeatenLongerRow.domain false) (Rows.topBeatenLongerSpec.post enc Try.prog Try.f4 false true false false) :=
  lifted (C := Try.checked) (tb := 4) (fl := 8) (shs := [shFirYarn, shFirBeck, shA2]) Aw.Try.own started (by kernel_rfl) Try.func4
    (ChangeSpec.witness6 (enc := enc) (C := Try.checked) false ⟨#[], #[.agg #[.int .u8 0, .int .u8 0, .int .u8 0, .int .u8 0, .int .u8 0, .int .u8 0, .int .u8 0, .int .u8 0, .int .u8 0, .int .u8 0, .int .u8 0, .int .u8 0], .agg #[.int .u8 0, .int .u8 0, .int .u8 0, .int .u8 0, .slice none 0 0], .agg #[.int .u8 0, .int .u8 0]], []⟩ 8 (by kernel_rfl) (by kernel_rfl) (by kernel_rfl) (by kernel_rfl))
    Aw.Try.laidOut rfl (by kernel_rfl) (by kernel_rfl) (fun ds hd => by match ds, hd with | [a, b, c], _ => rfl) (by kernel_rfl) (by kernel_rfl) topBeatenLonger_con
theorem topBeatenLonger_holds : Rows.TopBeatenLongerSaid :=
  OpenClaim.holds_of_wide 4 Try.f4 rfl rfl rfl rfl rfl rfl rfl ⟨rfl, rfl, rfl, rfl, rfl⟩ rfl rfl rfl rfl rfl (by kernel_rfl) Try.func4 (by kernel_rfl)
    (of_decide_eq_true (by kernel_rfl)) (by unfold Func.isWrapper; rw [if_neg (of_decide_eq_false (by kernel_rfl))]; exact ⟨rfl, rfl⟩)
    (fun os started H enc _ => topBeatenLonger_lifted os started H enc)
#print axioms topBeatenLonger_holds
end Go.Proofs.Ytelnoeamkdpjhaa
