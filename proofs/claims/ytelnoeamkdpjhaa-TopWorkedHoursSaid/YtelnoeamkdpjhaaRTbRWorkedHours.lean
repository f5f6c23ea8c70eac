/- TopWorkedHours returns true for every input, and leaves its arguments as they were: one hammer went by a plan that surely is right, as many hours as it has; the cloth is measured then within what it can be: this number is among Hours; the blows lie between those of as many hours. No condition. -/
import Derived.Test.YtelnoeamkdpjhaaM6
import Derived.Test.YtelnoeamkdpjhaaM7

namespace Go.Proofs.Ytelnoeamkdpjhaa
open Go Go.RowKit Go.ChangeAt Go.Proofs Aw
set_option maxRecDepth 100000

def shHams : Sh := .sl shU
theorem fit_Hams {xs : List D} (h : shHams.Fit xs) : ∃ l : List Int, shHams.arg xs = (sl_u8 false l).toD ∧ ∀ x ∈ l, u8ok x := by
  unfold shHams Sh.Fit at h
  obtain ⟨rc, rfl, lc, hc⟩ := h
  obtain ⟨l, rfl, hl⟩ := rows_of (fun row hr => fit_U (hc row hr))
  exact ⟨l, rfl, hl⟩
theorem topWorkedHours_con (xs : List D) (h : FitA [shFirYarn, shFirBeck, shHams] xs) : Con Try.prog 5 xs (.d (.bool true)) [] := by
  obtain ⟨a, q, rfl, ha, b, r, rfl, hb, c, s, rfl, hc, rfl⟩ := h
  obtain ⟨x, e1, hx⟩ := fit_FirYarn ha
  obtain ⟨y, e2, hy⟩ := fit_FirBeck hb
  obtain ⟨v, e3, hv⟩ := fit_Hams hc
  rw [e1, e2, e3]
  exact w_top_TopWorkedHours 2000000 x y v true (law_TopWorkedHours x y v hx hy hv)
theorem topWorkedHours_lifted (os : Os) (started : os.Started) (H : Type) (enc : TypeId × Value → H) :
    ReturnsInHanded {} Try.checked os 5 .any (Rows.topWorkedHoursSpec.pre6 enc Try.prog Try.f5 Rows.topWorkedHoursRow.domain false) (Rows.topWorkedHoursSpec.post enc Try.prog Try.f5 false true false false) :=
  lifted (C := Try.checked) (tb := 4) (fl := 8) (shs := [shFirYarn, shFirBeck, shHams]) Aw.Try.own started (by kernel_rfl) Try.func5
    (ChangeSpec.witness6 (enc := enc) (C := Try.checked) false ⟨#[], #[.agg #[.int .u8 0, .int .u8 0, .int .u8 0, .int .u8 0, .int .u8 0, .int .u8 0, .int .u8 0, .int .u8 0, .int .u8 0, .int .u8 0, .int .u8 0, .int .u8 0], .agg #[.int .u8 0, .int .u8 0, .int .u8 0, .int .u8 0, .slice none 0 0], .slice none 0 0], []⟩ 8 (by kernel_rfl) (by kernel_rfl) (by kernel_rfl) (by kernel_rfl))
    Aw.Try.laidOut rfl (by kernel_rfl) (by kernel_rfl) (fun ds hd => by match ds, hd with | [a, b, c], _ => rfl) (by kernel_rfl) (by kernel_rfl) topWorkedHours_con
theorem topWorkedHours_holds : Rows.TopWorkedHoursSaid :=
  OpenClaim.holds_of_wide 5 Try.f5 rfl rfl rfl rfl rfl rfl rfl ⟨rfl, rfl, rfl, rfl, rfl⟩ rfl rfl rfl rfl rfl (by kernel_rfl) Try.func5 (by kernel_rfl)
    (of_decide_eq_true (by kernel_rfl)) (by unfold Func.isWrapper; rw [if_neg (of_decide_eq_false (by kernel_rfl))]; exact ⟨rfl, rfl⟩)
    (fun os started H enc _ => topWorkedHours_lifted os started H enc)
#print axioms topWorkedHours_holds
end Go.Proofs.Ytelnoeamkdpjhaa
