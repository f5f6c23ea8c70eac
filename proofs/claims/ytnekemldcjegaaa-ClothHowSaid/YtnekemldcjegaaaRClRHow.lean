/- ClothHow returns true for every input: the hour for which a cloth truly was beaten is among those of Hours, each of which is one at which At meets the spans; and it is of a yarn whose rates have its true ones. No condition. -/
import Derived.Test.YtnekemldcjegaaaM6

namespace Go.Proofs.Ytnekemldcjegaaa
open Go Go.RowKit Go.ChangeAt Go.Proofs Aw
set_option maxRecDepth 100000

theorem clothHow_con (xs : List D) (h : FitA [shBolt, shB4] xs) : Con Try.prog 12 xs (.d (.bool true)) [] := by
  obtain ⟨a, q, rfl, ha, b, r, rfl, hb, rfl⟩ := h
  obtain ⟨x, e, hx⟩ := fit_bolt ha
  obtain ⟨v, rfl, hv⟩ := fit_B4 hb
  rw [e]
  exact w_law01_ClothHow 2000000 ⟨⟨x.t0, x.t1, x.t2⟩, x.ms⟩ v true (law_ClothHow 2000000 (Nat.le_refl _) ⟨⟨x.t0, x.t1, x.t2⟩, x.ms⟩ v hx hv)
theorem clothHow_lifted (os : Os) (started : os.Started) (H : Type) (enc : TypeId × Value → H) :
    ReturnsInHanded {} Try.checked os 12 .any (Rows.clothHowSpec.pre6 enc Try.prog Try.f12 Rows.clothHowRow.domain false) (Rows.clothHowSpec.post enc Try.prog Try.f12 false true false false) :=
  lifted (C := Try.checked) (tb := 4) (fl := 8) (shs := [shBolt, shB4]) Aw.Try.own started (by kernel_rfl) Try.func12
    (ChangeSpec.witness6 (enc := enc) (C := Try.checked) false ⟨#[], #[.agg #[.int .u8 0, .int .u8 0, .int .u8 0, .int .u8 0, .int .u8 0, .int .u8 0, .int .u8 0, .int .u8 0, .int .u8 0, .int .u8 0, .int .u8 0, .int .u8 0, .slice none 0 0], .agg #[.int .u8 0, .int .u8 0, .int .u8 0, .int .u8 0]], []⟩ 8 (by kernel_rfl) (by kernel_rfl) (by kernel_rfl) (by kernel_rfl))
    Aw.Try.laidOut rfl (by kernel_rfl) (by kernel_rfl) (fun ds hd => by match ds, hd with | [a, b], _ => rfl) (by kernel_rfl) (by kernel_rfl) clothHow_con
theorem clothHow_holds : Rows.ClothHowSaid :=
  OpenClaim.holds_of_wide 12 Try.f12 rfl rfl rfl rfl rfl rfl rfl ⟨rfl, rfl, rfl, rfl, rfl⟩ rfl rfl rfl rfl rfl (by kernel_rfl) Try.func12 (by kernel_rfl)
    (of_decide_eq_true (by kernel_rfl)) (by unfold Func.isWrapper; rw [if_neg (of_decide_eq_false (by kernel_rfl))]; exact ⟨rfl, rfl⟩)
    (fun os started H enc _ => clothHow_lifted os started H enc)
#print axioms clothHow_holds
end Go.Proofs.Ytnekemldcjegaaa
