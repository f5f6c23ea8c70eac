/- ClothTold returns true for every input: at the hour of Look no more truths than left are left, and for some reading just so many; at any other hour no fewer. No condition. -/
import Derived.Test.YtnekemldcjegaaaM6

namespace Go.Proofs.Ytnekemldcjegaaa
open Go Go.RowKit Go.ChangeAt Go.Proofs Aw
set_option maxRecDepth 100000

theorem clothTold_con (xs : List D) (h : FitA [shBolt, shA3] xs) : Con Try.prog 16 xs (.d (.bool true)) [] := by
  obtain ⟨a, q, rfl, ha, b, r, rfl, hb, rfl⟩ := h
  obtain ⟨x, e, hx⟩ := fit_bolt ha
  obtain ⟨v0, v1, v2, rfl, k0, k1, k2⟩ := fit_A3 hb
  rw [e]
  exact w_law01_ClothTold 2000000 ⟨⟨x.t0, x.t1, x.t2⟩, x.ms⟩ ⟨v0, v1, v2⟩ true (law_ClothTold 2000000 (Nat.le_refl _) ⟨⟨x.t0, x.t1, x.t2⟩, x.ms⟩ ⟨v0, v1, v2⟩ hx ⟨k0, k1, k2⟩)
theorem clothTold_lifted (os : Os) (started : os.Started) (H : Type) (enc : TypeId × Value → H) :
    ReturnsInHanded {} Try.checked os 16 .any (Rows.clothToldSpec.pre6 enc Try.prog Try.f16 Rows.clothToldRow.domain false) (Rows.clothToldSpec.post enc Try.prog Try.f16 false true false false) :=
  lifted (C := Try.checked) (tb := 4) (fl := 8) (shs := [shBolt, shA3]) Aw.Try.own started (by kernel_rfl) Try.func16
    (ChangeSpec.witness6 (enc := enc) (C := Try.checked) false ⟨#[], #[.agg #[.int .u8 0, .int .u8 0, .int .u8 0, .int .u8 0, .int .u8 0, .int .u8 0, .int .u8 0, .int .u8 0, .int .u8 0, .int .u8 0, .int .u8 0, .int .u8 0, .slice none 0 0], .agg #[.int .u8 0, .int .u8 0, .int .u8 0]], []⟩ 8 (by kernel_rfl) (by kernel_rfl) (by kernel_rfl) (by kernel_rfl))
    Aw.Try.laidOut rfl (by kernel_rfl) (by kernel_rfl) (fun ds hd => by match ds, hd with | [a, b], _ => rfl) (by kernel_rfl) (by kernel_rfl) clothTold_con
theorem clothTold_holds : Rows.ClothToldSaid :=
  OpenClaim.holds_of_wide 16 Try.f16 rfl rfl rfl rfl rfl rfl rfl ⟨rfl, rfl, rfl, rfl, rfl⟩ rfl rfl rfl rfl rfl (by kernel_rfl) Try.func16 (by kernel_rfl)
    (of_decide_eq_true (by kernel_rfl)) (by unfold Func.isWrapper; rw [if_neg (of_decide_eq_false (by kernel_rfl))]; exact ⟨rfl, rfl⟩)
    (fun os started H enc _ => clothTold_lifted os started H enc)
#print axioms clothTold_holds
end Go.Proofs.Ytnekemldcjegaaa
