/- ClothMore returns true for every input: with one right measuring more no span is wider, and the hours of Below are on no other side; one that surely fits changes nothing; with one that possibly does not fit there is no truth. No condition. -/
import Derived.Test.YtnekemldcjegaaaM6

namespace Go.Proofs.Ytnekemldcjegaaa
open Go Go.RowKit Go.ChangeAt Go.Proofs Aw
set_option maxRecDepth 100000

theorem clothMore_con (xs : List D) (h : FitA [shBolt, shB4, shA3] xs) : Con Try.prog 10 xs (.d (.bool true)) [] := by
  obtain ⟨a, q, rfl, ha, b, r, rfl, hb, c, s, rfl, hc, rfl⟩ := h
  obtain ⟨x, e, hx⟩ := fit_bolt ha
  obtain ⟨u, rfl, hu⟩ := fit_B4 hb
  obtain ⟨v0, v1, v2, rfl, k0, k1, k2⟩ := fit_A3 hc
  rw [e]
  have L := law_ClothMore 2000000 (Nat.le_refl _) ⟨⟨x.t0, x.t1, x.t2⟩, x.ms⟩ u ⟨v0, v1, v2⟩ hx hu ⟨k0, k1, k2⟩
  by_cases hn : boltM (toBolt ⟨⟨x.t0, x.t1, x.t2⟩, x.ms⟩) = []
  · exact w_law01_ClothMore0 2000000 ⟨⟨x.t0, x.t1, x.t2⟩, x.ms⟩ u ⟨v0, v1, v2⟩ true (L.1 hn)
  · exact w_law01_ClothMore1 2000000 ⟨⟨x.t0, x.t1, x.t2⟩, x.ms⟩ u ⟨v0, v1, v2⟩ true (L.2 (List.length_pos_iff.2 hn))
theorem clothMore_lifted (os : Os) (started : os.Started) (H : Type) (enc : TypeId × Value → H) :
    ReturnsInHanded {} Try.checked os 10 .any (Rows.clothMoreSpec.pre6 enc Try.prog Try.f10 Rows.clothMoreRow.domain false) (Rows.clothMoreSpec.post enc Try.prog Try.f10 false true false false) :=
  lifted (C := Try.checked) (tb := 4) (fl := 8) (shs := [shBolt, shB4, shA3]) Aw.Try.own started (by kernel_rfl) Try.func10
    (ChangeSpec.witness6 (enc := enc) (C := Try.checked) false ⟨#[], #[.agg #[.int .u8 0, .int .u8 0, .int .u8 0, .int .u8 0, .int .u8 0, .int .u8 0, .int .u8 0, .int .u8 0, .int .u8 0, .int .u8 0, .int .u8 0, .int .u8 0, .slice none 0 0], .agg #[.int .u8 0, .int .u8 0, .int .u8 0, .int .u8 0], .agg #[.int .u8 0, .int .u8 0, .int .u8 0]], []⟩ 8 (by kernel_rfl) (by kernel_rfl) (by kernel_rfl) (by kernel_rfl))
    Aw.Try.laidOut rfl (by kernel_rfl) (by kernel_rfl) (fun ds hd => by match ds, hd with | [a, b, c], _ => rfl) (by kernel_rfl) (by kernel_rfl) clothMore_con
theorem clothMore_holds : Rows.ClothMoreSaid :=
  OpenClaim.holds_of_wide 10 Try.f10 rfl rfl rfl rfl rfl rfl rfl ⟨rfl, rfl, rfl, rfl, rfl⟩ rfl rfl rfl rfl rfl (by kernel_rfl) Try.func10 (by kernel_rfl)
    (of_decide_eq_true (by kernel_rfl)) (by unfold Func.isWrapper; rw [if_neg (of_decide_eq_false (by kernel_rfl))]; exact ⟨rfl, rfl⟩)
    (fun os started H enc _ => clothMore_lifted os started H enc)
#print axioms clothMore_holds
end Go.Proofs.Ytnekemldcjegaaa
