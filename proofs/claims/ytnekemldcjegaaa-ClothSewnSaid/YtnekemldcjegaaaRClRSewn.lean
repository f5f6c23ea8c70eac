/- ClothSewn returns true for every input, and leaves its arguments as they were: whether a cloth is two other ones sewn together, or the error, is what the reference says. No condition. -/
import Derived.Test.YtnekemldcjegaaaM6

namespace Go.Proofs.Ytnekemldcjegaaa
open Go Go.RowKit Go.ChangeAt Go.Proofs Aw
set_option maxRecDepth 100000

def shCloths : Sh := .agg [shCloth, shCloth]
theorem fit_cloth0 {xs : List D} (h : shCloth.Fit xs) : ∃ c : api_Cloth, xs = [(slTrack false c.Tracks).toD, (slMeas false c.Measures).toD] ∧ ∀ m ∈ c.Measures, okI m.what := by
  obtain ⟨ts, ms, e, hm⟩ := fit_cloth h
  refine ⟨⟨ts, ms⟩, ?_, hm⟩
  have e' : D.agg xs = D.agg [(slTrack false ts).toD, (slMeas false ms).toD] := e
  injection e'
theorem fit_cloths {xs : List D} (h : shCloths.Fit xs) : ∃ p : A2_api_Cloth, shCloths.arg xs = .agg [(slTrack false p.a0.Tracks).toD, (slMeas false p.a0.Measures).toD, (slTrack false p.a1.Tracks).toD, (slMeas false p.a1.Measures).toD] ∧ (∀ m ∈ p.a0.Measures, okI m.what) ∧ ∀ m ∈ p.a1.Measures, okI m.what := by
  unfold shCloths Sh.Fit at h
  simp only [Sh.FitL] at h
  obtain ⟨a, b, rfl, ha, c, d, rfl, hc, rfl⟩ := h
  obtain ⟨x, rfl, hx⟩ := fit_cloth0 ha
  obtain ⟨y, rfl, hy⟩ := fit_cloth0 hc
  exact ⟨⟨x, y⟩, rfl, hx, hy⟩
theorem clothSewn_con (xs : List D) (h : FitA [shCloths, shCloth, shI] xs) : Con Try.prog 13 xs (.d (.bool true)) [] := by
  obtain ⟨a, q, rfl, ha, b, r, rfl, hb, c, s, rfl, hc, rfl⟩ := h
  obtain ⟨p, e, h0, h1⟩ := fit_cloths ha
  obtain ⟨ts, ms, e2, hm⟩ := fit_cloth hb
  obtain ⟨seam, rfl, hs⟩ := fit_I hc
  rw [e, e2]
  exact w_law01_ClothSewn 2000000 p ⟨ts, ms⟩ seam true (law_ClothSewn 2000000 (Nat.le_refl _) p ⟨ts, ms⟩ h0 h1 hm seam)
theorem clothSewn_lifted (os : Os) (started : os.Started) (H : Type) (enc : TypeId × Value → H) :
    ReturnsInHanded {} Try.checked os 13 .any (Rows.clothSewnSpec.pre6 enc Try.prog Try.f13 Rows.clothSewnRow.domain false) (Rows.clothSewnSpec.post enc Try.prog Try.f13 false true false false) :=
  lifted (C := Try.checked) (tb := 4) (fl := 8) (shs := [shCloths, shCloth, shI]) Aw.Try.own started (by kernel_rfl) Try.func13
    (ChangeSpec.witness6 (enc := enc) (C := Try.checked) false ⟨#[], #[.agg #[.slice none 0 0, .slice none 0 0, .slice none 0 0, .slice none 0 0], .agg #[.slice none 0 0, .slice none 0 0], .int .i64 0], []⟩ 8 (by kernel_rfl) (by kernel_rfl) (by kernel_rfl) (by kernel_rfl))
    Aw.Try.laidOut rfl (by kernel_rfl) (by kernel_rfl) (fun ds hd => by match ds, hd with | [a, b, c], _ => rfl) (by kernel_rfl) (by kernel_rfl) clothSewn_con
theorem clothSewn_holds : Rows.ClothSewnSaid :=
  OpenClaim.holds_of_wide 13 Try.f13 rfl rfl rfl rfl rfl rfl rfl ⟨rfl, rfl, rfl, rfl, rfl⟩ rfl rfl rfl rfl rfl (by kernel_rfl) Try.func13 (by kernel_rfl)
    (of_decide_eq_true (by kernel_rfl)) (by unfold Func.isWrapper; rw [if_neg (of_decide_eq_false (by kernel_rfl))]; exact ⟨rfl, rfl⟩)
    (fun os started H enc _ => clothSewn_lifted os started H enc)
#print axioms clothSewn_holds
end Go.Proofs.Ytnekemldcjegaaa
