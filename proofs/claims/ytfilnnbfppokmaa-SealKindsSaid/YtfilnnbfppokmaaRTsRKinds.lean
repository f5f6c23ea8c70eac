/- SealKinds returns true for every input, and leaves its arguments as they were: the error of any statute, and of which kinds any cloth is, or the error, are what the reference says, size by size. No condition. -/
import Derived.Test.YtfilnnbfppokmaaM5
import Derived.Test.YtfilnnbfppokmaaM6

namespace Go.Proofs.Ytfilnnbfppokmaa
open Go Go.RowKit Go.ChangeAt Go.Proofs Aw
set_option maxRecDepth 100000
theorem sealKinds_con (xs : List D) (h : FitA [shStat, shInts] xs) : Con Try.prog 3 xs (.d (.bool true)) [] := by
 obtain ⟨a, q, rfl, ha, b, r, rfl, hb, rfl⟩ := h
 obtain ⟨s, e1, hs⟩ := fit_Stat ha
 obtain ⟨l, e2⟩ := fit_Ints hb
 subst e2
 rw [e1]
 exact w_law07_SealKinds 2000000 s l true (law_SealKinds s l hs)
theorem sealKinds_lifted (os : Os) (started : os.Started) (H : Type) (enc : TypeId × Value -> H) :
  ReturnsInHanded {} Try.checked os 3 .any (Rows.sealKindsSpec.pre6 enc Try.prog Try.f3 Rows.sealKindsRow.domain false) (Rows.sealKindsSpec.post enc Try.prog Try.f3 false true false false) :=
 lifted (C := Try.checked) (tb := 4) (fl := 8) (shs := [shStat, shInts]) Aw.Try.own started (by kernel_rfl) Try.func3
  (ChangeSpec.witness6 (enc := enc) (C := Try.checked) false ⟨#[], #[.agg #[.slice none 0 0, .int .i64 0, .int .i64 0, .slice none 0 0], .slice none 0 0], []⟩ 8 (by kernel_rfl) (by kernel_rfl) (by kernel_rfl) (by kernel_rfl))
  Aw.Try.laidOut rfl (by kernel_rfl) (by kernel_rfl) (fun ds hd => by match ds, hd with | [a, b], _ => rfl) (by kernel_rfl) (by kernel_rfl) sealKinds_con
theorem sealKinds_holds : Rows.SealKindsSaid :=
 OpenClaim.holds_of_wide 3 Try.f3 rfl rfl rfl rfl rfl rfl rfl ⟨rfl, rfl, rfl, rfl, rfl⟩ rfl rfl rfl rfl rfl (by kernel_rfl) Try.func3 (by kernel_rfl)
  (of_decide_eq_true (by kernel_rfl)) (by unfold Func.isWrapper; rw [if_neg (of_decide_eq_false (by kernel_rfl))]; exact ⟨rfl, rfl⟩)
  (fun os started H enc _ => sealKinds_lifted os started H enc)
#print axioms sealKinds_holds
end Go.Proofs.Ytfilnnbfppokmaa
