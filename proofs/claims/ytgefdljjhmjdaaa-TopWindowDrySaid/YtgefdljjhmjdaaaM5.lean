/- Part 5 of the proof: lemmas. -/
import Derived.Test.YtgefdljjhmjdaaaM4
import Derived.Test.YtgefdljjhmjdaaaProg
import Derived.KernelRfl
import Derived.Deep.Slices
import Derived.ProofKit

/- The types and functions of the seat's program, as a table. Printed by wip/gen/tab.py. -/
namespace Go.Proofs.Ytgefdljjhmjdaaa.Aw
open Go Go.RowKit Go.Proofs
set_option linter.unusedVariables false
def ti0 : TI := ⟨1, false, none, none, none, none, 0, .other, [], none, none, none⟩
theorem ok0 : TIOk Try.prog 0 ti0 := ⟨(by kernel_rfl), (by kernel_rfl), (fun r h => nomatch h), (fun r h => nomatch h), (fun r h => nomatch h), (fun r h => nomatch h), (by kernel_rfl), (fun h => nomatch h), (fun h => nomatch h), (fun k h => nomatch h), (fun f r h => nomatch h), (fun n h => nomatch h), (fun r h => nomatch h), (fun r h => nomatch h)⟩
def ti1 : TI := ⟨1, false, none, none, (some [.nilfn]), none, 8, .other, [], none, none, (some (.nilfn))⟩
theorem ok1 : TIOk Try.prog 1 ti1 := ⟨(by kernel_rfl), (by kernel_rfl), (fun r h => nomatch h), (fun r h => nomatch h), (fun r h => by cases h; kernel_rfl), (fun r h => nomatch h), (by kernel_rfl), (fun h => nomatch h), (fun h => nomatch h), (fun k h => nomatch h), (fun f r h => nomatch h), (fun n h => nomatch h), (fun r h => nomatch h), (fun r h => by cases h; kernel_rfl)⟩
def ti2 : TI := ⟨1, false, none, none, (some [.int .i64 0]), none, 8, (.int .i64), [], none, none, (some (.int .i64 0))⟩
theorem ok2 : TIOk Try.prog 2 ti2 := ⟨(by kernel_rfl), (by kernel_rfl), (fun r h => nomatch h), (fun r h => nomatch h), (fun r h => by cases h; kernel_rfl), (fun r h => nomatch h), (by kernel_rfl), (fun h => nomatch h), (fun h => nomatch h), (fun k h => by cases h; kernel_rfl), (fun f r h => nomatch h), (fun n h => nomatch h), (fun r h => nomatch h), (fun r h => by cases h; kernel_rfl)⟩
def ti3 : TI := ⟨1, false, none, none, (some [.int .i64 0]), none, 8, (.int .i64), [], none, none, (some (.int .i64 0))⟩
theorem ok3 : TIOk Try.prog 3 ti3 := ⟨(by kernel_rfl), (by kernel_rfl), (fun r h => nomatch h), (fun r h => nomatch h), (fun r h => by cases h; kernel_rfl), (fun r h => nomatch h), (by kernel_rfl), (fun h => nomatch h), (fun h => nomatch h), (fun k h => by cases h; kernel_rfl), (fun f r h => nomatch h), (fun n h => nomatch h), (fun r h => nomatch h), (fun r h => by cases h; kernel_rfl)⟩
def ti4 : TI := ⟨1, false, none, none, (some [.bool false]), none, 1, .bool, [], none, none, (some (.bool false))⟩
theorem ok4 : TIOk Try.prog 4 ti4 := ⟨(by kernel_rfl), (by kernel_rfl), (fun r h => nomatch h), (fun r h => nomatch h), (fun r h => by cases h; kernel_rfl), (fun r h => nomatch h), (by kernel_rfl), (fun _ => by kernel_rfl), (fun h => nomatch h), (fun k h => nomatch h), (fun f r h => nomatch h), (fun n h => nomatch h), (fun r h => nomatch h), (fun r h => by cases h; kernel_rfl)⟩
def ti5 : TI := ⟨1, false, none, none, (some [.int .u8 0]), none, 1, (.int .u8), [], none, none, (some (.int .u8 0))⟩
theorem ok5 : TIOk Try.prog 5 ti5 := ⟨(by kernel_rfl), (by kernel_rfl), (fun r h => nomatch h), (fun r h => nomatch h), (fun r h => by cases h; kernel_rfl), (fun r h => nomatch h), (by kernel_rfl), (fun h => nomatch h), (fun h => nomatch h), (fun k h => by cases h; kernel_rfl), (fun f r h => nomatch h), (fun n h => nomatch h), (fun r h => nomatch h), (fun r h => by cases h; kernel_rfl)⟩
def ti6 : TI := ⟨1, false, none, none, (some [.int .u8 0]), none, 1, (.int .u8), [], none, none, (some (.int .u8 0))⟩
theorem ok6 : TIOk Try.prog 6 ti6 := ⟨(by kernel_rfl), (by kernel_rfl), (fun r h => nomatch h), (fun r h => nomatch h), (fun r h => by cases h; kernel_rfl), (fun r h => nomatch h), (by kernel_rfl), (fun h => nomatch h), (fun h => nomatch h), (fun k h => by cases h; kernel_rfl), (fun f r h => nomatch h), (fun n h => nomatch h), (fun r h => nomatch h), (fun r h => by cases h; kernel_rfl)⟩
def ti7 : TI := ⟨4, true, none, none, (some [.int .i64 0, .int .i64 0, .bool false, .int .u8 0]), (some (.st [(0, 1), (1, 1), (2, 1), (3, 1)])), 24, .other, [(0, 1, 2), (1, 1, 3), (2, 1, 4), (3, 1, 6)], none, none, (some (.agg [.int .i64 0, .int .i64 0, .bool false, .int .u8 0]))⟩
theorem ok7 : TIOk Try.prog 7 ti7 := ⟨(by kernel_rfl), (by kernel_rfl), (fun r h => nomatch h), (fun r h => nomatch h), (fun r h => by cases h; kernel_rfl), (fun r h => by cases h; kernel_rfl), (by kernel_rfl), (fun h => nomatch h), (fun h => nomatch h), (fun k h => nomatch h), (fun f r h => match f, h with | 0, h => by cases h; kernel_rfl | 1, h => by cases h; kernel_rfl | 2, h => by cases h; kernel_rfl | 3, h => by cases h; kernel_rfl | (n + 4), h => by simp [ti7, nth] at h), (fun n h => nomatch h), (fun r h => nomatch h), (fun r h => by cases h; kernel_rfl)⟩
def ti8 : TI := ⟨4, true, none, none, (some [.int .i64 0, .int .i64 0, .bool false, .int .u8 0]), (some (.st [(0, 1), (1, 1), (2, 1), (3, 1)])), 24, .other, [(0, 1, 2), (1, 1, 3), (2, 1, 4), (3, 1, 6)], none, none, (some (.agg [.int .i64 0, .int .i64 0, .bool false, .int .u8 0]))⟩
theorem ok8 : TIOk Try.prog 8 ti8 := ⟨(by kernel_rfl), (by kernel_rfl), (fun r h => nomatch h), (fun r h => nomatch h), (fun r h => by cases h; kernel_rfl), (fun r h => by cases h; kernel_rfl), (by kernel_rfl), (fun h => nomatch h), (fun h => nomatch h), (fun k h => nomatch h), (fun f r h => match f, h with | 0, h => by cases h; kernel_rfl | 1, h => by cases h; kernel_rfl | 2, h => by cases h; kernel_rfl | 3, h => by cases h; kernel_rfl | (n + 4), h => by simp [ti8, nth] at h), (fun n h => nomatch h), (fun r h => nomatch h), (fun r h => by cases h; kernel_rfl)⟩
def ti9 : TI := ⟨1, false, none, none, (some [.str ⟨#[]⟩]), none, 16, .str, [], none, none, (some (.str ⟨#[]⟩))⟩
theorem ok9 : TIOk Try.prog 9 ti9 := ⟨(by kernel_rfl), (by kernel_rfl), (fun r h => nomatch h), (fun r h => nomatch h), (fun r h => by cases h; kernel_rfl), (fun r h => nomatch h), (by kernel_rfl), (fun h => nomatch h), (fun _ => by kernel_rfl), (fun k h => nomatch h), (fun f r h => nomatch h), (fun n h => nomatch h), (fun r h => nomatch h), (fun r h => by cases h; kernel_rfl)⟩
def ti10 : TI := ⟨1, false, none, none, (some [.str ⟨#[]⟩]), none, 16, .str, [], none, none, (some (.str ⟨#[]⟩))⟩
theorem ok10 : TIOk Try.prog 10 ti10 := ⟨(by kernel_rfl), (by kernel_rfl), (fun r h => nomatch h), (fun r h => nomatch h), (fun r h => by cases h; kernel_rfl), (fun r h => nomatch h), (by kernel_rfl), (fun h => nomatch h), (fun _ => by kernel_rfl), (fun k h => nomatch h), (fun f r h => nomatch h), (fun n h => nomatch h), (fun r h => nomatch h), (fun r h => by cases h; kernel_rfl)⟩
def ti11 : TI := ⟨1, false, none, none, (some [.str ⟨#[]⟩]), none, 16, .str, [], none, none, (some (.str ⟨#[]⟩))⟩
theorem ok11 : TIOk Try.prog 11 ti11 := ⟨(by kernel_rfl), (by kernel_rfl), (fun r h => nomatch h), (fun r h => nomatch h), (fun r h => by cases h; kernel_rfl), (fun r h => nomatch h), (by kernel_rfl), (fun h => nomatch h), (fun _ => by kernel_rfl), (fun k h => nomatch h), (fun f r h => nomatch h), (fun n h => nomatch h), (fun r h => nomatch h), (fun r h => by cases h; kernel_rfl)⟩
def ti12 : TI := ⟨1, false, none, none, (some [.int .u64 0]), none, 8, (.int .u64), [], none, none, (some (.int .u64 0))⟩
theorem ok12 : TIOk Try.prog 12 ti12 := ⟨(by kernel_rfl), (by kernel_rfl), (fun r h => nomatch h), (fun r h => nomatch h), (fun r h => by cases h; kernel_rfl), (fun r h => nomatch h), (by kernel_rfl), (fun h => nomatch h), (fun h => nomatch h), (fun k h => by cases h; kernel_rfl), (fun f r h => nomatch h), (fun n h => nomatch h), (fun r h => nomatch h), (fun r h => by cases h; kernel_rfl)⟩
def ti13 : TI := ⟨2, true, none, none, (some [.str ⟨#[]⟩, .int .u64 0]), (some (.st [(0, 1), (1, 1)])), 24, .other, [(0, 1, 9), (1, 1, 12)], none, none, (some (.agg [.str ⟨#[]⟩, .int .u64 0]))⟩
theorem ok13 : TIOk Try.prog 13 ti13 := ⟨(by kernel_rfl), (by kernel_rfl), (fun r h => nomatch h), (fun r h => nomatch h), (fun r h => by cases h; kernel_rfl), (fun r h => by cases h; kernel_rfl), (by kernel_rfl), (fun h => nomatch h), (fun h => nomatch h), (fun k h => nomatch h), (fun f r h => match f, h with | 0, h => by cases h; kernel_rfl | 1, h => by cases h; kernel_rfl | (n + 2), h => by simp [ti13, nth] at h), (fun n h => nomatch h), (fun r h => nomatch h), (fun r h => by cases h; kernel_rfl)⟩
def ti14 : TI := ⟨2, true, none, none, (some [.str ⟨#[]⟩, .int .u64 0]), (some (.st [(0, 1), (1, 1)])), 24, .other, [(0, 1, 9), (1, 1, 12)], none, none, (some (.agg [.str ⟨#[]⟩, .int .u64 0]))⟩
theorem ok14 : TIOk Try.prog 14 ti14 := ⟨(by kernel_rfl), (by kernel_rfl), (fun r h => nomatch h), (fun r h => nomatch h), (fun r h => by cases h; kernel_rfl), (fun r h => by cases h; kernel_rfl), (by kernel_rfl), (fun h => nomatch h), (fun h => nomatch h), (fun k h => nomatch h), (fun f r h => match f, h with | 0, h => by cases h; kernel_rfl | 1, h => by cases h; kernel_rfl | (n + 2), h => by simp [ti14, nth] at h), (fun n h => nomatch h), (fun r h => nomatch h), (fun r h => by cases h; kernel_rfl)⟩
def ti15 : TI := ⟨1, false, none, none, (some [.nilptr]), none, 8, .other, [], none, none, (some (.nilptr))⟩
theorem ok15 : TIOk Try.prog 15 ti15 := ⟨(by kernel_rfl), (by kernel_rfl), (fun r h => nomatch h), (fun r h => nomatch h), (fun r h => by cases h; kernel_rfl), (fun r h => nomatch h), (by kernel_rfl), (fun h => nomatch h), (fun h => nomatch h), (fun k h => nomatch h), (fun f r h => nomatch h), (fun n h => nomatch h), (fun r h => nomatch h), (fun r h => by cases h; kernel_rfl)⟩
def ti16 : TI := ⟨1, false, none, none, (some [.nilptr]), none, 8, .other, [], none, none, (some (.nilptr))⟩
theorem ok16 : TIOk Try.prog 16 ti16 := ⟨(by kernel_rfl), (by kernel_rfl), (fun r h => nomatch h), (fun r h => nomatch h), (fun r h => by cases h; kernel_rfl), (fun r h => nomatch h), (by kernel_rfl), (fun h => nomatch h), (fun h => nomatch h), (fun k h => nomatch h), (fun f r h => nomatch h), (fun n h => nomatch h), (fun r h => nomatch h), (fun r h => by cases h; kernel_rfl)⟩
def ti17 : TI := ⟨1, false, none, none, (some [.nilptr]), none, 8, .other, [], none, none, (some (.nilptr))⟩
theorem ok17 : TIOk Try.prog 17 ti17 := ⟨(by kernel_rfl), (by kernel_rfl), (fun r h => nomatch h), (fun r h => nomatch h), (fun r h => by cases h; kernel_rfl), (fun r h => nomatch h), (by kernel_rfl), (fun h => nomatch h), (fun h => nomatch h), (fun k h => nomatch h), (fun f r h => nomatch h), (fun n h => nomatch h), (fun r h => nomatch h), (fun r h => by cases h; kernel_rfl)⟩
def ti18 : TI := ⟨1, true, none, none, (some [.nilptr]), (some (.st [(0, 1)])), 8, .other, [(0, 1, 17)], none, none, (some (.agg [.nilptr]))⟩
theorem ok18 : TIOk Try.prog 18 ti18 := ⟨(by kernel_rfl), (by kernel_rfl), (fun r h => nomatch h), (fun r h => nomatch h), (fun r h => by cases h; kernel_rfl), (fun r h => by cases h; kernel_rfl), (by kernel_rfl), (fun h => nomatch h), (fun h => nomatch h), (fun k h => nomatch h), (fun f r h => match f, h with | 0, h => by cases h; kernel_rfl | (n + 1), h => by simp [ti18, nth] at h), (fun n h => nomatch h), (fun r h => nomatch h), (fun r h => by cases h; kernel_rfl)⟩
def ti19 : TI := ⟨1, true, none, none, (some [.nilptr]), (some (.st [(0, 1)])), 8, .other, [(0, 1, 17)], none, none, (some (.agg [.nilptr]))⟩
theorem ok19 : TIOk Try.prog 19 ti19 := ⟨(by kernel_rfl), (by kernel_rfl), (fun r h => nomatch h), (fun r h => nomatch h), (fun r h => by cases h; kernel_rfl), (fun r h => by cases h; kernel_rfl), (by kernel_rfl), (fun h => nomatch h), (fun h => nomatch h), (fun k h => nomatch h), (fun f r h => match f, h with | 0, h => by cases h; kernel_rfl | (n + 1), h => by simp [ti19, nth] at h), (fun n h => nomatch h), (fun r h => nomatch h), (fun r h => by cases h; kernel_rfl)⟩
def ti20 : TI := ⟨1, false, none, none, none, none, 16, .other, [], none, none, none⟩
theorem ok20 : TIOk Try.prog 20 ti20 := ⟨(by kernel_rfl), (by kernel_rfl), (fun r h => nomatch h), (fun r h => nomatch h), (fun r h => nomatch h), (fun r h => nomatch h), (by kernel_rfl), (fun h => nomatch h), (fun h => nomatch h), (fun k h => nomatch h), (fun f r h => nomatch h), (fun n h => nomatch h), (fun r h => nomatch h), (fun r h => nomatch h)⟩
def ti21 : TI := ⟨1, false, none, none, (some [.int .i32 0]), none, 4, (.int .i32), [], none, none, (some (.int .i32 0))⟩
theorem ok21 : TIOk Try.prog 21 ti21 := ⟨(by kernel_rfl), (by kernel_rfl), (fun r h => nomatch h), (fun r h => nomatch h), (fun r h => by cases h; kernel_rfl), (fun r h => nomatch h), (by kernel_rfl), (fun h => nomatch h), (fun h => nomatch h), (fun k h => by cases h; kernel_rfl), (fun f r h => nomatch h), (fun n h => nomatch h), (fun r h => nomatch h), (fun r h => by cases h; kernel_rfl)⟩
def ti22 : TI := ⟨5, true, none, (some (5, 5, 1)), (some [.int .u8 0, .int .u8 0, .int .u8 0, .int .u8 0, .int .u8 0]), (some (.ar 1)), 5, .other, [], none, none, (some (.agg [.int .u8 0, .int .u8 0, .int .u8 0, .int .u8 0, .int .u8 0]))⟩
theorem ok22 : TIOk Try.prog 22 ti22 := ⟨(by kernel_rfl), (by kernel_rfl), (fun r h => nomatch h), (fun r h => by cases h; kernel_rfl), (fun r h => by cases h; kernel_rfl), (fun r h => by cases h; kernel_rfl), (by kernel_rfl), (fun h => nomatch h), (fun h => nomatch h), (fun k h => nomatch h), (fun f r h => nomatch h), (fun n h => nomatch h), (fun r h => nomatch h), (fun r h => by cases h; kernel_rfl)⟩
def ti23 : TI := ⟨1, false, (some (76, 2)), none, (some [.nilsl]), none, 24, .other, [], none, none, (some (.nilsl))⟩
theorem ok23 : TIOk Try.prog 23 ti23 := ⟨(by kernel_rfl), (by kernel_rfl), (fun r h => by cases h; kernel_rfl), (fun r h => nomatch h), (fun r h => by cases h; kernel_rfl), (fun r h => nomatch h), (by kernel_rfl), (fun h => nomatch h), (fun h => nomatch h), (fun k h => nomatch h), (fun f r h => nomatch h), (fun n h => nomatch h), (fun r h => nomatch h), (fun r h => by cases h; kernel_rfl)⟩
def ti24 : TI := ⟨6, true, none, none, (some [.int .u8 0, .int .u8 0, .int .u8 0, .int .u8 0, .int .u8 0, .nilsl]), (some (.st [(0, 5), (5, 1)])), 32, .other, [(0, 5, 22), (5, 1, 23)], none, none, (some (.agg [.int .u8 0, .int .u8 0, .int .u8 0, .int .u8 0, .int .u8 0, .nilsl]))⟩
theorem ok24 : TIOk Try.prog 24 ti24 := ⟨(by kernel_rfl), (by kernel_rfl), (fun r h => nomatch h), (fun r h => nomatch h), (fun r h => by cases h; kernel_rfl), (fun r h => by cases h; kernel_rfl), (by kernel_rfl), (fun h => nomatch h), (fun h => nomatch h), (fun k h => nomatch h), (fun f r h => match f, h with | 0, h => by cases h; kernel_rfl | 1, h => by cases h; kernel_rfl | (n + 2), h => by simp [ti24, nth] at h), (fun n h => nomatch h), (fun r h => nomatch h), (fun r h => by cases h; kernel_rfl)⟩
def ti25 : TI := ⟨6, true, none, none, (some [.int .u8 0, .int .u8 0, .int .u8 0, .int .u8 0, .int .u8 0, .nilsl]), (some (.st [(0, 5), (5, 1)])), 32, .other, [(0, 5, 22), (5, 1, 23)], none, none, (some (.agg [.int .u8 0, .int .u8 0, .int .u8 0, .int .u8 0, .int .u8 0, .nilsl]))⟩
theorem ok25 : TIOk Try.prog 25 ti25 := ⟨(by kernel_rfl), (by kernel_rfl), (fun r h => nomatch h), (fun r h => nomatch h), (fun r h => by cases h; kernel_rfl), (fun r h => by cases h; kernel_rfl), (by kernel_rfl), (fun h => nomatch h), (fun h => nomatch h), (fun k h => nomatch h), (fun f r h => match f, h with | 0, h => by cases h; kernel_rfl | 1, h => by cases h; kernel_rfl | (n + 2), h => by simp [ti25, nth] at h), (fun n h => nomatch h), (fun r h => nomatch h), (fun r h => by cases h; kernel_rfl)⟩
def ti26 : TI := ⟨1, true, none, none, (some [.nilsl]), (some (.st [(0, 1)])), 24, .other, [(0, 1, 23)], none, none, (some (.agg [.nilsl]))⟩
theorem ok26 : TIOk Try.prog 26 ti26 := ⟨(by kernel_rfl), (by kernel_rfl), (fun r h => nomatch h), (fun r h => nomatch h), (fun r h => by cases h; kernel_rfl), (fun r h => by cases h; kernel_rfl), (by kernel_rfl), (fun h => nomatch h), (fun h => nomatch h), (fun k h => nomatch h), (fun f r h => match f, h with | 0, h => by cases h; kernel_rfl | (n + 1), h => by simp [ti26, nth] at h), (fun n h => nomatch h), (fun r h => nomatch h), (fun r h => by cases h; kernel_rfl)⟩
def ti27 : TI := ⟨1, true, none, none, (some [.nilsl]), (some (.st [(0, 1)])), 24, .other, [(0, 1, 23)], none, none, (some (.agg [.nilsl]))⟩
theorem ok27 : TIOk Try.prog 27 ti27 := ⟨(by kernel_rfl), (by kernel_rfl), (fun r h => nomatch h), (fun r h => nomatch h), (fun r h => by cases h; kernel_rfl), (fun r h => by cases h; kernel_rfl), (by kernel_rfl), (fun h => nomatch h), (fun h => nomatch h), (fun k h => nomatch h), (fun f r h => match f, h with | 0, h => by cases h; kernel_rfl | (n + 1), h => by simp [ti27, nth] at h), (fun n h => nomatch h), (fun r h => nomatch h), (fun r h => by cases h; kernel_rfl)⟩
def ti28 : TI := ⟨4, true, none, (some (4, 5, 1)), (some [.int .u8 0, .int .u8 0, .int .u8 0, .int .u8 0]), (some (.ar 1)), 4, .other, [], none, none, (some (.agg [.int .u8 0, .int .u8 0, .int .u8 0, .int .u8 0]))⟩
theorem ok28 : TIOk Try.prog 28 ti28 := ⟨(by kernel_rfl), (by kernel_rfl), (fun r h => nomatch h), (fun r h => by cases h; kernel_rfl), (fun r h => by cases h; kernel_rfl), (fun r h => by cases h; kernel_rfl), (by kernel_rfl), (fun h => nomatch h), (fun h => nomatch h), (fun k h => nomatch h), (fun f r h => nomatch h), (fun n h => nomatch h), (fun r h => nomatch h), (fun r h => by cases h; kernel_rfl)⟩
def ti29 : TI := ⟨2, true, none, none, (some [.int .i64 0, .int .i64 0]), (some (.st [(0, 1), (1, 1)])), 16, .other, [(0, 1, 3), (1, 1, 3)], (some 2), none, (some (.agg [.int .i64 0, .int .i64 0]))⟩
theorem ok29 : TIOk Try.prog 29 ti29 := ⟨(by kernel_rfl), (by kernel_rfl), (fun r h => nomatch h), (fun r h => nomatch h), (fun r h => by cases h; kernel_rfl), (fun r h => by cases h; kernel_rfl), (by kernel_rfl), (fun h => nomatch h), (fun h => nomatch h), (fun k h => nomatch h), (fun f r h => match f, h with | 0, h => by cases h; kernel_rfl | 1, h => by cases h; kernel_rfl | (n + 2), h => by simp [ti29, nth] at h), (fun n h => by cases h; exact ⟨by kernel_rfl, by kernel_rfl, by kernel_rfl⟩), (fun r h => nomatch h), (fun r h => by cases h; kernel_rfl)⟩
def ti30 : TI := ⟨2, true, none, none, (some [.int .i64 0, .int .i64 0]), (some (.st [(0, 1), (1, 1)])), 16, .other, [(0, 1, 3), (1, 1, 3)], (some 2), none, (some (.agg [.int .i64 0, .int .i64 0]))⟩
theorem ok30 : TIOk Try.prog 30 ti30 := ⟨(by kernel_rfl), (by kernel_rfl), (fun r h => nomatch h), (fun r h => nomatch h), (fun r h => by cases h; kernel_rfl), (fun r h => by cases h; kernel_rfl), (by kernel_rfl), (fun h => nomatch h), (fun h => nomatch h), (fun k h => nomatch h), (fun f r h => match f, h with | 0, h => by cases h; kernel_rfl | 1, h => by cases h; kernel_rfl | (n + 2), h => by simp [ti30, nth] at h), (fun n h => by cases h; exact ⟨by kernel_rfl, by kernel_rfl, by kernel_rfl⟩), (fun r h => nomatch h), (fun r h => by cases h; kernel_rfl)⟩
def ti31 : TI := ⟨7, true, none, none, (some [.int .i64 0, .int .i64 0, .int .i64 0, .int .i64 0, .int .i64 0, .int .i64 0, .int .i64 0]), (some (.st [(0, 1), (1, 1), (2, 2), (4, 1), (5, 2)])), 56, .other, [(0, 1, 3), (1, 1, 3), (2, 2, 30), (4, 1, 3), (5, 2, 30)], (some 7), none, (some (.agg [.int .i64 0, .int .i64 0, .int .i64 0, .int .i64 0, .int .i64 0, .int .i64 0, .int .i64 0]))⟩
theorem ok31 : TIOk Try.prog 31 ti31 := ⟨(by kernel_rfl), (by kernel_rfl), (fun r h => nomatch h), (fun r h => nomatch h), (fun r h => by cases h; kernel_rfl), (fun r h => by cases h; kernel_rfl), (by kernel_rfl), (fun h => nomatch h), (fun h => nomatch h), (fun k h => nomatch h), (fun f r h => match f, h with | 0, h => by cases h; kernel_rfl | 1, h => by cases h; kernel_rfl | 2, h => by cases h; kernel_rfl | 3, h => by cases h; kernel_rfl | 4, h => by cases h; kernel_rfl | (n + 5), h => by simp [ti31, nth] at h), (fun n h => by cases h; exact ⟨by kernel_rfl, by kernel_rfl, by kernel_rfl⟩), (fun r h => nomatch h), (fun r h => by cases h; kernel_rfl)⟩
def ti32 : TI := ⟨7, true, none, none, (some [.int .i64 0, .int .i64 0, .int .i64 0, .int .i64 0, .int .i64 0, .int .i64 0, .int .i64 0]), (some (.st [(0, 1), (1, 1), (2, 2), (4, 1), (5, 2)])), 56, .other, [(0, 1, 3), (1, 1, 3), (2, 2, 30), (4, 1, 3), (5, 2, 30)], (some 7), none, (some (.agg [.int .i64 0, .int .i64 0, .int .i64 0, .int .i64 0, .int .i64 0, .int .i64 0, .int .i64 0]))⟩
theorem ok32 : TIOk Try.prog 32 ti32 := ⟨(by kernel_rfl), (by kernel_rfl), (fun r h => nomatch h), (fun r h => nomatch h), (fun r h => by cases h; kernel_rfl), (fun r h => by cases h; kernel_rfl), (by kernel_rfl), (fun h => nomatch h), (fun h => nomatch h), (fun k h => nomatch h), (fun f r h => match f, h with | 0, h => by cases h; kernel_rfl | 1, h => by cases h; kernel_rfl | 2, h => by cases h; kernel_rfl | 3, h => by cases h; kernel_rfl | 4, h => by cases h; kernel_rfl | (n + 5), h => by simp [ti32, nth] at h), (fun n h => by cases h; exact ⟨by kernel_rfl, by kernel_rfl, by kernel_rfl⟩), (fun r h => nomatch h), (fun r h => by cases h; kernel_rfl)⟩
def ti33 : TI := ⟨1, false, (some (30, 2)), none, (some [.nilsl]), none, 24, .other, [], none, none, (some (.nilsl))⟩
theorem ok33 : TIOk Try.prog 33 ti33 := ⟨(by kernel_rfl), (by kernel_rfl), (fun r h => by cases h; kernel_rfl), (fun r h => nomatch h), (fun r h => by cases h; kernel_rfl), (fun r h => nomatch h), (by kernel_rfl), (fun h => nomatch h), (fun h => nomatch h), (fun k h => nomatch h), (fun f r h => nomatch h), (fun n h => nomatch h), (fun r h => nomatch h), (fun r h => by cases h; kernel_rfl)⟩
def ti34 : TI := ⟨1, false, none, none, none, none, 0, .other, [], none, none, none⟩
theorem ok34 : TIOk Try.prog 34 ti34 := ⟨(by kernel_rfl), (by kernel_rfl), (fun r h => nomatch h), (fun r h => nomatch h), (fun r h => nomatch h), (fun r h => nomatch h), (by kernel_rfl), (fun h => nomatch h), (fun h => nomatch h), (fun k h => nomatch h), (fun f r h => nomatch h), (fun n h => nomatch h), (fun r h => nomatch h), (fun r h => nomatch h)⟩
def ti35 : TI := ⟨1, false, none, none, (some [.nilfn]), none, 8, .other, [], none, none, (some (.nilfn))⟩
theorem ok35 : TIOk Try.prog 35 ti35 := ⟨(by kernel_rfl), (by kernel_rfl), (fun r h => nomatch h), (fun r h => nomatch h), (fun r h => by cases h; kernel_rfl), (fun r h => nomatch h), (by kernel_rfl), (fun h => nomatch h), (fun h => nomatch h), (fun k h => nomatch h), (fun f r h => nomatch h), (fun n h => nomatch h), (fun r h => nomatch h), (fun r h => by cases h; kernel_rfl)⟩
def ti36 : TI := ⟨1, false, none, none, (some [.nilfn]), none, 8, .other, [], none, none, (some (.nilfn))⟩
theorem ok36 : TIOk Try.prog 36 ti36 := ⟨(by kernel_rfl), (by kernel_rfl), (fun r h => nomatch h), (fun r h => nomatch h), (fun r h => by cases h; kernel_rfl), (fun r h => nomatch h), (by kernel_rfl), (fun h => nomatch h), (fun h => nomatch h), (fun k h => nomatch h), (fun f r h => nomatch h), (fun n h => nomatch h), (fun r h => nomatch h), (fun r h => by cases h; kernel_rfl)⟩
def ti37 : TI := ⟨1, false, none, none, (some [.nilfn]), none, 8, .other, [], none, none, (some (.nilfn))⟩
theorem ok37 : TIOk Try.prog 37 ti37 := ⟨(by kernel_rfl), (by kernel_rfl), (fun r h => nomatch h), (fun r h => nomatch h), (fun r h => by cases h; kernel_rfl), (fun r h => nomatch h), (by kernel_rfl), (fun h => nomatch h), (fun h => nomatch h), (fun k h => nomatch h), (fun f r h => nomatch h), (fun n h => nomatch h), (fun r h => nomatch h), (fun r h => by cases h; kernel_rfl)⟩
def ti38 : TI := ⟨4, true, none, none, (some [.int .i64 0, .int .i64 0, .int .i64 0, .int .i64 0]), (some (.st [(0, 2), (2, 2)])), 32, .other, [(0, 2, 30), (2, 2, 30)], (some 4), none, (some (.agg [.int .i64 0, .int .i64 0, .int .i64 0, .int .i64 0]))⟩
theorem ok38 : TIOk Try.prog 38 ti38 := ⟨(by kernel_rfl), (by kernel_rfl), (fun r h => nomatch h), (fun r h => nomatch h), (fun r h => by cases h; kernel_rfl), (fun r h => by cases h; kernel_rfl), (by kernel_rfl), (fun h => nomatch h), (fun h => nomatch h), (fun k h => nomatch h), (fun f r h => match f, h with | 0, h => by cases h; kernel_rfl | 1, h => by cases h; kernel_rfl | (n + 2), h => by simp [ti38, nth] at h), (fun n h => by cases h; exact ⟨by kernel_rfl, by kernel_rfl, by kernel_rfl⟩), (fun r h => nomatch h), (fun r h => by cases h; kernel_rfl)⟩
def ti39 : TI := ⟨4, true, none, none, (some [.int .i64 0, .int .i64 0, .int .i64 0, .int .i64 0]), (some (.st [(0, 2), (2, 2)])), 32, .other, [(0, 2, 30), (2, 2, 30)], (some 4), none, (some (.agg [.int .i64 0, .int .i64 0, .int .i64 0, .int .i64 0]))⟩
theorem ok39 : TIOk Try.prog 39 ti39 := ⟨(by kernel_rfl), (by kernel_rfl), (fun r h => nomatch h), (fun r h => nomatch h), (fun r h => by cases h; kernel_rfl), (fun r h => by cases h; kernel_rfl), (by kernel_rfl), (fun h => nomatch h), (fun h => nomatch h), (fun k h => nomatch h), (fun f r h => match f, h with | 0, h => by cases h; kernel_rfl | 1, h => by cases h; kernel_rfl | (n + 2), h => by simp [ti39, nth] at h), (fun n h => by cases h; exact ⟨by kernel_rfl, by kernel_rfl, by kernel_rfl⟩), (fun r h => nomatch h), (fun r h => by cases h; kernel_rfl)⟩
def ti40 : TI := ⟨1, false, (some (39, 4)), none, (some [.nilsl]), none, 24, .other, [], none, none, (some (.nilsl))⟩
theorem ok40 : TIOk Try.prog 40 ti40 := ⟨(by kernel_rfl), (by kernel_rfl), (fun r h => by cases h; kernel_rfl), (fun r h => nomatch h), (fun r h => by cases h; kernel_rfl), (fun r h => nomatch h), (by kernel_rfl), (fun h => nomatch h), (fun h => nomatch h), (fun k h => nomatch h), (fun f r h => nomatch h), (fun n h => nomatch h), (fun r h => nomatch h), (fun r h => by cases h; kernel_rfl)⟩
def ti41 : TI := ⟨1, false, (some (3, 1)), none, (some [.nilsl]), none, 24, .other, [], none, none, (some (.nilsl))⟩
theorem ok41 : TIOk Try.prog 41 ti41 := ⟨(by kernel_rfl), (by kernel_rfl), (fun r h => by cases h; kernel_rfl), (fun r h => nomatch h), (fun r h => by cases h; kernel_rfl), (fun r h => nomatch h), (by kernel_rfl), (fun h => nomatch h), (fun h => nomatch h), (fun k h => nomatch h), (fun f r h => nomatch h), (fun n h => nomatch h), (fun r h => nomatch h), (fun r h => by cases h; kernel_rfl)⟩
def ti42 : TI := ⟨4, true, none, none, (some [.nilsl, .nilsl, .int .i64 0, .int .i64 0]), (some (.st [(0, 1), (1, 1), (2, 1), (3, 1)])), 64, .other, [(0, 1, 40), (1, 1, 41), (2, 1, 3), (3, 1, 3)], none, none, (some (.agg [.nilsl, .nilsl, .int .i64 0, .int .i64 0]))⟩
theorem ok42 : TIOk Try.prog 42 ti42 := ⟨(by kernel_rfl), (by kernel_rfl), (fun r h => nomatch h), (fun r h => nomatch h), (fun r h => by cases h; kernel_rfl), (fun r h => by cases h; kernel_rfl), (by kernel_rfl), (fun h => nomatch h), (fun h => nomatch h), (fun k h => nomatch h), (fun f r h => match f, h with | 0, h => by cases h; kernel_rfl | 1, h => by cases h; kernel_rfl | 2, h => by cases h; kernel_rfl | 3, h => by cases h; kernel_rfl | (n + 4), h => by simp [ti42, nth] at h), (fun n h => nomatch h), (fun r h => nomatch h), (fun r h => by cases h; kernel_rfl)⟩
def ti43 : TI := ⟨4, true, none, none, (some [.nilsl, .nilsl, .int .i64 0, .int .i64 0]), (some (.st [(0, 1), (1, 1), (2, 1), (3, 1)])), 64, .other, [(0, 1, 40), (1, 1, 41), (2, 1, 3), (3, 1, 3)], none, none, (some (.agg [.nilsl, .nilsl, .int .i64 0, .int .i64 0]))⟩
theorem ok43 : TIOk Try.prog 43 ti43 := ⟨(by kernel_rfl), (by kernel_rfl), (fun r h => nomatch h), (fun r h => nomatch h), (fun r h => by cases h; kernel_rfl), (fun r h => by cases h; kernel_rfl), (by kernel_rfl), (fun h => nomatch h), (fun h => nomatch h), (fun k h => nomatch h), (fun f r h => match f, h with | 0, h => by cases h; kernel_rfl | 1, h => by cases h; kernel_rfl | 2, h => by cases h; kernel_rfl | 3, h => by cases h; kernel_rfl | (n + 4), h => by simp [ti43, nth] at h), (fun n h => nomatch h), (fun r h => nomatch h), (fun r h => by cases h; kernel_rfl)⟩
def ti44 : TI := ⟨1, false, none, none, (some [.int .i64 0]), none, 8, (.int .i64), [], none, none, (some (.int .i64 0))⟩
theorem ok44 : TIOk Try.prog 44 ti44 := ⟨(by kernel_rfl), (by kernel_rfl), (fun r h => nomatch h), (fun r h => nomatch h), (fun r h => by cases h; kernel_rfl), (fun r h => nomatch h), (by kernel_rfl), (fun h => nomatch h), (fun h => nomatch h), (fun k h => by cases h; kernel_rfl), (fun f r h => nomatch h), (fun n h => nomatch h), (fun r h => nomatch h), (fun r h => by cases h; kernel_rfl)⟩
def ti45 : TI := ⟨1, false, none, none, none, none, 0, .other, [], none, none, none⟩
theorem ok45 : TIOk Try.prog 45 ti45 := ⟨(by kernel_rfl), (by kernel_rfl), (fun r h => nomatch h), (fun r h => nomatch h), (fun r h => nomatch h), (fun r h => nomatch h), (by kernel_rfl), (fun h => nomatch h), (fun h => nomatch h), (fun k h => nomatch h), (fun f r h => nomatch h), (fun n h => nomatch h), (fun r h => nomatch h), (fun r h => nomatch h)⟩
def ti46 : TI := ⟨1, false, none, none, (some [.nilfn]), none, 8, .other, [], none, none, (some (.nilfn))⟩
theorem ok46 : TIOk Try.prog 46 ti46 := ⟨(by kernel_rfl), (by kernel_rfl), (fun r h => nomatch h), (fun r h => nomatch h), (fun r h => by cases h; kernel_rfl), (fun r h => nomatch h), (by kernel_rfl), (fun h => nomatch h), (fun h => nomatch h), (fun k h => nomatch h), (fun f r h => nomatch h), (fun n h => nomatch h), (fun r h => nomatch h), (fun r h => by cases h; kernel_rfl)⟩
def ti47 : TI := ⟨1, false, none, none, (some [.nilfn]), none, 8, .other, [], none, none, (some (.nilfn))⟩
theorem ok47 : TIOk Try.prog 47 ti47 := ⟨(by kernel_rfl), (by kernel_rfl), (fun r h => nomatch h), (fun r h => nomatch h), (fun r h => by cases h; kernel_rfl), (fun r h => nomatch h), (by kernel_rfl), (fun h => nomatch h), (fun h => nomatch h), (fun k h => nomatch h), (fun f r h => nomatch h), (fun n h => nomatch h), (fun r h => nomatch h), (fun r h => by cases h; kernel_rfl)⟩
def ti48 : TI := ⟨1, false, none, none, (some [.nilfn]), none, 8, .other, [], none, none, (some (.nilfn))⟩
theorem ok48 : TIOk Try.prog 48 ti48 := ⟨(by kernel_rfl), (by kernel_rfl), (fun r h => nomatch h), (fun r h => nomatch h), (fun r h => by cases h; kernel_rfl), (fun r h => nomatch h), (by kernel_rfl), (fun h => nomatch h), (fun h => nomatch h), (fun k h => nomatch h), (fun f r h => nomatch h), (fun n h => nomatch h), (fun r h => nomatch h), (fun r h => by cases h; kernel_rfl)⟩
def ti49 : TI := ⟨1, false, none, none, (some [.nilfn]), none, 8, .other, [], none, none, (some (.nilfn))⟩
theorem ok49 : TIOk Try.prog 49 ti49 := ⟨(by kernel_rfl), (by kernel_rfl), (fun r h => nomatch h), (fun r h => nomatch h), (fun r h => by cases h; kernel_rfl), (fun r h => nomatch h), (by kernel_rfl), (fun h => nomatch h), (fun h => nomatch h), (fun k h => nomatch h), (fun f r h => nomatch h), (fun n h => nomatch h), (fun r h => nomatch h), (fun r h => by cases h; kernel_rfl)⟩
def ti50 : TI := ⟨1, false, none, none, none, none, 0, .other, [], none, none, none⟩
theorem ok50 : TIOk Try.prog 50 ti50 := ⟨(by kernel_rfl), (by kernel_rfl), (fun r h => nomatch h), (fun r h => nomatch h), (fun r h => nomatch h), (fun r h => nomatch h), (by kernel_rfl), (fun h => nomatch h), (fun h => nomatch h), (fun k h => nomatch h), (fun f r h => nomatch h), (fun n h => nomatch h), (fun r h => nomatch h), (fun r h => nomatch h)⟩
def ti51 : TI := ⟨1, false, none, none, (some [.nilfn]), none, 8, .other, [], none, none, (some (.nilfn))⟩
theorem ok51 : TIOk Try.prog 51 ti51 := ⟨(by kernel_rfl), (by kernel_rfl), (fun r h => nomatch h), (fun r h => nomatch h), (fun r h => by cases h; kernel_rfl), (fun r h => nomatch h), (by kernel_rfl), (fun h => nomatch h), (fun h => nomatch h), (fun k h => nomatch h), (fun f r h => nomatch h), (fun n h => nomatch h), (fun r h => nomatch h), (fun r h => by cases h; kernel_rfl)⟩
def ti52 : TI := ⟨1, false, none, none, (some [.nilfn]), none, 8, .other, [], none, none, (some (.nilfn))⟩
theorem ok52 : TIOk Try.prog 52 ti52 := ⟨(by kernel_rfl), (by kernel_rfl), (fun r h => nomatch h), (fun r h => nomatch h), (fun r h => by cases h; kernel_rfl), (fun r h => nomatch h), (by kernel_rfl), (fun h => nomatch h), (fun h => nomatch h), (fun k h => nomatch h), (fun f r h => nomatch h), (fun n h => nomatch h), (fun r h => nomatch h), (fun r h => by cases h; kernel_rfl)⟩
def ti53 : TI := ⟨1, false, none, none, (some [.nilfn]), none, 8, .other, [], none, none, (some (.nilfn))⟩
theorem ok53 : TIOk Try.prog 53 ti53 := ⟨(by kernel_rfl), (by kernel_rfl), (fun r h => nomatch h), (fun r h => nomatch h), (fun r h => by cases h; kernel_rfl), (fun r h => nomatch h), (by kernel_rfl), (fun h => nomatch h), (fun h => nomatch h), (fun k h => nomatch h), (fun f r h => nomatch h), (fun n h => nomatch h), (fun r h => nomatch h), (fun r h => by cases h; kernel_rfl)⟩
def ti54 : TI := ⟨12, true, none, (some (3, 28, 4)), (some [.int .u8 0, .int .u8 0, .int .u8 0, .int .u8 0, .int .u8 0, .int .u8 0, .int .u8 0, .int .u8 0, .int .u8 0, .int .u8 0, .int .u8 0, .int .u8 0]), (some (.ar 4)), 12, .other, [], none, none, (some (.agg [.int .u8 0, .int .u8 0, .int .u8 0, .int .u8 0, .int .u8 0, .int .u8 0, .int .u8 0, .int .u8 0, .int .u8 0, .int .u8 0, .int .u8 0, .int .u8 0]))⟩
theorem ok54 : TIOk Try.prog 54 ti54 := ⟨(by kernel_rfl), (by kernel_rfl), (fun r h => nomatch h), (fun r h => by cases h; kernel_rfl), (fun r h => by cases h; kernel_rfl), (fun r h => by cases h; kernel_rfl), (by kernel_rfl), (fun h => nomatch h), (fun h => nomatch h), (fun k h => nomatch h), (fun f r h => nomatch h), (fun n h => nomatch h), (fun r h => nomatch h), (fun r h => by cases h; kernel_rfl)⟩
def ti55 : TI := ⟨12, true, none, none, (some [.int .u8 0, .int .u8 0, .int .u8 0, .int .u8 0, .int .u8 0, .int .u8 0, .int .u8 0, .int .u8 0, .int .u8 0, .int .u8 0, .int .u8 0, .int .u8 0]), (some (.st [(0, 12)])), 12, .other, [(0, 12, 54)], none, none, (some (.agg [.int .u8 0, .int .u8 0, .int .u8 0, .int .u8 0, .int .u8 0, .int .u8 0, .int .u8 0, .int .u8 0, .int .u8 0, .int .u8 0, .int .u8 0, .int .u8 0]))⟩
theorem ok55 : TIOk Try.prog 55 ti55 := ⟨(by kernel_rfl), (by kernel_rfl), (fun r h => nomatch h), (fun r h => nomatch h), (fun r h => by cases h; kernel_rfl), (fun r h => by cases h; kernel_rfl), (by kernel_rfl), (fun h => nomatch h), (fun h => nomatch h), (fun k h => nomatch h), (fun f r h => match f, h with | 0, h => by cases h; kernel_rfl | (n + 1), h => by simp [ti55, nth] at h), (fun n h => nomatch h), (fun r h => nomatch h), (fun r h => by cases h; kernel_rfl)⟩
def ti56 : TI := ⟨12, true, none, none, (some [.int .u8 0, .int .u8 0, .int .u8 0, .int .u8 0, .int .u8 0, .int .u8 0, .int .u8 0, .int .u8 0, .int .u8 0, .int .u8 0, .int .u8 0, .int .u8 0]), (some (.st [(0, 12)])), 12, .other, [(0, 12, 54)], none, none, (some (.agg [.int .u8 0, .int .u8 0, .int .u8 0, .int .u8 0, .int .u8 0, .int .u8 0, .int .u8 0, .int .u8 0, .int .u8 0, .int .u8 0, .int .u8 0, .int .u8 0]))⟩
theorem ok56 : TIOk Try.prog 56 ti56 := ⟨(by kernel_rfl), (by kernel_rfl), (fun r h => nomatch h), (fun r h => nomatch h), (fun r h => by cases h; kernel_rfl), (fun r h => by cases h; kernel_rfl), (by kernel_rfl), (fun h => nomatch h), (fun h => nomatch h), (fun k h => nomatch h), (fun f r h => match f, h with | 0, h => by cases h; kernel_rfl | (n + 1), h => by simp [ti56, nth] at h), (fun n h => nomatch h), (fun r h => nomatch h), (fun r h => by cases h; kernel_rfl)⟩
def ti57 : TI := ⟨5, true, none, none, (some [.int .u8 0, .int .u8 0, .int .u8 0, .int .u8 0, .nilsl]), (some (.st [(0, 4), (4, 1)])), 32, .other, [(0, 4, 28), (4, 1, 23)], none, none, (some (.agg [.int .u8 0, .int .u8 0, .int .u8 0, .int .u8 0, .nilsl]))⟩
theorem ok57 : TIOk Try.prog 57 ti57 := ⟨(by kernel_rfl), (by kernel_rfl), (fun r h => nomatch h), (fun r h => nomatch h), (fun r h => by cases h; kernel_rfl), (fun r h => by cases h; kernel_rfl), (by kernel_rfl), (fun h => nomatch h), (fun h => nomatch h), (fun k h => nomatch h), (fun f r h => match f, h with | 0, h => by cases h; kernel_rfl | 1, h => by cases h; kernel_rfl | (n + 2), h => by simp [ti57, nth] at h), (fun n h => nomatch h), (fun r h => nomatch h), (fun r h => by cases h; kernel_rfl)⟩
def ti58 : TI := ⟨5, true, none, none, (some [.int .u8 0, .int .u8 0, .int .u8 0, .int .u8 0, .nilsl]), (some (.st [(0, 4), (4, 1)])), 32, .other, [(0, 4, 28), (4, 1, 23)], none, none, (some (.agg [.int .u8 0, .int .u8 0, .int .u8 0, .int .u8 0, .nilsl]))⟩
theorem ok58 : TIOk Try.prog 58 ti58 := ⟨(by kernel_rfl), (by kernel_rfl), (fun r h => nomatch h), (fun r h => nomatch h), (fun r h => by cases h; kernel_rfl), (fun r h => by cases h; kernel_rfl), (by kernel_rfl), (fun h => nomatch h), (fun h => nomatch h), (fun k h => nomatch h), (fun f r h => match f, h with | 0, h => by cases h; kernel_rfl | 1, h => by cases h; kernel_rfl | (n + 2), h => by simp [ti58, nth] at h), (fun n h => nomatch h), (fun r h => nomatch h), (fun r h => by cases h; kernel_rfl)⟩
def ti59 : TI := ⟨1, false, (some (65, 4)), none, (some [.nilsl]), none, 24, .other, [], none, none, (some (.nilsl))⟩
theorem ok59 : TIOk Try.prog 59 ti59 := ⟨(by kernel_rfl), (by kernel_rfl), (fun r h => by cases h; kernel_rfl), (fun r h => nomatch h), (fun r h => by cases h; kernel_rfl), (fun r h => nomatch h), (by kernel_rfl), (fun h => nomatch h), (fun h => nomatch h), (fun k h => nomatch h), (fun f r h => nomatch h), (fun n h => nomatch h), (fun r h => nomatch h), (fun r h => by cases h; kernel_rfl)⟩
def ti60 : TI := ⟨1, false, (some (236, 4)), none, (some [.nilsl]), none, 24, .other, [], none, none, (some (.nilsl))⟩
theorem ok60 : TIOk Try.prog 60 ti60 := ⟨(by kernel_rfl), (by kernel_rfl), (fun r h => by cases h; kernel_rfl), (fun r h => nomatch h), (fun r h => by cases h; kernel_rfl), (fun r h => nomatch h), (by kernel_rfl), (fun h => nomatch h), (fun h => nomatch h), (fun k h => nomatch h), (fun f r h => nomatch h), (fun n h => nomatch h), (fun r h => nomatch h), (fun r h => by cases h; kernel_rfl)⟩
def ti61 : TI := ⟨2, true, none, none, (some [.nilsl, .nilsl]), (some (.st [(0, 1), (1, 1)])), 48, .other, [(0, 1, 59), (1, 1, 60)], none, none, (some (.agg [.nilsl, .nilsl]))⟩
theorem ok61 : TIOk Try.prog 61 ti61 := ⟨(by kernel_rfl), (by kernel_rfl), (fun r h => nomatch h), (fun r h => nomatch h), (fun r h => by cases h; kernel_rfl), (fun r h => by cases h; kernel_rfl), (by kernel_rfl), (fun h => nomatch h), (fun h => nomatch h), (fun k h => nomatch h), (fun f r h => match f, h with | 0, h => by cases h; kernel_rfl | 1, h => by cases h; kernel_rfl | (n + 2), h => by simp [ti61, nth] at h), (fun n h => nomatch h), (fun r h => nomatch h), (fun r h => by cases h; kernel_rfl)⟩
def ti62 : TI := ⟨2, true, none, none, (some [.nilsl, .nilsl]), (some (.st [(0, 1), (1, 1)])), 48, .other, [(0, 1, 59), (1, 1, 60)], none, none, (some (.agg [.nilsl, .nilsl]))⟩
theorem ok62 : TIOk Try.prog 62 ti62 := ⟨(by kernel_rfl), (by kernel_rfl), (fun r h => nomatch h), (fun r h => nomatch h), (fun r h => by cases h; kernel_rfl), (fun r h => by cases h; kernel_rfl), (by kernel_rfl), (fun h => nomatch h), (fun h => nomatch h), (fun k h => nomatch h), (fun f r h => match f, h with | 0, h => by cases h; kernel_rfl | 1, h => by cases h; kernel_rfl | (n + 2), h => by simp [ti62, nth] at h), (fun n h => nomatch h), (fun r h => nomatch h), (fun r h => by cases h; kernel_rfl)⟩
def ti63 : TI := ⟨1, false, none, none, (some [.nilfn]), none, 8, .other, [], none, none, (some (.nilfn))⟩
theorem ok63 : TIOk Try.prog 63 ti63 := ⟨(by kernel_rfl), (by kernel_rfl), (fun r h => nomatch h), (fun r h => nomatch h), (fun r h => by cases h; kernel_rfl), (fun r h => nomatch h), (by kernel_rfl), (fun h => nomatch h), (fun h => nomatch h), (fun k h => nomatch h), (fun f r h => nomatch h), (fun n h => nomatch h), (fun r h => nomatch h), (fun r h => by cases h; kernel_rfl)⟩
def ti64 : TI := ⟨4, true, none, none, (some [.int .i64 0, .int .i64 0, .int .i64 0, .int .i64 0]), (some (.st [(0, 2), (2, 2)])), 32, .other, [(0, 2, 30), (2, 2, 30)], (some 4), none, (some (.agg [.int .i64 0, .int .i64 0, .int .i64 0, .int .i64 0]))⟩
theorem ok64 : TIOk Try.prog 64 ti64 := ⟨(by kernel_rfl), (by kernel_rfl), (fun r h => nomatch h), (fun r h => nomatch h), (fun r h => by cases h; kernel_rfl), (fun r h => by cases h; kernel_rfl), (by kernel_rfl), (fun h => nomatch h), (fun h => nomatch h), (fun k h => nomatch h), (fun f r h => match f, h with | 0, h => by cases h; kernel_rfl | 1, h => by cases h; kernel_rfl | (n + 2), h => by simp [ti64, nth] at h), (fun n h => by cases h; exact ⟨by kernel_rfl, by kernel_rfl, by kernel_rfl⟩), (fun r h => nomatch h), (fun r h => by cases h; kernel_rfl)⟩
def ti65 : TI := ⟨4, true, none, none, (some [.int .i64 0, .int .i64 0, .int .i64 0, .int .i64 0]), (some (.st [(0, 2), (2, 2)])), 32, .other, [(0, 2, 30), (2, 2, 30)], (some 4), none, (some (.agg [.int .i64 0, .int .i64 0, .int .i64 0, .int .i64 0]))⟩
theorem ok65 : TIOk Try.prog 65 ti65 := ⟨(by kernel_rfl), (by kernel_rfl), (fun r h => nomatch h), (fun r h => nomatch h), (fun r h => by cases h; kernel_rfl), (fun r h => by cases h; kernel_rfl), (by kernel_rfl), (fun h => nomatch h), (fun h => nomatch h), (fun k h => nomatch h), (fun f r h => match f, h with | 0, h => by cases h; kernel_rfl | 1, h => by cases h; kernel_rfl | (n + 2), h => by simp [ti65, nth] at h), (fun n h => by cases h; exact ⟨by kernel_rfl, by kernel_rfl, by kernel_rfl⟩), (fun r h => nomatch h), (fun r h => by cases h; kernel_rfl)⟩
def ti66 : TI := ⟨1, false, none, none, none, none, 0, .other, [], none, none, none⟩
theorem ok66 : TIOk Try.prog 66 ti66 := ⟨(by kernel_rfl), (by kernel_rfl), (fun r h => nomatch h), (fun r h => nomatch h), (fun r h => nomatch h), (fun r h => nomatch h), (by kernel_rfl), (fun h => nomatch h), (fun h => nomatch h), (fun k h => nomatch h), (fun f r h => nomatch h), (fun n h => nomatch h), (fun r h => nomatch h), (fun r h => nomatch h)⟩
def ti67 : TI := ⟨1, false, none, none, (some [.nilfn]), none, 8, .other, [], none, none, (some (.nilfn))⟩
theorem ok67 : TIOk Try.prog 67 ti67 := ⟨(by kernel_rfl), (by kernel_rfl), (fun r h => nomatch h), (fun r h => nomatch h), (fun r h => by cases h; kernel_rfl), (fun r h => nomatch h), (by kernel_rfl), (fun h => nomatch h), (fun h => nomatch h), (fun k h => nomatch h), (fun f r h => nomatch h), (fun n h => nomatch h), (fun r h => nomatch h), (fun r h => by cases h; kernel_rfl)⟩
def ti68 : TI := ⟨1, false, none, none, (some [.nilfn]), none, 8, .other, [], none, none, (some (.nilfn))⟩
theorem ok68 : TIOk Try.prog 68 ti68 := ⟨(by kernel_rfl), (by kernel_rfl), (fun r h => nomatch h), (fun r h => nomatch h), (fun r h => by cases h; kernel_rfl), (fun r h => nomatch h), (by kernel_rfl), (fun h => nomatch h), (fun h => nomatch h), (fun k h => nomatch h), (fun f r h => nomatch h), (fun n h => nomatch h), (fun r h => nomatch h), (fun r h => by cases h; kernel_rfl)⟩
def ti69 : TI := ⟨1, false, none, none, (some [.int .i64 0]), none, 8, (.int .i64), [], none, none, (some (.int .i64 0))⟩
theorem ok69 : TIOk Try.prog 69 ti69 := ⟨(by kernel_rfl), (by kernel_rfl), (fun r h => nomatch h), (fun r h => nomatch h), (fun r h => by cases h; kernel_rfl), (fun r h => nomatch h), (by kernel_rfl), (fun h => nomatch h), (fun h => nomatch h), (fun k h => by cases h; kernel_rfl), (fun f r h => nomatch h), (fun n h => nomatch h), (fun r h => nomatch h), (fun r h => by cases h; kernel_rfl)⟩
def ti70 : TI := ⟨1, false, none, none, (some [.nilfn]), none, 8, .other, [], none, none, (some (.nilfn))⟩
theorem ok70 : TIOk Try.prog 70 ti70 := ⟨(by kernel_rfl), (by kernel_rfl), (fun r h => nomatch h), (fun r h => nomatch h), (fun r h => by cases h; kernel_rfl), (fun r h => nomatch h), (by kernel_rfl), (fun h => nomatch h), (fun h => nomatch h), (fun k h => nomatch h), (fun f r h => nomatch h), (fun n h => nomatch h), (fun r h => nomatch h), (fun r h => by cases h; kernel_rfl)⟩
def ti71 : TI := ⟨1, false, none, none, none, none, 0, .other, [], none, none, none⟩
theorem ok71 : TIOk Try.prog 71 ti71 := ⟨(by kernel_rfl), (by kernel_rfl), (fun r h => nomatch h), (fun r h => nomatch h), (fun r h => nomatch h), (fun r h => nomatch h), (by kernel_rfl), (fun h => nomatch h), (fun h => nomatch h), (fun k h => nomatch h), (fun f r h => nomatch h), (fun n h => nomatch h), (fun r h => nomatch h), (fun r h => nomatch h)⟩
def ti72 : TI := ⟨1, false, none, none, (some [.nilfn]), none, 8, .other, [], none, none, (some (.nilfn))⟩
theorem ok72 : TIOk Try.prog 72 ti72 := ⟨(by kernel_rfl), (by kernel_rfl), (fun r h => nomatch h), (fun r h => nomatch h), (fun r h => by cases h; kernel_rfl), (fun r h => nomatch h), (by kernel_rfl), (fun h => nomatch h), (fun h => nomatch h), (fun k h => nomatch h), (fun f r h => nomatch h), (fun n h => nomatch h), (fun r h => nomatch h), (fun r h => by cases h; kernel_rfl)⟩
def ti73 : TI := ⟨1, false, none, none, (some [.nilfn]), none, 8, .other, [], none, none, (some (.nilfn))⟩
theorem ok73 : TIOk Try.prog 73 ti73 := ⟨(by kernel_rfl), (by kernel_rfl), (fun r h => nomatch h), (fun r h => nomatch h), (fun r h => by cases h; kernel_rfl), (fun r h => nomatch h), (by kernel_rfl), (fun h => nomatch h), (fun h => nomatch h), (fun k h => nomatch h), (fun f r h => nomatch h), (fun n h => nomatch h), (fun r h => nomatch h), (fun r h => by cases h; kernel_rfl)⟩
def ti74 : TI := ⟨1, false, none, none, (some [.nilfn]), none, 8, .other, [], none, none, (some (.nilfn))⟩
theorem ok74 : TIOk Try.prog 74 ti74 := ⟨(by kernel_rfl), (by kernel_rfl), (fun r h => nomatch h), (fun r h => nomatch h), (fun r h => by cases h; kernel_rfl), (fun r h => nomatch h), (by kernel_rfl), (fun h => nomatch h), (fun h => nomatch h), (fun k h => nomatch h), (fun f r h => nomatch h), (fun n h => nomatch h), (fun r h => nomatch h), (fun r h => by cases h; kernel_rfl)⟩
def ti75 : TI := ⟨1, false, none, none, (some [.nilfn]), none, 8, .other, [], none, none, (some (.nilfn))⟩
theorem ok75 : TIOk Try.prog 75 ti75 := ⟨(by kernel_rfl), (by kernel_rfl), (fun r h => nomatch h), (fun r h => nomatch h), (fun r h => by cases h; kernel_rfl), (fun r h => nomatch h), (by kernel_rfl), (fun h => nomatch h), (fun h => nomatch h), (fun k h => nomatch h), (fun f r h => nomatch h), (fun n h => nomatch h), (fun r h => nomatch h), (fun r h => by cases h; kernel_rfl)⟩
def ti76 : TI := ⟨2, true, none, (some (2, 5, 1)), (some [.int .u8 0, .int .u8 0]), (some (.ar 1)), 2, .other, [], none, none, (some (.agg [.int .u8 0, .int .u8 0]))⟩
theorem ok76 : TIOk Try.prog 76 ti76 := ⟨(by kernel_rfl), (by kernel_rfl), (fun r h => nomatch h), (fun r h => by cases h; kernel_rfl), (fun r h => by cases h; kernel_rfl), (fun r h => by cases h; kernel_rfl), (by kernel_rfl), (fun h => nomatch h), (fun h => nomatch h), (fun k h => nomatch h), (fun f r h => nomatch h), (fun n h => nomatch h), (fun r h => nomatch h), (fun r h => by cases h; kernel_rfl)⟩
def ti77 : TI := ⟨1, false, none, none, (some [.nilfn]), none, 8, .other, [], none, none, (some (.nilfn))⟩
theorem ok77 : TIOk Try.prog 77 ti77 := ⟨(by kernel_rfl), (by kernel_rfl), (fun r h => nomatch h), (fun r h => nomatch h), (fun r h => by cases h; kernel_rfl), (fun r h => nomatch h), (by kernel_rfl), (fun h => nomatch h), (fun h => nomatch h), (fun k h => nomatch h), (fun f r h => nomatch h), (fun n h => nomatch h), (fun r h => nomatch h), (fun r h => by cases h; kernel_rfl)⟩
def ti78 : TI := ⟨1, false, none, none, (some [.nilfn]), none, 8, .other, [], none, none, (some (.nilfn))⟩
theorem ok78 : TIOk Try.prog 78 ti78 := ⟨(by kernel_rfl), (by kernel_rfl), (fun r h => nomatch h), (fun r h => nomatch h), (fun r h => by cases h; kernel_rfl), (fun r h => nomatch h), (by kernel_rfl), (fun h => nomatch h), (fun h => nomatch h), (fun k h => nomatch h), (fun f r h => nomatch h), (fun n h => nomatch h), (fun r h => nomatch h), (fun r h => by cases h; kernel_rfl)⟩
def ti79 : TI := ⟨1, false, (some (33, 1)), none, (some [.nilsl]), none, 24, .other, [], none, none, (some (.nilsl))⟩
theorem ok79 : TIOk Try.prog 79 ti79 := ⟨(by kernel_rfl), (by kernel_rfl), (fun r h => by cases h; kernel_rfl), (fun r h => nomatch h), (fun r h => by cases h; kernel_rfl), (fun r h => nomatch h), (by kernel_rfl), (fun h => nomatch h), (fun h => nomatch h), (fun k h => nomatch h), (fun f r h => nomatch h), (fun n h => nomatch h), (fun r h => nomatch h), (fun r h => by cases h; kernel_rfl)⟩
def ti80 : TI := ⟨1, false, none, none, none, none, 0, .other, [], none, none, none⟩
theorem ok80 : TIOk Try.prog 80 ti80 := ⟨(by kernel_rfl), (by kernel_rfl), (fun r h => nomatch h), (fun r h => nomatch h), (fun r h => nomatch h), (fun r h => nomatch h), (by kernel_rfl), (fun h => nomatch h), (fun h => nomatch h), (fun k h => nomatch h), (fun f r h => nomatch h), (fun n h => nomatch h), (fun r h => nomatch h), (fun r h => nomatch h)⟩
def ti81 : TI := ⟨1, false, none, none, (some [.nilfn]), none, 8, .other, [], none, none, (some (.nilfn))⟩
theorem ok81 : TIOk Try.prog 81 ti81 := ⟨(by kernel_rfl), (by kernel_rfl), (fun r h => nomatch h), (fun r h => nomatch h), (fun r h => by cases h; kernel_rfl), (fun r h => nomatch h), (by kernel_rfl), (fun h => nomatch h), (fun h => nomatch h), (fun k h => nomatch h), (fun f r h => nomatch h), (fun n h => nomatch h), (fun r h => nomatch h), (fun r h => by cases h; kernel_rfl)⟩
def ti82 : TI := ⟨3, true, none, none, (some [.nilsl, .int .i64 0, .int .i64 0]), (some (.st [(0, 1), (1, 2)])), 40, .other, [(0, 1, 41), (1, 2, 30)], none, none, (some (.agg [.nilsl, .int .i64 0, .int .i64 0]))⟩
theorem ok82 : TIOk Try.prog 82 ti82 := ⟨(by kernel_rfl), (by kernel_rfl), (fun r h => nomatch h), (fun r h => nomatch h), (fun r h => by cases h; kernel_rfl), (fun r h => by cases h; kernel_rfl), (by kernel_rfl), (fun h => nomatch h), (fun h => nomatch h), (fun k h => nomatch h), (fun f r h => match f, h with | 0, h => by cases h; kernel_rfl | 1, h => by cases h; kernel_rfl | (n + 2), h => by simp [ti82, nth] at h), (fun n h => nomatch h), (fun r h => nomatch h), (fun r h => by cases h; kernel_rfl)⟩
def ti83 : TI := ⟨3, true, none, none, (some [.nilsl, .int .i64 0, .int .i64 0]), (some (.st [(0, 1), (1, 2)])), 40, .other, [(0, 1, 41), (1, 2, 30)], none, none, (some (.agg [.nilsl, .int .i64 0, .int .i64 0]))⟩
theorem ok83 : TIOk Try.prog 83 ti83 := ⟨(by kernel_rfl), (by kernel_rfl), (fun r h => nomatch h), (fun r h => nomatch h), (fun r h => by cases h; kernel_rfl), (fun r h => by cases h; kernel_rfl), (by kernel_rfl), (fun h => nomatch h), (fun h => nomatch h), (fun k h => nomatch h), (fun f r h => match f, h with | 0, h => by cases h; kernel_rfl | 1, h => by cases h; kernel_rfl | (n + 2), h => by simp [ti83, nth] at h), (fun n h => nomatch h), (fun r h => nomatch h), (fun r h => by cases h; kernel_rfl)⟩
def ti84 : TI := ⟨1, false, (some (83, 3)), none, (some [.nilsl]), none, 24, .other, [], none, none, (some (.nilsl))⟩
theorem ok84 : TIOk Try.prog 84 ti84 := ⟨(by kernel_rfl), (by kernel_rfl), (fun r h => by cases h; kernel_rfl), (fun r h => nomatch h), (fun r h => by cases h; kernel_rfl), (fun r h => nomatch h), (by kernel_rfl), (fun h => nomatch h), (fun h => nomatch h), (fun k h => nomatch h), (fun f r h => nomatch h), (fun n h => nomatch h), (fun r h => nomatch h), (fun r h => by cases h; kernel_rfl)⟩
def ti85 : TI := ⟨2, true, none, (some (2, 3, 1)), (some [.int .i64 0, .int .i64 0]), (some (.ar 1)), 16, .other, [], none, none, (some (.agg [.int .i64 0, .int .i64 0]))⟩
theorem ok85 : TIOk Try.prog 85 ti85 := ⟨(by kernel_rfl), (by kernel_rfl), (fun r h => nomatch h), (fun r h => by cases h; kernel_rfl), (fun r h => by cases h; kernel_rfl), (fun r h => by cases h; kernel_rfl), (by kernel_rfl), (fun h => nomatch h), (fun h => nomatch h), (fun k h => nomatch h), (fun f r h => nomatch h), (fun n h => nomatch h), (fun r h => nomatch h), (fun r h => by cases h; kernel_rfl)⟩
def ti86 : TI := ⟨1, false, none, none, (some [.nilfn]), none, 8, .other, [], none, none, (some (.nilfn))⟩
theorem ok86 : TIOk Try.prog 86 ti86 := ⟨(by kernel_rfl), (by kernel_rfl), (fun r h => nomatch h), (fun r h => nomatch h), (fun r h => by cases h; kernel_rfl), (fun r h => nomatch h), (by kernel_rfl), (fun h => nomatch h), (fun h => nomatch h), (fun k h => nomatch h), (fun f r h => nomatch h), (fun n h => nomatch h), (fun r h => nomatch h), (fun r h => by cases h; kernel_rfl)⟩
def ti87 : TI := ⟨1, false, (some (5, 1)), none, (some [.nilsl]), none, 24, .other, [], none, none, (some (.nilsl))⟩
theorem ok87 : TIOk Try.prog 87 ti87 := ⟨(by kernel_rfl), (by kernel_rfl), (fun r h => by cases h; kernel_rfl), (fun r h => nomatch h), (fun r h => by cases h; kernel_rfl), (fun r h => nomatch h), (by kernel_rfl), (fun h => nomatch h), (fun h => nomatch h), (fun k h => nomatch h), (fun f r h => nomatch h), (fun n h => nomatch h), (fun r h => nomatch h), (fun r h => by cases h; kernel_rfl)⟩
def ti88 : TI := ⟨1, false, none, none, none, none, 0, .other, [], none, none, none⟩
theorem ok88 : TIOk Try.prog 88 ti88 := ⟨(by kernel_rfl), (by kernel_rfl), (fun r h => nomatch h), (fun r h => nomatch h), (fun r h => nomatch h), (fun r h => nomatch h), (by kernel_rfl), (fun h => nomatch h), (fun h => nomatch h), (fun k h => nomatch h), (fun f r h => nomatch h), (fun n h => nomatch h), (fun r h => nomatch h), (fun r h => nomatch h)⟩
def ti89 : TI := ⟨1, false, none, none, (some [.nilfn]), none, 8, .other, [], none, none, (some (.nilfn))⟩
theorem ok89 : TIOk Try.prog 89 ti89 := ⟨(by kernel_rfl), (by kernel_rfl), (fun r h => nomatch h), (fun r h => nomatch h), (fun r h => by cases h; kernel_rfl), (fun r h => nomatch h), (by kernel_rfl), (fun h => nomatch h), (fun h => nomatch h), (fun k h => nomatch h), (fun f r h => nomatch h), (fun n h => nomatch h), (fun r h => nomatch h), (fun r h => by cases h; kernel_rfl)⟩
def ti90 : TI := ⟨1, false, none, none, (some [.nilfn]), none, 8, .other, [], none, none, (some (.nilfn))⟩
theorem ok90 : TIOk Try.prog 90 ti90 := ⟨(by kernel_rfl), (by kernel_rfl), (fun r h => nomatch h), (fun r h => nomatch h), (fun r h => by cases h; kernel_rfl), (fun r h => nomatch h), (by kernel_rfl), (fun h => nomatch h), (fun h => nomatch h), (fun k h => nomatch h), (fun f r h => nomatch h), (fun n h => nomatch h), (fun r h => nomatch h), (fun r h => by cases h; kernel_rfl)⟩
def ti91 : TI := ⟨1, false, none, none, (some [.nilfn]), none, 8, .other, [], none, none, (some (.nilfn))⟩
theorem ok91 : TIOk Try.prog 91 ti91 := ⟨(by kernel_rfl), (by kernel_rfl), (fun r h => nomatch h), (fun r h => nomatch h), (fun r h => by cases h; kernel_rfl), (fun r h => nomatch h), (by kernel_rfl), (fun h => nomatch h), (fun h => nomatch h), (fun k h => nomatch h), (fun f r h => nomatch h), (fun n h => nomatch h), (fun r h => nomatch h), (fun r h => by cases h; kernel_rfl)⟩
def ti92 : TI := ⟨1, false, none, none, none, none, 0, .other, [], none, none, none⟩
theorem ok92 : TIOk Try.prog 92 ti92 := ⟨(by kernel_rfl), (by kernel_rfl), (fun r h => nomatch h), (fun r h => nomatch h), (fun r h => nomatch h), (fun r h => nomatch h), (by kernel_rfl), (fun h => nomatch h), (fun h => nomatch h), (fun k h => nomatch h), (fun f r h => nomatch h), (fun n h => nomatch h), (fun r h => nomatch h), (fun r h => nomatch h)⟩
def ti93 : TI := ⟨1, false, none, none, (some [.nilfn]), none, 8, .other, [], none, none, (some (.nilfn))⟩
theorem ok93 : TIOk Try.prog 93 ti93 := ⟨(by kernel_rfl), (by kernel_rfl), (fun r h => nomatch h), (fun r h => nomatch h), (fun r h => by cases h; kernel_rfl), (fun r h => nomatch h), (by kernel_rfl), (fun h => nomatch h), (fun h => nomatch h), (fun k h => nomatch h), (fun f r h => nomatch h), (fun n h => nomatch h), (fun r h => nomatch h), (fun r h => by cases h; kernel_rfl)⟩
def ti94 : TI := ⟨1, false, none, none, (some [.nilfn]), none, 8, .other, [], none, none, (some (.nilfn))⟩
theorem ok94 : TIOk Try.prog 94 ti94 := ⟨(by kernel_rfl), (by kernel_rfl), (fun r h => nomatch h), (fun r h => nomatch h), (fun r h => by cases h; kernel_rfl), (fun r h => nomatch h), (by kernel_rfl), (fun h => nomatch h), (fun h => nomatch h), (fun k h => nomatch h), (fun f r h => nomatch h), (fun n h => nomatch h), (fun r h => nomatch h), (fun r h => by cases h; kernel_rfl)⟩
def ti95 : TI := ⟨1, false, none, none, (some [.nilfn]), none, 8, .other, [], none, none, (some (.nilfn))⟩
theorem ok95 : TIOk Try.prog 95 ti95 := ⟨(by kernel_rfl), (by kernel_rfl), (fun r h => nomatch h), (fun r h => nomatch h), (fun r h => by cases h; kernel_rfl), (fun r h => nomatch h), (by kernel_rfl), (fun h => nomatch h), (fun h => nomatch h), (fun k h => nomatch h), (fun f r h => nomatch h), (fun n h => nomatch h), (fun r h => nomatch h), (fun r h => by cases h; kernel_rfl)⟩
def ti96 : TI := ⟨5, true, none, none, (some [.int .i64 0, .int .i64 0, .int .i64 0, .int .i64 0, .int .i64 0]), (some (.st [(0, 1), (1, 1), (2, 1), (3, 2)])), 40, .other, [(0, 1, 3), (1, 1, 3), (2, 1, 3), (3, 2, 30)], (some 5), none, (some (.agg [.int .i64 0, .int .i64 0, .int .i64 0, .int .i64 0, .int .i64 0]))⟩
theorem ok96 : TIOk Try.prog 96 ti96 := ⟨(by kernel_rfl), (by kernel_rfl), (fun r h => nomatch h), (fun r h => nomatch h), (fun r h => by cases h; kernel_rfl), (fun r h => by cases h; kernel_rfl), (by kernel_rfl), (fun h => nomatch h), (fun h => nomatch h), (fun k h => nomatch h), (fun f r h => match f, h with | 0, h => by cases h; kernel_rfl | 1, h => by cases h; kernel_rfl | 2, h => by cases h; kernel_rfl | 3, h => by cases h; kernel_rfl | (n + 4), h => by simp [ti96, nth] at h), (fun n h => by cases h; exact ⟨by kernel_rfl, by kernel_rfl, by kernel_rfl⟩), (fun r h => nomatch h), (fun r h => by cases h; kernel_rfl)⟩
def ti97 : TI := ⟨5, true, none, none, (some [.int .i64 0, .int .i64 0, .int .i64 0, .int .i64 0, .int .i64 0]), (some (.st [(0, 1), (1, 1), (2, 1), (3, 2)])), 40, .other, [(0, 1, 3), (1, 1, 3), (2, 1, 3), (3, 2, 30)], (some 5), none, (some (.agg [.int .i64 0, .int .i64 0, .int .i64 0, .int .i64 0, .int .i64 0]))⟩
theorem ok97 : TIOk Try.prog 97 ti97 := ⟨(by kernel_rfl), (by kernel_rfl), (fun r h => nomatch h), (fun r h => nomatch h), (fun r h => by cases h; kernel_rfl), (fun r h => by cases h; kernel_rfl), (by kernel_rfl), (fun h => nomatch h), (fun h => nomatch h), (fun k h => nomatch h), (fun f r h => match f, h with | 0, h => by cases h; kernel_rfl | 1, h => by cases h; kernel_rfl | 2, h => by cases h; kernel_rfl | 3, h => by cases h; kernel_rfl | (n + 4), h => by simp [ti97, nth] at h), (fun n h => by cases h; exact ⟨by kernel_rfl, by kernel_rfl, by kernel_rfl⟩), (fun r h => nomatch h), (fun r h => by cases h; kernel_rfl)⟩
def ti98 : TI := ⟨1, false, none, none, none, none, 0, .other, [], none, none, none⟩
theorem ok98 : TIOk Try.prog 98 ti98 := ⟨(by kernel_rfl), (by kernel_rfl), (fun r h => nomatch h), (fun r h => nomatch h), (fun r h => nomatch h), (fun r h => nomatch h), (by kernel_rfl), (fun h => nomatch h), (fun h => nomatch h), (fun k h => nomatch h), (fun f r h => nomatch h), (fun n h => nomatch h), (fun r h => nomatch h), (fun r h => nomatch h)⟩
def ti99 : TI := ⟨1, false, none, none, (some [.nilfn]), none, 8, .other, [], none, none, (some (.nilfn))⟩
theorem ok99 : TIOk Try.prog 99 ti99 := ⟨(by kernel_rfl), (by kernel_rfl), (fun r h => nomatch h), (fun r h => nomatch h), (fun r h => by cases h; kernel_rfl), (fun r h => nomatch h), (by kernel_rfl), (fun h => nomatch h), (fun h => nomatch h), (fun k h => nomatch h), (fun f r h => nomatch h), (fun n h => nomatch h), (fun r h => nomatch h), (fun r h => by cases h; kernel_rfl)⟩
def ti100 : TI := ⟨1, false, (some (97, 5)), none, (some [.nilsl]), none, 24, .other, [], none, none, (some (.nilsl))⟩
theorem ok100 : TIOk Try.prog 100 ti100 := ⟨(by kernel_rfl), (by kernel_rfl), (fun r h => by cases h; kernel_rfl), (fun r h => nomatch h), (fun r h => by cases h; kernel_rfl), (fun r h => nomatch h), (by kernel_rfl), (fun h => nomatch h), (fun h => nomatch h), (fun k h => nomatch h), (fun f r h => nomatch h), (fun n h => nomatch h), (fun r h => nomatch h), (fun r h => by cases h; kernel_rfl)⟩
def ti101 : TI := ⟨1, false, none, none, (some [.nilfn]), none, 8, .other, [], none, none, (some (.nilfn))⟩
theorem ok101 : TIOk Try.prog 101 ti101 := ⟨(by kernel_rfl), (by kernel_rfl), (fun r h => nomatch h), (fun r h => nomatch h), (fun r h => by cases h; kernel_rfl), (fun r h => nomatch h), (by kernel_rfl), (fun h => nomatch h), (fun h => nomatch h), (fun k h => nomatch h), (fun f r h => nomatch h), (fun n h => nomatch h), (fun r h => nomatch h), (fun r h => by cases h; kernel_rfl)⟩
def ti102 : TI := ⟨1, false, (some (28, 4)), none, (some [.nilsl]), none, 24, .other, [], none, none, (some (.nilsl))⟩
theorem ok102 : TIOk Try.prog 102 ti102 := ⟨(by kernel_rfl), (by kernel_rfl), (fun r h => by cases h; kernel_rfl), (fun r h => nomatch h), (fun r h => by cases h; kernel_rfl), (fun r h => nomatch h), (by kernel_rfl), (fun h => nomatch h), (fun h => nomatch h), (fun k h => nomatch h), (fun f r h => nomatch h), (fun n h => nomatch h), (fun r h => nomatch h), (fun r h => by cases h; kernel_rfl)⟩
def ti103 : TI := ⟨1, true, none, none, (some [.nilsl]), (some (.st [(0, 1)])), 24, .other, [(0, 1, 102)], none, none, (some (.agg [.nilsl]))⟩
theorem ok103 : TIOk Try.prog 103 ti103 := ⟨(by kernel_rfl), (by kernel_rfl), (fun r h => nomatch h), (fun r h => nomatch h), (fun r h => by cases h; kernel_rfl), (fun r h => by cases h; kernel_rfl), (by kernel_rfl), (fun h => nomatch h), (fun h => nomatch h), (fun k h => nomatch h), (fun f r h => match f, h with | 0, h => by cases h; kernel_rfl | (n + 1), h => by simp [ti103, nth] at h), (fun n h => nomatch h), (fun r h => nomatch h), (fun r h => by cases h; kernel_rfl)⟩
def ti104 : TI := ⟨1, true, none, none, (some [.nilsl]), (some (.st [(0, 1)])), 24, .other, [(0, 1, 102)], none, none, (some (.agg [.nilsl]))⟩
theorem ok104 : TIOk Try.prog 104 ti104 := ⟨(by kernel_rfl), (by kernel_rfl), (fun r h => nomatch h), (fun r h => nomatch h), (fun r h => by cases h; kernel_rfl), (fun r h => by cases h; kernel_rfl), (by kernel_rfl), (fun h => nomatch h), (fun h => nomatch h), (fun k h => nomatch h), (fun f r h => match f, h with | 0, h => by cases h; kernel_rfl | (n + 1), h => by simp [ti104, nth] at h), (fun n h => nomatch h), (fun r h => nomatch h), (fun r h => by cases h; kernel_rfl)⟩
def ti105 : TI := ⟨3, true, none, (some (3, 5, 1)), (some [.int .u8 0, .int .u8 0, .int .u8 0]), (some (.ar 1)), 3, .other, [], none, none, (some (.agg [.int .u8 0, .int .u8 0, .int .u8 0]))⟩
theorem ok105 : TIOk Try.prog 105 ti105 := ⟨(by kernel_rfl), (by kernel_rfl), (fun r h => nomatch h), (fun r h => by cases h; kernel_rfl), (fun r h => by cases h; kernel_rfl), (fun r h => by cases h; kernel_rfl), (by kernel_rfl), (fun h => nomatch h), (fun h => nomatch h), (fun k h => nomatch h), (fun f r h => nomatch h), (fun n h => nomatch h), (fun r h => nomatch h), (fun r h => by cases h; kernel_rfl)⟩
def ti106 : TI := ⟨1, false, (some (176, 5)), none, (some [.nilsl]), none, 24, .other, [], none, none, (some (.nilsl))⟩
theorem ok106 : TIOk Try.prog 106 ti106 := ⟨(by kernel_rfl), (by kernel_rfl), (fun r h => by cases h; kernel_rfl), (fun r h => nomatch h), (fun r h => by cases h; kernel_rfl), (fun r h => nomatch h), (by kernel_rfl), (fun h => nomatch h), (fun h => nomatch h), (fun k h => nomatch h), (fun f r h => nomatch h), (fun n h => nomatch h), (fun r h => nomatch h), (fun r h => by cases h; kernel_rfl)⟩
def ti107 : TI := ⟨1, false, none, none, (some [.nilfn]), none, 8, .other, [], none, none, (some (.nilfn))⟩
theorem ok107 : TIOk Try.prog 107 ti107 := ⟨(by kernel_rfl), (by kernel_rfl), (fun r h => nomatch h), (fun r h => nomatch h), (fun r h => by cases h; kernel_rfl), (fun r h => nomatch h), (by kernel_rfl), (fun h => nomatch h), (fun h => nomatch h), (fun k h => nomatch h), (fun f r h => nomatch h), (fun n h => nomatch h), (fun r h => nomatch h), (fun r h => by cases h; kernel_rfl)⟩
def ti108 : TI := ⟨5, true, none, none, (some [.int .i64 0, .int .i64 0, .int .i64 0, .int .i64 0, .int .i64 0]), (some (.st [(0, 2), (2, 2), (4, 1)])), 40, .other, [(0, 2, 30), (2, 2, 30), (4, 1, 3)], (some 5), none, (some (.agg [.int .i64 0, .int .i64 0, .int .i64 0, .int .i64 0, .int .i64 0]))⟩
theorem ok108 : TIOk Try.prog 108 ti108 := ⟨(by kernel_rfl), (by kernel_rfl), (fun r h => nomatch h), (fun r h => nomatch h), (fun r h => by cases h; kernel_rfl), (fun r h => by cases h; kernel_rfl), (by kernel_rfl), (fun h => nomatch h), (fun h => nomatch h), (fun k h => nomatch h), (fun f r h => match f, h with | 0, h => by cases h; kernel_rfl | 1, h => by cases h; kernel_rfl | 2, h => by cases h; kernel_rfl | (n + 3), h => by simp [ti108, nth] at h), (fun n h => by cases h; exact ⟨by kernel_rfl, by kernel_rfl, by kernel_rfl⟩), (fun r h => nomatch h), (fun r h => by cases h; kernel_rfl)⟩
def ti109 : TI := ⟨5, true, none, none, (some [.int .i64 0, .int .i64 0, .int .i64 0, .int .i64 0, .int .i64 0]), (some (.st [(0, 2), (2, 2), (4, 1)])), 40, .other, [(0, 2, 30), (2, 2, 30), (4, 1, 3)], (some 5), none, (some (.agg [.int .i64 0, .int .i64 0, .int .i64 0, .int .i64 0, .int .i64 0]))⟩
theorem ok109 : TIOk Try.prog 109 ti109 := ⟨(by kernel_rfl), (by kernel_rfl), (fun r h => nomatch h), (fun r h => nomatch h), (fun r h => by cases h; kernel_rfl), (fun r h => by cases h; kernel_rfl), (by kernel_rfl), (fun h => nomatch h), (fun h => nomatch h), (fun k h => nomatch h), (fun f r h => match f, h with | 0, h => by cases h; kernel_rfl | 1, h => by cases h; kernel_rfl | 2, h => by cases h; kernel_rfl | (n + 3), h => by simp [ti109, nth] at h), (fun n h => by cases h; exact ⟨by kernel_rfl, by kernel_rfl, by kernel_rfl⟩), (fun r h => nomatch h), (fun r h => by cases h; kernel_rfl)⟩
def ti110 : TI := ⟨1, false, none, none, (some [.nilfn]), none, 8, .other, [], none, none, (some (.nilfn))⟩
theorem ok110 : TIOk Try.prog 110 ti110 := ⟨(by kernel_rfl), (by kernel_rfl), (fun r h => nomatch h), (fun r h => nomatch h), (fun r h => by cases h; kernel_rfl), (fun r h => nomatch h), (by kernel_rfl), (fun h => nomatch h), (fun h => nomatch h), (fun k h => nomatch h), (fun f r h => nomatch h), (fun n h => nomatch h), (fun r h => nomatch h), (fun r h => by cases h; kernel_rfl)⟩
def ti111 : TI := ⟨1, false, none, none, none, none, 0, .other, [], none, none, none⟩
theorem ok111 : TIOk Try.prog 111 ti111 := ⟨(by kernel_rfl), (by kernel_rfl), (fun r h => nomatch h), (fun r h => nomatch h), (fun r h => nomatch h), (fun r h => nomatch h), (by kernel_rfl), (fun h => nomatch h), (fun h => nomatch h), (fun k h => nomatch h), (fun f r h => nomatch h), (fun n h => nomatch h), (fun r h => nomatch h), (fun r h => nomatch h)⟩
def ti112 : TI := ⟨1, false, none, none, (some [.nilfn]), none, 8, .other, [], none, none, (some (.nilfn))⟩
theorem ok112 : TIOk Try.prog 112 ti112 := ⟨(by kernel_rfl), (by kernel_rfl), (fun r h => nomatch h), (fun r h => nomatch h), (fun r h => by cases h; kernel_rfl), (fun r h => nomatch h), (by kernel_rfl), (fun h => nomatch h), (fun h => nomatch h), (fun k h => nomatch h), (fun f r h => nomatch h), (fun n h => nomatch h), (fun r h => nomatch h), (fun r h => by cases h; kernel_rfl)⟩
def ti113 : TI := ⟨1, false, none, none, (some [.nilfn]), none, 8, .other, [], none, none, (some (.nilfn))⟩
theorem ok113 : TIOk Try.prog 113 ti113 := ⟨(by kernel_rfl), (by kernel_rfl), (fun r h => nomatch h), (fun r h => nomatch h), (fun r h => by cases h; kernel_rfl), (fun r h => nomatch h), (by kernel_rfl), (fun h => nomatch h), (fun h => nomatch h), (fun k h => nomatch h), (fun f r h => nomatch h), (fun n h => nomatch h), (fun r h => nomatch h), (fun r h => by cases h; kernel_rfl)⟩
def ti114 : TI := ⟨1, false, none, none, (some [.nilfn]), none, 8, .other, [], none, none, (some (.nilfn))⟩
theorem ok114 : TIOk Try.prog 114 ti114 := ⟨(by kernel_rfl), (by kernel_rfl), (fun r h => nomatch h), (fun r h => nomatch h), (fun r h => by cases h; kernel_rfl), (fun r h => nomatch h), (by kernel_rfl), (fun h => nomatch h), (fun h => nomatch h), (fun k h => nomatch h), (fun f r h => nomatch h), (fun n h => nomatch h), (fun r h => nomatch h), (fun r h => by cases h; kernel_rfl)⟩
def ti115 : TI := ⟨8, true, none, none, (some [.int .i64 0, .int .i64 0, .int .i64 0, .int .i64 0, .int .i64 0, .int .i64 0, .int .i64 0, .nilsl]), (some (.st [(0, 7), (7, 1)])), 80, .other, [(0, 7, 32), (7, 1, 33)], none, none, (some (.agg [.int .i64 0, .int .i64 0, .int .i64 0, .int .i64 0, .int .i64 0, .int .i64 0, .int .i64 0, .nilsl]))⟩
theorem ok115 : TIOk Try.prog 115 ti115 := ⟨(by kernel_rfl), (by kernel_rfl), (fun r h => nomatch h), (fun r h => nomatch h), (fun r h => by cases h; kernel_rfl), (fun r h => by cases h; kernel_rfl), (by kernel_rfl), (fun h => nomatch h), (fun h => nomatch h), (fun k h => nomatch h), (fun f r h => match f, h with | 0, h => by cases h; kernel_rfl | 1, h => by cases h; kernel_rfl | (n + 2), h => by simp [ti115, nth] at h), (fun n h => nomatch h), (fun r h => nomatch h), (fun r h => by cases h; kernel_rfl)⟩
def ti116 : TI := ⟨8, true, none, none, (some [.int .i64 0, .int .i64 0, .int .i64 0, .int .i64 0, .int .i64 0, .int .i64 0, .int .i64 0, .nilsl]), (some (.st [(0, 7), (7, 1)])), 80, .other, [(0, 7, 32), (7, 1, 33)], none, none, (some (.agg [.int .i64 0, .int .i64 0, .int .i64 0, .int .i64 0, .int .i64 0, .int .i64 0, .int .i64 0, .nilsl]))⟩
theorem ok116 : TIOk Try.prog 116 ti116 := ⟨(by kernel_rfl), (by kernel_rfl), (fun r h => nomatch h), (fun r h => nomatch h), (fun r h => by cases h; kernel_rfl), (fun r h => by cases h; kernel_rfl), (by kernel_rfl), (fun h => nomatch h), (fun h => nomatch h), (fun k h => nomatch h), (fun f r h => match f, h with | 0, h => by cases h; kernel_rfl | 1, h => by cases h; kernel_rfl | (n + 2), h => by simp [ti116, nth] at h), (fun n h => nomatch h), (fun r h => nomatch h), (fun r h => by cases h; kernel_rfl)⟩
def ti117 : TI := ⟨1, false, none, none, none, none, 0, .other, [], none, none, none⟩
theorem ok117 : TIOk Try.prog 117 ti117 := ⟨(by kernel_rfl), (by kernel_rfl), (fun r h => nomatch h), (fun r h => nomatch h), (fun r h => nomatch h), (fun r h => nomatch h), (by kernel_rfl), (fun h => nomatch h), (fun h => nomatch h), (fun k h => nomatch h), (fun f r h => nomatch h), (fun n h => nomatch h), (fun r h => nomatch h), (fun r h => nomatch h)⟩
def ti118 : TI := ⟨1, false, none, none, (some [.nilfn]), none, 8, .other, [], none, none, (some (.nilfn))⟩
theorem ok118 : TIOk Try.prog 118 ti118 := ⟨(by kernel_rfl), (by kernel_rfl), (fun r h => nomatch h), (fun r h => nomatch h), (fun r h => by cases h; kernel_rfl), (fun r h => nomatch h), (by kernel_rfl), (fun h => nomatch h), (fun h => nomatch h), (fun k h => nomatch h), (fun f r h => nomatch h), (fun n h => nomatch h), (fun r h => nomatch h), (fun r h => by cases h; kernel_rfl)⟩
def ti119 : TI := ⟨1, false, none, none, (some [.nilfn]), none, 8, .other, [], none, none, (some (.nilfn))⟩
theorem ok119 : TIOk Try.prog 119 ti119 := ⟨(by kernel_rfl), (by kernel_rfl), (fun r h => nomatch h), (fun r h => nomatch h), (fun r h => by cases h; kernel_rfl), (fun r h => nomatch h), (by kernel_rfl), (fun h => nomatch h), (fun h => nomatch h), (fun k h => nomatch h), (fun f r h => nomatch h), (fun n h => nomatch h), (fun r h => nomatch h), (fun r h => by cases h; kernel_rfl)⟩
def ti120 : TI := ⟨1, false, none, none, (some [.nilfn]), none, 8, .other, [], none, none, (some (.nilfn))⟩
theorem ok120 : TIOk Try.prog 120 ti120 := ⟨(by kernel_rfl), (by kernel_rfl), (fun r h => nomatch h), (fun r h => nomatch h), (fun r h => by cases h; kernel_rfl), (fun r h => nomatch h), (by kernel_rfl), (fun h => nomatch h), (fun h => nomatch h), (fun k h => nomatch h), (fun f r h => nomatch h), (fun n h => nomatch h), (fun r h => nomatch h), (fun r h => by cases h; kernel_rfl)⟩
def ti121 : TI := ⟨1, false, none, none, (some [.nilfn]), none, 8, .other, [], none, none, (some (.nilfn))⟩
theorem ok121 : TIOk Try.prog 121 ti121 := ⟨(by kernel_rfl), (by kernel_rfl), (fun r h => nomatch h), (fun r h => nomatch h), (fun r h => by cases h; kernel_rfl), (fun r h => nomatch h), (by kernel_rfl), (fun h => nomatch h), (fun h => nomatch h), (fun k h => nomatch h), (fun f r h => nomatch h), (fun n h => nomatch h), (fun r h => nomatch h), (fun r h => by cases h; kernel_rfl)⟩
def ti122 : TI := ⟨5, true, none, none, (some [.nilsl, .nilsl, .int .i64 0, .int .i64 0, .nilsl]), (some (.st [(0, 4), (4, 1)])), 88, .other, [(0, 4, 43), (4, 1, 33)], none, none, (some (.agg [.nilsl, .nilsl, .int .i64 0, .int .i64 0, .nilsl]))⟩
theorem ok122 : TIOk Try.prog 122 ti122 := ⟨(by kernel_rfl), (by kernel_rfl), (fun r h => nomatch h), (fun r h => nomatch h), (fun r h => by cases h; kernel_rfl), (fun r h => by cases h; kernel_rfl), (by kernel_rfl), (fun h => nomatch h), (fun h => nomatch h), (fun k h => nomatch h), (fun f r h => match f, h with | 0, h => by cases h; kernel_rfl | 1, h => by cases h; kernel_rfl | (n + 2), h => by simp [ti122, nth] at h), (fun n h => nomatch h), (fun r h => nomatch h), (fun r h => by cases h; kernel_rfl)⟩
def ti123 : TI := ⟨5, true, none, none, (some [.nilsl, .nilsl, .int .i64 0, .int .i64 0, .nilsl]), (some (.st [(0, 4), (4, 1)])), 88, .other, [(0, 4, 43), (4, 1, 33)], none, none, (some (.agg [.nilsl, .nilsl, .int .i64 0, .int .i64 0, .nilsl]))⟩
theorem ok123 : TIOk Try.prog 123 ti123 := ⟨(by kernel_rfl), (by kernel_rfl), (fun r h => nomatch h), (fun r h => nomatch h), (fun r h => by cases h; kernel_rfl), (fun r h => by cases h; kernel_rfl), (by kernel_rfl), (fun h => nomatch h), (fun h => nomatch h), (fun k h => nomatch h), (fun f r h => match f, h with | 0, h => by cases h; kernel_rfl | 1, h => by cases h; kernel_rfl | (n + 2), h => by simp [ti123, nth] at h), (fun n h => nomatch h), (fun r h => nomatch h), (fun r h => by cases h; kernel_rfl)⟩
def ti124 : TI := ⟨1, false, none, none, none, none, 0, .other, [], none, none, none⟩
theorem ok124 : TIOk Try.prog 124 ti124 := ⟨(by kernel_rfl), (by kernel_rfl), (fun r h => nomatch h), (fun r h => nomatch h), (fun r h => nomatch h), (fun r h => nomatch h), (by kernel_rfl), (fun h => nomatch h), (fun h => nomatch h), (fun k h => nomatch h), (fun f r h => nomatch h), (fun n h => nomatch h), (fun r h => nomatch h), (fun r h => nomatch h)⟩
def ti125 : TI := ⟨1, false, none, none, (some [.nilfn]), none, 8, .other, [], none, none, (some (.nilfn))⟩
theorem ok125 : TIOk Try.prog 125 ti125 := ⟨(by kernel_rfl), (by kernel_rfl), (fun r h => nomatch h), (fun r h => nomatch h), (fun r h => by cases h; kernel_rfl), (fun r h => nomatch h), (by kernel_rfl), (fun h => nomatch h), (fun h => nomatch h), (fun k h => nomatch h), (fun f r h => nomatch h), (fun n h => nomatch h), (fun r h => nomatch h), (fun r h => by cases h; kernel_rfl)⟩
def ti126 : TI := ⟨1, false, none, none, (some [.nilfn]), none, 8, .other, [], none, none, (some (.nilfn))⟩
theorem ok126 : TIOk Try.prog 126 ti126 := ⟨(by kernel_rfl), (by kernel_rfl), (fun r h => nomatch h), (fun r h => nomatch h), (fun r h => by cases h; kernel_rfl), (fun r h => nomatch h), (by kernel_rfl), (fun h => nomatch h), (fun h => nomatch h), (fun k h => nomatch h), (fun f r h => nomatch h), (fun n h => nomatch h), (fun r h => nomatch h), (fun r h => by cases h; kernel_rfl)⟩
def ti127 : TI := ⟨1, false, none, none, (some [.nilfn]), none, 8, .other, [], none, none, (some (.nilfn))⟩
theorem ok127 : TIOk Try.prog 127 ti127 := ⟨(by kernel_rfl), (by kernel_rfl), (fun r h => nomatch h), (fun r h => nomatch h), (fun r h => by cases h; kernel_rfl), (fun r h => nomatch h), (by kernel_rfl), (fun h => nomatch h), (fun h => nomatch h), (fun k h => nomatch h), (fun f r h => nomatch h), (fun n h => nomatch h), (fun r h => nomatch h), (fun r h => by cases h; kernel_rfl)⟩
def ti128 : TI := ⟨1, false, none, none, (some [.nilfn]), none, 8, .other, [], none, none, (some (.nilfn))⟩
theorem ok128 : TIOk Try.prog 128 ti128 := ⟨(by kernel_rfl), (by kernel_rfl), (fun r h => nomatch h), (fun r h => nomatch h), (fun r h => by cases h; kernel_rfl), (fun r h => nomatch h), (by kernel_rfl), (fun h => nomatch h), (fun h => nomatch h), (fun k h => nomatch h), (fun f r h => nomatch h), (fun n h => nomatch h), (fun r h => nomatch h), (fun r h => by cases h; kernel_rfl)⟩
def ti129 : TI := ⟨1, false, (some (200, 3)), none, (some [.nilsl]), none, 24, .other, [], none, none, (some (.nilsl))⟩
theorem ok129 : TIOk Try.prog 129 ti129 := ⟨(by kernel_rfl), (by kernel_rfl), (fun r h => by cases h; kernel_rfl), (fun r h => nomatch h), (fun r h => by cases h; kernel_rfl), (fun r h => nomatch h), (by kernel_rfl), (fun h => nomatch h), (fun h => nomatch h), (fun k h => nomatch h), (fun f r h => nomatch h), (fun n h => nomatch h), (fun r h => nomatch h), (fun r h => by cases h; kernel_rfl)⟩
def ti130 : TI := ⟨3, true, none, (some (3, 129, 1)), (some [.nilsl, .nilsl, .nilsl]), (some (.ar 1)), 72, .other, [], none, none, (some (.agg [.nilsl, .nilsl, .nilsl]))⟩
theorem ok130 : TIOk Try.prog 130 ti130 := ⟨(by kernel_rfl), (by kernel_rfl), (fun r h => nomatch h), (fun r h => by cases h; kernel_rfl), (fun r h => by cases h; kernel_rfl), (fun r h => by cases h; kernel_rfl), (by kernel_rfl), (fun h => nomatch h), (fun h => nomatch h), (fun k h => nomatch h), (fun f r h => nomatch h), (fun n h => nomatch h), (fun r h => nomatch h), (fun r h => by cases h; kernel_rfl)⟩
def ti131 : TI := ⟨3, true, none, (some (3, 129, 1)), (some [.nilsl, .nilsl, .nilsl]), (some (.ar 1)), 72, .other, [], none, none, (some (.agg [.nilsl, .nilsl, .nilsl]))⟩
theorem ok131 : TIOk Try.prog 131 ti131 := ⟨(by kernel_rfl), (by kernel_rfl), (fun r h => nomatch h), (fun r h => by cases h; kernel_rfl), (fun r h => by cases h; kernel_rfl), (fun r h => by cases h; kernel_rfl), (by kernel_rfl), (fun h => nomatch h), (fun h => nomatch h), (fun k h => nomatch h), (fun f r h => nomatch h), (fun n h => nomatch h), (fun r h => nomatch h), (fun r h => by cases h; kernel_rfl)⟩
def ti132 : TI := ⟨1, false, none, none, none, none, 0, .other, [], none, none, none⟩
theorem ok132 : TIOk Try.prog 132 ti132 := ⟨(by kernel_rfl), (by kernel_rfl), (fun r h => nomatch h), (fun r h => nomatch h), (fun r h => nomatch h), (fun r h => nomatch h), (by kernel_rfl), (fun h => nomatch h), (fun h => nomatch h), (fun k h => nomatch h), (fun f r h => nomatch h), (fun n h => nomatch h), (fun r h => nomatch h), (fun r h => nomatch h)⟩
def ti133 : TI := ⟨1, false, none, none, (some [.nilfn]), none, 8, .other, [], none, none, (some (.nilfn))⟩
theorem ok133 : TIOk Try.prog 133 ti133 := ⟨(by kernel_rfl), (by kernel_rfl), (fun r h => nomatch h), (fun r h => nomatch h), (fun r h => by cases h; kernel_rfl), (fun r h => nomatch h), (by kernel_rfl), (fun h => nomatch h), (fun h => nomatch h), (fun k h => nomatch h), (fun f r h => nomatch h), (fun n h => nomatch h), (fun r h => nomatch h), (fun r h => by cases h; kernel_rfl)⟩
def ti134 : TI := ⟨1, false, none, none, (some [.nilfn]), none, 8, .other, [], none, none, (some (.nilfn))⟩
theorem ok134 : TIOk Try.prog 134 ti134 := ⟨(by kernel_rfl), (by kernel_rfl), (fun r h => nomatch h), (fun r h => nomatch h), (fun r h => by cases h; kernel_rfl), (fun r h => nomatch h), (by kernel_rfl), (fun h => nomatch h), (fun h => nomatch h), (fun k h => nomatch h), (fun f r h => nomatch h), (fun n h => nomatch h), (fun r h => nomatch h), (fun r h => by cases h; kernel_rfl)⟩
def ti135 : TI := ⟨1, false, none, none, (some [.nilmap]), none, 8, .other, [], none, (some (141, 3)), (some (.nilmap))⟩
theorem ok135 : TIOk Try.prog 135 ti135 := ⟨(by kernel_rfl), (by kernel_rfl), (fun r h => nomatch h), (fun r h => nomatch h), (fun r h => by cases h; kernel_rfl), (fun r h => nomatch h), (by kernel_rfl), (fun h => nomatch h), (fun h => nomatch h), (fun k h => nomatch h), (fun f r h => nomatch h), (fun n h => nomatch h), (fun r h => by cases h; kernel_rfl), (fun r h => by cases h; kernel_rfl)⟩
def ti136 : TI := ⟨9, true, none, none, (some [.int .i64 0, .int .i64 0, .int .i64 0, .int .i64 0, .int .i64 0, .int .i64 0, .int .i64 0, .nilsl, .nilmap]), (some (.st [(0, 8), (8, 1)])), 88, .other, [(0, 8, 116), (8, 1, 135)], none, none, (some (.agg [.int .i64 0, .int .i64 0, .int .i64 0, .int .i64 0, .int .i64 0, .int .i64 0, .int .i64 0, .nilsl, .nilmap]))⟩
theorem ok136 : TIOk Try.prog 136 ti136 := ⟨(by kernel_rfl), (by kernel_rfl), (fun r h => nomatch h), (fun r h => nomatch h), (fun r h => by cases h; kernel_rfl), (fun r h => by cases h; kernel_rfl), (by kernel_rfl), (fun h => nomatch h), (fun h => nomatch h), (fun k h => nomatch h), (fun f r h => match f, h with | 0, h => by cases h; kernel_rfl | 1, h => by cases h; kernel_rfl | (n + 2), h => by simp [ti136, nth] at h), (fun n h => nomatch h), (fun r h => nomatch h), (fun r h => by cases h; kernel_rfl)⟩
def ti137 : TI := ⟨9, true, none, none, (some [.int .i64 0, .int .i64 0, .int .i64 0, .int .i64 0, .int .i64 0, .int .i64 0, .int .i64 0, .nilsl, .nilmap]), (some (.st [(0, 8), (8, 1)])), 88, .other, [(0, 8, 116), (8, 1, 135)], none, none, (some (.agg [.int .i64 0, .int .i64 0, .int .i64 0, .int .i64 0, .int .i64 0, .int .i64 0, .int .i64 0, .nilsl, .nilmap]))⟩
theorem ok137 : TIOk Try.prog 137 ti137 := ⟨(by kernel_rfl), (by kernel_rfl), (fun r h => nomatch h), (fun r h => nomatch h), (fun r h => by cases h; kernel_rfl), (fun r h => by cases h; kernel_rfl), (by kernel_rfl), (fun h => nomatch h), (fun h => nomatch h), (fun k h => nomatch h), (fun f r h => match f, h with | 0, h => by cases h; kernel_rfl | 1, h => by cases h; kernel_rfl | (n + 2), h => by simp [ti137, nth] at h), (fun n h => nomatch h), (fun r h => nomatch h), (fun r h => by cases h; kernel_rfl)⟩
def ti138 : TI := ⟨1, false, none, none, (some [.nilfn]), none, 8, .other, [], none, none, (some (.nilfn))⟩
theorem ok138 : TIOk Try.prog 138 ti138 := ⟨(by kernel_rfl), (by kernel_rfl), (fun r h => nomatch h), (fun r h => nomatch h), (fun r h => by cases h; kernel_rfl), (fun r h => nomatch h), (by kernel_rfl), (fun h => nomatch h), (fun h => nomatch h), (fun k h => nomatch h), (fun f r h => nomatch h), (fun n h => nomatch h), (fun r h => nomatch h), (fun r h => by cases h; kernel_rfl)⟩
def ti139 : TI := ⟨1, false, none, none, (some [.nilfn]), none, 8, .other, [], none, none, (some (.nilfn))⟩
theorem ok139 : TIOk Try.prog 139 ti139 := ⟨(by kernel_rfl), (by kernel_rfl), (fun r h => nomatch h), (fun r h => nomatch h), (fun r h => by cases h; kernel_rfl), (fun r h => nomatch h), (by kernel_rfl), (fun h => nomatch h), (fun h => nomatch h), (fun k h => nomatch h), (fun f r h => nomatch h), (fun n h => nomatch h), (fun r h => nomatch h), (fun r h => by cases h; kernel_rfl)⟩
def ti140 : TI := ⟨2, true, none, none, (some [.int .i64 0, .int .i64 0]), (some (.st [(0, 1), (1, 1)])), 16, .other, [(0, 1, 3), (1, 1, 3)], (some 2), none, (some (.agg [.int .i64 0, .int .i64 0]))⟩
theorem ok140 : TIOk Try.prog 140 ti140 := ⟨(by kernel_rfl), (by kernel_rfl), (fun r h => nomatch h), (fun r h => nomatch h), (fun r h => by cases h; kernel_rfl), (fun r h => by cases h; kernel_rfl), (by kernel_rfl), (fun h => nomatch h), (fun h => nomatch h), (fun k h => nomatch h), (fun f r h => match f, h with | 0, h => by cases h; kernel_rfl | 1, h => by cases h; kernel_rfl | (n + 2), h => by simp [ti140, nth] at h), (fun n h => by cases h; exact ⟨by kernel_rfl, by kernel_rfl, by kernel_rfl⟩), (fun r h => nomatch h), (fun r h => by cases h; kernel_rfl)⟩
def ti141 : TI := ⟨2, true, none, none, (some [.int .i64 0, .int .i64 0]), (some (.st [(0, 1), (1, 1)])), 16, .other, [(0, 1, 3), (1, 1, 3)], (some 2), none, (some (.agg [.int .i64 0, .int .i64 0]))⟩
theorem ok141 : TIOk Try.prog 141 ti141 := ⟨(by kernel_rfl), (by kernel_rfl), (fun r h => nomatch h), (fun r h => nomatch h), (fun r h => by cases h; kernel_rfl), (fun r h => by cases h; kernel_rfl), (by kernel_rfl), (fun h => nomatch h), (fun h => nomatch h), (fun k h => nomatch h), (fun f r h => match f, h with | 0, h => by cases h; kernel_rfl | 1, h => by cases h; kernel_rfl | (n + 2), h => by simp [ti141, nth] at h), (fun n h => by cases h; exact ⟨by kernel_rfl, by kernel_rfl, by kernel_rfl⟩), (fun r h => nomatch h), (fun r h => by cases h; kernel_rfl)⟩
def ti142 : TI := ⟨1, false, none, none, (some [.nilfn]), none, 8, .other, [], none, none, (some (.nilfn))⟩
theorem ok142 : TIOk Try.prog 142 ti142 := ⟨(by kernel_rfl), (by kernel_rfl), (fun r h => nomatch h), (fun r h => nomatch h), (fun r h => by cases h; kernel_rfl), (fun r h => nomatch h), (by kernel_rfl), (fun h => nomatch h), (fun h => nomatch h), (fun k h => nomatch h), (fun f r h => nomatch h), (fun n h => nomatch h), (fun r h => nomatch h), (fun r h => by cases h; kernel_rfl)⟩
def ti143 : TI := ⟨1, false, none, none, (some [.nilfn]), none, 8, .other, [], none, none, (some (.nilfn))⟩
theorem ok143 : TIOk Try.prog 143 ti143 := ⟨(by kernel_rfl), (by kernel_rfl), (fun r h => nomatch h), (fun r h => nomatch h), (fun r h => by cases h; kernel_rfl), (fun r h => nomatch h), (by kernel_rfl), (fun h => nomatch h), (fun h => nomatch h), (fun k h => nomatch h), (fun f r h => nomatch h), (fun n h => nomatch h), (fun r h => nomatch h), (fun r h => by cases h; kernel_rfl)⟩
def ti144 : TI := ⟨1, false, none, none, (some [.nilfn]), none, 8, .other, [], none, none, (some (.nilfn))⟩
theorem ok144 : TIOk Try.prog 144 ti144 := ⟨(by kernel_rfl), (by kernel_rfl), (fun r h => nomatch h), (fun r h => nomatch h), (fun r h => by cases h; kernel_rfl), (fun r h => nomatch h), (by kernel_rfl), (fun h => nomatch h), (fun h => nomatch h), (fun k h => nomatch h), (fun f r h => nomatch h), (fun n h => nomatch h), (fun r h => nomatch h), (fun r h => by cases h; kernel_rfl)⟩
def ti145 : TI := ⟨3, true, none, (some (3, 3, 1)), (some [.int .i64 0, .int .i64 0, .int .i64 0]), (some (.ar 1)), 24, .other, [], none, none, (some (.agg [.int .i64 0, .int .i64 0, .int .i64 0]))⟩
theorem ok145 : TIOk Try.prog 145 ti145 := ⟨(by kernel_rfl), (by kernel_rfl), (fun r h => nomatch h), (fun r h => by cases h; kernel_rfl), (fun r h => by cases h; kernel_rfl), (fun r h => by cases h; kernel_rfl), (by kernel_rfl), (fun h => nomatch h), (fun h => nomatch h), (fun k h => nomatch h), (fun f r h => nomatch h), (fun n h => nomatch h), (fun r h => nomatch h), (fun r h => by cases h; kernel_rfl)⟩
def ti146 : TI := ⟨3, true, none, (some (3, 3, 1)), (some [.int .i64 0, .int .i64 0, .int .i64 0]), (some (.ar 1)), 24, .other, [], none, none, (some (.agg [.int .i64 0, .int .i64 0, .int .i64 0]))⟩
theorem ok146 : TIOk Try.prog 146 ti146 := ⟨(by kernel_rfl), (by kernel_rfl), (fun r h => nomatch h), (fun r h => by cases h; kernel_rfl), (fun r h => by cases h; kernel_rfl), (fun r h => by cases h; kernel_rfl), (by kernel_rfl), (fun h => nomatch h), (fun h => nomatch h), (fun k h => nomatch h), (fun f r h => nomatch h), (fun n h => nomatch h), (fun r h => nomatch h), (fun r h => by cases h; kernel_rfl)⟩
def ti147 : TI := ⟨1, false, none, none, none, none, 0, .other, [], none, none, none⟩
theorem ok147 : TIOk Try.prog 147 ti147 := ⟨(by kernel_rfl), (by kernel_rfl), (fun r h => nomatch h), (fun r h => nomatch h), (fun r h => nomatch h), (fun r h => nomatch h), (by kernel_rfl), (fun h => nomatch h), (fun h => nomatch h), (fun k h => nomatch h), (fun f r h => nomatch h), (fun n h => nomatch h), (fun r h => nomatch h), (fun r h => nomatch h)⟩
def ti148 : TI := ⟨1, false, none, none, (some [.nilfn]), none, 8, .other, [], none, none, (some (.nilfn))⟩
theorem ok148 : TIOk Try.prog 148 ti148 := ⟨(by kernel_rfl), (by kernel_rfl), (fun r h => nomatch h), (fun r h => nomatch h), (fun r h => by cases h; kernel_rfl), (fun r h => nomatch h), (by kernel_rfl), (fun h => nomatch h), (fun h => nomatch h), (fun k h => nomatch h), (fun f r h => nomatch h), (fun n h => nomatch h), (fun r h => nomatch h), (fun r h => by cases h; kernel_rfl)⟩
def ti149 : TI := ⟨1, false, none, none, (some [.nilfn]), none, 8, .other, [], none, none, (some (.nilfn))⟩
theorem ok149 : TIOk Try.prog 149 ti149 := ⟨(by kernel_rfl), (by kernel_rfl), (fun r h => nomatch h), (fun r h => nomatch h), (fun r h => by cases h; kernel_rfl), (fun r h => nomatch h), (by kernel_rfl), (fun h => nomatch h), (fun h => nomatch h), (fun k h => nomatch h), (fun f r h => nomatch h), (fun n h => nomatch h), (fun r h => nomatch h), (fun r h => by cases h; kernel_rfl)⟩
def ti150 : TI := ⟨1, false, none, none, (some [.nilfn]), none, 8, .other, [], none, none, (some (.nilfn))⟩
theorem ok150 : TIOk Try.prog 150 ti150 := ⟨(by kernel_rfl), (by kernel_rfl), (fun r h => nomatch h), (fun r h => nomatch h), (fun r h => by cases h; kernel_rfl), (fun r h => nomatch h), (by kernel_rfl), (fun h => nomatch h), (fun h => nomatch h), (fun k h => nomatch h), (fun f r h => nomatch h), (fun n h => nomatch h), (fun r h => nomatch h), (fun r h => by cases h; kernel_rfl)⟩
def ti151 : TI := ⟨1, false, none, none, (some [.nilfn]), none, 8, .other, [], none, none, (some (.nilfn))⟩
theorem ok151 : TIOk Try.prog 151 ti151 := ⟨(by kernel_rfl), (by kernel_rfl), (fun r h => nomatch h), (fun r h => nomatch h), (fun r h => by cases h; kernel_rfl), (fun r h => nomatch h), (by kernel_rfl), (fun h => nomatch h), (fun h => nomatch h), (fun k h => nomatch h), (fun f r h => nomatch h), (fun n h => nomatch h), (fun r h => nomatch h), (fun r h => by cases h; kernel_rfl)⟩
def ti152 : TI := ⟨1, false, none, none, (some [.nilfn]), none, 8, .other, [], none, none, (some (.nilfn))⟩
theorem ok152 : TIOk Try.prog 152 ti152 := ⟨(by kernel_rfl), (by kernel_rfl), (fun r h => nomatch h), (fun r h => nomatch h), (fun r h => by cases h; kernel_rfl), (fun r h => nomatch h), (by kernel_rfl), (fun h => nomatch h), (fun h => nomatch h), (fun k h => nomatch h), (fun f r h => nomatch h), (fun n h => nomatch h), (fun r h => nomatch h), (fun r h => by cases h; kernel_rfl)⟩
def ti153 : TI := ⟨1, false, none, none, (some [.nilfn]), none, 8, .other, [], none, none, (some (.nilfn))⟩
theorem ok153 : TIOk Try.prog 153 ti153 := ⟨(by kernel_rfl), (by kernel_rfl), (fun r h => nomatch h), (fun r h => nomatch h), (fun r h => by cases h; kernel_rfl), (fun r h => nomatch h), (by kernel_rfl), (fun h => nomatch h), (fun h => nomatch h), (fun k h => nomatch h), (fun f r h => nomatch h), (fun n h => nomatch h), (fun r h => nomatch h), (fun r h => by cases h; kernel_rfl)⟩
def ti154 : TI := ⟨1, false, none, none, (some [.nilfn]), none, 8, .other, [], none, none, (some (.nilfn))⟩
theorem ok154 : TIOk Try.prog 154 ti154 := ⟨(by kernel_rfl), (by kernel_rfl), (fun r h => nomatch h), (fun r h => nomatch h), (fun r h => by cases h; kernel_rfl), (fun r h => nomatch h), (by kernel_rfl), (fun h => nomatch h), (fun h => nomatch h), (fun k h => nomatch h), (fun f r h => nomatch h), (fun n h => nomatch h), (fun r h => nomatch h), (fun r h => by cases h; kernel_rfl)⟩
def ti155 : TI := ⟨1, false, none, none, (some [.nilfn]), none, 8, .other, [], none, none, (some (.nilfn))⟩
theorem ok155 : TIOk Try.prog 155 ti155 := ⟨(by kernel_rfl), (by kernel_rfl), (fun r h => nomatch h), (fun r h => nomatch h), (fun r h => by cases h; kernel_rfl), (fun r h => nomatch h), (by kernel_rfl), (fun h => nomatch h), (fun h => nomatch h), (fun k h => nomatch h), (fun f r h => nomatch h), (fun n h => nomatch h), (fun r h => nomatch h), (fun r h => by cases h; kernel_rfl)⟩
def ti156 : TI := ⟨2, true, none, none, (some [.int .i64 0, .bool false]), (some (.st [(0, 1), (1, 1)])), 16, .other, [(0, 1, 3), (1, 1, 4)], none, none, (some (.agg [.int .i64 0, .bool false]))⟩
theorem ok156 : TIOk Try.prog 156 ti156 := ⟨(by kernel_rfl), (by kernel_rfl), (fun r h => nomatch h), (fun r h => nomatch h), (fun r h => by cases h; kernel_rfl), (fun r h => by cases h; kernel_rfl), (by kernel_rfl), (fun h => nomatch h), (fun h => nomatch h), (fun k h => nomatch h), (fun f r h => match f, h with | 0, h => by cases h; kernel_rfl | 1, h => by cases h; kernel_rfl | (n + 2), h => by simp [ti156, nth] at h), (fun n h => nomatch h), (fun r h => nomatch h), (fun r h => by cases h; kernel_rfl)⟩
def ti157 : TI := ⟨2, true, none, none, (some [.int .i64 0, .bool false]), (some (.st [(0, 1), (1, 1)])), 16, .other, [(0, 1, 3), (1, 1, 4)], none, none, (some (.agg [.int .i64 0, .bool false]))⟩
theorem ok157 : TIOk Try.prog 157 ti157 := ⟨(by kernel_rfl), (by kernel_rfl), (fun r h => nomatch h), (fun r h => nomatch h), (fun r h => by cases h; kernel_rfl), (fun r h => by cases h; kernel_rfl), (by kernel_rfl), (fun h => nomatch h), (fun h => nomatch h), (fun k h => nomatch h), (fun f r h => match f, h with | 0, h => by cases h; kernel_rfl | 1, h => by cases h; kernel_rfl | (n + 2), h => by simp [ti157, nth] at h), (fun n h => nomatch h), (fun r h => nomatch h), (fun r h => by cases h; kernel_rfl)⟩
def ti158 : TI := ⟨1, false, (some (157, 2)), none, (some [.nilsl]), none, 24, .other, [], none, none, (some (.nilsl))⟩
theorem ok158 : TIOk Try.prog 158 ti158 := ⟨(by kernel_rfl), (by kernel_rfl), (fun r h => by cases h; kernel_rfl), (fun r h => nomatch h), (fun r h => by cases h; kernel_rfl), (fun r h => nomatch h), (by kernel_rfl), (fun h => nomatch h), (fun h => nomatch h), (fun k h => nomatch h), (fun f r h => nomatch h), (fun n h => nomatch h), (fun r h => nomatch h), (fun r h => by cases h; kernel_rfl)⟩
def ti159 : TI := ⟨1, false, none, none, (some [.nilfn]), none, 8, .other, [], none, none, (some (.nilfn))⟩
theorem ok159 : TIOk Try.prog 159 ti159 := ⟨(by kernel_rfl), (by kernel_rfl), (fun r h => nomatch h), (fun r h => nomatch h), (fun r h => by cases h; kernel_rfl), (fun r h => nomatch h), (by kernel_rfl), (fun h => nomatch h), (fun h => nomatch h), (fun k h => nomatch h), (fun f r h => nomatch h), (fun n h => nomatch h), (fun r h => nomatch h), (fun r h => by cases h; kernel_rfl)⟩
def ti160 : TI := ⟨1, false, none, none, (some [.nilfn]), none, 8, .other, [], none, none, (some (.nilfn))⟩
theorem ok160 : TIOk Try.prog 160 ti160 := ⟨(by kernel_rfl), (by kernel_rfl), (fun r h => nomatch h), (fun r h => nomatch h), (fun r h => by cases h; kernel_rfl), (fun r h => nomatch h), (by kernel_rfl), (fun h => nomatch h), (fun h => nomatch h), (fun k h => nomatch h), (fun f r h => nomatch h), (fun n h => nomatch h), (fun r h => nomatch h), (fun r h => by cases h; kernel_rfl)⟩
def ti161 : TI := ⟨1, false, none, none, (some [.nilfn]), none, 8, .other, [], none, none, (some (.nilfn))⟩
theorem ok161 : TIOk Try.prog 161 ti161 := ⟨(by kernel_rfl), (by kernel_rfl), (fun r h => nomatch h), (fun r h => nomatch h), (fun r h => by cases h; kernel_rfl), (fun r h => nomatch h), (by kernel_rfl), (fun h => nomatch h), (fun h => nomatch h), (fun k h => nomatch h), (fun f r h => nomatch h), (fun n h => nomatch h), (fun r h => nomatch h), (fun r h => by cases h; kernel_rfl)⟩
def ti162 : TI := ⟨1, false, none, none, (some [.nilfn]), none, 8, .other, [], none, none, (some (.nilfn))⟩
theorem ok162 : TIOk Try.prog 162 ti162 := ⟨(by kernel_rfl), (by kernel_rfl), (fun r h => nomatch h), (fun r h => nomatch h), (fun r h => by cases h; kernel_rfl), (fun r h => nomatch h), (by kernel_rfl), (fun h => nomatch h), (fun h => nomatch h), (fun k h => nomatch h), (fun f r h => nomatch h), (fun n h => nomatch h), (fun r h => nomatch h), (fun r h => by cases h; kernel_rfl)⟩
def ti163 : TI := ⟨1, false, none, none, (some [.nilfn]), none, 8, .other, [], none, none, (some (.nilfn))⟩
theorem ok163 : TIOk Try.prog 163 ti163 := ⟨(by kernel_rfl), (by kernel_rfl), (fun r h => nomatch h), (fun r h => nomatch h), (fun r h => by cases h; kernel_rfl), (fun r h => nomatch h), (by kernel_rfl), (fun h => nomatch h), (fun h => nomatch h), (fun k h => nomatch h), (fun f r h => nomatch h), (fun n h => nomatch h), (fun r h => nomatch h), (fun r h => by cases h; kernel_rfl)⟩
def ti164 : TI := ⟨2, true, none, none, (some [.int .i64 0, .int .i64 0]), (some (.st [(0, 1), (1, 1)])), 16, .other, [(0, 1, 3), (1, 1, 3)], (some 2), none, (some (.agg [.int .i64 0, .int .i64 0]))⟩
theorem ok164 : TIOk Try.prog 164 ti164 := ⟨(by kernel_rfl), (by kernel_rfl), (fun r h => nomatch h), (fun r h => nomatch h), (fun r h => by cases h; kernel_rfl), (fun r h => by cases h; kernel_rfl), (by kernel_rfl), (fun h => nomatch h), (fun h => nomatch h), (fun k h => nomatch h), (fun f r h => match f, h with | 0, h => by cases h; kernel_rfl | 1, h => by cases h; kernel_rfl | (n + 2), h => by simp [ti164, nth] at h), (fun n h => by cases h; exact ⟨by kernel_rfl, by kernel_rfl, by kernel_rfl⟩), (fun r h => nomatch h), (fun r h => by cases h; kernel_rfl)⟩
def ti165 : TI := ⟨2, true, none, none, (some [.int .i64 0, .int .i64 0]), (some (.st [(0, 1), (1, 1)])), 16, .other, [(0, 1, 3), (1, 1, 3)], (some 2), none, (some (.agg [.int .i64 0, .int .i64 0]))⟩
theorem ok165 : TIOk Try.prog 165 ti165 := ⟨(by kernel_rfl), (by kernel_rfl), (fun r h => nomatch h), (fun r h => nomatch h), (fun r h => by cases h; kernel_rfl), (fun r h => by cases h; kernel_rfl), (by kernel_rfl), (fun h => nomatch h), (fun h => nomatch h), (fun k h => nomatch h), (fun f r h => match f, h with | 0, h => by cases h; kernel_rfl | 1, h => by cases h; kernel_rfl | (n + 2), h => by simp [ti165, nth] at h), (fun n h => by cases h; exact ⟨by kernel_rfl, by kernel_rfl, by kernel_rfl⟩), (fun r h => nomatch h), (fun r h => by cases h; kernel_rfl)⟩
def ti166 : TI := ⟨1, false, none, none, (some [.nilfn]), none, 8, .other, [], none, none, (some (.nilfn))⟩
theorem ok166 : TIOk Try.prog 166 ti166 := ⟨(by kernel_rfl), (by kernel_rfl), (fun r h => nomatch h), (fun r h => nomatch h), (fun r h => by cases h; kernel_rfl), (fun r h => nomatch h), (by kernel_rfl), (fun h => nomatch h), (fun h => nomatch h), (fun k h => nomatch h), (fun f r h => nomatch h), (fun n h => nomatch h), (fun r h => nomatch h), (fun r h => by cases h; kernel_rfl)⟩
def ti167 : TI := ⟨1, false, none, none, (some [.nilfn]), none, 8, .other, [], none, none, (some (.nilfn))⟩
theorem ok167 : TIOk Try.prog 167 ti167 := ⟨(by kernel_rfl), (by kernel_rfl), (fun r h => nomatch h), (fun r h => nomatch h), (fun r h => by cases h; kernel_rfl), (fun r h => nomatch h), (by kernel_rfl), (fun h => nomatch h), (fun h => nomatch h), (fun k h => nomatch h), (fun f r h => nomatch h), (fun n h => nomatch h), (fun r h => nomatch h), (fun r h => by cases h; kernel_rfl)⟩
def ti168 : TI := ⟨1, false, none, none, (some [.nilfn]), none, 8, .other, [], none, none, (some (.nilfn))⟩
theorem ok168 : TIOk Try.prog 168 ti168 := ⟨(by kernel_rfl), (by kernel_rfl), (fun r h => nomatch h), (fun r h => nomatch h), (fun r h => by cases h; kernel_rfl), (fun r h => nomatch h), (by kernel_rfl), (fun h => nomatch h), (fun h => nomatch h), (fun k h => nomatch h), (fun f r h => nomatch h), (fun n h => nomatch h), (fun r h => nomatch h), (fun r h => by cases h; kernel_rfl)⟩
def ti169 : TI := ⟨1, false, none, none, (some [.nilfn]), none, 8, .other, [], none, none, (some (.nilfn))⟩
theorem ok169 : TIOk Try.prog 169 ti169 := ⟨(by kernel_rfl), (by kernel_rfl), (fun r h => nomatch h), (fun r h => nomatch h), (fun r h => by cases h; kernel_rfl), (fun r h => nomatch h), (by kernel_rfl), (fun h => nomatch h), (fun h => nomatch h), (fun k h => nomatch h), (fun f r h => nomatch h), (fun n h => nomatch h), (fun r h => nomatch h), (fun r h => by cases h; kernel_rfl)⟩
def ti170 : TI := ⟨1, false, none, none, (some [.nilfn]), none, 8, .other, [], none, none, (some (.nilfn))⟩
theorem ok170 : TIOk Try.prog 170 ti170 := ⟨(by kernel_rfl), (by kernel_rfl), (fun r h => nomatch h), (fun r h => nomatch h), (fun r h => by cases h; kernel_rfl), (fun r h => nomatch h), (by kernel_rfl), (fun h => nomatch h), (fun h => nomatch h), (fun k h => nomatch h), (fun f r h => nomatch h), (fun n h => nomatch h), (fun r h => nomatch h), (fun r h => by cases h; kernel_rfl)⟩
def ti171 : TI := ⟨1, false, none, none, (some [.nilfn]), none, 8, .other, [], none, none, (some (.nilfn))⟩
theorem ok171 : TIOk Try.prog 171 ti171 := ⟨(by kernel_rfl), (by kernel_rfl), (fun r h => nomatch h), (fun r h => nomatch h), (fun r h => by cases h; kernel_rfl), (fun r h => nomatch h), (by kernel_rfl), (fun h => nomatch h), (fun h => nomatch h), (fun k h => nomatch h), (fun f r h => nomatch h), (fun n h => nomatch h), (fun r h => nomatch h), (fun r h => by cases h; kernel_rfl)⟩
def ti172 : TI := ⟨1, false, none, none, (some [.nilfn]), none, 8, .other, [], none, none, (some (.nilfn))⟩
theorem ok172 : TIOk Try.prog 172 ti172 := ⟨(by kernel_rfl), (by kernel_rfl), (fun r h => nomatch h), (fun r h => nomatch h), (fun r h => by cases h; kernel_rfl), (fun r h => nomatch h), (by kernel_rfl), (fun h => nomatch h), (fun h => nomatch h), (fun k h => nomatch h), (fun f r h => nomatch h), (fun n h => nomatch h), (fun r h => nomatch h), (fun r h => by cases h; kernel_rfl)⟩
def ti173 : TI := ⟨1, false, none, none, (some [.nilfn]), none, 8, .other, [], none, none, (some (.nilfn))⟩
theorem ok173 : TIOk Try.prog 173 ti173 := ⟨(by kernel_rfl), (by kernel_rfl), (fun r h => nomatch h), (fun r h => nomatch h), (fun r h => by cases h; kernel_rfl), (fun r h => nomatch h), (by kernel_rfl), (fun h => nomatch h), (fun h => nomatch h), (fun k h => nomatch h), (fun f r h => nomatch h), (fun n h => nomatch h), (fun r h => nomatch h), (fun r h => by cases h; kernel_rfl)⟩
def ti174 : TI := ⟨1, false, none, none, (some [.nilfn]), none, 8, .other, [], none, none, (some (.nilfn))⟩
theorem ok174 : TIOk Try.prog 174 ti174 := ⟨(by kernel_rfl), (by kernel_rfl), (fun r h => nomatch h), (fun r h => nomatch h), (fun r h => by cases h; kernel_rfl), (fun r h => nomatch h), (by kernel_rfl), (fun h => nomatch h), (fun h => nomatch h), (fun k h => nomatch h), (fun f r h => nomatch h), (fun n h => nomatch h), (fun r h => nomatch h), (fun r h => by cases h; kernel_rfl)⟩
def ti175 : TI := ⟨5, true, none, none, (some [.int .i64 0, .int .i64 0, .int .i64 0, .int .i64 0, .int .i64 0]), (some (.st [(0, 2), (2, 1), (3, 1), (4, 1)])), 40, .other, [(0, 2, 30), (2, 1, 3), (3, 1, 3), (4, 1, 3)], (some 5), none, (some (.agg [.int .i64 0, .int .i64 0, .int .i64 0, .int .i64 0, .int .i64 0]))⟩
theorem ok175 : TIOk Try.prog 175 ti175 := ⟨(by kernel_rfl), (by kernel_rfl), (fun r h => nomatch h), (fun r h => nomatch h), (fun r h => by cases h; kernel_rfl), (fun r h => by cases h; kernel_rfl), (by kernel_rfl), (fun h => nomatch h), (fun h => nomatch h), (fun k h => nomatch h), (fun f r h => match f, h with | 0, h => by cases h; kernel_rfl | 1, h => by cases h; kernel_rfl | 2, h => by cases h; kernel_rfl | 3, h => by cases h; kernel_rfl | (n + 4), h => by simp [ti175, nth] at h), (fun n h => by cases h; exact ⟨by kernel_rfl, by kernel_rfl, by kernel_rfl⟩), (fun r h => nomatch h), (fun r h => by cases h; kernel_rfl)⟩
def ti176 : TI := ⟨5, true, none, none, (some [.int .i64 0, .int .i64 0, .int .i64 0, .int .i64 0, .int .i64 0]), (some (.st [(0, 2), (2, 1), (3, 1), (4, 1)])), 40, .other, [(0, 2, 30), (2, 1, 3), (3, 1, 3), (4, 1, 3)], (some 5), none, (some (.agg [.int .i64 0, .int .i64 0, .int .i64 0, .int .i64 0, .int .i64 0]))⟩
theorem ok176 : TIOk Try.prog 176 ti176 := ⟨(by kernel_rfl), (by kernel_rfl), (fun r h => nomatch h), (fun r h => nomatch h), (fun r h => by cases h; kernel_rfl), (fun r h => by cases h; kernel_rfl), (by kernel_rfl), (fun h => nomatch h), (fun h => nomatch h), (fun k h => nomatch h), (fun f r h => match f, h with | 0, h => by cases h; kernel_rfl | 1, h => by cases h; kernel_rfl | 2, h => by cases h; kernel_rfl | 3, h => by cases h; kernel_rfl | (n + 4), h => by simp [ti176, nth] at h), (fun n h => by cases h; exact ⟨by kernel_rfl, by kernel_rfl, by kernel_rfl⟩), (fun r h => nomatch h), (fun r h => by cases h; kernel_rfl)⟩
def ti177 : TI := ⟨1, false, none, none, (some [.nilfn]), none, 8, .other, [], none, none, (some (.nilfn))⟩
theorem ok177 : TIOk Try.prog 177 ti177 := ⟨(by kernel_rfl), (by kernel_rfl), (fun r h => nomatch h), (fun r h => nomatch h), (fun r h => by cases h; kernel_rfl), (fun r h => nomatch h), (by kernel_rfl), (fun h => nomatch h), (fun h => nomatch h), (fun k h => nomatch h), (fun f r h => nomatch h), (fun n h => nomatch h), (fun r h => nomatch h), (fun r h => by cases h; kernel_rfl)⟩
def ti178 : TI := ⟨6, true, none, none, (some [.int .i64 0, .int .i64 0, .int .i64 0, .int .i64 0, .int .i64 0, .nilsl]), (some (.st [(0, 5), (5, 1)])), 64, .other, [(0, 5, 109), (5, 1, 106)], none, none, (some (.agg [.int .i64 0, .int .i64 0, .int .i64 0, .int .i64 0, .int .i64 0, .nilsl]))⟩
theorem ok178 : TIOk Try.prog 178 ti178 := ⟨(by kernel_rfl), (by kernel_rfl), (fun r h => nomatch h), (fun r h => nomatch h), (fun r h => by cases h; kernel_rfl), (fun r h => by cases h; kernel_rfl), (by kernel_rfl), (fun h => nomatch h), (fun h => nomatch h), (fun k h => nomatch h), (fun f r h => match f, h with | 0, h => by cases h; kernel_rfl | 1, h => by cases h; kernel_rfl | (n + 2), h => by simp [ti178, nth] at h), (fun n h => nomatch h), (fun r h => nomatch h), (fun r h => by cases h; kernel_rfl)⟩
def ti179 : TI := ⟨6, true, none, none, (some [.int .i64 0, .int .i64 0, .int .i64 0, .int .i64 0, .int .i64 0, .nilsl]), (some (.st [(0, 5), (5, 1)])), 64, .other, [(0, 5, 109), (5, 1, 106)], none, none, (some (.agg [.int .i64 0, .int .i64 0, .int .i64 0, .int .i64 0, .int .i64 0, .nilsl]))⟩
theorem ok179 : TIOk Try.prog 179 ti179 := ⟨(by kernel_rfl), (by kernel_rfl), (fun r h => nomatch h), (fun r h => nomatch h), (fun r h => by cases h; kernel_rfl), (fun r h => by cases h; kernel_rfl), (by kernel_rfl), (fun h => nomatch h), (fun h => nomatch h), (fun k h => nomatch h), (fun f r h => match f, h with | 0, h => by cases h; kernel_rfl | 1, h => by cases h; kernel_rfl | (n + 2), h => by simp [ti179, nth] at h), (fun n h => nomatch h), (fun r h => nomatch h), (fun r h => by cases h; kernel_rfl)⟩
def ti180 : TI := ⟨1, false, none, none, (some [.nilfn]), none, 8, .other, [], none, none, (some (.nilfn))⟩
theorem ok180 : TIOk Try.prog 180 ti180 := ⟨(by kernel_rfl), (by kernel_rfl), (fun r h => nomatch h), (fun r h => nomatch h), (fun r h => by cases h; kernel_rfl), (fun r h => nomatch h), (by kernel_rfl), (fun h => nomatch h), (fun h => nomatch h), (fun k h => nomatch h), (fun f r h => nomatch h), (fun n h => nomatch h), (fun r h => nomatch h), (fun r h => by cases h; kernel_rfl)⟩
def ti181 : TI := ⟨1, false, none, none, none, none, 0, .other, [], none, none, none⟩
theorem ok181 : TIOk Try.prog 181 ti181 := ⟨(by kernel_rfl), (by kernel_rfl), (fun r h => nomatch h), (fun r h => nomatch h), (fun r h => nomatch h), (fun r h => nomatch h), (by kernel_rfl), (fun h => nomatch h), (fun h => nomatch h), (fun k h => nomatch h), (fun f r h => nomatch h), (fun n h => nomatch h), (fun r h => nomatch h), (fun r h => nomatch h)⟩
def ti182 : TI := ⟨1, false, none, none, (some [.nilfn]), none, 8, .other, [], none, none, (some (.nilfn))⟩
theorem ok182 : TIOk Try.prog 182 ti182 := ⟨(by kernel_rfl), (by kernel_rfl), (fun r h => nomatch h), (fun r h => nomatch h), (fun r h => by cases h; kernel_rfl), (fun r h => nomatch h), (by kernel_rfl), (fun h => nomatch h), (fun h => nomatch h), (fun k h => nomatch h), (fun f r h => nomatch h), (fun n h => nomatch h), (fun r h => nomatch h), (fun r h => by cases h; kernel_rfl)⟩
def ti183 : TI := ⟨1, false, none, none, none, none, 0, .other, [], none, none, none⟩
theorem ok183 : TIOk Try.prog 183 ti183 := ⟨(by kernel_rfl), (by kernel_rfl), (fun r h => nomatch h), (fun r h => nomatch h), (fun r h => nomatch h), (fun r h => nomatch h), (by kernel_rfl), (fun h => nomatch h), (fun h => nomatch h), (fun k h => nomatch h), (fun f r h => nomatch h), (fun n h => nomatch h), (fun r h => nomatch h), (fun r h => nomatch h)⟩
def ti184 : TI := ⟨1, false, none, none, (some [.nilfn]), none, 8, .other, [], none, none, (some (.nilfn))⟩
theorem ok184 : TIOk Try.prog 184 ti184 := ⟨(by kernel_rfl), (by kernel_rfl), (fun r h => nomatch h), (fun r h => nomatch h), (fun r h => by cases h; kernel_rfl), (fun r h => nomatch h), (by kernel_rfl), (fun h => nomatch h), (fun h => nomatch h), (fun k h => nomatch h), (fun f r h => nomatch h), (fun n h => nomatch h), (fun r h => nomatch h), (fun r h => by cases h; kernel_rfl)⟩
def ti185 : TI := ⟨1, false, none, none, (some [.nilfn]), none, 8, .other, [], none, none, (some (.nilfn))⟩
theorem ok185 : TIOk Try.prog 185 ti185 := ⟨(by kernel_rfl), (by kernel_rfl), (fun r h => nomatch h), (fun r h => nomatch h), (fun r h => by cases h; kernel_rfl), (fun r h => nomatch h), (by kernel_rfl), (fun h => nomatch h), (fun h => nomatch h), (fun k h => nomatch h), (fun f r h => nomatch h), (fun n h => nomatch h), (fun r h => nomatch h), (fun r h => by cases h; kernel_rfl)⟩
def ti186 : TI := ⟨1, false, none, none, (some [.nilfn]), none, 8, .other, [], none, none, (some (.nilfn))⟩
theorem ok186 : TIOk Try.prog 186 ti186 := ⟨(by kernel_rfl), (by kernel_rfl), (fun r h => nomatch h), (fun r h => nomatch h), (fun r h => by cases h; kernel_rfl), (fun r h => nomatch h), (by kernel_rfl), (fun h => nomatch h), (fun h => nomatch h), (fun k h => nomatch h), (fun f r h => nomatch h), (fun n h => nomatch h), (fun r h => nomatch h), (fun r h => by cases h; kernel_rfl)⟩
def ti187 : TI := ⟨1, false, none, none, (some [.nilfn]), none, 8, .other, [], none, none, (some (.nilfn))⟩
theorem ok187 : TIOk Try.prog 187 ti187 := ⟨(by kernel_rfl), (by kernel_rfl), (fun r h => nomatch h), (fun r h => nomatch h), (fun r h => by cases h; kernel_rfl), (fun r h => nomatch h), (by kernel_rfl), (fun h => nomatch h), (fun h => nomatch h), (fun k h => nomatch h), (fun f r h => nomatch h), (fun n h => nomatch h), (fun r h => nomatch h), (fun r h => by cases h; kernel_rfl)⟩
def ti188 : TI := ⟨1, false, none, none, (some [.nilfn]), none, 8, .other, [], none, none, (some (.nilfn))⟩
theorem ok188 : TIOk Try.prog 188 ti188 := ⟨(by kernel_rfl), (by kernel_rfl), (fun r h => nomatch h), (fun r h => nomatch h), (fun r h => by cases h; kernel_rfl), (fun r h => nomatch h), (by kernel_rfl), (fun h => nomatch h), (fun h => nomatch h), (fun k h => nomatch h), (fun f r h => nomatch h), (fun n h => nomatch h), (fun r h => nomatch h), (fun r h => by cases h; kernel_rfl)⟩
def ti189 : TI := ⟨1, false, none, none, (some [.nilfn]), none, 8, .other, [], none, none, (some (.nilfn))⟩
theorem ok189 : TIOk Try.prog 189 ti189 := ⟨(by kernel_rfl), (by kernel_rfl), (fun r h => nomatch h), (fun r h => nomatch h), (fun r h => by cases h; kernel_rfl), (fun r h => nomatch h), (by kernel_rfl), (fun h => nomatch h), (fun h => nomatch h), (fun k h => nomatch h), (fun f r h => nomatch h), (fun n h => nomatch h), (fun r h => nomatch h), (fun r h => by cases h; kernel_rfl)⟩
def ti190 : TI := ⟨1, false, none, none, (some [.nilfn]), none, 8, .other, [], none, none, (some (.nilfn))⟩
theorem ok190 : TIOk Try.prog 190 ti190 := ⟨(by kernel_rfl), (by kernel_rfl), (fun r h => nomatch h), (fun r h => nomatch h), (fun r h => by cases h; kernel_rfl), (fun r h => nomatch h), (by kernel_rfl), (fun h => nomatch h), (fun h => nomatch h), (fun k h => nomatch h), (fun f r h => nomatch h), (fun n h => nomatch h), (fun r h => nomatch h), (fun r h => by cases h; kernel_rfl)⟩
def ti191 : TI := ⟨1, false, none, none, (some [.nilfn]), none, 8, .other, [], none, none, (some (.nilfn))⟩
theorem ok191 : TIOk Try.prog 191 ti191 := ⟨(by kernel_rfl), (by kernel_rfl), (fun r h => nomatch h), (fun r h => nomatch h), (fun r h => by cases h; kernel_rfl), (fun r h => nomatch h), (by kernel_rfl), (fun h => nomatch h), (fun h => nomatch h), (fun k h => nomatch h), (fun f r h => nomatch h), (fun n h => nomatch h), (fun r h => nomatch h), (fun r h => by cases h; kernel_rfl)⟩
def ti192 : TI := ⟨1, false, none, none, (some [.nilfn]), none, 8, .other, [], none, none, (some (.nilfn))⟩
theorem ok192 : TIOk Try.prog 192 ti192 := ⟨(by kernel_rfl), (by kernel_rfl), (fun r h => nomatch h), (fun r h => nomatch h), (fun r h => by cases h; kernel_rfl), (fun r h => nomatch h), (by kernel_rfl), (fun h => nomatch h), (fun h => nomatch h), (fun k h => nomatch h), (fun f r h => nomatch h), (fun n h => nomatch h), (fun r h => nomatch h), (fun r h => by cases h; kernel_rfl)⟩
def ti193 : TI := ⟨5, true, none, none, (some [.nilsl, .nilsl, .int .i64 0, .int .i64 0, .nilsl]), (some (.st [(0, 4), (4, 1)])), 88, .other, [(0, 4, 43), (4, 1, 33)], none, none, (some (.agg [.nilsl, .nilsl, .int .i64 0, .int .i64 0, .nilsl]))⟩
theorem ok193 : TIOk Try.prog 193 ti193 := ⟨(by kernel_rfl), (by kernel_rfl), (fun r h => nomatch h), (fun r h => nomatch h), (fun r h => by cases h; kernel_rfl), (fun r h => by cases h; kernel_rfl), (by kernel_rfl), (fun h => nomatch h), (fun h => nomatch h), (fun k h => nomatch h), (fun f r h => match f, h with | 0, h => by cases h; kernel_rfl | 1, h => by cases h; kernel_rfl | (n + 2), h => by simp [ti193, nth] at h), (fun n h => nomatch h), (fun r h => nomatch h), (fun r h => by cases h; kernel_rfl)⟩
def ti194 : TI := ⟨5, true, none, none, (some [.nilsl, .nilsl, .int .i64 0, .int .i64 0, .nilsl]), (some (.st [(0, 4), (4, 1)])), 88, .other, [(0, 4, 43), (4, 1, 33)], none, none, (some (.agg [.nilsl, .nilsl, .int .i64 0, .int .i64 0, .nilsl]))⟩
theorem ok194 : TIOk Try.prog 194 ti194 := ⟨(by kernel_rfl), (by kernel_rfl), (fun r h => nomatch h), (fun r h => nomatch h), (fun r h => by cases h; kernel_rfl), (fun r h => by cases h; kernel_rfl), (by kernel_rfl), (fun h => nomatch h), (fun h => nomatch h), (fun k h => nomatch h), (fun f r h => match f, h with | 0, h => by cases h; kernel_rfl | 1, h => by cases h; kernel_rfl | (n + 2), h => by simp [ti194, nth] at h), (fun n h => nomatch h), (fun r h => nomatch h), (fun r h => by cases h; kernel_rfl)⟩
def ti195 : TI := ⟨1, false, none, none, none, none, 0, .other, [], none, none, none⟩
theorem ok195 : TIOk Try.prog 195 ti195 := ⟨(by kernel_rfl), (by kernel_rfl), (fun r h => nomatch h), (fun r h => nomatch h), (fun r h => nomatch h), (fun r h => nomatch h), (by kernel_rfl), (fun h => nomatch h), (fun h => nomatch h), (fun k h => nomatch h), (fun f r h => nomatch h), (fun n h => nomatch h), (fun r h => nomatch h), (fun r h => nomatch h)⟩
def ti196 : TI := ⟨1, false, none, none, (some [.nilfn]), none, 8, .other, [], none, none, (some (.nilfn))⟩
theorem ok196 : TIOk Try.prog 196 ti196 := ⟨(by kernel_rfl), (by kernel_rfl), (fun r h => nomatch h), (fun r h => nomatch h), (fun r h => by cases h; kernel_rfl), (fun r h => nomatch h), (by kernel_rfl), (fun h => nomatch h), (fun h => nomatch h), (fun k h => nomatch h), (fun f r h => nomatch h), (fun n h => nomatch h), (fun r h => nomatch h), (fun r h => by cases h; kernel_rfl)⟩
def ti197 : TI := ⟨1, false, none, none, (some [.nilfn]), none, 8, .other, [], none, none, (some (.nilfn))⟩
theorem ok197 : TIOk Try.prog 197 ti197 := ⟨(by kernel_rfl), (by kernel_rfl), (fun r h => nomatch h), (fun r h => nomatch h), (fun r h => by cases h; kernel_rfl), (fun r h => nomatch h), (by kernel_rfl), (fun h => nomatch h), (fun h => nomatch h), (fun k h => nomatch h), (fun f r h => nomatch h), (fun n h => nomatch h), (fun r h => nomatch h), (fun r h => by cases h; kernel_rfl)⟩
def ti198 : TI := ⟨1, false, none, none, (some [.nilfn]), none, 8, .other, [], none, none, (some (.nilfn))⟩
theorem ok198 : TIOk Try.prog 198 ti198 := ⟨(by kernel_rfl), (by kernel_rfl), (fun r h => nomatch h), (fun r h => nomatch h), (fun r h => by cases h; kernel_rfl), (fun r h => nomatch h), (by kernel_rfl), (fun h => nomatch h), (fun h => nomatch h), (fun k h => nomatch h), (fun f r h => nomatch h), (fun n h => nomatch h), (fun r h => nomatch h), (fun r h => by cases h; kernel_rfl)⟩
def ti199 : TI := ⟨3, true, none, none, (some [.int .i64 0, .int .i64 0, .int .i64 0]), (some (.st [(0, 2), (2, 1)])), 24, .other, [(0, 2, 30), (2, 1, 3)], (some 3), none, (some (.agg [.int .i64 0, .int .i64 0, .int .i64 0]))⟩
theorem ok199 : TIOk Try.prog 199 ti199 := ⟨(by kernel_rfl), (by kernel_rfl), (fun r h => nomatch h), (fun r h => nomatch h), (fun r h => by cases h; kernel_rfl), (fun r h => by cases h; kernel_rfl), (by kernel_rfl), (fun h => nomatch h), (fun h => nomatch h), (fun k h => nomatch h), (fun f r h => match f, h with | 0, h => by cases h; kernel_rfl | 1, h => by cases h; kernel_rfl | (n + 2), h => by simp [ti199, nth] at h), (fun n h => by cases h; exact ⟨by kernel_rfl, by kernel_rfl, by kernel_rfl⟩), (fun r h => nomatch h), (fun r h => by cases h; kernel_rfl)⟩
def ti200 : TI := ⟨3, true, none, none, (some [.int .i64 0, .int .i64 0, .int .i64 0]), (some (.st [(0, 2), (2, 1)])), 24, .other, [(0, 2, 30), (2, 1, 3)], (some 3), none, (some (.agg [.int .i64 0, .int .i64 0, .int .i64 0]))⟩
theorem ok200 : TIOk Try.prog 200 ti200 := ⟨(by kernel_rfl), (by kernel_rfl), (fun r h => nomatch h), (fun r h => nomatch h), (fun r h => by cases h; kernel_rfl), (fun r h => by cases h; kernel_rfl), (by kernel_rfl), (fun h => nomatch h), (fun h => nomatch h), (fun k h => nomatch h), (fun f r h => match f, h with | 0, h => by cases h; kernel_rfl | 1, h => by cases h; kernel_rfl | (n + 2), h => by simp [ti200, nth] at h), (fun n h => by cases h; exact ⟨by kernel_rfl, by kernel_rfl, by kernel_rfl⟩), (fun r h => nomatch h), (fun r h => by cases h; kernel_rfl)⟩
def ti201 : TI := ⟨1, false, none, none, (some [.nilfn]), none, 8, .other, [], none, none, (some (.nilfn))⟩
theorem ok201 : TIOk Try.prog 201 ti201 := ⟨(by kernel_rfl), (by kernel_rfl), (fun r h => nomatch h), (fun r h => nomatch h), (fun r h => by cases h; kernel_rfl), (fun r h => nomatch h), (by kernel_rfl), (fun h => nomatch h), (fun h => nomatch h), (fun k h => nomatch h), (fun f r h => nomatch h), (fun n h => nomatch h), (fun r h => nomatch h), (fun r h => by cases h; kernel_rfl)⟩
def ti202 : TI := ⟨1, false, none, none, (some [.nilfn]), none, 8, .other, [], none, none, (some (.nilfn))⟩
theorem ok202 : TIOk Try.prog 202 ti202 := ⟨(by kernel_rfl), (by kernel_rfl), (fun r h => nomatch h), (fun r h => nomatch h), (fun r h => by cases h; kernel_rfl), (fun r h => nomatch h), (by kernel_rfl), (fun h => nomatch h), (fun h => nomatch h), (fun k h => nomatch h), (fun f r h => nomatch h), (fun n h => nomatch h), (fun r h => nomatch h), (fun r h => by cases h; kernel_rfl)⟩
def ti203 : TI := ⟨1, false, none, none, (some [.nilfn]), none, 8, .other, [], none, none, (some (.nilfn))⟩
theorem ok203 : TIOk Try.prog 203 ti203 := ⟨(by kernel_rfl), (by kernel_rfl), (fun r h => nomatch h), (fun r h => nomatch h), (fun r h => by cases h; kernel_rfl), (fun r h => nomatch h), (by kernel_rfl), (fun h => nomatch h), (fun h => nomatch h), (fun k h => nomatch h), (fun f r h => nomatch h), (fun n h => nomatch h), (fun r h => nomatch h), (fun r h => by cases h; kernel_rfl)⟩
def ti204 : TI := ⟨1, false, none, none, (some [.nilfn]), none, 8, .other, [], none, none, (some (.nilfn))⟩
theorem ok204 : TIOk Try.prog 204 ti204 := ⟨(by kernel_rfl), (by kernel_rfl), (fun r h => nomatch h), (fun r h => nomatch h), (fun r h => by cases h; kernel_rfl), (fun r h => nomatch h), (by kernel_rfl), (fun h => nomatch h), (fun h => nomatch h), (fun k h => nomatch h), (fun f r h => nomatch h), (fun n h => nomatch h), (fun r h => nomatch h), (fun r h => by cases h; kernel_rfl)⟩
def ti205 : TI := ⟨1, false, none, none, (some [.nilfn]), none, 8, .other, [], none, none, (some (.nilfn))⟩
theorem ok205 : TIOk Try.prog 205 ti205 := ⟨(by kernel_rfl), (by kernel_rfl), (fun r h => nomatch h), (fun r h => nomatch h), (fun r h => by cases h; kernel_rfl), (fun r h => nomatch h), (by kernel_rfl), (fun h => nomatch h), (fun h => nomatch h), (fun k h => nomatch h), (fun f r h => nomatch h), (fun n h => nomatch h), (fun r h => nomatch h), (fun r h => by cases h; kernel_rfl)⟩
def ti206 : TI := ⟨1, false, none, none, none, none, 0, .other, [], none, none, none⟩
theorem ok206 : TIOk Try.prog 206 ti206 := ⟨(by kernel_rfl), (by kernel_rfl), (fun r h => nomatch h), (fun r h => nomatch h), (fun r h => nomatch h), (fun r h => nomatch h), (by kernel_rfl), (fun h => nomatch h), (fun h => nomatch h), (fun k h => nomatch h), (fun f r h => nomatch h), (fun n h => nomatch h), (fun r h => nomatch h), (fun r h => nomatch h)⟩
def ti207 : TI := ⟨1, false, none, none, (some [.nilfn]), none, 8, .other, [], none, none, (some (.nilfn))⟩
theorem ok207 : TIOk Try.prog 207 ti207 := ⟨(by kernel_rfl), (by kernel_rfl), (fun r h => nomatch h), (fun r h => nomatch h), (fun r h => by cases h; kernel_rfl), (fun r h => nomatch h), (by kernel_rfl), (fun h => nomatch h), (fun h => nomatch h), (fun k h => nomatch h), (fun f r h => nomatch h), (fun n h => nomatch h), (fun r h => nomatch h), (fun r h => by cases h; kernel_rfl)⟩
def ti208 : TI := ⟨1, false, none, none, (some [.nilfn]), none, 8, .other, [], none, none, (some (.nilfn))⟩
theorem ok208 : TIOk Try.prog 208 ti208 := ⟨(by kernel_rfl), (by kernel_rfl), (fun r h => nomatch h), (fun r h => nomatch h), (fun r h => by cases h; kernel_rfl), (fun r h => nomatch h), (by kernel_rfl), (fun h => nomatch h), (fun h => nomatch h), (fun k h => nomatch h), (fun f r h => nomatch h), (fun n h => nomatch h), (fun r h => nomatch h), (fun r h => by cases h; kernel_rfl)⟩
def ti209 : TI := ⟨1, false, none, none, (some [.nilfn]), none, 8, .other, [], none, none, (some (.nilfn))⟩
theorem ok209 : TIOk Try.prog 209 ti209 := ⟨(by kernel_rfl), (by kernel_rfl), (fun r h => nomatch h), (fun r h => nomatch h), (fun r h => by cases h; kernel_rfl), (fun r h => nomatch h), (by kernel_rfl), (fun h => nomatch h), (fun h => nomatch h), (fun k h => nomatch h), (fun f r h => nomatch h), (fun n h => nomatch h), (fun r h => nomatch h), (fun r h => by cases h; kernel_rfl)⟩
def ti210 : TI := ⟨1, false, none, none, (some [.nilfn]), none, 8, .other, [], none, none, (some (.nilfn))⟩
theorem ok210 : TIOk Try.prog 210 ti210 := ⟨(by kernel_rfl), (by kernel_rfl), (fun r h => nomatch h), (fun r h => nomatch h), (fun r h => by cases h; kernel_rfl), (fun r h => nomatch h), (by kernel_rfl), (fun h => nomatch h), (fun h => nomatch h), (fun k h => nomatch h), (fun f r h => nomatch h), (fun n h => nomatch h), (fun r h => nomatch h), (fun r h => by cases h; kernel_rfl)⟩
def ti211 : TI := ⟨1, false, none, none, (some [.nilfn]), none, 8, .other, [], none, none, (some (.nilfn))⟩
theorem ok211 : TIOk Try.prog 211 ti211 := ⟨(by kernel_rfl), (by kernel_rfl), (fun r h => nomatch h), (fun r h => nomatch h), (fun r h => by cases h; kernel_rfl), (fun r h => nomatch h), (by kernel_rfl), (fun h => nomatch h), (fun h => nomatch h), (fun k h => nomatch h), (fun f r h => nomatch h), (fun n h => nomatch h), (fun r h => nomatch h), (fun r h => by cases h; kernel_rfl)⟩
def ti212 : TI := ⟨6, true, none, (some (6, 3, 1)), (some [.int .i64 0, .int .i64 0, .int .i64 0, .int .i64 0, .int .i64 0, .int .i64 0]), (some (.ar 1)), 48, .other, [], none, none, (some (.agg [.int .i64 0, .int .i64 0, .int .i64 0, .int .i64 0, .int .i64 0, .int .i64 0]))⟩
theorem ok212 : TIOk Try.prog 212 ti212 := ⟨(by kernel_rfl), (by kernel_rfl), (fun r h => nomatch h), (fun r h => by cases h; kernel_rfl), (fun r h => by cases h; kernel_rfl), (fun r h => by cases h; kernel_rfl), (by kernel_rfl), (fun h => nomatch h), (fun h => nomatch h), (fun k h => nomatch h), (fun f r h => nomatch h), (fun n h => nomatch h), (fun r h => nomatch h), (fun r h => by cases h; kernel_rfl)⟩
def ti213 : TI := ⟨18, true, none, (some (3, 212, 6)), (some [.int .i64 0, .int .i64 0, .int .i64 0, .int .i64 0, .int .i64 0, .int .i64 0, .int .i64 0, .int .i64 0, .int .i64 0, .int .i64 0, .int .i64 0, .int .i64 0, .int .i64 0, .int .i64 0, .int .i64 0, .int .i64 0, .int .i64 0, .int .i64 0]), (some (.ar 6)), 144, .other, [], none, none, (some (.agg [.int .i64 0, .int .i64 0, .int .i64 0, .int .i64 0, .int .i64 0, .int .i64 0, .int .i64 0, .int .i64 0, .int .i64 0, .int .i64 0, .int .i64 0, .int .i64 0, .int .i64 0, .int .i64 0, .int .i64 0, .int .i64 0, .int .i64 0, .int .i64 0]))⟩
theorem ok213 : TIOk Try.prog 213 ti213 := ⟨(by kernel_rfl), (by kernel_rfl), (fun r h => nomatch h), (fun r h => by cases h; kernel_rfl), (fun r h => by cases h; kernel_rfl), (fun r h => by cases h; kernel_rfl), (by kernel_rfl), (fun h => nomatch h), (fun h => nomatch h), (fun k h => nomatch h), (fun f r h => nomatch h), (fun n h => nomatch h), (fun r h => nomatch h), (fun r h => by cases h; kernel_rfl)⟩
def ti214 : TI := ⟨25, true, none, none, (some [.int .i64 0, .int .i64 0, .int .i64 0, .int .i64 0, .int .i64 0, .int .i64 0, .int .i64 0, .int .i64 0, .int .i64 0, .int .i64 0, .int .i64 0, .int .i64 0, .int .i64 0, .int .i64 0, .int .i64 0, .int .i64 0, .int .i64 0, .int .i64 0, .int .i64 0, .int .i64 0, .int .i64 0, .int .i64 0, .int .i64 0, .int .i64 0, .int .i64 0]), (some (.st [(0, 18), (18, 6), (24, 1)])), 200, .other, [(0, 18, 213), (18, 6, 212), (24, 1, 3)], none, none, (some (.agg [.int .i64 0, .int .i64 0, .int .i64 0, .int .i64 0, .int .i64 0, .int .i64 0, .int .i64 0, .int .i64 0, .int .i64 0, .int .i64 0, .int .i64 0, .int .i64 0, .int .i64 0, .int .i64 0, .int .i64 0, .int .i64 0, .int .i64 0, .int .i64 0, .int .i64 0, .int .i64 0, .int .i64 0, .int .i64 0, .int .i64 0, .int .i64 0, .int .i64 0]))⟩
theorem ok214 : TIOk Try.prog 214 ti214 := ⟨(by kernel_rfl), (by kernel_rfl), (fun r h => nomatch h), (fun r h => nomatch h), (fun r h => by cases h; kernel_rfl), (fun r h => by cases h; kernel_rfl), (by kernel_rfl), (fun h => nomatch h), (fun h => nomatch h), (fun k h => nomatch h), (fun f r h => match f, h with | 0, h => by cases h; kernel_rfl | 1, h => by cases h; kernel_rfl | 2, h => by cases h; kernel_rfl | (n + 3), h => by simp [ti214, nth] at h), (fun n h => nomatch h), (fun r h => nomatch h), (fun r h => by cases h; kernel_rfl)⟩
def ti215 : TI := ⟨25, true, none, none, (some [.int .i64 0, .int .i64 0, .int .i64 0, .int .i64 0, .int .i64 0, .int .i64 0, .int .i64 0, .int .i64 0, .int .i64 0, .int .i64 0, .int .i64 0, .int .i64 0, .int .i64 0, .int .i64 0, .int .i64 0, .int .i64 0, .int .i64 0, .int .i64 0, .int .i64 0, .int .i64 0, .int .i64 0, .int .i64 0, .int .i64 0, .int .i64 0, .int .i64 0]), (some (.st [(0, 18), (18, 6), (24, 1)])), 200, .other, [(0, 18, 213), (18, 6, 212), (24, 1, 3)], none, none, (some (.agg [.int .i64 0, .int .i64 0, .int .i64 0, .int .i64 0, .int .i64 0, .int .i64 0, .int .i64 0, .int .i64 0, .int .i64 0, .int .i64 0, .int .i64 0, .int .i64 0, .int .i64 0, .int .i64 0, .int .i64 0, .int .i64 0, .int .i64 0, .int .i64 0, .int .i64 0, .int .i64 0, .int .i64 0, .int .i64 0, .int .i64 0, .int .i64 0, .int .i64 0]))⟩
theorem ok215 : TIOk Try.prog 215 ti215 := ⟨(by kernel_rfl), (by kernel_rfl), (fun r h => nomatch h), (fun r h => nomatch h), (fun r h => by cases h; kernel_rfl), (fun r h => by cases h; kernel_rfl), (by kernel_rfl), (fun h => nomatch h), (fun h => nomatch h), (fun k h => nomatch h), (fun f r h => match f, h with | 0, h => by cases h; kernel_rfl | 1, h => by cases h; kernel_rfl | 2, h => by cases h; kernel_rfl | (n + 3), h => by simp [ti215, nth] at h), (fun n h => nomatch h), (fun r h => nomatch h), (fun r h => by cases h; kernel_rfl)⟩
def ti216 : TI := ⟨1, false, none, none, (some [.nilfn]), none, 8, .other, [], none, none, (some (.nilfn))⟩
theorem ok216 : TIOk Try.prog 216 ti216 := ⟨(by kernel_rfl), (by kernel_rfl), (fun r h => nomatch h), (fun r h => nomatch h), (fun r h => by cases h; kernel_rfl), (fun r h => nomatch h), (by kernel_rfl), (fun h => nomatch h), (fun h => nomatch h), (fun k h => nomatch h), (fun f r h => nomatch h), (fun n h => nomatch h), (fun r h => nomatch h), (fun r h => by cases h; kernel_rfl)⟩
def ti217 : TI := ⟨1, false, none, none, (some [.nilfn]), none, 8, .other, [], none, none, (some (.nilfn))⟩
theorem ok217 : TIOk Try.prog 217 ti217 := ⟨(by kernel_rfl), (by kernel_rfl), (fun r h => nomatch h), (fun r h => nomatch h), (fun r h => by cases h; kernel_rfl), (fun r h => nomatch h), (by kernel_rfl), (fun h => nomatch h), (fun h => nomatch h), (fun k h => nomatch h), (fun f r h => nomatch h), (fun n h => nomatch h), (fun r h => nomatch h), (fun r h => by cases h; kernel_rfl)⟩
def ti218 : TI := ⟨1, false, none, none, (some [.nilfn]), none, 8, .other, [], none, none, (some (.nilfn))⟩
theorem ok218 : TIOk Try.prog 218 ti218 := ⟨(by kernel_rfl), (by kernel_rfl), (fun r h => nomatch h), (fun r h => nomatch h), (fun r h => by cases h; kernel_rfl), (fun r h => nomatch h), (by kernel_rfl), (fun h => nomatch h), (fun h => nomatch h), (fun k h => nomatch h), (fun f r h => nomatch h), (fun n h => nomatch h), (fun r h => nomatch h), (fun r h => by cases h; kernel_rfl)⟩
def ti219 : TI := ⟨1, false, none, none, (some [.nilfn]), none, 8, .other, [], none, none, (some (.nilfn))⟩
theorem ok219 : TIOk Try.prog 219 ti219 := ⟨(by kernel_rfl), (by kernel_rfl), (fun r h => nomatch h), (fun r h => nomatch h), (fun r h => by cases h; kernel_rfl), (fun r h => nomatch h), (by kernel_rfl), (fun h => nomatch h), (fun h => nomatch h), (fun k h => nomatch h), (fun f r h => nomatch h), (fun n h => nomatch h), (fun r h => nomatch h), (fun r h => by cases h; kernel_rfl)⟩
def ti220 : TI := ⟨1, false, none, none, (some [.nilfn]), none, 8, .other, [], none, none, (some (.nilfn))⟩
theorem ok220 : TIOk Try.prog 220 ti220 := ⟨(by kernel_rfl), (by kernel_rfl), (fun r h => nomatch h), (fun r h => nomatch h), (fun r h => by cases h; kernel_rfl), (fun r h => nomatch h), (by kernel_rfl), (fun h => nomatch h), (fun h => nomatch h), (fun k h => nomatch h), (fun f r h => nomatch h), (fun n h => nomatch h), (fun r h => nomatch h), (fun r h => by cases h; kernel_rfl)⟩
def ti221 : TI := ⟨1, false, none, none, (some [.nilfn]), none, 8, .other, [], none, none, (some (.nilfn))⟩
theorem ok221 : TIOk Try.prog 221 ti221 := ⟨(by kernel_rfl), (by kernel_rfl), (fun r h => nomatch h), (fun r h => nomatch h), (fun r h => by cases h; kernel_rfl), (fun r h => nomatch h), (by kernel_rfl), (fun h => nomatch h), (fun h => nomatch h), (fun k h => nomatch h), (fun f r h => nomatch h), (fun n h => nomatch h), (fun r h => nomatch h), (fun r h => by cases h; kernel_rfl)⟩
def ti222 : TI := ⟨1, false, none, none, (some [.nilfn]), none, 8, .other, [], none, none, (some (.nilfn))⟩
theorem ok222 : TIOk Try.prog 222 ti222 := ⟨(by kernel_rfl), (by kernel_rfl), (fun r h => nomatch h), (fun r h => nomatch h), (fun r h => by cases h; kernel_rfl), (fun r h => nomatch h), (by kernel_rfl), (fun h => nomatch h), (fun h => nomatch h), (fun k h => nomatch h), (fun f r h => nomatch h), (fun n h => nomatch h), (fun r h => nomatch h), (fun r h => by cases h; kernel_rfl)⟩
def ti223 : TI := ⟨1, false, none, none, (some [.nilfn]), none, 8, .other, [], none, none, (some (.nilfn))⟩
theorem ok223 : TIOk Try.prog 223 ti223 := ⟨(by kernel_rfl), (by kernel_rfl), (fun r h => nomatch h), (fun r h => nomatch h), (fun r h => by cases h; kernel_rfl), (fun r h => nomatch h), (by kernel_rfl), (fun h => nomatch h), (fun h => nomatch h), (fun k h => nomatch h), (fun f r h => nomatch h), (fun n h => nomatch h), (fun r h => nomatch h), (fun r h => by cases h; kernel_rfl)⟩
def ti224 : TI := ⟨1, false, none, none, (some [.nilfn]), none, 8, .other, [], none, none, (some (.nilfn))⟩
theorem ok224 : TIOk Try.prog 224 ti224 := ⟨(by kernel_rfl), (by kernel_rfl), (fun r h => nomatch h), (fun r h => nomatch h), (fun r h => by cases h; kernel_rfl), (fun r h => nomatch h), (by kernel_rfl), (fun h => nomatch h), (fun h => nomatch h), (fun k h => nomatch h), (fun f r h => nomatch h), (fun n h => nomatch h), (fun r h => nomatch h), (fun r h => by cases h; kernel_rfl)⟩
def ti225 : TI := ⟨1, false, none, none, (some [.nilfn]), none, 8, .other, [], none, none, (some (.nilfn))⟩
theorem ok225 : TIOk Try.prog 225 ti225 := ⟨(by kernel_rfl), (by kernel_rfl), (fun r h => nomatch h), (fun r h => nomatch h), (fun r h => by cases h; kernel_rfl), (fun r h => nomatch h), (by kernel_rfl), (fun h => nomatch h), (fun h => nomatch h), (fun k h => nomatch h), (fun f r h => nomatch h), (fun n h => nomatch h), (fun r h => nomatch h), (fun r h => by cases h; kernel_rfl)⟩
def ti226 : TI := ⟨1, false, none, none, (some [.nilfn]), none, 8, .other, [], none, none, (some (.nilfn))⟩
theorem ok226 : TIOk Try.prog 226 ti226 := ⟨(by kernel_rfl), (by kernel_rfl), (fun r h => nomatch h), (fun r h => nomatch h), (fun r h => by cases h; kernel_rfl), (fun r h => nomatch h), (by kernel_rfl), (fun h => nomatch h), (fun h => nomatch h), (fun k h => nomatch h), (fun f r h => nomatch h), (fun n h => nomatch h), (fun r h => nomatch h), (fun r h => by cases h; kernel_rfl)⟩
def ti227 : TI := ⟨1, false, none, none, (some [.nilfn]), none, 8, .other, [], none, none, (some (.nilfn))⟩
theorem ok227 : TIOk Try.prog 227 ti227 := ⟨(by kernel_rfl), (by kernel_rfl), (fun r h => nomatch h), (fun r h => nomatch h), (fun r h => by cases h; kernel_rfl), (fun r h => nomatch h), (by kernel_rfl), (fun h => nomatch h), (fun h => nomatch h), (fun k h => nomatch h), (fun f r h => nomatch h), (fun n h => nomatch h), (fun r h => nomatch h), (fun r h => by cases h; kernel_rfl)⟩
def ti228 : TI := ⟨1, false, none, none, (some [.nilfn]), none, 8, .other, [], none, none, (some (.nilfn))⟩
theorem ok228 : TIOk Try.prog 228 ti228 := ⟨(by kernel_rfl), (by kernel_rfl), (fun r h => nomatch h), (fun r h => nomatch h), (fun r h => by cases h; kernel_rfl), (fun r h => nomatch h), (by kernel_rfl), (fun h => nomatch h), (fun h => nomatch h), (fun k h => nomatch h), (fun f r h => nomatch h), (fun n h => nomatch h), (fun r h => nomatch h), (fun r h => by cases h; kernel_rfl)⟩
def ti229 : TI := ⟨1, false, none, none, (some [.nilfn]), none, 8, .other, [], none, none, (some (.nilfn))⟩
theorem ok229 : TIOk Try.prog 229 ti229 := ⟨(by kernel_rfl), (by kernel_rfl), (fun r h => nomatch h), (fun r h => nomatch h), (fun r h => by cases h; kernel_rfl), (fun r h => nomatch h), (by kernel_rfl), (fun h => nomatch h), (fun h => nomatch h), (fun k h => nomatch h), (fun f r h => nomatch h), (fun n h => nomatch h), (fun r h => nomatch h), (fun r h => by cases h; kernel_rfl)⟩
def ti230 : TI := ⟨1, false, none, none, (some [.nilfn]), none, 8, .other, [], none, none, (some (.nilfn))⟩
theorem ok230 : TIOk Try.prog 230 ti230 := ⟨(by kernel_rfl), (by kernel_rfl), (fun r h => nomatch h), (fun r h => nomatch h), (fun r h => by cases h; kernel_rfl), (fun r h => nomatch h), (by kernel_rfl), (fun h => nomatch h), (fun h => nomatch h), (fun k h => nomatch h), (fun f r h => nomatch h), (fun n h => nomatch h), (fun r h => nomatch h), (fun r h => by cases h; kernel_rfl)⟩
def ti231 : TI := ⟨1, false, none, none, (some [.nilfn]), none, 8, .other, [], none, none, (some (.nilfn))⟩
theorem ok231 : TIOk Try.prog 231 ti231 := ⟨(by kernel_rfl), (by kernel_rfl), (fun r h => nomatch h), (fun r h => nomatch h), (fun r h => by cases h; kernel_rfl), (fun r h => nomatch h), (by kernel_rfl), (fun h => nomatch h), (fun h => nomatch h), (fun k h => nomatch h), (fun f r h => nomatch h), (fun n h => nomatch h), (fun r h => nomatch h), (fun r h => by cases h; kernel_rfl)⟩
def ti232 : TI := ⟨1, false, none, none, (some [.nilfn]), none, 8, .other, [], none, none, (some (.nilfn))⟩
theorem ok232 : TIOk Try.prog 232 ti232 := ⟨(by kernel_rfl), (by kernel_rfl), (fun r h => nomatch h), (fun r h => nomatch h), (fun r h => by cases h; kernel_rfl), (fun r h => nomatch h), (by kernel_rfl), (fun h => nomatch h), (fun h => nomatch h), (fun k h => nomatch h), (fun f r h => nomatch h), (fun n h => nomatch h), (fun r h => nomatch h), (fun r h => by cases h; kernel_rfl)⟩
def ti233 : TI := ⟨1, false, none, none, (some [.nilfn]), none, 8, .other, [], none, none, (some (.nilfn))⟩
theorem ok233 : TIOk Try.prog 233 ti233 := ⟨(by kernel_rfl), (by kernel_rfl), (fun r h => nomatch h), (fun r h => nomatch h), (fun r h => by cases h; kernel_rfl), (fun r h => nomatch h), (by kernel_rfl), (fun h => nomatch h), (fun h => nomatch h), (fun k h => nomatch h), (fun f r h => nomatch h), (fun n h => nomatch h), (fun r h => nomatch h), (fun r h => by cases h; kernel_rfl)⟩
def ti234 : TI := ⟨1, false, none, none, (some [.nilfn]), none, 8, .other, [], none, none, (some (.nilfn))⟩
theorem ok234 : TIOk Try.prog 234 ti234 := ⟨(by kernel_rfl), (by kernel_rfl), (fun r h => nomatch h), (fun r h => nomatch h), (fun r h => by cases h; kernel_rfl), (fun r h => nomatch h), (by kernel_rfl), (fun h => nomatch h), (fun h => nomatch h), (fun k h => nomatch h), (fun f r h => nomatch h), (fun n h => nomatch h), (fun r h => nomatch h), (fun r h => by cases h; kernel_rfl)⟩
def ti235 : TI := ⟨4, true, none, none, (some [.int .i64 0, .int .i64 0, .int .i64 0, .int .i64 0]), (some (.st [(0, 1), (1, 1), (2, 1), (3, 1)])), 32, .other, [(0, 1, 69), (1, 1, 3), (2, 1, 3), (3, 1, 3)], (some 4), none, (some (.agg [.int .i64 0, .int .i64 0, .int .i64 0, .int .i64 0]))⟩
theorem ok235 : TIOk Try.prog 235 ti235 := ⟨(by kernel_rfl), (by kernel_rfl), (fun r h => nomatch h), (fun r h => nomatch h), (fun r h => by cases h; kernel_rfl), (fun r h => by cases h; kernel_rfl), (by kernel_rfl), (fun h => nomatch h), (fun h => nomatch h), (fun k h => nomatch h), (fun f r h => match f, h with | 0, h => by cases h; kernel_rfl | 1, h => by cases h; kernel_rfl | 2, h => by cases h; kernel_rfl | 3, h => by cases h; kernel_rfl | (n + 4), h => by simp [ti235, nth] at h), (fun n h => by cases h; exact ⟨by kernel_rfl, by kernel_rfl, by kernel_rfl⟩), (fun r h => nomatch h), (fun r h => by cases h; kernel_rfl)⟩
def ti236 : TI := ⟨4, true, none, none, (some [.int .i64 0, .int .i64 0, .int .i64 0, .int .i64 0]), (some (.st [(0, 1), (1, 1), (2, 1), (3, 1)])), 32, .other, [(0, 1, 69), (1, 1, 3), (2, 1, 3), (3, 1, 3)], (some 4), none, (some (.agg [.int .i64 0, .int .i64 0, .int .i64 0, .int .i64 0]))⟩
theorem ok236 : TIOk Try.prog 236 ti236 := ⟨(by kernel_rfl), (by kernel_rfl), (fun r h => nomatch h), (fun r h => nomatch h), (fun r h => by cases h; kernel_rfl), (fun r h => by cases h; kernel_rfl), (by kernel_rfl), (fun h => nomatch h), (fun h => nomatch h), (fun k h => nomatch h), (fun f r h => match f, h with | 0, h => by cases h; kernel_rfl | 1, h => by cases h; kernel_rfl | 2, h => by cases h; kernel_rfl | 3, h => by cases h; kernel_rfl | (n + 4), h => by simp [ti236, nth] at h), (fun n h => by cases h; exact ⟨by kernel_rfl, by kernel_rfl, by kernel_rfl⟩), (fun r h => nomatch h), (fun r h => by cases h; kernel_rfl)⟩
def ti237 : TI := ⟨1, false, none, none, (some [.nilfn]), none, 8, .other, [], none, none, (some (.nilfn))⟩
theorem ok237 : TIOk Try.prog 237 ti237 := ⟨(by kernel_rfl), (by kernel_rfl), (fun r h => nomatch h), (fun r h => nomatch h), (fun r h => by cases h; kernel_rfl), (fun r h => nomatch h), (by kernel_rfl), (fun h => nomatch h), (fun h => nomatch h), (fun k h => nomatch h), (fun f r h => nomatch h), (fun n h => nomatch h), (fun r h => nomatch h), (fun r h => by cases h; kernel_rfl)⟩
def ti238 : TI := ⟨1, false, none, none, (some [.nilfn]), none, 8, .other, [], none, none, (some (.nilfn))⟩
theorem ok238 : TIOk Try.prog 238 ti238 := ⟨(by kernel_rfl), (by kernel_rfl), (fun r h => nomatch h), (fun r h => nomatch h), (fun r h => by cases h; kernel_rfl), (fun r h => nomatch h), (by kernel_rfl), (fun h => nomatch h), (fun h => nomatch h), (fun k h => nomatch h), (fun f r h => nomatch h), (fun n h => nomatch h), (fun r h => nomatch h), (fun r h => by cases h; kernel_rfl)⟩
def ti239 : TI := ⟨1, false, none, none, (some [.nilfn]), none, 8, .other, [], none, none, (some (.nilfn))⟩
theorem ok239 : TIOk Try.prog 239 ti239 := ⟨(by kernel_rfl), (by kernel_rfl), (fun r h => nomatch h), (fun r h => nomatch h), (fun r h => by cases h; kernel_rfl), (fun r h => nomatch h), (by kernel_rfl), (fun h => nomatch h), (fun h => nomatch h), (fun k h => nomatch h), (fun f r h => nomatch h), (fun n h => nomatch h), (fun r h => nomatch h), (fun r h => by cases h; kernel_rfl)⟩
def ti240 : TI := ⟨1, false, none, none, (some [.nilfn]), none, 8, .other, [], none, none, (some (.nilfn))⟩
theorem ok240 : TIOk Try.prog 240 ti240 := ⟨(by kernel_rfl), (by kernel_rfl), (fun r h => nomatch h), (fun r h => nomatch h), (fun r h => by cases h; kernel_rfl), (fun r h => nomatch h), (by kernel_rfl), (fun h => nomatch h), (fun h => nomatch h), (fun k h => nomatch h), (fun f r h => nomatch h), (fun n h => nomatch h), (fun r h => nomatch h), (fun r h => by cases h; kernel_rfl)⟩
def ti241 : TI := ⟨1, false, none, none, (some [.nilfn]), none, 8, .other, [], none, none, (some (.nilfn))⟩
theorem ok241 : TIOk Try.prog 241 ti241 := ⟨(by kernel_rfl), (by kernel_rfl), (fun r h => nomatch h), (fun r h => nomatch h), (fun r h => by cases h; kernel_rfl), (fun r h => nomatch h), (by kernel_rfl), (fun h => nomatch h), (fun h => nomatch h), (fun k h => nomatch h), (fun f r h => nomatch h), (fun n h => nomatch h), (fun r h => nomatch h), (fun r h => by cases h; kernel_rfl)⟩
def ti242 : TI := ⟨1, false, none, none, (some [.nilfn]), none, 8, .other, [], none, none, (some (.nilfn))⟩
theorem ok242 : TIOk Try.prog 242 ti242 := ⟨(by kernel_rfl), (by kernel_rfl), (fun r h => nomatch h), (fun r h => nomatch h), (fun r h => by cases h; kernel_rfl), (fun r h => nomatch h), (by kernel_rfl), (fun h => nomatch h), (fun h => nomatch h), (fun k h => nomatch h), (fun f r h => nomatch h), (fun n h => nomatch h), (fun r h => nomatch h), (fun r h => by cases h; kernel_rfl)⟩
def ti243 : TI := ⟨1, false, none, none, (some [.nilfn]), none, 8, .other, [], none, none, (some (.nilfn))⟩
theorem ok243 : TIOk Try.prog 243 ti243 := ⟨(by kernel_rfl), (by kernel_rfl), (fun r h => nomatch h), (fun r h => nomatch h), (fun r h => by cases h; kernel_rfl), (fun r h => nomatch h), (by kernel_rfl), (fun h => nomatch h), (fun h => nomatch h), (fun k h => nomatch h), (fun f r h => nomatch h), (fun n h => nomatch h), (fun r h => nomatch h), (fun r h => by cases h; kernel_rfl)⟩
def ti244 : TI := ⟨1, false, none, none, (some [.nilfn]), none, 8, .other, [], none, none, (some (.nilfn))⟩
theorem ok244 : TIOk Try.prog 244 ti244 := ⟨(by kernel_rfl), (by kernel_rfl), (fun r h => nomatch h), (fun r h => nomatch h), (fun r h => by cases h; kernel_rfl), (fun r h => nomatch h), (by kernel_rfl), (fun h => nomatch h), (fun h => nomatch h), (fun k h => nomatch h), (fun f r h => nomatch h), (fun n h => nomatch h), (fun r h => nomatch h), (fun r h => by cases h; kernel_rfl)⟩
def ti245 : TI := ⟨1, false, none, none, (some [.nilfn]), none, 8, .other, [], none, none, (some (.nilfn))⟩
theorem ok245 : TIOk Try.prog 245 ti245 := ⟨(by kernel_rfl), (by kernel_rfl), (fun r h => nomatch h), (fun r h => nomatch h), (fun r h => by cases h; kernel_rfl), (fun r h => nomatch h), (by kernel_rfl), (fun h => nomatch h), (fun h => nomatch h), (fun k h => nomatch h), (fun f r h => nomatch h), (fun n h => nomatch h), (fun r h => nomatch h), (fun r h => by cases h; kernel_rfl)⟩
def ti246 : TI := ⟨1, false, none, none, (some [.nilfn]), none, 8, .other, [], none, none, (some (.nilfn))⟩
theorem ok246 : TIOk Try.prog 246 ti246 := ⟨(by kernel_rfl), (by kernel_rfl), (fun r h => nomatch h), (fun r h => nomatch h), (fun r h => by cases h; kernel_rfl), (fun r h => nomatch h), (by kernel_rfl), (fun h => nomatch h), (fun h => nomatch h), (fun k h => nomatch h), (fun f r h => nomatch h), (fun n h => nomatch h), (fun r h => nomatch h), (fun r h => by cases h; kernel_rfl)⟩
def ti247 : TI := ⟨1, false, none, none, (some [.nilfn]), none, 8, .other, [], none, none, (some (.nilfn))⟩
theorem ok247 : TIOk Try.prog 247 ti247 := ⟨(by kernel_rfl), (by kernel_rfl), (fun r h => nomatch h), (fun r h => nomatch h), (fun r h => by cases h; kernel_rfl), (fun r h => nomatch h), (by kernel_rfl), (fun h => nomatch h), (fun h => nomatch h), (fun k h => nomatch h), (fun f r h => nomatch h), (fun n h => nomatch h), (fun r h => nomatch h), (fun r h => by cases h; kernel_rfl)⟩
def ti248 : TI := ⟨1, false, none, none, (some [.nilfn]), none, 8, .other, [], none, none, (some (.nilfn))⟩
theorem ok248 : TIOk Try.prog 248 ti248 := ⟨(by kernel_rfl), (by kernel_rfl), (fun r h => nomatch h), (fun r h => nomatch h), (fun r h => by cases h; kernel_rfl), (fun r h => nomatch h), (by kernel_rfl), (fun h => nomatch h), (fun h => nomatch h), (fun k h => nomatch h), (fun f r h => nomatch h), (fun n h => nomatch h), (fun r h => nomatch h), (fun r h => by cases h; kernel_rfl)⟩
def ti249 : TI := ⟨1, false, none, none, (some [.nilfn]), none, 8, .other, [], none, none, (some (.nilfn))⟩
theorem ok249 : TIOk Try.prog 249 ti249 := ⟨(by kernel_rfl), (by kernel_rfl), (fun r h => nomatch h), (fun r h => nomatch h), (fun r h => by cases h; kernel_rfl), (fun r h => nomatch h), (by kernel_rfl), (fun h => nomatch h), (fun h => nomatch h), (fun k h => nomatch h), (fun f r h => nomatch h), (fun n h => nomatch h), (fun r h => nomatch h), (fun r h => by cases h; kernel_rfl)⟩
def ti250 : TI := ⟨1, false, none, none, (some [.nilfn]), none, 8, .other, [], none, none, (some (.nilfn))⟩
theorem ok250 : TIOk Try.prog 250 ti250 := ⟨(by kernel_rfl), (by kernel_rfl), (fun r h => nomatch h), (fun r h => nomatch h), (fun r h => by cases h; kernel_rfl), (fun r h => nomatch h), (by kernel_rfl), (fun h => nomatch h), (fun h => nomatch h), (fun k h => nomatch h), (fun f r h => nomatch h), (fun n h => nomatch h), (fun r h => nomatch h), (fun r h => by cases h; kernel_rfl)⟩
def ti251 : TI := ⟨1, false, none, none, (some [.nilfn]), none, 8, .other, [], none, none, (some (.nilfn))⟩
theorem ok251 : TIOk Try.prog 251 ti251 := ⟨(by kernel_rfl), (by kernel_rfl), (fun r h => nomatch h), (fun r h => nomatch h), (fun r h => by cases h; kernel_rfl), (fun r h => nomatch h), (by kernel_rfl), (fun h => nomatch h), (fun h => nomatch h), (fun k h => nomatch h), (fun f r h => nomatch h), (fun n h => nomatch h), (fun r h => nomatch h), (fun r h => by cases h; kernel_rfl)⟩
def ti252 : TI := ⟨1, false, none, none, (some [.nilfn]), none, 8, .other, [], none, none, (some (.nilfn))⟩
theorem ok252 : TIOk Try.prog 252 ti252 := ⟨(by kernel_rfl), (by kernel_rfl), (fun r h => nomatch h), (fun r h => nomatch h), (fun r h => by cases h; kernel_rfl), (fun r h => nomatch h), (by kernel_rfl), (fun h => nomatch h), (fun h => nomatch h), (fun k h => nomatch h), (fun f r h => nomatch h), (fun n h => nomatch h), (fun r h => nomatch h), (fun r h => by cases h; kernel_rfl)⟩
def ti253 : TI := ⟨1, false, none, none, (some [.nilfn]), none, 8, .other, [], none, none, (some (.nilfn))⟩
theorem ok253 : TIOk Try.prog 253 ti253 := ⟨(by kernel_rfl), (by kernel_rfl), (fun r h => nomatch h), (fun r h => nomatch h), (fun r h => by cases h; kernel_rfl), (fun r h => nomatch h), (by kernel_rfl), (fun h => nomatch h), (fun h => nomatch h), (fun k h => nomatch h), (fun f r h => nomatch h), (fun n h => nomatch h), (fun r h => nomatch h), (fun r h => by cases h; kernel_rfl)⟩
def ti254 : TI := ⟨1, false, none, none, (some [.nilfn]), none, 8, .other, [], none, none, (some (.nilfn))⟩
theorem ok254 : TIOk Try.prog 254 ti254 := ⟨(by kernel_rfl), (by kernel_rfl), (fun r h => nomatch h), (fun r h => nomatch h), (fun r h => by cases h; kernel_rfl), (fun r h => nomatch h), (by kernel_rfl), (fun h => nomatch h), (fun h => nomatch h), (fun k h => nomatch h), (fun f r h => nomatch h), (fun n h => nomatch h), (fun r h => nomatch h), (fun r h => by cases h; kernel_rfl)⟩
def ti255 : TI := ⟨1, false, none, none, (some [.nilfn]), none, 8, .other, [], none, none, (some (.nilfn))⟩
theorem ok255 : TIOk Try.prog 255 ti255 := ⟨(by kernel_rfl), (by kernel_rfl), (fun r h => nomatch h), (fun r h => nomatch h), (fun r h => by cases h; kernel_rfl), (fun r h => nomatch h), (by kernel_rfl), (fun h => nomatch h), (fun h => nomatch h), (fun k h => nomatch h), (fun f r h => nomatch h), (fun n h => nomatch h), (fun r h => nomatch h), (fun r h => by cases h; kernel_rfl)⟩
def ti256 : TI := ⟨1, false, none, none, (some [.nilptr]), none, 8, .other, [], none, none, (some (.nilptr))⟩
theorem ok256 : TIOk Try.prog 256 ti256 := ⟨(by kernel_rfl), (by kernel_rfl), (fun r h => nomatch h), (fun r h => nomatch h), (fun r h => by cases h; kernel_rfl), (fun r h => nomatch h), (by kernel_rfl), (fun h => nomatch h), (fun h => nomatch h), (fun k h => nomatch h), (fun f r h => nomatch h), (fun n h => nomatch h), (fun r h => nomatch h), (fun r h => by cases h; kernel_rfl)⟩
def ti257 : TI := ⟨1, false, none, none, (some [.nilptr]), none, 8, .other, [], none, none, (some (.nilptr))⟩
theorem ok257 : TIOk Try.prog 257 ti257 := ⟨(by kernel_rfl), (by kernel_rfl), (fun r h => nomatch h), (fun r h => nomatch h), (fun r h => by cases h; kernel_rfl), (fun r h => nomatch h), (by kernel_rfl), (fun h => nomatch h), (fun h => nomatch h), (fun k h => nomatch h), (fun f r h => nomatch h), (fun n h => nomatch h), (fun r h => nomatch h), (fun r h => by cases h; kernel_rfl)⟩
def ti258 : TI := ⟨1, false, none, none, (some [.nilfn]), none, 8, .other, [], none, none, (some (.nilfn))⟩
theorem ok258 : TIOk Try.prog 258 ti258 := ⟨(by kernel_rfl), (by kernel_rfl), (fun r h => nomatch h), (fun r h => nomatch h), (fun r h => by cases h; kernel_rfl), (fun r h => nomatch h), (by kernel_rfl), (fun h => nomatch h), (fun h => nomatch h), (fun k h => nomatch h), (fun f r h => nomatch h), (fun n h => nomatch h), (fun r h => nomatch h), (fun r h => by cases h; kernel_rfl)⟩
def ti259 : TI := ⟨1, false, none, none, (some [.nilfn]), none, 8, .other, [], none, none, (some (.nilfn))⟩
theorem ok259 : TIOk Try.prog 259 ti259 := ⟨(by kernel_rfl), (by kernel_rfl), (fun r h => nomatch h), (fun r h => nomatch h), (fun r h => by cases h; kernel_rfl), (fun r h => nomatch h), (by kernel_rfl), (fun h => nomatch h), (fun h => nomatch h), (fun k h => nomatch h), (fun f r h => nomatch h), (fun n h => nomatch h), (fun r h => nomatch h), (fun r h => by cases h; kernel_rfl)⟩
def ti260 : TI := ⟨1, false, none, none, (some [.nilfn]), none, 8, .other, [], none, none, (some (.nilfn))⟩
theorem ok260 : TIOk Try.prog 260 ti260 := ⟨(by kernel_rfl), (by kernel_rfl), (fun r h => nomatch h), (fun r h => nomatch h), (fun r h => by cases h; kernel_rfl), (fun r h => nomatch h), (by kernel_rfl), (fun h => nomatch h), (fun h => nomatch h), (fun k h => nomatch h), (fun f r h => nomatch h), (fun n h => nomatch h), (fun r h => nomatch h), (fun r h => by cases h; kernel_rfl)⟩
def ti261 : TI := ⟨1, false, none, none, (some [.int .u64 0]), none, 8, (.int .u64), [], none, none, (some (.int .u64 0))⟩
theorem ok261 : TIOk Try.prog 261 ti261 := ⟨(by kernel_rfl), (by kernel_rfl), (fun r h => nomatch h), (fun r h => nomatch h), (fun r h => by cases h; kernel_rfl), (fun r h => nomatch h), (by kernel_rfl), (fun h => nomatch h), (fun h => nomatch h), (fun k h => by cases h; kernel_rfl), (fun f r h => nomatch h), (fun n h => nomatch h), (fun r h => nomatch h), (fun r h => by cases h; kernel_rfl)⟩
def ti262 : TI := ⟨1, false, none, none, (some [.nilfn]), none, 8, .other, [], none, none, (some (.nilfn))⟩
theorem ok262 : TIOk Try.prog 262 ti262 := ⟨(by kernel_rfl), (by kernel_rfl), (fun r h => nomatch h), (fun r h => nomatch h), (fun r h => by cases h; kernel_rfl), (fun r h => nomatch h), (by kernel_rfl), (fun h => nomatch h), (fun h => nomatch h), (fun k h => nomatch h), (fun f r h => nomatch h), (fun n h => nomatch h), (fun r h => nomatch h), (fun r h => by cases h; kernel_rfl)⟩
def ti263 : TI := ⟨4, true, none, none, (some [.nilptr, .nilptr, .nilptr, .str ⟨#[]⟩]), (some (.st [(0, 1), (1, 1), (2, 1), (3, 1)])), 40, .other, [(0, 1, 17), (1, 1, 17), (2, 1, 17), (3, 1, 9)], none, none, (some (.agg [.nilptr, .nilptr, .nilptr, .str ⟨#[]⟩]))⟩
theorem ok263 : TIOk Try.prog 263 ti263 := ⟨(by kernel_rfl), (by kernel_rfl), (fun r h => nomatch h), (fun r h => nomatch h), (fun r h => by cases h; kernel_rfl), (fun r h => by cases h; kernel_rfl), (by kernel_rfl), (fun h => nomatch h), (fun h => nomatch h), (fun k h => nomatch h), (fun f r h => match f, h with | 0, h => by cases h; kernel_rfl | 1, h => by cases h; kernel_rfl | 2, h => by cases h; kernel_rfl | 3, h => by cases h; kernel_rfl | (n + 4), h => by simp [ti263, nth] at h), (fun n h => nomatch h), (fun r h => nomatch h), (fun r h => by cases h; kernel_rfl)⟩
def ti264 : TI := ⟨4, true, none, none, (some [.nilptr, .nilptr, .nilptr, .str ⟨#[]⟩]), (some (.st [(0, 1), (1, 1), (2, 1), (3, 1)])), 40, .other, [(0, 1, 17), (1, 1, 17), (2, 1, 17), (3, 1, 9)], none, none, (some (.agg [.nilptr, .nilptr, .nilptr, .str ⟨#[]⟩]))⟩
theorem ok264 : TIOk Try.prog 264 ti264 := ⟨(by kernel_rfl), (by kernel_rfl), (fun r h => nomatch h), (fun r h => nomatch h), (fun r h => by cases h; kernel_rfl), (fun r h => by cases h; kernel_rfl), (by kernel_rfl), (fun h => nomatch h), (fun h => nomatch h), (fun k h => nomatch h), (fun f r h => match f, h with | 0, h => by cases h; kernel_rfl | 1, h => by cases h; kernel_rfl | 2, h => by cases h; kernel_rfl | 3, h => by cases h; kernel_rfl | (n + 4), h => by simp [ti264, nth] at h), (fun n h => nomatch h), (fun r h => nomatch h), (fun r h => by cases h; kernel_rfl)⟩
def ti265 : TI := ⟨0, true, none, (some (0, 16, 1)), (some []), (some (.ar 1)), 0, .other, [], none, none, (some (.agg []))⟩
theorem ok265 : TIOk Try.prog 265 ti265 := ⟨(by kernel_rfl), (by kernel_rfl), (fun r h => nomatch h), (fun r h => by cases h; kernel_rfl), (fun r h => by cases h; kernel_rfl), (fun r h => by cases h; kernel_rfl), (by kernel_rfl), (fun h => nomatch h), (fun h => nomatch h), (fun k h => nomatch h), (fun f r h => nomatch h), (fun n h => nomatch h), (fun r h => nomatch h), (fun r h => by cases h; kernel_rfl)⟩
def ti266 : TI := ⟨0, true, none, none, (some []), (some (.st [(0, 0)])), 0, .other, [(0, 0, 265)], none, none, (some (.agg []))⟩
theorem ok266 : TIOk Try.prog 266 ti266 := ⟨(by kernel_rfl), (by kernel_rfl), (fun r h => nomatch h), (fun r h => nomatch h), (fun r h => by cases h; kernel_rfl), (fun r h => by cases h; kernel_rfl), (by kernel_rfl), (fun h => nomatch h), (fun h => nomatch h), (fun k h => nomatch h), (fun f r h => match f, h with | 0, h => by cases h; kernel_rfl | (n + 1), h => by simp [ti266, nth] at h), (fun n h => nomatch h), (fun r h => nomatch h), (fun r h => by cases h; kernel_rfl)⟩
def ti267 : TI := ⟨0, true, none, none, (some []), (some (.st [(0, 0)])), 0, .other, [(0, 0, 265)], none, none, (some (.agg []))⟩
theorem ok267 : TIOk Try.prog 267 ti267 := ⟨(by kernel_rfl), (by kernel_rfl), (fun r h => nomatch h), (fun r h => nomatch h), (fun r h => by cases h; kernel_rfl), (fun r h => by cases h; kernel_rfl), (by kernel_rfl), (fun h => nomatch h), (fun h => nomatch h), (fun k h => nomatch h), (fun f r h => match f, h with | 0, h => by cases h; kernel_rfl | (n + 1), h => by simp [ti267, nth] at h), (fun n h => nomatch h), (fun r h => nomatch h), (fun r h => by cases h; kernel_rfl)⟩
def ti268 : TI := ⟨1, false, none, none, (some [.nilfn]), none, 8, .other, [], none, none, (some (.nilfn))⟩
theorem ok268 : TIOk Try.prog 268 ti268 := ⟨(by kernel_rfl), (by kernel_rfl), (fun r h => nomatch h), (fun r h => nomatch h), (fun r h => by cases h; kernel_rfl), (fun r h => nomatch h), (by kernel_rfl), (fun h => nomatch h), (fun h => nomatch h), (fun k h => nomatch h), (fun f r h => nomatch h), (fun n h => nomatch h), (fun r h => nomatch h), (fun r h => by cases h; kernel_rfl)⟩
def ti269 : TI := ⟨1, false, none, none, (some [.int .u32 0]), none, 4, (.int .u32), [], none, none, (some (.int .u32 0))⟩
theorem ok269 : TIOk Try.prog 269 ti269 := ⟨(by kernel_rfl), (by kernel_rfl), (fun r h => nomatch h), (fun r h => nomatch h), (fun r h => by cases h; kernel_rfl), (fun r h => nomatch h), (by kernel_rfl), (fun h => nomatch h), (fun h => nomatch h), (fun k h => by cases h; kernel_rfl), (fun f r h => nomatch h), (fun n h => nomatch h), (fun r h => nomatch h), (fun r h => by cases h; kernel_rfl)⟩
def ti270 : TI := ⟨1, false, none, none, (some [.int .u8 0]), none, 1, (.int .u8), [], none, none, (some (.int .u8 0))⟩
theorem ok270 : TIOk Try.prog 270 ti270 := ⟨(by kernel_rfl), (by kernel_rfl), (fun r h => nomatch h), (fun r h => nomatch h), (fun r h => by cases h; kernel_rfl), (fun r h => nomatch h), (by kernel_rfl), (fun h => nomatch h), (fun h => nomatch h), (fun k h => by cases h; kernel_rfl), (fun f r h => nomatch h), (fun n h => nomatch h), (fun r h => nomatch h), (fun r h => by cases h; kernel_rfl)⟩
def ti271 : TI := ⟨1, false, none, none, (some [.int .u8 0]), none, 1, (.int .u8), [], none, none, (some (.int .u8 0))⟩
theorem ok271 : TIOk Try.prog 271 ti271 := ⟨(by kernel_rfl), (by kernel_rfl), (fun r h => nomatch h), (fun r h => nomatch h), (fun r h => by cases h; kernel_rfl), (fun r h => nomatch h), (by kernel_rfl), (fun h => nomatch h), (fun h => nomatch h), (fun k h => by cases h; kernel_rfl), (fun f r h => nomatch h), (fun n h => nomatch h), (fun r h => nomatch h), (fun r h => by cases h; kernel_rfl)⟩
def ti272 : TI := ⟨1, false, none, none, (some [.nilfn]), none, 8, .other, [], none, none, (some (.nilfn))⟩
theorem ok272 : TIOk Try.prog 272 ti272 := ⟨(by kernel_rfl), (by kernel_rfl), (fun r h => nomatch h), (fun r h => nomatch h), (fun r h => by cases h; kernel_rfl), (fun r h => nomatch h), (by kernel_rfl), (fun h => nomatch h), (fun h => nomatch h), (fun k h => nomatch h), (fun f r h => nomatch h), (fun n h => nomatch h), (fun r h => nomatch h), (fun r h => by cases h; kernel_rfl)⟩
def ti273 : TI := ⟨1, false, none, none, (some [.nilptr]), none, 8, .other, [], none, none, (some (.nilptr))⟩
theorem ok273 : TIOk Try.prog 273 ti273 := ⟨(by kernel_rfl), (by kernel_rfl), (fun r h => nomatch h), (fun r h => nomatch h), (fun r h => by cases h; kernel_rfl), (fun r h => nomatch h), (by kernel_rfl), (fun h => nomatch h), (fun h => nomatch h), (fun k h => nomatch h), (fun f r h => nomatch h), (fun n h => nomatch h), (fun r h => nomatch h), (fun r h => by cases h; kernel_rfl)⟩
def ti274 : TI := ⟨1, false, none, none, (some [.int .i32 0]), none, 4, (.int .i32), [], none, none, (some (.int .i32 0))⟩
theorem ok274 : TIOk Try.prog 274 ti274 := ⟨(by kernel_rfl), (by kernel_rfl), (fun r h => nomatch h), (fun r h => nomatch h), (fun r h => by cases h; kernel_rfl), (fun r h => nomatch h), (by kernel_rfl), (fun h => nomatch h), (fun h => nomatch h), (fun k h => by cases h; kernel_rfl), (fun f r h => nomatch h), (fun n h => nomatch h), (fun r h => nomatch h), (fun r h => by cases h; kernel_rfl)⟩
def ti275 : TI := ⟨1, false, none, none, (some [.int .i32 0]), none, 4, (.int .i32), [], none, none, (some (.int .i32 0))⟩
theorem ok275 : TIOk Try.prog 275 ti275 := ⟨(by kernel_rfl), (by kernel_rfl), (fun r h => nomatch h), (fun r h => nomatch h), (fun r h => by cases h; kernel_rfl), (fun r h => nomatch h), (by kernel_rfl), (fun h => nomatch h), (fun h => nomatch h), (fun k h => by cases h; kernel_rfl), (fun f r h => nomatch h), (fun n h => nomatch h), (fun r h => nomatch h), (fun r h => by cases h; kernel_rfl)⟩
def ti276 : TI := ⟨11, true, none, none, (some [.int .u64 0, .int .u64 0, .int .u32 0, .int .u8 0, .int .u8 0, .int .u8 0, .int .u8 0, .nilfn, .nilptr, .int .i32 0, .int .i32 0]), (some (.st [(0, 1), (1, 1), (2, 1), (3, 1), (4, 1), (5, 1), (6, 1), (7, 1), (8, 1), (9, 1), (10, 1)])), 48, .other, [(0, 1, 12), (1, 1, 12), (2, 1, 269), (3, 1, 270), (4, 1, 5), (5, 1, 5), (6, 1, 271), (7, 1, 272), (8, 1, 273), (9, 1, 274), (10, 1, 275)], none, none, (some (.agg [.int .u64 0, .int .u64 0, .int .u32 0, .int .u8 0, .int .u8 0, .int .u8 0, .int .u8 0, .nilfn, .nilptr, .int .i32 0, .int .i32 0]))⟩
theorem ok276 : TIOk Try.prog 276 ti276 := ⟨(by kernel_rfl), (by kernel_rfl), (fun r h => nomatch h), (fun r h => nomatch h), (fun r h => by cases h; kernel_rfl), (fun r h => by cases h; kernel_rfl), (by kernel_rfl), (fun h => nomatch h), (fun h => nomatch h), (fun k h => nomatch h), (fun f r h => match f, h with | 0, h => by cases h; kernel_rfl | 1, h => by cases h; kernel_rfl | 2, h => by cases h; kernel_rfl | 3, h => by cases h; kernel_rfl | 4, h => by cases h; kernel_rfl | 5, h => by cases h; kernel_rfl | 6, h => by cases h; kernel_rfl | 7, h => by cases h; kernel_rfl | 8, h => by cases h; kernel_rfl | 9, h => by cases h; kernel_rfl | 10, h => by cases h; kernel_rfl | (n + 11), h => by simp [ti276, nth] at h), (fun n h => nomatch h), (fun r h => nomatch h), (fun r h => by cases h; kernel_rfl)⟩
def ti277 : TI := ⟨11, true, none, none, (some [.int .u64 0, .int .u64 0, .int .u32 0, .int .u8 0, .int .u8 0, .int .u8 0, .int .u8 0, .nilfn, .nilptr, .int .i32 0, .int .i32 0]), (some (.st [(0, 1), (1, 1), (2, 1), (3, 1), (4, 1), (5, 1), (6, 1), (7, 1), (8, 1), (9, 1), (10, 1)])), 48, .other, [(0, 1, 12), (1, 1, 12), (2, 1, 269), (3, 1, 270), (4, 1, 5), (5, 1, 5), (6, 1, 271), (7, 1, 272), (8, 1, 273), (9, 1, 274), (10, 1, 275)], none, none, (some (.agg [.int .u64 0, .int .u64 0, .int .u32 0, .int .u8 0, .int .u8 0, .int .u8 0, .int .u8 0, .nilfn, .nilptr, .int .i32 0, .int .i32 0]))⟩
theorem ok277 : TIOk Try.prog 277 ti277 := ⟨(by kernel_rfl), (by kernel_rfl), (fun r h => nomatch h), (fun r h => nomatch h), (fun r h => by cases h; kernel_rfl), (fun r h => by cases h; kernel_rfl), (by kernel_rfl), (fun h => nomatch h), (fun h => nomatch h), (fun k h => nomatch h), (fun f r h => match f, h with | 0, h => by cases h; kernel_rfl | 1, h => by cases h; kernel_rfl | 2, h => by cases h; kernel_rfl | 3, h => by cases h; kernel_rfl | 4, h => by cases h; kernel_rfl | 5, h => by cases h; kernel_rfl | 6, h => by cases h; kernel_rfl | 7, h => by cases h; kernel_rfl | 8, h => by cases h; kernel_rfl | 9, h => by cases h; kernel_rfl | 10, h => by cases h; kernel_rfl | (n + 11), h => by simp [ti277, nth] at h), (fun n h => nomatch h), (fun r h => nomatch h), (fun r h => by cases h; kernel_rfl)⟩
def ti278 : TI := ⟨1, false, none, none, (some [.nilfn]), none, 8, .other, [], none, none, (some (.nilfn))⟩
theorem ok278 : TIOk Try.prog 278 ti278 := ⟨(by kernel_rfl), (by kernel_rfl), (fun r h => nomatch h), (fun r h => nomatch h), (fun r h => by cases h; kernel_rfl), (fun r h => nomatch h), (by kernel_rfl), (fun h => nomatch h), (fun h => nomatch h), (fun k h => nomatch h), (fun f r h => nomatch h), (fun n h => nomatch h), (fun r h => nomatch h), (fun r h => by cases h; kernel_rfl)⟩
def ti279 : TI := ⟨1, false, none, none, (some [.nilfn]), none, 8, .other, [], none, none, (some (.nilfn))⟩
theorem ok279 : TIOk Try.prog 279 ti279 := ⟨(by kernel_rfl), (by kernel_rfl), (fun r h => nomatch h), (fun r h => nomatch h), (fun r h => by cases h; kernel_rfl), (fun r h => nomatch h), (by kernel_rfl), (fun h => nomatch h), (fun h => nomatch h), (fun k h => nomatch h), (fun f r h => nomatch h), (fun n h => nomatch h), (fun r h => nomatch h), (fun r h => by cases h; kernel_rfl)⟩
def ti280 : TI := ⟨1, false, none, none, (some [.nilptr]), none, 8, .other, [], none, none, (some (.nilptr))⟩
theorem ok280 : TIOk Try.prog 280 ti280 := ⟨(by kernel_rfl), (by kernel_rfl), (fun r h => nomatch h), (fun r h => nomatch h), (fun r h => by cases h; kernel_rfl), (fun r h => nomatch h), (by kernel_rfl), (fun h => nomatch h), (fun h => nomatch h), (fun k h => nomatch h), (fun f r h => nomatch h), (fun n h => nomatch h), (fun r h => nomatch h), (fun r h => by cases h; kernel_rfl)⟩
def ti281 : TI := ⟨1, false, none, none, (some [.int .u64 0]), none, 8, (.int .u64), [], none, none, (some (.int .u64 0))⟩
theorem ok281 : TIOk Try.prog 281 ti281 := ⟨(by kernel_rfl), (by kernel_rfl), (fun r h => nomatch h), (fun r h => nomatch h), (fun r h => by cases h; kernel_rfl), (fun r h => nomatch h), (by kernel_rfl), (fun h => nomatch h), (fun h => nomatch h), (fun k h => by cases h; kernel_rfl), (fun f r h => nomatch h), (fun n h => nomatch h), (fun r h => nomatch h), (fun r h => by cases h; kernel_rfl)⟩
def tabT : Tree := (.node (.node (.node (.node (.node (.node (.node (.node (.node .leaf 0 ti0 .leaf) 1 ti1 .leaf) 2 ti2 (.node .leaf 3 ti3 .leaf)) 4 ti4 (.node (.node .leaf 5 ti5 .leaf) 6 ti6 (.node .leaf 7 ti7 .leaf))) 8 ti8 (.node (.node (.node (.node .leaf 9 ti9 .leaf) 10 ti10 .leaf) 11 ti11 (.node .leaf 12 ti12 .leaf)) 13 ti13 (.node (.node .leaf 14 ti14 .leaf) 15 ti15 (.node .leaf 16 ti16 .leaf)))) 17 ti17 (.node (.node (.node (.node (.node .leaf 18 ti18 .leaf) 19 ti19 .leaf) 20 ti20 (.node .leaf 21 ti21 .leaf)) 22 ti22 (.node (.node .leaf 23 ti23 .leaf) 24 ti24 (.node .leaf 25 ti25 .leaf))) 26 ti26 (.node (.node (.node (.node .leaf 27 ti27 .leaf) 28 ti28 .leaf) 29 ti29 (.node .leaf 30 ti30 .leaf)) 31 ti31 (.node (.node .leaf 32 ti32 .leaf) 33 ti33 (.node .leaf 34 ti34 .leaf))))) 35 ti35 (.node (.node (.node (.node (.node (.node .leaf 36 ti36 .leaf) 37 ti37 .leaf) 38 ti38 (.node .leaf 39 ti39 .leaf)) 40 ti40 (.node (.node .leaf 41 ti41 .leaf) 42 ti42 (.node .leaf 43 ti43 .leaf))) 44 ti44 (.node (.node (.node (.node .leaf 45 ti45 .leaf) 46 ti46 .leaf) 47 ti47 (.node .leaf 48 ti48 .leaf)) 49 ti49 (.node (.node .leaf 50 ti50 .leaf) 51 ti51 (.node .leaf 52 ti52 .leaf)))) 53 ti53 (.node (.node (.node (.node (.node .leaf 54 ti54 .leaf) 55 ti55 .leaf) 56 ti56 (.node .leaf 57 ti57 .leaf)) 58 ti58 (.node (.node .leaf 59 ti59 .leaf) 60 ti60 (.node .leaf 61 ti61 .leaf))) 62 ti62 (.node (.node (.node .leaf 63 ti63 .leaf) 64 ti64 (.node .leaf 65 ti65 .leaf)) 66 ti66 (.node (.node .leaf 67 ti67 .leaf) 68 ti68 (.node .leaf 69 ti69 .leaf)))))) 70 ti70 (.node (.node (.node (.node (.node (.node (.node .leaf 71 ti71 .leaf) 72 ti72 .leaf) 73 ti73 (.node .leaf 74 ti74 .leaf)) 75 ti75 (.node (.node .leaf 76 ti76 .leaf) 77 ti77 (.node .leaf 78 ti78 .leaf))) 79 ti79 (.node (.node (.node (.node .leaf 80 ti80 .leaf) 81 ti81 .leaf) 82 ti82 (.node .leaf 83 ti83 .leaf)) 84 ti84 (.node (.node .leaf 85 ti85 .leaf) 86 ti86 (.node .leaf 87 ti87 .leaf)))) 88 ti88 (.node (.node (.node (.node (.node .leaf 89 ti89 .leaf) 90 ti90 .leaf) 91 ti91 (.node .leaf 92 ti92 .leaf)) 93 ti93 (.node (.node .leaf 94 ti94 .leaf) 95 ti95 (.node .leaf 96 ti96 .leaf))) 97 ti97 (.node (.node (.node (.node .leaf 98 ti98 .leaf) 99 ti99 .leaf) 100 ti100 (.node .leaf 101 ti101 .leaf)) 102 ti102 (.node (.node .leaf 103 ti103 .leaf) 104 ti104 (.node .leaf 105 ti105 .leaf))))) 106 ti106 (.node (.node (.node (.node (.node (.node .leaf 107 ti107 .leaf) 108 ti108 .leaf) 109 ti109 (.node .leaf 110 ti110 .leaf)) 111 ti111 (.node (.node .leaf 112 ti112 .leaf) 113 ti113 (.node .leaf 114 ti114 .leaf))) 115 ti115 (.node (.node (.node (.node .leaf 116 ti116 .leaf) 117 ti117 .leaf) 118 ti118 (.node .leaf 119 ti119 .leaf)) 120 ti120 (.node (.node .leaf 121 ti121 .leaf) 122 ti122 (.node .leaf 123 ti123 .leaf)))) 124 ti124 (.node (.node (.node (.node (.node .leaf 125 ti125 .leaf) 126 ti126 .leaf) 127 ti127 (.node .leaf 128 ti128 .leaf)) 129 ti129 (.node (.node .leaf 130 ti130 .leaf) 131 ti131 (.node .leaf 132 ti132 .leaf))) 133 ti133 (.node (.node (.node .leaf 134 ti134 .leaf) 135 ti135 (.node .leaf 136 ti136 .leaf)) 137 ti137 (.node (.node .leaf 138 ti138 .leaf) 139 ti139 (.node .leaf 140 ti140 .leaf))))))) 141 ti141 (.node (.node (.node (.node (.node (.node (.node (.node .leaf 142 ti142 .leaf) 143 ti143 .leaf) 144 ti144 (.node .leaf 145 ti145 .leaf)) 146 ti146 (.node (.node .leaf 147 ti147 .leaf) 148 ti148 (.node .leaf 149 ti149 .leaf))) 150 ti150 (.node (.node (.node (.node .leaf 151 ti151 .leaf) 152 ti152 .leaf) 153 ti153 (.node .leaf 154 ti154 .leaf)) 155 ti155 (.node (.node .leaf 156 ti156 .leaf) 157 ti157 (.node .leaf 158 ti158 .leaf)))) 159 ti159 (.node (.node (.node (.node (.node .leaf 160 ti160 .leaf) 161 ti161 .leaf) 162 ti162 (.node .leaf 163 ti163 .leaf)) 164 ti164 (.node (.node .leaf 165 ti165 .leaf) 166 ti166 (.node .leaf 167 ti167 .leaf))) 168 ti168 (.node (.node (.node (.node .leaf 169 ti169 .leaf) 170 ti170 .leaf) 171 ti171 (.node .leaf 172 ti172 .leaf)) 173 ti173 (.node (.node .leaf 174 ti174 .leaf) 175 ti175 (.node .leaf 176 ti176 .leaf))))) 177 ti177 (.node (.node (.node (.node (.node (.node .leaf 178 ti178 .leaf) 179 ti179 .leaf) 180 ti180 (.node .leaf 181 ti181 .leaf)) 182 ti182 (.node (.node .leaf 183 ti183 .leaf) 184 ti184 (.node .leaf 185 ti185 .leaf))) 186 ti186 (.node (.node (.node (.node .leaf 187 ti187 .leaf) 188 ti188 .leaf) 189 ti189 (.node .leaf 190 ti190 .leaf)) 191 ti191 (.node (.node .leaf 192 ti192 .leaf) 193 ti193 (.node .leaf 194 ti194 .leaf)))) 195 ti195 (.node (.node (.node (.node (.node .leaf 196 ti196 .leaf) 197 ti197 .leaf) 198 ti198 (.node .leaf 199 ti199 .leaf)) 200 ti200 (.node (.node .leaf 201 ti201 .leaf) 202 ti202 (.node .leaf 203 ti203 .leaf))) 204 ti204 (.node (.node (.node .leaf 205 ti205 .leaf) 206 ti206 (.node .leaf 207 ti207 .leaf)) 208 ti208 (.node (.node .leaf 209 ti209 .leaf) 210 ti210 (.node .leaf 211 ti211 .leaf)))))) 212 ti212 (.node (.node (.node (.node (.node (.node (.node .leaf 213 ti213 .leaf) 214 ti214 .leaf) 215 ti215 (.node .leaf 216 ti216 .leaf)) 217 ti217 (.node (.node .leaf 218 ti218 .leaf) 219 ti219 (.node .leaf 220 ti220 .leaf))) 221 ti221 (.node (.node (.node (.node .leaf 222 ti222 .leaf) 223 ti223 .leaf) 224 ti224 (.node .leaf 225 ti225 .leaf)) 226 ti226 (.node (.node .leaf 227 ti227 .leaf) 228 ti228 (.node .leaf 229 ti229 .leaf)))) 230 ti230 (.node (.node (.node (.node (.node .leaf 231 ti231 .leaf) 232 ti232 .leaf) 233 ti233 (.node .leaf 234 ti234 .leaf)) 235 ti235 (.node (.node .leaf 236 ti236 .leaf) 237 ti237 (.node .leaf 238 ti238 .leaf))) 239 ti239 (.node (.node (.node .leaf 240 ti240 .leaf) 241 ti241 (.node .leaf 242 ti242 .leaf)) 243 ti243 (.node (.node .leaf 244 ti244 .leaf) 245 ti245 (.node .leaf 246 ti246 .leaf))))) 247 ti247 (.node (.node (.node (.node (.node (.node .leaf 248 ti248 .leaf) 249 ti249 .leaf) 250 ti250 (.node .leaf 251 ti251 .leaf)) 252 ti252 (.node (.node .leaf 253 ti253 .leaf) 254 ti254 (.node .leaf 255 ti255 .leaf))) 256 ti256 (.node (.node (.node (.node .leaf 257 ti257 .leaf) 258 ti258 .leaf) 259 ti259 (.node .leaf 260 ti260 .leaf)) 261 ti261 (.node (.node .leaf 262 ti262 .leaf) 263 ti263 (.node .leaf 264 ti264 .leaf)))) 265 ti265 (.node (.node (.node (.node (.node .leaf 266 ti266 .leaf) 267 ti267 .leaf) 268 ti268 (.node .leaf 269 ti269 .leaf)) 270 ti270 (.node (.node .leaf 271 ti271 .leaf) 272 ti272 (.node .leaf 273 ti273 .leaf))) 274 ti274 (.node (.node (.node .leaf 275 ti275 .leaf) 276 ti276 (.node .leaf 277 ti277 .leaf)) 278 ti278 (.node (.node .leaf 279 ti279 .leaf) 280 ti280 (.node .leaf 281 ti281 .leaf))))))))
def tab (n : Nat) : Option TI := tabT.look n
theorem tabTOk : TabOk Try.prog tabT := ⟨ok141, ⟨ok70, ⟨ok35, ⟨ok17, ⟨ok8, ⟨ok4, ⟨ok2, ⟨ok1, ⟨ok0, trivial, trivial⟩, trivial⟩, ⟨ok3, trivial, trivial⟩⟩, ⟨ok6, ⟨ok5, trivial, trivial⟩, ⟨ok7, trivial, trivial⟩⟩⟩, ⟨ok13, ⟨ok11, ⟨ok10, ⟨ok9, trivial, trivial⟩, trivial⟩, ⟨ok12, trivial, trivial⟩⟩, ⟨ok15, ⟨ok14, trivial, trivial⟩, ⟨ok16, trivial, trivial⟩⟩⟩⟩, ⟨ok26, ⟨ok22, ⟨ok20, ⟨ok19, ⟨ok18, trivial, trivial⟩, trivial⟩, ⟨ok21, trivial, trivial⟩⟩, ⟨ok24, ⟨ok23, trivial, trivial⟩, ⟨ok25, trivial, trivial⟩⟩⟩, ⟨ok31, ⟨ok29, ⟨ok28, ⟨ok27, trivial, trivial⟩, trivial⟩, ⟨ok30, trivial, trivial⟩⟩, ⟨ok33, ⟨ok32, trivial, trivial⟩, ⟨ok34, trivial, trivial⟩⟩⟩⟩⟩, ⟨ok53, ⟨ok44, ⟨ok40, ⟨ok38, ⟨ok37, ⟨ok36, trivial, trivial⟩, trivial⟩, ⟨ok39, trivial, trivial⟩⟩, ⟨ok42, ⟨ok41, trivial, trivial⟩, ⟨ok43, trivial, trivial⟩⟩⟩, ⟨ok49, ⟨ok47, ⟨ok46, ⟨ok45, trivial, trivial⟩, trivial⟩, ⟨ok48, trivial, trivial⟩⟩, ⟨ok51, ⟨ok50, trivial, trivial⟩, ⟨ok52, trivial, trivial⟩⟩⟩⟩, ⟨ok62, ⟨ok58, ⟨ok56, ⟨ok55, ⟨ok54, trivial, trivial⟩, trivial⟩, ⟨ok57, trivial, trivial⟩⟩, ⟨ok60, ⟨ok59, trivial, trivial⟩, ⟨ok61, trivial, trivial⟩⟩⟩, ⟨ok66, ⟨ok64, ⟨ok63, trivial, trivial⟩, ⟨ok65, trivial, trivial⟩⟩, ⟨ok68, ⟨ok67, trivial, trivial⟩, ⟨ok69, trivial, trivial⟩⟩⟩⟩⟩⟩, ⟨ok106, ⟨ok88, ⟨ok79, ⟨ok75, ⟨ok73, ⟨ok72, ⟨ok71, trivial, trivial⟩, trivial⟩, ⟨ok74, trivial, trivial⟩⟩, ⟨ok77, ⟨ok76, trivial, trivial⟩, ⟨ok78, trivial, trivial⟩⟩⟩, ⟨ok84, ⟨ok82, ⟨ok81, ⟨ok80, trivial, trivial⟩, trivial⟩, ⟨ok83, trivial, trivial⟩⟩, ⟨ok86, ⟨ok85, trivial, trivial⟩, ⟨ok87, trivial, trivial⟩⟩⟩⟩, ⟨ok97, ⟨ok93, ⟨ok91, ⟨ok90, ⟨ok89, trivial, trivial⟩, trivial⟩, ⟨ok92, trivial, trivial⟩⟩, ⟨ok95, ⟨ok94, trivial, trivial⟩, ⟨ok96, trivial, trivial⟩⟩⟩, ⟨ok102, ⟨ok100, ⟨ok99, ⟨ok98, trivial, trivial⟩, trivial⟩, ⟨ok101, trivial, trivial⟩⟩, ⟨ok104, ⟨ok103, trivial, trivial⟩, ⟨ok105, trivial, trivial⟩⟩⟩⟩⟩, ⟨ok124, ⟨ok115, ⟨ok111, ⟨ok109, ⟨ok108, ⟨ok107, trivial, trivial⟩, trivial⟩, ⟨ok110, trivial, trivial⟩⟩, ⟨ok113, ⟨ok112, trivial, trivial⟩, ⟨ok114, trivial, trivial⟩⟩⟩, ⟨ok120, ⟨ok118, ⟨ok117, ⟨ok116, trivial, trivial⟩, trivial⟩, ⟨ok119, trivial, trivial⟩⟩, ⟨ok122, ⟨ok121, trivial, trivial⟩, ⟨ok123, trivial, trivial⟩⟩⟩⟩, ⟨ok133, ⟨ok129, ⟨ok127, ⟨ok126, ⟨ok125, trivial, trivial⟩, trivial⟩, ⟨ok128, trivial, trivial⟩⟩, ⟨ok131, ⟨ok130, trivial, trivial⟩, ⟨ok132, trivial, trivial⟩⟩⟩, ⟨ok137, ⟨ok135, ⟨ok134, trivial, trivial⟩, ⟨ok136, trivial, trivial⟩⟩, ⟨ok139, ⟨ok138, trivial, trivial⟩, ⟨ok140, trivial, trivial⟩⟩⟩⟩⟩⟩⟩, ⟨ok212, ⟨ok177, ⟨ok159, ⟨ok150, ⟨ok146, ⟨ok144, ⟨ok143, ⟨ok142, trivial, trivial⟩, trivial⟩, ⟨ok145, trivial, trivial⟩⟩, ⟨ok148, ⟨ok147, trivial, trivial⟩, ⟨ok149, trivial, trivial⟩⟩⟩, ⟨ok155, ⟨ok153, ⟨ok152, ⟨ok151, trivial, trivial⟩, trivial⟩, ⟨ok154, trivial, trivial⟩⟩, ⟨ok157, ⟨ok156, trivial, trivial⟩, ⟨ok158, trivial, trivial⟩⟩⟩⟩, ⟨ok168, ⟨ok164, ⟨ok162, ⟨ok161, ⟨ok160, trivial, trivial⟩, trivial⟩, ⟨ok163, trivial, trivial⟩⟩, ⟨ok166, ⟨ok165, trivial, trivial⟩, ⟨ok167, trivial, trivial⟩⟩⟩, ⟨ok173, ⟨ok171, ⟨ok170, ⟨ok169, trivial, trivial⟩, trivial⟩, ⟨ok172, trivial, trivial⟩⟩, ⟨ok175, ⟨ok174, trivial, trivial⟩, ⟨ok176, trivial, trivial⟩⟩⟩⟩⟩, ⟨ok195, ⟨ok186, ⟨ok182, ⟨ok180, ⟨ok179, ⟨ok178, trivial, trivial⟩, trivial⟩, ⟨ok181, trivial, trivial⟩⟩, ⟨ok184, ⟨ok183, trivial, trivial⟩, ⟨ok185, trivial, trivial⟩⟩⟩, ⟨ok191, ⟨ok189, ⟨ok188, ⟨ok187, trivial, trivial⟩, trivial⟩, ⟨ok190, trivial, trivial⟩⟩, ⟨ok193, ⟨ok192, trivial, trivial⟩, ⟨ok194, trivial, trivial⟩⟩⟩⟩, ⟨ok204, ⟨ok200, ⟨ok198, ⟨ok197, ⟨ok196, trivial, trivial⟩, trivial⟩, ⟨ok199, trivial, trivial⟩⟩, ⟨ok202, ⟨ok201, trivial, trivial⟩, ⟨ok203, trivial, trivial⟩⟩⟩, ⟨ok208, ⟨ok206, ⟨ok205, trivial, trivial⟩, ⟨ok207, trivial, trivial⟩⟩, ⟨ok210, ⟨ok209, trivial, trivial⟩, ⟨ok211, trivial, trivial⟩⟩⟩⟩⟩⟩, ⟨ok247, ⟨ok230, ⟨ok221, ⟨ok217, ⟨ok215, ⟨ok214, ⟨ok213, trivial, trivial⟩, trivial⟩, ⟨ok216, trivial, trivial⟩⟩, ⟨ok219, ⟨ok218, trivial, trivial⟩, ⟨ok220, trivial, trivial⟩⟩⟩, ⟨ok226, ⟨ok224, ⟨ok223, ⟨ok222, trivial, trivial⟩, trivial⟩, ⟨ok225, trivial, trivial⟩⟩, ⟨ok228, ⟨ok227, trivial, trivial⟩, ⟨ok229, trivial, trivial⟩⟩⟩⟩, ⟨ok239, ⟨ok235, ⟨ok233, ⟨ok232, ⟨ok231, trivial, trivial⟩, trivial⟩, ⟨ok234, trivial, trivial⟩⟩, ⟨ok237, ⟨ok236, trivial, trivial⟩, ⟨ok238, trivial, trivial⟩⟩⟩, ⟨ok243, ⟨ok241, ⟨ok240, trivial, trivial⟩, ⟨ok242, trivial, trivial⟩⟩, ⟨ok245, ⟨ok244, trivial, trivial⟩, ⟨ok246, trivial, trivial⟩⟩⟩⟩⟩, ⟨ok265, ⟨ok256, ⟨ok252, ⟨ok250, ⟨ok249, ⟨ok248, trivial, trivial⟩, trivial⟩, ⟨ok251, trivial, trivial⟩⟩, ⟨ok254, ⟨ok253, trivial, trivial⟩, ⟨ok255, trivial, trivial⟩⟩⟩, ⟨ok261, ⟨ok259, ⟨ok258, ⟨ok257, trivial, trivial⟩, trivial⟩, ⟨ok260, trivial, trivial⟩⟩, ⟨ok263, ⟨ok262, trivial, trivial⟩, ⟨ok264, trivial, trivial⟩⟩⟩⟩, ⟨ok274, ⟨ok270, ⟨ok268, ⟨ok267, ⟨ok266, trivial, trivial⟩, trivial⟩, ⟨ok269, trivial, trivial⟩⟩, ⟨ok272, ⟨ok271, trivial, trivial⟩, ⟨ok273, trivial, trivial⟩⟩⟩, ⟨ok278, ⟨ok276, ⟨ok275, trivial, trivial⟩, ⟨ok277, trivial, trivial⟩⟩, ⟨ok280, ⟨ok279, trivial, trivial⟩, ⟨ok281, trivial, trivial⟩⟩⟩⟩⟩⟩⟩⟩
theorem tabOk : ∀ t i, tab t = some i → TIOk Try.prog t i := fun _ _ h => tabTOk.look h
theorem seat : SeatOk Try.prog tab := ⟨tabOk, by kernel_rfl⟩
theorem ent_3 : Ent Try.prog 3 := enters_of Try.func3 (by kernel_rfl) rfl
theorem ent_4 : Ent Try.prog 4 := enters_of Try.func4 (by kernel_rfl) rfl
theorem ent_5 : Ent Try.prog 5 := enters_of Try.func5 (by kernel_rfl) rfl
theorem ent_6 : Ent Try.prog 6 := enters_of Try.func6 (by kernel_rfl) rfl
theorem ent_7 : Ent Try.prog 7 := enters_of Try.func7 (by kernel_rfl) rfl
theorem ent_8 : Ent Try.prog 8 := enters_of Try.func8 (by kernel_rfl) rfl
theorem ent_9 : Ent Try.prog 9 := enters_of Try.func9 (by kernel_rfl) rfl
theorem ent_10 : Ent Try.prog 10 := enters_of Try.func10 (by kernel_rfl) rfl
theorem ent_11 : Ent Try.prog 11 := enters_of Try.func11 (by kernel_rfl) rfl
theorem ent_12 : Ent Try.prog 12 := enters_of Try.func12 (by kernel_rfl) rfl
theorem ent_13 : Ent Try.prog 13 := enters_of Try.func13 (by kernel_rfl) rfl
theorem ent_14 : Ent Try.prog 14 := enters_of Try.func14 (by kernel_rfl) rfl
theorem ent_15 : Ent Try.prog 15 := enters_of Try.func15 (by kernel_rfl) rfl
theorem ent_16 : Ent Try.prog 16 := enters_of Try.func16 (by kernel_rfl) rfl
theorem ent_17 : Ent Try.prog 17 := enters_of Try.func17 (by kernel_rfl) rfl
theorem ent_18 : Ent Try.prog 18 := enters_of Try.func18 (by kernel_rfl) rfl
theorem ent_19 : Ent Try.prog 19 := enters_of Try.func19 (by kernel_rfl) rfl
theorem ent_20 : Ent Try.prog 20 := enters_of Try.func20 (by kernel_rfl) rfl
theorem ent_21 : Ent Try.prog 21 := enters_of Try.func21 (by kernel_rfl) rfl
theorem ent_22 : Ent Try.prog 22 := enters_of Try.func22 (by kernel_rfl) rfl
theorem ent_23 : Ent Try.prog 23 := enters_of Try.func23 (by kernel_rfl) rfl
theorem ent_24 : Ent Try.prog 24 := enters_of Try.func24 (by kernel_rfl) rfl
theorem ent_25 : Ent Try.prog 25 := enters_of Try.func25 (by kernel_rfl) rfl
theorem ent_26 : Ent Try.prog 26 := enters_of Try.func26 (by kernel_rfl) rfl
theorem ent_27 : Ent Try.prog 27 := enters_of Try.func27 (by kernel_rfl) rfl
theorem ent_28 : Ent Try.prog 28 := enters_of Try.func28 (by kernel_rfl) rfl
theorem ent_29 : Ent Try.prog 29 := enters_of Try.func29 (by kernel_rfl) rfl
theorem ent_30 : Ent Try.prog 30 := enters_of Try.func30 (by kernel_rfl) rfl
theorem ent_31 : Ent Try.prog 31 := enters_of Try.func31 (by kernel_rfl) rfl
theorem ent_32 : Ent Try.prog 32 := enters_of Try.func32 (by kernel_rfl) rfl
theorem ent_33 : Ent Try.prog 33 := enters_of Try.func33 (by kernel_rfl) rfl
theorem ent_34 : Ent Try.prog 34 := enters_of Try.func34 (by kernel_rfl) rfl
theorem ent_35 : Ent Try.prog 35 := enters_of Try.func35 (by kernel_rfl) rfl
theorem ent_36 : Ent Try.prog 36 := enters_of Try.func36 (by kernel_rfl) rfl
theorem ent_37 : Ent Try.prog 37 := enters_of Try.func37 (by kernel_rfl) rfl
theorem ent_38 : Ent Try.prog 38 := enters_of Try.func38 (by kernel_rfl) rfl
theorem ent_39 : Ent Try.prog 39 := enters_of Try.func39 (by kernel_rfl) rfl
theorem ent_40 : Ent Try.prog 40 := enters_of Try.func40 (by kernel_rfl) rfl
theorem ent_41 : Ent Try.prog 41 := enters_of Try.func41 (by kernel_rfl) rfl
theorem ent_42 : Ent Try.prog 42 := enters_of Try.func42 (by kernel_rfl) rfl
theorem ent_43 : Ent Try.prog 43 := enters_of Try.func43 (by kernel_rfl) rfl
theorem ent_44 : Ent Try.prog 44 := enters_of Try.func44 (by kernel_rfl) rfl
theorem ent_45 : Ent Try.prog 45 := enters_of Try.func45 (by kernel_rfl) rfl
theorem ent_46 : Ent Try.prog 46 := enters_of Try.func46 (by kernel_rfl) rfl
theorem ent_47 : Ent Try.prog 47 := enters_of Try.func47 (by kernel_rfl) rfl
theorem ent_48 : Ent Try.prog 48 := enters_of Try.func48 (by kernel_rfl) rfl
theorem ent_49 : Ent Try.prog 49 := enters_of Try.func49 (by kernel_rfl) rfl
theorem ent_50 : Ent Try.prog 50 := enters_of Try.func50 (by kernel_rfl) rfl
theorem ent_51 : Ent Try.prog 51 := enters_of Try.func51 (by kernel_rfl) rfl
theorem ent_52 : Ent Try.prog 52 := enters_of Try.func52 (by kernel_rfl) rfl
theorem ent_53 : Ent Try.prog 53 := enters_of Try.func53 (by kernel_rfl) rfl
theorem ent_54 : Ent Try.prog 54 := enters_of Try.func54 (by kernel_rfl) rfl
theorem ent_55 : Ent Try.prog 55 := enters_of Try.func55 (by kernel_rfl) rfl
theorem ent_56 : Ent Try.prog 56 := enters_of Try.func56 (by kernel_rfl) rfl
theorem ent_57 : Ent Try.prog 57 := enters_of Try.func57 (by kernel_rfl) rfl
theorem ent_58 : Ent Try.prog 58 := enters_of Try.func58 (by kernel_rfl) rfl
theorem ent_59 : Ent Try.prog 59 := enters_of Try.func59 (by kernel_rfl) rfl
theorem ent_60 : Ent Try.prog 60 := enters_of Try.func60 (by kernel_rfl) rfl
theorem ent_61 : Ent Try.prog 61 := enters_of Try.func61 (by kernel_rfl) rfl
theorem ent_62 : Ent Try.prog 62 := enters_of Try.func62 (by kernel_rfl) rfl
theorem ent_63 : Ent Try.prog 63 := enters_of Try.func63 (by kernel_rfl) rfl
theorem ent_64 : Ent Try.prog 64 := enters_of Try.func64 (by kernel_rfl) rfl
theorem ent_65 : Ent Try.prog 65 := enters_of Try.func65 (by kernel_rfl) rfl
theorem ent_66 : Ent Try.prog 66 := enters_of Try.func66 (by kernel_rfl) rfl
theorem ent_67 : Ent Try.prog 67 := enters_of Try.func67 (by kernel_rfl) rfl
theorem ent_68 : Ent Try.prog 68 := enters_of Try.func68 (by kernel_rfl) rfl
theorem ent_69 : Ent Try.prog 69 := enters_of Try.func69 (by kernel_rfl) rfl
theorem ent_70 : Ent Try.prog 70 := enters_of Try.func70 (by kernel_rfl) rfl
theorem ent_71 : Ent Try.prog 71 := enters_of Try.func71 (by kernel_rfl) rfl
theorem ent_72 : Ent Try.prog 72 := enters_of Try.func72 (by kernel_rfl) rfl
theorem ent_73 : Ent Try.prog 73 := enters_of Try.func73 (by kernel_rfl) rfl
theorem ent_74 : Ent Try.prog 74 := enters_of Try.func74 (by kernel_rfl) rfl
theorem ent_75 : Ent Try.prog 75 := enters_of Try.func75 (by kernel_rfl) rfl
theorem ent_76 : Ent Try.prog 76 := enters_of Try.func76 (by kernel_rfl) rfl
theorem ent_77 : Ent Try.prog 77 := enters_of Try.func77 (by kernel_rfl) rfl
theorem ent_78 : Ent Try.prog 78 := enters_of Try.func78 (by kernel_rfl) rfl
theorem ent_79 : Ent Try.prog 79 := enters_of Try.func79 (by kernel_rfl) rfl
theorem ent_80 : Ent Try.prog 80 := enters_of Try.func80 (by kernel_rfl) rfl
theorem ent_81 : Ent Try.prog 81 := enters_of Try.func81 (by kernel_rfl) rfl
theorem ent_82 : Ent Try.prog 82 := enters_of Try.func82 (by kernel_rfl) rfl
theorem ent_83 : Ent Try.prog 83 := enters_of Try.func83 (by kernel_rfl) rfl
theorem ent_84 : Ent Try.prog 84 := enters_of Try.func84 (by kernel_rfl) rfl
theorem ent_85 : Ent Try.prog 85 := enters_of Try.func85 (by kernel_rfl) rfl
theorem ent_86 : Ent Try.prog 86 := enters_of Try.func86 (by kernel_rfl) rfl
theorem ent_87 : Ent Try.prog 87 := enters_of Try.func87 (by kernel_rfl) rfl
theorem ent_88 : Ent Try.prog 88 := enters_of Try.func88 (by kernel_rfl) rfl
theorem ent_89 : Ent Try.prog 89 := enters_of Try.func89 (by kernel_rfl) rfl
theorem ent_90 : Ent Try.prog 90 := enters_of Try.func90 (by kernel_rfl) rfl
theorem ent_91 : Ent Try.prog 91 := enters_of Try.func91 (by kernel_rfl) rfl
theorem ent_92 : Ent Try.prog 92 := enters_of Try.func92 (by kernel_rfl) rfl
theorem ent_93 : Ent Try.prog 93 := enters_of Try.func93 (by kernel_rfl) rfl
theorem ent_94 : Ent Try.prog 94 := enters_of Try.func94 (by kernel_rfl) rfl
theorem ent_95 : Ent Try.prog 95 := enters_of Try.func95 (by kernel_rfl) rfl
theorem ent_96 : Ent Try.prog 96 := enters_of Try.func96 (by kernel_rfl) rfl
theorem ent_97 : Ent Try.prog 97 := enters_of Try.func97 (by kernel_rfl) rfl
theorem ent_98 : Ent Try.prog 98 := enters_of Try.func98 (by kernel_rfl) rfl
theorem ent_99 : Ent Try.prog 99 := enters_of Try.func99 (by kernel_rfl) rfl
theorem ent_100 : Ent Try.prog 100 := enters_of Try.func100 (by kernel_rfl) rfl
theorem ent_101 : Ent Try.prog 101 := enters_of Try.func101 (by kernel_rfl) rfl
theorem ent_102 : Ent Try.prog 102 := enters_of Try.func102 (by kernel_rfl) rfl
theorem ent_103 : Ent Try.prog 103 := enters_of Try.func103 (by kernel_rfl) rfl
theorem ent_104 : Ent Try.prog 104 := enters_of Try.func104 (by kernel_rfl) rfl
theorem ent_105 : Ent Try.prog 105 := enters_of Try.func105 (by kernel_rfl) rfl
theorem ent_106 : Ent Try.prog 106 := enters_of Try.func106 (by kernel_rfl) rfl
theorem ent_107 : Ent Try.prog 107 := enters_of Try.func107 (by kernel_rfl) rfl
theorem ent_108 : Ent Try.prog 108 := enters_of Try.func108 (by kernel_rfl) rfl
theorem ent_109 : Ent Try.prog 109 := enters_of Try.func109 (by kernel_rfl) rfl
theorem ent_110 : Ent Try.prog 110 := enters_of Try.func110 (by kernel_rfl) rfl
theorem ent_111 : Ent Try.prog 111 := enters_of Try.func111 (by kernel_rfl) rfl
theorem ent_112 : Ent Try.prog 112 := enters_of Try.func112 (by kernel_rfl) rfl
theorem ent_113 : Ent Try.prog 113 := enters_of Try.func113 (by kernel_rfl) rfl
theorem ent_114 : Ent Try.prog 114 := enters_of Try.func114 (by kernel_rfl) rfl
theorem ent_115 : Ent Try.prog 115 := enters_of Try.func115 (by kernel_rfl) rfl
theorem ent_116 : Ent Try.prog 116 := enters_of Try.func116 (by kernel_rfl) rfl
theorem ent_117 : Ent Try.prog 117 := enters_of Try.func117 (by kernel_rfl) rfl
theorem ent_118 : Ent Try.prog 118 := enters_of Try.func118 (by kernel_rfl) rfl
theorem ent_119 : Ent Try.prog 119 := enters_of Try.func119 (by kernel_rfl) rfl
theorem ent_120 : Ent Try.prog 120 := enters_of Try.func120 (by kernel_rfl) rfl
theorem ent_121 : Ent Try.prog 121 := enters_of Try.func121 (by kernel_rfl) rfl
theorem ent_122 : Ent Try.prog 122 := enters_of Try.func122 (by kernel_rfl) rfl
theorem ent_123 : Ent Try.prog 123 := enters_of Try.func123 (by kernel_rfl) rfl
theorem ent_124 : Ent Try.prog 124 := enters_of Try.func124 (by kernel_rfl) rfl
theorem ent_125 : Ent Try.prog 125 := enters_of Try.func125 (by kernel_rfl) rfl
theorem ent_126 : Ent Try.prog 126 := enters_of Try.func126 (by kernel_rfl) rfl
theorem ent_127 : Ent Try.prog 127 := enters_of Try.func127 (by kernel_rfl) rfl
theorem ent_128 : Ent Try.prog 128 := enters_of Try.func128 (by kernel_rfl) rfl
theorem ent_129 : Ent Try.prog 129 := enters_of Try.func129 (by kernel_rfl) rfl
theorem ent_130 : Ent Try.prog 130 := enters_of Try.func130 (by kernel_rfl) rfl
theorem ent_131 : Ent Try.prog 131 := enters_of Try.func131 (by kernel_rfl) rfl
theorem ent_132 : Ent Try.prog 132 := enters_of Try.func132 (by kernel_rfl) rfl
theorem ent_133 : Ent Try.prog 133 := enters_of Try.func133 (by kernel_rfl) rfl
theorem ent_134 : Ent Try.prog 134 := enters_of Try.func134 (by kernel_rfl) rfl
theorem ent_135 : Ent Try.prog 135 := enters_of Try.func135 (by kernel_rfl) rfl
theorem ent_136 : Ent Try.prog 136 := enters_of Try.func136 (by kernel_rfl) rfl
theorem ent_137 : Ent Try.prog 137 := enters_of Try.func137 (by kernel_rfl) rfl
theorem ent_138 : Ent Try.prog 138 := enters_of Try.func138 (by kernel_rfl) rfl
theorem ent_139 : Ent Try.prog 139 := enters_of Try.func139 (by kernel_rfl) rfl
theorem ent_140 : Ent Try.prog 140 := enters_of Try.func140 (by kernel_rfl) rfl
theorem ent_141 : Ent Try.prog 141 := enters_of Try.func141 (by kernel_rfl) rfl
theorem ent_142 : Ent Try.prog 142 := enters_of Try.func142 (by kernel_rfl) rfl
theorem ent_143 : Ent Try.prog 143 := enters_of Try.func143 (by kernel_rfl) rfl
theorem ent_144 : Ent Try.prog 144 := enters_of Try.func144 (by kernel_rfl) rfl
theorem ent_145 : Ent Try.prog 145 := enters_of Try.func145 (by kernel_rfl) rfl
theorem ent_146 : Ent Try.prog 146 := enters_of Try.func146 (by kernel_rfl) rfl
theorem ent_147 : Ent Try.prog 147 := enters_of Try.func147 (by kernel_rfl) rfl
theorem ent_148 : Ent Try.prog 148 := enters_of Try.func148 (by kernel_rfl) rfl
theorem ent_149 : Ent Try.prog 149 := enters_of Try.func149 (by kernel_rfl) rfl
theorem ent_150 : Ent Try.prog 150 := enters_of Try.func150 (by kernel_rfl) rfl
theorem ent_151 : Ent Try.prog 151 := enters_of Try.func151 (by kernel_rfl) rfl
theorem ent_152 : Ent Try.prog 152 := enters_of Try.func152 (by kernel_rfl) rfl
theorem ent_153 : Ent Try.prog 153 := enters_of Try.func153 (by kernel_rfl) rfl
theorem ent_154 : Ent Try.prog 154 := enters_of Try.func154 (by kernel_rfl) rfl
theorem ent_155 : Ent Try.prog 155 := enters_of Try.func155 (by kernel_rfl) rfl
theorem ent_156 : Ent Try.prog 156 := enters_of Try.func156 (by kernel_rfl) rfl
theorem ent_157 : Ent Try.prog 157 := enters_of Try.func157 (by kernel_rfl) rfl
theorem ent_158 : Ent Try.prog 158 := enters_of Try.func158 (by kernel_rfl) rfl
theorem ent_159 : Ent Try.prog 159 := enters_of Try.func159 (by kernel_rfl) rfl
theorem ent_160 : Ent Try.prog 160 := enters_of Try.func160 (by kernel_rfl) rfl
theorem ent_161 : Ent Try.prog 161 := enters_of Try.func161 (by kernel_rfl) rfl
theorem ent_162 : Ent Try.prog 162 := enters_of Try.func162 (by kernel_rfl) rfl
theorem ent_163 : Ent Try.prog 163 := enters_of Try.func163 (by kernel_rfl) rfl
theorem ent_164 : Ent Try.prog 164 := enters_of Try.func164 (by kernel_rfl) rfl
theorem ent_165 : Ent Try.prog 165 := enters_of Try.func165 (by kernel_rfl) rfl
theorem ent_166 : Ent Try.prog 166 := enters_of Try.func166 (by kernel_rfl) rfl
theorem ent_167 : Ent Try.prog 167 := enters_of Try.func167 (by kernel_rfl) rfl
theorem ent_168 : Ent Try.prog 168 := enters_of Try.func168 (by kernel_rfl) rfl
theorem ent_169 : Ent Try.prog 169 := enters_of Try.func169 (by kernel_rfl) rfl
theorem ent_170 : Ent Try.prog 170 := enters_of Try.func170 (by kernel_rfl) rfl
theorem ent_171 : Ent Try.prog 171 := enters_of Try.func171 (by kernel_rfl) rfl
theorem ent_172 : Ent Try.prog 172 := enters_of Try.func172 (by kernel_rfl) rfl
theorem ent_173 : Ent Try.prog 173 := enters_of Try.func173 (by kernel_rfl) rfl
theorem ent_174 : Ent Try.prog 174 := enters_of Try.func174 (by kernel_rfl) rfl
theorem ent_175 : Ent Try.prog 175 := enters_of Try.func175 (by kernel_rfl) rfl
end Go.Proofs.Ytgefdljjhmjdaaa.Aw

/- The logic of abstract walks, part N: from a contract to a row. What comes in, read as data. -/
namespace Go.Proofs.Ytgefdljjhmjdaaa.Aw
open Go Go.RowKit Go.ChangeShapes Go.WideShapes
set_option linter.unusedVariables false
set_option linter.unusedSimpArgs false

/-- The shape of a type's data. -/
inductive Sh where
  | int (k : IntKind)
  | bool
  | str
  | agg (l : List Sh)
  | sl (e : Sh)
mutual
def Sh.n : Sh → Nat
  | .int _ => 1
  | .bool => 1
  | .str => 1
  | .agg l => Sh.nL l
  | .sl _ => 1
def Sh.nL : List Sh → Nat
  | [] => 0
  | s :: r => s.n + Sh.nL r
end
mutual
def Sh.Fit : Sh → List D → Prop
  | .int k, xs => ∃ n, xs = [.int k n] ∧ k.min ≤ n ∧ n ≤ k.max
  | .bool, xs => ∃ b, xs = [.bool b]
  | .str, xs => ∃ s, xs = [.str s] ∧ s.size ≤ maxLen
  | .agg l, xs => Sh.FitL l xs
  | .sl e, xs => ∃ rows : List (List D), xs = [.sl false e.n rows] ∧ rows.length ≤ maxLen ∧ ∀ row ∈ rows, e.Fit row
def Sh.FitL : List Sh → List D → Prop
  | [], xs => xs = []
  | s :: r, xs => ∃ a b, xs = a ++ b ∧ s.Fit a ∧ Sh.FitL r b
end
def shF (P : Program) (g : TypeId → Option Sh) : List (TypeId × Nat) → Nat → Option (List Sh)
  | [], _ => some []
  | (t, o) :: r, off => if o = off then match g t with
    | some s => if s.n = P.cellsOf t then match shF P g r (off + s.n) with
      | some l => some (s :: l)
      | none => none
      else none
    | none => none
    else none
/-- The shape of a type. -/
def shT (P : Program) : Nat → TypeId → Option Sh
  | 0, _ => none
  | f + 1, t => match P.underlying t with
    | some .bool => some .bool
    | some (.int k) => some (.int k)
    | some .string => some .str
    | some (.slice e) => match shT P f e with
      | some s => if s.n = P.cellsOf e ∧ 0 < s.n then some (.sl s) else none
      | none => none
    | some (.struct fs) => (shF P (shT P f) (fs.toList.map fun x => (x.type, x.offset)) 0).map .agg
    | some (.array n e) => (shF P (shT P f) ((List.range n).map fun i => (e, i * P.cellsOf e)) 0).map .agg
    | _ => none

/-- A list of cells read as data. -/
def RdC (w : World) (xs : List D) (cs : List Value) : Prop :=
  xs.length = cs.length ∧ ∀ (i : Nat) (c : D) (v : Value), xs[i]? = some c → cs[i]? = some v → Rd w (fun k => k < w.heap.size) c v ∧ v.oneCell' = true
theorem RdC.append {w : World} {xs ys : List D} {cs ds : List Value} (h : RdC w xs cs) (k : RdC w ys ds) : RdC w (xs ++ ys) (cs ++ ds) := by
  refine ⟨by simp [h.1, k.1], fun i c v hc hv => ?_⟩
  by_cases hi : i < xs.length
  · rw [List.getElem?_append_left hi] at hc
    rw [List.getElem?_append_left (by rw [← h.1]; exact hi)] at hv
    exact h.2 i c v hc hv
  · rw [List.getElem?_append_right (by omega)] at hc
    rw [List.getElem?_append_right (by rw [← h.1]; omega), ← h.1] at hv
    exact k.2 _ c v hc hv
theorem RdC.one {w : World} {x : D} {v : Value} (h : Rd w (fun k => k < w.heap.size) x v) (h1 : v.oneCell' = true) : RdC w [x] [v] := by
  refine ⟨rfl, fun i c u hc hu => ?_⟩
  match i, hc, hu with
  | 0, hc, hu => cases hc; cases hu; exact ⟨h, h1⟩
  | i + 1, hc, hu => simp at hc

section
variable {H : Type} {enc : TypeId × Value → H} {P : Program} {w : World} {held : Bool}
/-- A row of parts. -/
theorem open_parts {g : TypeId → Option Sh} {rd : TypeId → List Value → Option (DataW H × List MemPlace)} {cs : List Value}
    (ih : ∀ t s, g t = some s → ∀ cs x, rd t cs = some x → cs.length = s.n → ∃ xs, s.Fit xs ∧ RdC w xs cs) :
    ∀ {l : List (TypeId × Nat)} {off : Nat} {shs : List Sh} {ys : List (DataW H × List MemPlace)}, shF P g l off = some shs →
      (l.mapM fun f => rd f.1 ((cs.drop f.2).take (P.cellsOf f.1))) = some ys → off + Sh.nL shs = cs.length → ∃ xs, Sh.FitL shs xs ∧ RdC w xs (cs.drop off)
  | [], off, shs, ys, h1, _, h3 => by
    simp only [shF, Option.some.injEq] at h1
    subst h1
    refine ⟨[], rfl, ?_, fun i c v hc => by simp at hc⟩
    simp only [Sh.nL] at h3
    simp only [List.length_drop, List.length_nil]; omega
  | (t, o) :: r, off, shs, ys, h1, h2, h3 => by
    simp only [shF] at h1
    split at h1
    · rename_i ho
      subst ho
      cases hg : g t with
      | none => rw [hg] at h1; cases h1
      | some s =>
        rw [hg] at h1
        simp only at h1
        split at h1
        · rename_i hn
          cases hr : shF P g r (o + s.n) with
          | none => rw [hr] at h1; cases h1
          | some l =>
            rw [hr] at h1
            simp only [Option.some.injEq] at h1
            subst h1
            rw [List.mapM_cons] at h2
            cases hy : rd t ((cs.drop o).take (P.cellsOf t)) with
            | none => simp [hy] at h2
            | some y =>
              cases hz : (r.mapM fun f => rd f.1 ((cs.drop f.2).take (P.cellsOf f.1))) with
              | none => simp [hy, hz] at h2
              | some zs =>
                simp only [Sh.nL] at h3
                obtain ⟨a, a1, a2⟩ := ih t s hg _ y hy (by rw [List.length_take, List.length_drop, hn]; omega)
                obtain ⟨b, b1, b2⟩ := open_parts ih hr hz (by omega)
                refine ⟨a ++ b, ⟨a, b, rfl, a1, b1⟩, ?_⟩
                have := a2.append b2
                rw [← hn] at this
                have e : List.take s.n (List.drop o cs) ++ List.drop (o + s.n) cs = List.drop o cs := by
                  rw [← List.drop_drop]; exact List.take_append_drop _ _
                rwa [e] at this
        · cases h1
    · cases h1
theorem cells?_spec {a : Addr} {n : Nat} {cs : List Value} (h : w.cells? 0 a n = some cs) : cs.length = n ∧ ∀ j v, cs[j]? = some v → w.cell? (a.add j) = some v := by
  unfold World.cells? at h
  rw [if_pos (Nat.zero_le _)] at h
  obtain ⟨h1, h2⟩ := mapM_get h
  rw [List.length_range] at h1
  refine ⟨h1.symm, fun j v hj => ?_⟩
  obtain ⟨x, e1, e2⟩ := h2 j v hj
  have hlt := (List.getElem?_eq_some_iff.1 hj).1
  rw [List.getElem?_range (by omega)] at e1
  cases e1
  exact e2
theorem cell_plain {a : Addr} {v : Value} (h : w.cell? a = some v) : a.spot = none ∧ a.block < w.heap.size := by
  unfold World.cell? at h
  split at h
  · rename_i c x y hb
    split at h
    · cases h
    · rename_i hs
      refine ⟨?_, (Array.getElem?_eq_some_iff.1 hb).1⟩
      cases hq : a.spot with
      | none => rfl
      | some z => rw [hq] at hs; simp at hs
  · cases h
/-- What comes in, as data. -/
theorem open_sh : ∀ (f : Nat) (t : TypeId) (sh : Sh), shT P f t = some sh → ∀ (fuel : Nat) (cs : List Value) (x : DataW H × List MemPlace), DataW.trod enc P w 0 (fun _ => true) held fuel t cs = some x → cs.length = sh.n →
    ∃ xs, sh.Fit xs ∧ RdC w xs cs
  | 0, t, sh, h => by simp [shT] at h
  | f + 1, t, sh, h => by
    intro fuel cs x hx hlen
    have hx0 := hx
    cases fuel with
    | zero => simp [DataW.trod] at hx
    | succ fuel =>
      unfold shT at h
      unfold DataW.trod at hx
      split at h <;> rename_i hu
      · cases h
        rw [hu] at hx
        split at hx <;> simp_all
        rename_i b
        exact ⟨[.bool b], ⟨b, rfl⟩, RdC.one (.bool b) rfl⟩
      · cases h
        rw [hu] at hx
        split at hx <;> simp_all
        rename_i k' n e
        subst e
        obtain ⟨⟨rfl, hw⟩, _⟩ := hx
        simp only [Lit.wf, Bool.and_eq_true, decide_eq_true_eq] at hw
        exact ⟨[.int k' n], ⟨n, rfl, hw⟩, RdC.one (.int k' n) rfl⟩
      · cases h
        rw [hu] at hx
        split at hx <;> simp_all
        rename_i s
        exact ⟨[.str s], ⟨s, rfl, hx.1⟩, RdC.one (.str s) rfl⟩
      · rename_i e
        cases he : shT P f e with
        | none => rw [he] at h; cases h
        | some s =>
          rw [he] at h
          simp only at h
          split at h
          · rename_i hc
            cases h
            obtain ⟨hc1, hc2⟩ := hc
            rcases Go.Deep.open_slice hu hx0 with ⟨rfl, _⟩ | ⟨a, len, cap, m, n, Dd, Pl, rfl, _, hl, hm, hmm, _, hel⟩
            · exact ⟨[.sl false s.n []], ⟨[], rfl, Nat.zero_le _, fun row hr => by cases hr⟩, RdC.one (.sl0 _ _) rfl⟩
            · simp only [if_true] at hmm
              subst hmm
              by_cases h0 : m = 0
              · subst h0
                have : len = 0 := by omega
                subst this
                exact ⟨[.sl false s.n []], ⟨[], rfl, Nat.zero_le _, fun row hr => by cases hr⟩, RdC.one (.slE _ _ a) rfl⟩
              · have hread : ∀ i, i < m → ∃ z : List D × List Value, w.cells? 0 (a.add (i * P.cellsOf e)) (P.cellsOf e) = some z.2 ∧ s.Fit z.1 ∧ RdC w z.1 z.2 := fun i hi => by
                  obtain ⟨cs', c1, c2⟩ := hel i hi
                  obtain ⟨xs, f1, f2⟩ := open_sh f e s he n cs' _ c2 (by rw [(cells?_spec c1).1, hc1])
                  exact ⟨(xs, cs'), c1, f1, f2⟩
                obtain ⟨Z, hZ⟩ := Go.Deep.choose_lt (α := List D × List Value) hread
                obtain ⟨z1, z2, z3⟩ := hZ 0 (by omega)
                obtain ⟨y1, y2⟩ := cells?_spec z1
                have hcell0 : w.cell? (a.add (0 * P.cellsOf e)) = some ((Z 0).2[0]'(by rw [y1]; omega)) := by
                  have := y2 0 ((Z 0).2[0]'(by rw [y1]; omega)) (by simp)
                  simpa [Addr.add] using this
                rw [Nat.zero_mul] at hcell0
                have e0 : a.add 0 = a := rfl
                rw [e0] at hcell0
                obtain ⟨hsp, hblk⟩ := cell_plain hcell0
                obtain ⟨b, off, spot⟩ := a
                simp only at hsp hblk
                subst hsp
                have hadd : ∀ j, (⟨b, off, none⟩ : Addr).add j = ⟨b, off + j, none⟩ := fun j => by unfold Addr.add; split <;> simp_all
                have hadd2 : ∀ o j, (⟨b, o, none⟩ : Addr).add j = ⟨b, o + j, none⟩ := fun o j => by unfold Addr.add; split <;> simp_all
                have hrows : ∀ (i : Nat) (row : List D), ((List.range len).map fun i => (Z i).1)[i]? = some row → i < len ∧ row = (Z i).1 := fun i row hi => by
                  have hlt := (List.getElem?_eq_some_iff.1 hi).1
                  simp only [List.length_map, List.length_range] at hlt
                  rw [List.getElem?_map, List.getElem?_range hlt] at hi
                  exact ⟨hlt, by simpa using hi.symm⟩
                have key : ∀ (i : Nat) (row : List D) (j : Nat) (c : D), ((List.range len).map fun i => (Z i).1)[i]? = some row → row[j]? = some c →
                    w.cell? ⟨b, off + i * s.n + j, none⟩ = some ((Z i).2.getD j undef) ∧ ((Z i).2.getD j undef).oneCell' = true ∧ Rd w (fun k => k < w.heap.size) c ((Z i).2.getD j undef) := fun i row j c hi hj => by
                  obtain ⟨hlt, rfl⟩ := hrows i row hi
                  obtain ⟨q1, q2, q3⟩ := hZ i (by omega)
                  obtain ⟨r1, r2⟩ := cells?_spec q1
                  have hj' := (List.getElem?_eq_some_iff.1 hj).1
                  have hlen2 := q3.1
                  have hv : (Z i).2[j]? = some ((Z i).2.getD j undef) := by
                    rw [List.getD_eq_getElem?_getD, List.getElem?_eq_getElem (by omega)]; rfl
                  have t1 := r2 j _ hv
                  obtain ⟨t2, t3⟩ := q3.2 j c _ hj hv
                  refine ⟨?_, t3, t2⟩
                  rw [hadd, hadd2, ← hc1] at t1
                  exact t1
                refine ⟨[.sl false s.n ((List.range len).map fun i => (Z i).1)], ⟨_, rfl, by simp only [List.length_map, List.length_range]; omega, fun row hr => ?_⟩, RdC.one ?_ rfl⟩
                · obtain ⟨i, hi, rfl⟩ := List.mem_map.1 hr
                  exact (hZ i (by have := List.mem_range.1 hi; omega)).2.1
                · have := Rd.sl (w := w) (ok := fun k => k < w.heap.size) false s.n ((List.range len).map fun i => (Z i).1) b off m (fun i j => (Z i).2.getD j undef) hblk (by simpa using hl) hm (fun h => by cases h)
                    (fun row hr => by
                      obtain ⟨i, hi, rfl⟩ := List.mem_map.1 hr
                      obtain ⟨q1, q2, q3⟩ := hZ i (by have := List.mem_range.1 hi; omega)
                      rw [q3.1, (cells?_spec q1).1, hc1])
                    (fun i row j c hi hj => (key i row j c hi hj).1) (fun i row j c hi hj => (key i row j c hi hj).2.1) (fun i row j c hi hj => (key i row j c hi hj).2.2)
                  simpa using this
          · cases h
      · rename_i fs
        rw [hu] at hx
        cases hl : shF P (shT P f) (fs.toList.map fun x => (x.type, x.offset)) 0 with
        | none => rw [hl] at h; cases h
        | some l =>
          rw [hl] at h; cases h
          simp only at hx
          split at hx
          · rename_i ys hq
            cases hys : (fs.toList.mapM fun f => DataW.trod enc P w 0 (fun _ => true) held fuel f.type ((cs.drop f.offset).take (P.cellsOf f.type))) with
            | none => rw [hys] at hx; cases hx
            | some ys =>
              have := open_parts (P := P) (w := w) (g := shT P f) (rd := fun t cs => DataW.trod enc P w 0 (fun _ => true) held fuel t cs) (cs := cs) (fun t s hs cs x hx hn => open_sh f t s hs fuel cs x hx hn) (l := fs.toList.map fun x => (x.type, x.offset)) (ys := ys) hl
                (by rw [List.mapM_map]; exact hys) (by simpa [Sh.n] using hlen.symm)
              rw [List.drop_zero] at this
              obtain ⟨xs, a1, a2⟩ := this
              exact ⟨xs, by unfold Sh.Fit; exact a1, a2⟩
          · cases hx
      · rename_i n e
        rw [hu] at hx
        cases hl : shF P (shT P f) ((List.range n).map fun i => (e, i * P.cellsOf e)) 0 with
        | none => rw [hl] at h; cases h
        | some l =>
          rw [hl] at h; cases h
          simp only at hx
          split at hx
          · cases hys : ((List.range n).mapM fun i => DataW.trod enc P w 0 (fun _ => true) held fuel e ((cs.drop (i * P.cellsOf e)).take (P.cellsOf e))) with
            | none => rw [hys] at hx; cases hx
            | some ys =>
              have := open_parts (P := P) (w := w) (g := shT P f) (rd := fun t cs => DataW.trod enc P w 0 (fun _ => true) held fuel t cs) (cs := cs) (fun t s hs cs x hx hn => open_sh f t s hs fuel cs x hx hn) (l := (List.range n).map fun i => (e, i * P.cellsOf e)) (ys := ys) hl
                (by rw [List.mapM_map]; exact hys) (by simpa [Sh.n] using hlen.symm)
              rw [List.drop_zero] at this
              obtain ⟨xs, a1, a2⟩ := this
              exact ⟨xs, by unfold Sh.Fit; exact a1, a2⟩
          · cases hx
      · cases h

def Sh.isAgg : Sh → Bool
  | .agg _ => true
  | _ => false
/-- An argument as data. -/
def Sh.arg : Sh → List D → D
  | .agg _, xs => .agg xs
  | _, xs => xs.headD .nilptr
theorem Rd.aggOf {xs : List D} {vs : Array Value} (h : RdC w xs vs.toList) : Rd w (fun k => k < w.heap.size) (.agg xs) (.agg vs) := by
  have hl : vs.size = xs.length := by rw [h.1]; simp
  refine .agg xs vs hl (fun i v hv => ?_) (fun i c v hc hv => (h.2 i c v hc (by simpa using hv)).1)
  have hlt := (Array.getElem?_eq_some_iff.1 hv).1
  have hx : xs[i]? = some (xs[i]'(by omega)) := List.getElem?_eq_getElem (by omega)
  exact (h.2 i _ v hx (by simpa using hv)).2
theorem open_arg {f : Nat} {t : TypeId} {sh : Sh} {v : Value} {d : DataW H} {p : List MemPlace} {r : Reach} {b : Nat} (hs : shT P f t = some sh) (hn : sh.n = P.cellsOf t) (hval : Value.okWide P w r b t v)
    (hd : DataW.Trod enc P w 0 (fun _ => true) held t v d p) : ∃ xs, sh.Fit xs ∧ Rd w (fun k => k < w.heap.size) (sh.arg xs) v := by
  obtain ⟨fuel, hd⟩ := hd
  have one : ∀ {s : Sh}, s.isAgg = false → s.n = 1 := fun {s} h => by cases s <;> first | rfl | cases h
  have fin : sh.isAgg = false → v.cells.toList = [v] → ∃ xs, sh.Fit xs ∧ Rd w (fun k => k < w.heap.size) (sh.arg xs) v := fun ha hv => by
    rw [hv] at hd
    obtain ⟨xs, a1, a2⟩ := open_sh f t sh hs fuel [v] _ hd (by rw [one ha]; rfl)
    refine ⟨xs, a1, ?_⟩
    obtain ⟨l1, l2⟩ := a2
    match xs, l1 with
    | [x], _ =>
      have := (l2 0 x v rfl rfl).1
      cases sh <;> first | exact this | cases ha
  have fin2 : ∀ l, sh = .agg l → (∃ cs, v = .agg cs ∧ cs.size = P.cellsOf t) → ∃ xs, sh.Fit xs ∧ Rd w (fun k => k < w.heap.size) (sh.arg xs) v := fun l hl ⟨cs, hv, hc⟩ => by
    subst hl; subst hv
    obtain ⟨xs, a1, a2⟩ := open_sh f t _ hs fuel cs.toList _ hd (by simp only [Array.length_toList]; rw [hc, hn])
    exact ⟨xs, a1, Rd.aggOf a2⟩
  have hs0 := hs
  cases f with
  | zero => simp [shT] at hs
  | succ f =>
    unfold shT at hs
    split at hs <;> rename_i hu
    · cases hs; obtain ⟨b, rfl⟩ := okWide_bool hu hval; exact fin rfl rfl
    · cases hs; obtain ⟨n, rfl⟩ := okWide_int hu hval; exact fin rfl rfl
    · cases hs; obtain ⟨n, rfl⟩ := okWide_string hu hval; exact fin rfl rfl
    · rename_i e
      cases he : shT P f e with
      | none => rw [he] at hs; cases hs
      | some s =>
        rw [he] at hs
        simp only at hs
        split at hs
        · cases hs; obtain ⟨a, len, cap, rfl⟩ := okWide_slice hu hval; exact fin rfl rfl
        · cases hs
    · rename_i fs
      cases hl : shF P (shT P f) (fs.toList.map fun x => (x.type, x.offset)) 0 with
      | none => rw [hl] at hs; cases hs
      | some l => rw [hl] at hs; cases hs; exact fin2 l rfl (okWide_struct hu hval)
    · rename_i n e
      cases hl : shF P (shT P f) ((List.range n).map fun i => (e, i * P.cellsOf e)) 0 with
      | none => rw [hl] at hs; cases hs
      | some l =>
        rw [hl] at hs; cases hs
        refine fin2 l rfl ?_
        simp only [Value.okWide, hu] at hval
        obtain ⟨cs, h1, h2, _⟩ := hval
        exact ⟨cs, h1, h2⟩
    · cases hs
/-- All arguments. -/
def FitA : List Sh → List D → Prop
  | [], xs => xs = []
  | s :: r, xs => ∃ a q, xs = s.arg a :: q ∧ s.Fit a ∧ FitA r q
def shA (P : Program) (f : Nat) : List TypeId → Option (List Sh)
  | [] => some []
  | t :: r => match shT P f t with
    | some s => if s.n = P.cellsOf t then match shA P f r with
      | some l => some (s :: l)
      | none => none
      else none
    | none => none
theorem open_args {f : Nat} {r : Reach} {b : Nat} : ∀ {ts : List TypeId} {shs : List Sh} {vs : List Value} {ds : List (DataW H)} {p : List MemPlace}, shA P f ts = some shs → DataW.TrodAll enc P w 0 (fun _ => true) held ts vs ds p →
    (∀ (j : Nat) t v, ts[j]? = some t → vs[j]? = some v → Value.okWide P w r b t v) → ∃ xs : List D, FitA shs xs ∧ vs.length = xs.length ∧ ∀ (i : Nat) (x : D) (v : Value), xs[i]? = some x → vs[i]? = some v → Rd w (fun k => k < w.heap.size) x v
  | [], shs, vs, ds, p, h1, h2, _ => by
    simp only [shA, Option.some.injEq] at h1
    subst h1
    obtain ⟨rfl, _, _⟩ := trodAll_nil h2
    exact ⟨[], rfl, rfl, fun i x v h => by simp at h⟩
  | t :: ts, shs, vs, ds, p, h1, h2, h3 => by
    simp only [shA] at h1
    cases hs : shT P f t with
    | none => rw [hs] at h1; cases h1
    | some s =>
      rw [hs] at h1
      simp only at h1
      split at h1
      · rename_i hn
        cases hl : shA P f ts with
        | none => rw [hl] at h1; cases h1
        | some l =>
          rw [hl] at h1
          simp only [Option.some.injEq] at h1
          subst h1
          obtain ⟨v, vs', d, ds', p', q', rfl, rfl, rfl, hd, hr⟩ := trodAll_cons h2
          obtain ⟨xs, a1, a2⟩ := open_arg hs hn (h3 0 t v rfl rfl) hd
          obtain ⟨ys, b1, b2, b3⟩ := open_args hl hr (fun j t v e1 e2 => h3 (j + 1) t v (by simpa using e1) (by simpa using e2))
          refine ⟨s.arg xs :: ys, ⟨xs, ys, rfl, a1, b1⟩, by simp [b2], fun i x u hx hu => ?_⟩
          match i, hx, hu with
          | 0, hx, hu => cases hx; cases hu; exact a2
          | i + 1, hx, hu => exact b3 i x u (by simpa using hx) (by simpa using hu)
      · cases h1
theorem trodAll_below (hl : laidOutB P = true) {W' : World} (hb : Below w.heap.size w W') : ∀ {ts : List TypeId} {vs : List Value} {ds : List (DataW H)} {p : List MemPlace}, (ts.all fun t => P.readableRec t && decide (t < P.types.size)) = true →
    DataW.TrodAll enc P w 0 (fun _ => true) true ts vs ds p → (∀ x ∈ p, x.block < w.heap.size) → DataW.TrodAll enc P W' 0 (fun b => decide (b < w.heap.size)) true ts vs ds p
  | [], vs, ds, p, _, h, _ => by
    obtain ⟨rfl, rfl, rfl⟩ := trodAll_nil h
    exact rfl
  | t :: ts, vs, ds, p, ht, h, hlt => by
    simp only [List.all_cons, Bool.and_eq_true, decide_eq_true_eq] at ht
    obtain ⟨v, vs', d, ds', p', q', rfl, rfl, rfl, hd, hr⟩ := trodAll_cons h
    refine ⟨p', q', Below.trod hl ht.1.1 ht.1.2 hd hb (fun x hx => hlt x (List.mem_append_left _ hx)), ?_, rfl⟩
    exact trodAll_below hl hb (by simpa using ht.2) hr (fun x hx => hlt x (List.mem_append_right _ hx))
theorem trodAll_below' (hl : laidOutB P = true) {W' : World} (hb : Below w.heap.size w W') : ∀ {ts : List TypeId} {vs : List Value} {ds : List (DataW H)} {p : List MemPlace}, (ts.all fun t => P.readableRec t && decide (t < P.types.size)) = true →
    DataW.TrodAll enc P w 0 (fun _ => true) true ts vs ds p → (∀ x ∈ p, x.block < w.heap.size) → DataW.TrodAll enc P W' 0 (fun _ => true) true ts vs ds p
  | [], vs, ds, p, _, h, _ => by
    obtain ⟨rfl, rfl, rfl⟩ := trodAll_nil h
    exact rfl
  | t :: ts, vs, ds, p, ht, h, hlt => by
    simp only [List.all_cons, Bool.and_eq_true, decide_eq_true_eq] at ht
    obtain ⟨v, vs', d, ds', p', q', rfl, rfl, rfl, hd, hr⟩ := trodAll_cons h
    refine ⟨p', q', WideElems.Trod_stays hl ht.1.1 ht.1.2 hd (fun x hx => hb.same (hlt x (List.mem_append_left _ hx))) (fun x hx => rfl), ?_, rfl⟩
    exact trodAll_below' hl hb (by simpa using ht.2) hr (fun x hx => hlt x (List.mem_append_right _ hx))
theorem trodAll_len {base : Nat} {sp : Nat → Bool} : ∀ {ts : List TypeId} {vs : List Value} {ds : List (DataW H)} {p : List MemPlace}, DataW.TrodAll enc P w base sp held ts vs ds p → ds.length = ts.length
  | [], vs, ds, p, h => by
    obtain ⟨rfl, rfl, rfl⟩ := trodAll_nil h
    rfl
  | t :: ts, vs, ds, p, h => by
    obtain ⟨v, vs', d, ds', p', q', rfl, rfl, rfl, hd, hr⟩ := trodAll_cons h
    simp only [List.length_cons, trodAll_len hr]
/-- The row of a law that only reads, and returns true. -/
theorem lifted {C : Checked} {os : Os} {f : FuncId} {fn : Func} {s : ChangeSpec} {apart fresh handsOn again : Bool} {tb : TypeId} {shs : List Sh} {fl : Nat}
    (own : ownKnob C.prog.godebug = none) (started : os.Started) (noInit : C.prog.inits.idxOf? f = none) (hfn : C.prog.funcs[f]? = some fn)
    (witness : ∃ (w : World) (tape : Tape) (i : Input), w.os = os ∧ (w.forCall tape i).Shaped C.prog ∧ i.vars = [] ∧ Input.okWide C.prog (w.forCall tape i) .any w.heap.size f i ∧
      s.pre6 enc C.prog fn [] apart (w.forCall tape i).memory i.args ∧ ({} : Assume).holds C.prog (lone (Frame.enter C.prog f i.args .normal) [] (w.forCall tape i)))
    (hl : laidOutB C.prog = true) (hv : s.vars = []) (hres : fn.resultTypes = #[tb]) (htb : C.prog.underlying tb = some .bool)
    (hsp : ∀ ds : List (DataW H), ds.length = fn.params.toList.length → s.fn H ds = { results := [.lit (.bool true)], args := ds })
    (hsh : shA C.prog fl fn.params.toList = some shs) (hrd : (fn.params.toList.all fun t => C.prog.readableRec t && decide (t < C.prog.types.size)) = true)
    (con : ∀ xs, FitA shs xs → Con C.prog f xs (.d (.bool true)) []) :
    ReturnsInHanded {} C os f .any (s.pre6 enc C.prog fn [] apart) (s.post enc C.prog fn apart fresh handsOn again) := by
  refine returnsInHanded_of_change own started noInit hfn witness ?_
  intro W base args ds gs before hval hW hcnd _
  have hW' := hW
  have hlt : ∀ p ∈ before, p.block < W.heap.size := fun p hp => by simpa using hW.lt p hp
  obtain ⟨p, q, hA, hV, hpq, hfz, hnd⟩ := hW
  rw [hv] at hV
  obtain ⟨rfl, rfl⟩ := trodVars_none hV
  have hpq : before = p := by simpa using hpq
  subst hpq
  obtain ⟨xs, x1, x2, x3⟩ := open_args hsh hA (fun j t v e1 e2 => hval j t v (by simpa using e1) (by simpa using e2))
  have hlen : ds.length = fn.params.toList.length := trodAll_len hA
  have hcon := con xs x1
  refine (hcon.2 W (fun k => k < W.heap.size) args (fun k h => h) ⟨by simpa using x2, fun i x v e1 e2 => x3 i x v e1 (by simpa using e2)⟩).mono ?_
  rintro e W' ⟨v, ok', ν', rfl, hb, _, _, hv', _⟩
  have hvv : v = .bool true := (hv' (fun _ => none) 0).bool
  subst hvv
  refine ⟨_, rfl, ?_⟩
  have hfz' : ∀ b off, MemPlace.cell b off ∈ before → W'.frozen? ⟨b, off, none⟩ = false := fun b off hp => by
    rw [hb.frozen (p := ⟨b, off, none⟩) (hlt _ hp)]; exact hfz b off hp
  have hok := ok_one (P := C.prog) (W' := W') hres rfl (okWide_bool_mk htb true)
  have e1 : (s.fn H (ds ++ [])).results = [.lit (.bool true)] := by rw [List.append_nil, hsp ds hlen]
  have e2 : (s.fn H (ds ++ [])).args = ds := by rw [List.append_nil, hsp ds hlen]
  have e3 : (s.fn H (ds ++ [])).vars = [] := by rw [List.append_nil, hsp ds hlen]
  have r1 : ∀ (b : Nat) (sp : Nat → Bool) (hd : Bool), DataW.TrodAll enc C.prog W' b sp hd fn.resultTypes.toList ((Value.bool true).resultList fn.resultTypes.size) [.lit (.bool true)] [] := fun b sp hd => by
    rw [hres]
    exact trodAll_mk1 (shut_bool htb true)
  have hv2 : ∀ sp : Nat → Bool, DataW.TrodVars enc C.prog W' sp s.vars (s.fn H (ds ++ [])).vars [] := fun sp => by rw [hv, e3]; exact rfl
  have a2 := trodAll_below' hl hb hrd hA hlt
  refine ⟨ds, [], before, [], before, [], hW', ?_, ?_, hv2 _, hb.frame _, fun _ => ⟨hok, [.lit (.bool true)] ++ ds, (s.fn H (ds ++ [])).vars, before, ⟨[] ++ before, [], ?_, hv2 _, by simp, hfz', hnd⟩, fun p hp _ => hp⟩⟩
  · rw [e1]; exact r1 _ _ _
  · rw [e2]; exact trodAll_below hl hb hrd hA hlt
  · exact trodAll_append a2 (r1 _ _ _)
end
end Go.Proofs.Ytgefdljjhmjdaaa.Aw
