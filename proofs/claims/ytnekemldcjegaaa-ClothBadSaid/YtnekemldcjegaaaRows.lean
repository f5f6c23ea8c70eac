/-
  No cell of these rows narrows 'for every input' (looked for: loops, veiled, ifaces, maps, wideKeys, modest, calm, conditions, laid).
  DERIVED. THE GIVEN ROWS OF THIS SEAT. 14 by the template 'for every input the law returns true; each argument reads behind the call as it read before'; 0 by the template 'total and deterministic' (their statements: YtnekemldcjegaaaTotals.lean).
  GIVEN WITH THE SEED: the statements are not yours to turn. If you find one false, say at which input.
  Laid BY PROGRAM, IN A SANDBOX (cutbox-rows.mjs): the forced cells as the released guide's own fill.sh prints them over the translation 516eef85f0b39204… (all of the seat's roots in one cut). By AI agents, Wed Nov 11 2026. No macro, syntax, notation, axiom, sorry.
-/
import Derived.Test.YtnekemldcjegaaaChecked
import GoSem.Claim
import GoSem.ClaimJoined
import GoSem.ClaimMapViews
import Derived.JoinedTies
import Derived.KernelRfl
namespace Go.Proofs.Ytnekemldcjegaaa
/- THE CELL 'sum', in the pinned program and in every row, IS THE sha256 OF THE DUMP (.gsa) THAT YtnekemldcjegaaaProg.lean LOADS. Nothing in Lean hashes anything: it is a label: what it is worth is what the hold of that sum in a sandbox is worth. -/
noncomputable def Try.pinned : Pinned := { name := "ytnekemldcjegaaa", sum := "516eef85f0b392046ee457d8c03cdb84c108a09de645ebea749e13ae69aba854", checked := Try.checked }
namespace Rows
def none {H : Type} : Left H := { results := [], args := [] }

/-- 'walkmilllaw01.ClothAt': WHATEVER THE INPUT: true; the input reads as it did. -/
def clothAtSpec : ChangeSpec := { name := "clothAt", fn := fun _ => fun
  | [d1, d2] => { results := [.lit (.bool true)], args := [d1, d2] }
  | _ => none }
def clothAtRow : OpenClaim := { program := "ytnekemldcjegaaa", sum := "516eef85f0b392046ee457d8c03cdb84c108a09de645ebea749e13ae69aba854", func := "walkmill/walkmilllaw01.ClothAt", spec := "clothAt", unfollowed := true, recurses := true, apart := false }
def ClothAtSaid : Prop := clothAtRow.holds Try.pinned (OpenSpec.ofChange clothAtSpec)

/-- ITS FALSE NEIGHBOUR: 'it returns false'. Refute it at one input. -/
def clothAtWrong : ChangeSpec := { name := "clothAt", fn := fun _ => fun
  | [d1, d2] => { results := [.lit (.bool false)], args := [d1, d2] }
  | _ => none }
def ClothAtWrongFalsely : Prop := clothAtRow.holds Try.pinned (OpenSpec.ofChange clothAtWrong)

/-- 'walkmilllaw01.ClothBelow': WHATEVER THE INPUT: true; the input reads as it did. -/
def clothBelowSpec : ChangeSpec := { name := "clothBelow", fn := fun _ => fun
  | [d1, d2, d3] => { results := [.lit (.bool true)], args := [d1, d2, d3] }
  | _ => none }
def clothBelowRow : OpenClaim := { program := "ytnekemldcjegaaa", sum := "516eef85f0b392046ee457d8c03cdb84c108a09de645ebea749e13ae69aba854", func := "walkmill/walkmilllaw01.ClothBelow", spec := "clothBelow", unfollowed := true, recurses := true, apart := false }
def ClothBelowSaid : Prop := clothBelowRow.holds Try.pinned (OpenSpec.ofChange clothBelowSpec)

/-- ITS FALSE NEIGHBOUR: 'it returns false'. Refute it at one input. -/
def clothBelowWrong : ChangeSpec := { name := "clothBelow", fn := fun _ => fun
  | [d1, d2, d3] => { results := [.lit (.bool false)], args := [d1, d2, d3] }
  | _ => none }
def ClothBelowWrongFalsely : Prop := clothBelowRow.holds Try.pinned (OpenSpec.ofChange clothBelowWrong)

/-- 'walkmilllaw01.ClothFits': WHATEVER THE INPUT: true; the input reads as it did. -/
def clothFitsSpec : ChangeSpec := { name := "clothFits", fn := fun _ => fun
  | [d1, d2] => { results := [.lit (.bool true)], args := [d1, d2] }
  | _ => none }
def clothFitsRow : OpenClaim := { program := "ytnekemldcjegaaa", sum := "516eef85f0b392046ee457d8c03cdb84c108a09de645ebea749e13ae69aba854", func := "walkmill/walkmilllaw01.ClothFits", spec := "clothFits", unfollowed := true, recurses := true, apart := false }
def ClothFitsSaid : Prop := clothFitsRow.holds Try.pinned (OpenSpec.ofChange clothFitsSpec)

/-- ITS FALSE NEIGHBOUR: 'it returns false'. Refute it at one input. -/
def clothFitsWrong : ChangeSpec := { name := "clothFits", fn := fun _ => fun
  | [d1, d2] => { results := [.lit (.bool false)], args := [d1, d2] }
  | _ => none }
def ClothFitsWrongFalsely : Prop := clothFitsRow.holds Try.pinned (OpenSpec.ofChange clothFitsWrong)

/-- 'walkmilllaw01.ClothWrongs': WHATEVER THE INPUT: true; the input reads as it did. -/
def clothWrongsSpec : ChangeSpec := { name := "clothWrongs", fn := fun _ => fun
  | [d] => { results := [.lit (.bool true)], args := [d] }
  | _ => none }
def clothWrongsRow : OpenClaim := { program := "ytnekemldcjegaaa", sum := "516eef85f0b392046ee457d8c03cdb84c108a09de645ebea749e13ae69aba854", func := "walkmill/walkmilllaw01.ClothWrongs", spec := "clothWrongs", unfollowed := true, recurses := true, apart := false }
def ClothWrongsSaid : Prop := clothWrongsRow.holds Try.pinned (OpenSpec.ofChange clothWrongsSpec)

/-- ITS FALSE NEIGHBOUR: 'it returns false'. Refute it at one input. -/
def clothWrongsWrong : ChangeSpec := { name := "clothWrongs", fn := fun _ => fun
  | [d] => { results := [.lit (.bool false)], args := [d] }
  | _ => none }
def ClothWrongsWrongFalsely : Prop := clothWrongsRow.holds Try.pinned (OpenSpec.ofChange clothWrongsWrong)

/-- 'walkmilllaw01.ClothYarns': WHATEVER THE INPUT: true; the input reads as it did. -/
def clothYarnsSpec : ChangeSpec := { name := "clothYarns", fn := fun _ => fun
  | [d1, d2] => { results := [.lit (.bool true)], args := [d1, d2] }
  | _ => none }
def clothYarnsRow : OpenClaim := { program := "ytnekemldcjegaaa", sum := "516eef85f0b392046ee457d8c03cdb84c108a09de645ebea749e13ae69aba854", func := "walkmill/walkmilllaw01.ClothYarns", spec := "clothYarns", unfollowed := true, recurses := true, apart := false }
def ClothYarnsSaid : Prop := clothYarnsRow.holds Try.pinned (OpenSpec.ofChange clothYarnsSpec)

/-- ITS FALSE NEIGHBOUR: 'it returns false'. Refute it at one input. -/
def clothYarnsWrong : ChangeSpec := { name := "clothYarns", fn := fun _ => fun
  | [d1, d2] => { results := [.lit (.bool false)], args := [d1, d2] }
  | _ => none }
def ClothYarnsWrongFalsely : Prop := clothYarnsRow.holds Try.pinned (OpenSpec.ofChange clothYarnsWrong)

/-- 'walkmilllaw01.ClothHours': WHATEVER THE INPUT: true; the input reads as it did. -/
def clothHoursSpec : ChangeSpec := { name := "clothHours", fn := fun _ => fun
  | [d1, d2] => { results := [.lit (.bool true)], args := [d1, d2] }
  | _ => none }
def clothHoursRow : OpenClaim := { program := "ytnekemldcjegaaa", sum := "516eef85f0b392046ee457d8c03cdb84c108a09de645ebea749e13ae69aba854", func := "walkmill/walkmilllaw01.ClothHours", spec := "clothHours", unfollowed := true, recurses := true, apart := false }
def ClothHoursSaid : Prop := clothHoursRow.holds Try.pinned (OpenSpec.ofChange clothHoursSpec)

/-- ITS FALSE NEIGHBOUR: 'it returns false'. Refute it at one input. -/
def clothHoursWrong : ChangeSpec := { name := "clothHours", fn := fun _ => fun
  | [d1, d2] => { results := [.lit (.bool false)], args := [d1, d2] }
  | _ => none }
def ClothHoursWrongFalsely : Prop := clothHoursRow.holds Try.pinned (OpenSpec.ofChange clothHoursWrong)

/-- 'walkmilllaw01.ClothBetween': WHATEVER THE INPUT: true; the input reads as it did. -/
def clothBetweenSpec : ChangeSpec := { name := "clothBetween", fn := fun _ => fun
  | [d1, d2, d3] => { results := [.lit (.bool true)], args := [d1, d2, d3] }
  | _ => none }
def clothBetweenRow : OpenClaim := { program := "ytnekemldcjegaaa", sum := "516eef85f0b392046ee457d8c03cdb84c108a09de645ebea749e13ae69aba854", func := "walkmill/walkmilllaw01.ClothBetween", spec := "clothBetween", unfollowed := true, recurses := true, apart := false }
def ClothBetweenSaid : Prop := clothBetweenRow.holds Try.pinned (OpenSpec.ofChange clothBetweenSpec)

/-- ITS FALSE NEIGHBOUR: 'it returns false'. Refute it at one input. -/
def clothBetweenWrong : ChangeSpec := { name := "clothBetween", fn := fun _ => fun
  | [d1, d2, d3] => { results := [.lit (.bool false)], args := [d1, d2, d3] }
  | _ => none }
def ClothBetweenWrongFalsely : Prop := clothBetweenRow.holds Try.pinned (OpenSpec.ofChange clothBetweenWrong)

/-- 'walkmilllaw01.ClothMore': WHATEVER THE INPUT: true; the input reads as it did. -/
def clothMoreSpec : ChangeSpec := { name := "clothMore", fn := fun _ => fun
  | [d1, d2, d3] => { results := [.lit (.bool true)], args := [d1, d2, d3] }
  | _ => none }
def clothMoreRow : OpenClaim := { program := "ytnekemldcjegaaa", sum := "516eef85f0b392046ee457d8c03cdb84c108a09de645ebea749e13ae69aba854", func := "walkmill/walkmilllaw01.ClothMore", spec := "clothMore", unfollowed := true, recurses := true, apart := false }
def ClothMoreSaid : Prop := clothMoreRow.holds Try.pinned (OpenSpec.ofChange clothMoreSpec)

/-- ITS FALSE NEIGHBOUR: 'it returns false'. Refute it at one input. -/
def clothMoreWrong : ChangeSpec := { name := "clothMore", fn := fun _ => fun
  | [d1, d2, d3] => { results := [.lit (.bool false)], args := [d1, d2, d3] }
  | _ => none }
def ClothMoreWrongFalsely : Prop := clothMoreRow.holds Try.pinned (OpenSpec.ofChange clothMoreWrong)

/-- 'walkmilllaw01.ClothBad': WHATEVER THE INPUT: true; the input reads as it did. -/
def clothBadSpec : ChangeSpec := { name := "clothBad", fn := fun _ => fun
  | [d1, d2] => { results := [.lit (.bool true)], args := [d1, d2] }
  | _ => none }
def clothBadRow : OpenClaim := { program := "ytnekemldcjegaaa", sum := "516eef85f0b392046ee457d8c03cdb84c108a09de645ebea749e13ae69aba854", func := "walkmill/walkmilllaw01.ClothBad", spec := "clothBad", unfollowed := true, recurses := true, apart := false }
def ClothBadSaid : Prop := clothBadRow.holds Try.pinned (OpenSpec.ofChange clothBadSpec)

/-- ITS FALSE NEIGHBOUR: 'it returns false'. Refute it at one input. -/
def clothBadWrong : ChangeSpec := { name := "clothBad", fn := fun _ => fun
  | [d1, d2] => { results := [.lit (.bool false)], args := [d1, d2] }
  | _ => none }
def ClothBadWrongFalsely : Prop := clothBadRow.holds Try.pinned (OpenSpec.ofChange clothBadWrong)

/-- 'walkmilllaw01.ClothHow': WHATEVER THE INPUT: true; the input reads as it did. -/
def clothHowSpec : ChangeSpec := { name := "clothHow", fn := fun _ => fun
  | [d1, d2] => { results := [.lit (.bool true)], args := [d1, d2] }
  | _ => none }
def clothHowRow : OpenClaim := { program := "ytnekemldcjegaaa", sum := "516eef85f0b392046ee457d8c03cdb84c108a09de645ebea749e13ae69aba854", func := "walkmill/walkmilllaw01.ClothHow", spec := "clothHow", unfollowed := true, recurses := true, apart := false }
def ClothHowSaid : Prop := clothHowRow.holds Try.pinned (OpenSpec.ofChange clothHowSpec)

/-- ITS FALSE NEIGHBOUR: 'it returns false'. Refute it at one input. -/
def clothHowWrong : ChangeSpec := { name := "clothHow", fn := fun _ => fun
  | [d1, d2] => { results := [.lit (.bool false)], args := [d1, d2] }
  | _ => none }
def ClothHowWrongFalsely : Prop := clothHowRow.holds Try.pinned (OpenSpec.ofChange clothHowWrong)

/-- 'walkmilllaw01.ClothSewn': WHATEVER THE INPUT: true; the input reads as it did. -/
def clothSewnSpec : ChangeSpec := { name := "clothSewn", fn := fun _ => fun
  | [d1, d2, d3] => { results := [.lit (.bool true)], args := [d1, d2, d3] }
  | _ => none }
def clothSewnRow : OpenClaim := { program := "ytnekemldcjegaaa", sum := "516eef85f0b392046ee457d8c03cdb84c108a09de645ebea749e13ae69aba854", func := "walkmill/walkmilllaw01.ClothSewn", spec := "clothSewn", unfollowed := true, recurses := true, apart := false }
def ClothSewnSaid : Prop := clothSewnRow.holds Try.pinned (OpenSpec.ofChange clothSewnSpec)

/-- ITS FALSE NEIGHBOUR: 'it returns false'. Refute it at one input. -/
def clothSewnWrong : ChangeSpec := { name := "clothSewn", fn := fun _ => fun
  | [d1, d2, d3] => { results := [.lit (.bool false)], args := [d1, d2, d3] }
  | _ => none }
def ClothSewnWrongFalsely : Prop := clothSewnRow.holds Try.pinned (OpenSpec.ofChange clothSewnWrong)

/-- 'walkmilllaw01.ClothTwo': WHATEVER THE INPUT: true; the input reads as it did. -/
def clothTwoSpec : ChangeSpec := { name := "clothTwo", fn := fun _ => fun
  | [d1, d2, d3] => { results := [.lit (.bool true)], args := [d1, d2, d3] }
  | _ => none }
def clothTwoRow : OpenClaim := { program := "ytnekemldcjegaaa", sum := "516eef85f0b392046ee457d8c03cdb84c108a09de645ebea749e13ae69aba854", func := "walkmill/walkmilllaw01.ClothTwo", spec := "clothTwo", unfollowed := true, recurses := true, apart := false }
def ClothTwoSaid : Prop := clothTwoRow.holds Try.pinned (OpenSpec.ofChange clothTwoSpec)

/-- ITS FALSE NEIGHBOUR: 'it returns false'. Refute it at one input. -/
def clothTwoWrong : ChangeSpec := { name := "clothTwo", fn := fun _ => fun
  | [d1, d2, d3] => { results := [.lit (.bool false)], args := [d1, d2, d3] }
  | _ => none }
def ClothTwoWrongFalsely : Prop := clothTwoRow.holds Try.pinned (OpenSpec.ofChange clothTwoWrong)

/-- 'walkmilllaw01.ClothLooks': WHATEVER THE INPUT: true; the input reads as it did. -/
def clothLooksSpec : ChangeSpec := { name := "clothLooks", fn := fun _ => fun
  | [d1, d2, d3] => { results := [.lit (.bool true)], args := [d1, d2, d3] }
  | _ => none }
def clothLooksRow : OpenClaim := { program := "ytnekemldcjegaaa", sum := "516eef85f0b392046ee457d8c03cdb84c108a09de645ebea749e13ae69aba854", func := "walkmill/walkmilllaw01.ClothLooks", spec := "clothLooks", unfollowed := true, recurses := true, apart := false }
def ClothLooksSaid : Prop := clothLooksRow.holds Try.pinned (OpenSpec.ofChange clothLooksSpec)

/-- ITS FALSE NEIGHBOUR: 'it returns false'. Refute it at one input. -/
def clothLooksWrong : ChangeSpec := { name := "clothLooks", fn := fun _ => fun
  | [d1, d2, d3] => { results := [.lit (.bool false)], args := [d1, d2, d3] }
  | _ => none }
def ClothLooksWrongFalsely : Prop := clothLooksRow.holds Try.pinned (OpenSpec.ofChange clothLooksWrong)

/-- 'walkmilllaw01.ClothTold': WHATEVER THE INPUT: true; the input reads as it did. -/
def clothToldSpec : ChangeSpec := { name := "clothTold", fn := fun _ => fun
  | [d1, d2] => { results := [.lit (.bool true)], args := [d1, d2] }
  | _ => none }
def clothToldRow : OpenClaim := { program := "ytnekemldcjegaaa", sum := "516eef85f0b392046ee457d8c03cdb84c108a09de645ebea749e13ae69aba854", func := "walkmill/walkmilllaw01.ClothTold", spec := "clothTold", unfollowed := true, recurses := true, apart := false }
def ClothToldSaid : Prop := clothToldRow.holds Try.pinned (OpenSpec.ofChange clothToldSpec)

/-- ITS FALSE NEIGHBOUR: 'it returns false'. Refute it at one input. -/
def clothToldWrong : ChangeSpec := { name := "clothTold", fn := fun _ => fun
  | [d1, d2] => { results := [.lit (.bool false)], args := [d1, d2] }
  | _ => none }
def ClothToldWrongFalsely : Prop := clothToldRow.holds Try.pinned (OpenSpec.ofChange clothToldWrong)

/- THE SECOND FORM. 'bulk': how many values and letters a reading holds, each counted each time it is reached (what is shared counts as often as it is met; a slice's spare places count too). A statement '..UptoSaid' is the law's where the arguments, and the package variables that the reading takes, are together of bulk at most 1048576: NARROWER than '..Said'. Prove '..Said' where nothing that the law and all that it calls make is longer than what came in: it says more and counts as full. Else prove '..UptoSaid'. A law counts once. -/
mutual
def uptoBulk {H : Type} : DataW H → Nat
  | .lit (.string bytes) => bytes.length + 1
  | .lit _ => 1
  | .nil => 1
  | .ptr d => uptoBulk d + 1
  | .slice elems spare => uptoBulkAll elems + uptoBulkAll spare + 1
  | .agg parts => uptoBulkAll parts + 1
  | .iface _ d => uptoBulk d + 1
  | .map entries => uptoBulkEntries entries + 1
  | .held _ => 1
def uptoBulkAll {H : Type} : List (DataW H) → Nat
  | [] => 0
  | d :: r => uptoBulk d + uptoBulkAll r
def uptoBulkEntries {H : Type} : List (Lit × DataW H) → Nat
  | [] => 0
  | x :: r => uptoBulkEntry x + uptoBulkEntries r
def uptoBulkEntry {H : Type} : Lit × DataW H → Nat
  | (.string bytes, d) => bytes.length + uptoBulk d + 1
  | (_, d) => uptoBulk d + 1
 end
def uptoSmall : (H : Type) → List (DataW H) → Bool := fun _ ds => decide (uptoBulkAll ds ≤ 1048576)
def OpenSpec.upto (s : _root_.Go.ChangeSpec) : _root_.Go.OpenSpec := { _root_.Go.OpenSpec.ofChange s with cond := some uptoSmall }

/-- 'walkmilllaw01.ClothAt', WHERE WHAT IT READS IS OF BULK AT MOST 1048576: true; the input reads as it did. -/
def clothAtUptoRow : OpenClaim := { program := "ytnekemldcjegaaa", sum := "516eef85f0b392046ee457d8c03cdb84c108a09de645ebea749e13ae69aba854", func := "walkmill/walkmilllaw01.ClothAt", spec := "clothAt", unfollowed := true, recurses := true, apart := false, narrowed := true }
def ClothAtUptoSaid : Prop := clothAtUptoRow.holds Try.pinned (OpenSpec.upto clothAtSpec)

/-- 'walkmilllaw01.ClothBelow', WHERE WHAT IT READS IS OF BULK AT MOST 1048576: true; the input reads as it did. -/
def clothBelowUptoRow : OpenClaim := { program := "ytnekemldcjegaaa", sum := "516eef85f0b392046ee457d8c03cdb84c108a09de645ebea749e13ae69aba854", func := "walkmill/walkmilllaw01.ClothBelow", spec := "clothBelow", unfollowed := true, recurses := true, apart := false, narrowed := true }
def ClothBelowUptoSaid : Prop := clothBelowUptoRow.holds Try.pinned (OpenSpec.upto clothBelowSpec)

/-- 'walkmilllaw01.ClothFits', WHERE WHAT IT READS IS OF BULK AT MOST 1048576: true; the input reads as it did. -/
def clothFitsUptoRow : OpenClaim := { program := "ytnekemldcjegaaa", sum := "516eef85f0b392046ee457d8c03cdb84c108a09de645ebea749e13ae69aba854", func := "walkmill/walkmilllaw01.ClothFits", spec := "clothFits", unfollowed := true, recurses := true, apart := false, narrowed := true }
def ClothFitsUptoSaid : Prop := clothFitsUptoRow.holds Try.pinned (OpenSpec.upto clothFitsSpec)

/-- 'walkmilllaw01.ClothWrongs', WHERE WHAT IT READS IS OF BULK AT MOST 1048576: true; the input reads as it did. -/
def clothWrongsUptoRow : OpenClaim := { program := "ytnekemldcjegaaa", sum := "516eef85f0b392046ee457d8c03cdb84c108a09de645ebea749e13ae69aba854", func := "walkmill/walkmilllaw01.ClothWrongs", spec := "clothWrongs", unfollowed := true, recurses := true, apart := false, narrowed := true }
def ClothWrongsUptoSaid : Prop := clothWrongsUptoRow.holds Try.pinned (OpenSpec.upto clothWrongsSpec)

/-- 'walkmilllaw01.ClothYarns', WHERE WHAT IT READS IS OF BULK AT MOST 1048576: true; the input reads as it did. -/
def clothYarnsUptoRow : OpenClaim := { program := "ytnekemldcjegaaa", sum := "516eef85f0b392046ee457d8c03cdb84c108a09de645ebea749e13ae69aba854", func := "walkmill/walkmilllaw01.ClothYarns", spec := "clothYarns", unfollowed := true, recurses := true, apart := false, narrowed := true }
def ClothYarnsUptoSaid : Prop := clothYarnsUptoRow.holds Try.pinned (OpenSpec.upto clothYarnsSpec)

/-- 'walkmilllaw01.ClothHours', WHERE WHAT IT READS IS OF BULK AT MOST 1048576: true; the input reads as it did. -/
def clothHoursUptoRow : OpenClaim := { program := "ytnekemldcjegaaa", sum := "516eef85f0b392046ee457d8c03cdb84c108a09de645ebea749e13ae69aba854", func := "walkmill/walkmilllaw01.ClothHours", spec := "clothHours", unfollowed := true, recurses := true, apart := false, narrowed := true }
def ClothHoursUptoSaid : Prop := clothHoursUptoRow.holds Try.pinned (OpenSpec.upto clothHoursSpec)

/-- 'walkmilllaw01.ClothBetween', WHERE WHAT IT READS IS OF BULK AT MOST 1048576: true; the input reads as it did. -/
def clothBetweenUptoRow : OpenClaim := { program := "ytnekemldcjegaaa", sum := "516eef85f0b392046ee457d8c03cdb84c108a09de645ebea749e13ae69aba854", func := "walkmill/walkmilllaw01.ClothBetween", spec := "clothBetween", unfollowed := true, recurses := true, apart := false, narrowed := true }
def ClothBetweenUptoSaid : Prop := clothBetweenUptoRow.holds Try.pinned (OpenSpec.upto clothBetweenSpec)

/-- 'walkmilllaw01.ClothMore', WHERE WHAT IT READS IS OF BULK AT MOST 1048576: true; the input reads as it did. -/
def clothMoreUptoRow : OpenClaim := { program := "ytnekemldcjegaaa", sum := "516eef85f0b392046ee457d8c03cdb84c108a09de645ebea749e13ae69aba854", func := "walkmill/walkmilllaw01.ClothMore", spec := "clothMore", unfollowed := true, recurses := true, apart := false, narrowed := true }
def ClothMoreUptoSaid : Prop := clothMoreUptoRow.holds Try.pinned (OpenSpec.upto clothMoreSpec)

/-- 'walkmilllaw01.ClothBad', WHERE WHAT IT READS IS OF BULK AT MOST 1048576: true; the input reads as it did. -/
def clothBadUptoRow : OpenClaim := { program := "ytnekemldcjegaaa", sum := "516eef85f0b392046ee457d8c03cdb84c108a09de645ebea749e13ae69aba854", func := "walkmill/walkmilllaw01.ClothBad", spec := "clothBad", unfollowed := true, recurses := true, apart := false, narrowed := true }
def ClothBadUptoSaid : Prop := clothBadUptoRow.holds Try.pinned (OpenSpec.upto clothBadSpec)

/-- 'walkmilllaw01.ClothHow', WHERE WHAT IT READS IS OF BULK AT MOST 1048576: true; the input reads as it did. -/
def clothHowUptoRow : OpenClaim := { program := "ytnekemldcjegaaa", sum := "516eef85f0b392046ee457d8c03cdb84c108a09de645ebea749e13ae69aba854", func := "walkmill/walkmilllaw01.ClothHow", spec := "clothHow", unfollowed := true, recurses := true, apart := false, narrowed := true }
def ClothHowUptoSaid : Prop := clothHowUptoRow.holds Try.pinned (OpenSpec.upto clothHowSpec)

/-- 'walkmilllaw01.ClothSewn', WHERE WHAT IT READS IS OF BULK AT MOST 1048576: true; the input reads as it did. -/
def clothSewnUptoRow : OpenClaim := { program := "ytnekemldcjegaaa", sum := "516eef85f0b392046ee457d8c03cdb84c108a09de645ebea749e13ae69aba854", func := "walkmill/walkmilllaw01.ClothSewn", spec := "clothSewn", unfollowed := true, recurses := true, apart := false, narrowed := true }
def ClothSewnUptoSaid : Prop := clothSewnUptoRow.holds Try.pinned (OpenSpec.upto clothSewnSpec)

/-- 'walkmilllaw01.ClothTwo', WHERE WHAT IT READS IS OF BULK AT MOST 1048576: true; the input reads as it did. -/
def clothTwoUptoRow : OpenClaim := { program := "ytnekemldcjegaaa", sum := "516eef85f0b392046ee457d8c03cdb84c108a09de645ebea749e13ae69aba854", func := "walkmill/walkmilllaw01.ClothTwo", spec := "clothTwo", unfollowed := true, recurses := true, apart := false, narrowed := true }
def ClothTwoUptoSaid : Prop := clothTwoUptoRow.holds Try.pinned (OpenSpec.upto clothTwoSpec)

/-- 'walkmilllaw01.ClothLooks', WHERE WHAT IT READS IS OF BULK AT MOST 1048576: true; the input reads as it did. -/
def clothLooksUptoRow : OpenClaim := { program := "ytnekemldcjegaaa", sum := "516eef85f0b392046ee457d8c03cdb84c108a09de645ebea749e13ae69aba854", func := "walkmill/walkmilllaw01.ClothLooks", spec := "clothLooks", unfollowed := true, recurses := true, apart := false, narrowed := true }
def ClothLooksUptoSaid : Prop := clothLooksUptoRow.holds Try.pinned (OpenSpec.upto clothLooksSpec)

/-- 'walkmilllaw01.ClothTold', WHERE WHAT IT READS IS OF BULK AT MOST 1048576: true; the input reads as it did. -/
def clothToldUptoRow : OpenClaim := { program := "ytnekemldcjegaaa", sum := "516eef85f0b392046ee457d8c03cdb84c108a09de645ebea749e13ae69aba854", func := "walkmill/walkmilllaw01.ClothTold", spec := "clothTold", unfollowed := true, recurses := true, apart := false, narrowed := true }
def ClothToldUptoSaid : Prop := clothToldUptoRow.holds Try.pinned (OpenSpec.upto clothToldSpec)

end Rows
end Go.Proofs.Ytnekemldcjegaaa
