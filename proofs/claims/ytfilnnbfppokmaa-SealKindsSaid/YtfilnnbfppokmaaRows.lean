/-
  No cell of these rows narrows 'for every input' (looked for: loops, veiled, ifaces, maps, wideKeys, modest, calm, conditions, laid).
  DERIVED. THE GIVEN ROWS OF THIS SEAT. 12 by the template 'for every input the law returns true; each argument reads behind the call as it read before'; 0 by the template 'total and deterministic' (their statements: YtfilnnbfppokmaaTotals.lean).
  GIVEN WITH THE SEED: the statements are not yours to turn. If you find one false, say at which input.
  Laid BY PROGRAM, IN A SANDBOX (cutbox-rows.mjs): the forced cells as the released guide's own fill.sh prints them over the translation cc9278d689bde216… (all of the seat's roots in one cut). By AI agents, Wed Nov 11 2026. No macro, syntax, notation, axiom, sorry.
-/
import Derived.Test.YtfilnnbfppokmaaChecked
import GoSem.Claim
import GoSem.ClaimJoined
import GoSem.ClaimMapViews
import Derived.JoinedTies
import Derived.KernelRfl
namespace Go.Proofs.Ytfilnnbfppokmaa
/- THE CELL 'sum', in the pinned program and in every row, IS THE sha256 OF THE DUMP (.gsa) THAT YtfilnnbfppokmaaProg.lean LOADS. Nothing in Lean hashes anything: it is a label: what it is worth is what the hold of that sum in a sandbox is worth. -/
noncomputable def Try.pinned : Pinned := { name := "ytfilnnbfppokmaa", sum := "cc9278d689bde216257f8db2831d344a97c886f53a42495fca77e68889e24ab4", checked := Try.checked }
namespace Rows
def none {H : Type} : Left H := { results := [], args := [] }

/-- 'walkmilllaw07.SealKinds': WHATEVER THE INPUT: true; the input reads as it did. -/
def sealKindsSpec : ChangeSpec := { name := "sealKinds", fn := fun _ => fun
  | [d1, d2] => { results := [.lit (.bool true)], args := [d1, d2] }
  | _ => none }
def sealKindsRow : OpenClaim := { program := "ytfilnnbfppokmaa", sum := "cc9278d689bde216257f8db2831d344a97c886f53a42495fca77e68889e24ab4", func := "walkmill/walkmilllaw07.SealKinds", spec := "sealKinds", unfollowed := true, recurses := true, apart := false }
def SealKindsSaid : Prop := sealKindsRow.holds Try.pinned (OpenSpec.ofChange sealKindsSpec)

/-- ITS FALSE NEIGHBOUR: 'it returns false'. Refute it at one input. -/
def sealKindsWrong : ChangeSpec := { name := "sealKinds", fn := fun _ => fun
  | [d1, d2] => { results := [.lit (.bool false)], args := [d1, d2] }
  | _ => none }
def SealKindsWrongFalsely : Prop := sealKindsRow.holds Try.pinned (OpenSpec.ofChange sealKindsWrong)

/-- 'walkmilllaw07.SealFines': WHATEVER THE INPUT: true; the input reads as it did. -/
def sealFinesSpec : ChangeSpec := { name := "sealFines", fn := fun _ => fun
  | [d1, d2, d3] => { results := [.lit (.bool true)], args := [d1, d2, d3] }
  | _ => none }
def sealFinesRow : OpenClaim := { program := "ytfilnnbfppokmaa", sum := "cc9278d689bde216257f8db2831d344a97c886f53a42495fca77e68889e24ab4", func := "walkmill/walkmilllaw07.SealFines", spec := "sealFines", unfollowed := true, recurses := true, apart := false }
def SealFinesSaid : Prop := sealFinesRow.holds Try.pinned (OpenSpec.ofChange sealFinesSpec)

/-- ITS FALSE NEIGHBOUR: 'it returns false'. Refute it at one input. -/
def sealFinesWrong : ChangeSpec := { name := "sealFines", fn := fun _ => fun
  | [d1, d2, d3] => { results := [.lit (.bool false)], args := [d1, d2, d3] }
  | _ => none }
def SealFinesWrongFalsely : Prop := sealFinesRow.holds Try.pinned (OpenSpec.ofChange sealFinesWrong)

/-- 'walkmilllaw07.SealLooks': WHATEVER THE INPUT: true; the input reads as it did. -/
def sealLooksSpec : ChangeSpec := { name := "sealLooks", fn := fun _ => fun
  | [d1, d2] => { results := [.lit (.bool true)], args := [d1, d2] }
  | _ => none }
def sealLooksRow : OpenClaim := { program := "ytfilnnbfppokmaa", sum := "cc9278d689bde216257f8db2831d344a97c886f53a42495fca77e68889e24ab4", func := "walkmill/walkmilllaw07.SealLooks", spec := "sealLooks", unfollowed := true, recurses := true, apart := false }
def SealLooksSaid : Prop := sealLooksRow.holds Try.pinned (OpenSpec.ofChange sealLooksSpec)

/-- ITS FALSE NEIGHBOUR: 'it returns false'. Refute it at one input. -/
def sealLooksWrong : ChangeSpec := { name := "sealLooks", fn := fun _ => fun
  | [d1, d2] => { results := [.lit (.bool false)], args := [d1, d2] }
  | _ => none }
def SealLooksWrongFalsely : Prop := sealLooksRow.holds Try.pinned (OpenSpec.ofChange sealLooksWrong)

/-- 'walkmilllaw07.SealTorns': WHATEVER THE INPUT: true; the input reads as it did. -/
def sealTornsSpec : ChangeSpec := { name := "sealTorns", fn := fun _ => fun
  | [d1, d2] => { results := [.lit (.bool true)], args := [d1, d2] }
  | _ => none }
def sealTornsRow : OpenClaim := { program := "ytfilnnbfppokmaa", sum := "cc9278d689bde216257f8db2831d344a97c886f53a42495fca77e68889e24ab4", func := "walkmill/walkmilllaw07.SealTorns", spec := "sealTorns", unfollowed := true, recurses := true, apart := false }
def SealTornsSaid : Prop := sealTornsRow.holds Try.pinned (OpenSpec.ofChange sealTornsSpec)

/-- ITS FALSE NEIGHBOUR: 'it returns false'. Refute it at one input. -/
def sealTornsWrong : ChangeSpec := { name := "sealTorns", fn := fun _ => fun
  | [d1, d2] => { results := [.lit (.bool false)], args := [d1, d2] }
  | _ => none }
def SealTornsWrongFalsely : Prop := sealTornsRow.holds Try.pinned (OpenSpec.ofChange sealTornsWrong)

/-- 'walkmilllaw07.SealForges': WHATEVER THE INPUT: true; the input reads as it did. -/
def sealForgesSpec : ChangeSpec := { name := "sealForges", fn := fun _ => fun
  | [d] => { results := [.lit (.bool true)], args := [d] }
  | _ => none }
def sealForgesRow : OpenClaim := { program := "ytfilnnbfppokmaa", sum := "cc9278d689bde216257f8db2831d344a97c886f53a42495fca77e68889e24ab4", func := "walkmill/walkmilllaw07.SealForges", spec := "sealForges", unfollowed := true, recurses := true, apart := false }
def SealForgesSaid : Prop := sealForgesRow.holds Try.pinned (OpenSpec.ofChange sealForgesSpec)

/-- ITS FALSE NEIGHBOUR: 'it returns false'. Refute it at one input. -/
def sealForgesWrong : ChangeSpec := { name := "sealForges", fn := fun _ => fun
  | [d] => { results := [.lit (.bool false)], args := [d] }
  | _ => none }
def SealForgesWrongFalsely : Prop := sealForgesRow.holds Try.pinned (OpenSpec.ofChange sealForgesWrong)

/-- 'walkmilllaw07.SealCords': WHATEVER THE INPUT: true; the input reads as it did. -/
def sealCordsSpec : ChangeSpec := { name := "sealCords", fn := fun _ => fun
  | [d1, d2, d3] => { results := [.lit (.bool true)], args := [d1, d2, d3] }
  | _ => none }
def sealCordsRow : OpenClaim := { program := "ytfilnnbfppokmaa", sum := "cc9278d689bde216257f8db2831d344a97c886f53a42495fca77e68889e24ab4", func := "walkmill/walkmilllaw07.SealCords", spec := "sealCords", unfollowed := true, recurses := true, apart := false }
def SealCordsSaid : Prop := sealCordsRow.holds Try.pinned (OpenSpec.ofChange sealCordsSpec)

/-- ITS FALSE NEIGHBOUR: 'it returns false'. Refute it at one input. -/
def sealCordsWrong : ChangeSpec := { name := "sealCords", fn := fun _ => fun
  | [d1, d2, d3] => { results := [.lit (.bool false)], args := [d1, d2, d3] }
  | _ => none }
def SealCordsWrongFalsely : Prop := sealCordsRow.holds Try.pinned (OpenSpec.ofChange sealCordsWrong)

/-- 'walkmilllaw07.SealTruly': WHATEVER THE INPUT: true; the input reads as it did. -/
def sealTrulySpec : ChangeSpec := { name := "sealTruly", fn := fun _ => fun
  | [d1, d2] => { results := [.lit (.bool true)], args := [d1, d2] }
  | _ => none }
def sealTrulyRow : OpenClaim := { program := "ytfilnnbfppokmaa", sum := "cc9278d689bde216257f8db2831d344a97c886f53a42495fca77e68889e24ab4", func := "walkmill/walkmilllaw07.SealTruly", spec := "sealTruly", unfollowed := true, recurses := true, apart := false }
def SealTrulySaid : Prop := sealTrulyRow.holds Try.pinned (OpenSpec.ofChange sealTrulySpec)

/-- ITS FALSE NEIGHBOUR: 'it returns false'. Refute it at one input. -/
def sealTrulyWrong : ChangeSpec := { name := "sealTruly", fn := fun _ => fun
  | [d1, d2] => { results := [.lit (.bool false)], args := [d1, d2] }
  | _ => none }
def SealTrulyWrongFalsely : Prop := sealTrulyRow.holds Try.pinned (OpenSpec.ofChange sealTrulyWrong)

/-- 'walkmilllaw07.SealBetter': WHATEVER THE INPUT: true; the input reads as it did. -/
def sealBetterSpec : ChangeSpec := { name := "sealBetter", fn := fun _ => fun
  | [d1, d2, d3] => { results := [.lit (.bool true)], args := [d1, d2, d3] }
  | _ => none }
def sealBetterRow : OpenClaim := { program := "ytfilnnbfppokmaa", sum := "cc9278d689bde216257f8db2831d344a97c886f53a42495fca77e68889e24ab4", func := "walkmill/walkmilllaw07.SealBetter", spec := "sealBetter", unfollowed := true, recurses := true, apart := false }
def SealBetterSaid : Prop := sealBetterRow.holds Try.pinned (OpenSpec.ofChange sealBetterSpec)

/-- ITS FALSE NEIGHBOUR: 'it returns false'. Refute it at one input. -/
def sealBetterWrong : ChangeSpec := { name := "sealBetter", fn := fun _ => fun
  | [d1, d2, d3] => { results := [.lit (.bool false)], args := [d1, d2, d3] }
  | _ => none }
def SealBetterWrongFalsely : Prop := sealBetterRow.holds Try.pinned (OpenSpec.ofChange sealBetterWrong)

/-- 'walkmilllaw07.SealTold': WHATEVER THE INPUT: true; the input reads as it did. -/
def sealToldSpec : ChangeSpec := { name := "sealTold", fn := fun _ => fun
  | [d1, d2, d3] => { results := [.lit (.bool true)], args := [d1, d2, d3] }
  | _ => none }
def sealToldRow : OpenClaim := { program := "ytfilnnbfppokmaa", sum := "cc9278d689bde216257f8db2831d344a97c886f53a42495fca77e68889e24ab4", func := "walkmill/walkmilllaw07.SealTold", spec := "sealTold", unfollowed := true, recurses := true, apart := false }
def SealToldSaid : Prop := sealToldRow.holds Try.pinned (OpenSpec.ofChange sealToldSpec)

/-- ITS FALSE NEIGHBOUR: 'it returns false'. Refute it at one input. -/
def sealToldWrong : ChangeSpec := { name := "sealTold", fn := fun _ => fun
  | [d1, d2, d3] => { results := [.lit (.bool false)], args := [d1, d2, d3] }
  | _ => none }
def SealToldWrongFalsely : Prop := sealToldRow.holds Try.pinned (OpenSpec.ofChange sealToldWrong)

/-- 'walkmilllaw07.SealWhose': WHATEVER THE INPUT: true; the input reads as it did. -/
def sealWhoseSpec : ChangeSpec := { name := "sealWhose", fn := fun _ => fun
  | [d1, d2, d3] => { results := [.lit (.bool true)], args := [d1, d2, d3] }
  | _ => none }
def sealWhoseRow : OpenClaim := { program := "ytfilnnbfppokmaa", sum := "cc9278d689bde216257f8db2831d344a97c886f53a42495fca77e68889e24ab4", func := "walkmill/walkmilllaw07.SealWhose", spec := "sealWhose", unfollowed := true, recurses := true, apart := false }
def SealWhoseSaid : Prop := sealWhoseRow.holds Try.pinned (OpenSpec.ofChange sealWhoseSpec)

/-- ITS FALSE NEIGHBOUR: 'it returns false'. Refute it at one input. -/
def sealWhoseWrong : ChangeSpec := { name := "sealWhose", fn := fun _ => fun
  | [d1, d2, d3] => { results := [.lit (.bool false)], args := [d1, d2, d3] }
  | _ => none }
def SealWhoseWrongFalsely : Prop := sealWhoseRow.holds Try.pinned (OpenSpec.ofChange sealWhoseWrong)

/-- 'walkmilllaw07.SealOwn': WHATEVER THE INPUT: true; the input reads as it did. -/
def sealOwnSpec : ChangeSpec := { name := "sealOwn", fn := fun _ => fun
  | [d1, d2] => { results := [.lit (.bool true)], args := [d1, d2] }
  | _ => none }
def sealOwnRow : OpenClaim := { program := "ytfilnnbfppokmaa", sum := "cc9278d689bde216257f8db2831d344a97c886f53a42495fca77e68889e24ab4", func := "walkmill/walkmilllaw07.SealOwn", spec := "sealOwn", unfollowed := true, recurses := true, apart := false }
def SealOwnSaid : Prop := sealOwnRow.holds Try.pinned (OpenSpec.ofChange sealOwnSpec)

/-- ITS FALSE NEIGHBOUR: 'it returns false'. Refute it at one input. -/
def sealOwnWrong : ChangeSpec := { name := "sealOwn", fn := fun _ => fun
  | [d1, d2] => { results := [.lit (.bool false)], args := [d1, d2] }
  | _ => none }
def SealOwnWrongFalsely : Prop := sealOwnRow.holds Try.pinned (OpenSpec.ofChange sealOwnWrong)

/-- 'walkmilllaw07.SealBook': WHATEVER THE INPUT: true; the input reads as it did. -/
def sealBookSpec : ChangeSpec := { name := "sealBook", fn := fun _ => fun
  | [d1, d2, d3] => { results := [.lit (.bool true)], args := [d1, d2, d3] }
  | _ => none }
def sealBookRow : OpenClaim := { program := "ytfilnnbfppokmaa", sum := "cc9278d689bde216257f8db2831d344a97c886f53a42495fca77e68889e24ab4", func := "walkmill/walkmilllaw07.SealBook", spec := "sealBook", unfollowed := true, recurses := true, apart := false }
def SealBookSaid : Prop := sealBookRow.holds Try.pinned (OpenSpec.ofChange sealBookSpec)

/-- ITS FALSE NEIGHBOUR: 'it returns false'. Refute it at one input. -/
def sealBookWrong : ChangeSpec := { name := "sealBook", fn := fun _ => fun
  | [d1, d2, d3] => { results := [.lit (.bool false)], args := [d1, d2, d3] }
  | _ => none }
def SealBookWrongFalsely : Prop := sealBookRow.holds Try.pinned (OpenSpec.ofChange sealBookWrong)

/- THE SECOND FORM. 'bulk': how many values and letters a reading holds, each counted each time it is reached (what is shared counts as often as it is met; a slice's spare places count too). A statement '..UptoSaid' is the law's where the arguments, and the package variables that the reading takes, are together of bulk at most 1048576: NARROWER than '..Said'. Prove '..Said' where nothing that the law and all that it calls make is longer than what came in: it says more and counts as full. Else prove '..UptoSaid'. A law counts once. -/
mutual
def uptoBulk {H : Type} : DataW H → Nat
  | .lit (.string bytes) => bytes.length + 1
  | .lit _ => 1
  | .nil => 1
  | .ptr d => uptoBulk d + 1
  | .slice elems spare => uptoBulkAll elems + uptoBulkAll spare + 1
  | .agg parts => uptoBulkAll parts + 1
  | .iface _ d => uptoBulk d + 1
  | .map entries => uptoBulkEntries entries + 1
  | .held _ => 1
def uptoBulkAll {H : Type} : List (DataW H) → Nat
  | [] => 0
  | d :: r => uptoBulk d + uptoBulkAll r
def uptoBulkEntries {H : Type} : List (Lit × DataW H) → Nat
  | [] => 0
  | x :: r => uptoBulkEntry x + uptoBulkEntries r
def uptoBulkEntry {H : Type} : Lit × DataW H → Nat
  | (.string bytes, d) => bytes.length + uptoBulk d + 1
  | (_, d) => uptoBulk d + 1
 end
def uptoSmall : (H : Type) → List (DataW H) → Bool := fun _ ds => decide (uptoBulkAll ds ≤ 1048576)
def OpenSpec.upto (s : _root_.Go.ChangeSpec) : _root_.Go.OpenSpec := { _root_.Go.OpenSpec.ofChange s with cond := some uptoSmall }

/-- 'walkmilllaw07.SealKinds', WHERE WHAT IT READS IS OF BULK AT MOST 1048576: true; the input reads as it did. -/
def sealKindsUptoRow : OpenClaim := { program := "ytfilnnbfppokmaa", sum := "cc9278d689bde216257f8db2831d344a97c886f53a42495fca77e68889e24ab4", func := "walkmill/walkmilllaw07.SealKinds", spec := "sealKinds", unfollowed := true, recurses := true, apart := false, narrowed := true }
def SealKindsUptoSaid : Prop := sealKindsUptoRow.holds Try.pinned (OpenSpec.upto sealKindsSpec)

/-- 'walkmilllaw07.SealFines', WHERE WHAT IT READS IS OF BULK AT MOST 1048576: true; the input reads as it did. -/
def sealFinesUptoRow : OpenClaim := { program := "ytfilnnbfppokmaa", sum := "cc9278d689bde216257f8db2831d344a97c886f53a42495fca77e68889e24ab4", func := "walkmill/walkmilllaw07.SealFines", spec := "sealFines", unfollowed := true, recurses := true, apart := false, narrowed := true }
def SealFinesUptoSaid : Prop := sealFinesUptoRow.holds Try.pinned (OpenSpec.upto sealFinesSpec)

/-- 'walkmilllaw07.SealLooks', WHERE WHAT IT READS IS OF BULK AT MOST 1048576: true; the input reads as it did. -/
def sealLooksUptoRow : OpenClaim := { program := "ytfilnnbfppokmaa", sum := "cc9278d689bde216257f8db2831d344a97c886f53a42495fca77e68889e24ab4", func := "walkmill/walkmilllaw07.SealLooks", spec := "sealLooks", unfollowed := true, recurses := true, apart := false, narrowed := true }
def SealLooksUptoSaid : Prop := sealLooksUptoRow.holds Try.pinned (OpenSpec.upto sealLooksSpec)

/-- 'walkmilllaw07.SealTorns', WHERE WHAT IT READS IS OF BULK AT MOST 1048576: true; the input reads as it did. -/
def sealTornsUptoRow : OpenClaim := { program := "ytfilnnbfppokmaa", sum := "cc9278d689bde216257f8db2831d344a97c886f53a42495fca77e68889e24ab4", func := "walkmill/walkmilllaw07.SealTorns", spec := "sealTorns", unfollowed := true, recurses := true, apart := false, narrowed := true }
def SealTornsUptoSaid : Prop := sealTornsUptoRow.holds Try.pinned (OpenSpec.upto sealTornsSpec)

/-- 'walkmilllaw07.SealForges', WHERE WHAT IT READS IS OF BULK AT MOST 1048576: true; the input reads as it did. -/
def sealForgesUptoRow : OpenClaim := { program := "ytfilnnbfppokmaa", sum := "cc9278d689bde216257f8db2831d344a97c886f53a42495fca77e68889e24ab4", func := "walkmill/walkmilllaw07.SealForges", spec := "sealForges", unfollowed := true, recurses := true, apart := false, narrowed := true }
def SealForgesUptoSaid : Prop := sealForgesUptoRow.holds Try.pinned (OpenSpec.upto sealForgesSpec)

/-- 'walkmilllaw07.SealCords', WHERE WHAT IT READS IS OF BULK AT MOST 1048576: true; the input reads as it did. -/
def sealCordsUptoRow : OpenClaim := { program := "ytfilnnbfppokmaa", sum := "cc9278d689bde216257f8db2831d344a97c886f53a42495fca77e68889e24ab4", func := "walkmill/walkmilllaw07.SealCords", spec := "sealCords", unfollowed := true, recurses := true, apart := false, narrowed := true }
def SealCordsUptoSaid : Prop := sealCordsUptoRow.holds Try.pinned (OpenSpec.upto sealCordsSpec)

/-- 'walkmilllaw07.SealTruly', WHERE WHAT IT READS IS OF BULK AT MOST 1048576: true; the input reads as it did. -/
def sealTrulyUptoRow : OpenClaim := { program := "ytfilnnbfppokmaa", sum := "cc9278d689bde216257f8db2831d344a97c886f53a42495fca77e68889e24ab4", func := "walkmill/walkmilllaw07.SealTruly", spec := "sealTruly", unfollowed := true, recurses := true, apart := false, narrowed := true }
def SealTrulyUptoSaid : Prop := sealTrulyUptoRow.holds Try.pinned (OpenSpec.upto sealTrulySpec)

/-- 'walkmilllaw07.SealBetter', WHERE WHAT IT READS IS OF BULK AT MOST 1048576: true; the input reads as it did. -/
def sealBetterUptoRow : OpenClaim := { program := "ytfilnnbfppokmaa", sum := "cc9278d689bde216257f8db2831d344a97c886f53a42495fca77e68889e24ab4", func := "walkmill/walkmilllaw07.SealBetter", spec := "sealBetter", unfollowed := true, recurses := true, apart := false, narrowed := true }
def SealBetterUptoSaid : Prop := sealBetterUptoRow.holds Try.pinned (OpenSpec.upto sealBetterSpec)

/-- 'walkmilllaw07.SealTold', WHERE WHAT IT READS IS OF BULK AT MOST 1048576: true; the input reads as it did. -/
def sealToldUptoRow : OpenClaim := { program := "ytfilnnbfppokmaa", sum := "cc9278d689bde216257f8db2831d344a97c886f53a42495fca77e68889e24ab4", func := "walkmill/walkmilllaw07.SealTold", spec := "sealTold", unfollowed := true, recurses := true, apart := false, narrowed := true }
def SealToldUptoSaid : Prop := sealToldUptoRow.holds Try.pinned (OpenSpec.upto sealToldSpec)

/-- 'walkmilllaw07.SealWhose', WHERE WHAT IT READS IS OF BULK AT MOST 1048576: true; the input reads as it did. -/
def sealWhoseUptoRow : OpenClaim := { program := "ytfilnnbfppokmaa", sum := "cc9278d689bde216257f8db2831d344a97c886f53a42495fca77e68889e24ab4", func := "walkmill/walkmilllaw07.SealWhose", spec := "sealWhose", unfollowed := true, recurses := true, apart := false, narrowed := true }
def SealWhoseUptoSaid : Prop := sealWhoseUptoRow.holds Try.pinned (OpenSpec.upto sealWhoseSpec)

/-- 'walkmilllaw07.SealOwn', WHERE WHAT IT READS IS OF BULK AT MOST 1048576: true; the input reads as it did. -/
def sealOwnUptoRow : OpenClaim := { program := "ytfilnnbfppokmaa", sum := "cc9278d689bde216257f8db2831d344a97c886f53a42495fca77e68889e24ab4", func := "walkmill/walkmilllaw07.SealOwn", spec := "sealOwn", unfollowed := true, recurses := true, apart := false, narrowed := true }
def SealOwnUptoSaid : Prop := sealOwnUptoRow.holds Try.pinned (OpenSpec.upto sealOwnSpec)

/-- 'walkmilllaw07.SealBook', WHERE WHAT IT READS IS OF BULK AT MOST 1048576: true; the input reads as it did. -/
def sealBookUptoRow : OpenClaim := { program := "ytfilnnbfppokmaa", sum := "cc9278d689bde216257f8db2831d344a97c886f53a42495fca77e68889e24ab4", func := "walkmill/walkmilllaw07.SealBook", spec := "sealBook", unfollowed := true, recurses := true, apart := false, narrowed := true }
def SealBookUptoSaid : Prop := sealBookUptoRow.holds Try.pinned (OpenSpec.upto sealBookSpec)

end Rows
end Go.Proofs.Ytfilnnbfppokmaa
