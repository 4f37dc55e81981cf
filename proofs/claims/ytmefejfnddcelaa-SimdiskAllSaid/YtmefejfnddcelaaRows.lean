/-
  No cell of these rows narrows 'for every input' (looked for: loops, veiled, ifaces, maps, wideKeys, modest, calm, conditions, laid).
  DERIVED. THE GIVEN ROWS OF THIS SEAT. 9 by the template 'for every input the law returns true; each argument reads behind the call as it read before'; 0 by the template 'total and deterministic' (their statements: YtmefejfnddcelaaTotals.lean).
  GIVEN WITH THE SEED: the statements are not yours to turn. If you find one false, say at which input.
  Laid BY PROGRAM, IN A SANDBOX (cutbox-rows.mjs): the forced cells as the released guide's own fill.sh prints them over the translation 2ba35e4f4b753b3f… (all of the seat's roots in one cut). By AI agents, Wed Nov 11 2026. No macro, syntax, notation, axiom, sorry.
-/
import Derived.Test.YtmefejfnddcelaaChecked
import GoSem.Claim
import GoSem.ClaimJoined
import GoSem.ClaimMapViews
import Derived.JoinedTies
import Derived.KernelRfl
namespace Go.Proofs.Ytmefejfnddcelaa
/- THE CELL 'sum', in the pinned program and in every row, IS THE sha256 OF THE DUMP (.gsa) THAT YtmefejfnddcelaaProg.lean LOADS. Nothing in Lean hashes anything: it is a label: what it is worth is what the hold of that sum in a sandbox is worth. -/
noncomputable def Try.pinned : Pinned := { name := "ytmefejfnddcelaa", sum := "2ba35e4f4b753b3f9de6ff367aadc2100aa58ccfbf8cc4360689047e9e9ca361", checked := Try.checked }
namespace Rows
def none {H : Type} : Left H := { results := [], args := [] }

/-- 'icehouselaw11.SimobjPlays': WHATEVER THE INPUT: true; the input reads as it did. -/
def simobjPlaysSpec : ChangeSpec := { name := "simobjPlays", fn := fun _ => fun
  | [d1, d2, d3] => { results := [.lit (.bool true)], args := [d1, d2, d3] }
  | _ => none }
def simobjPlaysRow : OpenClaim := { program := "ytmefejfnddcelaa", sum := "2ba35e4f4b753b3f9de6ff367aadc2100aa58ccfbf8cc4360689047e9e9ca361", func := "icehouse/icehouselaw11.SimobjPlays", spec := "simobjPlays", unfollowed := true, recurses := true, apart := false }
def SimobjPlaysSaid : Prop := simobjPlaysRow.holds Try.pinned (OpenSpec.ofChange simobjPlaysSpec)

/-- ITS FALSE NEIGHBOUR: 'it returns false'. Refute it at one input. -/
def simobjPlaysWrong : ChangeSpec := { name := "simobjPlays", fn := fun _ => fun
  | [d1, d2, d3] => { results := [.lit (.bool false)], args := [d1, d2, d3] }
  | _ => none }
def SimobjPlaysWrongFalsely : Prop := simobjPlaysRow.holds Try.pinned (OpenSpec.ofChange simobjPlaysWrong)

/-- 'icehouselaw11.SimobjNil': WHATEVER THE INPUT: true; the input reads as it did. -/
def simobjNilSpec : ChangeSpec := { name := "simobjNil", fn := fun _ => fun
  | [d] => { results := [.lit (.bool true)], args := [d] }
  | _ => none }
def simobjNilRow : OpenClaim := { program := "ytmefejfnddcelaa", sum := "2ba35e4f4b753b3f9de6ff367aadc2100aa58ccfbf8cc4360689047e9e9ca361", func := "icehouse/icehouselaw11.SimobjNil", spec := "simobjNil", unfollowed := true, recurses := true, apart := false }
def SimobjNilSaid : Prop := simobjNilRow.holds Try.pinned (OpenSpec.ofChange simobjNilSpec)

/-- ITS FALSE NEIGHBOUR: 'it returns false'. Refute it at one input. -/
def simobjNilWrong : ChangeSpec := { name := "simobjNil", fn := fun _ => fun
  | [d] => { results := [.lit (.bool false)], args := [d] }
  | _ => none }
def SimobjNilWrongFalsely : Prop := simobjNilRow.holds Try.pinned (OpenSpec.ofChange simobjNilWrong)

/-- 'icehouselaw11.SimobjAtOnce': WHATEVER THE INPUT: true; the input reads as it did. -/
def simobjAtOnceSpec : ChangeSpec := { name := "simobjAtOnce", fn := fun _ => fun
  | [d] => { results := [.lit (.bool true)], args := [d] }
  | _ => none }
def simobjAtOnceRow : OpenClaim := { program := "ytmefejfnddcelaa", sum := "2ba35e4f4b753b3f9de6ff367aadc2100aa58ccfbf8cc4360689047e9e9ca361", func := "icehouse/icehouselaw11.SimobjAtOnce", spec := "simobjAtOnce", unfollowed := true, recurses := true, apart := false }
def SimobjAtOnceSaid : Prop := simobjAtOnceRow.holds Try.pinned (OpenSpec.ofChange simobjAtOnceSpec)

/-- ITS FALSE NEIGHBOUR: 'it returns false'. Refute it at one input. -/
def simobjAtOnceWrong : ChangeSpec := { name := "simobjAtOnce", fn := fun _ => fun
  | [d] => { results := [.lit (.bool false)], args := [d] }
  | _ => none }
def SimobjAtOnceWrongFalsely : Prop := simobjAtOnceRow.holds Try.pinned (OpenSpec.ofChange simobjAtOnceWrong)

/-- 'icehouselaw11.SimobjLists': WHATEVER THE INPUT: true; the input reads as it did. -/
def simobjListsSpec : ChangeSpec := { name := "simobjLists", fn := fun _ => fun
  | [d1, d2] => { results := [.lit (.bool true)], args := [d1, d2] }
  | _ => none }
def simobjListsRow : OpenClaim := { program := "ytmefejfnddcelaa", sum := "2ba35e4f4b753b3f9de6ff367aadc2100aa58ccfbf8cc4360689047e9e9ca361", func := "icehouse/icehouselaw11.SimobjLists", spec := "simobjLists", unfollowed := true, recurses := true, apart := false }
def SimobjListsSaid : Prop := simobjListsRow.holds Try.pinned (OpenSpec.ofChange simobjListsSpec)

/-- ITS FALSE NEIGHBOUR: 'it returns false'. Refute it at one input. -/
def simobjListsWrong : ChangeSpec := { name := "simobjLists", fn := fun _ => fun
  | [d1, d2] => { results := [.lit (.bool false)], args := [d1, d2] }
  | _ => none }
def SimobjListsWrongFalsely : Prop := simobjListsRow.holds Try.pinned (OpenSpec.ofChange simobjListsWrong)

/-- 'icehouselaw10.SimdiskAll': WHATEVER THE INPUT: true; the input reads as it did. -/
def simdiskAllSpec : ChangeSpec := { name := "simdiskAll", fn := fun _ => fun
  | [d] => { results := [.lit (.bool true)], args := [d] }
  | _ => none }
def simdiskAllRow : OpenClaim := { program := "ytmefejfnddcelaa", sum := "2ba35e4f4b753b3f9de6ff367aadc2100aa58ccfbf8cc4360689047e9e9ca361", func := "icehouse/icehouselaw10.SimdiskAll", spec := "simdiskAll", inPlace := ["maps.clone"], unfollowed := true, recurses := true, apart := false }
def SimdiskAllSaid : Prop := simdiskAllRow.holds Try.pinned (OpenSpec.ofChange simdiskAllSpec)

/-- ITS FALSE NEIGHBOUR: 'it returns false'. Refute it at one input. -/
def simdiskAllWrong : ChangeSpec := { name := "simdiskAll", fn := fun _ => fun
  | [d] => { results := [.lit (.bool false)], args := [d] }
  | _ => none }
def SimdiskAllWrongFalsely : Prop := simdiskAllRow.holds Try.pinned (OpenSpec.ofChange simdiskAllWrong)

/-- 'icehouselaw10.SimdiskSwaps': WHATEVER THE INPUT: true; the input reads as it did. -/
def simdiskSwapsSpec : ChangeSpec := { name := "simdiskSwaps", fn := fun _ => fun
  | [d] => { results := [.lit (.bool true)], args := [d] }
  | _ => none }
def simdiskSwapsRow : OpenClaim := { program := "ytmefejfnddcelaa", sum := "2ba35e4f4b753b3f9de6ff367aadc2100aa58ccfbf8cc4360689047e9e9ca361", func := "icehouse/icehouselaw10.SimdiskSwaps", spec := "simdiskSwaps", inPlace := ["maps.clone"], unfollowed := true, recurses := true, apart := false }
def SimdiskSwapsSaid : Prop := simdiskSwapsRow.holds Try.pinned (OpenSpec.ofChange simdiskSwapsSpec)

/-- ITS FALSE NEIGHBOUR: 'it returns false'. Refute it at one input. -/
def simdiskSwapsWrong : ChangeSpec := { name := "simdiskSwaps", fn := fun _ => fun
  | [d] => { results := [.lit (.bool false)], args := [d] }
  | _ => none }
def SimdiskSwapsWrongFalsely : Prop := simdiskSwapsRow.holds Try.pinned (OpenSpec.ofChange simdiskSwapsWrong)

/-- 'icehouselaw10.SimdiskFaults': WHATEVER THE INPUT: true; the input reads as it did. -/
def simdiskFaultsSpec : ChangeSpec := { name := "simdiskFaults", fn := fun _ => fun
  | [d1, d2, d3] => { results := [.lit (.bool true)], args := [d1, d2, d3] }
  | _ => none }
def simdiskFaultsRow : OpenClaim := { program := "ytmefejfnddcelaa", sum := "2ba35e4f4b753b3f9de6ff367aadc2100aa58ccfbf8cc4360689047e9e9ca361", func := "icehouse/icehouselaw10.SimdiskFaults", spec := "simdiskFaults", inPlace := ["maps.clone"], unfollowed := true, recurses := true, apart := false }
def SimdiskFaultsSaid : Prop := simdiskFaultsRow.holds Try.pinned (OpenSpec.ofChange simdiskFaultsSpec)

/-- ITS FALSE NEIGHBOUR: 'it returns false'. Refute it at one input. -/
def simdiskFaultsWrong : ChangeSpec := { name := "simdiskFaults", fn := fun _ => fun
  | [d1, d2, d3] => { results := [.lit (.bool false)], args := [d1, d2, d3] }
  | _ => none }
def SimdiskFaultsWrongFalsely : Prop := simdiskFaultsRow.holds Try.pinned (OpenSpec.ofChange simdiskFaultsWrong)

/-- 'icehouselaw10.SimdiskNil': WHATEVER THE INPUT: true; the input reads as it did. -/
def simdiskNilSpec : ChangeSpec := { name := "simdiskNil", fn := fun _ => fun
  | [d] => { results := [.lit (.bool true)], args := [d] }
  | _ => none }
def simdiskNilRow : OpenClaim := { program := "ytmefejfnddcelaa", sum := "2ba35e4f4b753b3f9de6ff367aadc2100aa58ccfbf8cc4360689047e9e9ca361", func := "icehouse/icehouselaw10.SimdiskNil", spec := "simdiskNil", inPlace := ["maps.clone"], unfollowed := true, recurses := true, apart := false }
def SimdiskNilSaid : Prop := simdiskNilRow.holds Try.pinned (OpenSpec.ofChange simdiskNilSpec)

/-- ITS FALSE NEIGHBOUR: 'it returns false'. Refute it at one input. -/
def simdiskNilWrong : ChangeSpec := { name := "simdiskNil", fn := fun _ => fun
  | [d] => { results := [.lit (.bool false)], args := [d] }
  | _ => none }
def SimdiskNilWrongFalsely : Prop := simdiskNilRow.holds Try.pinned (OpenSpec.ofChange simdiskNilWrong)

/-- 'icehouselaw10.SimdiskSure': WHATEVER THE INPUT: true; the input reads as it did. -/
def simdiskSureSpec : ChangeSpec := { name := "simdiskSure", fn := fun _ => fun
  | [d1, d2, d3] => { results := [.lit (.bool true)], args := [d1, d2, d3] }
  | _ => none }
def simdiskSureRow : OpenClaim := { program := "ytmefejfnddcelaa", sum := "2ba35e4f4b753b3f9de6ff367aadc2100aa58ccfbf8cc4360689047e9e9ca361", func := "icehouse/icehouselaw10.SimdiskSure", spec := "simdiskSure", inPlace := ["maps.clone"], unfollowed := true, recurses := true, apart := false }
def SimdiskSureSaid : Prop := simdiskSureRow.holds Try.pinned (OpenSpec.ofChange simdiskSureSpec)

/-- ITS FALSE NEIGHBOUR: 'it returns false'. Refute it at one input. -/
def simdiskSureWrong : ChangeSpec := { name := "simdiskSure", fn := fun _ => fun
  | [d1, d2, d3] => { results := [.lit (.bool false)], args := [d1, d2, d3] }
  | _ => none }
def SimdiskSureWrongFalsely : Prop := simdiskSureRow.holds Try.pinned (OpenSpec.ofChange simdiskSureWrong)

/- THE SECOND FORM. 'bulk': how many values and letters a reading holds, each counted each time it is reached (what is shared counts as often as it is met; a slice's spare places count too). A statement '..UptoSaid' is the law's where the arguments, and the package variables that the reading takes, are together of bulk at most 1048576: NARROWER than '..Said'. Prove '..Said' where nothing that the law and all that it calls make is longer than what came in: it says more and counts as full. Else prove '..UptoSaid'. A law counts once. -/
mutual
def uptoBulk {H : Type} : DataW H → Nat
  | .lit (.string bytes) => bytes.length + 1
  | .lit _ => 1
  | .nil => 1
  | .ptr d => uptoBulk d + 1
  | .slice elems spare => uptoBulkAll elems + uptoBulkAll spare + 1
  | .agg parts => uptoBulkAll parts + 1
  | .iface _ d => uptoBulk d + 1
  | .map entries => uptoBulkEntries entries + 1
  | .held _ => 1
def uptoBulkAll {H : Type} : List (DataW H) → Nat
  | [] => 0
  | d :: r => uptoBulk d + uptoBulkAll r
def uptoBulkEntries {H : Type} : List (Lit × DataW H) → Nat
  | [] => 0
  | x :: r => uptoBulkEntry x + uptoBulkEntries r
def uptoBulkEntry {H : Type} : Lit × DataW H → Nat
  | (.string bytes, d) => bytes.length + uptoBulk d + 1
  | (_, d) => uptoBulk d + 1
 end
def uptoSmall : (H : Type) → List (DataW H) → Bool := fun _ ds => decide (uptoBulkAll ds ≤ 1048576)
def OpenSpec.upto (s : _root_.Go.ChangeSpec) : _root_.Go.OpenSpec := { _root_.Go.OpenSpec.ofChange s with cond := some uptoSmall }

/-- 'icehouselaw11.SimobjPlays', WHERE WHAT IT READS IS OF BULK AT MOST 1048576: true; the input reads as it did. -/
def simobjPlaysUptoRow : OpenClaim := { program := "ytmefejfnddcelaa", sum := "2ba35e4f4b753b3f9de6ff367aadc2100aa58ccfbf8cc4360689047e9e9ca361", func := "icehouse/icehouselaw11.SimobjPlays", spec := "simobjPlays", unfollowed := true, recurses := true, apart := false, narrowed := true }
def SimobjPlaysUptoSaid : Prop := simobjPlaysUptoRow.holds Try.pinned (OpenSpec.upto simobjPlaysSpec)

/-- 'icehouselaw11.SimobjNil', WHERE WHAT IT READS IS OF BULK AT MOST 1048576: true; the input reads as it did. -/
def simobjNilUptoRow : OpenClaim := { program := "ytmefejfnddcelaa", sum := "2ba35e4f4b753b3f9de6ff367aadc2100aa58ccfbf8cc4360689047e9e9ca361", func := "icehouse/icehouselaw11.SimobjNil", spec := "simobjNil", unfollowed := true, recurses := true, apart := false, narrowed := true }
def SimobjNilUptoSaid : Prop := simobjNilUptoRow.holds Try.pinned (OpenSpec.upto simobjNilSpec)

/-- 'icehouselaw11.SimobjAtOnce', WHERE WHAT IT READS IS OF BULK AT MOST 1048576: true; the input reads as it did. -/
def simobjAtOnceUptoRow : OpenClaim := { program := "ytmefejfnddcelaa", sum := "2ba35e4f4b753b3f9de6ff367aadc2100aa58ccfbf8cc4360689047e9e9ca361", func := "icehouse/icehouselaw11.SimobjAtOnce", spec := "simobjAtOnce", unfollowed := true, recurses := true, apart := false, narrowed := true }
def SimobjAtOnceUptoSaid : Prop := simobjAtOnceUptoRow.holds Try.pinned (OpenSpec.upto simobjAtOnceSpec)

/-- 'icehouselaw11.SimobjLists', WHERE WHAT IT READS IS OF BULK AT MOST 1048576: true; the input reads as it did. -/
def simobjListsUptoRow : OpenClaim := { program := "ytmefejfnddcelaa", sum := "2ba35e4f4b753b3f9de6ff367aadc2100aa58ccfbf8cc4360689047e9e9ca361", func := "icehouse/icehouselaw11.SimobjLists", spec := "simobjLists", unfollowed := true, recurses := true, apart := false, narrowed := true }
def SimobjListsUptoSaid : Prop := simobjListsUptoRow.holds Try.pinned (OpenSpec.upto simobjListsSpec)

/-- 'icehouselaw10.SimdiskAll', WHERE WHAT IT READS IS OF BULK AT MOST 1048576: true; the input reads as it did. -/
def simdiskAllUptoRow : OpenClaim := { program := "ytmefejfnddcelaa", sum := "2ba35e4f4b753b3f9de6ff367aadc2100aa58ccfbf8cc4360689047e9e9ca361", func := "icehouse/icehouselaw10.SimdiskAll", spec := "simdiskAll", inPlace := ["maps.clone"], unfollowed := true, recurses := true, apart := false, narrowed := true }
def SimdiskAllUptoSaid : Prop := simdiskAllUptoRow.holds Try.pinned (OpenSpec.upto simdiskAllSpec)

/-- 'icehouselaw10.SimdiskSwaps', WHERE WHAT IT READS IS OF BULK AT MOST 1048576: true; the input reads as it did. -/
def simdiskSwapsUptoRow : OpenClaim := { program := "ytmefejfnddcelaa", sum := "2ba35e4f4b753b3f9de6ff367aadc2100aa58ccfbf8cc4360689047e9e9ca361", func := "icehouse/icehouselaw10.SimdiskSwaps", spec := "simdiskSwaps", inPlace := ["maps.clone"], unfollowed := true, recurses := true, apart := false, narrowed := true }
def SimdiskSwapsUptoSaid : Prop := simdiskSwapsUptoRow.holds Try.pinned (OpenSpec.upto simdiskSwapsSpec)

/-- 'icehouselaw10.SimdiskFaults', WHERE WHAT IT READS IS OF BULK AT MOST 1048576: true; the input reads as it did. -/
def simdiskFaultsUptoRow : OpenClaim := { program := "ytmefejfnddcelaa", sum := "2ba35e4f4b753b3f9de6ff367aadc2100aa58ccfbf8cc4360689047e9e9ca361", func := "icehouse/icehouselaw10.SimdiskFaults", spec := "simdiskFaults", inPlace := ["maps.clone"], unfollowed := true, recurses := true, apart := false, narrowed := true }
def SimdiskFaultsUptoSaid : Prop := simdiskFaultsUptoRow.holds Try.pinned (OpenSpec.upto simdiskFaultsSpec)

/-- 'icehouselaw10.SimdiskNil', WHERE WHAT IT READS IS OF BULK AT MOST 1048576: true; the input reads as it did. -/
def simdiskNilUptoRow : OpenClaim := { program := "ytmefejfnddcelaa", sum := "2ba35e4f4b753b3f9de6ff367aadc2100aa58ccfbf8cc4360689047e9e9ca361", func := "icehouse/icehouselaw10.SimdiskNil", spec := "simdiskNil", inPlace := ["maps.clone"], unfollowed := true, recurses := true, apart := false, narrowed := true }
def SimdiskNilUptoSaid : Prop := simdiskNilUptoRow.holds Try.pinned (OpenSpec.upto simdiskNilSpec)

/-- 'icehouselaw10.SimdiskSure', WHERE WHAT IT READS IS OF BULK AT MOST 1048576: true; the input reads as it did. -/
def simdiskSureUptoRow : OpenClaim := { program := "ytmefejfnddcelaa", sum := "2ba35e4f4b753b3f9de6ff367aadc2100aa58ccfbf8cc4360689047e9e9ca361", func := "icehouse/icehouselaw10.SimdiskSure", spec := "simdiskSure", inPlace := ["maps.clone"], unfollowed := true, recurses := true, apart := false, narrowed := true }
def SimdiskSureUptoSaid : Prop := simdiskSureUptoRow.holds Try.pinned (OpenSpec.upto simdiskSureSpec)

end Rows
end Go.Proofs.Ytmefejfnddcelaa
