/-
  No cell of these rows narrows 'for every input' (looked for: loops, veiled, ifaces, maps, wideKeys, modest, calm, conditions, laid).
  DERIVED. THE GIVEN ROWS OF THIS SEAT. 5 by the template 'for every input the law returns true; each argument reads behind the call as it read before'; 0 by the template 'total and deterministic' (their statements: YtkcogoibaodbeaaTotals.lean).
  GIVEN WITH THE SEED: the statements are not yours to turn. If you find one false, say at which input.
  Laid BY PROGRAM, IN A SANDBOX (cutbox-rows.mjs): the forced cells as the released guide's own fill.sh prints them over the translation 83d3aae3ecd6379b… (all of the seat's roots in one cut). By AI agents, Wed Nov 11 2026. No macro, syntax, notation, axiom, sorry.
-/
import Derived.Test.YtkcogoibaodbeaaChecked
import GoSem.Claim
import GoSem.ClaimJoined
import GoSem.ClaimMapViews
import Derived.JoinedTies
import Derived.KernelRfl
namespace Go.Proofs.Ytkcogoibaodbeaa
/- THE CELL 'sum', in the pinned program and in every row, IS THE sha256 OF THE DUMP (.gsa) THAT YtkcogoibaodbeaaProg.lean LOADS. Nothing in Lean hashes anything: it is a label: what it is worth is what the hold of that sum in a sandbox is worth. -/
noncomputable def Try.pinned : Pinned := { name := "ytkcogoibaodbeaa", sum := "83d3aae3ecd6379b8b6333449155f5fa340bb8c417bda7b5202d4ab9991a0027", checked := Try.checked }
namespace Rows
def none {H : Type} : Left H := { results := [], args := [] }

/-- 'intermedelaw02.FixedCuts': WHATEVER THE INPUT: true; the input reads as it did. -/
def fixedCutsSpec : ChangeSpec := { name := "fixedCuts", fn := fun _ => fun
  | [d1, d2, d3] => { results := [.lit (.bool true)], args := [d1, d2, d3] }
  | _ => none }
def fixedCutsRow : OpenClaim := { program := "ytkcogoibaodbeaa", sum := "83d3aae3ecd6379b8b6333449155f5fa340bb8c417bda7b5202d4ab9991a0027", func := "intermede/intermedelaw02.FixedCuts", spec := "fixedCuts", inPlace := ["internal/bytealg.IndexByteString", "internal/bytealg.IndexString", "internal/abi.NoEscape"], unfollowed := true, recurses := true, named := ["internal/bytealg.MaxLen"], apart := false }
def FixedCutsSaid : Prop := fixedCutsRow.holds Try.pinned (OpenSpec.ofChange fixedCutsSpec)

/-- ITS FALSE NEIGHBOUR: 'it returns false'. Refute it at one input. -/
def fixedCutsWrong : ChangeSpec := { name := "fixedCuts", fn := fun _ => fun
  | [d1, d2, d3] => { results := [.lit (.bool false)], args := [d1, d2, d3] }
  | _ => none }
def FixedCutsWrongFalsely : Prop := fixedCutsRow.holds Try.pinned (OpenSpec.ofChange fixedCutsWrong)

/-- 'intermedelaw02.FixedPacks': WHATEVER THE INPUT: true; the input reads as it did. -/
def fixedPacksSpec : ChangeSpec := { name := "fixedPacks", fn := fun _ => fun
  | [d1, d2, d3, d4] => { results := [.lit (.bool true)], args := [d1, d2, d3, d4] }
  | _ => none }
def fixedPacksRow : OpenClaim := { program := "ytkcogoibaodbeaa", sum := "83d3aae3ecd6379b8b6333449155f5fa340bb8c417bda7b5202d4ab9991a0027", func := "intermede/intermedelaw02.FixedPacks", spec := "fixedPacks", inPlace := ["internal/bytealg.IndexByteString", "internal/bytealg.IndexString", "internal/abi.NoEscape"], unfollowed := true, recurses := true, named := ["internal/bytealg.MaxLen"], apart := false }
def FixedPacksSaid : Prop := fixedPacksRow.holds Try.pinned (OpenSpec.ofChange fixedPacksSpec)

/-- ITS FALSE NEIGHBOUR: 'it returns false'. Refute it at one input. -/
def fixedPacksWrong : ChangeSpec := { name := "fixedPacks", fn := fun _ => fun
  | [d1, d2, d3, d4] => { results := [.lit (.bool false)], args := [d1, d2, d3, d4] }
  | _ => none }
def FixedPacksWrongFalsely : Prop := fixedPacksRow.holds Try.pinned (OpenSpec.ofChange fixedPacksWrong)

/-- 'intermedelaw02.FixedTwo': WHATEVER THE INPUT: true; the input reads as it did. -/
def fixedTwoSpec : ChangeSpec := { name := "fixedTwo", fn := fun _ => fun
  | [d1, d2, d3] => { results := [.lit (.bool true)], args := [d1, d2, d3] }
  | _ => none }
def fixedTwoRow : OpenClaim := { program := "ytkcogoibaodbeaa", sum := "83d3aae3ecd6379b8b6333449155f5fa340bb8c417bda7b5202d4ab9991a0027", func := "intermede/intermedelaw02.FixedTwo", spec := "fixedTwo", inPlace := ["internal/bytealg.IndexByteString", "internal/bytealg.IndexString", "internal/abi.NoEscape"], unfollowed := true, recurses := true, named := ["internal/bytealg.MaxLen"], apart := false }
def FixedTwoSaid : Prop := fixedTwoRow.holds Try.pinned (OpenSpec.ofChange fixedTwoSpec)

/-- ITS FALSE NEIGHBOUR: 'it returns false'. Refute it at one input. -/
def fixedTwoWrong : ChangeSpec := { name := "fixedTwo", fn := fun _ => fun
  | [d1, d2, d3] => { results := [.lit (.bool false)], args := [d1, d2, d3] }
  | _ => none }
def FixedTwoWrongFalsely : Prop := fixedTwoRow.holds Try.pinned (OpenSpec.ofChange fixedTwoWrong)

/-- 'intermedelaw02.FixedExact': WHATEVER THE INPUT: true; the input reads as it did. -/
def fixedExactSpec : ChangeSpec := { name := "fixedExact", fn := fun _ => fun
  | [d1, d2, d3, d4] => { results := [.lit (.bool true)], args := [d1, d2, d3, d4] }
  | _ => none }
def fixedExactRow : OpenClaim := { program := "ytkcogoibaodbeaa", sum := "83d3aae3ecd6379b8b6333449155f5fa340bb8c417bda7b5202d4ab9991a0027", func := "intermede/intermedelaw02.FixedExact", spec := "fixedExact", inPlace := ["internal/abi.NoEscape", "internal/bytealg.IndexByteString", "internal/bytealg.IndexString"], unfollowed := true, recurses := true, named := ["internal/bytealg.MaxLen"], apart := false }
def FixedExactSaid : Prop := fixedExactRow.holds Try.pinned (OpenSpec.ofChange fixedExactSpec)

/-- ITS FALSE NEIGHBOUR: 'it returns false'. Refute it at one input. -/
def fixedExactWrong : ChangeSpec := { name := "fixedExact", fn := fun _ => fun
  | [d1, d2, d3, d4] => { results := [.lit (.bool false)], args := [d1, d2, d3, d4] }
  | _ => none }
def FixedExactWrongFalsely : Prop := fixedExactRow.holds Try.pinned (OpenSpec.ofChange fixedExactWrong)

/-- 'intermedelaw02.FixedDivides': WHATEVER THE INPUT: true; the input reads as it did. -/
def fixedDividesSpec : ChangeSpec := { name := "fixedDivides", fn := fun _ => fun
  | [d1, d2, d3, d4] => { results := [.lit (.bool true)], args := [d1, d2, d3, d4] }
  | _ => none }
def fixedDividesRow : OpenClaim := { program := "ytkcogoibaodbeaa", sum := "83d3aae3ecd6379b8b6333449155f5fa340bb8c417bda7b5202d4ab9991a0027", func := "intermede/intermedelaw02.FixedDivides", spec := "fixedDivides", inPlace := ["internal/abi.NoEscape", "internal/bytealg.IndexByteString", "internal/bytealg.IndexString"], unfollowed := true, recurses := true, named := ["internal/bytealg.MaxLen"], apart := false }
def FixedDividesSaid : Prop := fixedDividesRow.holds Try.pinned (OpenSpec.ofChange fixedDividesSpec)

/-- ITS FALSE NEIGHBOUR: 'it returns false'. Refute it at one input. -/
def fixedDividesWrong : ChangeSpec := { name := "fixedDivides", fn := fun _ => fun
  | [d1, d2, d3, d4] => { results := [.lit (.bool false)], args := [d1, d2, d3, d4] }
  | _ => none }
def FixedDividesWrongFalsely : Prop := fixedDividesRow.holds Try.pinned (OpenSpec.ofChange fixedDividesWrong)

/- THE SECOND FORM. 'bulk': how many values and letters a reading holds, each counted each time it is reached (what is shared counts as often as it is met; a slice's spare places count too). A statement '..UptoSaid' is the law's where the arguments, and the package variables that the reading takes, are together of bulk at most 1048576: NARROWER than '..Said'. Prove '..Said' where nothing that the law and all that it calls make is longer than what came in: it says more and counts as full. Else prove '..UptoSaid'. A law counts once. -/
mutual
def uptoBulk {H : Type} : DataW H → Nat
  | .lit (.string bytes) => bytes.length + 1
  | .lit _ => 1
  | .nil => 1
  | .ptr d => uptoBulk d + 1
  | .slice elems spare => uptoBulkAll elems + uptoBulkAll spare + 1
  | .agg parts => uptoBulkAll parts + 1
  | .iface _ d => uptoBulk d + 1
  | .map entries => uptoBulkEntries entries + 1
  | .held _ => 1
def uptoBulkAll {H : Type} : List (DataW H) → Nat
  | [] => 0
  | d :: r => uptoBulk d + uptoBulkAll r
def uptoBulkEntries {H : Type} : List (Lit × DataW H) → Nat
  | [] => 0
  | x :: r => uptoBulkEntry x + uptoBulkEntries r
def uptoBulkEntry {H : Type} : Lit × DataW H → Nat
  | (.string bytes, d) => bytes.length + uptoBulk d + 1
  | (_, d) => uptoBulk d + 1
 end
def uptoSmall : (H : Type) → List (DataW H) → Bool := fun _ ds => decide (uptoBulkAll ds ≤ 1048576)
def OpenSpec.upto (s : _root_.Go.ChangeSpec) : _root_.Go.OpenSpec := { _root_.Go.OpenSpec.ofChange s with cond := some uptoSmall }

/-- 'intermedelaw02.FixedCuts', WHERE WHAT IT READS IS OF BULK AT MOST 1048576: true; the input reads as it did. -/
def fixedCutsUptoRow : OpenClaim := { program := "ytkcogoibaodbeaa", sum := "83d3aae3ecd6379b8b6333449155f5fa340bb8c417bda7b5202d4ab9991a0027", func := "intermede/intermedelaw02.FixedCuts", spec := "fixedCuts", inPlace := ["internal/bytealg.IndexByteString", "internal/bytealg.IndexString", "internal/abi.NoEscape"], unfollowed := true, recurses := true, named := ["internal/bytealg.MaxLen"], apart := false, narrowed := true }
def FixedCutsUptoSaid : Prop := fixedCutsUptoRow.holds Try.pinned (OpenSpec.upto fixedCutsSpec)

/-- 'intermedelaw02.FixedPacks', WHERE WHAT IT READS IS OF BULK AT MOST 1048576: true; the input reads as it did. -/
def fixedPacksUptoRow : OpenClaim := { program := "ytkcogoibaodbeaa", sum := "83d3aae3ecd6379b8b6333449155f5fa340bb8c417bda7b5202d4ab9991a0027", func := "intermede/intermedelaw02.FixedPacks", spec := "fixedPacks", inPlace := ["internal/bytealg.IndexByteString", "internal/bytealg.IndexString", "internal/abi.NoEscape"], unfollowed := true, recurses := true, named := ["internal/bytealg.MaxLen"], apart := false, narrowed := true }
def FixedPacksUptoSaid : Prop := fixedPacksUptoRow.holds Try.pinned (OpenSpec.upto fixedPacksSpec)

/-- 'intermedelaw02.FixedTwo', WHERE WHAT IT READS IS OF BULK AT MOST 1048576: true; the input reads as it did. -/
def fixedTwoUptoRow : OpenClaim := { program := "ytkcogoibaodbeaa", sum := "83d3aae3ecd6379b8b6333449155f5fa340bb8c417bda7b5202d4ab9991a0027", func := "intermede/intermedelaw02.FixedTwo", spec := "fixedTwo", inPlace := ["internal/bytealg.IndexByteString", "internal/bytealg.IndexString", "internal/abi.NoEscape"], unfollowed := true, recurses := true, named := ["internal/bytealg.MaxLen"], apart := false, narrowed := true }
def FixedTwoUptoSaid : Prop := fixedTwoUptoRow.holds Try.pinned (OpenSpec.upto fixedTwoSpec)

/-- 'intermedelaw02.FixedExact', WHERE WHAT IT READS IS OF BULK AT MOST 1048576: true; the input reads as it did. -/
def fixedExactUptoRow : OpenClaim := { program := "ytkcogoibaodbeaa", sum := "83d3aae3ecd6379b8b6333449155f5fa340bb8c417bda7b5202d4ab9991a0027", func := "intermede/intermedelaw02.FixedExact", spec := "fixedExact", inPlace := ["internal/abi.NoEscape", "internal/bytealg.IndexByteString", "internal/bytealg.IndexString"], unfollowed := true, recurses := true, named := ["internal/bytealg.MaxLen"], apart := false, narrowed := true }
def FixedExactUptoSaid : Prop := fixedExactUptoRow.holds Try.pinned (OpenSpec.upto fixedExactSpec)

/-- 'intermedelaw02.FixedDivides', WHERE WHAT IT READS IS OF BULK AT MOST 1048576: true; the input reads as it did. -/
def fixedDividesUptoRow : OpenClaim := { program := "ytkcogoibaodbeaa", sum := "83d3aae3ecd6379b8b6333449155f5fa340bb8c417bda7b5202d4ab9991a0027", func := "intermede/intermedelaw02.FixedDivides", spec := "fixedDivides", inPlace := ["internal/abi.NoEscape", "internal/bytealg.IndexByteString", "internal/bytealg.IndexString"], unfollowed := true, recurses := true, named := ["internal/bytealg.MaxLen"], apart := false, narrowed := true }
def FixedDividesUptoSaid : Prop := fixedDividesUptoRow.holds Try.pinned (OpenSpec.upto fixedDividesSpec)

end Rows
end Go.Proofs.Ytkcogoibaodbeaa
