/-
  NARROWER THAN 'FOR EVERY INPUT', by the rows' own cells (each row's printed sentence says how): ValueBack: loops · ValueFinds: loops · ContentBack: loops · ValueOrder: loops · MethodBack: loops · ContentCuts: loops.
  DERIVED. THE GIVEN ROWS OF THIS SEAT. 13 by the template 'for every input the law returns true; each argument reads behind the call as it read before'; 0 by the template 'total and deterministic' (their statements: YtaeainkfllfdfaaTotals.lean).
  GIVEN WITH THE SEED: the statements are not yours to turn. If you find one false, say at which input.
  Laid BY PROGRAM, IN A SANDBOX (cutbox-rows.mjs): the forced cells as the released guide's own fill.sh prints them over the translation 5125015f110b5f9e… (all of the seat's roots in one cut). By AI agents, Wed Nov 11 2026. No macro, syntax, notation, axiom, sorry.
-/
import Derived.Test.YtaeainkfllfdfaaChecked
import GoSem.Claim
import GoSem.ClaimJoined
import GoSem.ClaimMapViews
import Derived.JoinedTies
import Derived.KernelRfl
namespace Go.Proofs.Ytaeainkfllfdfaa
/- THE CELL 'sum', in the pinned program and in every row, IS THE sha256 OF THE DUMP (.gsa) THAT YtaeainkfllfdfaaProg.lean LOADS. Nothing in Lean hashes anything: it is a label: what it is worth is what the hold of that sum in a sandbox is worth. -/
noncomputable def Try.pinned : Pinned := { name := "ytaeainkfllfdfaa", sum := "5125015f110b5f9e8901a07f0e58c563dd1e09ee932a46529ffd43fdb01ab955", checked := Try.checked }
namespace Rows
def none {H : Type} : Left H := { results := [], args := [] }

/-- 'carrefourlaw3.ValueBack': WHATEVER THE INPUT: true; the input reads as it did. -/
def valueBackSpec : ChangeSpec := { name := "valueBack", fn := fun _ => fun
  | [d1, d2, d3] => { results := [.lit (.bool true)], args := [d1, d2, d3] }
  | _ => none }
def valueBackRow : OpenClaim := { program := "ytaeainkfllfdfaa", sum := "5125015f110b5f9e8901a07f0e58c563dd1e09ee932a46529ffd43fdb01ab955", func := "carrefour/carrefourlaw3.ValueBack", spec := "valueBack", inPlace := ["internal/bytealg.IndexByte"], unfollowed := true, recurses := true, loops := true, apart := false }
def ValueBackSaid : Prop := valueBackRow.holds Try.pinned (OpenSpec.ofChange valueBackSpec)

/-- ITS FALSE NEIGHBOUR: 'it returns false'. Refute it at one input. -/
def valueBackWrong : ChangeSpec := { name := "valueBack", fn := fun _ => fun
  | [d1, d2, d3] => { results := [.lit (.bool false)], args := [d1, d2, d3] }
  | _ => none }
def ValueBackWrongFalsely : Prop := valueBackRow.holds Try.pinned (OpenSpec.ofChange valueBackWrong)

/-- 'carrefourlaw3.ValueFinds': WHATEVER THE INPUT: true; the input reads as it did. -/
def valueFindsSpec : ChangeSpec := { name := "valueFinds", fn := fun _ => fun
  | [d1, d2] => { results := [.lit (.bool true)], args := [d1, d2] }
  | _ => none }
def valueFindsRow : OpenClaim := { program := "ytaeainkfllfdfaa", sum := "5125015f110b5f9e8901a07f0e58c563dd1e09ee932a46529ffd43fdb01ab955", func := "carrefour/carrefourlaw3.ValueFinds", spec := "valueFinds", inPlace := ["internal/bytealg.IndexByte"], unfollowed := true, recurses := true, loops := true, apart := false }
def ValueFindsSaid : Prop := valueFindsRow.holds Try.pinned (OpenSpec.ofChange valueFindsSpec)

/-- ITS FALSE NEIGHBOUR: 'it returns false'. Refute it at one input. -/
def valueFindsWrong : ChangeSpec := { name := "valueFinds", fn := fun _ => fun
  | [d1, d2] => { results := [.lit (.bool false)], args := [d1, d2] }
  | _ => none }
def ValueFindsWrongFalsely : Prop := valueFindsRow.holds Try.pinned (OpenSpec.ofChange valueFindsWrong)

/-- 'carrefourlaw3.ValueDeep': WHATEVER THE INPUT: true; the input reads as it did. -/
def valueDeepSpec : ChangeSpec := { name := "valueDeep", fn := fun _ => fun
  | [d1, d2] => { results := [.lit (.bool true)], args := [d1, d2] }
  | _ => none }
def valueDeepRow : OpenClaim := { program := "ytaeainkfllfdfaa", sum := "5125015f110b5f9e8901a07f0e58c563dd1e09ee932a46529ffd43fdb01ab955", func := "carrefour/carrefourlaw3.ValueDeep", spec := "valueDeep", inPlace := ["internal/bytealg.IndexByte"], unfollowed := true, recurses := true, apart := false }
def ValueDeepSaid : Prop := valueDeepRow.holds Try.pinned (OpenSpec.ofChange valueDeepSpec)

/-- ITS FALSE NEIGHBOUR: 'it returns false'. Refute it at one input. -/
def valueDeepWrong : ChangeSpec := { name := "valueDeep", fn := fun _ => fun
  | [d1, d2] => { results := [.lit (.bool false)], args := [d1, d2] }
  | _ => none }
def ValueDeepWrongFalsely : Prop := valueDeepRow.holds Try.pinned (OpenSpec.ofChange valueDeepWrong)

/-- 'carrefourlaw6.ContentBack': WHATEVER THE INPUT: true; the input reads as it did. -/
def contentBackSpec : ChangeSpec := { name := "contentBack", fn := fun _ => fun
  | [d1, d2, d3, d4, d5] => { results := [.lit (.bool true)], args := [d1, d2, d3, d4, d5] }
  | _ => none }
def contentBackRow : OpenClaim := { program := "ytaeainkfllfdfaa", sum := "5125015f110b5f9e8901a07f0e58c563dd1e09ee932a46529ffd43fdb01ab955", func := "carrefour/carrefourlaw6.ContentBack", spec := "contentBack", inPlace := ["internal/bytealg.IndexByteString", "internal/bytealg.IndexByte"], unfollowed := true, recurses := true, loops := true, apart := false }
def ContentBackSaid : Prop := contentBackRow.holds Try.pinned (OpenSpec.ofChange contentBackSpec)

/-- ITS FALSE NEIGHBOUR: 'it returns false'. Refute it at one input. -/
def contentBackWrong : ChangeSpec := { name := "contentBack", fn := fun _ => fun
  | [d1, d2, d3, d4, d5] => { results := [.lit (.bool false)], args := [d1, d2, d3, d4, d5] }
  | _ => none }
def ContentBackWrongFalsely : Prop := contentBackRow.holds Try.pinned (OpenSpec.ofChange contentBackWrong)

/-- 'carrefourlaw6.ContentSizes': WHATEVER THE INPUT: true; the input reads as it did. -/
def contentSizesSpec : ChangeSpec := { name := "contentSizes", fn := fun _ => fun
  | [d1, d2] => { results := [.lit (.bool true)], args := [d1, d2] }
  | _ => none }
def contentSizesRow : OpenClaim := { program := "ytaeainkfllfdfaa", sum := "5125015f110b5f9e8901a07f0e58c563dd1e09ee932a46529ffd43fdb01ab955", func := "carrefour/carrefourlaw6.ContentSizes", spec := "contentSizes", inPlace := ["internal/bytealg.IndexByteString", "internal/bytealg.IndexByte"], unfollowed := true, recurses := true, apart := false }
def ContentSizesSaid : Prop := contentSizesRow.holds Try.pinned (OpenSpec.ofChange contentSizesSpec)

/-- ITS FALSE NEIGHBOUR: 'it returns false'. Refute it at one input. -/
def contentSizesWrong : ChangeSpec := { name := "contentSizes", fn := fun _ => fun
  | [d1, d2] => { results := [.lit (.bool false)], args := [d1, d2] }
  | _ => none }
def ContentSizesWrongFalsely : Prop := contentSizesRow.holds Try.pinned (OpenSpec.ofChange contentSizesWrong)

/-- 'carrefourlaw3.ValueKinds': WHATEVER THE INPUT: true; the input reads as it did. -/
def valueKindsSpec : ChangeSpec := { name := "valueKinds", fn := fun _ => fun
  | [d1, d2, d3] => { results := [.lit (.bool true)], args := [d1, d2, d3] }
  | _ => none }
def valueKindsRow : OpenClaim := { program := "ytaeainkfllfdfaa", sum := "5125015f110b5f9e8901a07f0e58c563dd1e09ee932a46529ffd43fdb01ab955", func := "carrefour/carrefourlaw3.ValueKinds", spec := "valueKinds", inPlace := ["internal/bytealg.IndexByte"], unfollowed := true, recurses := true, apart := false }
def ValueKindsSaid : Prop := valueKindsRow.holds Try.pinned (OpenSpec.ofChange valueKindsSpec)

/-- ITS FALSE NEIGHBOUR: 'it returns false'. Refute it at one input. -/
def valueKindsWrong : ChangeSpec := { name := "valueKinds", fn := fun _ => fun
  | [d1, d2, d3] => { results := [.lit (.bool false)], args := [d1, d2, d3] }
  | _ => none }
def ValueKindsWrongFalsely : Prop := valueKindsRow.holds Try.pinned (OpenSpec.ofChange valueKindsWrong)

/-- 'carrefourlaw3.ValueOrder': WHATEVER THE INPUT: true; the input reads as it did. -/
def valueOrderSpec : ChangeSpec := { name := "valueOrder", fn := fun _ => fun
  | [d1, d2, d3] => { results := [.lit (.bool true)], args := [d1, d2, d3] }
  | _ => none }
def valueOrderRow : OpenClaim := { program := "ytaeainkfllfdfaa", sum := "5125015f110b5f9e8901a07f0e58c563dd1e09ee932a46529ffd43fdb01ab955", func := "carrefour/carrefourlaw3.ValueOrder", spec := "valueOrder", inPlace := ["internal/bytealg.IndexByte"], unfollowed := true, recurses := true, loops := true, apart := false }
def ValueOrderSaid : Prop := valueOrderRow.holds Try.pinned (OpenSpec.ofChange valueOrderSpec)

/-- ITS FALSE NEIGHBOUR: 'it returns false'. Refute it at one input. -/
def valueOrderWrong : ChangeSpec := { name := "valueOrder", fn := fun _ => fun
  | [d1, d2, d3] => { results := [.lit (.bool false)], args := [d1, d2, d3] }
  | _ => none }
def ValueOrderWrongFalsely : Prop := valueOrderRow.holds Try.pinned (OpenSpec.ofChange valueOrderWrong)

/-- 'carrefourlaw3.ValueLong': WHATEVER THE INPUT: true; the input reads as it did. -/
def valueLongSpec : ChangeSpec := { name := "valueLong", fn := fun _ => fun
  | [d] => { results := [.lit (.bool true)], args := [d] }
  | _ => none }
def valueLongRow : OpenClaim := { program := "ytaeainkfllfdfaa", sum := "5125015f110b5f9e8901a07f0e58c563dd1e09ee932a46529ffd43fdb01ab955", func := "carrefour/carrefourlaw3.ValueLong", spec := "valueLong", inPlace := ["internal/bytealg.IndexByte"], unfollowed := true, recurses := true, apart := false }
def ValueLongSaid : Prop := valueLongRow.holds Try.pinned (OpenSpec.ofChange valueLongSpec)

/-- ITS FALSE NEIGHBOUR: 'it returns false'. Refute it at one input. -/
def valueLongWrong : ChangeSpec := { name := "valueLong", fn := fun _ => fun
  | [d] => { results := [.lit (.bool false)], args := [d] }
  | _ => none }
def ValueLongWrongFalsely : Prop := valueLongRow.holds Try.pinned (OpenSpec.ofChange valueLongWrong)

/-- 'carrefourlaw5.MethodParts': WHATEVER THE INPUT: true; the input reads as it did. -/
def methodPartsSpec : ChangeSpec := { name := "methodParts", fn := fun _ => fun
  | [d1, d2] => { results := [.lit (.bool true)], args := [d1, d2] }
  | _ => none }
def methodPartsRow : OpenClaim := { program := "ytaeainkfllfdfaa", sum := "5125015f110b5f9e8901a07f0e58c563dd1e09ee932a46529ffd43fdb01ab955", func := "carrefour/carrefourlaw5.MethodParts", spec := "methodParts", inPlace := ["internal/bytealg.IndexByteString", "internal/bytealg.IndexByte"], unfollowed := true, recurses := true, apart := false }
def MethodPartsSaid : Prop := methodPartsRow.holds Try.pinned (OpenSpec.ofChange methodPartsSpec)

/-- ITS FALSE NEIGHBOUR: 'it returns false'. Refute it at one input. -/
def methodPartsWrong : ChangeSpec := { name := "methodParts", fn := fun _ => fun
  | [d1, d2] => { results := [.lit (.bool false)], args := [d1, d2] }
  | _ => none }
def MethodPartsWrongFalsely : Prop := methodPartsRow.holds Try.pinned (OpenSpec.ofChange methodPartsWrong)

/-- 'carrefourlaw5.MethodFlags': WHATEVER THE INPUT: true; the input reads as it did. -/
def methodFlagsSpec : ChangeSpec := { name := "methodFlags", fn := fun _ => fun
  | [d1, d2] => { results := [.lit (.bool true)], args := [d1, d2] }
  | _ => none }
def methodFlagsRow : OpenClaim := { program := "ytaeainkfllfdfaa", sum := "5125015f110b5f9e8901a07f0e58c563dd1e09ee932a46529ffd43fdb01ab955", func := "carrefour/carrefourlaw5.MethodFlags", spec := "methodFlags", inPlace := ["internal/bytealg.IndexByteString", "internal/bytealg.IndexByte"], unfollowed := true, recurses := true, apart := false }
def MethodFlagsSaid : Prop := methodFlagsRow.holds Try.pinned (OpenSpec.ofChange methodFlagsSpec)

/-- ITS FALSE NEIGHBOUR: 'it returns false'. Refute it at one input. -/
def methodFlagsWrong : ChangeSpec := { name := "methodFlags", fn := fun _ => fun
  | [d1, d2] => { results := [.lit (.bool false)], args := [d1, d2] }
  | _ => none }
def MethodFlagsWrongFalsely : Prop := methodFlagsRow.holds Try.pinned (OpenSpec.ofChange methodFlagsWrong)

/-- 'carrefourlaw5.MethodBack': WHATEVER THE INPUT: true; the input reads as it did. -/
def methodBackSpec : ChangeSpec := { name := "methodBack", fn := fun _ => fun
  | [d1, d2, d3] => { results := [.lit (.bool true)], args := [d1, d2, d3] }
  | _ => none }
def methodBackRow : OpenClaim := { program := "ytaeainkfllfdfaa", sum := "5125015f110b5f9e8901a07f0e58c563dd1e09ee932a46529ffd43fdb01ab955", func := "carrefour/carrefourlaw5.MethodBack", spec := "methodBack", inPlace := ["internal/bytealg.IndexByteString", "internal/bytealg.IndexByte"], unfollowed := true, recurses := true, loops := true, apart := false }
def MethodBackSaid : Prop := methodBackRow.holds Try.pinned (OpenSpec.ofChange methodBackSpec)

/-- ITS FALSE NEIGHBOUR: 'it returns false'. Refute it at one input. -/
def methodBackWrong : ChangeSpec := { name := "methodBack", fn := fun _ => fun
  | [d1, d2, d3] => { results := [.lit (.bool false)], args := [d1, d2, d3] }
  | _ => none }
def MethodBackWrongFalsely : Prop := methodBackRow.holds Try.pinned (OpenSpec.ofChange methodBackWrong)

/-- 'carrefourlaw5.MethodBounds': WHATEVER THE INPUT: true; the input reads as it did. -/
def methodBoundsSpec : ChangeSpec := { name := "methodBounds", fn := fun _ => fun
  | [d1, d2] => { results := [.lit (.bool true)], args := [d1, d2] }
  | _ => none }
def methodBoundsRow : OpenClaim := { program := "ytaeainkfllfdfaa", sum := "5125015f110b5f9e8901a07f0e58c563dd1e09ee932a46529ffd43fdb01ab955", func := "carrefour/carrefourlaw5.MethodBounds", spec := "methodBounds", inPlace := ["internal/bytealg.IndexByteString", "internal/bytealg.IndexByte"], unfollowed := true, recurses := true, apart := false }
def MethodBoundsSaid : Prop := methodBoundsRow.holds Try.pinned (OpenSpec.ofChange methodBoundsSpec)

/-- ITS FALSE NEIGHBOUR: 'it returns false'. Refute it at one input. -/
def methodBoundsWrong : ChangeSpec := { name := "methodBounds", fn := fun _ => fun
  | [d1, d2] => { results := [.lit (.bool false)], args := [d1, d2] }
  | _ => none }
def MethodBoundsWrongFalsely : Prop := methodBoundsRow.holds Try.pinned (OpenSpec.ofChange methodBoundsWrong)

/-- 'carrefourlaw6.ContentCuts': WHATEVER THE INPUT: true; the input reads as it did. -/
def contentCutsSpec : ChangeSpec := { name := "contentCuts", fn := fun _ => fun
  | [d1, d2, d3, d4, d5] => { results := [.lit (.bool true)], args := [d1, d2, d3, d4, d5] }
  | _ => none }
def contentCutsRow : OpenClaim := { program := "ytaeainkfllfdfaa", sum := "5125015f110b5f9e8901a07f0e58c563dd1e09ee932a46529ffd43fdb01ab955", func := "carrefour/carrefourlaw6.ContentCuts", spec := "contentCuts", inPlace := ["internal/bytealg.IndexByteString", "internal/bytealg.IndexByte"], unfollowed := true, recurses := true, loops := true, apart := false }
def ContentCutsSaid : Prop := contentCutsRow.holds Try.pinned (OpenSpec.ofChange contentCutsSpec)

/-- ITS FALSE NEIGHBOUR: 'it returns false'. Refute it at one input. -/
def contentCutsWrong : ChangeSpec := { name := "contentCuts", fn := fun _ => fun
  | [d1, d2, d3, d4, d5] => { results := [.lit (.bool false)], args := [d1, d2, d3, d4, d5] }
  | _ => none }
def ContentCutsWrongFalsely : Prop := contentCutsRow.holds Try.pinned (OpenSpec.ofChange contentCutsWrong)

/- THE SECOND FORM. 'bulk': how many values and letters a reading holds, each counted each time it is reached (what is shared counts as often as it is met; a slice's spare places count too). A statement '..UptoSaid' is the law's where the arguments, and the package variables that the reading takes, are together of bulk at most 1048576: NARROWER than '..Said'. Prove '..Said' where nothing that the law and all that it calls make is longer than what came in: it says more and counts as full. Else prove '..UptoSaid'. A law counts once. -/
mutual
def uptoBulk {H : Type} : DataW H → Nat
  | .lit (.string bytes) => bytes.length + 1
  | .lit _ => 1
  | .nil => 1
  | .ptr d => uptoBulk d + 1
  | .slice elems spare => uptoBulkAll elems + uptoBulkAll spare + 1
  | .agg parts => uptoBulkAll parts + 1
  | .iface _ d => uptoBulk d + 1
  | .map entries => uptoBulkEntries entries + 1
  | .held _ => 1
def uptoBulkAll {H : Type} : List (DataW H) → Nat
  | [] => 0
  | d :: r => uptoBulk d + uptoBulkAll r
def uptoBulkEntries {H : Type} : List (Lit × DataW H) → Nat
  | [] => 0
  | x :: r => uptoBulkEntry x + uptoBulkEntries r
def uptoBulkEntry {H : Type} : Lit × DataW H → Nat
  | (.string bytes, d) => bytes.length + uptoBulk d + 1
  | (_, d) => uptoBulk d + 1
 end
def uptoSmall : (H : Type) → List (DataW H) → Bool := fun _ ds => decide (uptoBulkAll ds ≤ 1048576)
def OpenSpec.upto (s : _root_.Go.ChangeSpec) : _root_.Go.OpenSpec := { _root_.Go.OpenSpec.ofChange s with cond := some uptoSmall }

/-- 'carrefourlaw3.ValueBack', WHERE WHAT IT READS IS OF BULK AT MOST 1048576: true; the input reads as it did. -/
def valueBackUptoRow : OpenClaim := { program := "ytaeainkfllfdfaa", sum := "5125015f110b5f9e8901a07f0e58c563dd1e09ee932a46529ffd43fdb01ab955", func := "carrefour/carrefourlaw3.ValueBack", spec := "valueBack", inPlace := ["internal/bytealg.IndexByte"], unfollowed := true, recurses := true, loops := true, apart := false, narrowed := true }
def ValueBackUptoSaid : Prop := valueBackUptoRow.holds Try.pinned (OpenSpec.upto valueBackSpec)

/-- 'carrefourlaw3.ValueFinds', WHERE WHAT IT READS IS OF BULK AT MOST 1048576: true; the input reads as it did. -/
def valueFindsUptoRow : OpenClaim := { program := "ytaeainkfllfdfaa", sum := "5125015f110b5f9e8901a07f0e58c563dd1e09ee932a46529ffd43fdb01ab955", func := "carrefour/carrefourlaw3.ValueFinds", spec := "valueFinds", inPlace := ["internal/bytealg.IndexByte"], unfollowed := true, recurses := true, loops := true, apart := false, narrowed := true }
def ValueFindsUptoSaid : Prop := valueFindsUptoRow.holds Try.pinned (OpenSpec.upto valueFindsSpec)

/-- 'carrefourlaw3.ValueDeep', WHERE WHAT IT READS IS OF BULK AT MOST 1048576: true; the input reads as it did. -/
def valueDeepUptoRow : OpenClaim := { program := "ytaeainkfllfdfaa", sum := "5125015f110b5f9e8901a07f0e58c563dd1e09ee932a46529ffd43fdb01ab955", func := "carrefour/carrefourlaw3.ValueDeep", spec := "valueDeep", inPlace := ["internal/bytealg.IndexByte"], unfollowed := true, recurses := true, apart := false, narrowed := true }
def ValueDeepUptoSaid : Prop := valueDeepUptoRow.holds Try.pinned (OpenSpec.upto valueDeepSpec)

/-- 'carrefourlaw6.ContentBack', WHERE WHAT IT READS IS OF BULK AT MOST 1048576: true; the input reads as it did. -/
def contentBackUptoRow : OpenClaim := { program := "ytaeainkfllfdfaa", sum := "5125015f110b5f9e8901a07f0e58c563dd1e09ee932a46529ffd43fdb01ab955", func := "carrefour/carrefourlaw6.ContentBack", spec := "contentBack", inPlace := ["internal/bytealg.IndexByteString", "internal/bytealg.IndexByte"], unfollowed := true, recurses := true, loops := true, apart := false, narrowed := true }
def ContentBackUptoSaid : Prop := contentBackUptoRow.holds Try.pinned (OpenSpec.upto contentBackSpec)

/-- 'carrefourlaw6.ContentSizes', WHERE WHAT IT READS IS OF BULK AT MOST 1048576: true; the input reads as it did. -/
def contentSizesUptoRow : OpenClaim := { program := "ytaeainkfllfdfaa", sum := "5125015f110b5f9e8901a07f0e58c563dd1e09ee932a46529ffd43fdb01ab955", func := "carrefour/carrefourlaw6.ContentSizes", spec := "contentSizes", inPlace := ["internal/bytealg.IndexByteString", "internal/bytealg.IndexByte"], unfollowed := true, recurses := true, apart := false, narrowed := true }
def ContentSizesUptoSaid : Prop := contentSizesUptoRow.holds Try.pinned (OpenSpec.upto contentSizesSpec)

/-- 'carrefourlaw3.ValueKinds', WHERE WHAT IT READS IS OF BULK AT MOST 1048576: true; the input reads as it did. -/
def valueKindsUptoRow : OpenClaim := { program := "ytaeainkfllfdfaa", sum := "5125015f110b5f9e8901a07f0e58c563dd1e09ee932a46529ffd43fdb01ab955", func := "carrefour/carrefourlaw3.ValueKinds", spec := "valueKinds", inPlace := ["internal/bytealg.IndexByte"], unfollowed := true, recurses := true, apart := false, narrowed := true }
def ValueKindsUptoSaid : Prop := valueKindsUptoRow.holds Try.pinned (OpenSpec.upto valueKindsSpec)

/-- 'carrefourlaw3.ValueOrder', WHERE WHAT IT READS IS OF BULK AT MOST 1048576: true; the input reads as it did. -/
def valueOrderUptoRow : OpenClaim := { program := "ytaeainkfllfdfaa", sum := "5125015f110b5f9e8901a07f0e58c563dd1e09ee932a46529ffd43fdb01ab955", func := "carrefour/carrefourlaw3.ValueOrder", spec := "valueOrder", inPlace := ["internal/bytealg.IndexByte"], unfollowed := true, recurses := true, loops := true, apart := false, narrowed := true }
def ValueOrderUptoSaid : Prop := valueOrderUptoRow.holds Try.pinned (OpenSpec.upto valueOrderSpec)

/-- 'carrefourlaw3.ValueLong', WHERE WHAT IT READS IS OF BULK AT MOST 1048576: true; the input reads as it did. -/
def valueLongUptoRow : OpenClaim := { program := "ytaeainkfllfdfaa", sum := "5125015f110b5f9e8901a07f0e58c563dd1e09ee932a46529ffd43fdb01ab955", func := "carrefour/carrefourlaw3.ValueLong", spec := "valueLong", inPlace := ["internal/bytealg.IndexByte"], unfollowed := true, recurses := true, apart := false, narrowed := true }
def ValueLongUptoSaid : Prop := valueLongUptoRow.holds Try.pinned (OpenSpec.upto valueLongSpec)

/-- 'carrefourlaw5.MethodParts', WHERE WHAT IT READS IS OF BULK AT MOST 1048576: true; the input reads as it did. -/
def methodPartsUptoRow : OpenClaim := { program := "ytaeainkfllfdfaa", sum := "5125015f110b5f9e8901a07f0e58c563dd1e09ee932a46529ffd43fdb01ab955", func := "carrefour/carrefourlaw5.MethodParts", spec := "methodParts", inPlace := ["internal/bytealg.IndexByteString", "internal/bytealg.IndexByte"], unfollowed := true, recurses := true, apart := false, narrowed := true }
def MethodPartsUptoSaid : Prop := methodPartsUptoRow.holds Try.pinned (OpenSpec.upto methodPartsSpec)

/-- 'carrefourlaw5.MethodFlags', WHERE WHAT IT READS IS OF BULK AT MOST 1048576: true; the input reads as it did. -/
def methodFlagsUptoRow : OpenClaim := { program := "ytaeainkfllfdfaa", sum := "5125015f110b5f9e8901a07f0e58c563dd1e09ee932a46529ffd43fdb01ab955", func := "carrefour/carrefourlaw5.MethodFlags", spec := "methodFlags", inPlace := ["internal/bytealg.IndexByteString", "internal/bytealg.IndexByte"], unfollowed := true, recurses := true, apart := false, narrowed := true }
def MethodFlagsUptoSaid : Prop := methodFlagsUptoRow.holds Try.pinned (OpenSpec.upto methodFlagsSpec)

/-- 'carrefourlaw5.MethodBack', WHERE WHAT IT READS IS OF BULK AT MOST 1048576: true; the input reads as it did. -/
def methodBackUptoRow : OpenClaim := { program := "ytaeainkfllfdfaa", sum := "5125015f110b5f9e8901a07f0e58c563dd1e09ee932a46529ffd43fdb01ab955", func := "carrefour/carrefourlaw5.MethodBack", spec := "methodBack", inPlace := ["internal/bytealg.IndexByteString", "internal/bytealg.IndexByte"], unfollowed := true, recurses := true, loops := true, apart := false, narrowed := true }
def MethodBackUptoSaid : Prop := methodBackUptoRow.holds Try.pinned (OpenSpec.upto methodBackSpec)

/-- 'carrefourlaw5.MethodBounds', WHERE WHAT IT READS IS OF BULK AT MOST 1048576: true; the input reads as it did. -/
def methodBoundsUptoRow : OpenClaim := { program := "ytaeainkfllfdfaa", sum := "5125015f110b5f9e8901a07f0e58c563dd1e09ee932a46529ffd43fdb01ab955", func := "carrefour/carrefourlaw5.MethodBounds", spec := "methodBounds", inPlace := ["internal/bytealg.IndexByteString", "internal/bytealg.IndexByte"], unfollowed := true, recurses := true, apart := false, narrowed := true }
def MethodBoundsUptoSaid : Prop := methodBoundsUptoRow.holds Try.pinned (OpenSpec.upto methodBoundsSpec)

/-- 'carrefourlaw6.ContentCuts', WHERE WHAT IT READS IS OF BULK AT MOST 1048576: true; the input reads as it did. -/
def contentCutsUptoRow : OpenClaim := { program := "ytaeainkfllfdfaa", sum := "5125015f110b5f9e8901a07f0e58c563dd1e09ee932a46529ffd43fdb01ab955", func := "carrefour/carrefourlaw6.ContentCuts", spec := "contentCuts", inPlace := ["internal/bytealg.IndexByteString", "internal/bytealg.IndexByte"], unfollowed := true, recurses := true, loops := true, apart := false, narrowed := true }
def ContentCutsUptoSaid : Prop := contentCutsUptoRow.holds Try.pinned (OpenSpec.upto contentCutsSpec)

end Rows
end Go.Proofs.Ytaeainkfllfdfaa
