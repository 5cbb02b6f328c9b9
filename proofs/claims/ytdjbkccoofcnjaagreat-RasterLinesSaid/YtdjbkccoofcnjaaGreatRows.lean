/-
  No cell of these rows narrows 'for every input' (looked for: loops, veiled, ifaces, maps, wideKeys, modest, calm, conditions, laid).
  DERIVED. THE GIVEN ROWS OF THIS SEAT. 8 by the template 'for every input the law returns true; each argument reads behind the call as it read before'; 0 by the template 'total and deterministic' (their statements: YtdjbkccoofcnjaaGreatTotals.lean).
  GIVEN WITH THE SEED: the statements are not yours to turn. If you find one false, say at which input.
  Laid BY PROGRAM, IN A SANDBOX (cutbox-rows.mjs): the forced cells as the released guide's own fill.sh prints them over the translation 4ea87b64911e830a… (all of the seat's roots in one cut). By AI agents, Wed Nov 11 2026. No macro, syntax, notation, axiom, sorry.
-/
import Derived.Test.YtdjbkccoofcnjaaGreatChecked
import GoSem.Claim
import GoSem.ClaimJoined
import GoSem.ClaimMapViews
import Derived.JoinedTies
import Derived.KernelRfl
namespace Go.Proofs.YtdjbkccoofcnjaaGreat
/- THE CELL 'sum', in the pinned program and in every row, IS THE sha256 OF THE DUMP (.gsa) THAT YtdjbkccoofcnjaaGreatProg.lean LOADS. Nothing in Lean hashes anything: it is a label: what it is worth is what the hold of that sum in a sandbox is worth. -/
noncomputable def Tryz.pinned : Pinned := { name := "ytdjbkccoofcnjaagreat", sum := "4ea87b64911e830a7ce418a92791017fcb2d387b8489593d02d249b34aa5de0e", checked := Tryz.checked }
namespace Rows
def none {H : Type} : Left H := { results := [], args := [] }

/-- 'narrowslaw30.RasterRefines': WHATEVER THE INPUT: true; the input reads as it did. -/
def rasterRefinesSpec : ChangeSpec := { name := "rasterRefines", fn := fun _ => fun
  | [d1, d2, d3, d4] => { results := [.lit (.bool true)], args := [d1, d2, d3, d4] }
  | _ => none }
def rasterRefinesRow : OpenClaim := { program := "ytdjbkccoofcnjaagreat", sum := "4ea87b64911e830a7ce418a92791017fcb2d387b8489593d02d249b34aa5de0e", func := "narrows/narrowslaw30.RasterRefines", spec := "rasterRefines", unfollowed := true, recurses := true, named := ["math/bits.overflowError"], apart := false }
def RasterRefinesSaid : Prop := rasterRefinesRow.holds Tryz.pinned (OpenSpec.ofChange rasterRefinesSpec)

/-- ITS FALSE NEIGHBOUR: 'it returns false'. Refute it at one input. -/
def rasterRefinesWrong : ChangeSpec := { name := "rasterRefines", fn := fun _ => fun
  | [d1, d2, d3, d4] => { results := [.lit (.bool false)], args := [d1, d2, d3, d4] }
  | _ => none }
def RasterRefinesWrongFalsely : Prop := rasterRefinesRow.holds Tryz.pinned (OpenSpec.ofChange rasterRefinesWrong)

/-- 'narrowslaw30.RasterPixels': WHATEVER THE INPUT: true; the input reads as it did. -/
def rasterPixelsSpec : ChangeSpec := { name := "rasterPixels", fn := fun _ => fun
  | [d1, d2, d3, d4, d5] => { results := [.lit (.bool true)], args := [d1, d2, d3, d4, d5] }
  | _ => none }
def rasterPixelsRow : OpenClaim := { program := "ytdjbkccoofcnjaagreat", sum := "4ea87b64911e830a7ce418a92791017fcb2d387b8489593d02d249b34aa5de0e", func := "narrows/narrowslaw30.RasterPixels", spec := "rasterPixels", unfollowed := true, recurses := true, named := ["math/bits.overflowError"], apart := false }
def RasterPixelsSaid : Prop := rasterPixelsRow.holds Tryz.pinned (OpenSpec.ofChange rasterPixelsSpec)

/-- ITS FALSE NEIGHBOUR: 'it returns false'. Refute it at one input. -/
def rasterPixelsWrong : ChangeSpec := { name := "rasterPixels", fn := fun _ => fun
  | [d1, d2, d3, d4, d5] => { results := [.lit (.bool false)], args := [d1, d2, d3, d4, d5] }
  | _ => none }
def RasterPixelsWrongFalsely : Prop := rasterPixelsRow.holds Tryz.pinned (OpenSpec.ofChange rasterPixelsWrong)

/-- 'narrowslaw30.RasterTouches': WHATEVER THE INPUT: true; the input reads as it did. -/
def rasterTouchesSpec : ChangeSpec := { name := "rasterTouches", fn := fun _ => fun
  | [d1, d2, d3, d4] => { results := [.lit (.bool true)], args := [d1, d2, d3, d4] }
  | _ => none }
def rasterTouchesRow : OpenClaim := { program := "ytdjbkccoofcnjaagreat", sum := "4ea87b64911e830a7ce418a92791017fcb2d387b8489593d02d249b34aa5de0e", func := "narrows/narrowslaw30.RasterTouches", spec := "rasterTouches", unfollowed := true, recurses := true, named := ["math/bits.overflowError"], apart := false }
def RasterTouchesSaid : Prop := rasterTouchesRow.holds Tryz.pinned (OpenSpec.ofChange rasterTouchesSpec)

/-- ITS FALSE NEIGHBOUR: 'it returns false'. Refute it at one input. -/
def rasterTouchesWrong : ChangeSpec := { name := "rasterTouches", fn := fun _ => fun
  | [d1, d2, d3, d4] => { results := [.lit (.bool false)], args := [d1, d2, d3, d4] }
  | _ => none }
def RasterTouchesWrongFalsely : Prop := rasterTouchesRow.holds Tryz.pinned (OpenSpec.ofChange rasterTouchesWrong)

/-- 'narrowslaw30.RasterCover': WHATEVER THE INPUT: true; the input reads as it did. -/
def rasterCoverSpec : ChangeSpec := { name := "rasterCover", fn := fun _ => fun
  | [d1, d2, d3, d4] => { results := [.lit (.bool true)], args := [d1, d2, d3, d4] }
  | _ => none }
def rasterCoverRow : OpenClaim := { program := "ytdjbkccoofcnjaagreat", sum := "4ea87b64911e830a7ce418a92791017fcb2d387b8489593d02d249b34aa5de0e", func := "narrows/narrowslaw30.RasterCover", spec := "rasterCover", unfollowed := true, recurses := true, named := ["math/bits.overflowError"], apart := false }
def RasterCoverSaid : Prop := rasterCoverRow.holds Tryz.pinned (OpenSpec.ofChange rasterCoverSpec)

/-- ITS FALSE NEIGHBOUR: 'it returns false'. Refute it at one input. -/
def rasterCoverWrong : ChangeSpec := { name := "rasterCover", fn := fun _ => fun
  | [d1, d2, d3, d4] => { results := [.lit (.bool false)], args := [d1, d2, d3, d4] }
  | _ => none }
def RasterCoverWrongFalsely : Prop := rasterCoverRow.holds Tryz.pinned (OpenSpec.ofChange rasterCoverWrong)

/-- 'narrowslaw30.RasterAreas': WHATEVER THE INPUT: true; the input reads as it did. -/
def rasterAreasSpec : ChangeSpec := { name := "rasterAreas", fn := fun _ => fun
  | [d1, d2, d3, d4] => { results := [.lit (.bool true)], args := [d1, d2, d3, d4] }
  | _ => none }
def rasterAreasRow : OpenClaim := { program := "ytdjbkccoofcnjaagreat", sum := "4ea87b64911e830a7ce418a92791017fcb2d387b8489593d02d249b34aa5de0e", func := "narrows/narrowslaw30.RasterAreas", spec := "rasterAreas", unfollowed := true, recurses := true, named := ["math/bits.overflowError"], apart := false }
def RasterAreasSaid : Prop := rasterAreasRow.holds Tryz.pinned (OpenSpec.ofChange rasterAreasSpec)

/-- ITS FALSE NEIGHBOUR: 'it returns false'. Refute it at one input. -/
def rasterAreasWrong : ChangeSpec := { name := "rasterAreas", fn := fun _ => fun
  | [d1, d2, d3, d4] => { results := [.lit (.bool false)], args := [d1, d2, d3, d4] }
  | _ => none }
def RasterAreasWrongFalsely : Prop := rasterAreasRow.holds Tryz.pinned (OpenSpec.ofChange rasterAreasWrong)

/-- 'narrowslaw30.RasterLines': WHATEVER THE INPUT: true; the input reads as it did. -/
def rasterLinesSpec : ChangeSpec := { name := "rasterLines", fn := fun _ => fun
  | [d1, d2, d3, d4, d5] => { results := [.lit (.bool true)], args := [d1, d2, d3, d4, d5] }
  | _ => none }
def rasterLinesRow : OpenClaim := { program := "ytdjbkccoofcnjaagreat", sum := "4ea87b64911e830a7ce418a92791017fcb2d387b8489593d02d249b34aa5de0e", func := "narrows/narrowslaw30.RasterLines", spec := "rasterLines", unfollowed := true, recurses := true, named := ["math/bits.overflowError"], apart := false }
def RasterLinesSaid : Prop := rasterLinesRow.holds Tryz.pinned (OpenSpec.ofChange rasterLinesSpec)

/-- ITS FALSE NEIGHBOUR: 'it returns false'. Refute it at one input. -/
def rasterLinesWrong : ChangeSpec := { name := "rasterLines", fn := fun _ => fun
  | [d1, d2, d3, d4, d5] => { results := [.lit (.bool false)], args := [d1, d2, d3, d4, d5] }
  | _ => none }
def RasterLinesWrongFalsely : Prop := rasterLinesRow.holds Tryz.pinned (OpenSpec.ofChange rasterLinesWrong)

/-- 'narrowslaw30.RasterMoves': WHATEVER THE INPUT: true; the input reads as it did. -/
def rasterMovesSpec : ChangeSpec := { name := "rasterMoves", fn := fun _ => fun
  | [d1, d2, d3, d4, d5] => { results := [.lit (.bool true)], args := [d1, d2, d3, d4, d5] }
  | _ => none }
def rasterMovesRow : OpenClaim := { program := "ytdjbkccoofcnjaagreat", sum := "4ea87b64911e830a7ce418a92791017fcb2d387b8489593d02d249b34aa5de0e", func := "narrows/narrowslaw30.RasterMoves", spec := "rasterMoves", unfollowed := true, recurses := true, named := ["math/bits.overflowError"], apart := false }
def RasterMovesSaid : Prop := rasterMovesRow.holds Tryz.pinned (OpenSpec.ofChange rasterMovesSpec)

/-- ITS FALSE NEIGHBOUR: 'it returns false'. Refute it at one input. -/
def rasterMovesWrong : ChangeSpec := { name := "rasterMoves", fn := fun _ => fun
  | [d1, d2, d3, d4, d5] => { results := [.lit (.bool false)], args := [d1, d2, d3, d4, d5] }
  | _ => none }
def RasterMovesWrongFalsely : Prop := rasterMovesRow.holds Tryz.pinned (OpenSpec.ofChange rasterMovesWrong)

/-- 'narrowslaw30.RasterScans': WHATEVER THE INPUT: true; the input reads as it did. -/
def rasterScansSpec : ChangeSpec := { name := "rasterScans", fn := fun _ => fun
  | [d1, d2] => { results := [.lit (.bool true)], args := [d1, d2] }
  | _ => none }
def rasterScansRow : OpenClaim := { program := "ytdjbkccoofcnjaagreat", sum := "4ea87b64911e830a7ce418a92791017fcb2d387b8489593d02d249b34aa5de0e", func := "narrows/narrowslaw30.RasterScans", spec := "rasterScans", unfollowed := true, recurses := true, named := ["math/bits.overflowError"], apart := false }
def RasterScansSaid : Prop := rasterScansRow.holds Tryz.pinned (OpenSpec.ofChange rasterScansSpec)

/-- ITS FALSE NEIGHBOUR: 'it returns false'. Refute it at one input. -/
def rasterScansWrong : ChangeSpec := { name := "rasterScans", fn := fun _ => fun
  | [d1, d2] => { results := [.lit (.bool false)], args := [d1, d2] }
  | _ => none }
def RasterScansWrongFalsely : Prop := rasterScansRow.holds Tryz.pinned (OpenSpec.ofChange rasterScansWrong)

/- THE SECOND FORM. 'bulk': how many values and letters a reading holds, each counted each time it is reached (what is shared counts as often as it is met; a slice's spare places count too). A statement '..UptoSaid' is the law's where the arguments, and the package variables that the reading takes, are together of bulk at most 1048576: NARROWER than '..Said'. Prove '..Said' where nothing that the law and all that it calls make is longer than what came in: it says more and counts as full. Else prove '..UptoSaid'. A law counts once. -/
mutual
def uptoBulk {H : Type} : DataW H → Nat
  | .lit (.string bytes) => bytes.length + 1
  | .lit _ => 1
  | .nil => 1
  | .ptr d => uptoBulk d + 1
  | .slice elems spare => uptoBulkAll elems + uptoBulkAll spare + 1
  | .agg parts => uptoBulkAll parts + 1
  | .iface _ d => uptoBulk d + 1
  | .map entries => uptoBulkEntries entries + 1
  | .held _ => 1
def uptoBulkAll {H : Type} : List (DataW H) → Nat
  | [] => 0
  | d :: r => uptoBulk d + uptoBulkAll r
def uptoBulkEntries {H : Type} : List (Lit × DataW H) → Nat
  | [] => 0
  | x :: r => uptoBulkEntry x + uptoBulkEntries r
def uptoBulkEntry {H : Type} : Lit × DataW H → Nat
  | (.string bytes, d) => bytes.length + uptoBulk d + 1
  | (_, d) => uptoBulk d + 1
 end
def uptoSmall : (H : Type) → List (DataW H) → Bool := fun _ ds => decide (uptoBulkAll ds ≤ 1048576)
def OpenSpec.upto (s : _root_.Go.ChangeSpec) : _root_.Go.OpenSpec := { _root_.Go.OpenSpec.ofChange s with cond := some uptoSmall }

/-- 'narrowslaw30.RasterRefines', WHERE WHAT IT READS IS OF BULK AT MOST 1048576: true; the input reads as it did. -/
def rasterRefinesUptoRow : OpenClaim := { program := "ytdjbkccoofcnjaagreat", sum := "4ea87b64911e830a7ce418a92791017fcb2d387b8489593d02d249b34aa5de0e", func := "narrows/narrowslaw30.RasterRefines", spec := "rasterRefines", unfollowed := true, recurses := true, named := ["math/bits.overflowError"], apart := false, narrowed := true }
def RasterRefinesUptoSaid : Prop := rasterRefinesUptoRow.holds Tryz.pinned (OpenSpec.upto rasterRefinesSpec)

/-- 'narrowslaw30.RasterPixels', WHERE WHAT IT READS IS OF BULK AT MOST 1048576: true; the input reads as it did. -/
def rasterPixelsUptoRow : OpenClaim := { program := "ytdjbkccoofcnjaagreat", sum := "4ea87b64911e830a7ce418a92791017fcb2d387b8489593d02d249b34aa5de0e", func := "narrows/narrowslaw30.RasterPixels", spec := "rasterPixels", unfollowed := true, recurses := true, named := ["math/bits.overflowError"], apart := false, narrowed := true }
def RasterPixelsUptoSaid : Prop := rasterPixelsUptoRow.holds Tryz.pinned (OpenSpec.upto rasterPixelsSpec)

/-- 'narrowslaw30.RasterTouches', WHERE WHAT IT READS IS OF BULK AT MOST 1048576: true; the input reads as it did. -/
def rasterTouchesUptoRow : OpenClaim := { program := "ytdjbkccoofcnjaagreat", sum := "4ea87b64911e830a7ce418a92791017fcb2d387b8489593d02d249b34aa5de0e", func := "narrows/narrowslaw30.RasterTouches", spec := "rasterTouches", unfollowed := true, recurses := true, named := ["math/bits.overflowError"], apart := false, narrowed := true }
def RasterTouchesUptoSaid : Prop := rasterTouchesUptoRow.holds Tryz.pinned (OpenSpec.upto rasterTouchesSpec)

/-- 'narrowslaw30.RasterCover', WHERE WHAT IT READS IS OF BULK AT MOST 1048576: true; the input reads as it did. -/
def rasterCoverUptoRow : OpenClaim := { program := "ytdjbkccoofcnjaagreat", sum := "4ea87b64911e830a7ce418a92791017fcb2d387b8489593d02d249b34aa5de0e", func := "narrows/narrowslaw30.RasterCover", spec := "rasterCover", unfollowed := true, recurses := true, named := ["math/bits.overflowError"], apart := false, narrowed := true }
def RasterCoverUptoSaid : Prop := rasterCoverUptoRow.holds Tryz.pinned (OpenSpec.upto rasterCoverSpec)

/-- 'narrowslaw30.RasterAreas', WHERE WHAT IT READS IS OF BULK AT MOST 1048576: true; the input reads as it did. -/
def rasterAreasUptoRow : OpenClaim := { program := "ytdjbkccoofcnjaagreat", sum := "4ea87b64911e830a7ce418a92791017fcb2d387b8489593d02d249b34aa5de0e", func := "narrows/narrowslaw30.RasterAreas", spec := "rasterAreas", unfollowed := true, recurses := true, named := ["math/bits.overflowError"], apart := false, narrowed := true }
def RasterAreasUptoSaid : Prop := rasterAreasUptoRow.holds Tryz.pinned (OpenSpec.upto rasterAreasSpec)

/-- 'narrowslaw30.RasterLines', WHERE WHAT IT READS IS OF BULK AT MOST 1048576: true; the input reads as it did. -/
def rasterLinesUptoRow : OpenClaim := { program := "ytdjbkccoofcnjaagreat", sum := "4ea87b64911e830a7ce418a92791017fcb2d387b8489593d02d249b34aa5de0e", func := "narrows/narrowslaw30.RasterLines", spec := "rasterLines", unfollowed := true, recurses := true, named := ["math/bits.overflowError"], apart := false, narrowed := true }
def RasterLinesUptoSaid : Prop := rasterLinesUptoRow.holds Tryz.pinned (OpenSpec.upto rasterLinesSpec)

/-- 'narrowslaw30.RasterMoves', WHERE WHAT IT READS IS OF BULK AT MOST 1048576: true; the input reads as it did. -/
def rasterMovesUptoRow : OpenClaim := { program := "ytdjbkccoofcnjaagreat", sum := "4ea87b64911e830a7ce418a92791017fcb2d387b8489593d02d249b34aa5de0e", func := "narrows/narrowslaw30.RasterMoves", spec := "rasterMoves", unfollowed := true, recurses := true, named := ["math/bits.overflowError"], apart := false, narrowed := true }
def RasterMovesUptoSaid : Prop := rasterMovesUptoRow.holds Tryz.pinned (OpenSpec.upto rasterMovesSpec)

/-- 'narrowslaw30.RasterScans', WHERE WHAT IT READS IS OF BULK AT MOST 1048576: true; the input reads as it did. -/
def rasterScansUptoRow : OpenClaim := { program := "ytdjbkccoofcnjaagreat", sum := "4ea87b64911e830a7ce418a92791017fcb2d387b8489593d02d249b34aa5de0e", func := "narrows/narrowslaw30.RasterScans", spec := "rasterScans", unfollowed := true, recurses := true, named := ["math/bits.overflowError"], apart := false, narrowed := true }
def RasterScansUptoSaid : Prop := rasterScansUptoRow.holds Tryz.pinned (OpenSpec.upto rasterScansSpec)

end Rows
end Go.Proofs.YtdjbkccoofcnjaaGreat
