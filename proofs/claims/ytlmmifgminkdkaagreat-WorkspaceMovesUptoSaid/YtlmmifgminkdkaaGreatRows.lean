/-
  No cell of these rows narrows 'for every input' (looked for: loops, veiled, ifaces, maps, wideKeys, modest, calm, conditions, laid).
  DERIVED. THE GIVEN ROWS OF THIS SEAT. 8 by the template 'for every input the law returns true; each argument reads behind the call as it read before'; 0 by the template 'total and deterministic' (their statements: YtlmmifgminkdkaaGreatTotals.lean).
  GIVEN WITH THE SEED: the statements are not yours to turn. If you find one false, say at which input.
  Laid BY PROGRAM, IN A SANDBOX (cutbox-rows.mjs): the forced cells as the released guide's own fill.sh prints them over the translation 151eb5505a284962… (all of the seat's roots in one cut). By AI agents, Wed Nov 11 2026. No macro, syntax, notation, axiom, sorry.
-/
import Derived.Test.YtlmmifgminkdkaaGreatChecked
import GoSem.Claim
import GoSem.ClaimJoined
import GoSem.ClaimMapViews
import Derived.JoinedTies
import Derived.KernelRfl
namespace Go.Proofs.YtlmmifgminkdkaaGreat
/- THE CELL 'sum', in the pinned program and in every row, IS THE sha256 OF THE DUMP (.gsa) THAT YtlmmifgminkdkaaGreatProg.lean LOADS. Nothing in Lean hashes anything: it is a label: what it is worth is what the hold of that sum in a sandbox is worth. -/
noncomputable def Tryz.pinned : Pinned := { name := "ytlmmifgminkdkaagreat", sum := "151eb5505a284962db8760ba662f71e68df7abe470a56e2e51333d7fb202b38e", checked := Tryz.checked }
namespace Rows
def none {H : Type} : Left H := { results := [], args := [] }

/-- 'narrowslaw32.WorkspaceOpen': WHATEVER THE INPUT: true; the input reads as it did. -/
def workspaceOpenSpec : ChangeSpec := { name := "workspaceOpen", fn := fun _ => fun
  | [d] => { results := [.lit (.bool true)], args := [d] }
  | _ => none }
def workspaceOpenRow : OpenClaim := { program := "ytlmmifgminkdkaagreat", sum := "151eb5505a284962db8760ba662f71e68df7abe470a56e2e51333d7fb202b38e", func := "narrows/narrowslaw32.WorkspaceOpen", spec := "workspaceOpen", unfollowed := true, recurses := true, named := ["math/bits.overflowError"], plainKeys := false, apart := false }
def WorkspaceOpenSaid : Prop := workspaceOpenRow.holds Tryz.pinned (OpenSpec.ofChange workspaceOpenSpec)

/-- ITS FALSE NEIGHBOUR: 'it returns false'. Refute it at one input. -/
def workspaceOpenWrong : ChangeSpec := { name := "workspaceOpen", fn := fun _ => fun
  | [d] => { results := [.lit (.bool false)], args := [d] }
  | _ => none }
def WorkspaceOpenWrongFalsely : Prop := workspaceOpenRow.holds Tryz.pinned (OpenSpec.ofChange workspaceOpenWrong)

/-- 'narrowslaw32.WorkspaceUndoes': WHATEVER THE INPUT: true; the input reads as it did. -/
def workspaceUndoesSpec : ChangeSpec := { name := "workspaceUndoes", fn := fun _ => fun
  | [d1, d2] => { results := [.lit (.bool true)], args := [d1, d2] }
  | _ => none }
def workspaceUndoesRow : OpenClaim := { program := "ytlmmifgminkdkaagreat", sum := "151eb5505a284962db8760ba662f71e68df7abe470a56e2e51333d7fb202b38e", func := "narrows/narrowslaw32.WorkspaceUndoes", spec := "workspaceUndoes", unfollowed := true, recurses := true, named := ["math/bits.overflowError"], plainKeys := false, apart := false }
def WorkspaceUndoesSaid : Prop := workspaceUndoesRow.holds Tryz.pinned (OpenSpec.ofChange workspaceUndoesSpec)

/-- ITS FALSE NEIGHBOUR: 'it returns false'. Refute it at one input. -/
def workspaceUndoesWrong : ChangeSpec := { name := "workspaceUndoes", fn := fun _ => fun
  | [d1, d2] => { results := [.lit (.bool false)], args := [d1, d2] }
  | _ => none }
def WorkspaceUndoesWrongFalsely : Prop := workspaceUndoesRow.holds Tryz.pinned (OpenSpec.ofChange workspaceUndoesWrong)

/-- 'narrowslaw32.WorkspaceMoves': WHATEVER THE INPUT: true; the input reads as it did. -/
def workspaceMovesSpec : ChangeSpec := { name := "workspaceMoves", fn := fun _ => fun
  | [d1, d2] => { results := [.lit (.bool true)], args := [d1, d2] }
  | _ => none }
def workspaceMovesRow : OpenClaim := { program := "ytlmmifgminkdkaagreat", sum := "151eb5505a284962db8760ba662f71e68df7abe470a56e2e51333d7fb202b38e", func := "narrows/narrowslaw32.WorkspaceMoves", spec := "workspaceMoves", unfollowed := true, recurses := true, named := ["math/bits.overflowError"], plainKeys := false, apart := false }
def WorkspaceMovesSaid : Prop := workspaceMovesRow.holds Tryz.pinned (OpenSpec.ofChange workspaceMovesSpec)

/-- ITS FALSE NEIGHBOUR: 'it returns false'. Refute it at one input. -/
def workspaceMovesWrong : ChangeSpec := { name := "workspaceMoves", fn := fun _ => fun
  | [d1, d2] => { results := [.lit (.bool false)], args := [d1, d2] }
  | _ => none }
def WorkspaceMovesWrongFalsely : Prop := workspaceMovesRow.holds Tryz.pinned (OpenSpec.ofChange workspaceMovesWrong)

/-- 'narrowslaw32.WorkspaceShifts': WHATEVER THE INPUT: true; the input reads as it did. -/
def workspaceShiftsSpec : ChangeSpec := { name := "workspaceShifts", fn := fun _ => fun
  | [d1, d2, d3, d4] => { results := [.lit (.bool true)], args := [d1, d2, d3, d4] }
  | _ => none }
def workspaceShiftsRow : OpenClaim := { program := "ytlmmifgminkdkaagreat", sum := "151eb5505a284962db8760ba662f71e68df7abe470a56e2e51333d7fb202b38e", func := "narrows/narrowslaw32.WorkspaceShifts", spec := "workspaceShifts", unfollowed := true, recurses := true, named := ["math/bits.overflowError"], plainKeys := false, apart := false }
def WorkspaceShiftsSaid : Prop := workspaceShiftsRow.holds Tryz.pinned (OpenSpec.ofChange workspaceShiftsSpec)

/-- ITS FALSE NEIGHBOUR: 'it returns false'. Refute it at one input. -/
def workspaceShiftsWrong : ChangeSpec := { name := "workspaceShifts", fn := fun _ => fun
  | [d1, d2, d3, d4] => { results := [.lit (.bool false)], args := [d1, d2, d3, d4] }
  | _ => none }
def WorkspaceShiftsWrongFalsely : Prop := workspaceShiftsRow.holds Tryz.pinned (OpenSpec.ofChange workspaceShiftsWrong)

/-- 'narrowslaw32.WorkspaceQueries': WHATEVER THE INPUT: true; the input reads as it did. -/
def workspaceQueriesSpec : ChangeSpec := { name := "workspaceQueries", fn := fun _ => fun
  | [d1, d2] => { results := [.lit (.bool true)], args := [d1, d2] }
  | _ => none }
def workspaceQueriesRow : OpenClaim := { program := "ytlmmifgminkdkaagreat", sum := "151eb5505a284962db8760ba662f71e68df7abe470a56e2e51333d7fb202b38e", func := "narrows/narrowslaw32.WorkspaceQueries", spec := "workspaceQueries", unfollowed := true, recurses := true, named := ["math/bits.overflowError"], plainKeys := false, apart := false }
def WorkspaceQueriesSaid : Prop := workspaceQueriesRow.holds Tryz.pinned (OpenSpec.ofChange workspaceQueriesSpec)

/-- ITS FALSE NEIGHBOUR: 'it returns false'. Refute it at one input. -/
def workspaceQueriesWrong : ChangeSpec := { name := "workspaceQueries", fn := fun _ => fun
  | [d1, d2] => { results := [.lit (.bool false)], args := [d1, d2] }
  | _ => none }
def WorkspaceQueriesWrongFalsely : Prop := workspaceQueriesRow.holds Tryz.pinned (OpenSpec.ofChange workspaceQueriesWrong)

/-- 'narrowslaw32.WorkspaceEdits': WHATEVER THE INPUT: true; the input reads as it did. -/
def workspaceEditsSpec : ChangeSpec := { name := "workspaceEdits", fn := fun _ => fun
  | [d1, d2, d3, d4, d5] => { results := [.lit (.bool true)], args := [d1, d2, d3, d4, d5] }
  | _ => none }
def workspaceEditsRow : OpenClaim := { program := "ytlmmifgminkdkaagreat", sum := "151eb5505a284962db8760ba662f71e68df7abe470a56e2e51333d7fb202b38e", func := "narrows/narrowslaw32.WorkspaceEdits", spec := "workspaceEdits", unfollowed := true, recurses := true, named := ["math/bits.overflowError"], plainKeys := false, apart := false }
def WorkspaceEditsSaid : Prop := workspaceEditsRow.holds Tryz.pinned (OpenSpec.ofChange workspaceEditsSpec)

/-- ITS FALSE NEIGHBOUR: 'it returns false'. Refute it at one input. -/
def workspaceEditsWrong : ChangeSpec := { name := "workspaceEdits", fn := fun _ => fun
  | [d1, d2, d3, d4, d5] => { results := [.lit (.bool false)], args := [d1, d2, d3, d4, d5] }
  | _ => none }
def WorkspaceEditsWrongFalsely : Prop := workspaceEditsRow.holds Tryz.pinned (OpenSpec.ofChange workspaceEditsWrong)

/-- 'narrowslaw32.WorkspacePieces': WHATEVER THE INPUT: true; the input reads as it did. -/
def workspacePiecesSpec : ChangeSpec := { name := "workspacePieces", fn := fun _ => fun
  | [d] => { results := [.lit (.bool true)], args := [d] }
  | _ => none }
def workspacePiecesRow : OpenClaim := { program := "ytlmmifgminkdkaagreat", sum := "151eb5505a284962db8760ba662f71e68df7abe470a56e2e51333d7fb202b38e", func := "narrows/narrowslaw32.WorkspacePieces", spec := "workspacePieces", unfollowed := true, recurses := true, named := ["math/bits.overflowError"], plainKeys := false, apart := false }
def WorkspacePiecesSaid : Prop := workspacePiecesRow.holds Tryz.pinned (OpenSpec.ofChange workspacePiecesSpec)

/-- ITS FALSE NEIGHBOUR: 'it returns false'. Refute it at one input. -/
def workspacePiecesWrong : ChangeSpec := { name := "workspacePieces", fn := fun _ => fun
  | [d] => { results := [.lit (.bool false)], args := [d] }
  | _ => none }
def WorkspacePiecesWrongFalsely : Prop := workspacePiecesRow.holds Tryz.pinned (OpenSpec.ofChange workspacePiecesWrong)

/-- 'narrowslaw32.WorkspaceHits': WHATEVER THE INPUT: true; the input reads as it did. -/
def workspaceHitsSpec : ChangeSpec := { name := "workspaceHits", fn := fun _ => fun
  | [d1, d2] => { results := [.lit (.bool true)], args := [d1, d2] }
  | _ => none }
def workspaceHitsRow : OpenClaim := { program := "ytlmmifgminkdkaagreat", sum := "151eb5505a284962db8760ba662f71e68df7abe470a56e2e51333d7fb202b38e", func := "narrows/narrowslaw32.WorkspaceHits", spec := "workspaceHits", unfollowed := true, recurses := true, named := ["math/bits.overflowError"], plainKeys := false, apart := false }
def WorkspaceHitsSaid : Prop := workspaceHitsRow.holds Tryz.pinned (OpenSpec.ofChange workspaceHitsSpec)

/-- ITS FALSE NEIGHBOUR: 'it returns false'. Refute it at one input. -/
def workspaceHitsWrong : ChangeSpec := { name := "workspaceHits", fn := fun _ => fun
  | [d1, d2] => { results := [.lit (.bool false)], args := [d1, d2] }
  | _ => none }
def WorkspaceHitsWrongFalsely : Prop := workspaceHitsRow.holds Tryz.pinned (OpenSpec.ofChange workspaceHitsWrong)

/- THE SECOND FORM. 'bulk': how many values and letters a reading holds, each counted each time it is reached (what is shared counts as often as it is met; a slice's spare places count too). A statement '..UptoSaid' is the law's where the arguments, and the package variables that the reading takes, are together of bulk at most 1048576: NARROWER than '..Said'. Prove '..Said' where nothing that the law and all that it calls make is longer than what came in: it says more and counts as full. Else prove '..UptoSaid'. A law counts once. -/
mutual
def uptoBulk {H : Type} : DataW H → Nat
  | .lit (.string bytes) => bytes.length + 1
  | .lit _ => 1
  | .nil => 1
  | .ptr d => uptoBulk d + 1
  | .slice elems spare => uptoBulkAll elems + uptoBulkAll spare + 1
  | .agg parts => uptoBulkAll parts + 1
  | .iface _ d => uptoBulk d + 1
  | .map entries => uptoBulkEntries entries + 1
  | .held _ => 1
def uptoBulkAll {H : Type} : List (DataW H) → Nat
  | [] => 0
  | d :: r => uptoBulk d + uptoBulkAll r
def uptoBulkEntries {H : Type} : List (Lit × DataW H) → Nat
  | [] => 0
  | x :: r => uptoBulkEntry x + uptoBulkEntries r
def uptoBulkEntry {H : Type} : Lit × DataW H → Nat
  | (.string bytes, d) => bytes.length + uptoBulk d + 1
  | (_, d) => uptoBulk d + 1
 end
def uptoSmall : (H : Type) → List (DataW H) → Bool := fun _ ds => decide (uptoBulkAll ds ≤ 1048576)
def OpenSpec.upto (s : _root_.Go.ChangeSpec) : _root_.Go.OpenSpec := { _root_.Go.OpenSpec.ofChange s with cond := some uptoSmall }

/-- 'narrowslaw32.WorkspaceOpen', WHERE WHAT IT READS IS OF BULK AT MOST 1048576: true; the input reads as it did. -/
def workspaceOpenUptoRow : OpenClaim := { program := "ytlmmifgminkdkaagreat", sum := "151eb5505a284962db8760ba662f71e68df7abe470a56e2e51333d7fb202b38e", func := "narrows/narrowslaw32.WorkspaceOpen", spec := "workspaceOpen", unfollowed := true, recurses := true, named := ["math/bits.overflowError"], plainKeys := false, apart := false, narrowed := true }
def WorkspaceOpenUptoSaid : Prop := workspaceOpenUptoRow.holds Tryz.pinned (OpenSpec.upto workspaceOpenSpec)

/-- 'narrowslaw32.WorkspaceUndoes', WHERE WHAT IT READS IS OF BULK AT MOST 1048576: true; the input reads as it did. -/
def workspaceUndoesUptoRow : OpenClaim := { program := "ytlmmifgminkdkaagreat", sum := "151eb5505a284962db8760ba662f71e68df7abe470a56e2e51333d7fb202b38e", func := "narrows/narrowslaw32.WorkspaceUndoes", spec := "workspaceUndoes", unfollowed := true, recurses := true, named := ["math/bits.overflowError"], plainKeys := false, apart := false, narrowed := true }
def WorkspaceUndoesUptoSaid : Prop := workspaceUndoesUptoRow.holds Tryz.pinned (OpenSpec.upto workspaceUndoesSpec)

/-- 'narrowslaw32.WorkspaceMoves', WHERE WHAT IT READS IS OF BULK AT MOST 1048576: true; the input reads as it did. -/
def workspaceMovesUptoRow : OpenClaim := { program := "ytlmmifgminkdkaagreat", sum := "151eb5505a284962db8760ba662f71e68df7abe470a56e2e51333d7fb202b38e", func := "narrows/narrowslaw32.WorkspaceMoves", spec := "workspaceMoves", unfollowed := true, recurses := true, named := ["math/bits.overflowError"], plainKeys := false, apart := false, narrowed := true }
def WorkspaceMovesUptoSaid : Prop := workspaceMovesUptoRow.holds Tryz.pinned (OpenSpec.upto workspaceMovesSpec)

/-- 'narrowslaw32.WorkspaceShifts', WHERE WHAT IT READS IS OF BULK AT MOST 1048576: true; the input reads as it did. -/
def workspaceShiftsUptoRow : OpenClaim := { program := "ytlmmifgminkdkaagreat", sum := "151eb5505a284962db8760ba662f71e68df7abe470a56e2e51333d7fb202b38e", func := "narrows/narrowslaw32.WorkspaceShifts", spec := "workspaceShifts", unfollowed := true, recurses := true, named := ["math/bits.overflowError"], plainKeys := false, apart := false, narrowed := true }
def WorkspaceShiftsUptoSaid : Prop := workspaceShiftsUptoRow.holds Tryz.pinned (OpenSpec.upto workspaceShiftsSpec)

/-- 'narrowslaw32.WorkspaceQueries', WHERE WHAT IT READS IS OF BULK AT MOST 1048576: true; the input reads as it did. -/
def workspaceQueriesUptoRow : OpenClaim := { program := "ytlmmifgminkdkaagreat", sum := "151eb5505a284962db8760ba662f71e68df7abe470a56e2e51333d7fb202b38e", func := "narrows/narrowslaw32.WorkspaceQueries", spec := "workspaceQueries", unfollowed := true, recurses := true, named := ["math/bits.overflowError"], plainKeys := false, apart := false, narrowed := true }
def WorkspaceQueriesUptoSaid : Prop := workspaceQueriesUptoRow.holds Tryz.pinned (OpenSpec.upto workspaceQueriesSpec)

/-- 'narrowslaw32.WorkspaceEdits', WHERE WHAT IT READS IS OF BULK AT MOST 1048576: true; the input reads as it did. -/
def workspaceEditsUptoRow : OpenClaim := { program := "ytlmmifgminkdkaagreat", sum := "151eb5505a284962db8760ba662f71e68df7abe470a56e2e51333d7fb202b38e", func := "narrows/narrowslaw32.WorkspaceEdits", spec := "workspaceEdits", unfollowed := true, recurses := true, named := ["math/bits.overflowError"], plainKeys := false, apart := false, narrowed := true }
def WorkspaceEditsUptoSaid : Prop := workspaceEditsUptoRow.holds Tryz.pinned (OpenSpec.upto workspaceEditsSpec)

/-- 'narrowslaw32.WorkspacePieces', WHERE WHAT IT READS IS OF BULK AT MOST 1048576: true; the input reads as it did. -/
def workspacePiecesUptoRow : OpenClaim := { program := "ytlmmifgminkdkaagreat", sum := "151eb5505a284962db8760ba662f71e68df7abe470a56e2e51333d7fb202b38e", func := "narrows/narrowslaw32.WorkspacePieces", spec := "workspacePieces", unfollowed := true, recurses := true, named := ["math/bits.overflowError"], plainKeys := false, apart := false, narrowed := true }
def WorkspacePiecesUptoSaid : Prop := workspacePiecesUptoRow.holds Tryz.pinned (OpenSpec.upto workspacePiecesSpec)

/-- 'narrowslaw32.WorkspaceHits', WHERE WHAT IT READS IS OF BULK AT MOST 1048576: true; the input reads as it did. -/
def workspaceHitsUptoRow : OpenClaim := { program := "ytlmmifgminkdkaagreat", sum := "151eb5505a284962db8760ba662f71e68df7abe470a56e2e51333d7fb202b38e", func := "narrows/narrowslaw32.WorkspaceHits", spec := "workspaceHits", unfollowed := true, recurses := true, named := ["math/bits.overflowError"], plainKeys := false, apart := false, narrowed := true }
def WorkspaceHitsUptoSaid : Prop := workspaceHitsUptoRow.holds Tryz.pinned (OpenSpec.upto workspaceHitsSpec)

end Rows
end Go.Proofs.YtlmmifgminkdkaaGreat
