/-
  NARROWER THAN 'FOR EVERY INPUT', by the rows' own cells (each row's printed sentence says how): RecordScans: laid · RecordAgain: laid · RecordBytes: laid · RecordTorn: laid · RecordTurned: laid.
  DERIVED. THE GIVEN ROWS OF THIS SEAT. 5 by the template 'for every input the law returns true; each argument reads behind the call as it read before'; 0 by the template 'total and deterministic' (their statements: YtmeblifbkhpdnaaDoorTotals.lean).
  GIVEN WITH THE SEED: the statements are not yours to turn. If you find one false, say at which input.
  Laid BY PROGRAM, IN A SANDBOX (cutbox-rows.mjs): the forced cells as the released guide's own fill.sh prints them over the translation 8c5676db6212c780… (all of the seat's roots in one cut). By AI agents, Wed Nov 11 2026. No macro, syntax, notation, axiom, sorry.
-/
import Derived.Test.YtmeblifbkhpdnaaDoorChecked
import GoSem.Claim
import GoSem.ClaimJoined
import GoSem.ClaimMapViews
import Derived.JoinedTies
import Derived.KernelRfl
namespace Go.Proofs.YtmeblifbkhpdnaaDoor
/- THE CELL 'sum', in the pinned program and in every row, IS THE sha256 OF THE DUMP (.gsa) THAT YtmeblifbkhpdnaaDoorProg.lean LOADS. Nothing in Lean hashes anything: it is a label: what it is worth is what the hold of that sum in a sandbox is worth. -/
noncomputable def Tryd.pinned : Pinned := { name := "ytmeblifbkhpdnaadoor", sum := "8c5676db6212c780d867601b2e25443334ee231809797a2601754ffd5a364515", checked := Tryd.checked }
namespace Rows
def none {H : Type} : Left H := { results := [], args := [] }

/- WHAT THE LISTED PACKAGE-LEVEL VARIABLES READ AS WHEN THE CALL BEGINS. Each datum BY PROGRAM (the guide's laid-datum.mjs) off the statement by which the dump's own 'gosem.cut.vars' lays the variable. In a bare row this is a premise. The card (YtmeblifbkhpdnaaDoorCards.lean) ties it to the program's text. -/
def laid_gimbal_item_kinds {H : Type} : DataW H := .agg [.lit (.int .i64 0), .lit (.int .i64 5), .lit (.int .i64 13), .lit (.int .i64 22), .lit (.int .i64 2), .lit (.int .i64 2), .lit (.int .i64 2), .lit (.int .i64 4), .lit (.int .i64 1), .lit (.int .i64 2)]
def laid_gimbal_record_kinds {H : Type} : DataW H := .agg [.lit (.int .i64 0), .lit (.int .i64 2), .lit (.int .i64 5), .lit (.int .i64 11)]

/-- 'gimballaw14.RecordScans': WHATEVER THE INPUT: true; the input reads as it did. -/
def recordScansSpec : ChangeSpec := { name := "recordScans", fn := fun _ => fun
  | [d] => { results := [.lit (.bool true)], args := [d] }
  | _ => none }
def recordScansRow : OpenClaim := { program := "ytmeblifbkhpdnaadoor", sum := "8c5676db6212c780d867601b2e25443334ee231809797a2601754ffd5a364515", func := "gimbal/gimballaw14.RecordScans", spec := "recordScans", unfollowed := true, recurses := true, named := ["gimbal/record.kinds", "gimbal/item.kinds"], apart := false, laid := [("gimbal/item.kinds", laid_gimbal_item_kinds), ("gimbal/record.kinds", laid_gimbal_record_kinds)] }
def RecordScansSaid : Prop := recordScansRow.holds Tryd.pinned (OpenSpec.ofChange recordScansSpec)

/-- ITS FALSE NEIGHBOUR: 'it returns false'. Refute it at one input. -/
def recordScansWrong : ChangeSpec := { name := "recordScans", fn := fun _ => fun
  | [d] => { results := [.lit (.bool false)], args := [d] }
  | _ => none }
def RecordScansWrongFalsely : Prop := recordScansRow.holds Tryd.pinned (OpenSpec.ofChange recordScansWrong)

/-- 'gimballaw14.RecordAgain': WHATEVER THE INPUT: true; the input reads as it did. -/
def recordAgainSpec : ChangeSpec := { name := "recordAgain", fn := fun _ => fun
  | [d] => { results := [.lit (.bool true)], args := [d] }
  | _ => none }
def recordAgainRow : OpenClaim := { program := "ytmeblifbkhpdnaadoor", sum := "8c5676db6212c780d867601b2e25443334ee231809797a2601754ffd5a364515", func := "gimbal/gimballaw14.RecordAgain", spec := "recordAgain", unfollowed := true, recurses := true, named := ["gimbal/record.kinds", "gimbal/item.kinds"], apart := false, laid := [("gimbal/item.kinds", laid_gimbal_item_kinds), ("gimbal/record.kinds", laid_gimbal_record_kinds)] }
def RecordAgainSaid : Prop := recordAgainRow.holds Tryd.pinned (OpenSpec.ofChange recordAgainSpec)

/-- ITS FALSE NEIGHBOUR: 'it returns false'. Refute it at one input. -/
def recordAgainWrong : ChangeSpec := { name := "recordAgain", fn := fun _ => fun
  | [d] => { results := [.lit (.bool false)], args := [d] }
  | _ => none }
def RecordAgainWrongFalsely : Prop := recordAgainRow.holds Tryd.pinned (OpenSpec.ofChange recordAgainWrong)

/-- 'gimballaw14.RecordBytes': WHATEVER THE INPUT: true; the input reads as it did. -/
def recordBytesSpec : ChangeSpec := { name := "recordBytes", fn := fun _ => fun
  | [d1, d2] => { results := [.lit (.bool true)], args := [d1, d2] }
  | _ => none }
def recordBytesRow : OpenClaim := { program := "ytmeblifbkhpdnaadoor", sum := "8c5676db6212c780d867601b2e25443334ee231809797a2601754ffd5a364515", func := "gimbal/gimballaw14.RecordBytes", spec := "recordBytes", unfollowed := true, recurses := true, named := ["gimbal/record.kinds", "gimbal/item.kinds"], apart := false, laid := [("gimbal/item.kinds", laid_gimbal_item_kinds), ("gimbal/record.kinds", laid_gimbal_record_kinds)] }
def RecordBytesSaid : Prop := recordBytesRow.holds Tryd.pinned (OpenSpec.ofChange recordBytesSpec)

/-- ITS FALSE NEIGHBOUR: 'it returns false'. Refute it at one input. -/
def recordBytesWrong : ChangeSpec := { name := "recordBytes", fn := fun _ => fun
  | [d1, d2] => { results := [.lit (.bool false)], args := [d1, d2] }
  | _ => none }
def RecordBytesWrongFalsely : Prop := recordBytesRow.holds Tryd.pinned (OpenSpec.ofChange recordBytesWrong)

/-- 'gimballaw14.RecordTorn': WHATEVER THE INPUT: true; the input reads as it did. -/
def recordTornSpec : ChangeSpec := { name := "recordTorn", fn := fun _ => fun
  | [d1, d2] => { results := [.lit (.bool true)], args := [d1, d2] }
  | _ => none }
def recordTornRow : OpenClaim := { program := "ytmeblifbkhpdnaadoor", sum := "8c5676db6212c780d867601b2e25443334ee231809797a2601754ffd5a364515", func := "gimbal/gimballaw14.RecordTorn", spec := "recordTorn", unfollowed := true, recurses := true, named := ["gimbal/record.kinds", "gimbal/item.kinds"], apart := false, laid := [("gimbal/item.kinds", laid_gimbal_item_kinds), ("gimbal/record.kinds", laid_gimbal_record_kinds)] }
def RecordTornSaid : Prop := recordTornRow.holds Tryd.pinned (OpenSpec.ofChange recordTornSpec)

/-- ITS FALSE NEIGHBOUR: 'it returns false'. Refute it at one input. -/
def recordTornWrong : ChangeSpec := { name := "recordTorn", fn := fun _ => fun
  | [d1, d2] => { results := [.lit (.bool false)], args := [d1, d2] }
  | _ => none }
def RecordTornWrongFalsely : Prop := recordTornRow.holds Tryd.pinned (OpenSpec.ofChange recordTornWrong)

/-- 'gimballaw14.RecordTurned': WHATEVER THE INPUT: true; the input reads as it did. -/
def recordTurnedSpec : ChangeSpec := { name := "recordTurned", fn := fun _ => fun
  | [d1, d2, d3] => { results := [.lit (.bool true)], args := [d1, d2, d3] }
  | _ => none }
def recordTurnedRow : OpenClaim := { program := "ytmeblifbkhpdnaadoor", sum := "8c5676db6212c780d867601b2e25443334ee231809797a2601754ffd5a364515", func := "gimbal/gimballaw14.RecordTurned", spec := "recordTurned", unfollowed := true, recurses := true, named := ["gimbal/record.kinds", "gimbal/item.kinds"], apart := false, laid := [("gimbal/item.kinds", laid_gimbal_item_kinds), ("gimbal/record.kinds", laid_gimbal_record_kinds)] }
def RecordTurnedSaid : Prop := recordTurnedRow.holds Tryd.pinned (OpenSpec.ofChange recordTurnedSpec)

/-- ITS FALSE NEIGHBOUR: 'it returns false'. Refute it at one input. -/
def recordTurnedWrong : ChangeSpec := { name := "recordTurned", fn := fun _ => fun
  | [d1, d2, d3] => { results := [.lit (.bool false)], args := [d1, d2, d3] }
  | _ => none }
def RecordTurnedWrongFalsely : Prop := recordTurnedRow.holds Tryd.pinned (OpenSpec.ofChange recordTurnedWrong)

/- THE SECOND FORM. 'bulk': how many values and letters a reading holds, each counted each time it is reached (what is shared counts as often as it is met; a slice's spare places count too). A statement '..UptoSaid' is the law's where the arguments, and the package variables that the reading takes, are together of bulk at most 1048576: NARROWER than '..Said'. Prove '..Said' where nothing that the law and all that it calls make is longer than what came in: it says more and counts as full. Else prove '..UptoSaid'. A law counts once. -/
mutual
def uptoBulk {H : Type} : DataW H → Nat
  | .lit (.string bytes) => bytes.length + 1
  | .lit _ => 1
  | .nil => 1
  | .ptr d => uptoBulk d + 1
  | .slice elems spare => uptoBulkAll elems + uptoBulkAll spare + 1
  | .agg parts => uptoBulkAll parts + 1
  | .iface _ d => uptoBulk d + 1
  | .map entries => uptoBulkEntries entries + 1
  | .held _ => 1
def uptoBulkAll {H : Type} : List (DataW H) → Nat
  | [] => 0
  | d :: r => uptoBulk d + uptoBulkAll r
def uptoBulkEntries {H : Type} : List (Lit × DataW H) → Nat
  | [] => 0
  | x :: r => uptoBulkEntry x + uptoBulkEntries r
def uptoBulkEntry {H : Type} : Lit × DataW H → Nat
  | (.string bytes, d) => bytes.length + uptoBulk d + 1
  | (_, d) => uptoBulk d + 1
 end
def uptoSmall : (H : Type) → List (DataW H) → Bool := fun _ ds => decide (uptoBulkAll ds ≤ 1048576)
def OpenSpec.upto (s : _root_.Go.ChangeSpec) : _root_.Go.OpenSpec := { _root_.Go.OpenSpec.ofChange s with cond := some uptoSmall }

/-- 'gimballaw14.RecordScans', WHERE WHAT IT READS IS OF BULK AT MOST 1048576: true; the input reads as it did. -/
def recordScansUptoRow : OpenClaim := { program := "ytmeblifbkhpdnaadoor", sum := "8c5676db6212c780d867601b2e25443334ee231809797a2601754ffd5a364515", func := "gimbal/gimballaw14.RecordScans", spec := "recordScans", unfollowed := true, recurses := true, named := ["gimbal/record.kinds", "gimbal/item.kinds"], apart := false, laid := [("gimbal/item.kinds", laid_gimbal_item_kinds), ("gimbal/record.kinds", laid_gimbal_record_kinds)], narrowed := true }
def RecordScansUptoSaid : Prop := recordScansUptoRow.holds Tryd.pinned (OpenSpec.upto recordScansSpec)

/-- 'gimballaw14.RecordAgain', WHERE WHAT IT READS IS OF BULK AT MOST 1048576: true; the input reads as it did. -/
def recordAgainUptoRow : OpenClaim := { program := "ytmeblifbkhpdnaadoor", sum := "8c5676db6212c780d867601b2e25443334ee231809797a2601754ffd5a364515", func := "gimbal/gimballaw14.RecordAgain", spec := "recordAgain", unfollowed := true, recurses := true, named := ["gimbal/record.kinds", "gimbal/item.kinds"], apart := false, laid := [("gimbal/item.kinds", laid_gimbal_item_kinds), ("gimbal/record.kinds", laid_gimbal_record_kinds)], narrowed := true }
def RecordAgainUptoSaid : Prop := recordAgainUptoRow.holds Tryd.pinned (OpenSpec.upto recordAgainSpec)

/-- 'gimballaw14.RecordBytes', WHERE WHAT IT READS IS OF BULK AT MOST 1048576: true; the input reads as it did. -/
def recordBytesUptoRow : OpenClaim := { program := "ytmeblifbkhpdnaadoor", sum := "8c5676db6212c780d867601b2e25443334ee231809797a2601754ffd5a364515", func := "gimbal/gimballaw14.RecordBytes", spec := "recordBytes", unfollowed := true, recurses := true, named := ["gimbal/record.kinds", "gimbal/item.kinds"], apart := false, laid := [("gimbal/item.kinds", laid_gimbal_item_kinds), ("gimbal/record.kinds", laid_gimbal_record_kinds)], narrowed := true }
def RecordBytesUptoSaid : Prop := recordBytesUptoRow.holds Tryd.pinned (OpenSpec.upto recordBytesSpec)

/-- 'gimballaw14.RecordTorn', WHERE WHAT IT READS IS OF BULK AT MOST 1048576: true; the input reads as it did. -/
def recordTornUptoRow : OpenClaim := { program := "ytmeblifbkhpdnaadoor", sum := "8c5676db6212c780d867601b2e25443334ee231809797a2601754ffd5a364515", func := "gimbal/gimballaw14.RecordTorn", spec := "recordTorn", unfollowed := true, recurses := true, named := ["gimbal/record.kinds", "gimbal/item.kinds"], apart := false, laid := [("gimbal/item.kinds", laid_gimbal_item_kinds), ("gimbal/record.kinds", laid_gimbal_record_kinds)], narrowed := true }
def RecordTornUptoSaid : Prop := recordTornUptoRow.holds Tryd.pinned (OpenSpec.upto recordTornSpec)

/-- 'gimballaw14.RecordTurned', WHERE WHAT IT READS IS OF BULK AT MOST 1048576: true; the input reads as it did. -/
def recordTurnedUptoRow : OpenClaim := { program := "ytmeblifbkhpdnaadoor", sum := "8c5676db6212c780d867601b2e25443334ee231809797a2601754ffd5a364515", func := "gimbal/gimballaw14.RecordTurned", spec := "recordTurned", unfollowed := true, recurses := true, named := ["gimbal/record.kinds", "gimbal/item.kinds"], apart := false, laid := [("gimbal/item.kinds", laid_gimbal_item_kinds), ("gimbal/record.kinds", laid_gimbal_record_kinds)], narrowed := true }
def RecordTurnedUptoSaid : Prop := recordTurnedUptoRow.holds Tryd.pinned (OpenSpec.upto recordTurnedSpec)

end Rows
end Go.Proofs.YtmeblifbkhpdnaaDoor
