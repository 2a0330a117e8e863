/-
  No cell of these rows narrows 'for every input' (looked for: loops, veiled, ifaces, maps, wideKeys, modest, calm, conditions, laid).
  DERIVED. THE GIVEN ROWS OF THIS SEAT. 12 by the template 'for every input the law returns true; each argument reads behind the call as it read before'; 0 by the template 'total and deterministic' (their statements: YtphhgmhgkendaaaTotals.lean).
  GIVEN WITH THE SEED: the statements are not yours to turn. If you find one false, say at which input.
  Laid BY PROGRAM, IN A SANDBOX (cutbox-rows.mjs): the forced cells as the released guide's own fill.sh prints them over the translation 8e3bcea185d1c080… (all of the seat's roots in one cut). By AI agents, Wed Nov 11 2026. No macro, syntax, notation, axiom, sorry.
-/
import Derived.Test.YtphhgmhgkendaaaChecked
import GoSem.Claim
import GoSem.ClaimJoined
import GoSem.ClaimMapViews
import Derived.JoinedTies
import Derived.KernelRfl
namespace Go.Proofs.Ytphhgmhgkendaaa
/- THE CELL 'sum', in the pinned program and in every row, IS THE sha256 OF THE DUMP (.gsa) THAT YtphhgmhgkendaaaProg.lean LOADS. Nothing in Lean hashes anything: it is a label: what it is worth is what the hold of that sum in a sandbox is worth. -/
noncomputable def Try.pinned : Pinned := { name := "ytphhgmhgkendaaa", sum := "8e3bcea185d1c0802b1d3e91067d2dcaca898e981da68309e41000864caca646", checked := Try.checked }
namespace Rows
def none {H : Type} : Left H := { results := [], args := [] }

/-- 'boustrophedonlaw06.LinecTables': WHATEVER THE INPUT: true; the input reads as it did. -/
def linecTablesSpec : ChangeSpec := { name := "linecTables", fn := fun _ => fun
  | [d] => { results := [.lit (.bool true)], args := [d] }
  | _ => none }
def linecTablesRow : OpenClaim := { program := "ytphhgmhgkendaaa", sum := "8e3bcea185d1c0802b1d3e91067d2dcaca898e981da68309e41000864caca646", func := "boustrophedon/boustrophedonlaw06.LinecTables", spec := "linecTables", apart := false }
def LinecTablesSaid : Prop := linecTablesRow.holds Try.pinned (OpenSpec.ofChange linecTablesSpec)

/-- ITS FALSE NEIGHBOUR: 'it returns false'. Refute it at one input. -/
def linecTablesWrong : ChangeSpec := { name := "linecTables", fn := fun _ => fun
  | [d] => { results := [.lit (.bool false)], args := [d] }
  | _ => none }
def LinecTablesWrongFalsely : Prop := linecTablesRow.holds Try.pinned (OpenSpec.ofChange linecTablesWrong)

/-- 'boustrophedonlaw06.LinecOf': WHATEVER THE INPUT: true; the input reads as it did. -/
def linecOfSpec : ChangeSpec := { name := "linecOf", fn := fun _ => fun
  | [d] => { results := [.lit (.bool true)], args := [d] }
  | _ => none }
def linecOfRow : OpenClaim := { program := "ytphhgmhgkendaaa", sum := "8e3bcea185d1c0802b1d3e91067d2dcaca898e981da68309e41000864caca646", func := "boustrophedon/boustrophedonlaw06.LinecOf", spec := "linecOf", apart := false }
def LinecOfSaid : Prop := linecOfRow.holds Try.pinned (OpenSpec.ofChange linecOfSpec)

/-- ITS FALSE NEIGHBOUR: 'it returns false'. Refute it at one input. -/
def linecOfWrong : ChangeSpec := { name := "linecOf", fn := fun _ => fun
  | [d] => { results := [.lit (.bool false)], args := [d] }
  | _ => none }
def LinecOfWrongFalsely : Prop := linecOfRow.holds Try.pinned (OpenSpec.ofChange linecOfWrong)

/-- 'boustrophedonlaw06.LinecEach': WHATEVER THE INPUT: true; the input reads as it did. -/
def linecEachSpec : ChangeSpec := { name := "linecEach", fn := fun _ => fun
  | [d1, d2] => { results := [.lit (.bool true)], args := [d1, d2] }
  | _ => none }
def linecEachRow : OpenClaim := { program := "ytphhgmhgkendaaa", sum := "8e3bcea185d1c0802b1d3e91067d2dcaca898e981da68309e41000864caca646", func := "boustrophedon/boustrophedonlaw06.LinecEach", spec := "linecEach", apart := false }
def LinecEachSaid : Prop := linecEachRow.holds Try.pinned (OpenSpec.ofChange linecEachSpec)

/-- ITS FALSE NEIGHBOUR: 'it returns false'. Refute it at one input. -/
def linecEachWrong : ChangeSpec := { name := "linecEach", fn := fun _ => fun
  | [d1, d2] => { results := [.lit (.bool false)], args := [d1, d2] }
  | _ => none }
def LinecEachWrongFalsely : Prop := linecEachRow.holds Try.pinned (OpenSpec.ofChange linecEachWrong)

/-- 'boustrophedonlaw06.LinecParts': WHATEVER THE INPUT: true; the input reads as it did. -/
def linecPartsSpec : ChangeSpec := { name := "linecParts", fn := fun _ => fun
  | [d1, d2] => { results := [.lit (.bool true)], args := [d1, d2] }
  | _ => none }
def linecPartsRow : OpenClaim := { program := "ytphhgmhgkendaaa", sum := "8e3bcea185d1c0802b1d3e91067d2dcaca898e981da68309e41000864caca646", func := "boustrophedon/boustrophedonlaw06.LinecParts", spec := "linecParts", apart := false }
def LinecPartsSaid : Prop := linecPartsRow.holds Try.pinned (OpenSpec.ofChange linecPartsSpec)

/-- ITS FALSE NEIGHBOUR: 'it returns false'. Refute it at one input. -/
def linecPartsWrong : ChangeSpec := { name := "linecParts", fn := fun _ => fun
  | [d1, d2] => { results := [.lit (.bool false)], args := [d1, d2] }
  | _ => none }
def LinecPartsWrongFalsely : Prop := linecPartsRow.holds Try.pinned (OpenSpec.ofChange linecPartsWrong)

/-- 'boustrophedonlaw31.ClusterSpans': WHATEVER THE INPUT: true; the input reads as it did. -/
def clusterSpansSpec : ChangeSpec := { name := "clusterSpans", fn := fun _ => fun
  | [d] => { results := [.lit (.bool true)], args := [d] }
  | _ => none }
def clusterSpansRow : OpenClaim := { program := "ytphhgmhgkendaaa", sum := "8e3bcea185d1c0802b1d3e91067d2dcaca898e981da68309e41000864caca646", func := "boustrophedon/boustrophedonlaw31.ClusterSpans", spec := "clusterSpans", apart := false }
def ClusterSpansSaid : Prop := clusterSpansRow.holds Try.pinned (OpenSpec.ofChange clusterSpansSpec)

/-- ITS FALSE NEIGHBOUR: 'it returns false'. Refute it at one input. -/
def clusterSpansWrong : ChangeSpec := { name := "clusterSpans", fn := fun _ => fun
  | [d] => { results := [.lit (.bool false)], args := [d] }
  | _ => none }
def ClusterSpansWrongFalsely : Prop := clusterSpansRow.holds Try.pinned (OpenSpec.ofChange clusterSpansWrong)

/-- 'boustrophedonlaw31.ClusterLetters': WHATEVER THE INPUT: true; the input reads as it did. -/
def clusterLettersSpec : ChangeSpec := { name := "clusterLetters", fn := fun _ => fun
  | [d] => { results := [.lit (.bool true)], args := [d] }
  | _ => none }
def clusterLettersRow : OpenClaim := { program := "ytphhgmhgkendaaa", sum := "8e3bcea185d1c0802b1d3e91067d2dcaca898e981da68309e41000864caca646", func := "boustrophedon/boustrophedonlaw31.ClusterLetters", spec := "clusterLetters", apart := false }
def ClusterLettersSaid : Prop := clusterLettersRow.holds Try.pinned (OpenSpec.ofChange clusterLettersSpec)

/-- ITS FALSE NEIGHBOUR: 'it returns false'. Refute it at one input. -/
def clusterLettersWrong : ChangeSpec := { name := "clusterLetters", fn := fun _ => fun
  | [d] => { results := [.lit (.bool false)], args := [d] }
  | _ => none }
def ClusterLettersWrongFalsely : Prop := clusterLettersRow.holds Try.pinned (OpenSpec.ofChange clusterLettersWrong)

/-- 'boustrophedonlaw31.ClusterMoves': WHATEVER THE INPUT: true; the input reads as it did. -/
def clusterMovesSpec : ChangeSpec := { name := "clusterMoves", fn := fun _ => fun
  | [d1, d2] => { results := [.lit (.bool true)], args := [d1, d2] }
  | _ => none }
def clusterMovesRow : OpenClaim := { program := "ytphhgmhgkendaaa", sum := "8e3bcea185d1c0802b1d3e91067d2dcaca898e981da68309e41000864caca646", func := "boustrophedon/boustrophedonlaw31.ClusterMoves", spec := "clusterMoves", apart := false }
def ClusterMovesSaid : Prop := clusterMovesRow.holds Try.pinned (OpenSpec.ofChange clusterMovesSpec)

/-- ITS FALSE NEIGHBOUR: 'it returns false'. Refute it at one input. -/
def clusterMovesWrong : ChangeSpec := { name := "clusterMoves", fn := fun _ => fun
  | [d1, d2] => { results := [.lit (.bool false)], args := [d1, d2] }
  | _ => none }
def ClusterMovesWrongFalsely : Prop := clusterMovesRow.holds Try.pinned (OpenSpec.ofChange clusterMovesWrong)

/-- 'boustrophedonlaw31.ClusterBack': WHATEVER THE INPUT: true; the input reads as it did. -/
def clusterBackSpec : ChangeSpec := { name := "clusterBack", fn := fun _ => fun
  | [d] => { results := [.lit (.bool true)], args := [d] }
  | _ => none }
def clusterBackRow : OpenClaim := { program := "ytphhgmhgkendaaa", sum := "8e3bcea185d1c0802b1d3e91067d2dcaca898e981da68309e41000864caca646", func := "boustrophedon/boustrophedonlaw31.ClusterBack", spec := "clusterBack", apart := false }
def ClusterBackSaid : Prop := clusterBackRow.holds Try.pinned (OpenSpec.ofChange clusterBackSpec)

/-- ITS FALSE NEIGHBOUR: 'it returns false'. Refute it at one input. -/
def clusterBackWrong : ChangeSpec := { name := "clusterBack", fn := fun _ => fun
  | [d] => { results := [.lit (.bool false)], args := [d] }
  | _ => none }
def ClusterBackWrongFalsely : Prop := clusterBackRow.holds Try.pinned (OpenSpec.ofChange clusterBackWrong)

/-- 'boustrophedonlaw32.WordsKinds': WHATEVER THE INPUT: true; the input reads as it did. -/
def wordsKindsSpec : ChangeSpec := { name := "wordsKinds", fn := fun _ => fun
  | [d] => { results := [.lit (.bool true)], args := [d] }
  | _ => none }
def wordsKindsRow : OpenClaim := { program := "ytphhgmhgkendaaa", sum := "8e3bcea185d1c0802b1d3e91067d2dcaca898e981da68309e41000864caca646", func := "boustrophedon/boustrophedonlaw32.WordsKinds", spec := "wordsKinds", apart := false }
def WordsKindsSaid : Prop := wordsKindsRow.holds Try.pinned (OpenSpec.ofChange wordsKindsSpec)

/-- ITS FALSE NEIGHBOUR: 'it returns false'. Refute it at one input. -/
def wordsKindsWrong : ChangeSpec := { name := "wordsKinds", fn := fun _ => fun
  | [d] => { results := [.lit (.bool false)], args := [d] }
  | _ => none }
def WordsKindsWrongFalsely : Prop := wordsKindsRow.holds Try.pinned (OpenSpec.ofChange wordsKindsWrong)

/-- 'boustrophedonlaw32.WordsBreaks': WHATEVER THE INPUT: true; the input reads as it did. -/
def wordsBreaksSpec : ChangeSpec := { name := "wordsBreaks", fn := fun _ => fun
  | [d] => { results := [.lit (.bool true)], args := [d] }
  | _ => none }
def wordsBreaksRow : OpenClaim := { program := "ytphhgmhgkendaaa", sum := "8e3bcea185d1c0802b1d3e91067d2dcaca898e981da68309e41000864caca646", func := "boustrophedon/boustrophedonlaw32.WordsBreaks", spec := "wordsBreaks", unfollowed := true, recurses := true, apart := false }
def WordsBreaksSaid : Prop := wordsBreaksRow.holds Try.pinned (OpenSpec.ofChange wordsBreaksSpec)

/-- ITS FALSE NEIGHBOUR: 'it returns false'. Refute it at one input. -/
def wordsBreaksWrong : ChangeSpec := { name := "wordsBreaks", fn := fun _ => fun
  | [d] => { results := [.lit (.bool false)], args := [d] }
  | _ => none }
def WordsBreaksWrongFalsely : Prop := wordsBreaksRow.holds Try.pinned (OpenSpec.ofChange wordsBreaksWrong)

/-- 'boustrophedonlaw32.WordsSpans': WHATEVER THE INPUT: true; the input reads as it did. -/
def wordsSpansSpec : ChangeSpec := { name := "wordsSpans", fn := fun _ => fun
  | [d] => { results := [.lit (.bool true)], args := [d] }
  | _ => none }
def wordsSpansRow : OpenClaim := { program := "ytphhgmhgkendaaa", sum := "8e3bcea185d1c0802b1d3e91067d2dcaca898e981da68309e41000864caca646", func := "boustrophedon/boustrophedonlaw32.WordsSpans", spec := "wordsSpans", apart := false }
def WordsSpansSaid : Prop := wordsSpansRow.holds Try.pinned (OpenSpec.ofChange wordsSpansSpec)

/-- ITS FALSE NEIGHBOUR: 'it returns false'. Refute it at one input. -/
def wordsSpansWrong : ChangeSpec := { name := "wordsSpans", fn := fun _ => fun
  | [d] => { results := [.lit (.bool false)], args := [d] }
  | _ => none }
def WordsSpansWrongFalsely : Prop := wordsSpansRow.holds Try.pinned (OpenSpec.ofChange wordsSpansWrong)

/-- 'boustrophedonlaw32.WordsPlain': WHATEVER THE INPUT: true; the input reads as it did. -/
def wordsPlainSpec : ChangeSpec := { name := "wordsPlain", fn := fun _ => fun
  | [d] => { results := [.lit (.bool true)], args := [d] }
  | _ => none }
def wordsPlainRow : OpenClaim := { program := "ytphhgmhgkendaaa", sum := "8e3bcea185d1c0802b1d3e91067d2dcaca898e981da68309e41000864caca646", func := "boustrophedon/boustrophedonlaw32.WordsPlain", spec := "wordsPlain", apart := false }
def WordsPlainSaid : Prop := wordsPlainRow.holds Try.pinned (OpenSpec.ofChange wordsPlainSpec)

/-- ITS FALSE NEIGHBOUR: 'it returns false'. Refute it at one input. -/
def wordsPlainWrong : ChangeSpec := { name := "wordsPlain", fn := fun _ => fun
  | [d] => { results := [.lit (.bool false)], args := [d] }
  | _ => none }
def WordsPlainWrongFalsely : Prop := wordsPlainRow.holds Try.pinned (OpenSpec.ofChange wordsPlainWrong)

/- THE SECOND FORM. 'bulk': how many values and letters a reading holds, each counted each time it is reached (what is shared counts as often as it is met; a slice's spare places count too). A statement '..UptoSaid' is the law's where the arguments, and the package variables that the reading takes, are together of bulk at most 1048576: NARROWER than '..Said'. Prove '..Said' where nothing that the law and all that it calls make is longer than what came in: it says more and counts as full. Else prove '..UptoSaid'. A law counts once. -/
mutual
def uptoBulk {H : Type} : DataW H → Nat
  | .lit (.string bytes) => bytes.length + 1
  | .lit _ => 1
  | .nil => 1
  | .ptr d => uptoBulk d + 1
  | .slice elems spare => uptoBulkAll elems + uptoBulkAll spare + 1
  | .agg parts => uptoBulkAll parts + 1
  | .iface _ d => uptoBulk d + 1
  | .map entries => uptoBulkEntries entries + 1
  | .held _ => 1
def uptoBulkAll {H : Type} : List (DataW H) → Nat
  | [] => 0
  | d :: r => uptoBulk d + uptoBulkAll r
def uptoBulkEntries {H : Type} : List (Lit × DataW H) → Nat
  | [] => 0
  | x :: r => uptoBulkEntry x + uptoBulkEntries r
def uptoBulkEntry {H : Type} : Lit × DataW H → Nat
  | (.string bytes, d) => bytes.length + uptoBulk d + 1
  | (_, d) => uptoBulk d + 1
 end
def uptoSmall : (H : Type) → List (DataW H) → Bool := fun _ ds => decide (uptoBulkAll ds ≤ 1048576)
def OpenSpec.upto (s : _root_.Go.ChangeSpec) : _root_.Go.OpenSpec := { _root_.Go.OpenSpec.ofChange s with cond := some uptoSmall }

/-- 'boustrophedonlaw06.LinecTables', WHERE WHAT IT READS IS OF BULK AT MOST 1048576: true; the input reads as it did. -/
def linecTablesUptoRow : OpenClaim := { program := "ytphhgmhgkendaaa", sum := "8e3bcea185d1c0802b1d3e91067d2dcaca898e981da68309e41000864caca646", func := "boustrophedon/boustrophedonlaw06.LinecTables", spec := "linecTables", apart := false, narrowed := true }
def LinecTablesUptoSaid : Prop := linecTablesUptoRow.holds Try.pinned (OpenSpec.upto linecTablesSpec)

/-- 'boustrophedonlaw06.LinecOf', WHERE WHAT IT READS IS OF BULK AT MOST 1048576: true; the input reads as it did. -/
def linecOfUptoRow : OpenClaim := { program := "ytphhgmhgkendaaa", sum := "8e3bcea185d1c0802b1d3e91067d2dcaca898e981da68309e41000864caca646", func := "boustrophedon/boustrophedonlaw06.LinecOf", spec := "linecOf", apart := false, narrowed := true }
def LinecOfUptoSaid : Prop := linecOfUptoRow.holds Try.pinned (OpenSpec.upto linecOfSpec)

/-- 'boustrophedonlaw06.LinecEach', WHERE WHAT IT READS IS OF BULK AT MOST 1048576: true; the input reads as it did. -/
def linecEachUptoRow : OpenClaim := { program := "ytphhgmhgkendaaa", sum := "8e3bcea185d1c0802b1d3e91067d2dcaca898e981da68309e41000864caca646", func := "boustrophedon/boustrophedonlaw06.LinecEach", spec := "linecEach", apart := false, narrowed := true }
def LinecEachUptoSaid : Prop := linecEachUptoRow.holds Try.pinned (OpenSpec.upto linecEachSpec)

/-- 'boustrophedonlaw06.LinecParts', WHERE WHAT IT READS IS OF BULK AT MOST 1048576: true; the input reads as it did. -/
def linecPartsUptoRow : OpenClaim := { program := "ytphhgmhgkendaaa", sum := "8e3bcea185d1c0802b1d3e91067d2dcaca898e981da68309e41000864caca646", func := "boustrophedon/boustrophedonlaw06.LinecParts", spec := "linecParts", apart := false, narrowed := true }
def LinecPartsUptoSaid : Prop := linecPartsUptoRow.holds Try.pinned (OpenSpec.upto linecPartsSpec)

/-- 'boustrophedonlaw31.ClusterSpans', WHERE WHAT IT READS IS OF BULK AT MOST 1048576: true; the input reads as it did. -/
def clusterSpansUptoRow : OpenClaim := { program := "ytphhgmhgkendaaa", sum := "8e3bcea185d1c0802b1d3e91067d2dcaca898e981da68309e41000864caca646", func := "boustrophedon/boustrophedonlaw31.ClusterSpans", spec := "clusterSpans", apart := false, narrowed := true }
def ClusterSpansUptoSaid : Prop := clusterSpansUptoRow.holds Try.pinned (OpenSpec.upto clusterSpansSpec)

/-- 'boustrophedonlaw31.ClusterLetters', WHERE WHAT IT READS IS OF BULK AT MOST 1048576: true; the input reads as it did. -/
def clusterLettersUptoRow : OpenClaim := { program := "ytphhgmhgkendaaa", sum := "8e3bcea185d1c0802b1d3e91067d2dcaca898e981da68309e41000864caca646", func := "boustrophedon/boustrophedonlaw31.ClusterLetters", spec := "clusterLetters", apart := false, narrowed := true }
def ClusterLettersUptoSaid : Prop := clusterLettersUptoRow.holds Try.pinned (OpenSpec.upto clusterLettersSpec)

/-- 'boustrophedonlaw31.ClusterMoves', WHERE WHAT IT READS IS OF BULK AT MOST 1048576: true; the input reads as it did. -/
def clusterMovesUptoRow : OpenClaim := { program := "ytphhgmhgkendaaa", sum := "8e3bcea185d1c0802b1d3e91067d2dcaca898e981da68309e41000864caca646", func := "boustrophedon/boustrophedonlaw31.ClusterMoves", spec := "clusterMoves", apart := false, narrowed := true }
def ClusterMovesUptoSaid : Prop := clusterMovesUptoRow.holds Try.pinned (OpenSpec.upto clusterMovesSpec)

/-- 'boustrophedonlaw31.ClusterBack', WHERE WHAT IT READS IS OF BULK AT MOST 1048576: true; the input reads as it did. -/
def clusterBackUptoRow : OpenClaim := { program := "ytphhgmhgkendaaa", sum := "8e3bcea185d1c0802b1d3e91067d2dcaca898e981da68309e41000864caca646", func := "boustrophedon/boustrophedonlaw31.ClusterBack", spec := "clusterBack", apart := false, narrowed := true }
def ClusterBackUptoSaid : Prop := clusterBackUptoRow.holds Try.pinned (OpenSpec.upto clusterBackSpec)

/-- 'boustrophedonlaw32.WordsKinds', WHERE WHAT IT READS IS OF BULK AT MOST 1048576: true; the input reads as it did. -/
def wordsKindsUptoRow : OpenClaim := { program := "ytphhgmhgkendaaa", sum := "8e3bcea185d1c0802b1d3e91067d2dcaca898e981da68309e41000864caca646", func := "boustrophedon/boustrophedonlaw32.WordsKinds", spec := "wordsKinds", apart := false, narrowed := true }
def WordsKindsUptoSaid : Prop := wordsKindsUptoRow.holds Try.pinned (OpenSpec.upto wordsKindsSpec)

/-- 'boustrophedonlaw32.WordsBreaks', WHERE WHAT IT READS IS OF BULK AT MOST 1048576: true; the input reads as it did. -/
def wordsBreaksUptoRow : OpenClaim := { program := "ytphhgmhgkendaaa", sum := "8e3bcea185d1c0802b1d3e91067d2dcaca898e981da68309e41000864caca646", func := "boustrophedon/boustrophedonlaw32.WordsBreaks", spec := "wordsBreaks", unfollowed := true, recurses := true, apart := false, narrowed := true }
def WordsBreaksUptoSaid : Prop := wordsBreaksUptoRow.holds Try.pinned (OpenSpec.upto wordsBreaksSpec)

/-- 'boustrophedonlaw32.WordsSpans', WHERE WHAT IT READS IS OF BULK AT MOST 1048576: true; the input reads as it did. -/
def wordsSpansUptoRow : OpenClaim := { program := "ytphhgmhgkendaaa", sum := "8e3bcea185d1c0802b1d3e91067d2dcaca898e981da68309e41000864caca646", func := "boustrophedon/boustrophedonlaw32.WordsSpans", spec := "wordsSpans", apart := false, narrowed := true }
def WordsSpansUptoSaid : Prop := wordsSpansUptoRow.holds Try.pinned (OpenSpec.upto wordsSpansSpec)

/-- 'boustrophedonlaw32.WordsPlain', WHERE WHAT IT READS IS OF BULK AT MOST 1048576: true; the input reads as it did. -/
def wordsPlainUptoRow : OpenClaim := { program := "ytphhgmhgkendaaa", sum := "8e3bcea185d1c0802b1d3e91067d2dcaca898e981da68309e41000864caca646", func := "boustrophedon/boustrophedonlaw32.WordsPlain", spec := "wordsPlain", apart := false, narrowed := true }
def WordsPlainUptoSaid : Prop := wordsPlainUptoRow.holds Try.pinned (OpenSpec.upto wordsPlainSpec)

end Rows
end Go.Proofs.Ytphhgmhgkendaaa
