/-
  No cell of these rows narrows 'for every input' (looked for: loops, veiled, ifaces, maps, wideKeys, modest, calm, conditions, laid).
  DERIVED. THE GIVEN ROWS OF THIS SEAT. 4 by the template 'for every input the law returns true; each argument reads behind the call as it read before'; 0 by the template 'total and deterministic' (their statements: YtkhcnneflcbnpaaTotals.lean).
  GIVEN WITH THE SEED: the statements are not yours to turn. If you find one false, say at which input.
  Laid BY PROGRAM, IN A SANDBOX (cutbox-rows.mjs): the forced cells as the released guide's own fill.sh prints them over the translation aba637850fe75b28… (all of the seat's roots in one cut). By AI agents, Wed Nov 11 2026. No macro, syntax, notation, axiom, sorry.
-/
import Derived.Test.YtkhcnneflcbnpaaChecked
import GoSem.Claim
import GoSem.ClaimJoined
import GoSem.ClaimMapViews
import Derived.JoinedTies
import Derived.KernelRfl
namespace Go.Proofs.Ytkhcnneflcbnpaa
/- THE CELL 'sum', in the pinned program and in every row, IS THE sha256 OF THE DUMP (.gsa) THAT YtkhcnneflcbnpaaProg.lean LOADS. Nothing in Lean hashes anything: it is a label: what it is worth is what the hold of that sum in a sandbox is worth. -/
noncomputable def Try.pinned : Pinned := { name := "ytkhcnneflcbnpaa", sum := "aba637850fe75b2805569d69045a2ed634d3f6f71d97c314b60593ea37d035b6", checked := Try.checked }
namespace Rows
def none {H : Type} : Left H := { results := [], args := [] }

/-- 'frisketlaw05.RegexMatches': WHATEVER THE INPUT: true; the input reads as it did. -/
def regexMatchesSpec : ChangeSpec := { name := "regexMatches", fn := fun _ => fun
  | [d1, d2] => { results := [.lit (.bool true)], args := [d1, d2] }
  | _ => none }
def regexMatchesRow : OpenClaim := { program := "ytkhcnneflcbnpaa", sum := "aba637850fe75b2805569d69045a2ed634d3f6f71d97c314b60593ea37d035b6", func := "frisket/frisketlaw05.RegexMatches", spec := "regexMatches", inPlace := ["internal/bytealg.IndexByteString"], recurses := true, apart := false }
def RegexMatchesSaid : Prop := regexMatchesRow.holds Try.pinned (OpenSpec.ofChange regexMatchesSpec)

/-- ITS FALSE NEIGHBOUR: 'it returns false'. Refute it at one input. -/
def regexMatchesWrong : ChangeSpec := { name := "regexMatches", fn := fun _ => fun
  | [d1, d2] => { results := [.lit (.bool false)], args := [d1, d2] }
  | _ => none }
def RegexMatchesWrongFalsely : Prop := regexMatchesRow.holds Try.pinned (OpenSpec.ofChange regexMatchesWrong)

/-- 'frisketlaw05.RegexMakes': WHATEVER THE INPUT: true; the input reads as it did. -/
def regexMakesSpec : ChangeSpec := { name := "regexMakes", fn := fun _ => fun
  | [d1, d2, d3] => { results := [.lit (.bool true)], args := [d1, d2, d3] }
  | _ => none }
def regexMakesRow : OpenClaim := { program := "ytkhcnneflcbnpaa", sum := "aba637850fe75b2805569d69045a2ed634d3f6f71d97c314b60593ea37d035b6", func := "frisket/frisketlaw05.RegexMakes", spec := "regexMakes", inPlace := ["internal/bytealg.IndexByteString"], recurses := true, apart := false }
def RegexMakesSaid : Prop := regexMakesRow.holds Try.pinned (OpenSpec.ofChange regexMakesSpec)

/-- ITS FALSE NEIGHBOUR: 'it returns false'. Refute it at one input. -/
def regexMakesWrong : ChangeSpec := { name := "regexMakes", fn := fun _ => fun
  | [d1, d2, d3] => { results := [.lit (.bool false)], args := [d1, d2, d3] }
  | _ => none }
def RegexMakesWrongFalsely : Prop := regexMakesRow.holds Try.pinned (OpenSpec.ofChange regexMakesWrong)

/-- 'frisketlaw05.RegexTurns': WHATEVER THE INPUT: true; the input reads as it did. -/
def regexTurnsSpec : ChangeSpec := { name := "regexTurns", fn := fun _ => fun
  | [d1, d2, d3] => { results := [.lit (.bool true)], args := [d1, d2, d3] }
  | _ => none }
def regexTurnsRow : OpenClaim := { program := "ytkhcnneflcbnpaa", sum := "aba637850fe75b2805569d69045a2ed634d3f6f71d97c314b60593ea37d035b6", func := "frisket/frisketlaw05.RegexTurns", spec := "regexTurns", inPlace := ["internal/bytealg.IndexByteString"], recurses := true, apart := false }
def RegexTurnsSaid : Prop := regexTurnsRow.holds Try.pinned (OpenSpec.ofChange regexTurnsSpec)

/-- ITS FALSE NEIGHBOUR: 'it returns false'. Refute it at one input. -/
def regexTurnsWrong : ChangeSpec := { name := "regexTurns", fn := fun _ => fun
  | [d1, d2, d3] => { results := [.lit (.bool false)], args := [d1, d2, d3] }
  | _ => none }
def RegexTurnsWrongFalsely : Prop := regexTurnsRow.holds Try.pinned (OpenSpec.ofChange regexTurnsWrong)

/-- 'frisketlaw05.RegexLiterals': WHATEVER THE INPUT: true; the input reads as it did. -/
def regexLiteralsSpec : ChangeSpec := { name := "regexLiterals", fn := fun _ => fun
  | [d1, d2] => { results := [.lit (.bool true)], args := [d1, d2] }
  | _ => none }
def regexLiteralsRow : OpenClaim := { program := "ytkhcnneflcbnpaa", sum := "aba637850fe75b2805569d69045a2ed634d3f6f71d97c314b60593ea37d035b6", func := "frisket/frisketlaw05.RegexLiterals", spec := "regexLiterals", inPlace := ["internal/bytealg.IndexByteString"], recurses := true, apart := false }
def RegexLiteralsSaid : Prop := regexLiteralsRow.holds Try.pinned (OpenSpec.ofChange regexLiteralsSpec)

/-- ITS FALSE NEIGHBOUR: 'it returns false'. Refute it at one input. -/
def regexLiteralsWrong : ChangeSpec := { name := "regexLiterals", fn := fun _ => fun
  | [d1, d2] => { results := [.lit (.bool false)], args := [d1, d2] }
  | _ => none }
def RegexLiteralsWrongFalsely : Prop := regexLiteralsRow.holds Try.pinned (OpenSpec.ofChange regexLiteralsWrong)

/- THE SECOND FORM. 'bulk': how many values and letters a reading holds, each counted each time it is reached (what is shared counts as often as it is met; a slice's spare places count too). A statement '..UptoSaid' is the law's where the arguments, and the package variables that the reading takes, are together of bulk at most 1048576: NARROWER than '..Said'. Prove '..Said' where nothing that the law and all that it calls make is longer than what came in: it says more and counts as full. Else prove '..UptoSaid'. A law counts once. -/
mutual
def uptoBulk {H : Type} : DataW H → Nat
  | .lit (.string bytes) => bytes.length + 1
  | .lit _ => 1
  | .nil => 1
  | .ptr d => uptoBulk d + 1
  | .slice elems spare => uptoBulkAll elems + uptoBulkAll spare + 1
  | .agg parts => uptoBulkAll parts + 1
  | .iface _ d => uptoBulk d + 1
  | .map entries => uptoBulkEntries entries + 1
  | .held _ => 1
def uptoBulkAll {H : Type} : List (DataW H) → Nat
  | [] => 0
  | d :: r => uptoBulk d + uptoBulkAll r
def uptoBulkEntries {H : Type} : List (Lit × DataW H) → Nat
  | [] => 0
  | x :: r => uptoBulkEntry x + uptoBulkEntries r
def uptoBulkEntry {H : Type} : Lit × DataW H → Nat
  | (.string bytes, d) => bytes.length + uptoBulk d + 1
  | (_, d) => uptoBulk d + 1
 end
def uptoSmall : (H : Type) → List (DataW H) → Bool := fun _ ds => decide (uptoBulkAll ds ≤ 1048576)
def OpenSpec.upto (s : _root_.Go.ChangeSpec) : _root_.Go.OpenSpec := { _root_.Go.OpenSpec.ofChange s with cond := some uptoSmall }

/-- 'frisketlaw05.RegexMatches', WHERE WHAT IT READS IS OF BULK AT MOST 1048576: true; the input reads as it did. -/
def regexMatchesUptoRow : OpenClaim := { program := "ytkhcnneflcbnpaa", sum := "aba637850fe75b2805569d69045a2ed634d3f6f71d97c314b60593ea37d035b6", func := "frisket/frisketlaw05.RegexMatches", spec := "regexMatches", inPlace := ["internal/bytealg.IndexByteString"], recurses := true, apart := false, narrowed := true }
def RegexMatchesUptoSaid : Prop := regexMatchesUptoRow.holds Try.pinned (OpenSpec.upto regexMatchesSpec)

/-- 'frisketlaw05.RegexMakes', WHERE WHAT IT READS IS OF BULK AT MOST 1048576: true; the input reads as it did. -/
def regexMakesUptoRow : OpenClaim := { program := "ytkhcnneflcbnpaa", sum := "aba637850fe75b2805569d69045a2ed634d3f6f71d97c314b60593ea37d035b6", func := "frisket/frisketlaw05.RegexMakes", spec := "regexMakes", inPlace := ["internal/bytealg.IndexByteString"], recurses := true, apart := false, narrowed := true }
def RegexMakesUptoSaid : Prop := regexMakesUptoRow.holds Try.pinned (OpenSpec.upto regexMakesSpec)

/-- 'frisketlaw05.RegexTurns', WHERE WHAT IT READS IS OF BULK AT MOST 1048576: true; the input reads as it did. -/
def regexTurnsUptoRow : OpenClaim := { program := "ytkhcnneflcbnpaa", sum := "aba637850fe75b2805569d69045a2ed634d3f6f71d97c314b60593ea37d035b6", func := "frisket/frisketlaw05.RegexTurns", spec := "regexTurns", inPlace := ["internal/bytealg.IndexByteString"], recurses := true, apart := false, narrowed := true }
def RegexTurnsUptoSaid : Prop := regexTurnsUptoRow.holds Try.pinned (OpenSpec.upto regexTurnsSpec)

/-- 'frisketlaw05.RegexLiterals', WHERE WHAT IT READS IS OF BULK AT MOST 1048576: true; the input reads as it did. -/
def regexLiteralsUptoRow : OpenClaim := { program := "ytkhcnneflcbnpaa", sum := "aba637850fe75b2805569d69045a2ed634d3f6f71d97c314b60593ea37d035b6", func := "frisket/frisketlaw05.RegexLiterals", spec := "regexLiterals", inPlace := ["internal/bytealg.IndexByteString"], recurses := true, apart := false, narrowed := true }
def RegexLiteralsUptoSaid : Prop := regexLiteralsUptoRow.holds Try.pinned (OpenSpec.upto regexLiteralsSpec)

end Rows
end Go.Proofs.Ytkhcnneflcbnpaa
