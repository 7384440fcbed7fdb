/-
  No cell of these rows narrows 'for every input' (looked for: loops, veiled, ifaces, maps, wideKeys, modest, calm, conditions, laid).
  DERIVED. THE GIVEN ROWS OF THIS SEAT. 13 by the template 'for every input the law returns true; each argument reads behind the call as it read before'; 0 by the template 'total and deterministic' (their statements: YtakcdoahpbeckaaTotals.lean).
  GIVEN WITH THE SEED: the statements are not yours to turn. If you find one false, say at which input.
  Laid BY PROGRAM, IN A SANDBOX (cutbox-rows.mjs): the forced cells as the released guide's own fill.sh prints them over the translation 8345d8315d1d000c… (all of the seat's roots in one cut). By AI agents, Wed Nov 11 2026. No macro, syntax, notation, axiom, sorry.
-/
import Derived.Test.YtakcdoahpbeckaaChecked
import GoSem.Claim
import GoSem.ClaimJoined
import GoSem.ClaimMapViews
import Derived.JoinedTies
import Derived.KernelRfl
namespace Go.Proofs.Ytakcdoahpbeckaa
/- THE CELL 'sum', in the pinned program and in every row, IS THE sha256 OF THE DUMP (.gsa) THAT YtakcdoahpbeckaaProg.lean LOADS. Nothing in Lean hashes anything: it is a label: what it is worth is what the hold of that sum in a sandbox is worth. -/
noncomputable def Try.pinned : Pinned := { name := "ytakcdoahpbeckaa", sum := "8345d8315d1d000cea74e930e76cde39ac83dadb16f46aec723c917bf0df1bd0", checked := Try.checked }
namespace Rows
def none {H : Type} : Left H := { results := [], args := [] }

/-- 'withylaw01.NumField': WHATEVER THE INPUT: true; the input reads as it did. -/
def numFieldSpec : ChangeSpec := { name := "numField", fn := fun _ => fun
  | [d1, d2, d3] => { results := [.lit (.bool true)], args := [d1, d2, d3] }
  | _ => none }
def numFieldRow : OpenClaim := { program := "ytakcdoahpbeckaa", sum := "8345d8315d1d000cea74e930e76cde39ac83dadb16f46aec723c917bf0df1bd0", func := "withy/withylaw01.NumField", spec := "numField", unfollowed := true, recurses := true, apart := false }
def NumFieldSaid : Prop := numFieldRow.holds Try.pinned (OpenSpec.ofChange numFieldSpec)

/-- ITS FALSE NEIGHBOUR: 'it returns false'. Refute it at one input. -/
def numFieldWrong : ChangeSpec := { name := "numField", fn := fun _ => fun
  | [d1, d2, d3] => { results := [.lit (.bool false)], args := [d1, d2, d3] }
  | _ => none }
def NumFieldWrongFalsely : Prop := numFieldRow.holds Try.pinned (OpenSpec.ofChange numFieldWrong)

/-- 'withylaw01.NumSimple': WHATEVER THE INPUT: true; the input reads as it did. -/
def numSimpleSpec : ChangeSpec := { name := "numSimple", fn := fun _ => fun
  | [d1, d2, d3] => { results := [.lit (.bool true)], args := [d1, d2, d3] }
  | _ => none }
def numSimpleRow : OpenClaim := { program := "ytakcdoahpbeckaa", sum := "8345d8315d1d000cea74e930e76cde39ac83dadb16f46aec723c917bf0df1bd0", func := "withy/withylaw01.NumSimple", spec := "numSimple", unfollowed := true, recurses := true, apart := false }
def NumSimpleSaid : Prop := numSimpleRow.holds Try.pinned (OpenSpec.ofChange numSimpleSpec)

/-- ITS FALSE NEIGHBOUR: 'it returns false'. Refute it at one input. -/
def numSimpleWrong : ChangeSpec := { name := "numSimple", fn := fun _ => fun
  | [d1, d2, d3] => { results := [.lit (.bool false)], args := [d1, d2, d3] }
  | _ => none }
def NumSimpleWrongFalsely : Prop := numSimpleRow.holds Try.pinned (OpenSpec.ofChange numSimpleWrong)

/-- 'withylaw01.NumRounds': WHATEVER THE INPUT: true; the input reads as it did. -/
def numRoundsSpec : ChangeSpec := { name := "numRounds", fn := fun _ => fun
  | [d1, d2] => { results := [.lit (.bool true)], args := [d1, d2] }
  | _ => none }
def numRoundsRow : OpenClaim := { program := "ytakcdoahpbeckaa", sum := "8345d8315d1d000cea74e930e76cde39ac83dadb16f46aec723c917bf0df1bd0", func := "withy/withylaw01.NumRounds", spec := "numRounds", unfollowed := true, recurses := true, apart := false }
def NumRoundsSaid : Prop := numRoundsRow.holds Try.pinned (OpenSpec.ofChange numRoundsSpec)

/-- ITS FALSE NEIGHBOUR: 'it returns false'. Refute it at one input. -/
def numRoundsWrong : ChangeSpec := { name := "numRounds", fn := fun _ => fun
  | [d1, d2] => { results := [.lit (.bool false)], args := [d1, d2] }
  | _ => none }
def NumRoundsWrongFalsely : Prop := numRoundsRow.holds Try.pinned (OpenSpec.ofChange numRoundsWrong)

/-- 'withylaw01.NumTexts': WHATEVER THE INPUT: true; the input reads as it did. -/
def numTextsSpec : ChangeSpec := { name := "numTexts", fn := fun _ => fun
  | [d1, d2] => { results := [.lit (.bool true)], args := [d1, d2] }
  | _ => none }
def numTextsRow : OpenClaim := { program := "ytakcdoahpbeckaa", sum := "8345d8315d1d000cea74e930e76cde39ac83dadb16f46aec723c917bf0df1bd0", func := "withy/withylaw01.NumTexts", spec := "numTexts", unfollowed := true, recurses := true, apart := false }
def NumTextsSaid : Prop := numTextsRow.holds Try.pinned (OpenSpec.ofChange numTextsSpec)

/-- ITS FALSE NEIGHBOUR: 'it returns false'. Refute it at one input. -/
def numTextsWrong : ChangeSpec := { name := "numTexts", fn := fun _ => fun
  | [d1, d2] => { results := [.lit (.bool false)], args := [d1, d2] }
  | _ => none }
def NumTextsWrongFalsely : Prop := numTextsRow.holds Try.pinned (OpenSpec.ofChange numTextsWrong)

/-- 'withylaw01.NumBack': WHATEVER THE INPUT: true; the input reads as it did. -/
def numBackSpec : ChangeSpec := { name := "numBack", fn := fun _ => fun
  | [d1, d2] => { results := [.lit (.bool true)], args := [d1, d2] }
  | _ => none }
def numBackRow : OpenClaim := { program := "ytakcdoahpbeckaa", sum := "8345d8315d1d000cea74e930e76cde39ac83dadb16f46aec723c917bf0df1bd0", func := "withy/withylaw01.NumBack", spec := "numBack", unfollowed := true, recurses := true, apart := false }
def NumBackSaid : Prop := numBackRow.holds Try.pinned (OpenSpec.ofChange numBackSpec)

/-- ITS FALSE NEIGHBOUR: 'it returns false'. Refute it at one input. -/
def numBackWrong : ChangeSpec := { name := "numBack", fn := fun _ => fun
  | [d1, d2] => { results := [.lit (.bool false)], args := [d1, d2] }
  | _ => none }
def NumBackWrongFalsely : Prop := numBackRow.holds Try.pinned (OpenSpec.ofChange numBackWrong)

/-- 'withylaw01.NumOrder': WHATEVER THE INPUT: true; the input reads as it did. -/
def numOrderSpec : ChangeSpec := { name := "numOrder", fn := fun _ => fun
  | [d1, d2, d3] => { results := [.lit (.bool true)], args := [d1, d2, d3] }
  | _ => none }
def numOrderRow : OpenClaim := { program := "ytakcdoahpbeckaa", sum := "8345d8315d1d000cea74e930e76cde39ac83dadb16f46aec723c917bf0df1bd0", func := "withy/withylaw01.NumOrder", spec := "numOrder", unfollowed := true, recurses := true, apart := false }
def NumOrderSaid : Prop := numOrderRow.holds Try.pinned (OpenSpec.ofChange numOrderSpec)

/-- ITS FALSE NEIGHBOUR: 'it returns false'. Refute it at one input. -/
def numOrderWrong : ChangeSpec := { name := "numOrder", fn := fun _ => fun
  | [d1, d2, d3] => { results := [.lit (.bool false)], args := [d1, d2, d3] }
  | _ => none }
def NumOrderWrongFalsely : Prop := numOrderRow.holds Try.pinned (OpenSpec.ofChange numOrderWrong)

/-- 'withylaw01.NumPowers': WHATEVER THE INPUT: true; the input reads as it did. -/
def numPowersSpec : ChangeSpec := { name := "numPowers", fn := fun _ => fun
  | [d1, d2, d3] => { results := [.lit (.bool true)], args := [d1, d2, d3] }
  | _ => none }
def numPowersRow : OpenClaim := { program := "ytakcdoahpbeckaa", sum := "8345d8315d1d000cea74e930e76cde39ac83dadb16f46aec723c917bf0df1bd0", func := "withy/withylaw01.NumPowers", spec := "numPowers", unfollowed := true, recurses := true, apart := false }
def NumPowersSaid : Prop := numPowersRow.holds Try.pinned (OpenSpec.ofChange numPowersSpec)

/-- ITS FALSE NEIGHBOUR: 'it returns false'. Refute it at one input. -/
def numPowersWrong : ChangeSpec := { name := "numPowers", fn := fun _ => fun
  | [d1, d2, d3] => { results := [.lit (.bool false)], args := [d1, d2, d3] }
  | _ => none }
def NumPowersWrongFalsely : Prop := numPowersRow.holds Try.pinned (OpenSpec.ofChange numPowersWrong)

/-- 'withylaw01.NumRounded': WHATEVER THE INPUT: true; the input reads as it did. -/
def numRoundedSpec : ChangeSpec := { name := "numRounded", fn := fun _ => fun
  | [d1, d2] => { results := [.lit (.bool true)], args := [d1, d2] }
  | _ => none }
def numRoundedRow : OpenClaim := { program := "ytakcdoahpbeckaa", sum := "8345d8315d1d000cea74e930e76cde39ac83dadb16f46aec723c917bf0df1bd0", func := "withy/withylaw01.NumRounded", spec := "numRounded", unfollowed := true, recurses := true, apart := false }
def NumRoundedSaid : Prop := numRoundedRow.holds Try.pinned (OpenSpec.ofChange numRoundedSpec)

/-- ITS FALSE NEIGHBOUR: 'it returns false'. Refute it at one input. -/
def numRoundedWrong : ChangeSpec := { name := "numRounded", fn := fun _ => fun
  | [d1, d2] => { results := [.lit (.bool false)], args := [d1, d2] }
  | _ => none }
def NumRoundedWrongFalsely : Prop := numRoundedRow.holds Try.pinned (OpenSpec.ofChange numRoundedWrong)

/-- 'withylaw01.NumBasics': WHATEVER THE INPUT: true; the input reads as it did. -/
def numBasicsSpec : ChangeSpec := { name := "numBasics", fn := fun _ => fun
  | [d1, d2, d3, d4] => { results := [.lit (.bool true)], args := [d1, d2, d3, d4] }
  | _ => none }
def numBasicsRow : OpenClaim := { program := "ytakcdoahpbeckaa", sum := "8345d8315d1d000cea74e930e76cde39ac83dadb16f46aec723c917bf0df1bd0", func := "withy/withylaw01.NumBasics", spec := "numBasics", unfollowed := true, recurses := true, apart := false }
def NumBasicsSaid : Prop := numBasicsRow.holds Try.pinned (OpenSpec.ofChange numBasicsSpec)

/-- ITS FALSE NEIGHBOUR: 'it returns false'. Refute it at one input. -/
def numBasicsWrong : ChangeSpec := { name := "numBasics", fn := fun _ => fun
  | [d1, d2, d3, d4] => { results := [.lit (.bool false)], args := [d1, d2, d3, d4] }
  | _ => none }
def NumBasicsWrongFalsely : Prop := numBasicsRow.holds Try.pinned (OpenSpec.ofChange numBasicsWrong)

/-- 'withylaw01.NumSums': WHATEVER THE INPUT: true; the input reads as it did. -/
def numSumsSpec : ChangeSpec := { name := "numSums", fn := fun _ => fun
  | [d1, d2, d3, d4] => { results := [.lit (.bool true)], args := [d1, d2, d3, d4] }
  | _ => none }
def numSumsRow : OpenClaim := { program := "ytakcdoahpbeckaa", sum := "8345d8315d1d000cea74e930e76cde39ac83dadb16f46aec723c917bf0df1bd0", func := "withy/withylaw01.NumSums", spec := "numSums", unfollowed := true, recurses := true, apart := false }
def NumSumsSaid : Prop := numSumsRow.holds Try.pinned (OpenSpec.ofChange numSumsSpec)

/-- ITS FALSE NEIGHBOUR: 'it returns false'. Refute it at one input. -/
def numSumsWrong : ChangeSpec := { name := "numSums", fn := fun _ => fun
  | [d1, d2, d3, d4] => { results := [.lit (.bool false)], args := [d1, d2, d3, d4] }
  | _ => none }
def NumSumsWrongFalsely : Prop := numSumsRow.holds Try.pinned (OpenSpec.ofChange numSumsWrong)

/-- 'withylaw01.NumNearest': WHATEVER THE INPUT: true; the input reads as it did. -/
def numNearestSpec : ChangeSpec := { name := "numNearest", fn := fun _ => fun
  | [d1, d2, d3] => { results := [.lit (.bool true)], args := [d1, d2, d3] }
  | _ => none }
def numNearestRow : OpenClaim := { program := "ytakcdoahpbeckaa", sum := "8345d8315d1d000cea74e930e76cde39ac83dadb16f46aec723c917bf0df1bd0", func := "withy/withylaw01.NumNearest", spec := "numNearest", unfollowed := true, recurses := true, apart := false }
def NumNearestSaid : Prop := numNearestRow.holds Try.pinned (OpenSpec.ofChange numNearestSpec)

/-- ITS FALSE NEIGHBOUR: 'it returns false'. Refute it at one input. -/
def numNearestWrong : ChangeSpec := { name := "numNearest", fn := fun _ => fun
  | [d1, d2, d3] => { results := [.lit (.bool false)], args := [d1, d2, d3] }
  | _ => none }
def NumNearestWrongFalsely : Prop := numNearestRow.holds Try.pinned (OpenSpec.ofChange numNearestWrong)

/-- 'withylaw01.NumUnique': WHATEVER THE INPUT: true; the input reads as it did. -/
def numUniqueSpec : ChangeSpec := { name := "numUnique", fn := fun _ => fun
  | [d1, d2] => { results := [.lit (.bool true)], args := [d1, d2] }
  | _ => none }
def numUniqueRow : OpenClaim := { program := "ytakcdoahpbeckaa", sum := "8345d8315d1d000cea74e930e76cde39ac83dadb16f46aec723c917bf0df1bd0", func := "withy/withylaw01.NumUnique", spec := "numUnique", unfollowed := true, recurses := true, apart := false }
def NumUniqueSaid : Prop := numUniqueRow.holds Try.pinned (OpenSpec.ofChange numUniqueSpec)

/-- ITS FALSE NEIGHBOUR: 'it returns false'. Refute it at one input. -/
def numUniqueWrong : ChangeSpec := { name := "numUnique", fn := fun _ => fun
  | [d1, d2] => { results := [.lit (.bool false)], args := [d1, d2] }
  | _ => none }
def NumUniqueWrongFalsely : Prop := numUniqueRow.holds Try.pinned (OpenSpec.ofChange numUniqueWrong)

/-- 'withylaw01.NumNears': WHATEVER THE INPUT: true; the input reads as it did. -/
def numNearsSpec : ChangeSpec := { name := "numNears", fn := fun _ => fun
  | [d1, d2, d3, d4] => { results := [.lit (.bool true)], args := [d1, d2, d3, d4] }
  | _ => none }
def numNearsRow : OpenClaim := { program := "ytakcdoahpbeckaa", sum := "8345d8315d1d000cea74e930e76cde39ac83dadb16f46aec723c917bf0df1bd0", func := "withy/withylaw01.NumNears", spec := "numNears", unfollowed := true, recurses := true, apart := false }
def NumNearsSaid : Prop := numNearsRow.holds Try.pinned (OpenSpec.ofChange numNearsSpec)

/-- ITS FALSE NEIGHBOUR: 'it returns false'. Refute it at one input. -/
def numNearsWrong : ChangeSpec := { name := "numNears", fn := fun _ => fun
  | [d1, d2, d3, d4] => { results := [.lit (.bool false)], args := [d1, d2, d3, d4] }
  | _ => none }
def NumNearsWrongFalsely : Prop := numNearsRow.holds Try.pinned (OpenSpec.ofChange numNearsWrong)

/- THE SECOND FORM. 'bulk': how many values and letters a reading holds, each counted each time it is reached (what is shared counts as often as it is met; a slice's spare places count too). A statement '..UptoSaid' is the law's where the arguments, and the package variables that the reading takes, are together of bulk at most 1048576: NARROWER than '..Said'. Prove '..Said' where nothing that the law and all that it calls make is longer than what came in: it says more and counts as full. Else prove '..UptoSaid'. A law counts once. -/
mutual
def uptoBulk {H : Type} : DataW H → Nat
  | .lit (.string bytes) => bytes.length + 1
  | .lit _ => 1
  | .nil => 1
  | .ptr d => uptoBulk d + 1
  | .slice elems spare => uptoBulkAll elems + uptoBulkAll spare + 1
  | .agg parts => uptoBulkAll parts + 1
  | .iface _ d => uptoBulk d + 1
  | .map entries => uptoBulkEntries entries + 1
  | .held _ => 1
def uptoBulkAll {H : Type} : List (DataW H) → Nat
  | [] => 0
  | d :: r => uptoBulk d + uptoBulkAll r
def uptoBulkEntries {H : Type} : List (Lit × DataW H) → Nat
  | [] => 0
  | x :: r => uptoBulkEntry x + uptoBulkEntries r
def uptoBulkEntry {H : Type} : Lit × DataW H → Nat
  | (.string bytes, d) => bytes.length + uptoBulk d + 1
  | (_, d) => uptoBulk d + 1
 end
def uptoSmall : (H : Type) → List (DataW H) → Bool := fun _ ds => decide (uptoBulkAll ds ≤ 1048576)
def OpenSpec.upto (s : _root_.Go.ChangeSpec) : _root_.Go.OpenSpec := { _root_.Go.OpenSpec.ofChange s with cond := some uptoSmall }

/-- 'withylaw01.NumField', WHERE WHAT IT READS IS OF BULK AT MOST 1048576: true; the input reads as it did. -/
def numFieldUptoRow : OpenClaim := { program := "ytakcdoahpbeckaa", sum := "8345d8315d1d000cea74e930e76cde39ac83dadb16f46aec723c917bf0df1bd0", func := "withy/withylaw01.NumField", spec := "numField", unfollowed := true, recurses := true, apart := false, narrowed := true }
def NumFieldUptoSaid : Prop := numFieldUptoRow.holds Try.pinned (OpenSpec.upto numFieldSpec)

/-- 'withylaw01.NumSimple', WHERE WHAT IT READS IS OF BULK AT MOST 1048576: true; the input reads as it did. -/
def numSimpleUptoRow : OpenClaim := { program := "ytakcdoahpbeckaa", sum := "8345d8315d1d000cea74e930e76cde39ac83dadb16f46aec723c917bf0df1bd0", func := "withy/withylaw01.NumSimple", spec := "numSimple", unfollowed := true, recurses := true, apart := false, narrowed := true }
def NumSimpleUptoSaid : Prop := numSimpleUptoRow.holds Try.pinned (OpenSpec.upto numSimpleSpec)

/-- 'withylaw01.NumRounds', WHERE WHAT IT READS IS OF BULK AT MOST 1048576: true; the input reads as it did. -/
def numRoundsUptoRow : OpenClaim := { program := "ytakcdoahpbeckaa", sum := "8345d8315d1d000cea74e930e76cde39ac83dadb16f46aec723c917bf0df1bd0", func := "withy/withylaw01.NumRounds", spec := "numRounds", unfollowed := true, recurses := true, apart := false, narrowed := true }
def NumRoundsUptoSaid : Prop := numRoundsUptoRow.holds Try.pinned (OpenSpec.upto numRoundsSpec)

/-- 'withylaw01.NumTexts', WHERE WHAT IT READS IS OF BULK AT MOST 1048576: true; the input reads as it did. -/
def numTextsUptoRow : OpenClaim := { program := "ytakcdoahpbeckaa", sum := "8345d8315d1d000cea74e930e76cde39ac83dadb16f46aec723c917bf0df1bd0", func := "withy/withylaw01.NumTexts", spec := "numTexts", unfollowed := true, recurses := true, apart := false, narrowed := true }
def NumTextsUptoSaid : Prop := numTextsUptoRow.holds Try.pinned (OpenSpec.upto numTextsSpec)

/-- 'withylaw01.NumBack', WHERE WHAT IT READS IS OF BULK AT MOST 1048576: true; the input reads as it did. -/
def numBackUptoRow : OpenClaim := { program := "ytakcdoahpbeckaa", sum := "8345d8315d1d000cea74e930e76cde39ac83dadb16f46aec723c917bf0df1bd0", func := "withy/withylaw01.NumBack", spec := "numBack", unfollowed := true, recurses := true, apart := false, narrowed := true }
def NumBackUptoSaid : Prop := numBackUptoRow.holds Try.pinned (OpenSpec.upto numBackSpec)

/-- 'withylaw01.NumOrder', WHERE WHAT IT READS IS OF BULK AT MOST 1048576: true; the input reads as it did. -/
def numOrderUptoRow : OpenClaim := { program := "ytakcdoahpbeckaa", sum := "8345d8315d1d000cea74e930e76cde39ac83dadb16f46aec723c917bf0df1bd0", func := "withy/withylaw01.NumOrder", spec := "numOrder", unfollowed := true, recurses := true, apart := false, narrowed := true }
def NumOrderUptoSaid : Prop := numOrderUptoRow.holds Try.pinned (OpenSpec.upto numOrderSpec)

/-- 'withylaw01.NumPowers', WHERE WHAT IT READS IS OF BULK AT MOST 1048576: true; the input reads as it did. -/
def numPowersUptoRow : OpenClaim := { program := "ytakcdoahpbeckaa", sum := "8345d8315d1d000cea74e930e76cde39ac83dadb16f46aec723c917bf0df1bd0", func := "withy/withylaw01.NumPowers", spec := "numPowers", unfollowed := true, recurses := true, apart := false, narrowed := true }
def NumPowersUptoSaid : Prop := numPowersUptoRow.holds Try.pinned (OpenSpec.upto numPowersSpec)

/-- 'withylaw01.NumRounded', WHERE WHAT IT READS IS OF BULK AT MOST 1048576: true; the input reads as it did. -/
def numRoundedUptoRow : OpenClaim := { program := "ytakcdoahpbeckaa", sum := "8345d8315d1d000cea74e930e76cde39ac83dadb16f46aec723c917bf0df1bd0", func := "withy/withylaw01.NumRounded", spec := "numRounded", unfollowed := true, recurses := true, apart := false, narrowed := true }
def NumRoundedUptoSaid : Prop := numRoundedUptoRow.holds Try.pinned (OpenSpec.upto numRoundedSpec)

/-- 'withylaw01.NumBasics', WHERE WHAT IT READS IS OF BULK AT MOST 1048576: true; the input reads as it did. -/
def numBasicsUptoRow : OpenClaim := { program := "ytakcdoahpbeckaa", sum := "8345d8315d1d000cea74e930e76cde39ac83dadb16f46aec723c917bf0df1bd0", func := "withy/withylaw01.NumBasics", spec := "numBasics", unfollowed := true, recurses := true, apart := false, narrowed := true }
def NumBasicsUptoSaid : Prop := numBasicsUptoRow.holds Try.pinned (OpenSpec.upto numBasicsSpec)

/-- 'withylaw01.NumSums', WHERE WHAT IT READS IS OF BULK AT MOST 1048576: true; the input reads as it did. -/
def numSumsUptoRow : OpenClaim := { program := "ytakcdoahpbeckaa", sum := "8345d8315d1d000cea74e930e76cde39ac83dadb16f46aec723c917bf0df1bd0", func := "withy/withylaw01.NumSums", spec := "numSums", unfollowed := true, recurses := true, apart := false, narrowed := true }
def NumSumsUptoSaid : Prop := numSumsUptoRow.holds Try.pinned (OpenSpec.upto numSumsSpec)

/-- 'withylaw01.NumNearest', WHERE WHAT IT READS IS OF BULK AT MOST 1048576: true; the input reads as it did. -/
def numNearestUptoRow : OpenClaim := { program := "ytakcdoahpbeckaa", sum := "8345d8315d1d000cea74e930e76cde39ac83dadb16f46aec723c917bf0df1bd0", func := "withy/withylaw01.NumNearest", spec := "numNearest", unfollowed := true, recurses := true, apart := false, narrowed := true }
def NumNearestUptoSaid : Prop := numNearestUptoRow.holds Try.pinned (OpenSpec.upto numNearestSpec)

/-- 'withylaw01.NumUnique', WHERE WHAT IT READS IS OF BULK AT MOST 1048576: true; the input reads as it did. -/
def numUniqueUptoRow : OpenClaim := { program := "ytakcdoahpbeckaa", sum := "8345d8315d1d000cea74e930e76cde39ac83dadb16f46aec723c917bf0df1bd0", func := "withy/withylaw01.NumUnique", spec := "numUnique", unfollowed := true, recurses := true, apart := false, narrowed := true }
def NumUniqueUptoSaid : Prop := numUniqueUptoRow.holds Try.pinned (OpenSpec.upto numUniqueSpec)

/-- 'withylaw01.NumNears', WHERE WHAT IT READS IS OF BULK AT MOST 1048576: true; the input reads as it did. -/
def numNearsUptoRow : OpenClaim := { program := "ytakcdoahpbeckaa", sum := "8345d8315d1d000cea74e930e76cde39ac83dadb16f46aec723c917bf0df1bd0", func := "withy/withylaw01.NumNears", spec := "numNears", unfollowed := true, recurses := true, apart := false, narrowed := true }
def NumNearsUptoSaid : Prop := numNearsUptoRow.holds Try.pinned (OpenSpec.upto numNearsSpec)

end Rows
end Go.Proofs.Ytakcdoahpbeckaa
