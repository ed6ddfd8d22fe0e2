/-
  NARROWER THAN 'FOR EVERY INPUT', by the rows' own cells (each row's printed sentence says how): LexicalReads: laid · LexicalValues: loops, laid · LexicalBack: laid · LexicalPairs: loops, laid · LexicalLaws: laid.
  DERIVED. THE GIVEN ROWS OF THIS SEAT. 5 by the template 'for every input the law returns true; each argument reads behind the call as it read before'; 0 by the template 'total and deterministic' (their statements: YthoojcdjjecogaaGreatDoorTotals.lean).
  GIVEN WITH THE SEED: the statements are not yours to turn. If you find one false, say at which input.
  Laid BY PROGRAM, IN A SANDBOX (cutbox-rows.mjs): the forced cells as the released guide's own fill.sh prints them over the translation d133b818dbb9c026… (all of the seat's roots in one cut). By AI agents, Wed Nov 11 2026. No macro, syntax, notation, axiom, sorry.
-/
import Derived.Test.YthoojcdjjecogaaGreatDoorChecked
import GoSem.PinnedTables
import GoSem.Claim
import GoSem.ClaimJoined
import GoSem.ClaimMapViews
import Derived.JoinedTies
import Derived.KernelRfl
namespace Go.Proofs.YthoojcdjjecogaaGreatDoor
/- THE CELL 'sum', in the pinned program and in every row, IS THE sha256 OF THE DUMP (.gsa) THAT YthoojcdjjecogaaGreatDoorProg.lean LOADS. Nothing in Lean hashes anything: it is a label: what it is worth is what the hold of that sum in a sandbox is worth. -/
noncomputable def Tryz.pinned : Pinned := { name := "ythoojcdjjecogaagreatdoor", sum := "d133b818dbb9c026dfe784901779fa4faaa3b1f8ce005817428d2c95ecc3af9e", checked := Tryz.checked }
namespace Rows
def none {H : Type} : Left H := { results := [], args := [] }

/- WHAT THE LISTED PACKAGE-LEVEL VARIABLES READ AS WHEN THE CALL BEGINS. Each datum BY PROGRAM (the guide's laid-datum.mjs) off the statement by which the dump's own 'gosem.cut.vars' lays the variable. In a bare row this is a premise. The card (YthoojcdjjecogaaGreatDoorCards.lean) ties it to the program's text. -/
def laid_math_bits_deBruijn32tab {H : Type} : DataW H := .agg [.lit (.int .u8 0), .lit (.int .u8 1), .lit (.int .u8 28), .lit (.int .u8 2), .lit (.int .u8 29), .lit (.int .u8 14), .lit (.int .u8 24), .lit (.int .u8 3), .lit (.int .u8 30), .lit (.int .u8 22), .lit (.int .u8 20), .lit (.int .u8 15), .lit (.int .u8 25), .lit (.int .u8 17), .lit (.int .u8 4), .lit (.int .u8 8), .lit (.int .u8 31), .lit (.int .u8 27), .lit (.int .u8 13), .lit (.int .u8 23), .lit (.int .u8 21), .lit (.int .u8 19), .lit (.int .u8 16), .lit (.int .u8 7), .lit (.int .u8 26), .lit (.int .u8 12), .lit (.int .u8 18), .lit (.int .u8 6), .lit (.int .u8 11), .lit (.int .u8 5), .lit (.int .u8 10), .lit (.int .u8 9)]
def laid_math_bits_deBruijn64tab {H : Type} : DataW H := .agg [.lit (.int .u8 0), .lit (.int .u8 1), .lit (.int .u8 56), .lit (.int .u8 2), .lit (.int .u8 57), .lit (.int .u8 49), .lit (.int .u8 28), .lit (.int .u8 3), .lit (.int .u8 61), .lit (.int .u8 58), .lit (.int .u8 42), .lit (.int .u8 50), .lit (.int .u8 38), .lit (.int .u8 29), .lit (.int .u8 17), .lit (.int .u8 4), .lit (.int .u8 62), .lit (.int .u8 47), .lit (.int .u8 59), .lit (.int .u8 36), .lit (.int .u8 45), .lit (.int .u8 43), .lit (.int .u8 51), .lit (.int .u8 22), .lit (.int .u8 53), .lit (.int .u8 39), .lit (.int .u8 33), .lit (.int .u8 30), .lit (.int .u8 24), .lit (.int .u8 18), .lit (.int .u8 12), .lit (.int .u8 5), .lit (.int .u8 63), .lit (.int .u8 55), .lit (.int .u8 48), .lit (.int .u8 27), .lit (.int .u8 60), .lit (.int .u8 41), .lit (.int .u8 37), .lit (.int .u8 16), .lit (.int .u8 46), .lit (.int .u8 35), .lit (.int .u8 44), .lit (.int .u8 21), .lit (.int .u8 52), .lit (.int .u8 32), .lit (.int .u8 23), .lit (.int .u8 11), .lit (.int .u8 54), .lit (.int .u8 26), .lit (.int .u8 40), .lit (.int .u8 15), .lit (.int .u8 34), .lit (.int .u8 20), .lit (.int .u8 31), .lit (.int .u8 10), .lit (.int .u8 25), .lit (.int .u8 14), .lit (.int .u8 19), .lit (.int .u8 9), .lit (.int .u8 13), .lit (.int .u8 8), .lit (.int .u8 7), .lit (.int .u8 6)]
def laid_internal_strconv_uint64pow10 {H : Type} : DataW H := .agg [.lit (.int .u64 1), .lit (.int .u64 10), .lit (.int .u64 100), .lit (.int .u64 1000), .lit (.int .u64 10000), .lit (.int .u64 100000), .lit (.int .u64 1000000), .lit (.int .u64 10000000), .lit (.int .u64 100000000), .lit (.int .u64 1000000000), .lit (.int .u64 10000000000), .lit (.int .u64 100000000000), .lit (.int .u64 1000000000000), .lit (.int .u64 10000000000000), .lit (.int .u64 100000000000000), .lit (.int .u64 1000000000000000), .lit (.int .u64 10000000000000000), .lit (.int .u64 100000000000000000), .lit (.int .u64 1000000000000000000), .lit (.int .u64 10000000000000000000)]
def laid_unicode_utf8_acceptRanges {H : Type} : DataW H := .agg [.agg [.lit (.int .u8 128), .lit (.int .u8 191)], .agg [.lit (.int .u8 160), .lit (.int .u8 191)], .agg [.lit (.int .u8 128), .lit (.int .u8 159)], .agg [.lit (.int .u8 144), .lit (.int .u8 191)], .agg [.lit (.int .u8 128), .lit (.int .u8 143)], .agg [.lit (.int .u8 0), .lit (.int .u8 0)], .agg [.lit (.int .u8 0), .lit (.int .u8 0)], .agg [.lit (.int .u8 0), .lit (.int .u8 0)], .agg [.lit (.int .u8 0), .lit (.int .u8 0)], .agg [.lit (.int .u8 0), .lit (.int .u8 0)], .agg [.lit (.int .u8 0), .lit (.int .u8 0)], .agg [.lit (.int .u8 0), .lit (.int .u8 0)], .agg [.lit (.int .u8 0), .lit (.int .u8 0)], .agg [.lit (.int .u8 0), .lit (.int .u8 0)], .agg [.lit (.int .u8 0), .lit (.int .u8 0)], .agg [.lit (.int .u8 0), .lit (.int .u8 0)]]
def laid_strconv_ErrRange {H : Type} : DataW H := .iface "*errors.errorString" (.ptr (.agg [.lit (.string [118, 97, 108, 117, 101, 32, 111, 117, 116, 32, 111, 102, 32, 114, 97, 110, 103, 101])]))
def laid_strconv_ErrSyntax {H : Type} : DataW H := .iface "*errors.errorString" (.ptr (.agg [.lit (.string [105, 110, 118, 97, 108, 105, 100, 32, 115, 121, 110, 116, 97, 120])]))
def laid_gabarit_chars_ranges {H : Type} : DataW H := .agg [.agg [.lit (.int .i32 9), .lit (.int .i32 9)], .agg [.lit (.int .i32 10), .lit (.int .i32 10)], .agg [.lit (.int .i32 13), .lit (.int .i32 13)], .agg [.lit (.int .i32 32), .lit (.int .i32 55295)], .agg [.lit (.int .i32 57344), .lit (.int .i32 65533)], .agg [.lit (.int .i32 65536), .lit (.int .i32 1114111)]]
def laid_gabarit_moment_lengths {H : Type} : DataW H := .agg [.lit (.int .i64 31), .lit (.int .i64 28), .lit (.int .i64 31), .lit (.int .i64 30), .lit (.int .i64 31), .lit (.int .i64 30), .lit (.int .i64 31), .lit (.int .i64 31), .lit (.int .i64 30), .lit (.int .i64 31), .lit (.int .i64 30), .lit (.int .i64 31)]
/-- One of Go's own tables, pinned by name: the form's constant. -/
def laid_unicode_utf8_first : DataW Unit := Go.Pinned.utf8First

/-- 'gabaritlaw09.LexicalReads': WHATEVER THE INPUT: true; the input reads as it did. -/
def lexicalReadsSpec : ChangeSpec := { name := "lexicalReads", fn := fun _ => fun
  | [d1, d2] => { results := [.lit (.bool true)], args := [d1, d2] }
  | _ => none }
def lexicalReadsRow : OpenClaim := { program := "ythoojcdjjecogaagreatdoor", sum := "d133b818dbb9c026dfe784901779fa4faaa3b1f8ce005817428d2c95ecc3af9e", func := "gabarit/gabaritlaw09.LexicalReads", spec := "lexicalReads", inPlace := ["internal/bytealg.CountString", "internal/bytealg.IndexByteString", "internal/bytealg.IndexString", "internal/abi.NoEscape", "internal/bytealg.MakeNoZero"], unfollowed := true, recurses := true, named := ["gabarit/chars.ranges", "unicode/utf8.first", "unicode/utf8.acceptRanges", "internal/bytealg.MaxLen", "gabarit/moment.lengths", "internal/strconv.uint64pow10", "math/bits.deBruijn32tab", "math/bits.deBruijn64tab", "strconv.ErrSyntax", "strconv.ErrRange"], apart := false, laid := [("math/bits.deBruijn32tab", laid_math_bits_deBruijn32tab), ("math/bits.deBruijn64tab", laid_math_bits_deBruijn64tab), ("internal/strconv.uint64pow10", laid_internal_strconv_uint64pow10), ("unicode/utf8.acceptRanges", laid_unicode_utf8_acceptRanges), ("strconv.ErrRange", laid_strconv_ErrRange), ("strconv.ErrSyntax", laid_strconv_ErrSyntax), ("gabarit/chars.ranges", laid_gabarit_chars_ranges), ("gabarit/moment.lengths", laid_gabarit_moment_lengths), ("unicode/utf8.first", laid_unicode_utf8_first)] }
def LexicalReadsSaid : Prop := lexicalReadsRow.holds Tryz.pinned (OpenSpec.ofChange lexicalReadsSpec)

/-- ITS FALSE NEIGHBOUR: 'it returns false'. Refute it at one input. -/
def lexicalReadsWrong : ChangeSpec := { name := "lexicalReads", fn := fun _ => fun
  | [d1, d2] => { results := [.lit (.bool false)], args := [d1, d2] }
  | _ => none }
def LexicalReadsWrongFalsely : Prop := lexicalReadsRow.holds Tryz.pinned (OpenSpec.ofChange lexicalReadsWrong)

/-- 'gabaritlaw09.LexicalValues': WHATEVER THE INPUT: true; the input reads as it did. -/
def lexicalValuesSpec : ChangeSpec := { name := "lexicalValues", fn := fun _ => fun
  | [d] => { results := [.lit (.bool true)], args := [d] }
  | _ => none }
def lexicalValuesRow : OpenClaim := { program := "ythoojcdjjecogaagreatdoor", sum := "d133b818dbb9c026dfe784901779fa4faaa3b1f8ce005817428d2c95ecc3af9e", func := "gabarit/gabaritlaw09.LexicalValues", spec := "lexicalValues", inPlace := ["internal/bytealg.CountString", "internal/bytealg.IndexByteString", "internal/bytealg.IndexString", "internal/abi.NoEscape", "internal/bytealg.MakeNoZero"], unfollowed := true, recurses := true, named := ["gabarit/chars.ranges", "unicode/utf8.first", "unicode/utf8.acceptRanges", "internal/bytealg.MaxLen", "gabarit/moment.lengths", "internal/strconv.uint64pow10", "math/bits.deBruijn32tab", "math/bits.deBruijn64tab", "strconv.ErrSyntax", "strconv.ErrRange"], loops := true, apart := false, laid := [("math/bits.deBruijn32tab", laid_math_bits_deBruijn32tab), ("math/bits.deBruijn64tab", laid_math_bits_deBruijn64tab), ("internal/strconv.uint64pow10", laid_internal_strconv_uint64pow10), ("unicode/utf8.acceptRanges", laid_unicode_utf8_acceptRanges), ("strconv.ErrRange", laid_strconv_ErrRange), ("strconv.ErrSyntax", laid_strconv_ErrSyntax), ("gabarit/chars.ranges", laid_gabarit_chars_ranges), ("gabarit/moment.lengths", laid_gabarit_moment_lengths), ("unicode/utf8.first", laid_unicode_utf8_first)] }
def LexicalValuesSaid : Prop := lexicalValuesRow.holds Tryz.pinned (OpenSpec.ofChange lexicalValuesSpec)

/-- ITS FALSE NEIGHBOUR: 'it returns false'. Refute it at one input. -/
def lexicalValuesWrong : ChangeSpec := { name := "lexicalValues", fn := fun _ => fun
  | [d] => { results := [.lit (.bool false)], args := [d] }
  | _ => none }
def LexicalValuesWrongFalsely : Prop := lexicalValuesRow.holds Tryz.pinned (OpenSpec.ofChange lexicalValuesWrong)

/-- 'gabaritlaw09.LexicalBack': WHATEVER THE INPUT: true; the input reads as it did. -/
def lexicalBackSpec : ChangeSpec := { name := "lexicalBack", fn := fun _ => fun
  | [d1, d2] => { results := [.lit (.bool true)], args := [d1, d2] }
  | _ => none }
def lexicalBackRow : OpenClaim := { program := "ythoojcdjjecogaagreatdoor", sum := "d133b818dbb9c026dfe784901779fa4faaa3b1f8ce005817428d2c95ecc3af9e", func := "gabarit/gabaritlaw09.LexicalBack", spec := "lexicalBack", inPlace := ["internal/bytealg.CountString", "internal/bytealg.IndexByteString", "internal/bytealg.IndexString", "internal/abi.NoEscape", "internal/bytealg.MakeNoZero"], unfollowed := true, recurses := true, named := ["gabarit/chars.ranges", "unicode/utf8.first", "unicode/utf8.acceptRanges", "internal/bytealg.MaxLen", "gabarit/moment.lengths", "internal/strconv.uint64pow10", "math/bits.deBruijn32tab", "math/bits.deBruijn64tab", "strconv.ErrSyntax", "strconv.ErrRange"], apart := false, laid := [("math/bits.deBruijn32tab", laid_math_bits_deBruijn32tab), ("math/bits.deBruijn64tab", laid_math_bits_deBruijn64tab), ("internal/strconv.uint64pow10", laid_internal_strconv_uint64pow10), ("unicode/utf8.acceptRanges", laid_unicode_utf8_acceptRanges), ("strconv.ErrRange", laid_strconv_ErrRange), ("strconv.ErrSyntax", laid_strconv_ErrSyntax), ("gabarit/chars.ranges", laid_gabarit_chars_ranges), ("gabarit/moment.lengths", laid_gabarit_moment_lengths), ("unicode/utf8.first", laid_unicode_utf8_first)] }
def LexicalBackSaid : Prop := lexicalBackRow.holds Tryz.pinned (OpenSpec.ofChange lexicalBackSpec)

/-- ITS FALSE NEIGHBOUR: 'it returns false'. Refute it at one input. -/
def lexicalBackWrong : ChangeSpec := { name := "lexicalBack", fn := fun _ => fun
  | [d1, d2] => { results := [.lit (.bool false)], args := [d1, d2] }
  | _ => none }
def LexicalBackWrongFalsely : Prop := lexicalBackRow.holds Tryz.pinned (OpenSpec.ofChange lexicalBackWrong)

/-- 'gabaritlaw09.LexicalPairs': WHATEVER THE INPUT: true; the input reads as it did. -/
def lexicalPairsSpec : ChangeSpec := { name := "lexicalPairs", fn := fun _ => fun
  | [d1, d2] => { results := [.lit (.bool true)], args := [d1, d2] }
  | _ => none }
def lexicalPairsRow : OpenClaim := { program := "ythoojcdjjecogaagreatdoor", sum := "d133b818dbb9c026dfe784901779fa4faaa3b1f8ce005817428d2c95ecc3af9e", func := "gabarit/gabaritlaw09.LexicalPairs", spec := "lexicalPairs", inPlace := ["internal/bytealg.CountString", "internal/bytealg.IndexByteString", "internal/bytealg.IndexString", "internal/abi.NoEscape", "internal/bytealg.MakeNoZero"], unfollowed := true, recurses := true, named := ["gabarit/chars.ranges", "unicode/utf8.first", "unicode/utf8.acceptRanges", "internal/bytealg.MaxLen", "gabarit/moment.lengths", "internal/strconv.uint64pow10", "math/bits.deBruijn32tab", "math/bits.deBruijn64tab", "strconv.ErrSyntax", "strconv.ErrRange"], loops := true, apart := false, laid := [("math/bits.deBruijn32tab", laid_math_bits_deBruijn32tab), ("math/bits.deBruijn64tab", laid_math_bits_deBruijn64tab), ("internal/strconv.uint64pow10", laid_internal_strconv_uint64pow10), ("unicode/utf8.acceptRanges", laid_unicode_utf8_acceptRanges), ("strconv.ErrRange", laid_strconv_ErrRange), ("strconv.ErrSyntax", laid_strconv_ErrSyntax), ("gabarit/chars.ranges", laid_gabarit_chars_ranges), ("gabarit/moment.lengths", laid_gabarit_moment_lengths), ("unicode/utf8.first", laid_unicode_utf8_first)] }
def LexicalPairsSaid : Prop := lexicalPairsRow.holds Tryz.pinned (OpenSpec.ofChange lexicalPairsSpec)

/-- ITS FALSE NEIGHBOUR: 'it returns false'. Refute it at one input. -/
def lexicalPairsWrong : ChangeSpec := { name := "lexicalPairs", fn := fun _ => fun
  | [d1, d2] => { results := [.lit (.bool false)], args := [d1, d2] }
  | _ => none }
def LexicalPairsWrongFalsely : Prop := lexicalPairsRow.holds Tryz.pinned (OpenSpec.ofChange lexicalPairsWrong)

/-- 'gabaritlaw09.LexicalLaws': WHATEVER THE INPUT: true; the input reads as it did. -/
def lexicalLawsSpec : ChangeSpec := { name := "lexicalLaws", fn := fun _ => fun
  | [d1, d2, d3] => { results := [.lit (.bool true)], args := [d1, d2, d3] }
  | _ => none }
def lexicalLawsRow : OpenClaim := { program := "ythoojcdjjecogaagreatdoor", sum := "d133b818dbb9c026dfe784901779fa4faaa3b1f8ce005817428d2c95ecc3af9e", func := "gabarit/gabaritlaw09.LexicalLaws", spec := "lexicalLaws", inPlace := ["internal/bytealg.CountString", "internal/bytealg.IndexByteString", "internal/bytealg.IndexString", "internal/abi.NoEscape", "internal/bytealg.MakeNoZero"], unfollowed := true, recurses := true, named := ["gabarit/chars.ranges", "unicode/utf8.first", "unicode/utf8.acceptRanges", "internal/bytealg.MaxLen", "gabarit/moment.lengths", "internal/strconv.uint64pow10", "math/bits.deBruijn32tab", "math/bits.deBruijn64tab", "strconv.ErrSyntax", "strconv.ErrRange"], apart := false, laid := [("math/bits.deBruijn32tab", laid_math_bits_deBruijn32tab), ("math/bits.deBruijn64tab", laid_math_bits_deBruijn64tab), ("internal/strconv.uint64pow10", laid_internal_strconv_uint64pow10), ("unicode/utf8.acceptRanges", laid_unicode_utf8_acceptRanges), ("strconv.ErrRange", laid_strconv_ErrRange), ("strconv.ErrSyntax", laid_strconv_ErrSyntax), ("gabarit/chars.ranges", laid_gabarit_chars_ranges), ("gabarit/moment.lengths", laid_gabarit_moment_lengths), ("unicode/utf8.first", laid_unicode_utf8_first)] }
def LexicalLawsSaid : Prop := lexicalLawsRow.holds Tryz.pinned (OpenSpec.ofChange lexicalLawsSpec)

/-- ITS FALSE NEIGHBOUR: 'it returns false'. Refute it at one input. -/
def lexicalLawsWrong : ChangeSpec := { name := "lexicalLaws", fn := fun _ => fun
  | [d1, d2, d3] => { results := [.lit (.bool false)], args := [d1, d2, d3] }
  | _ => none }
def LexicalLawsWrongFalsely : Prop := lexicalLawsRow.holds Tryz.pinned (OpenSpec.ofChange lexicalLawsWrong)

/- THE SECOND FORM. 'bulk': how many values and letters a reading holds, each counted each time it is reached (what is shared counts as often as it is met; a slice's spare places count too). A statement '..UptoSaid' is the law's where the arguments, and the package variables that the reading takes, are together of bulk at most 1048576: NARROWER than '..Said'. Prove '..Said' where nothing that the law and all that it calls make is longer than what came in: it says more and counts as full. Else prove '..UptoSaid'. A law counts once. -/
mutual
def uptoBulk {H : Type} : DataW H → Nat
  | .lit (.string bytes) => bytes.length + 1
  | .lit _ => 1
  | .nil => 1
  | .ptr d => uptoBulk d + 1
  | .slice elems spare => uptoBulkAll elems + uptoBulkAll spare + 1
  | .agg parts => uptoBulkAll parts + 1
  | .iface _ d => uptoBulk d + 1
  | .map entries => uptoBulkEntries entries + 1
  | .held _ => 1
def uptoBulkAll {H : Type} : List (DataW H) → Nat
  | [] => 0
  | d :: r => uptoBulk d + uptoBulkAll r
def uptoBulkEntries {H : Type} : List (Lit × DataW H) → Nat
  | [] => 0
  | x :: r => uptoBulkEntry x + uptoBulkEntries r
def uptoBulkEntry {H : Type} : Lit × DataW H → Nat
  | (.string bytes, d) => bytes.length + uptoBulk d + 1
  | (_, d) => uptoBulk d + 1
 end
def uptoSmall : (H : Type) → List (DataW H) → Bool := fun _ ds => decide (uptoBulkAll ds ≤ 1048576)
def OpenSpec.upto (s : _root_.Go.ChangeSpec) : _root_.Go.OpenSpec := { _root_.Go.OpenSpec.ofChange s with cond := some uptoSmall }

/-- 'gabaritlaw09.LexicalReads', WHERE WHAT IT READS IS OF BULK AT MOST 1048576: true; the input reads as it did. -/
def lexicalReadsUptoRow : OpenClaim := { program := "ythoojcdjjecogaagreatdoor", sum := "d133b818dbb9c026dfe784901779fa4faaa3b1f8ce005817428d2c95ecc3af9e", func := "gabarit/gabaritlaw09.LexicalReads", spec := "lexicalReads", inPlace := ["internal/bytealg.CountString", "internal/bytealg.IndexByteString", "internal/bytealg.IndexString", "internal/abi.NoEscape", "internal/bytealg.MakeNoZero"], unfollowed := true, recurses := true, named := ["gabarit/chars.ranges", "unicode/utf8.first", "unicode/utf8.acceptRanges", "internal/bytealg.MaxLen", "gabarit/moment.lengths", "internal/strconv.uint64pow10", "math/bits.deBruijn32tab", "math/bits.deBruijn64tab", "strconv.ErrSyntax", "strconv.ErrRange"], apart := false, laid := [("math/bits.deBruijn32tab", laid_math_bits_deBruijn32tab), ("math/bits.deBruijn64tab", laid_math_bits_deBruijn64tab), ("internal/strconv.uint64pow10", laid_internal_strconv_uint64pow10), ("unicode/utf8.acceptRanges", laid_unicode_utf8_acceptRanges), ("strconv.ErrRange", laid_strconv_ErrRange), ("strconv.ErrSyntax", laid_strconv_ErrSyntax), ("gabarit/chars.ranges", laid_gabarit_chars_ranges), ("gabarit/moment.lengths", laid_gabarit_moment_lengths), ("unicode/utf8.first", laid_unicode_utf8_first)], narrowed := true }
def LexicalReadsUptoSaid : Prop := lexicalReadsUptoRow.holds Tryz.pinned (OpenSpec.upto lexicalReadsSpec)

/-- 'gabaritlaw09.LexicalValues', WHERE WHAT IT READS IS OF BULK AT MOST 1048576: true; the input reads as it did. -/
def lexicalValuesUptoRow : OpenClaim := { program := "ythoojcdjjecogaagreatdoor", sum := "d133b818dbb9c026dfe784901779fa4faaa3b1f8ce005817428d2c95ecc3af9e", func := "gabarit/gabaritlaw09.LexicalValues", spec := "lexicalValues", inPlace := ["internal/bytealg.CountString", "internal/bytealg.IndexByteString", "internal/bytealg.IndexString", "internal/abi.NoEscape", "internal/bytealg.MakeNoZero"], unfollowed := true, recurses := true, named := ["gabarit/chars.ranges", "unicode/utf8.first", "unicode/utf8.acceptRanges", "internal/bytealg.MaxLen", "gabarit/moment.lengths", "internal/strconv.uint64pow10", "math/bits.deBruijn32tab", "math/bits.deBruijn64tab", "strconv.ErrSyntax", "strconv.ErrRange"], loops := true, apart := false, laid := [("math/bits.deBruijn32tab", laid_math_bits_deBruijn32tab), ("math/bits.deBruijn64tab", laid_math_bits_deBruijn64tab), ("internal/strconv.uint64pow10", laid_internal_strconv_uint64pow10), ("unicode/utf8.acceptRanges", laid_unicode_utf8_acceptRanges), ("strconv.ErrRange", laid_strconv_ErrRange), ("strconv.ErrSyntax", laid_strconv_ErrSyntax), ("gabarit/chars.ranges", laid_gabarit_chars_ranges), ("gabarit/moment.lengths", laid_gabarit_moment_lengths), ("unicode/utf8.first", laid_unicode_utf8_first)], narrowed := true }
def LexicalValuesUptoSaid : Prop := lexicalValuesUptoRow.holds Tryz.pinned (OpenSpec.upto lexicalValuesSpec)

/-- 'gabaritlaw09.LexicalBack', WHERE WHAT IT READS IS OF BULK AT MOST 1048576: true; the input reads as it did. -/
def lexicalBackUptoRow : OpenClaim := { program := "ythoojcdjjecogaagreatdoor", sum := "d133b818dbb9c026dfe784901779fa4faaa3b1f8ce005817428d2c95ecc3af9e", func := "gabarit/gabaritlaw09.LexicalBack", spec := "lexicalBack", inPlace := ["internal/bytealg.CountString", "internal/bytealg.IndexByteString", "internal/bytealg.IndexString", "internal/abi.NoEscape", "internal/bytealg.MakeNoZero"], unfollowed := true, recurses := true, named := ["gabarit/chars.ranges", "unicode/utf8.first", "unicode/utf8.acceptRanges", "internal/bytealg.MaxLen", "gabarit/moment.lengths", "internal/strconv.uint64pow10", "math/bits.deBruijn32tab", "math/bits.deBruijn64tab", "strconv.ErrSyntax", "strconv.ErrRange"], apart := false, laid := [("math/bits.deBruijn32tab", laid_math_bits_deBruijn32tab), ("math/bits.deBruijn64tab", laid_math_bits_deBruijn64tab), ("internal/strconv.uint64pow10", laid_internal_strconv_uint64pow10), ("unicode/utf8.acceptRanges", laid_unicode_utf8_acceptRanges), ("strconv.ErrRange", laid_strconv_ErrRange), ("strconv.ErrSyntax", laid_strconv_ErrSyntax), ("gabarit/chars.ranges", laid_gabarit_chars_ranges), ("gabarit/moment.lengths", laid_gabarit_moment_lengths), ("unicode/utf8.first", laid_unicode_utf8_first)], narrowed := true }
def LexicalBackUptoSaid : Prop := lexicalBackUptoRow.holds Tryz.pinned (OpenSpec.upto lexicalBackSpec)

/-- 'gabaritlaw09.LexicalPairs', WHERE WHAT IT READS IS OF BULK AT MOST 1048576: true; the input reads as it did. -/
def lexicalPairsUptoRow : OpenClaim := { program := "ythoojcdjjecogaagreatdoor", sum := "d133b818dbb9c026dfe784901779fa4faaa3b1f8ce005817428d2c95ecc3af9e", func := "gabarit/gabaritlaw09.LexicalPairs", spec := "lexicalPairs", inPlace := ["internal/bytealg.CountString", "internal/bytealg.IndexByteString", "internal/bytealg.IndexString", "internal/abi.NoEscape", "internal/bytealg.MakeNoZero"], unfollowed := true, recurses := true, named := ["gabarit/chars.ranges", "unicode/utf8.first", "unicode/utf8.acceptRanges", "internal/bytealg.MaxLen", "gabarit/moment.lengths", "internal/strconv.uint64pow10", "math/bits.deBruijn32tab", "math/bits.deBruijn64tab", "strconv.ErrSyntax", "strconv.ErrRange"], loops := true, apart := false, laid := [("math/bits.deBruijn32tab", laid_math_bits_deBruijn32tab), ("math/bits.deBruijn64tab", laid_math_bits_deBruijn64tab), ("internal/strconv.uint64pow10", laid_internal_strconv_uint64pow10), ("unicode/utf8.acceptRanges", laid_unicode_utf8_acceptRanges), ("strconv.ErrRange", laid_strconv_ErrRange), ("strconv.ErrSyntax", laid_strconv_ErrSyntax), ("gabarit/chars.ranges", laid_gabarit_chars_ranges), ("gabarit/moment.lengths", laid_gabarit_moment_lengths), ("unicode/utf8.first", laid_unicode_utf8_first)], narrowed := true }
def LexicalPairsUptoSaid : Prop := lexicalPairsUptoRow.holds Tryz.pinned (OpenSpec.upto lexicalPairsSpec)

/-- 'gabaritlaw09.LexicalLaws', WHERE WHAT IT READS IS OF BULK AT MOST 1048576: true; the input reads as it did. -/
def lexicalLawsUptoRow : OpenClaim := { program := "ythoojcdjjecogaagreatdoor", sum := "d133b818dbb9c026dfe784901779fa4faaa3b1f8ce005817428d2c95ecc3af9e", func := "gabarit/gabaritlaw09.LexicalLaws", spec := "lexicalLaws", inPlace := ["internal/bytealg.CountString", "internal/bytealg.IndexByteString", "internal/bytealg.IndexString", "internal/abi.NoEscape", "internal/bytealg.MakeNoZero"], unfollowed := true, recurses := true, named := ["gabarit/chars.ranges", "unicode/utf8.first", "unicode/utf8.acceptRanges", "internal/bytealg.MaxLen", "gabarit/moment.lengths", "internal/strconv.uint64pow10", "math/bits.deBruijn32tab", "math/bits.deBruijn64tab", "strconv.ErrSyntax", "strconv.ErrRange"], apart := false, laid := [("math/bits.deBruijn32tab", laid_math_bits_deBruijn32tab), ("math/bits.deBruijn64tab", laid_math_bits_deBruijn64tab), ("internal/strconv.uint64pow10", laid_internal_strconv_uint64pow10), ("unicode/utf8.acceptRanges", laid_unicode_utf8_acceptRanges), ("strconv.ErrRange", laid_strconv_ErrRange), ("strconv.ErrSyntax", laid_strconv_ErrSyntax), ("gabarit/chars.ranges", laid_gabarit_chars_ranges), ("gabarit/moment.lengths", laid_gabarit_moment_lengths), ("unicode/utf8.first", laid_unicode_utf8_first)], narrowed := true }
def LexicalLawsUptoSaid : Prop := lexicalLawsUptoRow.holds Tryz.pinned (OpenSpec.upto lexicalLawsSpec)

end Rows
end Go.Proofs.YthoojcdjjecogaaGreatDoor
