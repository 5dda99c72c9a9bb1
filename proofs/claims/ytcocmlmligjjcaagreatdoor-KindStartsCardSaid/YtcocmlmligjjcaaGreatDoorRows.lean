/-
  NARROWER THAN 'FOR EVERY INPUT', by the rows' own cells (each row's printed sentence says how): FrameNil: laid · CollectNil: laid · ShadowNil: laid · DeltaNil: laid · KindStarts: laid.
  DERIVED. THE GIVEN ROWS OF THIS SEAT. 5 by the template 'for every input the law returns true; each argument reads behind the call as it read before'; 0 by the template 'total and deterministic' (their statements: YtcocmlmligjjcaaGreatDoorTotals.lean).
  GIVEN WITH THE SEED: the statements are not yours to turn. If you find one false, say at which input.
  Laid BY PROGRAM, IN A SANDBOX (cutbox-rows.mjs): the forced cells as the released guide's own fill.sh prints them over the translation 73261ede5cd6882d… (all of the seat's roots in one cut). By AI agents, Wed Nov 11 2026. No macro, syntax, notation, axiom, sorry.
-/
import Derived.Test.YtcocmlmligjjcaaGreatDoorChecked
import GoSem.PinnedTables
import GoSem.Claim
import GoSem.ClaimJoined
import GoSem.ClaimMapViews
import Derived.JoinedTies
import Derived.KernelRfl
namespace Go.Proofs.YtcocmlmligjjcaaGreatDoor
/- THE CELL 'sum', in the pinned program and in every row, IS THE sha256 OF THE DUMP (.gsa) THAT YtcocmlmligjjcaaGreatDoorProg.lean LOADS. Nothing in Lean hashes anything: it is a label: what it is worth is what the hold of that sum in a sandbox is worth. -/
noncomputable def Tryz.pinned : Pinned := { name := "ytcocmlmligjjcaagreatdoor", sum := "73261ede5cd6882dc40fad2ff5068edfa39a4550a2bc4c7935e2ceb2f5e32b75", checked := Tryz.checked }
namespace Rows
def none {H : Type} : Left H := { results := [], args := [] }

/- WHAT THE LISTED PACKAGE-LEVEL VARIABLES READ AS WHEN THE CALL BEGINS. Each datum BY PROGRAM (the guide's laid-datum.mjs) off the statement by which the dump's own 'gosem.cut.vars' lays the variable. In a bare row this is a premise. The card (YtcocmlmligjjcaaGreatDoorCards.lean) ties it to the program's text. -/
def laid_unicode_utf8_acceptRanges {H : Type} : DataW H := .agg [.agg [.lit (.int .u8 128), .lit (.int .u8 191)], .agg [.lit (.int .u8 160), .lit (.int .u8 191)], .agg [.lit (.int .u8 128), .lit (.int .u8 159)], .agg [.lit (.int .u8 144), .lit (.int .u8 191)], .agg [.lit (.int .u8 128), .lit (.int .u8 143)], .agg [.lit (.int .u8 0), .lit (.int .u8 0)], .agg [.lit (.int .u8 0), .lit (.int .u8 0)], .agg [.lit (.int .u8 0), .lit (.int .u8 0)], .agg [.lit (.int .u8 0), .lit (.int .u8 0)], .agg [.lit (.int .u8 0), .lit (.int .u8 0)], .agg [.lit (.int .u8 0), .lit (.int .u8 0)], .agg [.lit (.int .u8 0), .lit (.int .u8 0)], .agg [.lit (.int .u8 0), .lit (.int .u8 0)], .agg [.lit (.int .u8 0), .lit (.int .u8 0)], .agg [.lit (.int .u8 0), .lit (.int .u8 0)], .agg [.lit (.int .u8 0), .lit (.int .u8 0)]]
def laid_hornbook_ins_forms {H : Type} : DataW H := .agg [.agg [.lit (.string [110, 111, 112]), .lit (.int .i64 0)], .agg [.lit (.string [105, 110, 116]), .lit (.int .i64 1)], .agg [.lit (.string [115, 116, 114]), .lit (.int .i64 2)], .agg [.lit (.string [116, 114, 117, 101]), .lit (.int .i64 0)], .agg [.lit (.string [102, 97, 108, 115, 101]), .lit (.int .i64 0)], .agg [.lit (.string [110, 117, 108, 108]), .lit (.int .i64 0)], .agg [.lit (.string [108, 111, 97, 100]), .lit (.int .i64 6)], .agg [.lit (.string [115, 116, 111, 114, 101]), .lit (.int .i64 6)], .agg [.lit (.string [112, 111, 112]), .lit (.int .i64 0)], .agg [.lit (.string [100, 117, 112]), .lit (.int .i64 0)], .agg [.lit (.string [97, 100, 100]), .lit (.int .i64 0)], .agg [.lit (.string [115, 117, 98]), .lit (.int .i64 0)], .agg [.lit (.string [109, 117, 108]), .lit (.int .i64 0)], .agg [.lit (.string [100, 105, 118]), .lit (.int .i64 0)], .agg [.lit (.string [114, 101, 109]), .lit (.int .i64 0)], .agg [.lit (.string [110, 101, 103]), .lit (.int .i64 0)], .agg [.lit (.string [110, 111, 116]), .lit (.int .i64 0)], .agg [.lit (.string [108, 116]), .lit (.int .i64 0)], .agg [.lit (.string [108, 101]), .lit (.int .i64 0)], .agg [.lit (.string [101, 113, 105]), .lit (.int .i64 0)], .agg [.lit (.string [101, 113, 98]), .lit (.int .i64 0)], .agg [.lit (.string [101, 113, 114]), .lit (.int .i64 0)], .agg [.lit (.string [106, 117, 109, 112]), .lit (.int .i64 7)], .agg [.lit (.string [106, 117, 109, 112, 116]), .lit (.int .i64 7)], .agg [.lit (.string [106, 117, 109, 112, 102]), .lit (.int .i64 7)], .agg [.lit (.string [110, 101, 119]), .lit (.int .i64 3)], .agg [.lit (.string [103, 101, 116, 102]), .lit (.int .i64 4)], .agg [.lit (.string [112, 117, 116, 102]), .lit (.int .i64 4)], .agg [.lit (.string [97, 114, 114]), .lit (.int .i64 3)], .agg [.lit (.string [97, 108, 111, 97, 100]), .lit (.int .i64 0)], .agg [.lit (.string [97, 115, 116, 111, 114, 101]), .lit (.int .i64 0)], .agg [.lit (.string [97, 108, 101, 110]), .lit (.int .i64 0)], .agg [.lit (.string [99, 97, 108, 108]), .lit (.int .i64 5)], .agg [.lit (.string [114, 101, 116]), .lit (.int .i64 0)], .agg [.lit (.string [114, 101, 116, 118]), .lit (.int .i64 0)], .agg [.lit (.string [116, 104, 114, 111, 119]), .lit (.int .i64 0)], .agg [.lit (.string [101, 110, 116, 101, 114]), .lit (.int .i64 0)], .agg [.lit (.string [101, 120, 105, 116]), .lit (.int .i64 0)], .agg [.lit (.string [99, 97, 115, 116]), .lit (.int .i64 3)], .agg [.lit (.string [105, 115]), .lit (.int .i64 3)], .agg [.lit (.string [112, 114, 105, 110, 116]), .lit (.int .i64 0)], .agg [.lit (.string [114, 101, 97, 100]), .lit (.int .i64 0)], .agg [.lit (.string [106, 111, 105, 110]), .lit (.int .i64 0)], .agg [.lit (.string [115, 108, 101, 110]), .lit (.int .i64 0)], .agg [.lit (.string [115, 112, 97, 119, 110]), .lit (.int .i64 0)], .agg [.lit (.string [111, 108, 100]), .lit (.int .i64 4)]]
/-- One of Go's own tables, pinned by name: the form's constant. -/
def laid_unicode_utf8_first : DataW Unit := Go.Pinned.utf8First

/-- 'hornbooklaw15.FrameNil': WHATEVER THE INPUT: true; the input reads as it did. -/
def frameNilSpec : ChangeSpec := { name := "frameNil", fn := fun _ => fun
  | [d1, d2] => { results := [.lit (.bool true)], args := [d1, d2] }
  | _ => none }
def frameNilRow : OpenClaim := { program := "ytcocmlmligjjcaagreatdoor", sum := "73261ede5cd6882dc40fad2ff5068edfa39a4550a2bc4c7935e2ceb2f5e32b75", func := "hornbook/hornbooklaw15.FrameNil", spec := "frameNil", inPlace := ["internal/bytealg.IndexByteString", "internal/bytealg.IndexString", "internal/abi.NoEscape", "internal/bytealg.MakeNoZero"], unfollowed := true, recurses := true, named := ["unicode/utf8.first", "unicode/utf8.acceptRanges", "hornbook/ins.forms", "internal/bytealg.MaxLen"], plainKeys := false, apart := false, laid := [("unicode/utf8.acceptRanges", laid_unicode_utf8_acceptRanges), ("hornbook/ins.forms", laid_hornbook_ins_forms), ("unicode/utf8.first", laid_unicode_utf8_first)] }
def FrameNilSaid : Prop := frameNilRow.holds Tryz.pinned (OpenSpec.ofChange frameNilSpec)

/-- ITS FALSE NEIGHBOUR: 'it returns false'. Refute it at one input. -/
def frameNilWrong : ChangeSpec := { name := "frameNil", fn := fun _ => fun
  | [d1, d2] => { results := [.lit (.bool false)], args := [d1, d2] }
  | _ => none }
def FrameNilWrongFalsely : Prop := frameNilRow.holds Tryz.pinned (OpenSpec.ofChange frameNilWrong)

/-- 'hornbooklaw13.CollectNil': WHATEVER THE INPUT: true; the input reads as it did. -/
def collectNilSpec : ChangeSpec := { name := "collectNil", fn := fun _ => fun
  | [d] => { results := [.lit (.bool true)], args := [d] }
  | _ => none }
def collectNilRow : OpenClaim := { program := "ytcocmlmligjjcaagreatdoor", sum := "73261ede5cd6882dc40fad2ff5068edfa39a4550a2bc4c7935e2ceb2f5e32b75", func := "hornbook/hornbooklaw13.CollectNil", spec := "collectNil", inPlace := ["internal/bytealg.IndexByteString", "internal/bytealg.IndexString", "internal/abi.NoEscape", "internal/bytealg.MakeNoZero"], unfollowed := true, recurses := true, named := ["unicode/utf8.first", "unicode/utf8.acceptRanges", "hornbook/ins.forms", "internal/bytealg.MaxLen"], plainKeys := false, apart := false, laid := [("unicode/utf8.acceptRanges", laid_unicode_utf8_acceptRanges), ("hornbook/ins.forms", laid_hornbook_ins_forms), ("unicode/utf8.first", laid_unicode_utf8_first)] }
def CollectNilSaid : Prop := collectNilRow.holds Tryz.pinned (OpenSpec.ofChange collectNilSpec)

/-- ITS FALSE NEIGHBOUR: 'it returns false'. Refute it at one input. -/
def collectNilWrong : ChangeSpec := { name := "collectNil", fn := fun _ => fun
  | [d] => { results := [.lit (.bool false)], args := [d] }
  | _ => none }
def CollectNilWrongFalsely : Prop := collectNilRow.holds Tryz.pinned (OpenSpec.ofChange collectNilWrong)

/-- 'hornbooklaw22.ShadowNil': WHATEVER THE INPUT: true; the input reads as it did. -/
def shadowNilSpec : ChangeSpec := { name := "shadowNil", fn := fun _ => fun
  | [d] => { results := [.lit (.bool true)], args := [d] }
  | _ => none }
def shadowNilRow : OpenClaim := { program := "ytcocmlmligjjcaagreatdoor", sum := "73261ede5cd6882dc40fad2ff5068edfa39a4550a2bc4c7935e2ceb2f5e32b75", func := "hornbook/hornbooklaw22.ShadowNil", spec := "shadowNil", inPlace := ["internal/bytealg.IndexByteString", "internal/bytealg.IndexString", "internal/abi.NoEscape", "internal/bytealg.MakeNoZero"], unfollowed := true, recurses := true, named := ["unicode/utf8.first", "unicode/utf8.acceptRanges", "hornbook/ins.forms", "internal/bytealg.MaxLen"], plainKeys := false, apart := false, laid := [("unicode/utf8.acceptRanges", laid_unicode_utf8_acceptRanges), ("hornbook/ins.forms", laid_hornbook_ins_forms), ("unicode/utf8.first", laid_unicode_utf8_first)] }
def ShadowNilSaid : Prop := shadowNilRow.holds Tryz.pinned (OpenSpec.ofChange shadowNilSpec)

/-- ITS FALSE NEIGHBOUR: 'it returns false'. Refute it at one input. -/
def shadowNilWrong : ChangeSpec := { name := "shadowNil", fn := fun _ => fun
  | [d] => { results := [.lit (.bool false)], args := [d] }
  | _ => none }
def ShadowNilWrongFalsely : Prop := shadowNilRow.holds Tryz.pinned (OpenSpec.ofChange shadowNilWrong)

/-- 'hornbooklaw20.DeltaNil': WHATEVER THE INPUT: true; the input reads as it did. -/
def deltaNilSpec : ChangeSpec := { name := "deltaNil", fn := fun _ => fun
  | [d] => { results := [.lit (.bool true)], args := [d] }
  | _ => none }
def deltaNilRow : OpenClaim := { program := "ytcocmlmligjjcaagreatdoor", sum := "73261ede5cd6882dc40fad2ff5068edfa39a4550a2bc4c7935e2ceb2f5e32b75", func := "hornbook/hornbooklaw20.DeltaNil", spec := "deltaNil", inPlace := ["internal/bytealg.IndexByteString", "internal/bytealg.IndexString", "internal/abi.NoEscape", "internal/bytealg.MakeNoZero"], unfollowed := true, recurses := true, named := ["unicode/utf8.first", "unicode/utf8.acceptRanges", "hornbook/ins.forms", "internal/bytealg.MaxLen"], plainKeys := false, apart := false, laid := [("unicode/utf8.acceptRanges", laid_unicode_utf8_acceptRanges), ("hornbook/ins.forms", laid_hornbook_ins_forms), ("unicode/utf8.first", laid_unicode_utf8_first)] }
def DeltaNilSaid : Prop := deltaNilRow.holds Tryz.pinned (OpenSpec.ofChange deltaNilSpec)

/-- ITS FALSE NEIGHBOUR: 'it returns false'. Refute it at one input. -/
def deltaNilWrong : ChangeSpec := { name := "deltaNil", fn := fun _ => fun
  | [d] => { results := [.lit (.bool false)], args := [d] }
  | _ => none }
def DeltaNilWrongFalsely : Prop := deltaNilRow.holds Tryz.pinned (OpenSpec.ofChange deltaNilWrong)

/-- 'hornbooklaw09.KindStarts': WHATEVER THE INPUT: true; the input reads as it did. -/
def kindStartsSpec : ChangeSpec := { name := "kindStarts", fn := fun _ => fun
  | [d1, d2, d3] => { results := [.lit (.bool true)], args := [d1, d2, d3] }
  | _ => none }
def kindStartsRow : OpenClaim := { program := "ytcocmlmligjjcaagreatdoor", sum := "73261ede5cd6882dc40fad2ff5068edfa39a4550a2bc4c7935e2ceb2f5e32b75", func := "hornbook/hornbooklaw09.KindStarts", spec := "kindStarts", inPlace := ["internal/bytealg.IndexByteString", "internal/bytealg.IndexString", "internal/abi.NoEscape", "internal/bytealg.MakeNoZero"], unfollowed := true, recurses := true, named := ["unicode/utf8.first", "unicode/utf8.acceptRanges", "hornbook/ins.forms", "internal/bytealg.MaxLen"], plainKeys := false, apart := false, laid := [("unicode/utf8.acceptRanges", laid_unicode_utf8_acceptRanges), ("hornbook/ins.forms", laid_hornbook_ins_forms), ("unicode/utf8.first", laid_unicode_utf8_first)] }
def KindStartsSaid : Prop := kindStartsRow.holds Tryz.pinned (OpenSpec.ofChange kindStartsSpec)

/-- ITS FALSE NEIGHBOUR: 'it returns false'. Refute it at one input. -/
def kindStartsWrong : ChangeSpec := { name := "kindStarts", fn := fun _ => fun
  | [d1, d2, d3] => { results := [.lit (.bool false)], args := [d1, d2, d3] }
  | _ => none }
def KindStartsWrongFalsely : Prop := kindStartsRow.holds Tryz.pinned (OpenSpec.ofChange kindStartsWrong)

/- THE SECOND FORM. 'bulk': how many values and letters a reading holds, each counted each time it is reached (what is shared counts as often as it is met; a slice's spare places count too). A statement '..UptoSaid' is the law's where the arguments, and the package variables that the reading takes, are together of bulk at most 1048576: NARROWER than '..Said'. Prove '..Said' where nothing that the law and all that it calls make is longer than what came in: it says more and counts as full. Else prove '..UptoSaid'. A law counts once. -/
mutual
def uptoBulk {H : Type} : DataW H → Nat
  | .lit (.string bytes) => bytes.length + 1
  | .lit _ => 1
  | .nil => 1
  | .ptr d => uptoBulk d + 1
  | .slice elems spare => uptoBulkAll elems + uptoBulkAll spare + 1
  | .agg parts => uptoBulkAll parts + 1
  | .iface _ d => uptoBulk d + 1
  | .map entries => uptoBulkEntries entries + 1
  | .held _ => 1
def uptoBulkAll {H : Type} : List (DataW H) → Nat
  | [] => 0
  | d :: r => uptoBulk d + uptoBulkAll r
def uptoBulkEntries {H : Type} : List (Lit × DataW H) → Nat
  | [] => 0
  | x :: r => uptoBulkEntry x + uptoBulkEntries r
def uptoBulkEntry {H : Type} : Lit × DataW H → Nat
  | (.string bytes, d) => bytes.length + uptoBulk d + 1
  | (_, d) => uptoBulk d + 1
 end
def uptoSmall : (H : Type) → List (DataW H) → Bool := fun _ ds => decide (uptoBulkAll ds ≤ 1048576)
def OpenSpec.upto (s : _root_.Go.ChangeSpec) : _root_.Go.OpenSpec := { _root_.Go.OpenSpec.ofChange s with cond := some uptoSmall }

/-- 'hornbooklaw15.FrameNil', WHERE WHAT IT READS IS OF BULK AT MOST 1048576: true; the input reads as it did. -/
def frameNilUptoRow : OpenClaim := { program := "ytcocmlmligjjcaagreatdoor", sum := "73261ede5cd6882dc40fad2ff5068edfa39a4550a2bc4c7935e2ceb2f5e32b75", func := "hornbook/hornbooklaw15.FrameNil", spec := "frameNil", inPlace := ["internal/bytealg.IndexByteString", "internal/bytealg.IndexString", "internal/abi.NoEscape", "internal/bytealg.MakeNoZero"], unfollowed := true, recurses := true, named := ["unicode/utf8.first", "unicode/utf8.acceptRanges", "hornbook/ins.forms", "internal/bytealg.MaxLen"], plainKeys := false, apart := false, laid := [("unicode/utf8.acceptRanges", laid_unicode_utf8_acceptRanges), ("hornbook/ins.forms", laid_hornbook_ins_forms), ("unicode/utf8.first", laid_unicode_utf8_first)], narrowed := true }
def FrameNilUptoSaid : Prop := frameNilUptoRow.holds Tryz.pinned (OpenSpec.upto frameNilSpec)

/-- 'hornbooklaw13.CollectNil', WHERE WHAT IT READS IS OF BULK AT MOST 1048576: true; the input reads as it did. -/
def collectNilUptoRow : OpenClaim := { program := "ytcocmlmligjjcaagreatdoor", sum := "73261ede5cd6882dc40fad2ff5068edfa39a4550a2bc4c7935e2ceb2f5e32b75", func := "hornbook/hornbooklaw13.CollectNil", spec := "collectNil", inPlace := ["internal/bytealg.IndexByteString", "internal/bytealg.IndexString", "internal/abi.NoEscape", "internal/bytealg.MakeNoZero"], unfollowed := true, recurses := true, named := ["unicode/utf8.first", "unicode/utf8.acceptRanges", "hornbook/ins.forms", "internal/bytealg.MaxLen"], plainKeys := false, apart := false, laid := [("unicode/utf8.acceptRanges", laid_unicode_utf8_acceptRanges), ("hornbook/ins.forms", laid_hornbook_ins_forms), ("unicode/utf8.first", laid_unicode_utf8_first)], narrowed := true }
def CollectNilUptoSaid : Prop := collectNilUptoRow.holds Tryz.pinned (OpenSpec.upto collectNilSpec)

/-- 'hornbooklaw22.ShadowNil', WHERE WHAT IT READS IS OF BULK AT MOST 1048576: true; the input reads as it did. -/
def shadowNilUptoRow : OpenClaim := { program := "ytcocmlmligjjcaagreatdoor", sum := "73261ede5cd6882dc40fad2ff5068edfa39a4550a2bc4c7935e2ceb2f5e32b75", func := "hornbook/hornbooklaw22.ShadowNil", spec := "shadowNil", inPlace := ["internal/bytealg.IndexByteString", "internal/bytealg.IndexString", "internal/abi.NoEscape", "internal/bytealg.MakeNoZero"], unfollowed := true, recurses := true, named := ["unicode/utf8.first", "unicode/utf8.acceptRanges", "hornbook/ins.forms", "internal/bytealg.MaxLen"], plainKeys := false, apart := false, laid := [("unicode/utf8.acceptRanges", laid_unicode_utf8_acceptRanges), ("hornbook/ins.forms", laid_hornbook_ins_forms), ("unicode/utf8.first", laid_unicode_utf8_first)], narrowed := true }
def ShadowNilUptoSaid : Prop := shadowNilUptoRow.holds Tryz.pinned (OpenSpec.upto shadowNilSpec)

/-- 'hornbooklaw20.DeltaNil', WHERE WHAT IT READS IS OF BULK AT MOST 1048576: true; the input reads as it did. -/
def deltaNilUptoRow : OpenClaim := { program := "ytcocmlmligjjcaagreatdoor", sum := "73261ede5cd6882dc40fad2ff5068edfa39a4550a2bc4c7935e2ceb2f5e32b75", func := "hornbook/hornbooklaw20.DeltaNil", spec := "deltaNil", inPlace := ["internal/bytealg.IndexByteString", "internal/bytealg.IndexString", "internal/abi.NoEscape", "internal/bytealg.MakeNoZero"], unfollowed := true, recurses := true, named := ["unicode/utf8.first", "unicode/utf8.acceptRanges", "hornbook/ins.forms", "internal/bytealg.MaxLen"], plainKeys := false, apart := false, laid := [("unicode/utf8.acceptRanges", laid_unicode_utf8_acceptRanges), ("hornbook/ins.forms", laid_hornbook_ins_forms), ("unicode/utf8.first", laid_unicode_utf8_first)], narrowed := true }
def DeltaNilUptoSaid : Prop := deltaNilUptoRow.holds Tryz.pinned (OpenSpec.upto deltaNilSpec)

/-- 'hornbooklaw09.KindStarts', WHERE WHAT IT READS IS OF BULK AT MOST 1048576: true; the input reads as it did. -/
def kindStartsUptoRow : OpenClaim := { program := "ytcocmlmligjjcaagreatdoor", sum := "73261ede5cd6882dc40fad2ff5068edfa39a4550a2bc4c7935e2ceb2f5e32b75", func := "hornbook/hornbooklaw09.KindStarts", spec := "kindStarts", inPlace := ["internal/bytealg.IndexByteString", "internal/bytealg.IndexString", "internal/abi.NoEscape", "internal/bytealg.MakeNoZero"], unfollowed := true, recurses := true, named := ["unicode/utf8.first", "unicode/utf8.acceptRanges", "hornbook/ins.forms", "internal/bytealg.MaxLen"], plainKeys := false, apart := false, laid := [("unicode/utf8.acceptRanges", laid_unicode_utf8_acceptRanges), ("hornbook/ins.forms", laid_hornbook_ins_forms), ("unicode/utf8.first", laid_unicode_utf8_first)], narrowed := true }
def KindStartsUptoSaid : Prop := kindStartsUptoRow.holds Tryz.pinned (OpenSpec.upto kindStartsSpec)

end Rows
end Go.Proofs.YtcocmlmligjjcaaGreatDoor
