/-
  NARROWER THAN 'FOR EVERY INPUT', by the rows' own cells (each row's printed sentence says how): AttrsRight: laid · AttrsSame: laid · AttrsPuts: laid · AttrsBack: laid · AttrsNarrow: laid.
  DERIVED. THE GIVEN ROWS OF THIS SEAT. 5 by the template 'for every input the law returns true; each argument reads behind the call as it read before'; 0 by the template 'total and deterministic' (their statements: YtajeoodipplmlaaDoorTotals.lean).
  GIVEN WITH THE SEED: the statements are not yours to turn. If you find one false, say at which input.
  Laid BY PROGRAM, IN A SANDBOX (cutbox-rows.mjs): the forced cells as the released guide's own fill.sh prints them over the translation f48306a94e143450… (all of the seat's roots in one cut). By AI agents, Wed Nov 11 2026. No macro, syntax, notation, axiom, sorry.
-/
import Derived.Test.YtajeoodipplmlaaDoorChecked
import GoSem.Claim
import GoSem.ClaimJoined
import GoSem.ClaimMapViews
import Derived.JoinedTies
import Derived.KernelRfl
namespace Go.Proofs.YtajeoodipplmlaaDoor
/- THE CELL 'sum', in the pinned program and in every row, IS THE sha256 OF THE DUMP (.gsa) THAT YtajeoodipplmlaaDoorProg.lean LOADS. Nothing in Lean hashes anything: it is a label: what it is worth is what the hold of that sum in a sandbox is worth. -/
noncomputable def Tryd.pinned : Pinned := { name := "ytajeoodipplmlaadoor", sum := "f48306a94e143450438d9fe646347f6fd58cf0f6eeb4b39dbe48648dc1615e93", checked := Tryd.checked }
namespace Rows
def none {H : Type} : Left H := { results := [], args := [] }

/- WHAT THE LISTED PACKAGE-LEVEL VARIABLES READ AS WHEN THE CALL BEGINS. Each datum BY PROGRAM (the guide's laid-datum.mjs) off the statement by which the dump's own 'gosem.cut.vars' lays the variable. In a bare row this is a premise. The card (YtajeoodipplmlaaDoorCards.lean) ties it to the program's text. -/
def laid_speculum_attrs_looks {H : Type} : DataW H := .agg [.agg [.lit (.int .i64 0), .lit (.int .i64 0), .lit (.int .i64 0)], .agg [.lit (.int .i64 64), .lit (.int .i64 1), .lit (.int .i64 1)], .agg [.lit (.int .i64 64), .lit (.int .i64 0), .lit (.int .i64 65536)], .agg [.lit (.int .i64 64), .lit (.int .i64 4), .lit (.int .i64 4)], .agg [.lit (.int .i64 128), .lit (.int .i64 4), .lit (.int .i64 4)], .agg [.lit (.int .i64 64), .lit (.int .i64 4), .lit (.int .i64 4)], .agg [.lit (.int .i64 64), .lit (.int .i64 0), .lit (.int .i64 0)], .agg [.lit (.int .i64 192), .lit (.int .i64 6), .lit (.int .i64 8)], .agg [.lit (.int .i64 192), .lit (.int .i64 0), .lit (.int .i64 65536)], .agg [.lit (.int .i64 0), .lit (.int .i64 0), .lit (.int .i64 0)], .agg [.lit (.int .i64 0), .lit (.int .i64 0), .lit (.int .i64 0)], .agg [.lit (.int .i64 0), .lit (.int .i64 0), .lit (.int .i64 0)], .agg [.lit (.int .i64 0), .lit (.int .i64 0), .lit (.int .i64 0)], .agg [.lit (.int .i64 0), .lit (.int .i64 0), .lit (.int .i64 0)], .agg [.lit (.int .i64 0), .lit (.int .i64 0), .lit (.int .i64 0)], .agg [.lit (.int .i64 0), .lit (.int .i64 0), .lit (.int .i64 0)], .agg [.lit (.int .i64 0), .lit (.int .i64 0), .lit (.int .i64 0)], .agg [.lit (.int .i64 192), .lit (.int .i64 0), .lit (.int .i64 65536)], .agg [.lit (.int .i64 192), .lit (.int .i64 0), .lit (.int .i64 65536)]]

/-- 'speculumlaw04.AttrsRight': WHATEVER THE INPUT: true; the input reads as it did. -/
def attrsRightSpec : ChangeSpec := { name := "attrsRight", fn := fun _ => fun
  | [d1, d2, d3] => { results := [.lit (.bool true)], args := [d1, d2, d3] }
  | _ => none }
def attrsRightRow : OpenClaim := { program := "ytajeoodipplmlaadoor", sum := "f48306a94e143450438d9fe646347f6fd58cf0f6eeb4b39dbe48648dc1615e93", func := "speculum/speculumlaw04.AttrsRight", spec := "attrsRight", inPlace := ["slices.overlaps[speculum/api.Raw]"], unfollowed := true, recurses := true, named := ["speculum/attrs.looks"], apart := false, laid := [("speculum/attrs.looks", laid_speculum_attrs_looks)] }
def AttrsRightSaid : Prop := attrsRightRow.holds Tryd.pinned (OpenSpec.ofChange attrsRightSpec)

/-- ITS FALSE NEIGHBOUR: 'it returns false'. Refute it at one input. -/
def attrsRightWrong : ChangeSpec := { name := "attrsRight", fn := fun _ => fun
  | [d1, d2, d3] => { results := [.lit (.bool false)], args := [d1, d2, d3] }
  | _ => none }
def AttrsRightWrongFalsely : Prop := attrsRightRow.holds Tryd.pinned (OpenSpec.ofChange attrsRightWrong)

/-- 'speculumlaw04.AttrsSame': WHATEVER THE INPUT: true; the input reads as it did. -/
def attrsSameSpec : ChangeSpec := { name := "attrsSame", fn := fun _ => fun
  | [d1, d2] => { results := [.lit (.bool true)], args := [d1, d2] }
  | _ => none }
def attrsSameRow : OpenClaim := { program := "ytajeoodipplmlaadoor", sum := "f48306a94e143450438d9fe646347f6fd58cf0f6eeb4b39dbe48648dc1615e93", func := "speculum/speculumlaw04.AttrsSame", spec := "attrsSame", inPlace := ["slices.overlaps[speculum/api.Raw]"], unfollowed := true, recurses := true, named := ["speculum/attrs.looks"], apart := false, laid := [("speculum/attrs.looks", laid_speculum_attrs_looks)] }
def AttrsSameSaid : Prop := attrsSameRow.holds Tryd.pinned (OpenSpec.ofChange attrsSameSpec)

/-- ITS FALSE NEIGHBOUR: 'it returns false'. Refute it at one input. -/
def attrsSameWrong : ChangeSpec := { name := "attrsSame", fn := fun _ => fun
  | [d1, d2] => { results := [.lit (.bool false)], args := [d1, d2] }
  | _ => none }
def AttrsSameWrongFalsely : Prop := attrsSameRow.holds Tryd.pinned (OpenSpec.ofChange attrsSameWrong)

/-- 'speculumlaw04.AttrsPuts': WHATEVER THE INPUT: true; the input reads as it did. -/
def attrsPutsSpec : ChangeSpec := { name := "attrsPuts", fn := fun _ => fun
  | [d1, d2] => { results := [.lit (.bool true)], args := [d1, d2] }
  | _ => none }
def attrsPutsRow : OpenClaim := { program := "ytajeoodipplmlaadoor", sum := "f48306a94e143450438d9fe646347f6fd58cf0f6eeb4b39dbe48648dc1615e93", func := "speculum/speculumlaw04.AttrsPuts", spec := "attrsPuts", inPlace := ["slices.overlaps[speculum/api.Raw]"], unfollowed := true, recurses := true, named := ["speculum/attrs.looks"], apart := false, laid := [("speculum/attrs.looks", laid_speculum_attrs_looks)] }
def AttrsPutsSaid : Prop := attrsPutsRow.holds Tryd.pinned (OpenSpec.ofChange attrsPutsSpec)

/-- ITS FALSE NEIGHBOUR: 'it returns false'. Refute it at one input. -/
def attrsPutsWrong : ChangeSpec := { name := "attrsPuts", fn := fun _ => fun
  | [d1, d2] => { results := [.lit (.bool false)], args := [d1, d2] }
  | _ => none }
def AttrsPutsWrongFalsely : Prop := attrsPutsRow.holds Tryd.pinned (OpenSpec.ofChange attrsPutsWrong)

/-- 'speculumlaw04.AttrsBack': WHATEVER THE INPUT: true; the input reads as it did. -/
def attrsBackSpec : ChangeSpec := { name := "attrsBack", fn := fun _ => fun
  | [d] => { results := [.lit (.bool true)], args := [d] }
  | _ => none }
def attrsBackRow : OpenClaim := { program := "ytajeoodipplmlaadoor", sum := "f48306a94e143450438d9fe646347f6fd58cf0f6eeb4b39dbe48648dc1615e93", func := "speculum/speculumlaw04.AttrsBack", spec := "attrsBack", inPlace := ["slices.overlaps[speculum/api.Raw]"], unfollowed := true, recurses := true, named := ["speculum/attrs.looks"], apart := false, laid := [("speculum/attrs.looks", laid_speculum_attrs_looks)] }
def AttrsBackSaid : Prop := attrsBackRow.holds Tryd.pinned (OpenSpec.ofChange attrsBackSpec)

/-- ITS FALSE NEIGHBOUR: 'it returns false'. Refute it at one input. -/
def attrsBackWrong : ChangeSpec := { name := "attrsBack", fn := fun _ => fun
  | [d] => { results := [.lit (.bool false)], args := [d] }
  | _ => none }
def AttrsBackWrongFalsely : Prop := attrsBackRow.holds Tryd.pinned (OpenSpec.ofChange attrsBackWrong)

/-- 'speculumlaw04.AttrsNarrow': WHATEVER THE INPUT: true; the input reads as it did. -/
def attrsNarrowSpec : ChangeSpec := { name := "attrsNarrow", fn := fun _ => fun
  | [d] => { results := [.lit (.bool true)], args := [d] }
  | _ => none }
def attrsNarrowRow : OpenClaim := { program := "ytajeoodipplmlaadoor", sum := "f48306a94e143450438d9fe646347f6fd58cf0f6eeb4b39dbe48648dc1615e93", func := "speculum/speculumlaw04.AttrsNarrow", spec := "attrsNarrow", inPlace := ["slices.overlaps[speculum/api.Raw]"], unfollowed := true, recurses := true, named := ["speculum/attrs.looks"], apart := false, laid := [("speculum/attrs.looks", laid_speculum_attrs_looks)] }
def AttrsNarrowSaid : Prop := attrsNarrowRow.holds Tryd.pinned (OpenSpec.ofChange attrsNarrowSpec)

/-- ITS FALSE NEIGHBOUR: 'it returns false'. Refute it at one input. -/
def attrsNarrowWrong : ChangeSpec := { name := "attrsNarrow", fn := fun _ => fun
  | [d] => { results := [.lit (.bool false)], args := [d] }
  | _ => none }
def AttrsNarrowWrongFalsely : Prop := attrsNarrowRow.holds Tryd.pinned (OpenSpec.ofChange attrsNarrowWrong)

/- THE SECOND FORM. 'bulk': how many values and letters a reading holds, each counted each time it is reached (what is shared counts as often as it is met; a slice's spare places count too). A statement '..UptoSaid' is the law's where the arguments, and the package variables that the reading takes, are together of bulk at most 1048576: NARROWER than '..Said'. Prove '..Said' where nothing that the law and all that it calls make is longer than what came in: it says more and counts as full. Else prove '..UptoSaid'. A law counts once. -/
mutual
def uptoBulk {H : Type} : DataW H → Nat
  | .lit (.string bytes) => bytes.length + 1
  | .lit _ => 1
  | .nil => 1
  | .ptr d => uptoBulk d + 1
  | .slice elems spare => uptoBulkAll elems + uptoBulkAll spare + 1
  | .agg parts => uptoBulkAll parts + 1
  | .iface _ d => uptoBulk d + 1
  | .map entries => uptoBulkEntries entries + 1
  | .held _ => 1
def uptoBulkAll {H : Type} : List (DataW H) → Nat
  | [] => 0
  | d :: r => uptoBulk d + uptoBulkAll r
def uptoBulkEntries {H : Type} : List (Lit × DataW H) → Nat
  | [] => 0
  | x :: r => uptoBulkEntry x + uptoBulkEntries r
def uptoBulkEntry {H : Type} : Lit × DataW H → Nat
  | (.string bytes, d) => bytes.length + uptoBulk d + 1
  | (_, d) => uptoBulk d + 1
 end
def uptoSmall : (H : Type) → List (DataW H) → Bool := fun _ ds => decide (uptoBulkAll ds ≤ 1048576)
def OpenSpec.upto (s : _root_.Go.ChangeSpec) : _root_.Go.OpenSpec := { _root_.Go.OpenSpec.ofChange s with cond := some uptoSmall }

/-- 'speculumlaw04.AttrsRight', WHERE WHAT IT READS IS OF BULK AT MOST 1048576: true; the input reads as it did. -/
def attrsRightUptoRow : OpenClaim := { program := "ytajeoodipplmlaadoor", sum := "f48306a94e143450438d9fe646347f6fd58cf0f6eeb4b39dbe48648dc1615e93", func := "speculum/speculumlaw04.AttrsRight", spec := "attrsRight", inPlace := ["slices.overlaps[speculum/api.Raw]"], unfollowed := true, recurses := true, named := ["speculum/attrs.looks"], apart := false, laid := [("speculum/attrs.looks", laid_speculum_attrs_looks)], narrowed := true }
def AttrsRightUptoSaid : Prop := attrsRightUptoRow.holds Tryd.pinned (OpenSpec.upto attrsRightSpec)

/-- 'speculumlaw04.AttrsSame', WHERE WHAT IT READS IS OF BULK AT MOST 1048576: true; the input reads as it did. -/
def attrsSameUptoRow : OpenClaim := { program := "ytajeoodipplmlaadoor", sum := "f48306a94e143450438d9fe646347f6fd58cf0f6eeb4b39dbe48648dc1615e93", func := "speculum/speculumlaw04.AttrsSame", spec := "attrsSame", inPlace := ["slices.overlaps[speculum/api.Raw]"], unfollowed := true, recurses := true, named := ["speculum/attrs.looks"], apart := false, laid := [("speculum/attrs.looks", laid_speculum_attrs_looks)], narrowed := true }
def AttrsSameUptoSaid : Prop := attrsSameUptoRow.holds Tryd.pinned (OpenSpec.upto attrsSameSpec)

/-- 'speculumlaw04.AttrsPuts', WHERE WHAT IT READS IS OF BULK AT MOST 1048576: true; the input reads as it did. -/
def attrsPutsUptoRow : OpenClaim := { program := "ytajeoodipplmlaadoor", sum := "f48306a94e143450438d9fe646347f6fd58cf0f6eeb4b39dbe48648dc1615e93", func := "speculum/speculumlaw04.AttrsPuts", spec := "attrsPuts", inPlace := ["slices.overlaps[speculum/api.Raw]"], unfollowed := true, recurses := true, named := ["speculum/attrs.looks"], apart := false, laid := [("speculum/attrs.looks", laid_speculum_attrs_looks)], narrowed := true }
def AttrsPutsUptoSaid : Prop := attrsPutsUptoRow.holds Tryd.pinned (OpenSpec.upto attrsPutsSpec)

/-- 'speculumlaw04.AttrsBack', WHERE WHAT IT READS IS OF BULK AT MOST 1048576: true; the input reads as it did. -/
def attrsBackUptoRow : OpenClaim := { program := "ytajeoodipplmlaadoor", sum := "f48306a94e143450438d9fe646347f6fd58cf0f6eeb4b39dbe48648dc1615e93", func := "speculum/speculumlaw04.AttrsBack", spec := "attrsBack", inPlace := ["slices.overlaps[speculum/api.Raw]"], unfollowed := true, recurses := true, named := ["speculum/attrs.looks"], apart := false, laid := [("speculum/attrs.looks", laid_speculum_attrs_looks)], narrowed := true }
def AttrsBackUptoSaid : Prop := attrsBackUptoRow.holds Tryd.pinned (OpenSpec.upto attrsBackSpec)

/-- 'speculumlaw04.AttrsNarrow', WHERE WHAT IT READS IS OF BULK AT MOST 1048576: true; the input reads as it did. -/
def attrsNarrowUptoRow : OpenClaim := { program := "ytajeoodipplmlaadoor", sum := "f48306a94e143450438d9fe646347f6fd58cf0f6eeb4b39dbe48648dc1615e93", func := "speculum/speculumlaw04.AttrsNarrow", spec := "attrsNarrow", inPlace := ["slices.overlaps[speculum/api.Raw]"], unfollowed := true, recurses := true, named := ["speculum/attrs.looks"], apart := false, laid := [("speculum/attrs.looks", laid_speculum_attrs_looks)], narrowed := true }
def AttrsNarrowUptoSaid : Prop := attrsNarrowUptoRow.holds Tryd.pinned (OpenSpec.upto attrsNarrowSpec)

end Rows
end Go.Proofs.YtajeoodipplmlaaDoor
