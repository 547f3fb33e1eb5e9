/-
  NARROWER THAN 'FOR EVERY INPUT', by the rows' own cells (each row's printed sentence says how): KeysTerms: laid · KeysNames: laid · KeysApart: laid.
  DERIVED. THE GIVEN ROWS OF THIS SEAT. 3 by the template 'for every input the law returns true; each argument reads behind the call as it read before'; 0 by the template 'total and deterministic' (their statements: YtpajocjepahobaaDoorTotals.lean).
  GIVEN WITH THE SEED: the statements are not yours to turn. If you find one false, say at which input.
  Laid BY PROGRAM, IN A SANDBOX (cutbox-rows.mjs): the forced cells as the released guide's own fill.sh prints them over the translation e9220e3e73bad732… (all of the seat's roots in one cut). By AI agents, Wed Nov 11 2026. No macro, syntax, notation, axiom, sorry.
-/
import Derived.Test.YtpajocjepahobaaDoorChecked
import GoSem.Claim
import GoSem.ClaimJoined
import GoSem.ClaimMapViews
import Derived.JoinedTies
import Derived.KernelRfl
namespace Go.Proofs.YtpajocjepahobaaDoor
/- THE CELL 'sum', in the pinned program and in every row, IS THE sha256 OF THE DUMP (.gsa) THAT YtpajocjepahobaaDoorProg.lean LOADS. Nothing in Lean hashes anything: it is a label: what it is worth is what the hold of that sum in a sandbox is worth. -/
noncomputable def Tryd.pinned : Pinned := { name := "ytpajocjepahobaadoor", sum := "e9220e3e73bad7323b5c1f8acf6c9baf5b4b60352d5097137d572d032be58baa", checked := Tryd.checked }
namespace Rows
def none {H : Type} : Left H := { results := [], args := [] }

/- WHAT THE LISTED PACKAGE-LEVEL VARIABLES READ AS WHEN THE CALL BEGINS. Each datum BY PROGRAM (the guide's laid-datum.mjs) off the statement by which the dump's own 'gosem.cut.vars' lays the variable. In a bare row this is a premise. The card (YtpajocjepahobaaDoorCards.lean) ties it to the program's text. -/
def laid_chirograph_keys_letters {H : Type} : DataW H := .agg [.lit (.string []), .lit (.string [107]), .lit (.string [115])]

/-- 'chirographlaw09.KeysTerms': WHATEVER THE INPUT: true; the input reads as it did. -/
def keysTermsSpec : ChangeSpec := { name := "keysTerms", fn := fun _ => fun
  | [d1, d2, d3] => { results := [.lit (.bool true)], args := [d1, d2, d3] }
  | _ => none }
def keysTermsRow : OpenClaim := { program := "ytpajocjepahobaadoor", sum := "e9220e3e73bad7323b5c1f8acf6c9baf5b4b60352d5097137d572d032be58baa", func := "chirograph/chirographlaw09.KeysTerms", spec := "keysTerms", unfollowed := true, recurses := true, named := ["chirograph/keys.letters"], apart := false, laid := [("chirograph/keys.letters", laid_chirograph_keys_letters)] }
def KeysTermsSaid : Prop := keysTermsRow.holds Tryd.pinned (OpenSpec.ofChange keysTermsSpec)

/-- ITS FALSE NEIGHBOUR: 'it returns false'. Refute it at one input. -/
def keysTermsWrong : ChangeSpec := { name := "keysTerms", fn := fun _ => fun
  | [d1, d2, d3] => { results := [.lit (.bool false)], args := [d1, d2, d3] }
  | _ => none }
def KeysTermsWrongFalsely : Prop := keysTermsRow.holds Tryd.pinned (OpenSpec.ofChange keysTermsWrong)

/-- 'chirographlaw09.KeysNames': WHATEVER THE INPUT: true; the input reads as it did. -/
def keysNamesSpec : ChangeSpec := { name := "keysNames", fn := fun _ => fun
  | [d1, d2, d3] => { results := [.lit (.bool true)], args := [d1, d2, d3] }
  | _ => none }
def keysNamesRow : OpenClaim := { program := "ytpajocjepahobaadoor", sum := "e9220e3e73bad7323b5c1f8acf6c9baf5b4b60352d5097137d572d032be58baa", func := "chirograph/chirographlaw09.KeysNames", spec := "keysNames", unfollowed := true, recurses := true, named := ["chirograph/keys.letters"], apart := false, laid := [("chirograph/keys.letters", laid_chirograph_keys_letters)] }
def KeysNamesSaid : Prop := keysNamesRow.holds Tryd.pinned (OpenSpec.ofChange keysNamesSpec)

/-- ITS FALSE NEIGHBOUR: 'it returns false'. Refute it at one input. -/
def keysNamesWrong : ChangeSpec := { name := "keysNames", fn := fun _ => fun
  | [d1, d2, d3] => { results := [.lit (.bool false)], args := [d1, d2, d3] }
  | _ => none }
def KeysNamesWrongFalsely : Prop := keysNamesRow.holds Tryd.pinned (OpenSpec.ofChange keysNamesWrong)

/-- 'chirographlaw09.KeysApart': WHATEVER THE INPUT: true; the input reads as it did. -/
def keysApartSpec : ChangeSpec := { name := "keysApart", fn := fun _ => fun
  | [d1, d2, d3, d4, d5, d6] => { results := [.lit (.bool true)], args := [d1, d2, d3, d4, d5, d6] }
  | _ => none }
def keysApartRow : OpenClaim := { program := "ytpajocjepahobaadoor", sum := "e9220e3e73bad7323b5c1f8acf6c9baf5b4b60352d5097137d572d032be58baa", func := "chirograph/chirographlaw09.KeysApart", spec := "keysApart", unfollowed := true, recurses := true, named := ["chirograph/keys.letters"], apart := false, laid := [("chirograph/keys.letters", laid_chirograph_keys_letters)] }
def KeysApartSaid : Prop := keysApartRow.holds Tryd.pinned (OpenSpec.ofChange keysApartSpec)

/-- ITS FALSE NEIGHBOUR: 'it returns false'. Refute it at one input. -/
def keysApartWrong : ChangeSpec := { name := "keysApart", fn := fun _ => fun
  | [d1, d2, d3, d4, d5, d6] => { results := [.lit (.bool false)], args := [d1, d2, d3, d4, d5, d6] }
  | _ => none }
def KeysApartWrongFalsely : Prop := keysApartRow.holds Tryd.pinned (OpenSpec.ofChange keysApartWrong)

/- THE SECOND FORM. 'bulk': how many values and letters a reading holds, each counted each time it is reached (what is shared counts as often as it is met; a slice's spare places count too). A statement '..UptoSaid' is the law's where the arguments, and the package variables that the reading takes, are together of bulk at most 1048576: NARROWER than '..Said'. Prove '..Said' where nothing that the law and all that it calls make is longer than what came in: it says more and counts as full. Else prove '..UptoSaid'. A law counts once. -/
mutual
def uptoBulk {H : Type} : DataW H → Nat
  | .lit (.string bytes) => bytes.length + 1
  | .lit _ => 1
  | .nil => 1
  | .ptr d => uptoBulk d + 1
  | .slice elems spare => uptoBulkAll elems + uptoBulkAll spare + 1
  | .agg parts => uptoBulkAll parts + 1
  | .iface _ d => uptoBulk d + 1
  | .map entries => uptoBulkEntries entries + 1
  | .held _ => 1
def uptoBulkAll {H : Type} : List (DataW H) → Nat
  | [] => 0
  | d :: r => uptoBulk d + uptoBulkAll r
def uptoBulkEntries {H : Type} : List (Lit × DataW H) → Nat
  | [] => 0
  | x :: r => uptoBulkEntry x + uptoBulkEntries r
def uptoBulkEntry {H : Type} : Lit × DataW H → Nat
  | (.string bytes, d) => bytes.length + uptoBulk d + 1
  | (_, d) => uptoBulk d + 1
 end
def uptoSmall : (H : Type) → List (DataW H) → Bool := fun _ ds => decide (uptoBulkAll ds ≤ 1048576)
def OpenSpec.upto (s : _root_.Go.ChangeSpec) : _root_.Go.OpenSpec := { _root_.Go.OpenSpec.ofChange s with cond := some uptoSmall }

/-- 'chirographlaw09.KeysTerms', WHERE WHAT IT READS IS OF BULK AT MOST 1048576: true; the input reads as it did. -/
def keysTermsUptoRow : OpenClaim := { program := "ytpajocjepahobaadoor", sum := "e9220e3e73bad7323b5c1f8acf6c9baf5b4b60352d5097137d572d032be58baa", func := "chirograph/chirographlaw09.KeysTerms", spec := "keysTerms", unfollowed := true, recurses := true, named := ["chirograph/keys.letters"], apart := false, laid := [("chirograph/keys.letters", laid_chirograph_keys_letters)], narrowed := true }
def KeysTermsUptoSaid : Prop := keysTermsUptoRow.holds Tryd.pinned (OpenSpec.upto keysTermsSpec)

/-- 'chirographlaw09.KeysNames', WHERE WHAT IT READS IS OF BULK AT MOST 1048576: true; the input reads as it did. -/
def keysNamesUptoRow : OpenClaim := { program := "ytpajocjepahobaadoor", sum := "e9220e3e73bad7323b5c1f8acf6c9baf5b4b60352d5097137d572d032be58baa", func := "chirograph/chirographlaw09.KeysNames", spec := "keysNames", unfollowed := true, recurses := true, named := ["chirograph/keys.letters"], apart := false, laid := [("chirograph/keys.letters", laid_chirograph_keys_letters)], narrowed := true }
def KeysNamesUptoSaid : Prop := keysNamesUptoRow.holds Tryd.pinned (OpenSpec.upto keysNamesSpec)

/-- 'chirographlaw09.KeysApart', WHERE WHAT IT READS IS OF BULK AT MOST 1048576: true; the input reads as it did. -/
def keysApartUptoRow : OpenClaim := { program := "ytpajocjepahobaadoor", sum := "e9220e3e73bad7323b5c1f8acf6c9baf5b4b60352d5097137d572d032be58baa", func := "chirograph/chirographlaw09.KeysApart", spec := "keysApart", unfollowed := true, recurses := true, named := ["chirograph/keys.letters"], apart := false, laid := [("chirograph/keys.letters", laid_chirograph_keys_letters)], narrowed := true }
def KeysApartUptoSaid : Prop := keysApartUptoRow.holds Tryd.pinned (OpenSpec.upto keysApartSpec)

end Rows
end Go.Proofs.YtpajocjepahobaaDoor
