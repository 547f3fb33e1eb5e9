/-
  No cell of these rows narrows 'for every input' (looked for: loops, veiled, ifaces, maps, wideKeys, modest, calm, conditions, laid).
  DERIVED. THE GIVEN ROWS OF THIS SEAT. 18 by the template 'for every input the law returns true; each argument reads behind the call as it read before'; 0 by the template 'total and deterministic' (their statements: YtpajocjepahobaaTotals.lean).
  GIVEN WITH THE SEED: the statements are not yours to turn. If you find one false, say at which input.
  Laid BY PROGRAM, IN A SANDBOX (cutbox-rows.mjs): the forced cells as the released guide's own fill.sh prints them over the translation 18e054a885943711… (all of the seat's roots in one cut). By AI agents, Wed Nov 11 2026. No macro, syntax, notation, axiom, sorry.
-/
import Derived.Test.YtpajocjepahobaaChecked
import GoSem.Claim
import GoSem.ClaimJoined
import GoSem.ClaimMapViews
import Derived.JoinedTies
import Derived.KernelRfl
namespace Go.Proofs.Ytpajocjepahobaa
/- THE CELL 'sum', in the pinned program and in every row, IS THE sha256 OF THE DUMP (.gsa) THAT YtpajocjepahobaaProg.lean LOADS. Nothing in Lean hashes anything: it is a label: what it is worth is what the hold of that sum in a sandbox is worth. -/
noncomputable def Try.pinned : Pinned := { name := "ytpajocjepahobaa", sum := "18e054a8859437119115c5d6dbde9bafdecf606492cd578d1e732df690e9fd1c", checked := Try.checked }
namespace Rows
def none {H : Type} : Left H := { results := [], args := [] }

/-- 'chirographlaw06.TermMakes': WHATEVER THE INPUT: true; the input reads as it did. -/
def termMakesSpec : ChangeSpec := { name := "termMakes", fn := fun _ => fun
  | [d1, d2, d3, d4, d5] => { results := [.lit (.bool true)], args := [d1, d2, d3, d4, d5] }
  | _ => none }
def termMakesRow : OpenClaim := { program := "ytpajocjepahobaa", sum := "18e054a8859437119115c5d6dbde9bafdecf606492cd578d1e732df690e9fd1c", func := "chirograph/chirographlaw06.TermMakes", spec := "termMakes", inPlace := ["internal/bytealg.IndexByteString", "internal/bytealg.IndexString", "internal/abi.NoEscape"], unfollowed := true, recurses := true, named := ["internal/bytealg.MaxLen"], apart := false }
def TermMakesSaid : Prop := termMakesRow.holds Try.pinned (OpenSpec.ofChange termMakesSpec)

/-- ITS FALSE NEIGHBOUR: 'it returns false'. Refute it at one input. -/
def termMakesWrong : ChangeSpec := { name := "termMakes", fn := fun _ => fun
  | [d1, d2, d3, d4, d5] => { results := [.lit (.bool false)], args := [d1, d2, d3, d4, d5] }
  | _ => none }
def TermMakesWrongFalsely : Prop := termMakesRow.holds Try.pinned (OpenSpec.ofChange termMakesWrong)

/-- 'chirographlaw10.KnowOrder': WHATEVER THE INPUT: true; the input reads as it did. -/
def knowOrderSpec : ChangeSpec := { name := "knowOrder", fn := fun _ => fun
  | [d1, d2, d3, d4] => { results := [.lit (.bool true)], args := [d1, d2, d3, d4] }
  | _ => none }
def knowOrderRow : OpenClaim := { program := "ytpajocjepahobaa", sum := "18e054a8859437119115c5d6dbde9bafdecf606492cd578d1e732df690e9fd1c", func := "chirograph/chirographlaw10.KnowOrder", spec := "knowOrder", inPlace := ["internal/bytealg.IndexByteString", "internal/bytealg.IndexString", "internal/abi.NoEscape", "maps.clone"], unfollowed := true, recurses := true, named := ["internal/bytealg.MaxLen"], apart := false }
def KnowOrderSaid : Prop := knowOrderRow.holds Try.pinned (OpenSpec.ofChange knowOrderSpec)

/-- ITS FALSE NEIGHBOUR: 'it returns false'. Refute it at one input. -/
def knowOrderWrong : ChangeSpec := { name := "knowOrder", fn := fun _ => fun
  | [d1, d2, d3, d4] => { results := [.lit (.bool false)], args := [d1, d2, d3, d4] }
  | _ => none }
def KnowOrderWrongFalsely : Prop := knowOrderRow.holds Try.pinned (OpenSpec.ofChange knowOrderWrong)

/-- 'chirographlaw06.TermBack': WHATEVER THE INPUT: true; the input reads as it did. -/
def termBackSpec : ChangeSpec := { name := "termBack", fn := fun _ => fun
  | [d1, d2, d3] => { results := [.lit (.bool true)], args := [d1, d2, d3] }
  | _ => none }
def termBackRow : OpenClaim := { program := "ytpajocjepahobaa", sum := "18e054a8859437119115c5d6dbde9bafdecf606492cd578d1e732df690e9fd1c", func := "chirograph/chirographlaw06.TermBack", spec := "termBack", inPlace := ["internal/bytealg.IndexByteString", "internal/bytealg.IndexString", "internal/abi.NoEscape"], unfollowed := true, recurses := true, named := ["internal/bytealg.MaxLen"], apart := false }
def TermBackSaid : Prop := termBackRow.holds Try.pinned (OpenSpec.ofChange termBackSpec)

/-- ITS FALSE NEIGHBOUR: 'it returns false'. Refute it at one input. -/
def termBackWrong : ChangeSpec := { name := "termBack", fn := fun _ => fun
  | [d1, d2, d3] => { results := [.lit (.bool false)], args := [d1, d2, d3] }
  | _ => none }
def TermBackWrongFalsely : Prop := termBackRow.holds Try.pinned (OpenSpec.ofChange termBackWrong)

/-- 'chirographlaw10.KnowSeals': WHATEVER THE INPUT: true; the input reads as it did. -/
def knowSealsSpec : ChangeSpec := { name := "knowSeals", fn := fun _ => fun
  | [d1, d2, d3, d4, d5] => { results := [.lit (.bool true)], args := [d1, d2, d3, d4, d5] }
  | _ => none }
def knowSealsRow : OpenClaim := { program := "ytpajocjepahobaa", sum := "18e054a8859437119115c5d6dbde9bafdecf606492cd578d1e732df690e9fd1c", func := "chirograph/chirographlaw10.KnowSeals", spec := "knowSeals", inPlace := ["internal/bytealg.IndexByteString", "internal/bytealg.IndexString", "internal/abi.NoEscape", "maps.clone"], unfollowed := true, recurses := true, named := ["internal/bytealg.MaxLen"], apart := false }
def KnowSealsSaid : Prop := knowSealsRow.holds Try.pinned (OpenSpec.ofChange knowSealsSpec)

/-- ITS FALSE NEIGHBOUR: 'it returns false'. Refute it at one input. -/
def knowSealsWrong : ChangeSpec := { name := "knowSeals", fn := fun _ => fun
  | [d1, d2, d3, d4, d5] => { results := [.lit (.bool false)], args := [d1, d2, d3, d4, d5] }
  | _ => none }
def KnowSealsWrongFalsely : Prop := knowSealsRow.holds Try.pinned (OpenSpec.ofChange knowSealsWrong)

/-- 'chirographlaw06.TermOpens': WHATEVER THE INPUT: true; the input reads as it did. -/
def termOpensSpec : ChangeSpec := { name := "termOpens", fn := fun _ => fun
  | [d1, d2] => { results := [.lit (.bool true)], args := [d1, d2] }
  | _ => none }
def termOpensRow : OpenClaim := { program := "ytpajocjepahobaa", sum := "18e054a8859437119115c5d6dbde9bafdecf606492cd578d1e732df690e9fd1c", func := "chirograph/chirographlaw06.TermOpens", spec := "termOpens", inPlace := ["internal/bytealg.IndexByteString", "internal/bytealg.IndexString", "internal/abi.NoEscape"], unfollowed := true, recurses := true, named := ["internal/bytealg.MaxLen"], apart := false }
def TermOpensSaid : Prop := termOpensRow.holds Try.pinned (OpenSpec.ofChange termOpensSpec)

/-- ITS FALSE NEIGHBOUR: 'it returns false'. Refute it at one input. -/
def termOpensWrong : ChangeSpec := { name := "termOpens", fn := fun _ => fun
  | [d1, d2] => { results := [.lit (.bool false)], args := [d1, d2] }
  | _ => none }
def TermOpensWrongFalsely : Prop := termOpensRow.holds Try.pinned (OpenSpec.ofChange termOpensWrong)

/-- 'chirographlaw11.ForgeRuns': WHATEVER THE INPUT: true; the input reads as it did. -/
def forgeRunsSpec : ChangeSpec := { name := "forgeRuns", fn := fun _ => fun
  | [d1, d2] => { results := [.lit (.bool true)], args := [d1, d2] }
  | _ => none }
def forgeRunsRow : OpenClaim := { program := "ytpajocjepahobaa", sum := "18e054a8859437119115c5d6dbde9bafdecf606492cd578d1e732df690e9fd1c", func := "chirograph/chirographlaw11.ForgeRuns", spec := "forgeRuns", inPlace := ["internal/bytealg.IndexByteString", "internal/bytealg.IndexString", "internal/abi.NoEscape"], unfollowed := true, recurses := true, named := ["internal/bytealg.MaxLen"], apart := false }
def ForgeRunsSaid : Prop := forgeRunsRow.holds Try.pinned (OpenSpec.ofChange forgeRunsSpec)

/-- ITS FALSE NEIGHBOUR: 'it returns false'. Refute it at one input. -/
def forgeRunsWrong : ChangeSpec := { name := "forgeRuns", fn := fun _ => fun
  | [d1, d2] => { results := [.lit (.bool false)], args := [d1, d2] }
  | _ => none }
def ForgeRunsWrongFalsely : Prop := forgeRunsRow.holds Try.pinned (OpenSpec.ofChange forgeRunsWrong)

/-- 'chirographlaw11.ForgeMore': WHATEVER THE INPUT: true; the input reads as it did. -/
def forgeMoreSpec : ChangeSpec := { name := "forgeMore", fn := fun _ => fun
  | [d1, d2, d3, d4] => { results := [.lit (.bool true)], args := [d1, d2, d3, d4] }
  | _ => none }
def forgeMoreRow : OpenClaim := { program := "ytpajocjepahobaa", sum := "18e054a8859437119115c5d6dbde9bafdecf606492cd578d1e732df690e9fd1c", func := "chirograph/chirographlaw11.ForgeMore", spec := "forgeMore", inPlace := ["internal/bytealg.IndexByteString", "internal/bytealg.IndexString", "internal/abi.NoEscape"], unfollowed := true, recurses := true, named := ["internal/bytealg.MaxLen"], apart := false }
def ForgeMoreSaid : Prop := forgeMoreRow.holds Try.pinned (OpenSpec.ofChange forgeMoreSpec)

/-- ITS FALSE NEIGHBOUR: 'it returns false'. Refute it at one input. -/
def forgeMoreWrong : ChangeSpec := { name := "forgeMore", fn := fun _ => fun
  | [d1, d2, d3, d4] => { results := [.lit (.bool false)], args := [d1, d2, d3, d4] }
  | _ => none }
def ForgeMoreWrongFalsely : Prop := forgeMoreRow.holds Try.pinned (OpenSpec.ofChange forgeMoreWrong)

/-- 'chirographlaw07.ShowReads': WHATEVER THE INPUT: true; the input reads as it did. -/
def showReadsSpec : ChangeSpec := { name := "showReads", fn := fun _ => fun
  | [d] => { results := [.lit (.bool true)], args := [d] }
  | _ => none }
def showReadsRow : OpenClaim := { program := "ytpajocjepahobaa", sum := "18e054a8859437119115c5d6dbde9bafdecf606492cd578d1e732df690e9fd1c", func := "chirograph/chirographlaw07.ShowReads", spec := "showReads", inPlace := ["internal/bytealg.IndexByteString", "internal/bytealg.IndexString", "internal/abi.NoEscape"], unfollowed := true, recurses := true, named := ["internal/bytealg.MaxLen"], apart := false }
def ShowReadsSaid : Prop := showReadsRow.holds Try.pinned (OpenSpec.ofChange showReadsSpec)

/-- ITS FALSE NEIGHBOUR: 'it returns false'. Refute it at one input. -/
def showReadsWrong : ChangeSpec := { name := "showReads", fn := fun _ => fun
  | [d] => { results := [.lit (.bool false)], args := [d] }
  | _ => none }
def ShowReadsWrongFalsely : Prop := showReadsRow.holds Try.pinned (OpenSpec.ofChange showReadsWrong)

/-- 'chirographlaw07.ShowBack': WHATEVER THE INPUT: true; the input reads as it did. -/
def showBackSpec : ChangeSpec := { name := "showBack", fn := fun _ => fun
  | [d1, d2] => { results := [.lit (.bool true)], args := [d1, d2] }
  | _ => none }
def showBackRow : OpenClaim := { program := "ytpajocjepahobaa", sum := "18e054a8859437119115c5d6dbde9bafdecf606492cd578d1e732df690e9fd1c", func := "chirograph/chirographlaw07.ShowBack", spec := "showBack", inPlace := ["internal/bytealg.IndexByteString", "internal/bytealg.IndexString", "internal/abi.NoEscape"], unfollowed := true, recurses := true, named := ["internal/bytealg.MaxLen"], apart := false }
def ShowBackSaid : Prop := showBackRow.holds Try.pinned (OpenSpec.ofChange showBackSpec)

/-- ITS FALSE NEIGHBOUR: 'it returns false'. Refute it at one input. -/
def showBackWrong : ChangeSpec := { name := "showBack", fn := fun _ => fun
  | [d1, d2] => { results := [.lit (.bool false)], args := [d1, d2] }
  | _ => none }
def ShowBackWrongFalsely : Prop := showBackRow.holds Try.pinned (OpenSpec.ofChange showBackWrong)

/-- 'chirographlaw11.ForgeSound': WHATEVER THE INPUT: true; the input reads as it did. -/
def forgeSoundSpec : ChangeSpec := { name := "forgeSound", fn := fun _ => fun
  | [d1, d2] => { results := [.lit (.bool true)], args := [d1, d2] }
  | _ => none }
def forgeSoundRow : OpenClaim := { program := "ytpajocjepahobaa", sum := "18e054a8859437119115c5d6dbde9bafdecf606492cd578d1e732df690e9fd1c", func := "chirograph/chirographlaw11.ForgeSound", spec := "forgeSound", inPlace := ["internal/bytealg.IndexByteString", "internal/bytealg.IndexString", "internal/abi.NoEscape", "maps.clone"], unfollowed := true, recurses := true, named := ["internal/bytealg.MaxLen"], apart := false }
def ForgeSoundSaid : Prop := forgeSoundRow.holds Try.pinned (OpenSpec.ofChange forgeSoundSpec)

/-- ITS FALSE NEIGHBOUR: 'it returns false'. Refute it at one input. -/
def forgeSoundWrong : ChangeSpec := { name := "forgeSound", fn := fun _ => fun
  | [d1, d2] => { results := [.lit (.bool false)], args := [d1, d2] }
  | _ => none }
def ForgeSoundWrongFalsely : Prop := forgeSoundRow.holds Try.pinned (OpenSpec.ofChange forgeSoundWrong)

/-- 'chirographlaw07.ShowTells': WHATEVER THE INPUT: true; the input reads as it did. -/
def showTellsSpec : ChangeSpec := { name := "showTells", fn := fun _ => fun
  | [d1, d2] => { results := [.lit (.bool true)], args := [d1, d2] }
  | _ => none }
def showTellsRow : OpenClaim := { program := "ytpajocjepahobaa", sum := "18e054a8859437119115c5d6dbde9bafdecf606492cd578d1e732df690e9fd1c", func := "chirograph/chirographlaw07.ShowTells", spec := "showTells", inPlace := ["internal/bytealg.IndexByteString", "internal/bytealg.IndexString", "internal/abi.NoEscape"], unfollowed := true, recurses := true, named := ["internal/bytealg.MaxLen"], apart := false }
def ShowTellsSaid : Prop := showTellsRow.holds Try.pinned (OpenSpec.ofChange showTellsSpec)

/-- ITS FALSE NEIGHBOUR: 'it returns false'. Refute it at one input. -/
def showTellsWrong : ChangeSpec := { name := "showTells", fn := fun _ => fun
  | [d1, d2] => { results := [.lit (.bool false)], args := [d1, d2] }
  | _ => none }
def ShowTellsWrongFalsely : Prop := showTellsRow.holds Try.pinned (OpenSpec.ofChange showTellsWrong)

/-- 'chirographlaw07.ShowUnlike': WHATEVER THE INPUT: true; the input reads as it did. -/
def showUnlikeSpec : ChangeSpec := { name := "showUnlike", fn := fun _ => fun
  | [d1, d2] => { results := [.lit (.bool true)], args := [d1, d2] }
  | _ => none }
def showUnlikeRow : OpenClaim := { program := "ytpajocjepahobaa", sum := "18e054a8859437119115c5d6dbde9bafdecf606492cd578d1e732df690e9fd1c", func := "chirograph/chirographlaw07.ShowUnlike", spec := "showUnlike", inPlace := ["internal/bytealg.IndexByteString", "internal/bytealg.IndexString", "internal/abi.NoEscape"], unfollowed := true, recurses := true, named := ["internal/bytealg.MaxLen"], apart := false }
def ShowUnlikeSaid : Prop := showUnlikeRow.holds Try.pinned (OpenSpec.ofChange showUnlikeSpec)

/-- ITS FALSE NEIGHBOUR: 'it returns false'. Refute it at one input. -/
def showUnlikeWrong : ChangeSpec := { name := "showUnlike", fn := fun _ => fun
  | [d1, d2] => { results := [.lit (.bool false)], args := [d1, d2] }
  | _ => none }
def ShowUnlikeWrongFalsely : Prop := showUnlikeRow.holds Try.pinned (OpenSpec.ofChange showUnlikeWrong)

/-- 'chirographlaw11.ForgeFinds': WHATEVER THE INPUT: true; the input reads as it did. -/
def forgeFindsSpec : ChangeSpec := { name := "forgeFinds", fn := fun _ => fun
  | [d1, d2] => { results := [.lit (.bool true)], args := [d1, d2] }
  | _ => none }
def forgeFindsRow : OpenClaim := { program := "ytpajocjepahobaa", sum := "18e054a8859437119115c5d6dbde9bafdecf606492cd578d1e732df690e9fd1c", func := "chirograph/chirographlaw11.ForgeFinds", spec := "forgeFinds", inPlace := ["internal/bytealg.IndexByteString", "internal/bytealg.IndexString", "internal/abi.NoEscape", "maps.clone"], unfollowed := true, recurses := true, named := ["internal/bytealg.MaxLen"], apart := false }
def ForgeFindsSaid : Prop := forgeFindsRow.holds Try.pinned (OpenSpec.ofChange forgeFindsSpec)

/-- ITS FALSE NEIGHBOUR: 'it returns false'. Refute it at one input. -/
def forgeFindsWrong : ChangeSpec := { name := "forgeFinds", fn := fun _ => fun
  | [d1, d2] => { results := [.lit (.bool false)], args := [d1, d2] }
  | _ => none }
def ForgeFindsWrongFalsely : Prop := forgeFindsRow.holds Try.pinned (OpenSpec.ofChange forgeFindsWrong)

/-- 'chirographlaw08.SuiteNonces': WHATEVER THE INPUT: true; the input reads as it did. -/
def suiteNoncesSpec : ChangeSpec := { name := "suiteNonces", fn := fun _ => fun
  | [d1, d2, d3, d4, d5, d6] => { results := [.lit (.bool true)], args := [d1, d2, d3, d4, d5, d6] }
  | _ => none }
def suiteNoncesRow : OpenClaim := { program := "ytpajocjepahobaa", sum := "18e054a8859437119115c5d6dbde9bafdecf606492cd578d1e732df690e9fd1c", func := "chirograph/chirographlaw08.SuiteNonces", spec := "suiteNonces", inPlace := ["internal/bytealg.IndexByteString", "internal/bytealg.IndexString"], unfollowed := true, recurses := true, named := ["internal/bytealg.MaxLen"], apart := false }
def SuiteNoncesSaid : Prop := suiteNoncesRow.holds Try.pinned (OpenSpec.ofChange suiteNoncesSpec)

/-- ITS FALSE NEIGHBOUR: 'it returns false'. Refute it at one input. -/
def suiteNoncesWrong : ChangeSpec := { name := "suiteNonces", fn := fun _ => fun
  | [d1, d2, d3, d4, d5, d6] => { results := [.lit (.bool false)], args := [d1, d2, d3, d4, d5, d6] }
  | _ => none }
def SuiteNoncesWrongFalsely : Prop := suiteNoncesRow.holds Try.pinned (OpenSpec.ofChange suiteNoncesWrong)

/-- 'chirographlaw08.SuiteApart': WHATEVER THE INPUT: true; the input reads as it did. -/
def suiteApartSpec : ChangeSpec := { name := "suiteApart", fn := fun _ => fun
  | [d1, d2, d3, d4, d5, d6, d7, d8] => { results := [.lit (.bool true)], args := [d1, d2, d3, d4, d5, d6, d7, d8] }
  | _ => none }
def suiteApartRow : OpenClaim := { program := "ytpajocjepahobaa", sum := "18e054a8859437119115c5d6dbde9bafdecf606492cd578d1e732df690e9fd1c", func := "chirograph/chirographlaw08.SuiteApart", spec := "suiteApart", inPlace := ["internal/bytealg.IndexByteString", "internal/bytealg.IndexString"], unfollowed := true, recurses := true, named := ["internal/bytealg.MaxLen"], apart := false }
def SuiteApartSaid : Prop := suiteApartRow.holds Try.pinned (OpenSpec.ofChange suiteApartSpec)

/-- ITS FALSE NEIGHBOUR: 'it returns false'. Refute it at one input. -/
def suiteApartWrong : ChangeSpec := { name := "suiteApart", fn := fun _ => fun
  | [d1, d2, d3, d4, d5, d6, d7, d8] => { results := [.lit (.bool false)], args := [d1, d2, d3, d4, d5, d6, d7, d8] }
  | _ => none }
def SuiteApartWrongFalsely : Prop := suiteApartRow.holds Try.pinned (OpenSpec.ofChange suiteApartWrong)

/-- 'chirographlaw08.SuiteBack': WHATEVER THE INPUT: true; the input reads as it did. -/
def suiteBackSpec : ChangeSpec := { name := "suiteBack", fn := fun _ => fun
  | [d1, d2, d3, d4, d5, d6] => { results := [.lit (.bool true)], args := [d1, d2, d3, d4, d5, d6] }
  | _ => none }
def suiteBackRow : OpenClaim := { program := "ytpajocjepahobaa", sum := "18e054a8859437119115c5d6dbde9bafdecf606492cd578d1e732df690e9fd1c", func := "chirograph/chirographlaw08.SuiteBack", spec := "suiteBack", inPlace := ["internal/bytealg.IndexByteString", "internal/bytealg.IndexString"], unfollowed := true, recurses := true, named := ["internal/bytealg.MaxLen"], apart := false }
def SuiteBackSaid : Prop := suiteBackRow.holds Try.pinned (OpenSpec.ofChange suiteBackSpec)

/-- ITS FALSE NEIGHBOUR: 'it returns false'. Refute it at one input. -/
def suiteBackWrong : ChangeSpec := { name := "suiteBack", fn := fun _ => fun
  | [d1, d2, d3, d4, d5, d6] => { results := [.lit (.bool false)], args := [d1, d2, d3, d4, d5, d6] }
  | _ => none }
def SuiteBackWrongFalsely : Prop := suiteBackRow.holds Try.pinned (OpenSpec.ofChange suiteBackWrong)

/-- 'chirographlaw08.SuiteImages': WHATEVER THE INPUT: true; the input reads as it did. -/
def suiteImagesSpec : ChangeSpec := { name := "suiteImages", fn := fun _ => fun
  | [d1, d2, d3, d4, d5] => { results := [.lit (.bool true)], args := [d1, d2, d3, d4, d5] }
  | _ => none }
def suiteImagesRow : OpenClaim := { program := "ytpajocjepahobaa", sum := "18e054a8859437119115c5d6dbde9bafdecf606492cd578d1e732df690e9fd1c", func := "chirograph/chirographlaw08.SuiteImages", spec := "suiteImages", inPlace := ["internal/bytealg.IndexByteString", "internal/bytealg.IndexString", "internal/abi.NoEscape"], unfollowed := true, recurses := true, named := ["internal/bytealg.MaxLen"], apart := false }
def SuiteImagesSaid : Prop := suiteImagesRow.holds Try.pinned (OpenSpec.ofChange suiteImagesSpec)

/-- ITS FALSE NEIGHBOUR: 'it returns false'. Refute it at one input. -/
def suiteImagesWrong : ChangeSpec := { name := "suiteImages", fn := fun _ => fun
  | [d1, d2, d3, d4, d5] => { results := [.lit (.bool false)], args := [d1, d2, d3, d4, d5] }
  | _ => none }
def SuiteImagesWrongFalsely : Prop := suiteImagesRow.holds Try.pinned (OpenSpec.ofChange suiteImagesWrong)

/-- 'chirographlaw10.KnowTells': WHATEVER THE INPUT: true; the input reads as it did. -/
def knowTellsSpec : ChangeSpec := { name := "knowTells", fn := fun _ => fun
  | [d1, d2, d3] => { results := [.lit (.bool true)], args := [d1, d2, d3] }
  | _ => none }
def knowTellsRow : OpenClaim := { program := "ytpajocjepahobaa", sum := "18e054a8859437119115c5d6dbde9bafdecf606492cd578d1e732df690e9fd1c", func := "chirograph/chirographlaw10.KnowTells", spec := "knowTells", inPlace := ["internal/bytealg.IndexByteString", "internal/bytealg.IndexString", "internal/abi.NoEscape", "maps.clone"], unfollowed := true, recurses := true, named := ["internal/bytealg.MaxLen"], apart := false }
def KnowTellsSaid : Prop := knowTellsRow.holds Try.pinned (OpenSpec.ofChange knowTellsSpec)

/-- ITS FALSE NEIGHBOUR: 'it returns false'. Refute it at one input. -/
def knowTellsWrong : ChangeSpec := { name := "knowTells", fn := fun _ => fun
  | [d1, d2, d3] => { results := [.lit (.bool false)], args := [d1, d2, d3] }
  | _ => none }
def KnowTellsWrongFalsely : Prop := knowTellsRow.holds Try.pinned (OpenSpec.ofChange knowTellsWrong)

/- THE SECOND FORM. 'bulk': how many values and letters a reading holds, each counted each time it is reached (what is shared counts as often as it is met; a slice's spare places count too). A statement '..UptoSaid' is the law's where the arguments, and the package variables that the reading takes, are together of bulk at most 1048576: NARROWER than '..Said'. Prove '..Said' where nothing that the law and all that it calls make is longer than what came in: it says more and counts as full. Else prove '..UptoSaid'. A law counts once. -/
mutual
def uptoBulk {H : Type} : DataW H → Nat
  | .lit (.string bytes) => bytes.length + 1
  | .lit _ => 1
  | .nil => 1
  | .ptr d => uptoBulk d + 1
  | .slice elems spare => uptoBulkAll elems + uptoBulkAll spare + 1
  | .agg parts => uptoBulkAll parts + 1
  | .iface _ d => uptoBulk d + 1
  | .map entries => uptoBulkEntries entries + 1
  | .held _ => 1
def uptoBulkAll {H : Type} : List (DataW H) → Nat
  | [] => 0
  | d :: r => uptoBulk d + uptoBulkAll r
def uptoBulkEntries {H : Type} : List (Lit × DataW H) → Nat
  | [] => 0
  | x :: r => uptoBulkEntry x + uptoBulkEntries r
def uptoBulkEntry {H : Type} : Lit × DataW H → Nat
  | (.string bytes, d) => bytes.length + uptoBulk d + 1
  | (_, d) => uptoBulk d + 1
 end
def uptoSmall : (H : Type) → List (DataW H) → Bool := fun _ ds => decide (uptoBulkAll ds ≤ 1048576)
def OpenSpec.upto (s : _root_.Go.ChangeSpec) : _root_.Go.OpenSpec := { _root_.Go.OpenSpec.ofChange s with cond := some uptoSmall }

/-- 'chirographlaw06.TermMakes', WHERE WHAT IT READS IS OF BULK AT MOST 1048576: true; the input reads as it did. -/
def termMakesUptoRow : OpenClaim := { program := "ytpajocjepahobaa", sum := "18e054a8859437119115c5d6dbde9bafdecf606492cd578d1e732df690e9fd1c", func := "chirograph/chirographlaw06.TermMakes", spec := "termMakes", inPlace := ["internal/bytealg.IndexByteString", "internal/bytealg.IndexString", "internal/abi.NoEscape"], unfollowed := true, recurses := true, named := ["internal/bytealg.MaxLen"], apart := false, narrowed := true }
def TermMakesUptoSaid : Prop := termMakesUptoRow.holds Try.pinned (OpenSpec.upto termMakesSpec)

/-- 'chirographlaw10.KnowOrder', WHERE WHAT IT READS IS OF BULK AT MOST 1048576: true; the input reads as it did. -/
def knowOrderUptoRow : OpenClaim := { program := "ytpajocjepahobaa", sum := "18e054a8859437119115c5d6dbde9bafdecf606492cd578d1e732df690e9fd1c", func := "chirograph/chirographlaw10.KnowOrder", spec := "knowOrder", inPlace := ["internal/bytealg.IndexByteString", "internal/bytealg.IndexString", "internal/abi.NoEscape", "maps.clone"], unfollowed := true, recurses := true, named := ["internal/bytealg.MaxLen"], apart := false, narrowed := true }
def KnowOrderUptoSaid : Prop := knowOrderUptoRow.holds Try.pinned (OpenSpec.upto knowOrderSpec)

/-- 'chirographlaw06.TermBack', WHERE WHAT IT READS IS OF BULK AT MOST 1048576: true; the input reads as it did. -/
def termBackUptoRow : OpenClaim := { program := "ytpajocjepahobaa", sum := "18e054a8859437119115c5d6dbde9bafdecf606492cd578d1e732df690e9fd1c", func := "chirograph/chirographlaw06.TermBack", spec := "termBack", inPlace := ["internal/bytealg.IndexByteString", "internal/bytealg.IndexString", "internal/abi.NoEscape"], unfollowed := true, recurses := true, named := ["internal/bytealg.MaxLen"], apart := false, narrowed := true }
def TermBackUptoSaid : Prop := termBackUptoRow.holds Try.pinned (OpenSpec.upto termBackSpec)

/-- 'chirographlaw10.KnowSeals', WHERE WHAT IT READS IS OF BULK AT MOST 1048576: true; the input reads as it did. -/
def knowSealsUptoRow : OpenClaim := { program := "ytpajocjepahobaa", sum := "18e054a8859437119115c5d6dbde9bafdecf606492cd578d1e732df690e9fd1c", func := "chirograph/chirographlaw10.KnowSeals", spec := "knowSeals", inPlace := ["internal/bytealg.IndexByteString", "internal/bytealg.IndexString", "internal/abi.NoEscape", "maps.clone"], unfollowed := true, recurses := true, named := ["internal/bytealg.MaxLen"], apart := false, narrowed := true }
def KnowSealsUptoSaid : Prop := knowSealsUptoRow.holds Try.pinned (OpenSpec.upto knowSealsSpec)

/-- 'chirographlaw06.TermOpens', WHERE WHAT IT READS IS OF BULK AT MOST 1048576: true; the input reads as it did. -/
def termOpensUptoRow : OpenClaim := { program := "ytpajocjepahobaa", sum := "18e054a8859437119115c5d6dbde9bafdecf606492cd578d1e732df690e9fd1c", func := "chirograph/chirographlaw06.TermOpens", spec := "termOpens", inPlace := ["internal/bytealg.IndexByteString", "internal/bytealg.IndexString", "internal/abi.NoEscape"], unfollowed := true, recurses := true, named := ["internal/bytealg.MaxLen"], apart := false, narrowed := true }
def TermOpensUptoSaid : Prop := termOpensUptoRow.holds Try.pinned (OpenSpec.upto termOpensSpec)

/-- 'chirographlaw11.ForgeRuns', WHERE WHAT IT READS IS OF BULK AT MOST 1048576: true; the input reads as it did. -/
def forgeRunsUptoRow : OpenClaim := { program := "ytpajocjepahobaa", sum := "18e054a8859437119115c5d6dbde9bafdecf606492cd578d1e732df690e9fd1c", func := "chirograph/chirographlaw11.ForgeRuns", spec := "forgeRuns", inPlace := ["internal/bytealg.IndexByteString", "internal/bytealg.IndexString", "internal/abi.NoEscape"], unfollowed := true, recurses := true, named := ["internal/bytealg.MaxLen"], apart := false, narrowed := true }
def ForgeRunsUptoSaid : Prop := forgeRunsUptoRow.holds Try.pinned (OpenSpec.upto forgeRunsSpec)

/-- 'chirographlaw11.ForgeMore', WHERE WHAT IT READS IS OF BULK AT MOST 1048576: true; the input reads as it did. -/
def forgeMoreUptoRow : OpenClaim := { program := "ytpajocjepahobaa", sum := "18e054a8859437119115c5d6dbde9bafdecf606492cd578d1e732df690e9fd1c", func := "chirograph/chirographlaw11.ForgeMore", spec := "forgeMore", inPlace := ["internal/bytealg.IndexByteString", "internal/bytealg.IndexString", "internal/abi.NoEscape"], unfollowed := true, recurses := true, named := ["internal/bytealg.MaxLen"], apart := false, narrowed := true }
def ForgeMoreUptoSaid : Prop := forgeMoreUptoRow.holds Try.pinned (OpenSpec.upto forgeMoreSpec)

/-- 'chirographlaw07.ShowReads', WHERE WHAT IT READS IS OF BULK AT MOST 1048576: true; the input reads as it did. -/
def showReadsUptoRow : OpenClaim := { program := "ytpajocjepahobaa", sum := "18e054a8859437119115c5d6dbde9bafdecf606492cd578d1e732df690e9fd1c", func := "chirograph/chirographlaw07.ShowReads", spec := "showReads", inPlace := ["internal/bytealg.IndexByteString", "internal/bytealg.IndexString", "internal/abi.NoEscape"], unfollowed := true, recurses := true, named := ["internal/bytealg.MaxLen"], apart := false, narrowed := true }
def ShowReadsUptoSaid : Prop := showReadsUptoRow.holds Try.pinned (OpenSpec.upto showReadsSpec)

/-- 'chirographlaw07.ShowBack', WHERE WHAT IT READS IS OF BULK AT MOST 1048576: true; the input reads as it did. -/
def showBackUptoRow : OpenClaim := { program := "ytpajocjepahobaa", sum := "18e054a8859437119115c5d6dbde9bafdecf606492cd578d1e732df690e9fd1c", func := "chirograph/chirographlaw07.ShowBack", spec := "showBack", inPlace := ["internal/bytealg.IndexByteString", "internal/bytealg.IndexString", "internal/abi.NoEscape"], unfollowed := true, recurses := true, named := ["internal/bytealg.MaxLen"], apart := false, narrowed := true }
def ShowBackUptoSaid : Prop := showBackUptoRow.holds Try.pinned (OpenSpec.upto showBackSpec)

/-- 'chirographlaw11.ForgeSound', WHERE WHAT IT READS IS OF BULK AT MOST 1048576: true; the input reads as it did. -/
def forgeSoundUptoRow : OpenClaim := { program := "ytpajocjepahobaa", sum := "18e054a8859437119115c5d6dbde9bafdecf606492cd578d1e732df690e9fd1c", func := "chirograph/chirographlaw11.ForgeSound", spec := "forgeSound", inPlace := ["internal/bytealg.IndexByteString", "internal/bytealg.IndexString", "internal/abi.NoEscape", "maps.clone"], unfollowed := true, recurses := true, named := ["internal/bytealg.MaxLen"], apart := false, narrowed := true }
def ForgeSoundUptoSaid : Prop := forgeSoundUptoRow.holds Try.pinned (OpenSpec.upto forgeSoundSpec)

/-- 'chirographlaw07.ShowTells', WHERE WHAT IT READS IS OF BULK AT MOST 1048576: true; the input reads as it did. -/
def showTellsUptoRow : OpenClaim := { program := "ytpajocjepahobaa", sum := "18e054a8859437119115c5d6dbde9bafdecf606492cd578d1e732df690e9fd1c", func := "chirograph/chirographlaw07.ShowTells", spec := "showTells", inPlace := ["internal/bytealg.IndexByteString", "internal/bytealg.IndexString", "internal/abi.NoEscape"], unfollowed := true, recurses := true, named := ["internal/bytealg.MaxLen"], apart := false, narrowed := true }
def ShowTellsUptoSaid : Prop := showTellsUptoRow.holds Try.pinned (OpenSpec.upto showTellsSpec)

/-- 'chirographlaw07.ShowUnlike', WHERE WHAT IT READS IS OF BULK AT MOST 1048576: true; the input reads as it did. -/
def showUnlikeUptoRow : OpenClaim := { program := "ytpajocjepahobaa", sum := "18e054a8859437119115c5d6dbde9bafdecf606492cd578d1e732df690e9fd1c", func := "chirograph/chirographlaw07.ShowUnlike", spec := "showUnlike", inPlace := ["internal/bytealg.IndexByteString", "internal/bytealg.IndexString", "internal/abi.NoEscape"], unfollowed := true, recurses := true, named := ["internal/bytealg.MaxLen"], apart := false, narrowed := true }
def ShowUnlikeUptoSaid : Prop := showUnlikeUptoRow.holds Try.pinned (OpenSpec.upto showUnlikeSpec)

/-- 'chirographlaw11.ForgeFinds', WHERE WHAT IT READS IS OF BULK AT MOST 1048576: true; the input reads as it did. -/
def forgeFindsUptoRow : OpenClaim := { program := "ytpajocjepahobaa", sum := "18e054a8859437119115c5d6dbde9bafdecf606492cd578d1e732df690e9fd1c", func := "chirograph/chirographlaw11.ForgeFinds", spec := "forgeFinds", inPlace := ["internal/bytealg.IndexByteString", "internal/bytealg.IndexString", "internal/abi.NoEscape", "maps.clone"], unfollowed := true, recurses := true, named := ["internal/bytealg.MaxLen"], apart := false, narrowed := true }
def ForgeFindsUptoSaid : Prop := forgeFindsUptoRow.holds Try.pinned (OpenSpec.upto forgeFindsSpec)

/-- 'chirographlaw08.SuiteNonces', WHERE WHAT IT READS IS OF BULK AT MOST 1048576: true; the input reads as it did. -/
def suiteNoncesUptoRow : OpenClaim := { program := "ytpajocjepahobaa", sum := "18e054a8859437119115c5d6dbde9bafdecf606492cd578d1e732df690e9fd1c", func := "chirograph/chirographlaw08.SuiteNonces", spec := "suiteNonces", inPlace := ["internal/bytealg.IndexByteString", "internal/bytealg.IndexString"], unfollowed := true, recurses := true, named := ["internal/bytealg.MaxLen"], apart := false, narrowed := true }
def SuiteNoncesUptoSaid : Prop := suiteNoncesUptoRow.holds Try.pinned (OpenSpec.upto suiteNoncesSpec)

/-- 'chirographlaw08.SuiteApart', WHERE WHAT IT READS IS OF BULK AT MOST 1048576: true; the input reads as it did. -/
def suiteApartUptoRow : OpenClaim := { program := "ytpajocjepahobaa", sum := "18e054a8859437119115c5d6dbde9bafdecf606492cd578d1e732df690e9fd1c", func := "chirograph/chirographlaw08.SuiteApart", spec := "suiteApart", inPlace := ["internal/bytealg.IndexByteString", "internal/bytealg.IndexString"], unfollowed := true, recurses := true, named := ["internal/bytealg.MaxLen"], apart := false, narrowed := true }
def SuiteApartUptoSaid : Prop := suiteApartUptoRow.holds Try.pinned (OpenSpec.upto suiteApartSpec)

/-- 'chirographlaw08.SuiteBack', WHERE WHAT IT READS IS OF BULK AT MOST 1048576: true; the input reads as it did. -/
def suiteBackUptoRow : OpenClaim := { program := "ytpajocjepahobaa", sum := "18e054a8859437119115c5d6dbde9bafdecf606492cd578d1e732df690e9fd1c", func := "chirograph/chirographlaw08.SuiteBack", spec := "suiteBack", inPlace := ["internal/bytealg.IndexByteString", "internal/bytealg.IndexString"], unfollowed := true, recurses := true, named := ["internal/bytealg.MaxLen"], apart := false, narrowed := true }
def SuiteBackUptoSaid : Prop := suiteBackUptoRow.holds Try.pinned (OpenSpec.upto suiteBackSpec)

/-- 'chirographlaw08.SuiteImages', WHERE WHAT IT READS IS OF BULK AT MOST 1048576: true; the input reads as it did. -/
def suiteImagesUptoRow : OpenClaim := { program := "ytpajocjepahobaa", sum := "18e054a8859437119115c5d6dbde9bafdecf606492cd578d1e732df690e9fd1c", func := "chirograph/chirographlaw08.SuiteImages", spec := "suiteImages", inPlace := ["internal/bytealg.IndexByteString", "internal/bytealg.IndexString", "internal/abi.NoEscape"], unfollowed := true, recurses := true, named := ["internal/bytealg.MaxLen"], apart := false, narrowed := true }
def SuiteImagesUptoSaid : Prop := suiteImagesUptoRow.holds Try.pinned (OpenSpec.upto suiteImagesSpec)

/-- 'chirographlaw10.KnowTells', WHERE WHAT IT READS IS OF BULK AT MOST 1048576: true; the input reads as it did. -/
def knowTellsUptoRow : OpenClaim := { program := "ytpajocjepahobaa", sum := "18e054a8859437119115c5d6dbde9bafdecf606492cd578d1e732df690e9fd1c", func := "chirograph/chirographlaw10.KnowTells", spec := "knowTells", inPlace := ["internal/bytealg.IndexByteString", "internal/bytealg.IndexString", "internal/abi.NoEscape", "maps.clone"], unfollowed := true, recurses := true, named := ["internal/bytealg.MaxLen"], apart := false, narrowed := true }
def KnowTellsUptoSaid : Prop := knowTellsUptoRow.holds Try.pinned (OpenSpec.upto knowTellsSpec)

end Rows
end Go.Proofs.Ytpajocjepahobaa
