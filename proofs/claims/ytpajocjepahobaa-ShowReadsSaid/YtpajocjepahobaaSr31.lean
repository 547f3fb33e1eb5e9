import Derived.Test.YtpajocjepahobaaSr30
import Derived.Test.YtpajocjepahobaaRows
import Derived.WalkKit
import Derived.ProofKit
import Derived.OpenShut
import Derived.ShutString
import Derived.ChangeOld
import Derived.Below
import Derived.SizedLaws
section
namespace Go.Proofs.Ytpajocjepahobaa.Pure
set_option linter.unusedSimpArgs false
open Go.RowKit Go.Proofs.Ytpajocjepahobaa.I Go.Proofs.Ytpajocjepahobaa.G
theorem alive7r : chirographlaw07_alive.f = some true := by decide +kernel
theorem ShowReads : chirographlaw07_ShowReads.Pure := by
  intro s hs
  unfold chirographlaw07_ShowReads.f chirographlaw07_long.f
  simp only [Option.bind_some, alive7r]
  split
  · rfl
  · unfold show_Parse.f chirographref07_Parse.f
    rw [if_pos hs]
    simp only [Option.bind_some, if_true]
end Go.Proofs.Ytpajocjepahobaa.Pure
end
section
namespace Go.Proofs.Ytpajocjepahobaa.Facts
open Go.ChangeShapes Go.WideShapes Go.ChangeAt Go.RowKit
def w0 : List Char := ['h', 'a', 'r', 'n', 'e', 's', 's']
def w1 : List Char := ['8', 'c', '9', '2', 'a', '3', 'f', '3', '6', 'e', 'd', 'd', '2', '8', 'e', '1', 'a', '0', '7', 'e', '9', '1', 'd', '7', '2', '1', 'b', '0', '3', '1', 'c', '2', 'a', '7', '2', '3', 'c', '0', '6', '0', '9', '0', '2', '3', 'e', '4', '1', '2', 'f', '5', '4', '6', '0', '4', 'd', '0', '9', 'c', 'b', '2', '4', '6', 'c', '3']
def w2 : List Char := ['c', 'u', 't']
def w3 : List Char := ['a', 't']
def w4 : List Char := ['c', 'h', 'i', 'r', 'o', 'g', 'r', 'a', 'p', 'h', '/', 'c', 'h', 'i', 'r', 'o', 'g', 'r', 'a', 'p', 'h', 'l', 'a', 'w', '0', '6', '.', 'T', 'e', 'r', 'm', 'M', 'a', 'k', 'e', 's']
def w5 : List Char := ['c', 'h', 'i', 'r', 'o', 'g', 'r', 'a', 'p', 'h', '/', 'c', 'h', 'i', 'r', 'o', 'g', 'r', 'a', 'p', 'h', 'l', 'a', 'w', '1', '0', '.', 'K', 'n', 'o', 'w', 'O', 'r', 'd', 'e', 'r']
def w6 : List Char := ['c', 'h', 'i', 'r', 'o', 'g', 'r', 'a', 'p', 'h', '/', 'c', 'h', 'i', 'r', 'o', 'g', 'r', 'a', 'p', 'h', 'l', 'a', 'w', '0', '6', '.', 'T', 'e', 'r', 'm', 'B', 'a', 'c', 'k']
def w7 : List Char := ['c', 'h', 'i', 'r', 'o', 'g', 'r', 'a', 'p', 'h', '/', 'c', 'h', 'i', 'r', 'o', 'g', 'r', 'a', 'p', 'h', 'l', 'a', 'w', '1', '0', '.', 'K', 'n', 'o', 'w', 'S', 'e', 'a', 'l', 's']
def w8 : List Char := ['c', 'h', 'i', 'r', 'o', 'g', 'r', 'a', 'p', 'h', '/', 'c', 'h', 'i', 'r', 'o', 'g', 'r', 'a', 'p', 'h', 'l', 'a', 'w', '0', '6', '.', 'T', 'e', 'r', 'm', 'O', 'p', 'e', 'n', 's']
def w9 : List Char := ['c', 'h', 'i', 'r', 'o', 'g', 'r', 'a', 'p', 'h', '/', 'c', 'h', 'i', 'r', 'o', 'g', 'r', 'a', 'p', 'h', 'l', 'a', 'w', '1', '1', '.', 'F', 'o', 'r', 'g', 'e', 'R', 'u', 'n', 's']
def w10 : List Char := ['c', 'h', 'i', 'r', 'o', 'g', 'r', 'a', 'p', 'h', '/', 'c', 'h', 'i', 'r', 'o', 'g', 'r', 'a', 'p', 'h', 'l', 'a', 'w', '1', '1', '.', 'F', 'o', 'r', 'g', 'e', 'M', 'o', 'r', 'e']
def w11 : List Char := ['c', 'h', 'i', 'r', 'o', 'g', 'r', 'a', 'p', 'h', '/', 'c', 'h', 'i', 'r', 'o', 'g', 'r', 'a', 'p', 'h', 'l', 'a', 'w', '0', '7', '.', 'S', 'h', 'o', 'w', 'R', 'e', 'a', 'd', 's']
def w12 : List Char := ['c', 'h', 'i', 'r', 'o', 'g', 'r', 'a', 'p', 'h', '/', 'c', 'h', 'i', 'r', 'o', 'g', 'r', 'a', 'p', 'h', 'l', 'a', 'w', '0', '7', '.', 'S', 'h', 'o', 'w', 'B', 'a', 'c', 'k']
def w13 : List Char := ['c', 'h', 'i', 'r', 'o', 'g', 'r', 'a', 'p', 'h', '/', 'c', 'h', 'i', 'r', 'o', 'g', 'r', 'a', 'p', 'h', 'l', 'a', 'w', '1', '1', '.', 'F', 'o', 'r', 'g', 'e', 'S', 'o', 'u', 'n', 'd']
def w14 : List Char := ['c', 'h', 'i', 'r', 'o', 'g', 'r', 'a', 'p', 'h', '/', 'c', 'h', 'i', 'r', 'o', 'g', 'r', 'a', 'p', 'h', 'l', 'a', 'w', '0', '7', '.', 'S', 'h', 'o', 'w', 'T', 'e', 'l', 'l', 's']
def w15 : List Char := ['c', 'h', 'i', 'r', 'o', 'g', 'r', 'a', 'p', 'h', '/', 'c', 'h', 'i', 'r', 'o', 'g', 'r', 'a', 'p', 'h', 'l', 'a', 'w', '0', '7', '.', 'S', 'h', 'o', 'w', 'U', 'n', 'l', 'i', 'k', 'e']
def w16 : List Char := ['c', 'h', 'i', 'r', 'o', 'g', 'r', 'a', 'p', 'h', '/', 'c', 'h', 'i', 'r', 'o', 'g', 'r', 'a', 'p', 'h', 'l', 'a', 'w', '1', '1', '.', 'F', 'o', 'r', 'g', 'e', 'F', 'i', 'n', 'd', 's']
def w17 : List Char := ['c', 'h', 'i', 'r', 'o', 'g', 'r', 'a', 'p', 'h', '/', 'c', 'h', 'i', 'r', 'o', 'g', 'r', 'a', 'p', 'h', 'l', 'a', 'w', '0', '8', '.', 'S', 'u', 'i', 't', 'e', 'N', 'o', 'n', 'c', 'e', 's']
def w18 : List Char := ['c', 'h', 'i', 'r', 'o', 'g', 'r', 'a', 'p', 'h', '/', 'c', 'h', 'i', 'r', 'o', 'g', 'r', 'a', 'p', 'h', 'l', 'a', 'w', '0', '8', '.', 'S', 'u', 'i', 't', 'e', 'A', 'p', 'a', 'r', 't']
def w19 : List Char := ['c', 'h', 'i', 'r', 'o', 'g', 'r', 'a', 'p', 'h', '/', 'c', 'h', 'i', 'r', 'o', 'g', 'r', 'a', 'p', 'h', 'l', 'a', 'w', '0', '8', '.', 'S', 'u', 'i', 't', 'e', 'B', 'a', 'c', 'k']
def w20 : List Char := ['c', 'h', 'i', 'r', 'o', 'g', 'r', 'a', 'p', 'h', '/', 'c', 'h', 'i', 'r', 'o', 'g', 'r', 'a', 'p', 'h', 'l', 'a', 'w', '0', '8', '.', 'S', 'u', 'i', 't', 'e', 'I', 'm', 'a', 'g', 'e', 's']
def w21 : List Char := ['c', 'h', 'i', 'r', 'o', 'g', 'r', 'a', 'p', 'h', '/', 'c', 'h', 'i', 'r', 'o', 'g', 'r', 'a', 'p', 'h', 'l', 'a', 'w', '1', '0', '.', 'K', 'n', 'o', 'w', 'T', 'e', 'l', 'l', 's']
def chars : List Char := w0 ++ ' ' :: (w1 ++ ' ' :: (w2 ++ ' ' :: (w3 ++ ' ' :: (w4 ++ ' ' :: (w5 ++ ' ' :: (w6 ++ ' ' :: (w7 ++ ' ' :: (w8 ++ ' ' :: (w9 ++ ' ' :: (w10 ++ ' ' :: (w11 ++ ' ' :: (w12 ++ ' ' :: (w13 ++ ' ' :: (w14 ++ ' ' :: (w15 ++ ' ' :: (w16 ++ ' ' :: (w17 ++ ' ' :: (w18 ++ ' ' :: (w19 ++ ' ' :: (w20 ++ ' ' :: (w21)))))))))))))))))))))
theorem initOrder : Try.pinned.checked.prog.initOrder = String.ofList chars := by kernel_rfl
theorem initChars : Try.pinned.checked.prog.initOrder.toList = chars := by rw [initOrder, String.toList_ofList]
theorem words_last : ∀ (w : List Char), w.all (· != ' ') = true → wordsSigns w = [w]
  | [], _ => rfl
  | c :: r, h => by
    simp only [List.all_cons, Bool.and_eq_true, bne_iff_ne] at h
    have ih := words_last r h.2
    unfold wordsSigns
    split
    · rename_i hc; cases hc
    · rename_i hc; injection hc with h1 h2; exact absurd h1 h.1
    · rename_i hc; injection hc with h1 h2; subst h1; subst h2; rw [ih]
theorem words_cons : ∀ (w r : List Char), w.all (· != ' ') = true → wordsSigns (w ++ ' ' :: r) = w :: wordsSigns r
  | [], r, _ => by rw [List.nil_append]; rfl
  | c :: t, r, h => by
    simp only [List.all_cons, Bool.and_eq_true, bne_iff_ne] at h
    have ih := words_cons t r h.2
    rw [List.cons_append]
    conv => lhs; unfold wordsSigns
    split
    · rename_i hc; cases hc
    · rename_i hc; injection hc with h1 h2; exact absurd h1 h.1
    · rename_i hc; injection hc with h1 h2; subst h1; subst h2; rw [ih]
theorem words : wordsSigns Try.pinned.checked.prog.initOrder.toList = [w0, w1, w2, w3, w4, w5, w6, w7, w8, w9, w10, w11, w12, w13, w14, w15, w16, w17, w18, w19, w20, w21] := by
  rw [initChars]
  unfold chars
  rw [words_cons w0 _ (by kernel_rfl)]
  rw [words_cons w1 _ (by kernel_rfl)]
  rw [words_cons w2 _ (by kernel_rfl)]
  rw [words_cons w3 _ (by kernel_rfl)]
  rw [words_cons w4 _ (by kernel_rfl)]
  rw [words_cons w5 _ (by kernel_rfl)]
  rw [words_cons w6 _ (by kernel_rfl)]
  rw [words_cons w7 _ (by kernel_rfl)]
  rw [words_cons w8 _ (by kernel_rfl)]
  rw [words_cons w9 _ (by kernel_rfl)]
  rw [words_cons w10 _ (by kernel_rfl)]
  rw [words_cons w11 _ (by kernel_rfl)]
  rw [words_cons w12 _ (by kernel_rfl)]
  rw [words_cons w13 _ (by kernel_rfl)]
  rw [words_cons w14 _ (by kernel_rfl)]
  rw [words_cons w15 _ (by kernel_rfl)]
  rw [words_cons w16 _ (by kernel_rfl)]
  rw [words_cons w17 _ (by kernel_rfl)]
  rw [words_cons w18 _ (by kernel_rfl)]
  rw [words_cons w19 _ (by kernel_rfl)]
  rw [words_cons w20 _ (by kernel_rfl)]
  rw [words_last w21 (by kernel_rfl)]
theorem behind_of (r : List (List Char)) : behindMainWord (w0 :: w1 :: r) = r := by
  unfold behindMainWord
  exact if_pos (by kernel_rfl)
theorem make_of (P : Program) (rest : List (List Char)) (h : behindMainWord (wordsSigns P.initOrder.toList) = w2 :: rest) : P.make = some .cut := by
  unfold Program.make
  rw [h]
  rfl
theorem make : Try.pinned.checked.prog.make = some .cut := make_of _ _ ((congrArg behindMainWord words).trans (behind_of _))
theorem lifts_of (P : Program) (rest : List (List Char)) (h : behindMainWord (wordsSigns P.initOrder.toList) = w2 :: rest) : P.liftsFinal = false := by
  unfold Program.liftsFinal Program.headLifts
  rw [h]
  rfl
theorem liftsFinal : Try.pinned.checked.prog.liftsFinal = false := lifts_of _ _ ((congrArg behindMainWord words).trans (behind_of _))
theorem may_of (P : Program) (rest : List (List Char)) (h : behindMainWord (wordsSigns P.initOrder.toList) = w2 :: rest) (h1 : P.laysLater = false) (h2 : P.bearsReflect = false) (h3 : P.doorFits [] = true) : P.mayEnter = true := by
  unfold Program.mayEnter
  rw [h]
  have e : stripLifts liftWords (w2 :: rest) = ([], w2 :: rest) := rfl
  simp only [e, h1, h2, h3]
  rfl
set_option maxRecDepth 100000 in
theorem later : Try.pinned.checked.prog.laysLater = false := by kernel_rfl
set_option maxRecDepth 100000 in
theorem reflect : Try.pinned.checked.prog.bearsReflect = false := by kernel_rfl
set_option maxRecDepth 100000 in
theorem door : Try.pinned.checked.prog.doorFits [] = true := by kernel_rfl
theorem mayEnter : Try.pinned.checked.prog.mayEnter = true := may_of _ _ ((congrArg behindMainWord words).trans (behind_of _)) later reflect door
set_option maxRecDepth 100000 in
theorem laid : laidOutB Try.pinned.checked.prog = true := by kernel_rfl
set_option maxRecDepth 100000 in
theorem mapsRowed : Go.mapsRowed Try.pinned.checked.prog = true := by kernel_rfl
set_option maxRecDepth 100000 in
theorem heard : Try.pinned.checked.prog.stopsHeard = true := by kernel_rfl
end Go.Proofs.Ytpajocjepahobaa.Facts
end
section
namespace Go.Proofs.Ytpajocjepahobaa.showReads
open Go.ChangeShapes Go.WideShapes Go.ChangeAt Go.RowKit
open Go.ChangeMaps (open_string shut_string)
set_option linter.unusedVariables false
theorem own : ownKnob Try.prog.godebug = none := by kernel_rfl
set_option maxRecDepth 100000 in
theorem lifted (os : Os) (started : os.Started) (H : Type) (enc : TypeId × Value → H) :
    ReturnsInHanded {} Try.checked os 10 .any (Rows.showReadsSpec.pre6 enc Try.prog Try.f10 Rows.showReadsRow.domain false) (Rows.showReadsSpec.post enc Try.prog Try.f10 false true false false) := by
  refine returnsInHanded_of_change_sized (C := Try.checked) own started (by kernel_rfl) Try.func10
    (ChangeSpec.witness6 (enc := enc) (C := Try.checked) false ⟨#[], #[.string ByteArray.empty], []⟩ 8 (by kernel_rfl) (by kernel_rfl) (by kernel_rfl) (by kernel_rfl)) ?_
  intro W base args ds gs before hval0 hW hcnd hsz0 _
  have hsz : (DataW.weightsEach Try.prog (Try.f10.params.toList ++ Rows.showReadsSpec.plain.varTypes Try.prog) (ds ++ gs)).all (· ≤ reachBytes) = true := hsz0
  have hval : ∀ (j : Nat) t v, Try.f10.params[j]? = some t → args[j]? = some v → Value.okWide Try.prog W .any base t v := hval0
  have hW' := hW
  obtain ⟨p, q, hA0, hV, rfl, hfz, hnd⟩ := hW
  have hA : DataW.TrodAll enc Try.prog W 0 (fun _ => true) true Try.f10.params.toList args.toList ds p := hA0
  rw [Try.params10] at hA hval hsz
  obtain ⟨v0, vs0, d0, ds0, p0, q0, hargs, rfl, rfl, h0, r0⟩ := trodAll_cons hA
  obtain ⟨rfl, rfl, rfl⟩ := trodAll_nil r0
  obtain rfl : args = #[v0] := by cases args; simp_all
  obtain ⟨rfl, rfl⟩ := trodVars_none hV
  obtain ⟨a0, rfl, rfl, rfl, y0⟩ := open_string Try.underlying9 (hval 0 9 v0 rfl rfl) h0
  have w0 : a0.size ≤ 140737488351232 := by
    have z := sized_string hsz (j := 0) (t := 9) rfl rfl
    rw [Array.length_toList] at z
    exact z
  clear hA0 hval0 hsz0 hsz
  refine (Go.Proofs.Ytpajocjepahobaa.I.chirographlaw07_ShowReads.walk Pure.ShowReads a0 W w0).mono fun e W' ⟨he, bel⟩ => ?_
  subst he
  exact ⟨_, rfl, _, _, _, [], _, [], hW', trodAll_mk1 (shut_bool Try.underlying4 _), (trodAll_cons_mk (shut_string Try.underlying9 y0) trodAll_mk0), rfl, bel.frame _, fun h => by cases h⟩
set_option maxHeartbeats 8000000 in
set_option maxRecDepth 100000 in
theorem closed : joinedFacts Try.pinned.checked.prog 10 Try.f10 Rows.showReadsSpec Rows.showReadsRow = true := by
  rw [joinedFacts, Facts.mayEnter, Facts.liftsFinal, Facts.make, Facts.laid, Facts.mapsRowed, Facts.heard]
  repeat' (with_reducible refine Bool.and_eq_true_iff.2 (And.intro ?_ ?_))
  all_goals (as_aux_lemma => kernel_rfl)
theorem over : Rows.showReadsRow.holds Try.pinned (OpenSpec.ofChange Rows.showReadsSpec) :=
  OpenClaim.holds_of_wide 10 Try.f10 rfl rfl rfl rfl rfl rfl rfl ⟨rfl, rfl, rfl, rfl, rfl⟩ rfl rfl rfl rfl rfl (by kernel_rfl) Try.func10 closed
    (of_decide_eq_true (by kernel_rfl)) (by unfold Func.isWrapper; first | (rw [if_pos (by decide +kernel)]; kernel_rfl) | (rw [if_neg (by decide +kernel)]; exact ⟨rfl, rfl⟩))
    (fun os started H enc _ => lifted os started H enc)
theorem proved : Rows.ShowReadsSaid := over
#print axioms proved
end Go.Proofs.Ytpajocjepahobaa.showReads
namespace Go.Proofs.Ytpajocjepahobaa
/-- The row, under a short name, for the claim. -/
theorem showReads_holds : Rows.ShowReadsSaid := showReads.proved
end Go.Proofs.Ytpajocjepahobaa
end
