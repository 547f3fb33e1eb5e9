/- What the kernel reckons of the program as a whole, once for all claims: the words of its making are parted by a law, which spares the kernel ten gigabytes. -/
import Derived.Test.YtpajocjepahobaaRows
import Derived.WalkKit
import Derived.ProofKit
namespace Go.Proofs.Ytpajocjepahobaa.Facts
open Go.ChangeShapes Go.WideShapes Go.ChangeAt Go.RowKit
def w0 : List Char := ['h', 'a', 'r', 'n', 'e', 's', 's']
def w1 : List Char := ['8', 'c', '9', '2', 'a', '3', 'f', '3', '6', 'e', 'd', 'd', '2', '8', 'e', '1', 'a', '0', '7', 'e', '9', '1', 'd', '7', '2', '1', 'b', '0', '3', '1', 'c', '2', 'a', '7', '2', '3', 'c', '0', '6', '0', '9', '0', '2', '3', 'e', '4', '1', '2', 'f', '5', '4', '6', '0', '4', 'd', '0', '9', 'c', 'b', '2', '4', '6', 'c', '3']
def w2 : List Char := ['c', 'u', 't']
def w3 : List Char := ['a', 't']
def w4 : List Char := ['c', 'h', 'i', 'r', 'o', 'g', 'r', 'a', 'p', 'h', '/', 'c', 'h', 'i', 'r', 'o', 'g', 'r', 'a', 'p', 'h', 'l', 'a', 'w', '0', '6', '.', 'T', 'e', 'r', 'm', 'M', 'a', 'k', 'e', 's']
def w5 : List Char := ['c', 'h', 'i', 'r', 'o', 'g', 'r', 'a', 'p', 'h', '/', 'c', 'h', 'i', 'r', 'o', 'g', 'r', 'a', 'p', 'h', 'l', 'a', 'w', '1', '0', '.', 'K', 'n', 'o', 'w', 'O', 'r', 'd', 'e', 'r']
def w6 : List Char := ['c', 'h', 'i', 'r', 'o', 'g', 'r', 'a', 'p', 'h', '/', 'c', 'h', 'i', 'r', 'o', 'g', 'r', 'a', 'p', 'h', 'l', 'a', 'w', '0', '6', '.', 'T', 'e', 'r', 'm', 'B', 'a', 'c', 'k']
def w7 : List Char := ['c', 'h', 'i', 'r', 'o', 'g', 'r', 'a', 'p', 'h', '/', 'c', 'h', 'i', 'r', 'o', 'g', 'r', 'a', 'p', 'h', 'l', 'a', 'w', '1', '0', '.', 'K', 'n', 'o', 'w', 'S', 'e', 'a', 'l', 's']
def w8 : List Char := ['c', 'h', 'i', 'r', 'o', 'g', 'r', 'a', 'p', 'h', '/', 'c', 'h', 'i', 'r', 'o', 'g', 'r', 'a', 'p', 'h', 'l', 'a', 'w', '0', '6', '.', 'T', 'e', 'r', 'm', 'O', 'p', 'e', 'n', 's']
def w9 : List Char := ['c', 'h', 'i', 'r', 'o', 'g', 'r', 'a', 'p', 'h', '/', 'c', 'h', 'i', 'r', 'o', 'g', 'r', 'a', 'p', 'h', 'l', 'a', 'w', '1', '1', '.', 'F', 'o', 'r', 'g', 'e', 'R', 'u', 'n', 's']
def w10 : List Char := ['c', 'h', 'i', 'r', 'o', 'g', 'r', 'a', 'p', 'h', '/', 'c', 'h', 'i', 'r', 'o', 'g', 'r', 'a', 'p', 'h', 'l', 'a', 'w', '1', '1', '.', 'F', 'o', 'r', 'g', 'e', 'M', 'o', 'r', 'e']
def w11 : List Char := ['c', 'h', 'i', 'r', 'o', 'g', 'r', 'a', 'p', 'h', '/', 'c', 'h', 'i', 'r', 'o', 'g', 'r', 'a', 'p', 'h', 'l', 'a', 'w', '0', '7', '.', 'S', 'h', 'o', 'w', 'R', 'e', 'a', 'd', 's']
def w12 : List Char := ['c', 'h', 'i', 'r', 'o', 'g', 'r', 'a', 'p', 'h', '/', 'c', 'h', 'i', 'r', 'o', 'g', 'r', 'a', 'p', 'h', 'l', 'a', 'w', '0', '7', '.', 'S', 'h', 'o', 'w', 'B', 'a', 'c', 'k']
def w13 : List Char := ['c', 'h', 'i', 'r', 'o', 'g', 'r', 'a', 'p', 'h', '/', 'c', 'h', 'i', 'r', 'o', 'g', 'r', 'a', 'p', 'h', 'l', 'a', 'w', '1', '1', '.', 'F', 'o', 'r', 'g', 'e', 'S', 'o', 'u', 'n', 'd']
def w14 : List Char := ['c', 'h', 'i', 'r', 'o', 'g', 'r', 'a', 'p', 'h', '/', 'c', 'h', 'i', 'r', 'o', 'g', 'r', 'a', 'p', 'h', 'l', 'a', 'w', '0', '7', '.', 'S', 'h', 'o', 'w', 'T', 'e', 'l', 'l', 's']
def w15 : List Char := ['c', 'h', 'i', 'r', 'o', 'g', 'r', 'a', 'p', 'h', '/', 'c', 'h', 'i', 'r', 'o', 'g', 'r', 'a', 'p', 'h', 'l', 'a', 'w', '0', '7', '.', 'S', 'h', 'o', 'w', 'U', 'n', 'l', 'i', 'k', 'e']
def w16 : List Char := ['c', 'h', 'i', 'r', 'o', 'g', 'r', 'a', 'p', 'h', '/', 'c', 'h', 'i', 'r', 'o', 'g', 'r', 'a', 'p', 'h', 'l', 'a', 'w', '1', '1', '.', 'F', 'o', 'r', 'g', 'e', 'F', 'i', 'n', 'd', 's']
def w17 : List Char := ['c', 'h', 'i', 'r', 'o', 'g', 'r', 'a', 'p', 'h', '/', 'c', 'h', 'i', 'r', 'o', 'g', 'r', 'a', 'p', 'h', 'l', 'a', 'w', '0', '8', '.', 'S', 'u', 'i', 't', 'e', 'N', 'o', 'n', 'c', 'e', 's']
def w18 : List Char := ['c', 'h', 'i', 'r', 'o', 'g', 'r', 'a', 'p', 'h', '/', 'c', 'h', 'i', 'r', 'o', 'g', 'r', 'a', 'p', 'h', 'l', 'a', 'w', '0', '8', '.', 'S', 'u', 'i', 't', 'e', 'A', 'p', 'a', 'r', 't']
def w19 : List Char := ['c', 'h', 'i', 'r', 'o', 'g', 'r', 'a', 'p', 'h', '/', 'c', 'h', 'i', 'r', 'o', 'g', 'r', 'a', 'p', 'h', 'l', 'a', 'w', '0', '8', '.', 'S', 'u', 'i', 't', 'e', 'B', 'a', 'c', 'k']
def w20 : List Char := ['c', 'h', 'i', 'r', 'o', 'g', 'r', 'a', 'p', 'h', '/', 'c', 'h', 'i', 'r', 'o', 'g', 'r', 'a', 'p', 'h', 'l', 'a', 'w', '0', '8', '.', 'S', 'u', 'i', 't', 'e', 'I', 'm', 'a', 'g', 'e', 's']
def w21 : List Char := ['c', 'h', 'i', 'r', 'o', 'g', 'r', 'a', 'p', 'h', '/', 'c', 'h', 'i', 'r', 'o', 'g', 'r', 'a', 'p', 'h', 'l', 'a', 'w', '1', '0', '.', 'K', 'n', 'o', 'w', 'T', 'e', 'l', 'l', 's']
def chars : List Char := w0 ++ ' ' :: (w1 ++ ' ' :: (w2 ++ ' ' :: (w3 ++ ' ' :: (w4 ++ ' ' :: (w5 ++ ' ' :: (w6 ++ ' ' :: (w7 ++ ' ' :: (w8 ++ ' ' :: (w9 ++ ' ' :: (w10 ++ ' ' :: (w11 ++ ' ' :: (w12 ++ ' ' :: (w13 ++ ' ' :: (w14 ++ ' ' :: (w15 ++ ' ' :: (w16 ++ ' ' :: (w17 ++ ' ' :: (w18 ++ ' ' :: (w19 ++ ' ' :: (w20 ++ ' ' :: (w21)))))))))))))))))))))
theorem initOrder : Try.pinned.checked.prog.initOrder = String.ofList chars := by kernel_rfl
theorem initChars : Try.pinned.checked.prog.initOrder.toList = chars := by rw [initOrder, String.toList_ofList]
theorem words_last : ∀ (w : List Char), w.all (· != ' ') = true → wordsSigns w = [w]
  | [], _ => rfl
  | c :: r, h => by
    simp only [List.all_cons, Bool.and_eq_true, bne_iff_ne] at h
    have ih := words_last r h.2
    unfold wordsSigns
    split
    · rename_i hc; cases hc
    · rename_i hc; injection hc with h1 h2; exact absurd h1 h.1
    · rename_i hc; injection hc with h1 h2; subst h1; subst h2; rw [ih]
theorem words_cons : ∀ (w r : List Char), w.all (· != ' ') = true → wordsSigns (w ++ ' ' :: r) = w :: wordsSigns r
  | [], r, _ => by rw [List.nil_append]; rfl
  | c :: t, r, h => by
    simp only [List.all_cons, Bool.and_eq_true, bne_iff_ne] at h
    have ih := words_cons t r h.2
    rw [List.cons_append]
    conv => lhs; unfold wordsSigns
    split
    · rename_i hc; cases hc
    · rename_i hc; injection hc with h1 h2; exact absurd h1 h.1
    · rename_i hc; injection hc with h1 h2; subst h1; subst h2; rw [ih]
theorem words : wordsSigns Try.pinned.checked.prog.initOrder.toList = [w0, w1, w2, w3, w4, w5, w6, w7, w8, w9, w10, w11, w12, w13, w14, w15, w16, w17, w18, w19, w20, w21] := by
  rw [initChars]
  unfold chars
  rw [words_cons w0 _ (by kernel_rfl)]
  rw [words_cons w1 _ (by kernel_rfl)]
  rw [words_cons w2 _ (by kernel_rfl)]
  rw [words_cons w3 _ (by kernel_rfl)]
  rw [words_cons w4 _ (by kernel_rfl)]
  rw [words_cons w5 _ (by kernel_rfl)]
  rw [words_cons w6 _ (by kernel_rfl)]
  rw [words_cons w7 _ (by kernel_rfl)]
  rw [words_cons w8 _ (by kernel_rfl)]
  rw [words_cons w9 _ (by kernel_rfl)]
  rw [words_cons w10 _ (by kernel_rfl)]
  rw [words_cons w11 _ (by kernel_rfl)]
  rw [words_cons w12 _ (by kernel_rfl)]
  rw [words_cons w13 _ (by kernel_rfl)]
  rw [words_cons w14 _ (by kernel_rfl)]
  rw [words_cons w15 _ (by kernel_rfl)]
  rw [words_cons w16 _ (by kernel_rfl)]
  rw [words_cons w17 _ (by kernel_rfl)]
  rw [words_cons w18 _ (by kernel_rfl)]
  rw [words_cons w19 _ (by kernel_rfl)]
  rw [words_cons w20 _ (by kernel_rfl)]
  rw [words_last w21 (by kernel_rfl)]
theorem behind_of (r : List (List Char)) : behindMainWord (w0 :: w1 :: r) = r := by
  unfold behindMainWord
  exact if_pos (by kernel_rfl)
theorem make_of (P : Program) (rest : List (List Char)) (h : behindMainWord (wordsSigns P.initOrder.toList) = w2 :: rest) : P.make = some .cut := by
  unfold Program.make
  rw [h]
  rfl
theorem make : Try.pinned.checked.prog.make = some .cut := make_of _ _ ((congrArg behindMainWord words).trans (behind_of _))
theorem lifts_of (P : Program) (rest : List (List Char)) (h : behindMainWord (wordsSigns P.initOrder.toList) = w2 :: rest) : P.liftsFinal = false := by
  unfold Program.liftsFinal Program.headLifts
  rw [h]
  rfl
theorem liftsFinal : Try.pinned.checked.prog.liftsFinal = false := lifts_of _ _ ((congrArg behindMainWord words).trans (behind_of _))
theorem may_of (P : Program) (rest : List (List Char)) (h : behindMainWord (wordsSigns P.initOrder.toList) = w2 :: rest) (h1 : P.laysLater = false) (h2 : P.bearsReflect = false) (h3 : P.doorFits [] = true) : P.mayEnter = true := by
  unfold Program.mayEnter
  rw [h]
  have e : stripLifts liftWords (w2 :: rest) = ([], w2 :: rest) := rfl
  simp only [e, h1, h2, h3]
  rfl
set_option maxRecDepth 100000 in
theorem later : Try.pinned.checked.prog.laysLater = false := by kernel_rfl
set_option maxRecDepth 100000 in
theorem reflect : Try.pinned.checked.prog.bearsReflect = false := by kernel_rfl
set_option maxRecDepth 100000 in
theorem door : Try.pinned.checked.prog.doorFits [] = true := by kernel_rfl
theorem mayEnter : Try.pinned.checked.prog.mayEnter = true := may_of _ _ ((congrArg behindMainWord words).trans (behind_of _)) later reflect door
set_option maxRecDepth 100000 in
theorem laid : laidOutB Try.pinned.checked.prog = true := by kernel_rfl
set_option maxRecDepth 100000 in
theorem mapsRowed : Go.mapsRowed Try.pinned.checked.prog = true := by kernel_rfl
set_option maxRecDepth 100000 in
theorem heard : Try.pinned.checked.prog.stopsHeard = true := by kernel_rfl
end Go.Proofs.Ytpajocjepahobaa.Facts
