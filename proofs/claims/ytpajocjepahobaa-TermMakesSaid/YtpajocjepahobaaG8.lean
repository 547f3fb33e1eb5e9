-- written by wip/gen.py, a program of this session, by way of the kit's print.py; Lean checks it
import Derived.Test.YtpajocjepahobaaG0
import Derived.Test.YtpajocjepahobaaG1
import Derived.Test.YtpajocjepahobaaG4
import Derived.Test.YtpajocjepahobaaG5
import Derived.Test.YtpajocjepahobaaG7
namespace Go.Proofs.Ytpajocjepahobaa.G
open Go.RowKit Go.Proofs.YtpajocjepahobaaW.PrintWords Go.Proofs.YtpajocjepahobaaW.PrintLast Go.Proofs.YtpajocjepahobaaW.PrintMore
attribute [local go_sem] max2_int min2_int max_two min_two max_three min_three max_four min_four   -- for this text's walks alone
set_option linter.unusedVariables false
set_option linter.unusedSimpArgs false

/-! ### chirographlaw06_TermMakes: function 3 -/
mutual
def chirographlaw06_TermMakes.j0 : Nat → List ByteArray → ByteArray → ByteArray → ByteArray → Int → Bool → Option (Bool)
  | 0, _, _, _, _, _, _ => none
  | k + 1, x0, x1, x2, x3, x4, x24 => if x24 = true then ((chirographlaw06_alive.f).bind fun t229 => (some t229)) else (if ([] : List ByteArray).length + x0.length < 8796093022208 then ((some (([] : List ByteArray) ++ x0 : List ByteArray)).bind fun y230 => ((term_Row.f y230).bind fun bt233 => ((chirographref06_Row.f k x0).bind fun bt235 => (if bt233.1.toList = bt235.1.toList then (if bt233.2 = bt235.2 then ((chirographref06_Same.f k y230 x0).bind fun t237 => (chirographlaw06_TermMakes.j1 k x1 x2 x3 x4 (!t237))) else (chirographlaw06_TermMakes.j1 k x1 x2 x3 x4 true)) else (chirographlaw06_TermMakes.j1 k x1 x2 x3 x4 true))))) else (none))
def chirographlaw06_TermMakes.j1 : Nat → ByteArray → ByteArray → ByteArray → Int → Bool → Option (Bool)
  | 0, _, _, _, _, _ => none
  | k + 1, x1, x2, x3, x4, x51 => if x51 = true then (some false) else ((term_Data.f x1).bind fun bt238 => ((chirographref06_Data.f k x1).bind fun bt240 => (if bt238.1.toList = bt240.1.toList then (chirographlaw06_TermMakes.j2 k x1 x2 x3 x4 (bt238.2 != bt240.2)) else (chirographlaw06_TermMakes.j2 k x1 x2 x3 x4 true))))
def chirographlaw06_TermMakes.j2 : Nat → ByteArray → ByteArray → ByteArray → Int → Bool → Option (Bool)
  | 0, _, _, _, _, _ => none
  | k + 1, x1, x2, x3, x4, x69 => if x69 = true then (some false) else ((term_Atom.f x1).bind fun bt242 => ((chirographref06_Atom.f k x1).bind fun bt244 => (if bt242.1.toList = bt244.1.toList then (chirographlaw06_TermMakes.j3 k x1 x2 x3 x4 (bt242.2 != bt244.2)) else (chirographlaw06_TermMakes.j3 k x1 x2 x3 x4 true))))
def chirographlaw06_TermMakes.j3 : Nat → ByteArray → ByteArray → ByteArray → Int → Bool → Option (Bool)
  | 0, _, _, _, _, _ => none
  | k + 1, x1, x2, x3, x4, x87 => if x87 = true then (some false) else ((term_Hash.f x1).bind fun bt246 => ((chirographref06_Hash.f k x1).bind fun bt248 => (if bt246.1.toList = bt248.1.toList then (chirographlaw06_TermMakes.j4 k x1 x2 x3 x4 (bt246.2 != bt248.2)) else (chirographlaw06_TermMakes.j4 k x1 x2 x3 x4 true))))
def chirographlaw06_TermMakes.j4 : Nat → ByteArray → ByteArray → ByteArray → Int → Bool → Option (Bool)
  | 0, _, _, _, _, _ => none
  | k + 1, x1, x2, x3, x4, x105 => if x105 = true then (some false) else ((term_Mac.f x1 x2).bind fun bt250 => ((chirographref06_Mac.f k x1 x2).bind fun bt252 => (if bt250.1.toList = bt252.1.toList then (chirographlaw06_TermMakes.j5 k x1 x2 x3 x4 (bt250.2 != bt252.2)) else (chirographlaw06_TermMakes.j5 k x1 x2 x3 x4 true))))
def chirographlaw06_TermMakes.j5 : Nat → ByteArray → ByteArray → ByteArray → Int → Bool → Option (Bool)
  | 0, _, _, _, _, _ => none
  | k + 1, x1, x2, x3, x4, x125 => if x125 = true then (some false) else ((term_Seal.f x1 x2 x3).bind fun bt254 => ((chirographref06_Seal.f k x1 x2 x3).bind fun bt256 => (if bt254.1.toList = bt256.1.toList then (chirographlaw06_TermMakes.j6 k x4 (bt254.2 != bt256.2)) else (chirographlaw06_TermMakes.j6 k x4 true))))
def chirographlaw06_TermMakes.j6 : Nat → Int → Bool → Option (Bool)
  | 0, _, _ => none
  | k + 1, x4, x147 => if x147 = true then (some false) else ((term_Num.f k x4).bind fun bt258 => ((chirographref06_Num.f k x4).bind fun bt260 => (if bt258.1.toList = bt260.1.toList then (if bt258.2 = bt260.2 then ((chirographlaw06_alive.f).bind fun t262 => (some t262)) else (some false)) else (some false))))
end
def chirographlaw06_TermMakes.f (k : Nat) (l0 : List ByteArray) (a1 : ByteArray) (a2 : ByteArray) (a3 : ByteArray) (a4 : Int) : Option (Bool) := (chirographlaw06_Long.f k l0).bind fun t224 => (if t224 = true then (chirographlaw06_TermMakes.j0 k l0 a1 a2 a3 a4 true) else ((chirographlaw06_Long.f k (([a1, a2, a3] : List ByteArray))).bind fun t228 => (chirographlaw06_TermMakes.j0 k l0 a1 a2 a3 a4 t228)))
theorem chirographlaw06_TermMakes.mono_l : ∀ k, (∀ y0 y1 y2 y3 y4 y5, LeO (chirographlaw06_TermMakes.j0 k y0 y1 y2 y3 y4 y5) (chirographlaw06_TermMakes.j0 (k + 1) y0 y1 y2 y3 y4 y5)) ∧ (∀ y0 y1 y2 y3 y4, LeO (chirographlaw06_TermMakes.j1 k y0 y1 y2 y3 y4) (chirographlaw06_TermMakes.j1 (k + 1) y0 y1 y2 y3 y4)) ∧ (∀ y0 y1 y2 y3 y4, LeO (chirographlaw06_TermMakes.j2 k y0 y1 y2 y3 y4) (chirographlaw06_TermMakes.j2 (k + 1) y0 y1 y2 y3 y4)) ∧ (∀ y0 y1 y2 y3 y4, LeO (chirographlaw06_TermMakes.j3 k y0 y1 y2 y3 y4) (chirographlaw06_TermMakes.j3 (k + 1) y0 y1 y2 y3 y4)) ∧ (∀ y0 y1 y2 y3 y4, LeO (chirographlaw06_TermMakes.j4 k y0 y1 y2 y3 y4) (chirographlaw06_TermMakes.j4 (k + 1) y0 y1 y2 y3 y4)) ∧ (∀ y0 y1 y2 y3 y4, LeO (chirographlaw06_TermMakes.j5 k y0 y1 y2 y3 y4) (chirographlaw06_TermMakes.j5 (k + 1) y0 y1 y2 y3 y4)) ∧ (∀ y0 y1, LeO (chirographlaw06_TermMakes.j6 k y0 y1) (chirographlaw06_TermMakes.j6 (k + 1) y0 y1))
  | 0 => ⟨fun _ _ _ _ _ _ r h => by simp [chirographlaw06_TermMakes.j0] at h, fun _ _ _ _ _ r h => by simp [chirographlaw06_TermMakes.j1] at h, fun _ _ _ _ _ r h => by simp [chirographlaw06_TermMakes.j2] at h, fun _ _ _ _ _ r h => by simp [chirographlaw06_TermMakes.j3] at h, fun _ _ _ _ _ r h => by simp [chirographlaw06_TermMakes.j4] at h, fun _ _ _ _ _ r h => by simp [chirographlaw06_TermMakes.j5] at h, fun _ _ r h => by simp [chirographlaw06_TermMakes.j6] at h⟩
  | k + 1 => by
    obtain ⟨ih0, ih1, ih2, ih3, ih4, ih5, ih6⟩ := chirographlaw06_TermMakes.mono_l k
    refine ⟨?_, ?_, ?_, ?_, ?_, ?_, ?_⟩
    · intro y0 y1 y2 y3 y4 y5
      unfold chirographlaw06_TermMakes.j0
      repeat' first
      | (with_reducible exact ih0 _ _ _ _ _ _)
      | (with_reducible exact ih1 _ _ _ _ _)
      | (with_reducible exact ih2 _ _ _ _ _)
      | (with_reducible exact ih3 _ _ _ _ _)
      | (with_reducible exact ih4 _ _ _ _ _)
      | (with_reducible exact ih5 _ _ _ _ _)
      | (with_reducible exact ih6 _ _)
      | (with_reducible exact chirographlaw06_Long.mono _ _)
      | (with_reducible exact chirographref06_Atom.mono _ _)
      | (with_reducible exact chirographref06_Data.mono _ _)
      | (with_reducible exact chirographref06_Hash.mono _ _)
      | (with_reducible exact chirographref06_Mac.mono _ _ _)
      | (with_reducible exact chirographref06_Num.mono _ _)
      | (with_reducible exact chirographref06_Row.mono _ _)
      | (with_reducible exact chirographref06_Same.mono _ _ _)
      | (with_reducible exact chirographref06_Seal.mono _ _ _ _)
      | (with_reducible exact term_Num.mono _ _)
      | (with_reducible exact LeO.refl _)
      | (with_reducible exact LeO.none _)
      | (with_reducible refine LeO.ite ?_ ?_)
      | (with_reducible refine LeO.bind ?_ (fun _ => ?_))
      | exact ih0 _ _ _ _ _ _
      | exact ih1 _ _ _ _ _
      | exact ih2 _ _ _ _ _
      | exact ih3 _ _ _ _ _
      | exact ih4 _ _ _ _ _
      | exact ih5 _ _ _ _ _
      | exact ih6 _ _
      | exact chirographlaw06_Long.mono _ _
      | exact chirographref06_Atom.mono _ _
      | exact chirographref06_Data.mono _ _
      | exact chirographref06_Hash.mono _ _
      | exact chirographref06_Mac.mono _ _ _
      | exact chirographref06_Num.mono _ _
      | exact chirographref06_Row.mono _ _
      | exact chirographref06_Same.mono _ _ _
      | exact chirographref06_Seal.mono _ _ _ _
      | exact term_Num.mono _ _
      | exact LeO.none _
      | refine LeO.ite ?_ ?_
      | refine LeO.bind ?_ (fun _ => ?_)
    · intro y0 y1 y2 y3 y4
      unfold chirographlaw06_TermMakes.j1
      repeat' first
      | (with_reducible exact ih0 _ _ _ _ _ _)
      | (with_reducible exact ih1 _ _ _ _ _)
      | (with_reducible exact ih2 _ _ _ _ _)
      | (with_reducible exact ih3 _ _ _ _ _)
      | (with_reducible exact ih4 _ _ _ _ _)
      | (with_reducible exact ih5 _ _ _ _ _)
      | (with_reducible exact ih6 _ _)
      | (with_reducible exact chirographlaw06_Long.mono _ _)
      | (with_reducible exact chirographref06_Atom.mono _ _)
      | (with_reducible exact chirographref06_Data.mono _ _)
      | (with_reducible exact chirographref06_Hash.mono _ _)
      | (with_reducible exact chirographref06_Mac.mono _ _ _)
      | (with_reducible exact chirographref06_Num.mono _ _)
      | (with_reducible exact chirographref06_Row.mono _ _)
      | (with_reducible exact chirographref06_Same.mono _ _ _)
      | (with_reducible exact chirographref06_Seal.mono _ _ _ _)
      | (with_reducible exact term_Num.mono _ _)
      | (with_reducible exact LeO.refl _)
      | (with_reducible exact LeO.none _)
      | (with_reducible refine LeO.ite ?_ ?_)
      | (with_reducible refine LeO.bind ?_ (fun _ => ?_))
      | exact ih0 _ _ _ _ _ _
      | exact ih1 _ _ _ _ _
      | exact ih2 _ _ _ _ _
      | exact ih3 _ _ _ _ _
      | exact ih4 _ _ _ _ _
      | exact ih5 _ _ _ _ _
      | exact ih6 _ _
      | exact chirographlaw06_Long.mono _ _
      | exact chirographref06_Atom.mono _ _
      | exact chirographref06_Data.mono _ _
      | exact chirographref06_Hash.mono _ _
      | exact chirographref06_Mac.mono _ _ _
      | exact chirographref06_Num.mono _ _
      | exact chirographref06_Row.mono _ _
      | exact chirographref06_Same.mono _ _ _
      | exact chirographref06_Seal.mono _ _ _ _
      | exact term_Num.mono _ _
      | exact LeO.none _
      | refine LeO.ite ?_ ?_
      | refine LeO.bind ?_ (fun _ => ?_)
    · intro y0 y1 y2 y3 y4
      unfold chirographlaw06_TermMakes.j2
      repeat' first
      | (with_reducible exact ih0 _ _ _ _ _ _)
      | (with_reducible exact ih1 _ _ _ _ _)
      | (with_reducible exact ih2 _ _ _ _ _)
      | (with_reducible exact ih3 _ _ _ _ _)
      | (with_reducible exact ih4 _ _ _ _ _)
      | (with_reducible exact ih5 _ _ _ _ _)
      | (with_reducible exact ih6 _ _)
      | (with_reducible exact chirographlaw06_Long.mono _ _)
      | (with_reducible exact chirographref06_Atom.mono _ _)
      | (with_reducible exact chirographref06_Data.mono _ _)
      | (with_reducible exact chirographref06_Hash.mono _ _)
      | (with_reducible exact chirographref06_Mac.mono _ _ _)
      | (with_reducible exact chirographref06_Num.mono _ _)
      | (with_reducible exact chirographref06_Row.mono _ _)
      | (with_reducible exact chirographref06_Same.mono _ _ _)
      | (with_reducible exact chirographref06_Seal.mono _ _ _ _)
      | (with_reducible exact term_Num.mono _ _)
      | (with_reducible exact LeO.refl _)
      | (with_reducible exact LeO.none _)
      | (with_reducible refine LeO.ite ?_ ?_)
      | (with_reducible refine LeO.bind ?_ (fun _ => ?_))
      | exact ih0 _ _ _ _ _ _
      | exact ih1 _ _ _ _ _
      | exact ih2 _ _ _ _ _
      | exact ih3 _ _ _ _ _
      | exact ih4 _ _ _ _ _
      | exact ih5 _ _ _ _ _
      | exact ih6 _ _
      | exact chirographlaw06_Long.mono _ _
      | exact chirographref06_Atom.mono _ _
      | exact chirographref06_Data.mono _ _
      | exact chirographref06_Hash.mono _ _
      | exact chirographref06_Mac.mono _ _ _
      | exact chirographref06_Num.mono _ _
      | exact chirographref06_Row.mono _ _
      | exact chirographref06_Same.mono _ _ _
      | exact chirographref06_Seal.mono _ _ _ _
      | exact term_Num.mono _ _
      | exact LeO.none _
      | refine LeO.ite ?_ ?_
      | refine LeO.bind ?_ (fun _ => ?_)
    · intro y0 y1 y2 y3 y4
      unfold chirographlaw06_TermMakes.j3
      repeat' first
      | (with_reducible exact ih0 _ _ _ _ _ _)
      | (with_reducible exact ih1 _ _ _ _ _)
      | (with_reducible exact ih2 _ _ _ _ _)
      | (with_reducible exact ih3 _ _ _ _ _)
      | (with_reducible exact ih4 _ _ _ _ _)
      | (with_reducible exact ih5 _ _ _ _ _)
      | (with_reducible exact ih6 _ _)
      | (with_reducible exact chirographlaw06_Long.mono _ _)
      | (with_reducible exact chirographref06_Atom.mono _ _)
      | (with_reducible exact chirographref06_Data.mono _ _)
      | (with_reducible exact chirographref06_Hash.mono _ _)
      | (with_reducible exact chirographref06_Mac.mono _ _ _)
      | (with_reducible exact chirographref06_Num.mono _ _)
      | (with_reducible exact chirographref06_Row.mono _ _)
      | (with_reducible exact chirographref06_Same.mono _ _ _)
      | (with_reducible exact chirographref06_Seal.mono _ _ _ _)
      | (with_reducible exact term_Num.mono _ _)
      | (with_reducible exact LeO.refl _)
      | (with_reducible exact LeO.none _)
      | (with_reducible refine LeO.ite ?_ ?_)
      | (with_reducible refine LeO.bind ?_ (fun _ => ?_))
      | exact ih0 _ _ _ _ _ _
      | exact ih1 _ _ _ _ _
      | exact ih2 _ _ _ _ _
      | exact ih3 _ _ _ _ _
      | exact ih4 _ _ _ _ _
      | exact ih5 _ _ _ _ _
      | exact ih6 _ _
      | exact chirographlaw06_Long.mono _ _
      | exact chirographref06_Atom.mono _ _
      | exact chirographref06_Data.mono _ _
      | exact chirographref06_Hash.mono _ _
      | exact chirographref06_Mac.mono _ _ _
      | exact chirographref06_Num.mono _ _
      | exact chirographref06_Row.mono _ _
      | exact chirographref06_Same.mono _ _ _
      | exact chirographref06_Seal.mono _ _ _ _
      | exact term_Num.mono _ _
      | exact LeO.none _
      | refine LeO.ite ?_ ?_
      | refine LeO.bind ?_ (fun _ => ?_)
    · intro y0 y1 y2 y3 y4
      unfold chirographlaw06_TermMakes.j4
      repeat' first
      | (with_reducible exact ih0 _ _ _ _ _ _)
      | (with_reducible exact ih1 _ _ _ _ _)
      | (with_reducible exact ih2 _ _ _ _ _)
      | (with_reducible exact ih3 _ _ _ _ _)
      | (with_reducible exact ih4 _ _ _ _ _)
      | (with_reducible exact ih5 _ _ _ _ _)
      | (with_reducible exact ih6 _ _)
      | (with_reducible exact chirographlaw06_Long.mono _ _)
      | (with_reducible exact chirographref06_Atom.mono _ _)
      | (with_reducible exact chirographref06_Data.mono _ _)
      | (with_reducible exact chirographref06_Hash.mono _ _)
      | (with_reducible exact chirographref06_Mac.mono _ _ _)
      | (with_reducible exact chirographref06_Num.mono _ _)
      | (with_reducible exact chirographref06_Row.mono _ _)
      | (with_reducible exact chirographref06_Same.mono _ _ _)
      | (with_reducible exact chirographref06_Seal.mono _ _ _ _)
      | (with_reducible exact term_Num.mono _ _)
      | (with_reducible exact LeO.refl _)
      | (with_reducible exact LeO.none _)
      | (with_reducible refine LeO.ite ?_ ?_)
      | (with_reducible refine LeO.bind ?_ (fun _ => ?_))
      | exact ih0 _ _ _ _ _ _
      | exact ih1 _ _ _ _ _
      | exact ih2 _ _ _ _ _
      | exact ih3 _ _ _ _ _
      | exact ih4 _ _ _ _ _
      | exact ih5 _ _ _ _ _
      | exact ih6 _ _
      | exact chirographlaw06_Long.mono _ _
      | exact chirographref06_Atom.mono _ _
      | exact chirographref06_Data.mono _ _
      | exact chirographref06_Hash.mono _ _
      | exact chirographref06_Mac.mono _ _ _
      | exact chirographref06_Num.mono _ _
      | exact chirographref06_Row.mono _ _
      | exact chirographref06_Same.mono _ _ _
      | exact chirographref06_Seal.mono _ _ _ _
      | exact term_Num.mono _ _
      | exact LeO.none _
      | refine LeO.ite ?_ ?_
      | refine LeO.bind ?_ (fun _ => ?_)
    · intro y0 y1 y2 y3 y4
      unfold chirographlaw06_TermMakes.j5
      repeat' first
      | (with_reducible exact ih0 _ _ _ _ _ _)
      | (with_reducible exact ih1 _ _ _ _ _)
      | (with_reducible exact ih2 _ _ _ _ _)
      | (with_reducible exact ih3 _ _ _ _ _)
      | (with_reducible exact ih4 _ _ _ _ _)
      | (with_reducible exact ih5 _ _ _ _ _)
      | (with_reducible exact ih6 _ _)
      | (with_reducible exact chirographlaw06_Long.mono _ _)
      | (with_reducible exact chirographref06_Atom.mono _ _)
      | (with_reducible exact chirographref06_Data.mono _ _)
      | (with_reducible exact chirographref06_Hash.mono _ _)
      | (with_reducible exact chirographref06_Mac.mono _ _ _)
      | (with_reducible exact chirographref06_Num.mono _ _)
      | (with_reducible exact chirographref06_Row.mono _ _)
      | (with_reducible exact chirographref06_Same.mono _ _ _)
      | (with_reducible exact chirographref06_Seal.mono _ _ _ _)
      | (with_reducible exact term_Num.mono _ _)
      | (with_reducible exact LeO.refl _)
      | (with_reducible exact LeO.none _)
      | (with_reducible refine LeO.ite ?_ ?_)
      | (with_reducible refine LeO.bind ?_ (fun _ => ?_))
      | exact ih0 _ _ _ _ _ _
      | exact ih1 _ _ _ _ _
      | exact ih2 _ _ _ _ _
      | exact ih3 _ _ _ _ _
      | exact ih4 _ _ _ _ _
      | exact ih5 _ _ _ _ _
      | exact ih6 _ _
      | exact chirographlaw06_Long.mono _ _
      | exact chirographref06_Atom.mono _ _
      | exact chirographref06_Data.mono _ _
      | exact chirographref06_Hash.mono _ _
      | exact chirographref06_Mac.mono _ _ _
      | exact chirographref06_Num.mono _ _
      | exact chirographref06_Row.mono _ _
      | exact chirographref06_Same.mono _ _ _
      | exact chirographref06_Seal.mono _ _ _ _
      | exact term_Num.mono _ _
      | exact LeO.none _
      | refine LeO.ite ?_ ?_
      | refine LeO.bind ?_ (fun _ => ?_)
    · intro y0 y1
      unfold chirographlaw06_TermMakes.j6
      repeat' first
      | (with_reducible exact ih0 _ _ _ _ _ _)
      | (with_reducible exact ih1 _ _ _ _ _)
      | (with_reducible exact ih2 _ _ _ _ _)
      | (with_reducible exact ih3 _ _ _ _ _)
      | (with_reducible exact ih4 _ _ _ _ _)
      | (with_reducible exact ih5 _ _ _ _ _)
      | (with_reducible exact ih6 _ _)
      | (with_reducible exact chirographlaw06_Long.mono _ _)
      | (with_reducible exact chirographref06_Atom.mono _ _)
      | (with_reducible exact chirographref06_Data.mono _ _)
      | (with_reducible exact chirographref06_Hash.mono _ _)
      | (with_reducible exact chirographref06_Mac.mono _ _ _)
      | (with_reducible exact chirographref06_Num.mono _ _)
      | (with_reducible exact chirographref06_Row.mono _ _)
      | (with_reducible exact chirographref06_Same.mono _ _ _)
      | (with_reducible exact chirographref06_Seal.mono _ _ _ _)
      | (with_reducible exact term_Num.mono _ _)
      | (with_reducible exact LeO.refl _)
      | (with_reducible exact LeO.none _)
      | (with_reducible refine LeO.ite ?_ ?_)
      | (with_reducible refine LeO.bind ?_ (fun _ => ?_))
      | exact ih0 _ _ _ _ _ _
      | exact ih1 _ _ _ _ _
      | exact ih2 _ _ _ _ _
      | exact ih3 _ _ _ _ _
      | exact ih4 _ _ _ _ _
      | exact ih5 _ _ _ _ _
      | exact ih6 _ _
      | exact chirographlaw06_Long.mono _ _
      | exact chirographref06_Atom.mono _ _
      | exact chirographref06_Data.mono _ _
      | exact chirographref06_Hash.mono _ _
      | exact chirographref06_Mac.mono _ _ _
      | exact chirographref06_Num.mono _ _
      | exact chirographref06_Row.mono _ _
      | exact chirographref06_Same.mono _ _ _
      | exact chirographref06_Seal.mono _ _ _ _
      | exact term_Num.mono _ _
      | exact LeO.none _
      | refine LeO.ite ?_ ?_
      | refine LeO.bind ?_ (fun _ => ?_)
theorem chirographlaw06_TermMakes.mono : ∀ a0 a1 a2 a3 a4 k, LeO (chirographlaw06_TermMakes.f k a0 a1 a2 a3 a4) (chirographlaw06_TermMakes.f (k + 1) a0 a1 a2 a3 a4) := by
  intro a0 a1 a2 a3 a4 k
  obtain ⟨ih0, ih1, ih2, ih3, ih4, ih5, ih6⟩ := chirographlaw06_TermMakes.mono_l k
  unfold chirographlaw06_TermMakes.f
  repeat' first
      | (with_reducible exact ih0 _ _ _ _ _ _)
      | (with_reducible exact ih1 _ _ _ _ _)
      | (with_reducible exact ih2 _ _ _ _ _)
      | (with_reducible exact ih3 _ _ _ _ _)
      | (with_reducible exact ih4 _ _ _ _ _)
      | (with_reducible exact ih5 _ _ _ _ _)
      | (with_reducible exact ih6 _ _)
      | (with_reducible exact chirographlaw06_Long.mono _ _)
      | (with_reducible exact chirographref06_Atom.mono _ _)
      | (with_reducible exact chirographref06_Data.mono _ _)
      | (with_reducible exact chirographref06_Hash.mono _ _)
      | (with_reducible exact chirographref06_Mac.mono _ _ _)
      | (with_reducible exact chirographref06_Num.mono _ _)
      | (with_reducible exact chirographref06_Row.mono _ _)
      | (with_reducible exact chirographref06_Same.mono _ _ _)
      | (with_reducible exact chirographref06_Seal.mono _ _ _ _)
      | (with_reducible exact term_Num.mono _ _)
      | (with_reducible exact LeO.refl _)
      | (with_reducible exact LeO.none _)
      | (with_reducible refine LeO.ite ?_ ?_)
      | (with_reducible refine LeO.bind ?_ (fun _ => ?_))
      | exact ih0 _ _ _ _ _ _
      | exact ih1 _ _ _ _ _
      | exact ih2 _ _ _ _ _
      | exact ih3 _ _ _ _ _
      | exact ih4 _ _ _ _ _
      | exact ih5 _ _ _ _ _
      | exact ih6 _ _
      | exact chirographlaw06_Long.mono _ _
      | exact chirographref06_Atom.mono _ _
      | exact chirographref06_Data.mono _ _
      | exact chirographref06_Hash.mono _ _
      | exact chirographref06_Mac.mono _ _ _
      | exact chirographref06_Num.mono _ _
      | exact chirographref06_Row.mono _ _
      | exact chirographref06_Same.mono _ _ _
      | exact chirographref06_Seal.mono _ _ _ _
      | exact term_Num.mono _ _
      | exact LeO.none _
      | refine LeO.ite ?_ ?_
      | refine LeO.bind ?_ (fun _ => ?_)
set_option maxHeartbeats 8000000 in
set_option maxRecDepth 100000 in
theorem chirographlaw06_TermMakes.calls (k : Nat) (A0 : Option Addr) (c0 : Nat) (l0 : List ByteArray) (a1 : ByteArray) (a2 : ByteArray) (a3 : ByteArray) (a4 : Int) (r : Bool) (w : World) (hr0 : Kd.C Kd.string w A0 l0.length l0) (hc0 : l0.length ≤ c0) (h : chirographlaw06_TermMakes.f k l0 a1 a2 a3 a4 = some r) :
    Calls Try.prog 3 #[.slice A0 l0.length c0, .string a1, .string a2, .string a3, .int .i64 a4] w fun e w' => e = .returned (.bool r) ∧ Below w.heap.size w w' := by
  have HR0 := Aside0.mk hr0
  have HC0 := Aside0.mk hc0
  clear hr0 hc0
  have HB := Aside0.mk (Below.refl w.heap.size w)
  have H : ((chirographlaw06_Long.f k l0).bind fun t224 => (if t224 = true then (chirographlaw06_TermMakes.j0 k l0 a1 a2 a3 a4 true) else ((chirographlaw06_Long.f k (([a1, a2, a3] : List ByteArray))).bind fun t228 => (chirographlaw06_TermMakes.j0 k l0 a1 a2 a3 a4 t228)))) = some r := h
  clear h
  have HC6 := Aside0.mk H
  clear H
  go_enter Try.func3, Try.ntmps3
  go_upto_region 1 with (fail)
  go_cut [24] (fun v24 wc => ∃ (kq : Nat) (x24_5 : Bool), v24 = .bool x24_5 ∧ Aside0 (chirographlaw06_TermMakes.j0 kq l0 a1 a2 a3 a4 x24_5 = some r) ∧ Aside0 (kq ≤ k) ∧ Aside0 (Below w.heap.size w wc))
  case first =>
    have H := HC6.out
    clear HC6
    replace H := Option.bind_eq_some_iff.mp H
    obtain ⟨t224, A70, H⟩ := H
    replace H : (if t224 = true then (chirographlaw06_TermMakes.j0 k l0 a1 a2 a3 a4 true) else ((chirographlaw06_Long.f k (([a1, a2, a3] : List ByteArray))).bind fun t228 => (chirographlaw06_TermMakes.j0 k l0 a1 a2 a3 a4 t228))) = some r := H
    have A7 := Aside0.mk A70
    clear A70
    by_cases c8 : t224 = true
    · subst c8
      have H1 : (chirographlaw06_TermMakes.j0 k l0 a1 a2 a3 a4 true) = some r := by rw [if_pos rfl] at H; exact H
      clear H
      have H := H1
      clear H1
      have H' := Aside0.mk H
      clear H
      go_wp2_with (first | ((with_reducible refine gate_callee (f := 21) rfl ?_); refine goesL_ (some 17) rfl rfl Try.func21 (by kernel_rfl) rfl #[.slice A0 l0.length c0] rfl (by (try simp only [List.map_toArray, List.map_cons, List.map_nil]); first | done | rfl | (simp only [List.length_drop, List.length_take]; rfl)) ?_; (with_reducible refine (chirographlaw06_Long.calls k _ _ l0 true _ ?side1 ?side2 A7.out).mono ?_); (case side1 => repeat (first | exact (Kd.C_below HR0.out HB.out) | (with_reducible refine Kd.C_alloc ?_ _) | (with_reducible refine Kd.C_drewN ?_ _) | (with_reducible refine Kd.C_drew ?_))); (case side2 => exact HC0.out); rintro e w' ⟨rfl, ⟨nd, rfl⟩⟩; refine ⟨_, rfl, ?_⟩))
      go_meet
      case rel => exact ⟨_, (true), (by first | rfl | (simp; done) | (simp [*]; done) | (simp [bne_nil_, beq_nil_]; done) | (simp [bne_nil_, beq_nil_, *]; done)), H', ⟨by first | omega | exact Nat.le_refl _⟩, ⟨by repeat (first | (with_reducible first | exact HB.out | apply below_alloc | apply pw_below_drewN | apply below_drew1) | exact HB.out)⟩⟩
    · replace c8 := Bool.eq_false_iff.mpr c8
      subst c8
      have H1 : ((chirographlaw06_Long.f k (([a1, a2, a3] : List ByteArray))).bind fun t228 => (chirographlaw06_TermMakes.j0 k l0 a1 a2 a3 a4 t228)) = some r := by rw [if_neg (show ¬ (false = true) by decide)] at H; exact H
      clear H
      have H := H1
      clear H1
      obtain ⟨y225, hy225⟩ : ∃ y_ : List ByteArray, y_ = (([a1, a2, a3] : List ByteArray)) := ⟨_, rfl⟩
      replace H : ((chirographlaw06_Long.f k y225).bind fun t228 => (chirographlaw06_TermMakes.j0 k l0 a1 a2 a3 a4 t228)) = some r := by first | (rw [hy225]; with_reducible exact H) | (have H2_ := (Option.bind_some _ _).symm.trans H; rw [hy225]; with_reducible exact H2_) | (have H2_ := (Option.bind_some _ _).symm.trans H; with_reducible exact H2_) | with_reducible exact H | (rw [hy225]; exact H) | exact H
      have Ny225 := Aside0.mk hy225
      clear hy225
      replace H := Option.bind_eq_some_iff.mp H
      obtain ⟨t228, A90, H⟩ := H
      replace H : (chirographlaw06_TermMakes.j0 k l0 a1 a2 a3 a4 t228) = some r := H
      have A9 := Aside0.mk A90
      clear A90
      have H' := Aside0.mk H
      clear H
      go_wp2_with (first | ((with_reducible refine gate_callee (f := 21) rfl ?_); refine goesL_ (some 17) rfl rfl Try.func21 (by kernel_rfl) rfl #[.slice A0 l0.length c0] rfl (by (try simp only [List.map_toArray, List.map_cons, List.map_nil]); first | done | rfl | (simp only [List.length_drop, List.length_take]; rfl)) ?_; (with_reducible refine (chirographlaw06_Long.calls k _ _ l0 false _ ?side1 ?side2 A7.out).mono ?_); (case side1 => repeat (first | exact (Kd.C_below HR0.out HB.out) | (with_reducible refine Kd.C_alloc ?_ _) | (with_reducible refine Kd.C_drewN ?_ _) | (with_reducible refine Kd.C_drew ?_))); (case side2 => exact HC0.out); rintro e w' ⟨rfl, ⟨nd, rfl⟩⟩; refine ⟨_, rfl, ?_⟩) | ((with_reducible refine gate_dst (N := 22) rfl ?_); (try (refine gate_guard (by rfl) ?_; dsimp only)); refine Kd.R_lit Kd.string _ 9 ?hg (N := 22) ?hd (xs := ([a1, a2, a3] : List ByteArray)) (inner := [.string a1, .string a2, .string a3]) (ok := fun _ => True) (okp := fun _ => True) ?hr ?hp (fun _ hk => hk) trivial (Below.refl _ _) (Nat.le_refl _) (by simp) ?_; (case hd => rfl); (case hg => rfl); (case hr => first | (go_simp; done) | (go_simp; rfl)); (case hp => exact (Reps.one (show Kd.M Kd.string _ _ _ a1 [.string a1] from rfl) (Reps.one (show Kd.M Kd.string _ _ _ a2 [.string a2] from rfl) (Reps.one (show Kd.M Kd.string _ _ _ a3 [.string a3] from rfl) (Reps.none _ _))))); intro v226 w10 ho11 hb hg_ hnew_; clear hg_ hnew_; (first | rw [← Ny225.out] at ho11 | (simp only [Int.reduceToNat] at ho11; rw [← Ny225.out] at ho11)); have n0_ := Aside0.mk (Kd.R_lower ho11 (below_size (by repeat (first | (with_reducible first | exact HB.out | apply below_alloc | apply pw_below_drewN | apply below_drew1) | exact HB.out)))); have n1_ := Aside0.mk (below_step (by repeat (first | (with_reducible first | exact HB.out | apply below_alloc | apply pw_below_drewN | apply below_drew1) | exact HB.out)) hb); clear HB; have HO227 := n0_; have HB := n1_; clear n0_ n1_; clear hb ho11; obtain ⟨Ao12, co12, eo12⟩ := Kd.R_slice HO227.out; subst eo12) | (go_at_call 21; (with_reducible refine (chirographlaw06_Long.calls k _ _ y225 t228 _ ?side1 ?side2 A9.out).mono ?_); (case side1 => repeat (first | exact (Kd.R_reads' HO227.out).2.2 | (with_reducible refine Kd.C_alloc ?_ _) | (with_reducible refine Kd.C_drewN ?_ _) | (with_reducible refine Kd.C_drew ?_))); (case side2 => exact (Kd.R_reads' HO227.out).2.1); rintro e w' ⟨rfl, ⟨nd, rfl⟩⟩))
      go_meet
      case rel => exact ⟨_, (t228), (by first | rfl | (simp; done) | (simp [*]; done) | (simp [bne_nil_, beq_nil_]; done) | (simp [bne_nil_, beq_nil_, *]; done)), H', ⟨by first | omega | exact Nat.le_refl _⟩, ⟨by repeat (first | (with_reducible first | exact HB.out | apply below_alloc | apply pw_below_drewN | apply below_drew1) | exact HB.out)⟩⟩
  case rest =>
    clear HC6
    try clear c2
    try clear p2
    try clear c3
    try clear c8
    obtain ⟨kq, x24_5, rfl, HA, HJ5, HB⟩ := hcut
    cases kq with
    | zero => exact absurd HA.out (by simp [chirographlaw06_TermMakes.j0])
    | succ kj5 =>
      have H := HA.out
      clear HA
      simp only [chirographlaw06_TermMakes.j0] at H
      by_cases c13 : x24_5 = true
      · subst c13
        have H1 : ((chirographlaw06_alive.f).bind fun t229 => (some t229)) = some r := by rw [if_pos rfl] at H; exact H
        clear H
        have H := H1
        clear H1
        replace H := Option.bind_eq_some_iff.mp H
        obtain ⟨t229, A140, H⟩ := H
        replace H : (some t229) = some r := H
        have A14 := Aside0.mk A140
        clear A140
        obtain rfl := Option.some.inj H
        go_wp2_with (first | ((with_reducible refine gate_callee (f := 22) rfl ?_); refine goesL_ (some 25) rfl rfl Try.func22 (by kernel_rfl) rfl #[] rfl (by (try simp only [List.map_toArray, List.map_cons, List.map_nil]); first | done | rfl | (simp only [List.length_drop, List.length_take]; rfl)) ?_; (with_reducible refine (chirographlaw06_alive.calls  t229 _ A14.out).mono ?_); rintro e w15 ⟨rfl, hb⟩; refine ⟨_, rfl, ?_⟩; have n0_ := Aside0.mk (below_step (by repeat (first | (with_reducible first | exact HB.out | apply below_alloc | apply pw_below_drewN | apply below_drew1) | exact HB.out)) hb); clear HB; have HB := n0_; clear n0_; (try clear hb); (try clear hb2); (try clear hk); (try clear hi)))
        go_ret
        exact ⟨by first | rfl | (simp [errW_none, errW_some] <;> rfl) | (simp [*, errW_none, errW_some] <;> rfl), by repeat (first | (with_reducible first | exact HB.out | apply below_alloc | apply pw_below_drewN | apply below_drew1) | exact HB.out)⟩
      · replace c13 := Bool.eq_false_iff.mpr c13
        subst c13
        have H1 : (if ([] : List ByteArray).length + l0.length < 8796093022208 then ((some (([] : List ByteArray) ++ l0 : List ByteArray)).bind fun y230 => ((term_Row.f y230).bind fun bt233 => ((chirographref06_Row.f kj5 l0).bind fun bt235 => (if bt233.1.toList = bt235.1.toList then (if bt233.2 = bt235.2 then ((chirographref06_Same.f kj5 y230 l0).bind fun t237 => (chirographlaw06_TermMakes.j1 kj5 a1 a2 a3 a4 (!t237))) else (chirographlaw06_TermMakes.j1 kj5 a1 a2 a3 a4 true)) else (chirographlaw06_TermMakes.j1 kj5 a1 a2 a3 a4 true))))) else (none)) = some r := by rw [if_neg (show ¬ (false = true) by decide)] at H; exact H
        clear H
        have H := H1
        clear H1
        by_cases c16 : ([] : List ByteArray).length + l0.length < 8796093022208
        · rw [if_pos c16] at H
          have LMc16 := Aside0.mk c16
          clear c16
          obtain ⟨y230, hy230⟩ : ∃ y_ : List ByteArray, y_ = (([] : List ByteArray) ++ l0) := ⟨_, rfl⟩
          replace H : ((term_Row.f y230).bind fun bt233 => ((chirographref06_Row.f kj5 l0).bind fun bt235 => (if bt233.1.toList = bt235.1.toList then (if bt233.2 = bt235.2 then ((chirographref06_Same.f kj5 y230 l0).bind fun t237 => (chirographlaw06_TermMakes.j1 kj5 a1 a2 a3 a4 (!t237))) else (chirographlaw06_TermMakes.j1 kj5 a1 a2 a3 a4 true)) else (chirographlaw06_TermMakes.j1 kj5 a1 a2 a3 a4 true)))) = some r := by first | (rw [hy230]; with_reducible exact H) | (have H2_ := (Option.bind_some _ _).symm.trans H; rw [hy230]; with_reducible exact H2_) | (have H2_ := (Option.bind_some _ _).symm.trans H; with_reducible exact H2_) | with_reducible exact H | (rw [hy230]; exact H) | exact H
          have Ny230 := Aside0.mk hy230
          clear hy230
          replace H := Option.bind_eq_some_iff.mp H
          obtain ⟨⟨t233, t234⟩, A170, H⟩ := H
          replace H : ((chirographref06_Row.f kj5 l0).bind fun bt235 => (if t233.toList = bt235.1.toList then (if t234 = bt235.2 then ((chirographref06_Same.f kj5 y230 l0).bind fun t237 => (chirographlaw06_TermMakes.j1 kj5 a1 a2 a3 a4 (!t237))) else (chirographlaw06_TermMakes.j1 kj5 a1 a2 a3 a4 true)) else (chirographlaw06_TermMakes.j1 kj5 a1 a2 a3 a4 true))) = some r := H
          have A17 := Aside0.mk A170
          clear A170
          replace H := Option.bind_eq_some_iff.mp H
          obtain ⟨⟨t235, t236⟩, A180, H⟩ := H
          replace H : (if t233.toList = t235.toList then (if t234 = t236 then ((chirographref06_Same.f kj5 y230 l0).bind fun t237 => (chirographlaw06_TermMakes.j1 kj5 a1 a2 a3 a4 (!t237))) else (chirographlaw06_TermMakes.j1 kj5 a1 a2 a3 a4 true)) else (chirographlaw06_TermMakes.j1 kj5 a1 a2 a3 a4 true)) = some r := H
          have A18 := Aside0.mk A180
          clear A180
          have HC19 := Aside0.mk H
          clear H
          go_upto_region 6 with (first | ((with_reducible refine gate_builtin (b := .append) (xs := #[.const (.slice none 0 0), .tmp 26]) rfl ?_); (try (refine gate_guard (by rfl) ?_; dsimp only)); at_builtin; refine Kd.R_append_rows Kd.string (w0 := w) w.heap.size rfl (.const (.slice none 0 0)) (.tmp 26) 22 9 (.string ⟨#[]⟩) 16 rfl Try.underlying22 info9 rfl (by decide) (by omega) (.slice none 0 0) ([] : List ByteArray) l0 _ _ _ (fun _ => True) (fun _ => False) rfl rfl ?aO ?aR (fun _ _ h => h) (fun _ h => h.elim) ?aF ?aB ?aS ?aL ?_; (case aR => repeat (first | exact (Kd.C_below HR0.out HB.out) | (with_reducible refine Kd.C_alloc ?_ _) | (with_reducible refine Kd.C_drewN ?_ _) | (with_reducible refine Kd.C_drew ?_))); (case aB => exact (by repeat (first | (with_reducible first | exact HB.out | apply below_alloc | apply pw_below_drewN | apply below_drew1) | exact HB.out))); (case aF => exact (fun _ _ => trivial)); (case aO => exact ((Kd.R_nil _ _ _ _ (fun _ => True)))); (case aS => exact (below_size (by repeat (first | (with_reducible first | exact HB.out | apply below_alloc | apply pw_below_drewN | apply below_drew1) | exact HB.out)))); (case aL => have := LMc16.out; omega); intro v231 w20 ho hb hg hat; rw [← Ny230.out] at ho; have n0_ := Aside0.mk (hb); have n1_ := Aside0.mk (ho); clear HB; have HB := n0_; have HO232 := n1_; clear n0_ n1_; clear ho hb hg hat; obtain ⟨Ao21, co21, eo21⟩ := Kd.R_slice HO232.out; subst eo21) | ((with_reducible refine gate_callee (f := 23) rfl ?_); refine goesL_ (some 30) rfl rfl Try.func23 (by kernel_rfl) rfl #[.slice Ao21 y230.length co21] rfl (by (try simp only [List.map_toArray, List.map_cons, List.map_nil]); first | done | rfl | (simp only [List.length_drop, List.length_take]; rfl)) ?_; (with_reducible refine (term_Row.calls _ _ y230 t233 t234 _ ?side1 ?side2 A17.out).mono ?_); (case side1 => repeat (first | exact (Kd.R_reads' HO232.out).2.2 | (with_reducible refine Kd.C_alloc ?_ _) | (with_reducible refine Kd.C_drewN ?_ _) | (with_reducible refine Kd.C_drew ?_))); (case side2 => exact (Kd.R_reads' HO232.out).2.1); rintro e w22 ⟨rfl, hb⟩; refine ⟨_, rfl, ?_⟩; have n0_ := Aside0.mk (Kd.R_below (by (with_reducible repeat (first | apply Kd.R_alloc | apply Kd.R_drewN | apply Kd.R_drew)); exact HO232.out) hb); have n1_ := Aside0.mk (below_step (by repeat (first | (with_reducible first | exact HB.out | apply below_alloc | apply pw_below_drewN | apply below_drew1) | exact HB.out)) hb); clear HO232; clear HB; have HO232 := n0_; have HB := n1_; clear n0_ n1_; (try clear hb); (try clear hb2); (try clear hk); (try clear hi)) | ((with_reducible refine gate_callee (f := 24) rfl ?_); refine goesL_ (some 35) rfl rfl Try.func24 (by kernel_rfl) rfl #[.slice A0 l0.length c0] rfl (by (try simp only [List.map_toArray, List.map_cons, List.map_nil]); first | done | rfl | (simp only [List.length_drop, List.length_take]; rfl)) ?_; (with_reducible refine (chirographref06_Row.calls kj5 _ _ l0 t235 t236 _ ?side1 ?side2 A18.out).mono ?_); (case side1 => repeat (first | exact (Kd.C_below HR0.out HB.out) | (with_reducible refine Kd.C_alloc ?_ _) | (with_reducible refine Kd.C_drewN ?_ _) | (with_reducible refine Kd.C_drew ?_))); (case side2 => exact HC0.out); rintro e w23 ⟨rfl, hb⟩; refine ⟨_, rfl, ?_⟩; have n0_ := Aside0.mk (Kd.R_below (by (with_reducible repeat (first | apply Kd.R_alloc | apply Kd.R_drewN | apply Kd.R_drew)); exact HO232.out) hb); have n1_ := Aside0.mk (below_step (by repeat (first | (with_reducible first | exact HB.out | apply below_alloc | apply pw_below_drewN | apply below_drew1) | exact HB.out)) hb); clear HO232; clear HB; have HO232 := n0_; have HB := n1_; clear n0_ n1_; (try clear hb); (try clear hb2); (try clear hk); (try clear hi)))
          (try simp only [Act.put, List.setIfInBounds_toArray, List.set_cons_zero, List.set_cons_succ])
          go_cut [51] (fun v51 wc => ∃ (kq : Nat) (x51_18 : Bool), v51 = .bool x51_18 ∧ Aside0 (chirographlaw06_TermMakes.j1 kq a1 a2 a3 a4 x51_18 = some r) ∧ Aside0 (kq ≤ kj5) ∧ Aside0 (Below w.heap.size w wc))
          case first =>
            have H := HC19.out
            clear HC19
            by_cases c24 : t233.toList = t235.toList
            · rw [if_pos c24] at H
              have c24b0 : (t233.toList == t235.toList) = true := beq_iff_eq.mpr c24
              have c24b1 : (t233.toList != t235.toList) = false := bne_eq_false_iff_eq.mpr c24
              clear c24
              (first | rw [c24b0] | (simp only [i64_w, i32_w]; rw [c24b0]) | skip)
              by_cases c25 : t234 = t236
              · rw [if_pos c25] at H
                have c25b0 : (t234 == t236) = true := beq_iff_eq.mpr c25
                have c25b1 : (t234 != t236) = false := bne_eq_false_iff_eq.mpr c25
                clear c25
                replace H := Option.bind_eq_some_iff.mp H
                obtain ⟨t237, A260, H⟩ := H
                replace H : (chirographlaw06_TermMakes.j1 kj5 a1 a2 a3 a4 (!t237)) = some r := H
                have A26 := Aside0.mk A260
                clear A260
                have H' := Aside0.mk H
                clear H
                go_wp2_with (first | (go_at_call 25; (with_reducible refine (chirographref06_Same.calls kj5 _ _ y230 _ _ l0 t237 _ ?side1 ?side2 ?side3 ?side4 A26.out).mono ?_); (case side1 => repeat (first | exact (Kd.R_reads' HO232.out).2.2 | (with_reducible refine Kd.C_alloc ?_ _) | (with_reducible refine Kd.C_drewN ?_ _) | (with_reducible refine Kd.C_drew ?_))); (case side2 => exact (Kd.R_reads' HO232.out).2.1); (case side3 => repeat (first | exact (Kd.C_below HR0.out HB.out) | (with_reducible refine Kd.C_alloc ?_ _) | (with_reducible refine Kd.C_drewN ?_ _) | (with_reducible refine Kd.C_drew ?_))); (case side4 => exact HC0.out); rintro e w' ⟨rfl, ⟨nd, rfl⟩⟩))
                go_meet
                case rel => exact ⟨_, (!t237), (by first | rfl | (simp; done) | (simp [*]; done) | (simp [bne_nil_, beq_nil_]; done) | (simp [bne_nil_, beq_nil_, *]; done)), H', ⟨by have := HJ5.out; first | omega | exact Nat.le_refl _⟩, ⟨by repeat (first | (with_reducible first | exact HB.out | apply below_alloc | apply pw_below_drewN | apply below_drew1) | exact HB.out)⟩⟩
              · rw [if_neg c25] at H
                have c25b0 : (t234 == t236) = false := beq_eq_false_iff_ne.mpr c25
                have c25b1 : (t234 != t236) = true := bne_iff_ne.mpr c25
                have H' := Aside0.mk H
                clear H
                go_wp2
                go_meet
                case rel => exact ⟨_, (true), (by first | rfl | (simp; done) | (simp [*]; done) | (simp [bne_nil_, beq_nil_]; done) | (simp [bne_nil_, beq_nil_, *]; done)), H', ⟨by have := HJ5.out; first | omega | exact Nat.le_refl _⟩, ⟨by repeat (first | (with_reducible first | exact HB.out | apply below_alloc | apply pw_below_drewN | apply below_drew1) | exact HB.out)⟩⟩
            · rw [if_neg c24] at H
              have c24b0 : (t233.toList == t235.toList) = false := beq_eq_false_iff_ne.mpr c24
              have c24b1 : (t233.toList != t235.toList) = true := bne_iff_ne.mpr c24
              (first | rw [c24b0] | (simp only [i64_w, i32_w]; rw [c24b0]) | skip)
              have H' := Aside0.mk H
              clear H
              go_wp2
              go_meet
              case rel => exact ⟨_, (true), (by first | rfl | (simp; done) | (simp [*]; done) | (simp [bne_nil_, beq_nil_]; done) | (simp [bne_nil_, beq_nil_, *]; done)), H', ⟨by have := HJ5.out; first | omega | exact Nat.le_refl _⟩, ⟨by repeat (first | (with_reducible first | exact HB.out | apply below_alloc | apply pw_below_drewN | apply below_drew1) | exact HB.out)⟩⟩
          case rest =>
            clear HC19
            try clear c1
            try clear c2
            try clear p2
            try clear c3
            try clear c8
            try clear c13
            try clear c16
            try clear c21
            try clear c22
            try clear c23
            try clear c24
            try clear c24b0
            try clear c24b1
            try clear c25
            try clear c25b0
            try clear c25b1
            try clear p2
            obtain ⟨kq, x51_18, rfl, HA, HJ18, HB⟩ := hcut
            cases kq with
            | zero => exact absurd HA.out (by simp [chirographlaw06_TermMakes.j1])
            | succ kj18 =>
              have H := HA.out
              clear HA
              simp only [chirographlaw06_TermMakes.j1] at H
              by_cases c27 : x51_18 = true
              · subst c27
                have H1 : (some false) = some r := by rw [if_pos rfl] at H; exact H
                clear H
                have H := H1
                clear H1
                obtain rfl := Option.some.inj H
                go_wp2
                go_ret
                exact ⟨by first | rfl | (simp [errW_none, errW_some] <;> rfl) | (simp [*, errW_none, errW_some] <;> rfl), by repeat (first | (with_reducible first | exact HB.out | apply below_alloc | apply pw_below_drewN | apply below_drew1) | exact HB.out)⟩
              · replace c27 := Bool.eq_false_iff.mpr c27
                subst c27
                have H1 : ((term_Data.f a1).bind fun bt238 => ((chirographref06_Data.f kj18 a1).bind fun bt240 => (if bt238.1.toList = bt240.1.toList then (chirographlaw06_TermMakes.j2 kj18 a1 a2 a3 a4 (bt238.2 != bt240.2)) else (chirographlaw06_TermMakes.j2 kj18 a1 a2 a3 a4 true)))) = some r := by rw [if_neg (show ¬ (false = true) by decide)] at H; exact H
                clear H
                have H := H1
                clear H1
                replace H := Option.bind_eq_some_iff.mp H
                obtain ⟨⟨t238, t239⟩, A280, H⟩ := H
                replace H : ((chirographref06_Data.f kj18 a1).bind fun bt240 => (if t238.toList = bt240.1.toList then (chirographlaw06_TermMakes.j2 kj18 a1 a2 a3 a4 (t239 != bt240.2)) else (chirographlaw06_TermMakes.j2 kj18 a1 a2 a3 a4 true))) = some r := H
                have A28 := Aside0.mk A280
                clear A280
                replace H := Option.bind_eq_some_iff.mp H
                obtain ⟨⟨t240, t241⟩, A290, H⟩ := H
                replace H : (if t238.toList = t240.toList then (chirographlaw06_TermMakes.j2 kj18 a1 a2 a3 a4 (t239 != t241)) else (chirographlaw06_TermMakes.j2 kj18 a1 a2 a3 a4 true)) = some r := H
                have A29 := Aside0.mk A290
                clear A290
                have HC30 := Aside0.mk H
                clear H
                go_upto_region 10 with (first | ((with_reducible refine gate_callee (f := 26) rfl ?_); refine goesL_ (some 54) rfl rfl Try.func26 (by kernel_rfl) rfl #[.string a1] rfl (by (try simp only [List.map_toArray, List.map_cons, List.map_nil]); first | done | rfl | (simp only [List.length_drop, List.length_take]; rfl)) ?_; (with_reducible refine (term_Data.calls a1 t238 t239 _ A28.out).mono ?_); rintro e w31 ⟨rfl, hb⟩; refine ⟨_, rfl, ?_⟩; have n0_ := Aside0.mk (below_step (by repeat (first | (with_reducible first | exact HB.out | apply below_alloc | apply pw_below_drewN | apply below_drew1) | exact HB.out)) hb); clear HB; have HB := n0_; clear n0_; (try clear hb); (try clear hb2); (try clear hk); (try clear hi)) | ((with_reducible refine gate_callee (f := 27) rfl ?_); refine goesL_ (some 59) rfl rfl Try.func27 (by kernel_rfl) rfl #[.string a1] rfl (by (try simp only [List.map_toArray, List.map_cons, List.map_nil]); first | done | rfl | (simp only [List.length_drop, List.length_take]; rfl)) ?_; (with_reducible refine (chirographref06_Data.calls kj18 a1 t240 t241 _ A29.out).mono ?_); rintro e w32 ⟨rfl, hb⟩; refine ⟨_, rfl, ?_⟩; have n0_ := Aside0.mk (below_step (by repeat (first | (with_reducible first | exact HB.out | apply below_alloc | apply pw_below_drewN | apply below_drew1) | exact HB.out)) hb); clear HB; have HB := n0_; clear n0_; (try clear hb); (try clear hb2); (try clear hk); (try clear hi)))
                (try simp only [Act.put, List.setIfInBounds_toArray, List.set_cons_zero, List.set_cons_succ])
                go_cut [69] (fun v69 wc => ∃ (kq : Nat) (x69_29 : Bool), v69 = .bool x69_29 ∧ Aside0 (chirographlaw06_TermMakes.j2 kq a1 a2 a3 a4 x69_29 = some r) ∧ Aside0 (kq ≤ kj18) ∧ Aside0 (Below w.heap.size w wc))
                case first =>
                  have H := HC30.out
                  clear HC30
                  by_cases c33 : t238.toList = t240.toList
                  · rw [if_pos c33] at H
                    have c33b0 : (t238.toList == t240.toList) = true := beq_iff_eq.mpr c33
                    have c33b1 : (t238.toList != t240.toList) = false := bne_eq_false_iff_eq.mpr c33
                    clear c33
                    (first | rw [c33b0] | (simp only [i64_w, i32_w]; rw [c33b0]) | skip)
                    have H' := Aside0.mk H
                    clear H
                    go_wp2
                    go_meet
                    case rel => exact ⟨_, ((t239 != t241)), (by first | rfl | (simp; done) | (simp [*]; done) | (simp [bne_nil_, beq_nil_]; done) | (simp [bne_nil_, beq_nil_, *]; done)), H', ⟨by have := HJ5.out; have := HJ18.out; first | omega | exact Nat.le_refl _⟩, ⟨by repeat (first | (with_reducible first | exact HB.out | apply below_alloc | apply pw_below_drewN | apply below_drew1) | exact HB.out)⟩⟩
                  · rw [if_neg c33] at H
                    have c33b0 : (t238.toList == t240.toList) = false := beq_eq_false_iff_ne.mpr c33
                    have c33b1 : (t238.toList != t240.toList) = true := bne_iff_ne.mpr c33
                    (first | rw [c33b0] | (simp only [i64_w, i32_w]; rw [c33b0]) | skip)
                    have H' := Aside0.mk H
                    clear H
                    go_wp2
                    go_meet
                    case rel => exact ⟨_, (true), (by first | rfl | (simp; done) | (simp [*]; done) | (simp [bne_nil_, beq_nil_]; done) | (simp [bne_nil_, beq_nil_, *]; done)), H', ⟨by have := HJ5.out; have := HJ18.out; first | omega | exact Nat.le_refl _⟩, ⟨by repeat (first | (with_reducible first | exact HB.out | apply below_alloc | apply pw_below_drewN | apply below_drew1) | exact HB.out)⟩⟩
                case rest =>
                  clear HC30
                  try clear c1
                  try clear c2
                  try clear p2
                  try clear c3
                  try clear c8
                  try clear c13
                  try clear c16
                  try clear c21
                  try clear c22
                  try clear c23
                  try clear c24
                  try clear c24b0
                  try clear c24b1
                  try clear c25
                  try clear c25b0
                  try clear c25b1
                  try clear c26
                  try clear c27
                  try clear c33
                  try clear c33b0
                  try clear c33b1
                  try clear p2
                  obtain ⟨kq, x69_29, rfl, HA, HJ29, HB⟩ := hcut
                  cases kq with
                  | zero => exact absurd HA.out (by simp [chirographlaw06_TermMakes.j2])
                  | succ kj29 =>
                    have H := HA.out
                    clear HA
                    simp only [chirographlaw06_TermMakes.j2] at H
                    by_cases c34 : x69_29 = true
                    · subst c34
                      have H1 : (some false) = some r := by rw [if_pos rfl] at H; exact H
                      clear H
                      have H := H1
                      clear H1
                      obtain rfl := Option.some.inj H
                      go_wp2
                      go_ret
                      exact ⟨by first | rfl | (simp [errW_none, errW_some] <;> rfl) | (simp [*, errW_none, errW_some] <;> rfl), by repeat (first | (with_reducible first | exact HB.out | apply below_alloc | apply pw_below_drewN | apply below_drew1) | exact HB.out)⟩
                    · replace c34 := Bool.eq_false_iff.mpr c34
                      subst c34
                      have H1 : ((term_Atom.f a1).bind fun bt242 => ((chirographref06_Atom.f kj29 a1).bind fun bt244 => (if bt242.1.toList = bt244.1.toList then (chirographlaw06_TermMakes.j3 kj29 a1 a2 a3 a4 (bt242.2 != bt244.2)) else (chirographlaw06_TermMakes.j3 kj29 a1 a2 a3 a4 true)))) = some r := by rw [if_neg (show ¬ (false = true) by decide)] at H; exact H
                      clear H
                      have H := H1
                      clear H1
                      replace H := Option.bind_eq_some_iff.mp H
                      obtain ⟨⟨t242, t243⟩, A350, H⟩ := H
                      replace H : ((chirographref06_Atom.f kj29 a1).bind fun bt244 => (if t242.toList = bt244.1.toList then (chirographlaw06_TermMakes.j3 kj29 a1 a2 a3 a4 (t243 != bt244.2)) else (chirographlaw06_TermMakes.j3 kj29 a1 a2 a3 a4 true))) = some r := H
                      have A35 := Aside0.mk A350
                      clear A350
                      replace H := Option.bind_eq_some_iff.mp H
                      obtain ⟨⟨t244, t245⟩, A360, H⟩ := H
                      replace H : (if t242.toList = t244.toList then (chirographlaw06_TermMakes.j3 kj29 a1 a2 a3 a4 (t243 != t245)) else (chirographlaw06_TermMakes.j3 kj29 a1 a2 a3 a4 true)) = some r := H
                      have A36 := Aside0.mk A360
                      clear A360
                      have HC37 := Aside0.mk H
                      clear H
                      go_upto_region 14 with (first | ((with_reducible refine gate_callee (f := 28) rfl ?_); refine goesL_ (some 72) rfl rfl Try.func28 (by kernel_rfl) rfl #[.string a1] rfl (by (try simp only [List.map_toArray, List.map_cons, List.map_nil]); first | done | rfl | (simp only [List.length_drop, List.length_take]; rfl)) ?_; (with_reducible refine (term_Atom.calls a1 t242 t243 _ A35.out).mono ?_); rintro e w38 ⟨rfl, hb⟩; refine ⟨_, rfl, ?_⟩; have n0_ := Aside0.mk (below_step (by repeat (first | (with_reducible first | exact HB.out | apply below_alloc | apply pw_below_drewN | apply below_drew1) | exact HB.out)) hb); clear HB; have HB := n0_; clear n0_; (try clear hb); (try clear hb2); (try clear hk); (try clear hi)) | ((with_reducible refine gate_callee (f := 29) rfl ?_); refine goesL_ (some 77) rfl rfl Try.func29 (by kernel_rfl) rfl #[.string a1] rfl (by (try simp only [List.map_toArray, List.map_cons, List.map_nil]); first | done | rfl | (simp only [List.length_drop, List.length_take]; rfl)) ?_; (with_reducible refine (chirographref06_Atom.calls kj29 a1 t244 t245 _ A36.out).mono ?_); rintro e w39 ⟨rfl, hb⟩; refine ⟨_, rfl, ?_⟩; have n0_ := Aside0.mk (below_step (by repeat (first | (with_reducible first | exact HB.out | apply below_alloc | apply pw_below_drewN | apply below_drew1) | exact HB.out)) hb); clear HB; have HB := n0_; clear n0_; (try clear hb); (try clear hb2); (try clear hk); (try clear hi)))
                      (try simp only [Act.put, List.setIfInBounds_toArray, List.set_cons_zero, List.set_cons_succ])
                      go_cut [87] (fun v87 wc => ∃ (kq : Nat) (x87_36 : Bool), v87 = .bool x87_36 ∧ Aside0 (chirographlaw06_TermMakes.j3 kq a1 a2 a3 a4 x87_36 = some r) ∧ Aside0 (kq ≤ kj29) ∧ Aside0 (Below w.heap.size w wc))
                      case first =>
                        have H := HC37.out
                        clear HC37
                        by_cases c40 : t242.toList = t244.toList
                        · rw [if_pos c40] at H
                          have c40b0 : (t242.toList == t244.toList) = true := beq_iff_eq.mpr c40
                          have c40b1 : (t242.toList != t244.toList) = false := bne_eq_false_iff_eq.mpr c40
                          clear c40
                          (first | rw [c40b0] | (simp only [i64_w, i32_w]; rw [c40b0]) | skip)
                          have H' := Aside0.mk H
                          clear H
                          go_wp2
                          go_meet
                          case rel => exact ⟨_, ((t243 != t245)), (by first | rfl | (simp; done) | (simp [*]; done) | (simp [bne_nil_, beq_nil_]; done) | (simp [bne_nil_, beq_nil_, *]; done)), H', ⟨by have := HJ5.out; have := HJ18.out; have := HJ29.out; first | omega | exact Nat.le_refl _⟩, ⟨by repeat (first | (with_reducible first | exact HB.out | apply below_alloc | apply pw_below_drewN | apply below_drew1) | exact HB.out)⟩⟩
                        · rw [if_neg c40] at H
                          have c40b0 : (t242.toList == t244.toList) = false := beq_eq_false_iff_ne.mpr c40
                          have c40b1 : (t242.toList != t244.toList) = true := bne_iff_ne.mpr c40
                          (first | rw [c40b0] | (simp only [i64_w, i32_w]; rw [c40b0]) | skip)
                          have H' := Aside0.mk H
                          clear H
                          go_wp2
                          go_meet
                          case rel => exact ⟨_, (true), (by first | rfl | (simp; done) | (simp [*]; done) | (simp [bne_nil_, beq_nil_]; done) | (simp [bne_nil_, beq_nil_, *]; done)), H', ⟨by have := HJ5.out; have := HJ18.out; have := HJ29.out; first | omega | exact Nat.le_refl _⟩, ⟨by repeat (first | (with_reducible first | exact HB.out | apply below_alloc | apply pw_below_drewN | apply below_drew1) | exact HB.out)⟩⟩
                      case rest =>
                        clear HC37
                        try clear c1
                        try clear c2
                        try clear p2
                        try clear c3
                        try clear c4
                        try clear c8
                        try clear c13
                        try clear c16
                        try clear c21
                        try clear c22
                        try clear c23
                        try clear c24
                        try clear c24b0
                        try clear c24b1
                        try clear c25
                        try clear c25b0
                        try clear c25b1
                        try clear c26
                        try clear c27
                        try clear c28
                        try clear c29
                        try clear c33
                        try clear c33b0
                        try clear c33b1
                        try clear c34
                        try clear c40
                        try clear c40b0
                        try clear c40b1
                        try clear p2
                        obtain ⟨kq, x87_36, rfl, HA, HJ36, HB⟩ := hcut
                        cases kq with
                        | zero => exact absurd HA.out (by simp [chirographlaw06_TermMakes.j3])
                        | succ kj36 =>
                          have H := HA.out
                          clear HA
                          simp only [chirographlaw06_TermMakes.j3] at H
                          by_cases c41 : x87_36 = true
                          · subst c41
                            have H1 : (some false) = some r := by rw [if_pos rfl] at H; exact H
                            clear H
                            have H := H1
                            clear H1
                            obtain rfl := Option.some.inj H
                            go_wp2
                            go_ret
                            exact ⟨by first | rfl | (simp [errW_none, errW_some] <;> rfl) | (simp [*, errW_none, errW_some] <;> rfl), by repeat (first | (with_reducible first | exact HB.out | apply below_alloc | apply pw_below_drewN | apply below_drew1) | exact HB.out)⟩
                          · replace c41 := Bool.eq_false_iff.mpr c41
                            subst c41
                            have H1 : ((term_Hash.f a1).bind fun bt246 => ((chirographref06_Hash.f kj36 a1).bind fun bt248 => (if bt246.1.toList = bt248.1.toList then (chirographlaw06_TermMakes.j4 kj36 a1 a2 a3 a4 (bt246.2 != bt248.2)) else (chirographlaw06_TermMakes.j4 kj36 a1 a2 a3 a4 true)))) = some r := by rw [if_neg (show ¬ (false = true) by decide)] at H; exact H
                            clear H
                            have H := H1
                            clear H1
                            replace H := Option.bind_eq_some_iff.mp H
                            obtain ⟨⟨t246, t247⟩, A420, H⟩ := H
                            replace H : ((chirographref06_Hash.f kj36 a1).bind fun bt248 => (if t246.toList = bt248.1.toList then (chirographlaw06_TermMakes.j4 kj36 a1 a2 a3 a4 (t247 != bt248.2)) else (chirographlaw06_TermMakes.j4 kj36 a1 a2 a3 a4 true))) = some r := H
                            have A42 := Aside0.mk A420
                            clear A420
                            replace H := Option.bind_eq_some_iff.mp H
                            obtain ⟨⟨t248, t249⟩, A430, H⟩ := H
                            replace H : (if t246.toList = t248.toList then (chirographlaw06_TermMakes.j4 kj36 a1 a2 a3 a4 (t247 != t249)) else (chirographlaw06_TermMakes.j4 kj36 a1 a2 a3 a4 true)) = some r := H
                            have A43 := Aside0.mk A430
                            clear A430
                            have HC44 := Aside0.mk H
                            clear H
                            go_upto_region 18 with (first | ((with_reducible refine gate_callee (f := 30) rfl ?_); refine goesL_ (some 90) rfl rfl Try.func30 (by kernel_rfl) rfl #[.string a1] rfl (by (try simp only [List.map_toArray, List.map_cons, List.map_nil]); first | done | rfl | (simp only [List.length_drop, List.length_take]; rfl)) ?_; (with_reducible refine (term_Hash.calls a1 t246 t247 _ A42.out).mono ?_); rintro e w45 ⟨rfl, hb⟩; refine ⟨_, rfl, ?_⟩; have n0_ := Aside0.mk (below_step (by repeat (first | (with_reducible first | exact HB.out | apply below_alloc | apply pw_below_drewN | apply below_drew1) | exact HB.out)) hb); clear HB; have HB := n0_; clear n0_; (try clear hb); (try clear hb2); (try clear hk); (try clear hi)) | ((with_reducible refine gate_callee (f := 31) rfl ?_); refine goesL_ (some 95) rfl rfl Try.func31 (by kernel_rfl) rfl #[.string a1] rfl (by (try simp only [List.map_toArray, List.map_cons, List.map_nil]); first | done | rfl | (simp only [List.length_drop, List.length_take]; rfl)) ?_; (with_reducible refine (chirographref06_Hash.calls kj36 a1 t248 t249 _ A43.out).mono ?_); rintro e w46 ⟨rfl, hb⟩; refine ⟨_, rfl, ?_⟩; have n0_ := Aside0.mk (below_step (by repeat (first | (with_reducible first | exact HB.out | apply below_alloc | apply pw_below_drewN | apply below_drew1) | exact HB.out)) hb); clear HB; have HB := n0_; clear n0_; (try clear hb); (try clear hb2); (try clear hk); (try clear hi)))
                            (try simp only [Act.put, List.setIfInBounds_toArray, List.set_cons_zero, List.set_cons_succ])
                            go_cut [105] (fun v105 wc => ∃ (kq : Nat) (x105_43 : Bool), v105 = .bool x105_43 ∧ Aside0 (chirographlaw06_TermMakes.j4 kq a1 a2 a3 a4 x105_43 = some r) ∧ Aside0 (kq ≤ kj36) ∧ Aside0 (Below w.heap.size w wc))
                            case first =>
                              have H := HC44.out
                              clear HC44
                              by_cases c47 : t246.toList = t248.toList
                              · rw [if_pos c47] at H
                                have c47b0 : (t246.toList == t248.toList) = true := beq_iff_eq.mpr c47
                                have c47b1 : (t246.toList != t248.toList) = false := bne_eq_false_iff_eq.mpr c47
                                clear c47
                                (first | rw [c47b0] | (simp only [i64_w, i32_w]; rw [c47b0]) | skip)
                                have H' := Aside0.mk H
                                clear H
                                go_wp2
                                go_meet
                                case rel => exact ⟨_, ((t247 != t249)), (by first | rfl | (simp; done) | (simp [*]; done) | (simp [bne_nil_, beq_nil_]; done) | (simp [bne_nil_, beq_nil_, *]; done)), H', ⟨by have := HJ5.out; have := HJ18.out; have := HJ29.out; have := HJ36.out; first | omega | exact Nat.le_refl _⟩, ⟨by repeat (first | (with_reducible first | exact HB.out | apply below_alloc | apply pw_below_drewN | apply below_drew1) | exact HB.out)⟩⟩
                              · rw [if_neg c47] at H
                                have c47b0 : (t246.toList == t248.toList) = false := beq_eq_false_iff_ne.mpr c47
                                have c47b1 : (t246.toList != t248.toList) = true := bne_iff_ne.mpr c47
                                (first | rw [c47b0] | (simp only [i64_w, i32_w]; rw [c47b0]) | skip)
                                have H' := Aside0.mk H
                                clear H
                                go_wp2
                                go_meet
                                case rel => exact ⟨_, (true), (by first | rfl | (simp; done) | (simp [*]; done) | (simp [bne_nil_, beq_nil_]; done) | (simp [bne_nil_, beq_nil_, *]; done)), H', ⟨by have := HJ5.out; have := HJ18.out; have := HJ29.out; have := HJ36.out; first | omega | exact Nat.le_refl _⟩, ⟨by repeat (first | (with_reducible first | exact HB.out | apply below_alloc | apply pw_below_drewN | apply below_drew1) | exact HB.out)⟩⟩
                            case rest =>
                              clear HC44
                              try clear c1
                              try clear c2
                              try clear p2
                              try clear c3
                              try clear c4
                              try clear c8
                              try clear c13
                              try clear c16
                              try clear c21
                              try clear c22
                              try clear c23
                              try clear c24
                              try clear c24b0
                              try clear c24b1
                              try clear c25
                              try clear c25b0
                              try clear c25b1
                              try clear c26
                              try clear c27
                              try clear c28
                              try clear c29
                              try clear c30
                              try clear c31
                              try clear c33
                              try clear c33b0
                              try clear c33b1
                              try clear c34
                              try clear c40
                              try clear c40b0
                              try clear c40b1
                              try clear c41
                              try clear c47
                              try clear c47b0
                              try clear c47b1
                              try clear p2
                              obtain ⟨kq, x105_43, rfl, HA, HJ43, HB⟩ := hcut
                              cases kq with
                              | zero => exact absurd HA.out (by simp [chirographlaw06_TermMakes.j4])
                              | succ kj43 =>
                                have H := HA.out
                                clear HA
                                simp only [chirographlaw06_TermMakes.j4] at H
                                by_cases c48 : x105_43 = true
                                · subst c48
                                  have H1 : (some false) = some r := by rw [if_pos rfl] at H; exact H
                                  clear H
                                  have H := H1
                                  clear H1
                                  obtain rfl := Option.some.inj H
                                  go_wp2
                                  go_ret
                                  exact ⟨by first | rfl | (simp [errW_none, errW_some] <;> rfl) | (simp [*, errW_none, errW_some] <;> rfl), by repeat (first | (with_reducible first | exact HB.out | apply below_alloc | apply pw_below_drewN | apply below_drew1) | exact HB.out)⟩
                                · replace c48 := Bool.eq_false_iff.mpr c48
                                  subst c48
                                  have H1 : ((term_Mac.f a1 a2).bind fun bt250 => ((chirographref06_Mac.f kj43 a1 a2).bind fun bt252 => (if bt250.1.toList = bt252.1.toList then (chirographlaw06_TermMakes.j5 kj43 a1 a2 a3 a4 (bt250.2 != bt252.2)) else (chirographlaw06_TermMakes.j5 kj43 a1 a2 a3 a4 true)))) = some r := by rw [if_neg (show ¬ (false = true) by decide)] at H; exact H
                                  clear H
                                  have H := H1
                                  clear H1
                                  replace H := Option.bind_eq_some_iff.mp H
                                  obtain ⟨⟨t250, t251⟩, A490, H⟩ := H
                                  replace H : ((chirographref06_Mac.f kj43 a1 a2).bind fun bt252 => (if t250.toList = bt252.1.toList then (chirographlaw06_TermMakes.j5 kj43 a1 a2 a3 a4 (t251 != bt252.2)) else (chirographlaw06_TermMakes.j5 kj43 a1 a2 a3 a4 true))) = some r := H
                                  have A49 := Aside0.mk A490
                                  clear A490
                                  replace H := Option.bind_eq_some_iff.mp H
                                  obtain ⟨⟨t252, t253⟩, A500, H⟩ := H
                                  replace H : (if t250.toList = t252.toList then (chirographlaw06_TermMakes.j5 kj43 a1 a2 a3 a4 (t251 != t253)) else (chirographlaw06_TermMakes.j5 kj43 a1 a2 a3 a4 true)) = some r := H
                                  have A50 := Aside0.mk A500
                                  clear A500
                                  have HC51 := Aside0.mk H
                                  clear H
                                  go_upto_region 22 with (first | ((with_reducible refine gate_callee (f := 32) rfl ?_); refine goesL_ (some 109) rfl rfl Try.func32 (by kernel_rfl) rfl #[.string a1, .string a2] rfl (by (try simp only [List.map_toArray, List.map_cons, List.map_nil]); first | done | rfl | (simp only [List.length_drop, List.length_take]; rfl)) ?_; (with_reducible refine (term_Mac.calls a1 a2 t250 t251 _ A49.out).mono ?_); rintro e w52 ⟨rfl, hb⟩; refine ⟨_, rfl, ?_⟩; have n0_ := Aside0.mk (below_step (by repeat (first | (with_reducible first | exact HB.out | apply below_alloc | apply pw_below_drewN | apply below_drew1) | exact HB.out)) hb); clear HB; have HB := n0_; clear n0_; (try clear hb); (try clear hb2); (try clear hk); (try clear hi)) | ((with_reducible refine gate_callee (f := 33) rfl ?_); refine goesL_ (some 115) rfl rfl Try.func33 (by kernel_rfl) rfl #[.string a1, .string a2] rfl (by (try simp only [List.map_toArray, List.map_cons, List.map_nil]); first | done | rfl | (simp only [List.length_drop, List.length_take]; rfl)) ?_; (with_reducible refine (chirographref06_Mac.calls kj43 a1 a2 t252 t253 _ A50.out).mono ?_); rintro e w53 ⟨rfl, hb⟩; refine ⟨_, rfl, ?_⟩; have n0_ := Aside0.mk (below_step (by repeat (first | (with_reducible first | exact HB.out | apply below_alloc | apply pw_below_drewN | apply below_drew1) | exact HB.out)) hb); clear HB; have HB := n0_; clear n0_; (try clear hb); (try clear hb2); (try clear hk); (try clear hi)))
                                  (try simp only [Act.put, List.setIfInBounds_toArray, List.set_cons_zero, List.set_cons_succ])
                                  go_cut [125] (fun v125 wc => ∃ (kq : Nat) (x125_50 : Bool), v125 = .bool x125_50 ∧ Aside0 (chirographlaw06_TermMakes.j5 kq a1 a2 a3 a4 x125_50 = some r) ∧ Aside0 (kq ≤ kj43) ∧ Aside0 (Below w.heap.size w wc))
                                  case first =>
                                    have H := HC51.out
                                    clear HC51
                                    by_cases c54 : t250.toList = t252.toList
                                    · rw [if_pos c54] at H
                                      have c54b0 : (t250.toList == t252.toList) = true := beq_iff_eq.mpr c54
                                      have c54b1 : (t250.toList != t252.toList) = false := bne_eq_false_iff_eq.mpr c54
                                      clear c54
                                      (first | rw [c54b0] | (simp only [i64_w, i32_w]; rw [c54b0]) | skip)
                                      have H' := Aside0.mk H
                                      clear H
                                      go_wp2
                                      go_meet
                                      case rel => exact ⟨_, ((t251 != t253)), (by first | rfl | (simp; done) | (simp [*]; done) | (simp [bne_nil_, beq_nil_]; done) | (simp [bne_nil_, beq_nil_, *]; done)), H', ⟨by have := HJ5.out; have := HJ18.out; have := HJ29.out; have := HJ36.out; have := HJ43.out; first | omega | exact Nat.le_refl _⟩, ⟨by repeat (first | (with_reducible first | exact HB.out | apply below_alloc | apply pw_below_drewN | apply below_drew1) | exact HB.out)⟩⟩
                                    · rw [if_neg c54] at H
                                      have c54b0 : (t250.toList == t252.toList) = false := beq_eq_false_iff_ne.mpr c54
                                      have c54b1 : (t250.toList != t252.toList) = true := bne_iff_ne.mpr c54
                                      (first | rw [c54b0] | (simp only [i64_w, i32_w]; rw [c54b0]) | skip)
                                      have H' := Aside0.mk H
                                      clear H
                                      go_wp2
                                      go_meet
                                      case rel => exact ⟨_, (true), (by first | rfl | (simp; done) | (simp [*]; done) | (simp [bne_nil_, beq_nil_]; done) | (simp [bne_nil_, beq_nil_, *]; done)), H', ⟨by have := HJ5.out; have := HJ18.out; have := HJ29.out; have := HJ36.out; have := HJ43.out; first | omega | exact Nat.le_refl _⟩, ⟨by repeat (first | (with_reducible first | exact HB.out | apply below_alloc | apply pw_below_drewN | apply below_drew1) | exact HB.out)⟩⟩
                                  case rest =>
                                    clear HC51
                                    try clear c1
                                    try clear c2
                                    try clear p2
                                    try clear c3
                                    try clear c4
                                    try clear c5
                                    try clear c8
                                    try clear c13
                                    try clear c16
                                    try clear c21
                                    try clear c22
                                    try clear c23
                                    try clear c24
                                    try clear c24b0
                                    try clear c24b1
                                    try clear c25
                                    try clear c25b0
                                    try clear c25b1
                                    try clear c26
                                    try clear c27
                                    try clear c28
                                    try clear c29
                                    try clear c30
                                    try clear c31
                                    try clear c32
                                    try clear c33
                                    try clear c33b0
                                    try clear c33b1
                                    try clear c34
                                    try clear c40
                                    try clear c40b0
                                    try clear c40b1
                                    try clear c41
                                    try clear c47
                                    try clear c47b0
                                    try clear c47b1
                                    try clear c48
                                    try clear c54
                                    try clear c54b0
                                    try clear c54b1
                                    try clear p2
                                    obtain ⟨kq, x125_50, rfl, HA, HJ50, HB⟩ := hcut
                                    cases kq with
                                    | zero => exact absurd HA.out (by simp [chirographlaw06_TermMakes.j5])
                                    | succ kj50 =>
                                      have H := HA.out
                                      clear HA
                                      simp only [chirographlaw06_TermMakes.j5] at H
                                      by_cases c55 : x125_50 = true
                                      · subst c55
                                        have H1 : (some false) = some r := by rw [if_pos rfl] at H; exact H
                                        clear H
                                        have H := H1
                                        clear H1
                                        obtain rfl := Option.some.inj H
                                        go_wp2
                                        go_ret
                                        exact ⟨by first | rfl | (simp [errW_none, errW_some] <;> rfl) | (simp [*, errW_none, errW_some] <;> rfl), by repeat (first | (with_reducible first | exact HB.out | apply below_alloc | apply pw_below_drewN | apply below_drew1) | exact HB.out)⟩
                                      · replace c55 := Bool.eq_false_iff.mpr c55
                                        subst c55
                                        have H1 : ((term_Seal.f a1 a2 a3).bind fun bt254 => ((chirographref06_Seal.f kj50 a1 a2 a3).bind fun bt256 => (if bt254.1.toList = bt256.1.toList then (chirographlaw06_TermMakes.j6 kj50 a4 (bt254.2 != bt256.2)) else (chirographlaw06_TermMakes.j6 kj50 a4 true)))) = some r := by rw [if_neg (show ¬ (false = true) by decide)] at H; exact H
                                        clear H
                                        have H := H1
                                        clear H1
                                        replace H := Option.bind_eq_some_iff.mp H
                                        obtain ⟨⟨t254, t255⟩, A560, H⟩ := H
                                        replace H : ((chirographref06_Seal.f kj50 a1 a2 a3).bind fun bt256 => (if t254.toList = bt256.1.toList then (chirographlaw06_TermMakes.j6 kj50 a4 (t255 != bt256.2)) else (chirographlaw06_TermMakes.j6 kj50 a4 true))) = some r := H
                                        have A56 := Aside0.mk A560
                                        clear A560
                                        replace H := Option.bind_eq_some_iff.mp H
                                        obtain ⟨⟨t256, t257⟩, A570, H⟩ := H
                                        replace H : (if t254.toList = t256.toList then (chirographlaw06_TermMakes.j6 kj50 a4 (t255 != t257)) else (chirographlaw06_TermMakes.j6 kj50 a4 true)) = some r := H
                                        have A57 := Aside0.mk A570
                                        clear A570
                                        have HC58 := Aside0.mk H
                                        clear H
                                        go_upto_region 26 with (first | ((with_reducible refine gate_callee (f := 34) rfl ?_); refine goesL_ (some 130) rfl rfl Try.func34 (by kernel_rfl) rfl #[.string a1, .string a2, .string a3] rfl (by (try simp only [List.map_toArray, List.map_cons, List.map_nil]); first | done | rfl | (simp only [List.length_drop, List.length_take]; rfl)) ?_; (with_reducible refine (term_Seal.calls a1 a2 a3 t254 t255 _ A56.out).mono ?_); rintro e w59 ⟨rfl, hb⟩; refine ⟨_, rfl, ?_⟩; have n0_ := Aside0.mk (below_step (by repeat (first | (with_reducible first | exact HB.out | apply below_alloc | apply pw_below_drewN | apply below_drew1) | exact HB.out)) hb); clear HB; have HB := n0_; clear n0_; (try clear hb); (try clear hb2); (try clear hk); (try clear hi)) | ((with_reducible refine gate_callee (f := 35) rfl ?_); refine goesL_ (some 137) rfl rfl Try.func35 (by kernel_rfl) rfl #[.string a1, .string a2, .string a3] rfl (by (try simp only [List.map_toArray, List.map_cons, List.map_nil]); first | done | rfl | (simp only [List.length_drop, List.length_take]; rfl)) ?_; (with_reducible refine (chirographref06_Seal.calls kj50 a1 a2 a3 t256 t257 _ A57.out).mono ?_); rintro e w60 ⟨rfl, hb⟩; refine ⟨_, rfl, ?_⟩; have n0_ := Aside0.mk (below_step (by repeat (first | (with_reducible first | exact HB.out | apply below_alloc | apply pw_below_drewN | apply below_drew1) | exact HB.out)) hb); clear HB; have HB := n0_; clear n0_; (try clear hb); (try clear hb2); (try clear hk); (try clear hi)))
                                        (try simp only [Act.put, List.setIfInBounds_toArray, List.set_cons_zero, List.set_cons_succ])
                                        go_cut [147] (fun v147 wc => ∃ (kq : Nat) (x147_57 : Bool), v147 = .bool x147_57 ∧ Aside0 (chirographlaw06_TermMakes.j6 kq a4 x147_57 = some r) ∧ Aside0 (kq ≤ kj50) ∧ Aside0 (Below w.heap.size w wc))
                                        case first =>
                                          have H := HC58.out
                                          clear HC58
                                          by_cases c61 : t254.toList = t256.toList
                                          · rw [if_pos c61] at H
                                            have c61b0 : (t254.toList == t256.toList) = true := beq_iff_eq.mpr c61
                                            have c61b1 : (t254.toList != t256.toList) = false := bne_eq_false_iff_eq.mpr c61
                                            clear c61
                                            (first | rw [c61b0] | (simp only [i64_w, i32_w]; rw [c61b0]) | skip)
                                            have H' := Aside0.mk H
                                            clear H
                                            go_wp2
                                            go_meet
                                            case rel => exact ⟨_, ((t255 != t257)), (by first | rfl | (simp; done) | (simp [*]; done) | (simp [bne_nil_, beq_nil_]; done) | (simp [bne_nil_, beq_nil_, *]; done)), H', ⟨by have := HJ5.out; have := HJ18.out; have := HJ29.out; have := HJ36.out; have := HJ43.out; have := HJ50.out; first | omega | exact Nat.le_refl _⟩, ⟨by repeat (first | (with_reducible first | exact HB.out | apply below_alloc | apply pw_below_drewN | apply below_drew1) | exact HB.out)⟩⟩
                                          · rw [if_neg c61] at H
                                            have c61b0 : (t254.toList == t256.toList) = false := beq_eq_false_iff_ne.mpr c61
                                            have c61b1 : (t254.toList != t256.toList) = true := bne_iff_ne.mpr c61
                                            (first | rw [c61b0] | (simp only [i64_w, i32_w]; rw [c61b0]) | skip)
                                            have H' := Aside0.mk H
                                            clear H
                                            go_wp2
                                            go_meet
                                            case rel => exact ⟨_, (true), (by first | rfl | (simp; done) | (simp [*]; done) | (simp [bne_nil_, beq_nil_]; done) | (simp [bne_nil_, beq_nil_, *]; done)), H', ⟨by have := HJ5.out; have := HJ18.out; have := HJ29.out; have := HJ36.out; have := HJ43.out; have := HJ50.out; first | omega | exact Nat.le_refl _⟩, ⟨by repeat (first | (with_reducible first | exact HB.out | apply below_alloc | apply pw_below_drewN | apply below_drew1) | exact HB.out)⟩⟩
                                        case rest =>
                                          clear HC58
                                          try clear c1
                                          try clear c2
                                          try clear p2
                                          try clear c3
                                          try clear c4
                                          try clear c5
                                          try clear c6
                                          try clear c8
                                          try clear c13
                                          try clear c16
                                          try clear c21
                                          try clear c22
                                          try clear c23
                                          try clear c24
                                          try clear c24b0
                                          try clear c24b1
                                          try clear c25
                                          try clear c25b0
                                          try clear c25b1
                                          try clear c26
                                          try clear c27
                                          try clear c28
                                          try clear c29
                                          try clear c30
                                          try clear c31
                                          try clear c32
                                          try clear c33
                                          try clear c33b0
                                          try clear c33b1
                                          try clear c34
                                          try clear c35
                                          try clear c40
                                          try clear c40b0
                                          try clear c40b1
                                          try clear c41
                                          try clear c47
                                          try clear c47b0
                                          try clear c47b1
                                          try clear c48
                                          try clear c54
                                          try clear c54b0
                                          try clear c54b1
                                          try clear c55
                                          try clear c61
                                          try clear c61b0
                                          try clear c61b1
                                          try clear p2
                                          obtain ⟨kq, x147_57, rfl, HA, HJ57, HB⟩ := hcut
                                          cases kq with
                                          | zero => exact absurd HA.out (by simp [chirographlaw06_TermMakes.j6])
                                          | succ kj57 =>
                                            have H := HA.out
                                            clear HA
                                            simp only [chirographlaw06_TermMakes.j6] at H
                                            by_cases c62 : x147_57 = true
                                            · subst c62
                                              have H1 : (some false) = some r := by rw [if_pos rfl] at H; exact H
                                              clear H
                                              have H := H1
                                              clear H1
                                              obtain rfl := Option.some.inj H
                                              go_wp2
                                              go_ret
                                              exact ⟨by first | rfl | (simp [errW_none, errW_some] <;> rfl) | (simp [*, errW_none, errW_some] <;> rfl), by repeat (first | (with_reducible first | exact HB.out | apply below_alloc | apply pw_below_drewN | apply below_drew1) | exact HB.out)⟩
                                            · replace c62 := Bool.eq_false_iff.mpr c62
                                              subst c62
                                              have H1 : ((term_Num.f kj57 a4).bind fun bt258 => ((chirographref06_Num.f kj57 a4).bind fun bt260 => (if bt258.1.toList = bt260.1.toList then (if bt258.2 = bt260.2 then ((chirographlaw06_alive.f).bind fun t262 => (some t262)) else (some false)) else (some false)))) = some r := by rw [if_neg (show ¬ (false = true) by decide)] at H; exact H
                                              clear H
                                              have H := H1
                                              clear H1
                                              replace H := Option.bind_eq_some_iff.mp H
                                              obtain ⟨⟨t258, t259⟩, A630, H⟩ := H
                                              replace H : ((chirographref06_Num.f kj57 a4).bind fun bt260 => (if t258.toList = bt260.1.toList then (if t259 = bt260.2 then ((chirographlaw06_alive.f).bind fun t262 => (some t262)) else (some false)) else (some false))) = some r := H
                                              have A63 := Aside0.mk A630
                                              clear A630
                                              replace H := Option.bind_eq_some_iff.mp H
                                              obtain ⟨⟨t260, t261⟩, A640, H⟩ := H
                                              replace H : (if t258.toList = t260.toList then (if t259 = t261 then ((chirographlaw06_alive.f).bind fun t262 => (some t262)) else (some false)) else (some false)) = some r := H
                                              have A64 := Aside0.mk A640
                                              clear A640
                                              by_cases c65 : t258.toList = t260.toList
                                              · rw [if_pos c65] at H
                                                have c65b0 : (t258.toList == t260.toList) = true := beq_iff_eq.mpr c65
                                                have c65b1 : (t258.toList != t260.toList) = false := bne_eq_false_iff_eq.mpr c65
                                                clear c65
                                                by_cases c66 : t259 = t261
                                                · rw [if_pos c66] at H
                                                  have c66b0 : (t259 == t261) = true := beq_iff_eq.mpr c66
                                                  have c66b1 : (t259 != t261) = false := bne_eq_false_iff_eq.mpr c66
                                                  clear c66
                                                  replace H := Option.bind_eq_some_iff.mp H
                                                  obtain ⟨t262, A670, H⟩ := H
                                                  replace H : (some t262) = some r := H
                                                  have A67 := Aside0.mk A670
                                                  clear A670
                                                  obtain rfl := Option.some.inj H
                                                  go_wp2_with (first | ((with_reducible refine gate_callee (f := 36) rfl ?_); refine goesL_ (some 150) rfl rfl Try.func36 (by kernel_rfl) rfl #[.int .i64 a4] rfl (by (try simp only [List.map_toArray, List.map_cons, List.map_nil]); first | done | rfl | (simp only [List.length_drop, List.length_take]; rfl)) ?_; (with_reducible refine (term_Num.calls kj57 a4 t258 t259 _ A63.out).mono ?_); rintro e w68 ⟨rfl, hb⟩; refine ⟨_, rfl, ?_⟩; have n0_ := Aside0.mk (below_step (by repeat (first | (with_reducible first | exact HB.out | apply below_alloc | apply pw_below_drewN | apply below_drew1) | exact HB.out)) hb); clear HB; have HB := n0_; clear n0_; (try clear hb); (try clear hb2); (try clear hk); (try clear hi)) | ((with_reducible refine gate_callee (f := 37) rfl ?_); refine goesL_ (some 155) rfl rfl Try.func37 (by kernel_rfl) rfl #[.int .i64 a4] rfl (by (try simp only [List.map_toArray, List.map_cons, List.map_nil]); first | done | rfl | (simp only [List.length_drop, List.length_take]; rfl)) ?_; (with_reducible refine (chirographref06_Num.calls kj57 a4 t260 t261 _ A64.out).mono ?_); rintro e w69 ⟨rfl, hb⟩; refine ⟨_, rfl, ?_⟩; have n0_ := Aside0.mk (below_step (by repeat (first | (with_reducible first | exact HB.out | apply below_alloc | apply pw_below_drewN | apply below_drew1) | exact HB.out)) hb); clear HB; have HB := n0_; clear n0_; (try clear hb); (try clear hb2); (try clear hk); (try clear hi)) | (go_at_call 22; (with_reducible refine (chirographlaw06_alive.calls  t262 _ A67.out).mono ?_); rintro e w70 ⟨rfl, hb⟩; have n0_ := Aside0.mk (below_step (by repeat (first | (with_reducible first | exact HB.out | apply below_alloc | apply pw_below_drewN | apply below_drew1) | exact HB.out)) hb); clear HB; have HB := n0_; clear n0_; (try clear hb); (try clear hb2); (try clear hk); (try clear hi)))
                                                  go_ret
                                                  exact ⟨by first | rfl | (simp [errW_none, errW_some] <;> rfl) | (simp [*, errW_none, errW_some] <;> rfl), by repeat (first | (with_reducible first | exact HB.out | apply below_alloc | apply pw_below_drewN | apply below_drew1) | exact HB.out)⟩
                                                · rw [if_neg c66] at H
                                                  have c66b0 : (t259 == t261) = false := beq_eq_false_iff_ne.mpr c66
                                                  have c66b1 : (t259 != t261) = true := bne_iff_ne.mpr c66
                                                  obtain rfl := Option.some.inj H
                                                  go_wp2_with (first | ((with_reducible refine gate_callee (f := 36) rfl ?_); refine goesL_ (some 150) rfl rfl Try.func36 (by kernel_rfl) rfl #[.int .i64 a4] rfl (by (try simp only [List.map_toArray, List.map_cons, List.map_nil]); first | done | rfl | (simp only [List.length_drop, List.length_take]; rfl)) ?_; (with_reducible refine (term_Num.calls kj57 a4 t258 t259 _ A63.out).mono ?_); rintro e w71 ⟨rfl, hb⟩; refine ⟨_, rfl, ?_⟩; have n0_ := Aside0.mk (below_step (by repeat (first | (with_reducible first | exact HB.out | apply below_alloc | apply pw_below_drewN | apply below_drew1) | exact HB.out)) hb); clear HB; have HB := n0_; clear n0_; (try clear hb); (try clear hb2); (try clear hk); (try clear hi)) | ((with_reducible refine gate_callee (f := 37) rfl ?_); refine goesL_ (some 155) rfl rfl Try.func37 (by kernel_rfl) rfl #[.int .i64 a4] rfl (by (try simp only [List.map_toArray, List.map_cons, List.map_nil]); first | done | rfl | (simp only [List.length_drop, List.length_take]; rfl)) ?_; (with_reducible refine (chirographref06_Num.calls kj57 a4 t260 t261 _ A64.out).mono ?_); rintro e w72 ⟨rfl, hb⟩; refine ⟨_, rfl, ?_⟩; have n0_ := Aside0.mk (below_step (by repeat (first | (with_reducible first | exact HB.out | apply below_alloc | apply pw_below_drewN | apply below_drew1) | exact HB.out)) hb); clear HB; have HB := n0_; clear n0_; (try clear hb); (try clear hb2); (try clear hk); (try clear hi)))
                                                  go_ret
                                                  exact ⟨by first | rfl | (simp [errW_none, errW_some] <;> rfl) | (simp [*, errW_none, errW_some] <;> rfl), by repeat (first | (with_reducible first | exact HB.out | apply below_alloc | apply pw_below_drewN | apply below_drew1) | exact HB.out)⟩
                                              · rw [if_neg c65] at H
                                                have c65b0 : (t258.toList == t260.toList) = false := beq_eq_false_iff_ne.mpr c65
                                                have c65b1 : (t258.toList != t260.toList) = true := bne_iff_ne.mpr c65
                                                obtain rfl := Option.some.inj H
                                                go_wp2_with (first | ((with_reducible refine gate_callee (f := 36) rfl ?_); refine goesL_ (some 150) rfl rfl Try.func36 (by kernel_rfl) rfl #[.int .i64 a4] rfl (by (try simp only [List.map_toArray, List.map_cons, List.map_nil]); first | done | rfl | (simp only [List.length_drop, List.length_take]; rfl)) ?_; (with_reducible refine (term_Num.calls kj57 a4 t258 t259 _ A63.out).mono ?_); rintro e w73 ⟨rfl, hb⟩; refine ⟨_, rfl, ?_⟩; have n0_ := Aside0.mk (below_step (by repeat (first | (with_reducible first | exact HB.out | apply below_alloc | apply pw_below_drewN | apply below_drew1) | exact HB.out)) hb); clear HB; have HB := n0_; clear n0_; (try clear hb); (try clear hb2); (try clear hk); (try clear hi)) | ((with_reducible refine gate_callee (f := 37) rfl ?_); refine goesL_ (some 155) rfl rfl Try.func37 (by kernel_rfl) rfl #[.int .i64 a4] rfl (by (try simp only [List.map_toArray, List.map_cons, List.map_nil]); first | done | rfl | (simp only [List.length_drop, List.length_take]; rfl)) ?_; (with_reducible refine (chirographref06_Num.calls kj57 a4 t260 t261 _ A64.out).mono ?_); rintro e w74 ⟨rfl, hb⟩; refine ⟨_, rfl, ?_⟩; have n0_ := Aside0.mk (below_step (by repeat (first | (with_reducible first | exact HB.out | apply below_alloc | apply pw_below_drewN | apply below_drew1) | exact HB.out)) hb); clear HB; have HB := n0_; clear n0_; (try clear hb); (try clear hb2); (try clear hk); (try clear hi)))
                                                go_ret
                                                exact ⟨by first | rfl | (simp [errW_none, errW_some] <;> rfl) | (simp [*, errW_none, errW_some] <;> rfl), by repeat (first | (with_reducible first | exact HB.out | apply below_alloc | apply pw_below_drewN | apply below_drew1) | exact HB.out)⟩
        · rw [if_neg c16] at H
          exact absurd H (by simp)

end Go.Proofs.Ytpajocjepahobaa.G
