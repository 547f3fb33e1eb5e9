-- written by wip/gen.py, a program of this session, by way of the kit's print.py; Lean checks it
import Derived.Test.YtpajocjepahobaaG0
import Derived.Test.YtpajocjepahobaaG4
import Derived.Test.YtpajocjepahobaaG5
import Derived.Test.YtpajocjepahobaaG7
import Derived.Test.YtpajocjepahobaaG8
import Derived.Test.YtpajocjepahobaaG9
import Derived.Test.YtpajocjepahobaaParts
namespace Go.Proofs.Ytpajocjepahobaa.G
open Go.RowKit Go.Proofs.YtpajocjepahobaaW.PrintWords Go.Proofs.YtpajocjepahobaaW.PrintLast Go.Proofs.YtpajocjepahobaaW.PrintMore
attribute [local go_sem] max2_int min2_int max_two min_two max_three min_three max_four min_four   -- for this text's walks alone
set_option linter.unusedVariables false
set_option linter.unusedSimpArgs false

/-! ### chirographlaw06_TermOpens: function 7 -/
mutual
def chirographlaw06_TermOpens.j0 : Nat → ByteArray → Option (Bool)
  | 0, _ => none
  | k + 1, x0 => (term_Parts.f x0).bind fun bt310 => ((term_Text.f k x0).bind fun bt314 => ((term_Kind.f k x0).bind fun t316 => (if bt310.2 = true then (if t316 = 1 then (if (bt310.1.length : Int) = 0 then (chirographlaw06_TermOpens.j1 k x0 bt310.1 bt314.1 bt314.2 t316 (⟨#[]⟩ : ByteArray) 3 bt314.2) else (chirographlaw06_TermOpens.j1 k x0 bt310.1 bt314.1 bt314.2 t316 (⟨#[]⟩ : ByteArray) 3 false)) else (chirographlaw06_TermOpens.j1 k x0 bt310.1 bt314.1 bt314.2 t316 (⟨#[]⟩ : ByteArray) 3 false)) else (if t316 = 0 then (if bt314.2 = true then (some false) else ((chirographlaw06_alive.f).bind fun t317 => (some t317))) else (some false)))))
def chirographlaw06_TermOpens.j1 : Nat → ByteArray → List ByteArray → ByteArray → Bool → Int → ByteArray → Int → Bool → Option (Bool)
  | 0, _, _, _, _, _, _, _, _ => none
  | k + 1, x0, x9, x11, x12, x13, x14, x15, x72 => if x72 = true then ((term_Data.f x11).bind fun bt318 => (if bt318.2 = 0 then (if bt318.1.toList = x0.toList then ((chirographlaw06_alive.f).bind fun t320 => (some t320)) else (some false)) else (some false))) else (if x13 = 2 then (if (x9.length : Int) = 0 then (chirographlaw06_TermOpens.j2 k x0 x9 x11 x12 x13 x14 x15 x12) else (chirographlaw06_TermOpens.j2 k x0 x9 x11 x12 x13 x14 x15 false)) else (chirographlaw06_TermOpens.j2 k x0 x9 x11 x12 x13 x14 x15 false))
def chirographlaw06_TermOpens.j2 : Nat → ByteArray → List ByteArray → ByteArray → Bool → Int → ByteArray → Int → Bool → Option (Bool)
  | 0, _, _, _, _, _, _, _, _ => none
  | k + 1, x0, x9, x11, x12, x13, x14, x15, x88 => if x88 = true then ((term_Atom.f x11).bind fun bt321 => (if bt321.2 = 0 then (if bt321.1.toList = x0.toList then ((chirographlaw06_alive.f).bind fun t323 => (some t323)) else (some false)) else (some false))) else (if x13 = 3 then (chirographlaw06_TermOpens.j3 k x0 x9 x12 x13 x14 x15 (!x12)) else (chirographlaw06_TermOpens.j3 k x0 x9 x12 x13 x14 x15 false))
def chirographlaw06_TermOpens.j3 : Nat → ByteArray → List ByteArray → Bool → Int → ByteArray → Int → Bool → Option (Bool)
  | 0, _, _, _, _, _, _, _ => none
  | k + 1, x0, x9, x12, x13, x14, x15, x104 => if x104 = true then ((term_Row.f x9).bind fun bt324 => (if bt324.2 = 0 then (if bt324.1.toList = x0.toList then ((chirographlaw06_alive.f).bind fun t326 => (some t326)) else (some false)) else (some false))) else (if x13 = 4 then (if (x9.length : Int) = 1 then (chirographlaw06_TermOpens.j4 k x0 x9 x12 x13 x14 x15 (!x12)) else (chirographlaw06_TermOpens.j4 k x0 x9 x12 x13 x14 x15 false)) else (chirographlaw06_TermOpens.j4 k x0 x9 x12 x13 x14 x15 false))
def chirographlaw06_TermOpens.j4 : Nat → ByteArray → List ByteArray → Bool → Int → ByteArray → Int → Bool → Option (Bool)
  | 0, _, _, _, _, _, _, _ => none
  | k + 1, x0, x9, x12, x13, x14, x15, x116 => if x116 = true then (if 0 < (x9.length : Int) then ((term_Hash.f (rdOf ByteArray.empty x9 0)).bind fun bt328 => (if bt328.2 = 0 then (if bt328.1.toList = x0.toList then ((chirographlaw06_alive.f).bind fun t330 => (some t330)) else (some false)) else (some false))) else (none)) else (if x13 = 5 then (if (x9.length : Int) = 2 then (chirographlaw06_TermOpens.j5 k x0 x9 x12 x13 x14 x15 (!x12)) else (chirographlaw06_TermOpens.j5 k x0 x9 x12 x13 x14 x15 false)) else (chirographlaw06_TermOpens.j5 k x0 x9 x12 x13 x14 x15 false))
def chirographlaw06_TermOpens.j5 : Nat → ByteArray → List ByteArray → Bool → Int → ByteArray → Int → Bool → Option (Bool)
  | 0, _, _, _, _, _, _, _ => none
  | k + 1, x0, x9, x12, x13, x14, x15, x135 => if x135 = true then (if 0 < (x9.length : Int) then (if 1 < (x9.length : Int) then ((term_Mac.f (rdOf ByteArray.empty x9 0) (rdOf ByteArray.empty x9 1)).bind fun bt333 => (if bt333.2 = 0 then (if bt333.1.toList = x0.toList then ((chirographlaw06_alive.f).bind fun t335 => (some t335)) else (some false)) else (some false))) else (none)) else (none)) else (if x13 = 6 then (if (x9.length : Int) = 3 then (chirographlaw06_TermOpens.j6 k x0 x9 x14 x15 (!x12)) else (chirographlaw06_TermOpens.j6 k x0 x9 x14 x15 false)) else (chirographlaw06_TermOpens.j6 k x0 x9 x14 x15 false))
def chirographlaw06_TermOpens.j6 : Nat → ByteArray → List ByteArray → ByteArray → Int → Bool → Option (Bool)
  | 0, _, _, _, _, _ => none
  | k + 1, x0, x9, x14, x15, x157 => if x157 = true then (if 0 < (x9.length : Int) then (if 1 < (x9.length : Int) then (if 2 < (x9.length : Int) then ((term_Seal.f (rdOf ByteArray.empty x9 0) (rdOf ByteArray.empty x9 1) (rdOf ByteArray.empty x9 2)).bind fun bt339 => (if bt339.2 = 0 then (if bt339.1.toList = x0.toList then ((chirographlaw06_alive.f).bind fun t341 => (some t341)) else (some false)) else (some false))) else (none)) else (none)) else (none)) else (if x15 = 0 then (if x14.toList = x0.toList then ((chirographlaw06_alive.f).bind fun t342 => (some t342)) else (some false)) else (some false))
end
def chirographlaw06_TermOpens.f (k : Nat) (a0 : ByteArray) (l1 : List ByteArray) : Option (Bool) := (chirographlaw06_Long.f k l1).bind fun t299 => (if t299 = true then ((chirographlaw06_alive.f).bind fun t300 => (some t300)) else ((term_Row.f l1).bind fun bt301 => (if bt301.2 = 0 then ((term_Parts.f bt301.1).bind fun bt303 => (if bt303.2 = true then ((chirographref06_Same.f k bt303.1 l1).bind fun t307 => (if t307 = true then ((term_Kind.f k bt301.1).bind fun t308 => (if t308 = 3 then ((term_Check.f bt301.1).bind fun t309 => (if t309 = 0 then (chirographlaw06_TermOpens.j0 k a0) else (some false))) else (some false))) else (some false))) else (some false))) else (chirographlaw06_TermOpens.j0 k a0))))
theorem chirographlaw06_TermOpens.mono_l : ∀ k, (∀ y0, LeO (chirographlaw06_TermOpens.j0 k y0) (chirographlaw06_TermOpens.j0 (k + 1) y0)) ∧ (∀ y0 y1 y2 y3 y4 y5 y6 y7, LeO (chirographlaw06_TermOpens.j1 k y0 y1 y2 y3 y4 y5 y6 y7) (chirographlaw06_TermOpens.j1 (k + 1) y0 y1 y2 y3 y4 y5 y6 y7)) ∧ (∀ y0 y1 y2 y3 y4 y5 y6 y7, LeO (chirographlaw06_TermOpens.j2 k y0 y1 y2 y3 y4 y5 y6 y7) (chirographlaw06_TermOpens.j2 (k + 1) y0 y1 y2 y3 y4 y5 y6 y7)) ∧ (∀ y0 y1 y2 y3 y4 y5 y6, LeO (chirographlaw06_TermOpens.j3 k y0 y1 y2 y3 y4 y5 y6) (chirographlaw06_TermOpens.j3 (k + 1) y0 y1 y2 y3 y4 y5 y6)) ∧ (∀ y0 y1 y2 y3 y4 y5 y6, LeO (chirographlaw06_TermOpens.j4 k y0 y1 y2 y3 y4 y5 y6) (chirographlaw06_TermOpens.j4 (k + 1) y0 y1 y2 y3 y4 y5 y6)) ∧ (∀ y0 y1 y2 y3 y4 y5 y6, LeO (chirographlaw06_TermOpens.j5 k y0 y1 y2 y3 y4 y5 y6) (chirographlaw06_TermOpens.j5 (k + 1) y0 y1 y2 y3 y4 y5 y6)) ∧ (∀ y0 y1 y2 y3 y4, LeO (chirographlaw06_TermOpens.j6 k y0 y1 y2 y3 y4) (chirographlaw06_TermOpens.j6 (k + 1) y0 y1 y2 y3 y4))
  | 0 => ⟨fun _ r h => by simp [chirographlaw06_TermOpens.j0] at h, fun _ _ _ _ _ _ _ _ r h => by simp [chirographlaw06_TermOpens.j1] at h, fun _ _ _ _ _ _ _ _ r h => by simp [chirographlaw06_TermOpens.j2] at h, fun _ _ _ _ _ _ _ r h => by simp [chirographlaw06_TermOpens.j3] at h, fun _ _ _ _ _ _ _ r h => by simp [chirographlaw06_TermOpens.j4] at h, fun _ _ _ _ _ _ _ r h => by simp [chirographlaw06_TermOpens.j5] at h, fun _ _ _ _ _ r h => by simp [chirographlaw06_TermOpens.j6] at h⟩
  | k + 1 => by
    obtain ⟨ih0, ih1, ih2, ih3, ih4, ih5, ih6⟩ := chirographlaw06_TermOpens.mono_l k
    refine ⟨?_, ?_, ?_, ?_, ?_, ?_, ?_⟩
    · intro y0
      unfold chirographlaw06_TermOpens.j0
      repeat' first
      | (with_reducible exact ih0 _)
      | (with_reducible exact ih1 _ _ _ _ _ _ _ _)
      | (with_reducible exact ih2 _ _ _ _ _ _ _ _)
      | (with_reducible exact ih3 _ _ _ _ _ _ _)
      | (with_reducible exact ih4 _ _ _ _ _ _ _)
      | (with_reducible exact ih5 _ _ _ _ _ _ _)
      | (with_reducible exact ih6 _ _ _ _ _)
      | (with_reducible exact chirographlaw06_Long.mono _ _)
      | (with_reducible exact chirographref06_Same.mono _ _ _)
      | (with_reducible exact term_Kind.mono _ _)
      | (with_reducible exact term_Text.mono _ _)
      | (with_reducible exact LeO.refl _)
      | (with_reducible exact LeO.none _)
      | (with_reducible refine LeO.ite ?_ ?_)
      | (with_reducible refine LeO.bind ?_ (fun _ => ?_))
      | exact ih0 _
      | exact ih1 _ _ _ _ _ _ _ _
      | exact ih2 _ _ _ _ _ _ _ _
      | exact ih3 _ _ _ _ _ _ _
      | exact ih4 _ _ _ _ _ _ _
      | exact ih5 _ _ _ _ _ _ _
      | exact ih6 _ _ _ _ _
      | exact chirographlaw06_Long.mono _ _
      | exact chirographref06_Same.mono _ _ _
      | exact term_Kind.mono _ _
      | exact term_Text.mono _ _
      | exact LeO.none _
      | refine LeO.ite ?_ ?_
      | refine LeO.bind ?_ (fun _ => ?_)
    · intro y0 y1 y2 y3 y4 y5 y6 y7
      unfold chirographlaw06_TermOpens.j1
      repeat' first
      | (with_reducible exact ih0 _)
      | (with_reducible exact ih1 _ _ _ _ _ _ _ _)
      | (with_reducible exact ih2 _ _ _ _ _ _ _ _)
      | (with_reducible exact ih3 _ _ _ _ _ _ _)
      | (with_reducible exact ih4 _ _ _ _ _ _ _)
      | (with_reducible exact ih5 _ _ _ _ _ _ _)
      | (with_reducible exact ih6 _ _ _ _ _)
      | (with_reducible exact chirographlaw06_Long.mono _ _)
      | (with_reducible exact chirographref06_Same.mono _ _ _)
      | (with_reducible exact term_Kind.mono _ _)
      | (with_reducible exact term_Text.mono _ _)
      | (with_reducible exact LeO.refl _)
      | (with_reducible exact LeO.none _)
      | (with_reducible refine LeO.ite ?_ ?_)
      | (with_reducible refine LeO.bind ?_ (fun _ => ?_))
      | exact ih0 _
      | exact ih1 _ _ _ _ _ _ _ _
      | exact ih2 _ _ _ _ _ _ _ _
      | exact ih3 _ _ _ _ _ _ _
      | exact ih4 _ _ _ _ _ _ _
      | exact ih5 _ _ _ _ _ _ _
      | exact ih6 _ _ _ _ _
      | exact chirographlaw06_Long.mono _ _
      | exact chirographref06_Same.mono _ _ _
      | exact term_Kind.mono _ _
      | exact term_Text.mono _ _
      | exact LeO.none _
      | refine LeO.ite ?_ ?_
      | refine LeO.bind ?_ (fun _ => ?_)
    · intro y0 y1 y2 y3 y4 y5 y6 y7
      unfold chirographlaw06_TermOpens.j2
      repeat' first
      | (with_reducible exact ih0 _)
      | (with_reducible exact ih1 _ _ _ _ _ _ _ _)
      | (with_reducible exact ih2 _ _ _ _ _ _ _ _)
      | (with_reducible exact ih3 _ _ _ _ _ _ _)
      | (with_reducible exact ih4 _ _ _ _ _ _ _)
      | (with_reducible exact ih5 _ _ _ _ _ _ _)
      | (with_reducible exact ih6 _ _ _ _ _)
      | (with_reducible exact chirographlaw06_Long.mono _ _)
      | (with_reducible exact chirographref06_Same.mono _ _ _)
      | (with_reducible exact term_Kind.mono _ _)
      | (with_reducible exact term_Text.mono _ _)
      | (with_reducible exact LeO.refl _)
      | (with_reducible exact LeO.none _)
      | (with_reducible refine LeO.ite ?_ ?_)
      | (with_reducible refine LeO.bind ?_ (fun _ => ?_))
      | exact ih0 _
      | exact ih1 _ _ _ _ _ _ _ _
      | exact ih2 _ _ _ _ _ _ _ _
      | exact ih3 _ _ _ _ _ _ _
      | exact ih4 _ _ _ _ _ _ _
      | exact ih5 _ _ _ _ _ _ _
      | exact ih6 _ _ _ _ _
      | exact chirographlaw06_Long.mono _ _
      | exact chirographref06_Same.mono _ _ _
      | exact term_Kind.mono _ _
      | exact term_Text.mono _ _
      | exact LeO.none _
      | refine LeO.ite ?_ ?_
      | refine LeO.bind ?_ (fun _ => ?_)
    · intro y0 y1 y2 y3 y4 y5 y6
      unfold chirographlaw06_TermOpens.j3
      repeat' first
      | (with_reducible exact ih0 _)
      | (with_reducible exact ih1 _ _ _ _ _ _ _ _)
      | (with_reducible exact ih2 _ _ _ _ _ _ _ _)
      | (with_reducible exact ih3 _ _ _ _ _ _ _)
      | (with_reducible exact ih4 _ _ _ _ _ _ _)
      | (with_reducible exact ih5 _ _ _ _ _ _ _)
      | (with_reducible exact ih6 _ _ _ _ _)
      | (with_reducible exact chirographlaw06_Long.mono _ _)
      | (with_reducible exact chirographref06_Same.mono _ _ _)
      | (with_reducible exact term_Kind.mono _ _)
      | (with_reducible exact term_Text.mono _ _)
      | (with_reducible exact LeO.refl _)
      | (with_reducible exact LeO.none _)
      | (with_reducible refine LeO.ite ?_ ?_)
      | (with_reducible refine LeO.bind ?_ (fun _ => ?_))
      | exact ih0 _
      | exact ih1 _ _ _ _ _ _ _ _
      | exact ih2 _ _ _ _ _ _ _ _
      | exact ih3 _ _ _ _ _ _ _
      | exact ih4 _ _ _ _ _ _ _
      | exact ih5 _ _ _ _ _ _ _
      | exact ih6 _ _ _ _ _
      | exact chirographlaw06_Long.mono _ _
      | exact chirographref06_Same.mono _ _ _
      | exact term_Kind.mono _ _
      | exact term_Text.mono _ _
      | exact LeO.none _
      | refine LeO.ite ?_ ?_
      | refine LeO.bind ?_ (fun _ => ?_)
    · intro y0 y1 y2 y3 y4 y5 y6
      unfold chirographlaw06_TermOpens.j4
      repeat' first
      | (with_reducible exact ih0 _)
      | (with_reducible exact ih1 _ _ _ _ _ _ _ _)
      | (with_reducible exact ih2 _ _ _ _ _ _ _ _)
      | (with_reducible exact ih3 _ _ _ _ _ _ _)
      | (with_reducible exact ih4 _ _ _ _ _ _ _)
      | (with_reducible exact ih5 _ _ _ _ _ _ _)
      | (with_reducible exact ih6 _ _ _ _ _)
      | (with_reducible exact chirographlaw06_Long.mono _ _)
      | (with_reducible exact chirographref06_Same.mono _ _ _)
      | (with_reducible exact term_Kind.mono _ _)
      | (with_reducible exact term_Text.mono _ _)
      | (with_reducible exact LeO.refl _)
      | (with_reducible exact LeO.none _)
      | (with_reducible refine LeO.ite ?_ ?_)
      | (with_reducible refine LeO.bind ?_ (fun _ => ?_))
      | exact ih0 _
      | exact ih1 _ _ _ _ _ _ _ _
      | exact ih2 _ _ _ _ _ _ _ _
      | exact ih3 _ _ _ _ _ _ _
      | exact ih4 _ _ _ _ _ _ _
      | exact ih5 _ _ _ _ _ _ _
      | exact ih6 _ _ _ _ _
      | exact chirographlaw06_Long.mono _ _
      | exact chirographref06_Same.mono _ _ _
      | exact term_Kind.mono _ _
      | exact term_Text.mono _ _
      | exact LeO.none _
      | refine LeO.ite ?_ ?_
      | refine LeO.bind ?_ (fun _ => ?_)
    · intro y0 y1 y2 y3 y4 y5 y6
      unfold chirographlaw06_TermOpens.j5
      repeat' first
      | (with_reducible exact ih0 _)
      | (with_reducible exact ih1 _ _ _ _ _ _ _ _)
      | (with_reducible exact ih2 _ _ _ _ _ _ _ _)
      | (with_reducible exact ih3 _ _ _ _ _ _ _)
      | (with_reducible exact ih4 _ _ _ _ _ _ _)
      | (with_reducible exact ih5 _ _ _ _ _ _ _)
      | (with_reducible exact ih6 _ _ _ _ _)
      | (with_reducible exact chirographlaw06_Long.mono _ _)
      | (with_reducible exact chirographref06_Same.mono _ _ _)
      | (with_reducible exact term_Kind.mono _ _)
      | (with_reducible exact term_Text.mono _ _)
      | (with_reducible exact LeO.refl _)
      | (with_reducible exact LeO.none _)
      | (with_reducible refine LeO.ite ?_ ?_)
      | (with_reducible refine LeO.bind ?_ (fun _ => ?_))
      | exact ih0 _
      | exact ih1 _ _ _ _ _ _ _ _
      | exact ih2 _ _ _ _ _ _ _ _
      | exact ih3 _ _ _ _ _ _ _
      | exact ih4 _ _ _ _ _ _ _
      | exact ih5 _ _ _ _ _ _ _
      | exact ih6 _ _ _ _ _
      | exact chirographlaw06_Long.mono _ _
      | exact chirographref06_Same.mono _ _ _
      | exact term_Kind.mono _ _
      | exact term_Text.mono _ _
      | exact LeO.none _
      | refine LeO.ite ?_ ?_
      | refine LeO.bind ?_ (fun _ => ?_)
    · intro y0 y1 y2 y3 y4
      unfold chirographlaw06_TermOpens.j6
      repeat' first
      | (with_reducible exact ih0 _)
      | (with_reducible exact ih1 _ _ _ _ _ _ _ _)
      | (with_reducible exact ih2 _ _ _ _ _ _ _ _)
      | (with_reducible exact ih3 _ _ _ _ _ _ _)
      | (with_reducible exact ih4 _ _ _ _ _ _ _)
      | (with_reducible exact ih5 _ _ _ _ _ _ _)
      | (with_reducible exact ih6 _ _ _ _ _)
      | (with_reducible exact chirographlaw06_Long.mono _ _)
      | (with_reducible exact chirographref06_Same.mono _ _ _)
      | (with_reducible exact term_Kind.mono _ _)
      | (with_reducible exact term_Text.mono _ _)
      | (with_reducible exact LeO.refl _)
      | (with_reducible exact LeO.none _)
      | (with_reducible refine LeO.ite ?_ ?_)
      | (with_reducible refine LeO.bind ?_ (fun _ => ?_))
      | exact ih0 _
      | exact ih1 _ _ _ _ _ _ _ _
      | exact ih2 _ _ _ _ _ _ _ _
      | exact ih3 _ _ _ _ _ _ _
      | exact ih4 _ _ _ _ _ _ _
      | exact ih5 _ _ _ _ _ _ _
      | exact ih6 _ _ _ _ _
      | exact chirographlaw06_Long.mono _ _
      | exact chirographref06_Same.mono _ _ _
      | exact term_Kind.mono _ _
      | exact term_Text.mono _ _
      | exact LeO.none _
      | refine LeO.ite ?_ ?_
      | refine LeO.bind ?_ (fun _ => ?_)
theorem chirographlaw06_TermOpens.mono : ∀ a0 a1 k, LeO (chirographlaw06_TermOpens.f k a0 a1) (chirographlaw06_TermOpens.f (k + 1) a0 a1) := by
  intro a0 a1 k
  obtain ⟨ih0, ih1, ih2, ih3, ih4, ih5, ih6⟩ := chirographlaw06_TermOpens.mono_l k
  unfold chirographlaw06_TermOpens.f
  repeat' first
      | (with_reducible exact ih0 _)
      | (with_reducible exact ih1 _ _ _ _ _ _ _ _)
      | (with_reducible exact ih2 _ _ _ _ _ _ _ _)
      | (with_reducible exact ih3 _ _ _ _ _ _ _)
      | (with_reducible exact ih4 _ _ _ _ _ _ _)
      | (with_reducible exact ih5 _ _ _ _ _ _ _)
      | (with_reducible exact ih6 _ _ _ _ _)
      | (with_reducible exact chirographlaw06_Long.mono _ _)
      | (with_reducible exact chirographref06_Same.mono _ _ _)
      | (with_reducible exact term_Kind.mono _ _)
      | (with_reducible exact term_Text.mono _ _)
      | (with_reducible exact LeO.refl _)
      | (with_reducible exact LeO.none _)
      | (with_reducible refine LeO.ite ?_ ?_)
      | (with_reducible refine LeO.bind ?_ (fun _ => ?_))
      | exact ih0 _
      | exact ih1 _ _ _ _ _ _ _ _
      | exact ih2 _ _ _ _ _ _ _ _
      | exact ih3 _ _ _ _ _ _ _
      | exact ih4 _ _ _ _ _ _ _
      | exact ih5 _ _ _ _ _ _ _
      | exact ih6 _ _ _ _ _
      | exact chirographlaw06_Long.mono _ _
      | exact chirographref06_Same.mono _ _ _
      | exact term_Kind.mono _ _
      | exact term_Text.mono _ _
      | exact LeO.none _
      | refine LeO.ite ?_ ?_
      | refine LeO.bind ?_ (fun _ => ?_)
def chirographlaw06_TermOpens.T23 : Bool × List (List Nat × List Nat) := (true, [([], []), ([0], [0]), ([1], [1]), ([], []), ([3], [3]), ([4], [4]), ([2, 5], [2, 5]), ([6], [6]), ([7], [7]), ([7], [7]), ([8, 6, 0, 1, 2, 3, 4, 5, 6, 7, 8], [8]), ([9, 10, 0, 1, 2, 3, 4, 5, 6, 7, 8, 9, 10], [9])])
def chirographlaw06_TermOpens.B23 : List Nat := [0, 1, 3, 0, 8, 24, 63, 127, 255, 255, 511, 2047]
theorem chirographlaw06_TermOpens.tab23 : rtab .any (opsOf Try.f7 23) = chirographlaw06_TermOpens.T23 := by kernel_rfl
theorem chirographlaw06_TermOpens.bits23 : waitsOk chirographlaw06_TermOpens.T23.2 chirographlaw06_TermOpens.B23 = true := by kernel_rfl
def chirographlaw06_TermOpens.T25 : Bool × List (List Nat × List Nat) := (true, [([], []), ([0], [0]), ([1], [1]), ([], []), ([3], [3]), ([4], [4]), ([], []), ([6], [6]), ([7], [7]), ([2, 5, 8], [2, 5, 8]), ([9], [9]), ([10], [10]), ([10], [10]), ([11, 9, 0, 1, 2, 3, 4, 5, 6, 7, 8, 9, 10, 11], [11]), ([12, 13, 0, 1, 2, 3, 4, 5, 6, 7, 8, 9, 10, 11, 12, 13], [12])])
def chirographlaw06_TermOpens.B25 : List Nat := [0, 1, 3, 0, 8, 24, 0, 64, 192, 511, 1023, 2047, 2047, 4095, 16383]
theorem chirographlaw06_TermOpens.tab25 : rtab .any (opsOf Try.f7 25) = chirographlaw06_TermOpens.T25 := by kernel_rfl
theorem chirographlaw06_TermOpens.bits25 : waitsOk chirographlaw06_TermOpens.T25.2 chirographlaw06_TermOpens.B25 = true := by kernel_rfl
set_option maxHeartbeats 8000000 in
set_option maxRecDepth 100000 in
theorem chirographlaw06_TermOpens.calls (k : Nat) (a0 : ByteArray) (A1 : Option Addr) (c1 : Nat) (l1 : List ByteArray) (r : Bool) (w : World) (hr1 : Kd.C Kd.string w A1 l1.length l1) (hc1 : l1.length ≤ c1) (h : chirographlaw06_TermOpens.f k a0 l1 = some r) :
    Calls Try.prog 7 #[.string a0, .slice A1 l1.length c1] w fun e w' => e = .returned (.bool r) ∧ Below w.heap.size w w' := by
  have HR1 := Aside0.mk hr1
  have HC1 := Aside0.mk hc1
  clear hr1 hc1
  have HB := Aside0.mk (Below.refl w.heap.size w)
  have H : ((chirographlaw06_Long.f k l1).bind fun t299 => (if t299 = true then ((chirographlaw06_alive.f).bind fun t300 => (some t300)) else ((term_Row.f l1).bind fun bt301 => (if bt301.2 = 0 then ((term_Parts.f bt301.1).bind fun bt303 => (if bt303.2 = true then ((chirographref06_Same.f k bt303.1 l1).bind fun t307 => (if t307 = true then ((term_Kind.f k bt301.1).bind fun t308 => (if t308 = 3 then ((term_Check.f bt301.1).bind fun t309 => (if t309 = 0 then (chirographlaw06_TermOpens.j0 k a0) else (some false))) else (some false))) else (some false))) else (some false))) else (chirographlaw06_TermOpens.j0 k a0))))) = some r := h
  clear h
  replace H := Option.bind_eq_some_iff.mp H
  obtain ⟨t299, A30, H⟩ := H
  replace H : (if t299 = true then ((chirographlaw06_alive.f).bind fun t300 => (some t300)) else ((term_Row.f l1).bind fun bt301 => (if bt301.2 = 0 then ((term_Parts.f bt301.1).bind fun bt303 => (if bt303.2 = true then ((chirographref06_Same.f k bt303.1 l1).bind fun t307 => (if t307 = true then ((term_Kind.f k bt301.1).bind fun t308 => (if t308 = 3 then ((term_Check.f bt301.1).bind fun t309 => (if t309 = 0 then (chirographlaw06_TermOpens.j0 k a0) else (some false))) else (some false))) else (some false))) else (some false))) else (chirographlaw06_TermOpens.j0 k a0)))) = some r := H
  have A3 := Aside0.mk A30
  clear A30
  by_cases c4 : t299 = true
  · as_aux_lemma =>
      subst c4
      have H1 : ((chirographlaw06_alive.f).bind fun t300 => (some t300)) = some r := by rw [if_pos rfl] at H; exact H
      clear H
      have H := H1
      clear H1
      replace H := Option.bind_eq_some_iff.mp H
      obtain ⟨t300, A50, H⟩ := H
      replace H : (some t300) = some r := H
      have A5 := Aside0.mk A50
      clear A50
      obtain rfl := Option.some.inj H
      go_enter Try.func7, Try.ntmps7
      go_wp2_with (first | ((with_reducible refine gate_callee (f := 21) rfl ?_); refine goesL_ (some 17) rfl rfl Try.func21 (by kernel_rfl) rfl #[.slice A1 l1.length c1] rfl (by (try simp only [List.map_toArray, List.map_cons, List.map_nil]); first | done | rfl | (simp only [List.length_drop, List.length_take]; rfl)) ?_; (with_reducible refine (chirographlaw06_Long.calls k _ _ l1 true _ ?side1 ?side2 A3.out).mono ?_); (case side1 => repeat (first | exact HR1.out | (with_reducible refine Kd.C_alloc ?_ _) | (with_reducible refine Kd.C_drewN ?_ _) | (with_reducible refine Kd.C_drew ?_))); (case side2 => exact HC1.out); rintro e w' ⟨rfl, ⟨nd, rfl⟩⟩; refine ⟨_, rfl, ?_⟩) | ((with_reducible refine gate_callee (f := 22) rfl ?_); refine goesL_ (some 18) rfl rfl Try.func22 (by kernel_rfl) rfl #[] rfl (by (try simp only [List.map_toArray, List.map_cons, List.map_nil]); first | done | rfl | (simp only [List.length_drop, List.length_take]; rfl)) ?_; (with_reducible refine (chirographlaw06_alive.calls  t300 _ A5.out).mono ?_); rintro e w6 ⟨rfl, hb⟩; refine ⟨_, rfl, ?_⟩; have n0_ := Aside0.mk (below_step (by repeat (first | (with_reducible first | exact HB.out | apply below_alloc | apply pw_below_drewN | apply below_drew1) | exact HB.out)) hb); clear HB; have HB := n0_; clear n0_; (try clear hb); (try clear hb2); (try clear hk); (try clear hi)))
      go_ret
      exact ⟨by first | rfl | (simp [errW_none, errW_some] <;> rfl) | (simp [*, errW_none, errW_some] <;> rfl) | (exact absurd (show ((3 : Int) == 0) = true by assumption) (by decide)), by repeat (first | (with_reducible first | exact HB.out | apply below_alloc | apply pw_below_drewN | apply below_drew1) | exact HB.out)⟩
  · replace c4 := Bool.eq_false_iff.mpr c4
    subst c4
    have H1 : ((term_Row.f l1).bind fun bt301 => (if bt301.2 = 0 then ((term_Parts.f bt301.1).bind fun bt303 => (if bt303.2 = true then ((chirographref06_Same.f k bt303.1 l1).bind fun t307 => (if t307 = true then ((term_Kind.f k bt301.1).bind fun t308 => (if t308 = 3 then ((term_Check.f bt301.1).bind fun t309 => (if t309 = 0 then (chirographlaw06_TermOpens.j0 k a0) else (some false))) else (some false))) else (some false))) else (some false))) else (chirographlaw06_TermOpens.j0 k a0))) = some r := by rw [if_neg (show ¬ (false = true) by decide)] at H; exact H
    clear H
    have H := H1
    clear H1
    replace H := Option.bind_eq_some_iff.mp H
    obtain ⟨⟨t301, t302⟩, A70, H⟩ := H
    replace H : (if t302 = 0 then ((term_Parts.f t301).bind fun bt303 => (if bt303.2 = true then ((chirographref06_Same.f k bt303.1 l1).bind fun t307 => (if t307 = true then ((term_Kind.f k t301).bind fun t308 => (if t308 = 3 then ((term_Check.f t301).bind fun t309 => (if t309 = 0 then (chirographlaw06_TermOpens.j0 k a0) else (some false))) else (some false))) else (some false))) else (some false))) else (chirographlaw06_TermOpens.j0 k a0)) = some r := H
    have A7 := Aside0.mk A70
    clear A70
    have HC8 := Aside0.mk H
    clear H
    go_enter Try.func7, Try.ntmps7
    go_upto_if 25 with (first | ((with_reducible refine gate_callee (f := 21) rfl ?_); refine goesL_ (some 17) rfl rfl Try.func21 (by kernel_rfl) rfl #[.slice A1 l1.length c1] rfl (by (try simp only [List.map_toArray, List.map_cons, List.map_nil]); first | done | rfl | (simp only [List.length_drop, List.length_take]; rfl)) ?_; (with_reducible refine (chirographlaw06_Long.calls k _ _ l1 false _ ?side1 ?side2 A3.out).mono ?_); (case side1 => repeat (first | exact HR1.out | (with_reducible refine Kd.C_alloc ?_ _) | (with_reducible refine Kd.C_drewN ?_ _) | (with_reducible refine Kd.C_drew ?_))); (case side2 => exact HC1.out); rintro e w' ⟨rfl, ⟨nd, rfl⟩⟩; refine ⟨_, rfl, ?_⟩) | ((with_reducible refine gate_callee (f := 23) rfl ?_); refine goesL_ (some 21) rfl rfl Try.func23 (by kernel_rfl) rfl #[.slice A1 l1.length c1] rfl (by (try simp only [List.map_toArray, List.map_cons, List.map_nil]); first | done | rfl | (simp only [List.length_drop, List.length_take]; rfl)) ?_; (with_reducible refine (term_Row.calls _ _ l1 t301 t302 _ ?side1 ?side2 A7.out).mono ?_); (case side1 => repeat (first | exact HR1.out | (with_reducible refine Kd.C_alloc ?_ _) | (with_reducible refine Kd.C_drewN ?_ _) | (with_reducible refine Kd.C_drew ?_))); (case side2 => exact HC1.out); rintro e w9 ⟨rfl, hb⟩; refine ⟨_, rfl, ?_⟩; have n0_ := Aside0.mk (below_step (by repeat (first | (with_reducible first | exact HB.out | apply below_alloc | apply pw_below_drewN | apply below_drew1) | exact HB.out)) hb); clear HB; have HB := n0_; clear n0_; (try clear hb); (try clear hb2); (try clear hk); (try clear hi)))
    (try simp only [Act.put, List.setIfInBounds_toArray, List.set_cons_zero, List.set_cons_succ])
    go_cut [] (fun wc => ∃ (kq : Nat), Aside0 (chirographlaw06_TermOpens.j0 kq a0 = some r) ∧ Aside0 (kq ≤ k) ∧ Aside0 (Below w.heap.size w wc))
    case first =>
      have H := HC8.out
      clear HC8
      by_cases c10 : t302 = 0
      · rw [if_pos c10] at H
        have c10b0 : (t302 == 0) = true := beq_iff_eq.mpr c10
        have c10b1 : (t302 != 0) = false := bne_eq_false_iff_eq.mpr c10
        clear c10
        (first | rw [c10b0] | (simp only [i64_w, i32_w]; rw [c10b0]) | skip)
        replace H := Option.bind_eq_some_iff.mp H
        obtain ⟨⟨t303, t304⟩, A110, H⟩ := H
        replace H : (if t304 = true then ((chirographref06_Same.f k t303 l1).bind fun t307 => (if t307 = true then ((term_Kind.f k t301).bind fun t308 => (if t308 = 3 then ((term_Check.f t301).bind fun t309 => (if t309 = 0 then (chirographlaw06_TermOpens.j0 k a0) else (some false))) else (some false))) else (some false))) else (some false)) = some r := H
        have A11 := Aside0.mk A110
        clear A110
        by_cases c12 : t304 = true
        · subst c12
          have H1 : ((chirographref06_Same.f k t303 l1).bind fun t307 => (if t307 = true then ((term_Kind.f k t301).bind fun t308 => (if t308 = 3 then ((term_Check.f t301).bind fun t309 => (if t309 = 0 then (chirographlaw06_TermOpens.j0 k a0) else (some false))) else (some false))) else (some false))) = some r := by rw [if_pos rfl] at H; exact H
          clear H
          have H := H1
          clear H1
          replace H := Option.bind_eq_some_iff.mp H
          obtain ⟨t307, A130, H⟩ := H
          replace H : (if t307 = true then ((term_Kind.f k t301).bind fun t308 => (if t308 = 3 then ((term_Check.f t301).bind fun t309 => (if t309 = 0 then (chirographlaw06_TermOpens.j0 k a0) else (some false))) else (some false))) else (some false)) = some r := H
          have A13 := Aside0.mk A130
          clear A130
          by_cases c14 : t307 = true
          · as_aux_lemma =>
              subst c14
              have H1 : ((term_Kind.f k t301).bind fun t308 => (if t308 = 3 then ((term_Check.f t301).bind fun t309 => (if t309 = 0 then (chirographlaw06_TermOpens.j0 k a0) else (some false))) else (some false))) = some r := by rw [if_pos rfl] at H; exact H
              clear H
              have H := H1
              clear H1
              replace H := Option.bind_eq_some_iff.mp H
              obtain ⟨t308, A150, H⟩ := H
              replace H : (if t308 = 3 then ((term_Check.f t301).bind fun t309 => (if t309 = 0 then (chirographlaw06_TermOpens.j0 k a0) else (some false))) else (some false)) = some r := H
              have A15 := Aside0.mk A150
              clear A150
              by_cases c16 : t308 = 3
              · rw [if_pos c16] at H
                have c16b0 : (t308 == 3) = true := beq_iff_eq.mpr c16
                have c16b1 : (t308 != 3) = false := bne_eq_false_iff_eq.mpr c16
                clear c16
                replace H := Option.bind_eq_some_iff.mp H
                obtain ⟨t309, A170, H⟩ := H
                replace H : (if t309 = 0 then (chirographlaw06_TermOpens.j0 k a0) else (some false)) = some r := H
                have A17 := Aside0.mk A170
                clear A170
                by_cases c18 : t309 = 0
                · rw [if_pos c18] at H
                  have c18b0 : (t309 == 0) = true := beq_iff_eq.mpr c18
                  have c18b1 : (t309 != 0) = false := bne_eq_false_iff_eq.mpr c18
                  clear c18
                  have H' := Aside0.mk H
                  clear H
                  go_wp2_with (first | ((with_reducible refine gate_callee (f := 49) rfl ?_); refine goesL_ (some 28) rfl rfl Try.func49 (by kernel_rfl) rfl #[.string t301] rfl (by (try simp only [List.map_toArray, List.map_cons, List.map_nil]); first | done | rfl | (simp only [List.length_drop, List.length_take]; rfl)) ?_; (with_reducible refine (term_Parts.calls t301 t303 true _ A11.out).mono ?_); rintro e w19 ⟨v305, rfl, ho0, hb⟩; refine ⟨_, rfl, ?_⟩; have n0_ := Aside0.mk (Kd.R_lower ho0 (below_size (by repeat (first | (with_reducible first | exact HB.out | apply below_alloc | apply pw_below_drewN | apply below_drew1) | exact HB.out)))); have n1_ := Aside0.mk (below_step (by repeat (first | (with_reducible first | exact HB.out | apply below_alloc | apply pw_below_drewN | apply below_drew1) | exact HB.out)) hb); clear HB; have HO306 := n0_; have HB := n1_; clear n0_ n1_; (try clear hb); (try clear hb2); (try clear hk); (try clear hi); (try clear ho0); obtain ⟨Ao20, co20, eo20⟩ := Kd.R_slice HO306.out; subst eo20) | (go_at_call 25; (with_reducible refine (chirographref06_Same.calls k _ _ t303 _ _ l1 true _ ?side1 ?side2 ?side3 ?side4 A13.out).mono ?_); (case side1 => repeat (first | exact (Kd.R_reads' HO306.out).2.2 | (with_reducible refine Kd.C_alloc ?_ _) | (with_reducible refine Kd.C_drewN ?_ _) | (with_reducible refine Kd.C_drew ?_))); (case side2 => exact (Kd.R_reads' HO306.out).2.1); (case side3 => repeat (first | exact (Kd.C_below HR1.out HB.out) | (with_reducible refine Kd.C_alloc ?_ _) | (with_reducible refine Kd.C_drewN ?_ _) | (with_reducible refine Kd.C_drew ?_))); (case side4 => exact HC1.out); rintro e w' ⟨rfl, ⟨nd, rfl⟩⟩) | (go_at_call 50; (with_reducible refine (term_Kind.calls k t301 t308 _ A15.out).mono ?_); rintro e w21 ⟨rfl, hb⟩; have n0_ := Aside0.mk (Kd.R_below (by (with_reducible repeat (first | apply Kd.R_alloc | apply Kd.R_drewN | apply Kd.R_drew)); exact HO306.out) hb); have n1_ := Aside0.mk (below_step (by repeat (first | (with_reducible first | exact HB.out | apply below_alloc | apply pw_below_drewN | apply below_drew1) | exact HB.out)) hb); clear HO306; clear HB; have HO306 := n0_; have HB := n1_; clear n0_ n1_; (try clear hb); (try clear hb2); (try clear hk); (try clear hi)) | (go_at_call 45; (with_reducible refine (term_Check.calls t301 t309 _ A17.out).mono ?_); rintro e w22 ⟨rfl, hb⟩; have n0_ := Aside0.mk (Kd.R_below (by (with_reducible repeat (first | apply Kd.R_alloc | apply Kd.R_drewN | apply Kd.R_drew)); exact HO306.out) hb); have n1_ := Aside0.mk (below_step (by repeat (first | (with_reducible first | exact HB.out | apply below_alloc | apply pw_below_drewN | apply below_drew1) | exact HB.out)) hb); clear HO306; clear HB; have HO306 := n0_; have HB := n1_; clear n0_ n1_; (try clear hb); (try clear hb2); (try clear hk); (try clear hi)))
                  go_meet
                  case rel => exact ⟨_, H', ⟨by first | omega | exact Nat.le_refl _⟩, ⟨by repeat (first | (with_reducible first | exact HB.out | apply below_alloc | apply pw_below_drewN | apply below_drew1) | exact HB.out)⟩⟩
                · rw [if_neg c18] at H
                  have c18b0 : (t309 == 0) = false := beq_eq_false_iff_ne.mpr c18
                  have c18b1 : (t309 != 0) = true := bne_iff_ne.mpr c18
                  obtain rfl := Option.some.inj H
                  go_wp2_with (first | ((with_reducible refine gate_callee (f := 49) rfl ?_); refine goesL_ (some 28) rfl rfl Try.func49 (by kernel_rfl) rfl #[.string t301] rfl (by (try simp only [List.map_toArray, List.map_cons, List.map_nil]); first | done | rfl | (simp only [List.length_drop, List.length_take]; rfl)) ?_; (with_reducible refine (term_Parts.calls t301 t303 true _ A11.out).mono ?_); rintro e w23 ⟨v305, rfl, ho0, hb⟩; refine ⟨_, rfl, ?_⟩; have n0_ := Aside0.mk (Kd.R_lower ho0 (below_size (by repeat (first | (with_reducible first | exact HB.out | apply below_alloc | apply pw_below_drewN | apply below_drew1) | exact HB.out)))); have n1_ := Aside0.mk (below_step (by repeat (first | (with_reducible first | exact HB.out | apply below_alloc | apply pw_below_drewN | apply below_drew1) | exact HB.out)) hb); clear HB; have HO306 := n0_; have HB := n1_; clear n0_ n1_; (try clear hb); (try clear hb2); (try clear hk); (try clear hi); (try clear ho0); obtain ⟨Ao24, co24, eo24⟩ := Kd.R_slice HO306.out; subst eo24) | (go_at_call 25; (with_reducible refine (chirographref06_Same.calls k _ _ t303 _ _ l1 true _ ?side1 ?side2 ?side3 ?side4 A13.out).mono ?_); (case side1 => repeat (first | exact (Kd.R_reads' HO306.out).2.2 | (with_reducible refine Kd.C_alloc ?_ _) | (with_reducible refine Kd.C_drewN ?_ _) | (with_reducible refine Kd.C_drew ?_))); (case side2 => exact (Kd.R_reads' HO306.out).2.1); (case side3 => repeat (first | exact (Kd.C_below HR1.out HB.out) | (with_reducible refine Kd.C_alloc ?_ _) | (with_reducible refine Kd.C_drewN ?_ _) | (with_reducible refine Kd.C_drew ?_))); (case side4 => exact HC1.out); rintro e w' ⟨rfl, ⟨nd, rfl⟩⟩) | (go_at_call 50; (with_reducible refine (term_Kind.calls k t301 t308 _ A15.out).mono ?_); rintro e w25 ⟨rfl, hb⟩; have n0_ := Aside0.mk (Kd.R_below (by (with_reducible repeat (first | apply Kd.R_alloc | apply Kd.R_drewN | apply Kd.R_drew)); exact HO306.out) hb); have n1_ := Aside0.mk (below_step (by repeat (first | (with_reducible first | exact HB.out | apply below_alloc | apply pw_below_drewN | apply below_drew1) | exact HB.out)) hb); clear HO306; clear HB; have HO306 := n0_; have HB := n1_; clear n0_ n1_; (try clear hb); (try clear hb2); (try clear hk); (try clear hi)) | (go_at_call 45; (with_reducible refine (term_Check.calls t301 t309 _ A17.out).mono ?_); rintro e w26 ⟨rfl, hb⟩; have n0_ := Aside0.mk (Kd.R_below (by (with_reducible repeat (first | apply Kd.R_alloc | apply Kd.R_drewN | apply Kd.R_drew)); exact HO306.out) hb); have n1_ := Aside0.mk (below_step (by repeat (first | (with_reducible first | exact HB.out | apply below_alloc | apply pw_below_drewN | apply below_drew1) | exact HB.out)) hb); clear HO306; clear HB; have HO306 := n0_; have HB := n1_; clear n0_ n1_; (try clear hb); (try clear hb2); (try clear hk); (try clear hi)))
                  go_ret
                  exact ⟨by first | rfl | (simp [errW_none, errW_some] <;> rfl) | (simp [*, errW_none, errW_some] <;> rfl) | (exact absurd (show ((3 : Int) == 0) = true by assumption) (by decide)), by repeat (first | (with_reducible first | exact HB.out | apply below_alloc | apply pw_below_drewN | apply below_drew1) | exact HB.out)⟩
              · rw [if_neg c16] at H
                have c16b0 : (t308 == 3) = false := beq_eq_false_iff_ne.mpr c16
                have c16b1 : (t308 != 3) = true := bne_iff_ne.mpr c16
                obtain rfl := Option.some.inj H
                go_wp2_with (first | ((with_reducible refine gate_callee (f := 49) rfl ?_); refine goesL_ (some 28) rfl rfl Try.func49 (by kernel_rfl) rfl #[.string t301] rfl (by (try simp only [List.map_toArray, List.map_cons, List.map_nil]); first | done | rfl | (simp only [List.length_drop, List.length_take]; rfl)) ?_; (with_reducible refine (term_Parts.calls t301 t303 true _ A11.out).mono ?_); rintro e w27 ⟨v305, rfl, ho0, hb⟩; refine ⟨_, rfl, ?_⟩; have n0_ := Aside0.mk (Kd.R_lower ho0 (below_size (by repeat (first | (with_reducible first | exact HB.out | apply below_alloc | apply pw_below_drewN | apply below_drew1) | exact HB.out)))); have n1_ := Aside0.mk (below_step (by repeat (first | (with_reducible first | exact HB.out | apply below_alloc | apply pw_below_drewN | apply below_drew1) | exact HB.out)) hb); clear HB; have HO306 := n0_; have HB := n1_; clear n0_ n1_; (try clear hb); (try clear hb2); (try clear hk); (try clear hi); (try clear ho0); obtain ⟨Ao28, co28, eo28⟩ := Kd.R_slice HO306.out; subst eo28) | (go_at_call 25; (with_reducible refine (chirographref06_Same.calls k _ _ t303 _ _ l1 true _ ?side1 ?side2 ?side3 ?side4 A13.out).mono ?_); (case side1 => repeat (first | exact (Kd.R_reads' HO306.out).2.2 | (with_reducible refine Kd.C_alloc ?_ _) | (with_reducible refine Kd.C_drewN ?_ _) | (with_reducible refine Kd.C_drew ?_))); (case side2 => exact (Kd.R_reads' HO306.out).2.1); (case side3 => repeat (first | exact (Kd.C_below HR1.out HB.out) | (with_reducible refine Kd.C_alloc ?_ _) | (with_reducible refine Kd.C_drewN ?_ _) | (with_reducible refine Kd.C_drew ?_))); (case side4 => exact HC1.out); rintro e w' ⟨rfl, ⟨nd, rfl⟩⟩) | (go_at_call 50; (with_reducible refine (term_Kind.calls k t301 t308 _ A15.out).mono ?_); rintro e w29 ⟨rfl, hb⟩; have n0_ := Aside0.mk (Kd.R_below (by (with_reducible repeat (first | apply Kd.R_alloc | apply Kd.R_drewN | apply Kd.R_drew)); exact HO306.out) hb); have n1_ := Aside0.mk (below_step (by repeat (first | (with_reducible first | exact HB.out | apply below_alloc | apply pw_below_drewN | apply below_drew1) | exact HB.out)) hb); clear HO306; clear HB; have HO306 := n0_; have HB := n1_; clear n0_ n1_; (try clear hb); (try clear hb2); (try clear hk); (try clear hi)))
                go_ret
                exact ⟨by first | rfl | (simp [errW_none, errW_some] <;> rfl) | (simp [*, errW_none, errW_some] <;> rfl) | (exact absurd (show ((3 : Int) == 0) = true by assumption) (by decide)), by repeat (first | (with_reducible first | exact HB.out | apply below_alloc | apply pw_below_drewN | apply below_drew1) | exact HB.out)⟩
          · as_aux_lemma =>
              replace c14 := Bool.eq_false_iff.mpr c14
              subst c14
              have H1 : (some false) = some r := by rw [if_neg (show ¬ (false = true) by decide)] at H; exact H
              clear H
              have H := H1
              clear H1
              obtain rfl := Option.some.inj H
              go_wp2_with (first | ((with_reducible refine gate_callee (f := 49) rfl ?_); refine goesL_ (some 28) rfl rfl Try.func49 (by kernel_rfl) rfl #[.string t301] rfl (by (try simp only [List.map_toArray, List.map_cons, List.map_nil]); first | done | rfl | (simp only [List.length_drop, List.length_take]; rfl)) ?_; (with_reducible refine (term_Parts.calls t301 t303 true _ A11.out).mono ?_); rintro e w30 ⟨v305, rfl, ho0, hb⟩; refine ⟨_, rfl, ?_⟩; have n0_ := Aside0.mk (Kd.R_lower ho0 (below_size (by repeat (first | (with_reducible first | exact HB.out | apply below_alloc | apply pw_below_drewN | apply below_drew1) | exact HB.out)))); have n1_ := Aside0.mk (below_step (by repeat (first | (with_reducible first | exact HB.out | apply below_alloc | apply pw_below_drewN | apply below_drew1) | exact HB.out)) hb); clear HB; have HO306 := n0_; have HB := n1_; clear n0_ n1_; (try clear hb); (try clear hb2); (try clear hk); (try clear hi); (try clear ho0); obtain ⟨Ao31, co31, eo31⟩ := Kd.R_slice HO306.out; subst eo31) | (go_at_call 25; (with_reducible refine (chirographref06_Same.calls k _ _ t303 _ _ l1 false _ ?side1 ?side2 ?side3 ?side4 A13.out).mono ?_); (case side1 => repeat (first | exact (Kd.R_reads' HO306.out).2.2 | (with_reducible refine Kd.C_alloc ?_ _) | (with_reducible refine Kd.C_drewN ?_ _) | (with_reducible refine Kd.C_drew ?_))); (case side2 => exact (Kd.R_reads' HO306.out).2.1); (case side3 => repeat (first | exact (Kd.C_below HR1.out HB.out) | (with_reducible refine Kd.C_alloc ?_ _) | (with_reducible refine Kd.C_drewN ?_ _) | (with_reducible refine Kd.C_drew ?_))); (case side4 => exact HC1.out); rintro e w' ⟨rfl, ⟨nd, rfl⟩⟩))
              go_ret
              exact ⟨by first | rfl | (simp [errW_none, errW_some] <;> rfl) | (simp [*, errW_none, errW_some] <;> rfl) | (exact absurd (show ((3 : Int) == 0) = true by assumption) (by decide)), by repeat (first | (with_reducible first | exact HB.out | apply below_alloc | apply pw_below_drewN | apply below_drew1) | exact HB.out)⟩
        · as_aux_lemma =>
            replace c12 := Bool.eq_false_iff.mpr c12
            subst c12
            have H1 : (some false) = some r := by rw [if_neg (show ¬ (false = true) by decide)] at H; exact H
            clear H
            have H := H1
            clear H1
            obtain rfl := Option.some.inj H
            go_wp2_with (first | ((with_reducible refine gate_callee (f := 49) rfl ?_); refine goesL_ (some 28) rfl rfl Try.func49 (by kernel_rfl) rfl #[.string t301] rfl (by (try simp only [List.map_toArray, List.map_cons, List.map_nil]); first | done | rfl | (simp only [List.length_drop, List.length_take]; rfl)) ?_; (with_reducible refine (term_Parts.calls t301 t303 false _ A11.out).mono ?_); rintro e w32 ⟨v305, rfl, ho0, hb⟩; refine ⟨_, rfl, ?_⟩; have n0_ := Aside0.mk (Kd.R_lower ho0 (below_size (by repeat (first | (with_reducible first | exact HB.out | apply below_alloc | apply pw_below_drewN | apply below_drew1) | exact HB.out)))); have n1_ := Aside0.mk (below_step (by repeat (first | (with_reducible first | exact HB.out | apply below_alloc | apply pw_below_drewN | apply below_drew1) | exact HB.out)) hb); clear HB; have HO306 := n0_; have HB := n1_; clear n0_ n1_; (try clear hb); (try clear hb2); (try clear hk); (try clear hi); (try clear ho0)))
            go_ret
            exact ⟨by first | rfl | (simp [errW_none, errW_some] <;> rfl) | (simp [*, errW_none, errW_some] <;> rfl) | (exact absurd (show ((3 : Int) == 0) = true by assumption) (by decide)), by repeat (first | (with_reducible first | exact HB.out | apply below_alloc | apply pw_below_drewN | apply below_drew1) | exact HB.out)⟩
      · as_aux_lemma =>
          rw [if_neg c10] at H
          have c10b0 : (t302 == 0) = false := beq_eq_false_iff_ne.mpr c10
          have c10b1 : (t302 != 0) = true := bne_iff_ne.mpr c10
          (first | rw [c10b0] | (simp only [i64_w, i32_w]; rw [c10b0]) | skip)
          have H' := Aside0.mk H
          clear H
          go_wp2
          go_meet
          case rel => exact ⟨_, H', ⟨by first | omega | exact Nat.le_refl _⟩, ⟨by repeat (first | (with_reducible first | exact HB.out | apply below_alloc | apply pw_below_drewN | apply below_drew1) | exact HB.out)⟩⟩
    case rest =>
      clear HC8
      try clear c1
      try clear c2
      try clear p2
      try clear c4
      try clear c7
      try clear c10
      try clear c10b0
      try clear c10b1
      try clear c12
      try clear c14
      try clear c16
      try clear c16b0
      try clear c16b1
      try clear c18
      try clear c18b0
      try clear c18b1
      try clear c21
      try clear c22
      try clear c23
      obtain ⟨kq, HA, HJ7, HB⟩ := hcut
      cases kq with
      | zero => exact absurd HA.out (by simp [chirographlaw06_TermOpens.j0])
      | succ kj7 =>
        have H := HA.out
        clear HA
        simp only [chirographlaw06_TermOpens.j0] at H
        replace H := Option.bind_eq_some_iff.mp H
        obtain ⟨⟨t310, t311⟩, A330, H⟩ := H
        replace H : ((term_Text.f kj7 a0).bind fun bt314 => ((term_Kind.f kj7 a0).bind fun t316 => (if t311 = true then (if t316 = 1 then (if (t310.length : Int) = 0 then (chirographlaw06_TermOpens.j1 kj7 a0 t310 bt314.1 bt314.2 t316 (⟨#[]⟩ : ByteArray) 3 bt314.2) else (chirographlaw06_TermOpens.j1 kj7 a0 t310 bt314.1 bt314.2 t316 (⟨#[]⟩ : ByteArray) 3 false)) else (chirographlaw06_TermOpens.j1 kj7 a0 t310 bt314.1 bt314.2 t316 (⟨#[]⟩ : ByteArray) 3 false)) else (if t316 = 0 then (if bt314.2 = true then (some false) else ((chirographlaw06_alive.f).bind fun t317 => (some t317))) else (some false))))) = some r := H
        have A33 := Aside0.mk A330
        clear A330
        replace H := Option.bind_eq_some_iff.mp H
        obtain ⟨⟨t314, t315⟩, A340, H⟩ := H
        replace H : ((term_Kind.f kj7 a0).bind fun t316 => (if t311 = true then (if t316 = 1 then (if (t310.length : Int) = 0 then (chirographlaw06_TermOpens.j1 kj7 a0 t310 t314 t315 t316 (⟨#[]⟩ : ByteArray) 3 t315) else (chirographlaw06_TermOpens.j1 kj7 a0 t310 t314 t315 t316 (⟨#[]⟩ : ByteArray) 3 false)) else (chirographlaw06_TermOpens.j1 kj7 a0 t310 t314 t315 t316 (⟨#[]⟩ : ByteArray) 3 false)) else (if t316 = 0 then (if t315 = true then (some false) else ((chirographlaw06_alive.f).bind fun t317 => (some t317))) else (some false)))) = some r := H
        have A34 := Aside0.mk A340
        clear A340
        replace H := Option.bind_eq_some_iff.mp H
        obtain ⟨t316, A350, H⟩ := H
        replace H : (if t311 = true then (if t316 = 1 then (if (t310.length : Int) = 0 then (chirographlaw06_TermOpens.j1 kj7 a0 t310 t314 t315 t316 (⟨#[]⟩ : ByteArray) 3 t315) else (chirographlaw06_TermOpens.j1 kj7 a0 t310 t314 t315 t316 (⟨#[]⟩ : ByteArray) 3 false)) else (chirographlaw06_TermOpens.j1 kj7 a0 t310 t314 t315 t316 (⟨#[]⟩ : ByteArray) 3 false)) else (if t316 = 0 then (if t315 = true then (some false) else ((chirographlaw06_alive.f).bind fun t317 => (some t317))) else (some false))) = some r := H
        have A35 := Aside0.mk A350
        clear A350
        by_cases c36 : t311 = true
        · subst c36
          have H1 : (if t316 = 1 then (if (t310.length : Int) = 0 then (chirographlaw06_TermOpens.j1 kj7 a0 t310 t314 t315 t316 (⟨#[]⟩ : ByteArray) 3 t315) else (chirographlaw06_TermOpens.j1 kj7 a0 t310 t314 t315 t316 (⟨#[]⟩ : ByteArray) 3 false)) else (chirographlaw06_TermOpens.j1 kj7 a0 t310 t314 t315 t316 (⟨#[]⟩ : ByteArray) 3 false)) = some r := by rw [if_pos rfl] at H; exact H
          clear H
          have H := H1
          clear H1
          have HC37 := Aside0.mk H
          clear H
          go_upto_region 14 with (first | ((with_reducible refine gate_callee (f := 49) rfl ?_); refine goesL_ (some 51) rfl rfl Try.func49 (by kernel_rfl) rfl #[.string a0] rfl (by (try simp only [List.map_toArray, List.map_cons, List.map_nil]); first | done | rfl | (simp only [List.length_drop, List.length_take]; rfl)) ?_; (with_reducible refine (term_Parts.calls a0 t310 true _ A33.out).mono ?_); rintro e w38 ⟨v312, rfl, ho0, hb⟩; refine ⟨_, rfl, ?_⟩; have n0_ := Aside0.mk (Kd.R_lower ho0 (below_size (by repeat (first | (with_reducible first | exact HB.out | apply below_alloc | apply pw_below_drewN | apply below_drew1) | exact HB.out)))); have n1_ := Aside0.mk (below_step (by repeat (first | (with_reducible first | exact HB.out | apply below_alloc | apply pw_below_drewN | apply below_drew1) | exact HB.out)) hb); clear HB; have HO313 := n0_; have HB := n1_; clear n0_ n1_; (try clear hb); (try clear hb2); (try clear hk); (try clear hi); (try clear ho0)) | ((with_reducible refine gate_callee (f := 51) rfl ?_); refine goesL_ (some 56) rfl rfl Try.func51 (by kernel_rfl) rfl #[.string a0] rfl (by (try simp only [List.map_toArray, List.map_cons, List.map_nil]); first | done | rfl | (simp only [List.length_drop, List.length_take]; rfl)) ?_; (with_reducible refine (term_Text.calls kj7 a0 t314 t315 _ A34.out).mono ?_); rintro e w39 ⟨rfl, hb⟩; refine ⟨_, rfl, ?_⟩; have n0_ := Aside0.mk (Kd.R_below (by (with_reducible repeat (first | apply Kd.R_alloc | apply Kd.R_drewN | apply Kd.R_drew)); exact HO313.out) hb); have n1_ := Aside0.mk (below_step (by repeat (first | (with_reducible first | exact HB.out | apply below_alloc | apply pw_below_drewN | apply below_drew1) | exact HB.out)) hb); clear HO313; clear HB; have HO313 := n0_; have HB := n1_; clear n0_ n1_; (try clear hb); (try clear hb2); (try clear hk); (try clear hi)) | ((with_reducible refine gate_callee (f := 50) rfl ?_); refine goesL_ (some 60) rfl rfl Try.func50 (by kernel_rfl) rfl #[.string a0] rfl (by (try simp only [List.map_toArray, List.map_cons, List.map_nil]); first | done | rfl | (simp only [List.length_drop, List.length_take]; rfl)) ?_; (with_reducible refine (term_Kind.calls kj7 a0 t316 _ A35.out).mono ?_); rintro e w40 ⟨rfl, hb⟩; refine ⟨_, rfl, ?_⟩; have n0_ := Aside0.mk (Kd.R_below (by (with_reducible repeat (first | apply Kd.R_alloc | apply Kd.R_drewN | apply Kd.R_drew)); exact HO313.out) hb); have n1_ := Aside0.mk (below_step (by repeat (first | (with_reducible first | exact HB.out | apply below_alloc | apply pw_below_drewN | apply below_drew1) | exact HB.out)) hb); clear HO313; clear HB; have HO313 := n0_; have HB := n1_; clear n0_ n1_; (try clear hb); (try clear hb2); (try clear hk); (try clear hi)))
          (try simp only [Act.put, List.setIfInBounds_toArray, List.set_cons_zero, List.set_cons_succ])
          go_cut [72] (fun v72 wc => ∃ (kq : Nat) (x72_36 : Bool), v72 = .bool x72_36 ∧ Aside0 (chirographlaw06_TermOpens.j1 kq a0 t310 t314 t315 t316 (⟨#[]⟩ : ByteArray) 3 x72_36 = some r) ∧ Aside0 (kq ≤ kj7) ∧ Aside0 (Kd.R Kd.string 9 wc w.heap.size (fun _ => True) v312 t310) ∧ Aside0 (Below w.heap.size w wc))
          case first =>
            have H := HC37.out
            clear HC37
            by_cases c41 : t316 = 1
            · as_aux_lemma =>
                rw [if_pos c41] at H
                have c41b0 : (t316 == 1) = true := beq_iff_eq.mpr c41
                have c41b1 : (t316 != 1) = false := bne_eq_false_iff_eq.mpr c41
                clear c41
                (first | rw [c41b0] | (simp only [i64_w, i32_w]; rw [c41b0]) | skip)
                by_cases c42 : (t310.length : Int) = 0
                · rw [if_pos c42] at H
                  have c42b0 : ((t310.length : Int) == 0) = true := beq_iff_eq.mpr c42
                  have c42b1 : ((t310.length : Int) != 0) = false := bne_eq_false_iff_eq.mpr c42
                  clear c42
                  have H' := Aside0.mk H
                  clear H
                  obtain ⟨Ao43, co43, eo43⟩ := Kd.R_slice HO313.out
                  subst eo43
                  go_wp2
                  go_meet
                  case rel => exact ⟨_, (t315), (by first | rfl | (simp; done) | (simp [*]; done) | (simp [bne_nil_, beq_nil_]; done) | (simp [bne_nil_, beq_nil_, *]; done)), H', ⟨by have := HJ7.out; first | omega | exact Nat.le_refl _⟩, ⟨by (with_reducible repeat (first | apply Kd.R_alloc | apply Kd.R_drewN | apply Kd.R_drew)); exact HO313.out⟩, ⟨by repeat (first | (with_reducible first | exact HB.out | apply below_alloc | apply pw_below_drewN | apply below_drew1) | exact HB.out)⟩⟩
                · rw [if_neg c42] at H
                  have c42b0 : ((t310.length : Int) == 0) = false := beq_eq_false_iff_ne.mpr c42
                  have c42b1 : ((t310.length : Int) != 0) = true := bne_iff_ne.mpr c42
                  have c42b2 : ¬ (t310 = []) := fun h_ => c42 (by rw [h_]; rfl)
                  have H' := Aside0.mk H
                  clear H
                  obtain ⟨Ao44, co44, eo44⟩ := Kd.R_slice HO313.out
                  subst eo44
                  go_wp2
                  go_meet
                  case rel => exact ⟨_, (false), (by first | rfl | (simp; done) | (simp [*]; done) | (simp [bne_nil_, beq_nil_]; done) | (simp [bne_nil_, beq_nil_, *]; done)), H', ⟨by have := HJ7.out; first | omega | exact Nat.le_refl _⟩, ⟨by (with_reducible repeat (first | apply Kd.R_alloc | apply Kd.R_drewN | apply Kd.R_drew)); exact HO313.out⟩, ⟨by repeat (first | (with_reducible first | exact HB.out | apply below_alloc | apply pw_below_drewN | apply below_drew1) | exact HB.out)⟩⟩
            · as_aux_lemma =>
                rw [if_neg c41] at H
                have c41b0 : (t316 == 1) = false := beq_eq_false_iff_ne.mpr c41
                have c41b1 : (t316 != 1) = true := bne_iff_ne.mpr c41
                (first | rw [c41b0] | (simp only [i64_w, i32_w]; rw [c41b0]) | skip)
                have H' := Aside0.mk H
                clear H
                go_wp2
                go_meet
                case rel => exact ⟨_, (false), (by first | rfl | (simp; done) | (simp [*]; done) | (simp [bne_nil_, beq_nil_]; done) | (simp [bne_nil_, beq_nil_, *]; done)), H', ⟨by have := HJ7.out; first | omega | exact Nat.le_refl _⟩, ⟨by (with_reducible repeat (first | apply Kd.R_alloc | apply Kd.R_drewN | apply Kd.R_drew)); exact HO313.out⟩, ⟨by repeat (first | (with_reducible first | exact HB.out | apply below_alloc | apply pw_below_drewN | apply below_drew1) | exact HB.out)⟩⟩
          case rest =>
            clear HC37
            try clear c1
            try clear c2
            try clear p2
            try clear c3
            try clear c4
            try clear c5
            try clear c7
            try clear c10
            try clear c10b0
            try clear c10b1
            try clear c12
            try clear c14
            try clear c16
            try clear c16b0
            try clear c16b1
            try clear c18
            try clear c18b0
            try clear c18b1
            try clear c21
            try clear c22
            try clear c23
            try clear c36
            try clear c41
            try clear c41b0
            try clear c41b1
            try clear c42
            try clear c42b0
            try clear c42b1
            try clear c42b2
            try clear p2
            obtain ⟨kq, x72_36, rfl, HA, HJ36, HO_9, HB⟩ := hcut
            cases kq with
            | zero => exact absurd HA.out (by simp [chirographlaw06_TermOpens.j1])
            | succ kj36 =>
              have H := HA.out
              clear HA
              simp only [chirographlaw06_TermOpens.j1] at H
              by_cases c45 : x72_36 = true
              · as_aux_lemma =>
                  subst c45
                  have H1 : ((term_Data.f t314).bind fun bt318 => (if bt318.2 = 0 then (if bt318.1.toList = a0.toList then ((chirographlaw06_alive.f).bind fun t320 => (some t320)) else (some false)) else (some false))) = some r := by rw [if_pos rfl] at H; exact H
                  clear H
                  have H := H1
                  clear H1
                  replace H := Option.bind_eq_some_iff.mp H
                  obtain ⟨⟨t318, t319⟩, A460, H⟩ := H
                  replace H : (if t319 = 0 then (if t318.toList = a0.toList then ((chirographlaw06_alive.f).bind fun t320 => (some t320)) else (some false)) else (some false)) = some r := H
                  have A46 := Aside0.mk A460
                  clear A460
                  by_cases c47 : t319 = 0
                  · rw [if_pos c47] at H
                    have c47b0 : (t319 == 0) = true := beq_iff_eq.mpr c47
                    have c47b1 : (t319 != 0) = false := bne_eq_false_iff_eq.mpr c47
                    clear c47
                    by_cases c48 : t318.toList = a0.toList
                    · rw [if_pos c48] at H
                      have c48b0 : (t318.toList == a0.toList) = true := beq_iff_eq.mpr c48
                      have c48b1 : (t318.toList != a0.toList) = false := bne_eq_false_iff_eq.mpr c48
                      clear c48
                      replace H := Option.bind_eq_some_iff.mp H
                      obtain ⟨t320, A490, H⟩ := H
                      replace H : (some t320) = some r := H
                      have A49 := Aside0.mk A490
                      clear A490
                      obtain rfl := Option.some.inj H
                      go_wp2_with (first | ((with_reducible refine gate_callee (f := 26) rfl ?_); refine goesL_ (some 85) rfl rfl Try.func26 (by kernel_rfl) rfl #[.string t314] rfl (by (try simp only [List.map_toArray, List.map_cons, List.map_nil]); first | done | rfl | (simp only [List.length_drop, List.length_take]; rfl)) ?_; (with_reducible refine (term_Data.calls t314 t318 t319 _ A46.out).mono ?_); rintro e w50 ⟨rfl, hb⟩; refine ⟨_, rfl, ?_⟩; have n0_ := Aside0.mk (Kd.R_below (by (with_reducible repeat (first | apply Kd.R_alloc | apply Kd.R_drewN | apply Kd.R_drew)); exact HO_9.out) hb); have n1_ := Aside0.mk (below_step (by repeat (first | (with_reducible first | exact HB.out | apply below_alloc | apply pw_below_drewN | apply below_drew1) | exact HB.out)) hb); clear HO_9; clear HB; have HO_9 := n0_; have HB := n1_; clear n0_ n1_; (try clear hb); (try clear hb2); (try clear hk); (try clear hi)) | (go_at_call 22; (with_reducible refine (chirographlaw06_alive.calls  t320 _ A49.out).mono ?_); rintro e w51 ⟨rfl, hb⟩; have n0_ := Aside0.mk (Kd.R_below (by (with_reducible repeat (first | apply Kd.R_alloc | apply Kd.R_drewN | apply Kd.R_drew)); exact HO_9.out) hb); have n1_ := Aside0.mk (below_step (by repeat (first | (with_reducible first | exact HB.out | apply below_alloc | apply pw_below_drewN | apply below_drew1) | exact HB.out)) hb); clear HO_9; clear HB; have HO_9 := n0_; have HB := n1_; clear n0_ n1_; (try clear hb); (try clear hb2); (try clear hk); (try clear hi)))
                      go_ret
                      exact ⟨by first | rfl | (simp [errW_none, errW_some] <;> rfl) | (simp [*, errW_none, errW_some] <;> rfl) | (exact absurd (show ((3 : Int) == 0) = true by assumption) (by decide)), by repeat (first | (with_reducible first | exact HB.out | apply below_alloc | apply pw_below_drewN | apply below_drew1) | exact HB.out)⟩
                    · rw [if_neg c48] at H
                      have c48b0 : (t318.toList == a0.toList) = false := beq_eq_false_iff_ne.mpr c48
                      have c48b1 : (t318.toList != a0.toList) = true := bne_iff_ne.mpr c48
                      obtain rfl := Option.some.inj H
                      go_wp2_with (first | ((with_reducible refine gate_callee (f := 26) rfl ?_); refine goesL_ (some 85) rfl rfl Try.func26 (by kernel_rfl) rfl #[.string t314] rfl (by (try simp only [List.map_toArray, List.map_cons, List.map_nil]); first | done | rfl | (simp only [List.length_drop, List.length_take]; rfl)) ?_; (with_reducible refine (term_Data.calls t314 t318 t319 _ A46.out).mono ?_); rintro e w52 ⟨rfl, hb⟩; refine ⟨_, rfl, ?_⟩; have n0_ := Aside0.mk (Kd.R_below (by (with_reducible repeat (first | apply Kd.R_alloc | apply Kd.R_drewN | apply Kd.R_drew)); exact HO_9.out) hb); have n1_ := Aside0.mk (below_step (by repeat (first | (with_reducible first | exact HB.out | apply below_alloc | apply pw_below_drewN | apply below_drew1) | exact HB.out)) hb); clear HO_9; clear HB; have HO_9 := n0_; have HB := n1_; clear n0_ n1_; (try clear hb); (try clear hb2); (try clear hk); (try clear hi)))
                      go_ret
                      exact ⟨by first | rfl | (simp [errW_none, errW_some] <;> rfl) | (simp [*, errW_none, errW_some] <;> rfl) | (exact absurd (show ((3 : Int) == 0) = true by assumption) (by decide)), by repeat (first | (with_reducible first | exact HB.out | apply below_alloc | apply pw_below_drewN | apply below_drew1) | exact HB.out)⟩
                  · rw [if_neg c47] at H
                    have c47b0 : (t319 == 0) = false := beq_eq_false_iff_ne.mpr c47
                    have c47b1 : (t319 != 0) = true := bne_iff_ne.mpr c47
                    obtain rfl := Option.some.inj H
                    go_wp2_with (first | ((with_reducible refine gate_callee (f := 26) rfl ?_); refine goesL_ (some 85) rfl rfl Try.func26 (by kernel_rfl) rfl #[.string t314] rfl (by (try simp only [List.map_toArray, List.map_cons, List.map_nil]); first | done | rfl | (simp only [List.length_drop, List.length_take]; rfl)) ?_; (with_reducible refine (term_Data.calls t314 t318 t319 _ A46.out).mono ?_); rintro e w53 ⟨rfl, hb⟩; refine ⟨_, rfl, ?_⟩; have n0_ := Aside0.mk (Kd.R_below (by (with_reducible repeat (first | apply Kd.R_alloc | apply Kd.R_drewN | apply Kd.R_drew)); exact HO_9.out) hb); have n1_ := Aside0.mk (below_step (by repeat (first | (with_reducible first | exact HB.out | apply below_alloc | apply pw_below_drewN | apply below_drew1) | exact HB.out)) hb); clear HO_9; clear HB; have HO_9 := n0_; have HB := n1_; clear n0_ n1_; (try clear hb); (try clear hb2); (try clear hk); (try clear hi)))
                    go_ret
                    exact ⟨by first | rfl | (simp [errW_none, errW_some] <;> rfl) | (simp [*, errW_none, errW_some] <;> rfl) | (exact absurd (show ((3 : Int) == 0) = true by assumption) (by decide)), by repeat (first | (with_reducible first | exact HB.out | apply below_alloc | apply pw_below_drewN | apply below_drew1) | exact HB.out)⟩
              · replace c45 := Bool.eq_false_iff.mpr c45
                subst c45
                have H1 : (if t316 = 2 then (if (t310.length : Int) = 0 then (chirographlaw06_TermOpens.j2 kj36 a0 t310 t314 t315 t316 (⟨#[]⟩ : ByteArray) 3 t315) else (chirographlaw06_TermOpens.j2 kj36 a0 t310 t314 t315 t316 (⟨#[]⟩ : ByteArray) 3 false)) else (chirographlaw06_TermOpens.j2 kj36 a0 t310 t314 t315 t316 (⟨#[]⟩ : ByteArray) 3 false)) = some r := by rw [if_neg (show ¬ (false = true) by decide)] at H; exact H
                clear H
                have H := H1
                clear H1
                have HC54 := Aside0.mk H
                clear H
                go_upto_region 16 with (fail)
                go_cut [88] (fun v88 wc => ∃ (kq : Nat) (x88_53 : Bool), v88 = .bool x88_53 ∧ Aside0 (chirographlaw06_TermOpens.j2 kq a0 t310 t314 t315 t316 (⟨#[]⟩ : ByteArray) 3 x88_53 = some r) ∧ Aside0 (kq ≤ kj36) ∧ Aside0 (Kd.R Kd.string 9 wc w.heap.size (fun _ => True) v312 t310) ∧ Aside0 (Below w.heap.size w wc))
                case first =>
                  have H := HC54.out
                  clear HC54
                  by_cases c55 : t316 = 2
                  · as_aux_lemma =>
                      rw [if_pos c55] at H
                      have c55b0 : (t316 == 2) = true := beq_iff_eq.mpr c55
                      have c55b1 : (t316 != 2) = false := bne_eq_false_iff_eq.mpr c55
                      clear c55
                      (first | rw [c55b0] | (simp only [i64_w, i32_w]; rw [c55b0]) | skip)
                      by_cases c56 : (t310.length : Int) = 0
                      · rw [if_pos c56] at H
                        have c56b0 : ((t310.length : Int) == 0) = true := beq_iff_eq.mpr c56
                        have c56b1 : ((t310.length : Int) != 0) = false := bne_eq_false_iff_eq.mpr c56
                        clear c56
                        have H' := Aside0.mk H
                        clear H
                        obtain ⟨Ao57, co57, eo57⟩ := Kd.R_slice HO_9.out
                        subst eo57
                        go_wp2
                        go_meet
                        case rel => exact ⟨_, (t315), (by first | rfl | (simp; done) | (simp [*]; done) | (simp [bne_nil_, beq_nil_]; done) | (simp [bne_nil_, beq_nil_, *]; done)), H', ⟨by have := HJ7.out; have := HJ36.out; first | omega | exact Nat.le_refl _⟩, ⟨by (with_reducible repeat (first | apply Kd.R_alloc | apply Kd.R_drewN | apply Kd.R_drew)); exact HO_9.out⟩, ⟨by repeat (first | (with_reducible first | exact HB.out | apply below_alloc | apply pw_below_drewN | apply below_drew1) | exact HB.out)⟩⟩
                      · rw [if_neg c56] at H
                        have c56b0 : ((t310.length : Int) == 0) = false := beq_eq_false_iff_ne.mpr c56
                        have c56b1 : ((t310.length : Int) != 0) = true := bne_iff_ne.mpr c56
                        have c56b2 : ¬ (t310 = []) := fun h_ => c56 (by rw [h_]; rfl)
                        have H' := Aside0.mk H
                        clear H
                        obtain ⟨Ao58, co58, eo58⟩ := Kd.R_slice HO_9.out
                        subst eo58
                        go_wp2
                        go_meet
                        case rel => exact ⟨_, (false), (by first | rfl | (simp; done) | (simp [*]; done) | (simp [bne_nil_, beq_nil_]; done) | (simp [bne_nil_, beq_nil_, *]; done)), H', ⟨by have := HJ7.out; have := HJ36.out; first | omega | exact Nat.le_refl _⟩, ⟨by (with_reducible repeat (first | apply Kd.R_alloc | apply Kd.R_drewN | apply Kd.R_drew)); exact HO_9.out⟩, ⟨by repeat (first | (with_reducible first | exact HB.out | apply below_alloc | apply pw_below_drewN | apply below_drew1) | exact HB.out)⟩⟩
                  · as_aux_lemma =>
                      rw [if_neg c55] at H
                      have c55b0 : (t316 == 2) = false := beq_eq_false_iff_ne.mpr c55
                      have c55b1 : (t316 != 2) = true := bne_iff_ne.mpr c55
                      (first | rw [c55b0] | (simp only [i64_w, i32_w]; rw [c55b0]) | skip)
                      have H' := Aside0.mk H
                      clear H
                      go_wp2
                      go_meet
                      case rel => exact ⟨_, (false), (by first | rfl | (simp; done) | (simp [*]; done) | (simp [bne_nil_, beq_nil_]; done) | (simp [bne_nil_, beq_nil_, *]; done)), H', ⟨by have := HJ7.out; have := HJ36.out; first | omega | exact Nat.le_refl _⟩, ⟨by (with_reducible repeat (first | apply Kd.R_alloc | apply Kd.R_drewN | apply Kd.R_drew)); exact HO_9.out⟩, ⟨by repeat (first | (with_reducible first | exact HB.out | apply below_alloc | apply pw_below_drewN | apply below_drew1) | exact HB.out)⟩⟩
                case rest =>
                  clear HC54
                  try clear c1
                  try clear c2
                  try clear p2
                  try clear c3
                  try clear c4
                  try clear c5
                  try clear c7
                  try clear c10
                  try clear c10b0
                  try clear c10b1
                  try clear c12
                  try clear c14
                  try clear c16
                  try clear c16b0
                  try clear c16b1
                  try clear c18
                  try clear c18b0
                  try clear c18b1
                  try clear c21
                  try clear c22
                  try clear c23
                  try clear c26
                  try clear c36
                  try clear c41
                  try clear c41b0
                  try clear c41b1
                  try clear c42
                  try clear c42b0
                  try clear c42b1
                  try clear c42b2
                  try clear c45
                  try clear c47
                  try clear c47b0
                  try clear c47b1
                  try clear c48
                  try clear c48b0
                  try clear c48b1
                  try clear c49
                  try clear c50
                  try clear c51
                  try clear c55
                  try clear c55b0
                  try clear c55b1
                  try clear c56
                  try clear c56b0
                  try clear c56b1
                  try clear c56b2
                  try clear p2
                  obtain ⟨kq, x88_53, rfl, HA, HJ53, HO_9, HB⟩ := hcut
                  cases kq with
                  | zero => exact absurd HA.out (by simp [chirographlaw06_TermOpens.j2])
                  | succ kj53 =>
                    have H := HA.out
                    clear HA
                    simp only [chirographlaw06_TermOpens.j2] at H
                    by_cases c59 : x88_53 = true
                    · as_aux_lemma =>
                        subst c59
                        have H1 : ((term_Atom.f t314).bind fun bt321 => (if bt321.2 = 0 then (if bt321.1.toList = a0.toList then ((chirographlaw06_alive.f).bind fun t323 => (some t323)) else (some false)) else (some false))) = some r := by rw [if_pos rfl] at H; exact H
                        clear H
                        have H := H1
                        clear H1
                        replace H := Option.bind_eq_some_iff.mp H
                        obtain ⟨⟨t321, t322⟩, A600, H⟩ := H
                        replace H : (if t322 = 0 then (if t321.toList = a0.toList then ((chirographlaw06_alive.f).bind fun t323 => (some t323)) else (some false)) else (some false)) = some r := H
                        have A60 := Aside0.mk A600
                        clear A600
                        by_cases c61 : t322 = 0
                        · rw [if_pos c61] at H
                          have c61b0 : (t322 == 0) = true := beq_iff_eq.mpr c61
                          have c61b1 : (t322 != 0) = false := bne_eq_false_iff_eq.mpr c61
                          clear c61
                          by_cases c62 : t321.toList = a0.toList
                          · rw [if_pos c62] at H
                            have c62b0 : (t321.toList == a0.toList) = true := beq_iff_eq.mpr c62
                            have c62b1 : (t321.toList != a0.toList) = false := bne_eq_false_iff_eq.mpr c62
                            clear c62
                            replace H := Option.bind_eq_some_iff.mp H
                            obtain ⟨t323, A630, H⟩ := H
                            replace H : (some t323) = some r := H
                            have A63 := Aside0.mk A630
                            clear A630
                            obtain rfl := Option.some.inj H
                            go_wp2_with (first | ((with_reducible refine gate_callee (f := 28) rfl ?_); refine goesL_ (some 101) rfl rfl Try.func28 (by kernel_rfl) rfl #[.string t314] rfl (by (try simp only [List.map_toArray, List.map_cons, List.map_nil]); first | done | rfl | (simp only [List.length_drop, List.length_take]; rfl)) ?_; (with_reducible refine (term_Atom.calls t314 t321 t322 _ A60.out).mono ?_); rintro e w64 ⟨rfl, hb⟩; refine ⟨_, rfl, ?_⟩; have n0_ := Aside0.mk (Kd.R_below (by (with_reducible repeat (first | apply Kd.R_alloc | apply Kd.R_drewN | apply Kd.R_drew)); exact HO_9.out) hb); have n1_ := Aside0.mk (below_step (by repeat (first | (with_reducible first | exact HB.out | apply below_alloc | apply pw_below_drewN | apply below_drew1) | exact HB.out)) hb); clear HO_9; clear HB; have HO_9 := n0_; have HB := n1_; clear n0_ n1_; (try clear hb); (try clear hb2); (try clear hk); (try clear hi)) | (go_at_call 22; (with_reducible refine (chirographlaw06_alive.calls  t323 _ A63.out).mono ?_); rintro e w65 ⟨rfl, hb⟩; have n0_ := Aside0.mk (Kd.R_below (by (with_reducible repeat (first | apply Kd.R_alloc | apply Kd.R_drewN | apply Kd.R_drew)); exact HO_9.out) hb); have n1_ := Aside0.mk (below_step (by repeat (first | (with_reducible first | exact HB.out | apply below_alloc | apply pw_below_drewN | apply below_drew1) | exact HB.out)) hb); clear HO_9; clear HB; have HO_9 := n0_; have HB := n1_; clear n0_ n1_; (try clear hb); (try clear hb2); (try clear hk); (try clear hi)))
                            go_ret
                            exact ⟨by first | rfl | (simp [errW_none, errW_some] <;> rfl) | (simp [*, errW_none, errW_some] <;> rfl) | (exact absurd (show ((3 : Int) == 0) = true by assumption) (by decide)), by repeat (first | (with_reducible first | exact HB.out | apply below_alloc | apply pw_below_drewN | apply below_drew1) | exact HB.out)⟩
                          · rw [if_neg c62] at H
                            have c62b0 : (t321.toList == a0.toList) = false := beq_eq_false_iff_ne.mpr c62
                            have c62b1 : (t321.toList != a0.toList) = true := bne_iff_ne.mpr c62
                            obtain rfl := Option.some.inj H
                            go_wp2_with (first | ((with_reducible refine gate_callee (f := 28) rfl ?_); refine goesL_ (some 101) rfl rfl Try.func28 (by kernel_rfl) rfl #[.string t314] rfl (by (try simp only [List.map_toArray, List.map_cons, List.map_nil]); first | done | rfl | (simp only [List.length_drop, List.length_take]; rfl)) ?_; (with_reducible refine (term_Atom.calls t314 t321 t322 _ A60.out).mono ?_); rintro e w66 ⟨rfl, hb⟩; refine ⟨_, rfl, ?_⟩; have n0_ := Aside0.mk (Kd.R_below (by (with_reducible repeat (first | apply Kd.R_alloc | apply Kd.R_drewN | apply Kd.R_drew)); exact HO_9.out) hb); have n1_ := Aside0.mk (below_step (by repeat (first | (with_reducible first | exact HB.out | apply below_alloc | apply pw_below_drewN | apply below_drew1) | exact HB.out)) hb); clear HO_9; clear HB; have HO_9 := n0_; have HB := n1_; clear n0_ n1_; (try clear hb); (try clear hb2); (try clear hk); (try clear hi)))
                            go_ret
                            exact ⟨by first | rfl | (simp [errW_none, errW_some] <;> rfl) | (simp [*, errW_none, errW_some] <;> rfl) | (exact absurd (show ((3 : Int) == 0) = true by assumption) (by decide)), by repeat (first | (with_reducible first | exact HB.out | apply below_alloc | apply pw_below_drewN | apply below_drew1) | exact HB.out)⟩
                        · rw [if_neg c61] at H
                          have c61b0 : (t322 == 0) = false := beq_eq_false_iff_ne.mpr c61
                          have c61b1 : (t322 != 0) = true := bne_iff_ne.mpr c61
                          obtain rfl := Option.some.inj H
                          go_wp2_with (first | ((with_reducible refine gate_callee (f := 28) rfl ?_); refine goesL_ (some 101) rfl rfl Try.func28 (by kernel_rfl) rfl #[.string t314] rfl (by (try simp only [List.map_toArray, List.map_cons, List.map_nil]); first | done | rfl | (simp only [List.length_drop, List.length_take]; rfl)) ?_; (with_reducible refine (term_Atom.calls t314 t321 t322 _ A60.out).mono ?_); rintro e w67 ⟨rfl, hb⟩; refine ⟨_, rfl, ?_⟩; have n0_ := Aside0.mk (Kd.R_below (by (with_reducible repeat (first | apply Kd.R_alloc | apply Kd.R_drewN | apply Kd.R_drew)); exact HO_9.out) hb); have n1_ := Aside0.mk (below_step (by repeat (first | (with_reducible first | exact HB.out | apply below_alloc | apply pw_below_drewN | apply below_drew1) | exact HB.out)) hb); clear HO_9; clear HB; have HO_9 := n0_; have HB := n1_; clear n0_ n1_; (try clear hb); (try clear hb2); (try clear hk); (try clear hi)))
                          go_ret
                          exact ⟨by first | rfl | (simp [errW_none, errW_some] <;> rfl) | (simp [*, errW_none, errW_some] <;> rfl) | (exact absurd (show ((3 : Int) == 0) = true by assumption) (by decide)), by repeat (first | (with_reducible first | exact HB.out | apply below_alloc | apply pw_below_drewN | apply below_drew1) | exact HB.out)⟩
                    · replace c59 := Bool.eq_false_iff.mpr c59
                      subst c59
                      have H1 : (if t316 = 3 then (chirographlaw06_TermOpens.j3 kj53 a0 t310 t315 t316 (⟨#[]⟩ : ByteArray) 3 (!t315)) else (chirographlaw06_TermOpens.j3 kj53 a0 t310 t315 t316 (⟨#[]⟩ : ByteArray) 3 false)) = some r := by rw [if_neg (show ¬ (false = true) by decide)] at H; exact H
                      clear H
                      have H := H1
                      clear H1
                      have HC68 := Aside0.mk H
                      clear H
                      go_upto_region 18 with (fail)
                      go_cut [104] (fun v104 wc => ∃ (kq : Nat) (x104_67 : Bool), v104 = .bool x104_67 ∧ Aside0 (chirographlaw06_TermOpens.j3 kq a0 t310 t315 t316 (⟨#[]⟩ : ByteArray) 3 x104_67 = some r) ∧ Aside0 (kq ≤ kj53) ∧ Aside0 (Kd.R Kd.string 9 wc w.heap.size (fun _ => True) v312 t310) ∧ Aside0 (Below w.heap.size w wc))
                      case first =>
                        have H := HC68.out
                        clear HC68
                        by_cases c69 : t316 = 3
                        · as_aux_lemma =>
                            rw [if_pos c69] at H
                            have c69b0 : (t316 == 3) = true := beq_iff_eq.mpr c69
                            have c69b1 : (t316 != 3) = false := bne_eq_false_iff_eq.mpr c69
                            clear c69
                            (first | rw [c69b0] | (simp only [i64_w, i32_w]; rw [c69b0]) | skip)
                            have H' := Aside0.mk H
                            clear H
                            go_wp2
                            go_meet
                            case rel => exact ⟨_, (!t315), (by first | rfl | (simp; done) | (simp [*]; done) | (simp [bne_nil_, beq_nil_]; done) | (simp [bne_nil_, beq_nil_, *]; done)), H', ⟨by have := HJ7.out; have := HJ36.out; have := HJ53.out; first | omega | exact Nat.le_refl _⟩, ⟨by (with_reducible repeat (first | apply Kd.R_alloc | apply Kd.R_drewN | apply Kd.R_drew)); exact HO_9.out⟩, ⟨by repeat (first | (with_reducible first | exact HB.out | apply below_alloc | apply pw_below_drewN | apply below_drew1) | exact HB.out)⟩⟩
                        · as_aux_lemma =>
                            rw [if_neg c69] at H
                            have c69b0 : (t316 == 3) = false := beq_eq_false_iff_ne.mpr c69
                            have c69b1 : (t316 != 3) = true := bne_iff_ne.mpr c69
                            (first | rw [c69b0] | (simp only [i64_w, i32_w]; rw [c69b0]) | skip)
                            have H' := Aside0.mk H
                            clear H
                            go_wp2
                            go_meet
                            case rel => exact ⟨_, (false), (by first | rfl | (simp; done) | (simp [*]; done) | (simp [bne_nil_, beq_nil_]; done) | (simp [bne_nil_, beq_nil_, *]; done)), H', ⟨by have := HJ7.out; have := HJ36.out; have := HJ53.out; first | omega | exact Nat.le_refl _⟩, ⟨by (with_reducible repeat (first | apply Kd.R_alloc | apply Kd.R_drewN | apply Kd.R_drew)); exact HO_9.out⟩, ⟨by repeat (first | (with_reducible first | exact HB.out | apply below_alloc | apply pw_below_drewN | apply below_drew1) | exact HB.out)⟩⟩
                      case rest =>
                        clear HC68
                        try clear c1
                        try clear c2
                        try clear p2
                        try clear c3
                        try clear c4
                        try clear c5
                        try clear c6
                        try clear c7
                        try clear c10
                        try clear c10b0
                        try clear c10b1
                        try clear c12
                        try clear c14
                        try clear c16
                        try clear c16b0
                        try clear c16b1
                        try clear c18
                        try clear c18b0
                        try clear c18b1
                        try clear c21
                        try clear c22
                        try clear c23
                        try clear c26
                        try clear c28
                        try clear c36
                        try clear c41
                        try clear c41b0
                        try clear c41b1
                        try clear c42
                        try clear c42b0
                        try clear c42b1
                        try clear c42b2
                        try clear c45
                        try clear c47
                        try clear c47b0
                        try clear c47b1
                        try clear c48
                        try clear c48b0
                        try clear c48b1
                        try clear c49
                        try clear c50
                        try clear c51
                        try clear c55
                        try clear c55b0
                        try clear c55b1
                        try clear c56
                        try clear c56b0
                        try clear c56b1
                        try clear c56b2
                        try clear c59
                        try clear c61
                        try clear c61b0
                        try clear c61b1
                        try clear c62
                        try clear c62b0
                        try clear c62b1
                        try clear c69
                        try clear c69b0
                        try clear c69b1
                        try clear p2
                        obtain ⟨kq, x104_67, rfl, HA, HJ67, HO_9, HB⟩ := hcut
                        cases kq with
                        | zero => exact absurd HA.out (by simp [chirographlaw06_TermOpens.j3])
                        | succ kj67 =>
                          have H := HA.out
                          clear HA
                          simp only [chirographlaw06_TermOpens.j3] at H
                          by_cases c70 : x104_67 = true
                          · as_aux_lemma =>
                              subst c70
                              have H1 : ((term_Row.f t310).bind fun bt324 => (if bt324.2 = 0 then (if bt324.1.toList = a0.toList then ((chirographlaw06_alive.f).bind fun t326 => (some t326)) else (some false)) else (some false))) = some r := by rw [if_pos rfl] at H; exact H
                              clear H
                              have H := H1
                              clear H1
                              replace H := Option.bind_eq_some_iff.mp H
                              obtain ⟨⟨t324, t325⟩, A710, H⟩ := H
                              replace H : (if t325 = 0 then (if t324.toList = a0.toList then ((chirographlaw06_alive.f).bind fun t326 => (some t326)) else (some false)) else (some false)) = some r := H
                              have A71 := Aside0.mk A710
                              clear A710
                              by_cases c72 : t325 = 0
                              · rw [if_pos c72] at H
                                have c72b0 : (t325 == 0) = true := beq_iff_eq.mpr c72
                                have c72b1 : (t325 != 0) = false := bne_eq_false_iff_eq.mpr c72
                                clear c72
                                by_cases c73 : t324.toList = a0.toList
                                · rw [if_pos c73] at H
                                  have c73b0 : (t324.toList == a0.toList) = true := beq_iff_eq.mpr c73
                                  have c73b1 : (t324.toList != a0.toList) = false := bne_eq_false_iff_eq.mpr c73
                                  clear c73
                                  replace H := Option.bind_eq_some_iff.mp H
                                  obtain ⟨t326, A740, H⟩ := H
                                  replace H : (some t326) = some r := H
                                  have A74 := Aside0.mk A740
                                  clear A740
                                  obtain rfl := Option.some.inj H
                                  obtain ⟨Ao75, co75, eo75⟩ := Kd.R_slice HO_9.out
                                  subst eo75
                                  go_wp2_with (first | ((with_reducible refine gate_callee (f := 23) rfl ?_); refine goesL_ (some 113) rfl rfl Try.func23 (by kernel_rfl) rfl #[.slice Ao75 t310.length co75] rfl (by (try simp only [List.map_toArray, List.map_cons, List.map_nil]); first | done | rfl | (simp only [List.length_drop, List.length_take]; rfl)) ?_; (with_reducible refine (term_Row.calls _ _ t310 t324 t325 _ ?side1 ?side2 A71.out).mono ?_); (case side1 => repeat (first | exact (Kd.R_reads' HO_9.out).2.2 | (with_reducible refine Kd.C_alloc ?_ _) | (with_reducible refine Kd.C_drewN ?_ _) | (with_reducible refine Kd.C_drew ?_))); (case side2 => exact (Kd.R_reads' HO_9.out).2.1); rintro e w76 ⟨rfl, hb⟩; refine ⟨_, rfl, ?_⟩; have n0_ := Aside0.mk (Kd.R_below (by (with_reducible repeat (first | apply Kd.R_alloc | apply Kd.R_drewN | apply Kd.R_drew)); exact HO_9.out) hb); have n1_ := Aside0.mk (below_step (by repeat (first | (with_reducible first | exact HB.out | apply below_alloc | apply pw_below_drewN | apply below_drew1) | exact HB.out)) hb); clear HO_9; clear HB; have HO_9 := n0_; have HB := n1_; clear n0_ n1_; (try clear hb); (try clear hb2); (try clear hk); (try clear hi)) | (go_at_call 22; (with_reducible refine (chirographlaw06_alive.calls  t326 _ A74.out).mono ?_); rintro e w77 ⟨rfl, hb⟩; have n0_ := Aside0.mk (Kd.R_below (by (with_reducible repeat (first | apply Kd.R_alloc | apply Kd.R_drewN | apply Kd.R_drew)); exact HO_9.out) hb); have n1_ := Aside0.mk (below_step (by repeat (first | (with_reducible first | exact HB.out | apply below_alloc | apply pw_below_drewN | apply below_drew1) | exact HB.out)) hb); clear HO_9; clear HB; have HO_9 := n0_; have HB := n1_; clear n0_ n1_; (try clear hb); (try clear hb2); (try clear hk); (try clear hi)))
                                  go_ret
                                  exact ⟨by first | rfl | (simp [errW_none, errW_some] <;> rfl) | (simp [*, errW_none, errW_some] <;> rfl) | (exact absurd (show ((3 : Int) == 0) = true by assumption) (by decide)), by repeat (first | (with_reducible first | exact HB.out | apply below_alloc | apply pw_below_drewN | apply below_drew1) | exact HB.out)⟩
                                · rw [if_neg c73] at H
                                  have c73b0 : (t324.toList == a0.toList) = false := beq_eq_false_iff_ne.mpr c73
                                  have c73b1 : (t324.toList != a0.toList) = true := bne_iff_ne.mpr c73
                                  obtain rfl := Option.some.inj H
                                  obtain ⟨Ao78, co78, eo78⟩ := Kd.R_slice HO_9.out
                                  subst eo78
                                  go_wp2_with (first | ((with_reducible refine gate_callee (f := 23) rfl ?_); refine goesL_ (some 113) rfl rfl Try.func23 (by kernel_rfl) rfl #[.slice Ao78 t310.length co78] rfl (by (try simp only [List.map_toArray, List.map_cons, List.map_nil]); first | done | rfl | (simp only [List.length_drop, List.length_take]; rfl)) ?_; (with_reducible refine (term_Row.calls _ _ t310 t324 t325 _ ?side1 ?side2 A71.out).mono ?_); (case side1 => repeat (first | exact (Kd.R_reads' HO_9.out).2.2 | (with_reducible refine Kd.C_alloc ?_ _) | (with_reducible refine Kd.C_drewN ?_ _) | (with_reducible refine Kd.C_drew ?_))); (case side2 => exact (Kd.R_reads' HO_9.out).2.1); rintro e w79 ⟨rfl, hb⟩; refine ⟨_, rfl, ?_⟩; have n0_ := Aside0.mk (Kd.R_below (by (with_reducible repeat (first | apply Kd.R_alloc | apply Kd.R_drewN | apply Kd.R_drew)); exact HO_9.out) hb); have n1_ := Aside0.mk (below_step (by repeat (first | (with_reducible first | exact HB.out | apply below_alloc | apply pw_below_drewN | apply below_drew1) | exact HB.out)) hb); clear HO_9; clear HB; have HO_9 := n0_; have HB := n1_; clear n0_ n1_; (try clear hb); (try clear hb2); (try clear hk); (try clear hi)))
                                  go_ret
                                  exact ⟨by first | rfl | (simp [errW_none, errW_some] <;> rfl) | (simp [*, errW_none, errW_some] <;> rfl) | (exact absurd (show ((3 : Int) == 0) = true by assumption) (by decide)), by repeat (first | (with_reducible first | exact HB.out | apply below_alloc | apply pw_below_drewN | apply below_drew1) | exact HB.out)⟩
                              · rw [if_neg c72] at H
                                have c72b0 : (t325 == 0) = false := beq_eq_false_iff_ne.mpr c72
                                have c72b1 : (t325 != 0) = true := bne_iff_ne.mpr c72
                                obtain rfl := Option.some.inj H
                                obtain ⟨Ao80, co80, eo80⟩ := Kd.R_slice HO_9.out
                                subst eo80
                                go_wp2_with (first | ((with_reducible refine gate_callee (f := 23) rfl ?_); refine goesL_ (some 113) rfl rfl Try.func23 (by kernel_rfl) rfl #[.slice Ao80 t310.length co80] rfl (by (try simp only [List.map_toArray, List.map_cons, List.map_nil]); first | done | rfl | (simp only [List.length_drop, List.length_take]; rfl)) ?_; (with_reducible refine (term_Row.calls _ _ t310 t324 t325 _ ?side1 ?side2 A71.out).mono ?_); (case side1 => repeat (first | exact (Kd.R_reads' HO_9.out).2.2 | (with_reducible refine Kd.C_alloc ?_ _) | (with_reducible refine Kd.C_drewN ?_ _) | (with_reducible refine Kd.C_drew ?_))); (case side2 => exact (Kd.R_reads' HO_9.out).2.1); rintro e w81 ⟨rfl, hb⟩; refine ⟨_, rfl, ?_⟩; have n0_ := Aside0.mk (Kd.R_below (by (with_reducible repeat (first | apply Kd.R_alloc | apply Kd.R_drewN | apply Kd.R_drew)); exact HO_9.out) hb); have n1_ := Aside0.mk (below_step (by repeat (first | (with_reducible first | exact HB.out | apply below_alloc | apply pw_below_drewN | apply below_drew1) | exact HB.out)) hb); clear HO_9; clear HB; have HO_9 := n0_; have HB := n1_; clear n0_ n1_; (try clear hb); (try clear hb2); (try clear hk); (try clear hi)))
                                go_ret
                                exact ⟨by first | rfl | (simp [errW_none, errW_some] <;> rfl) | (simp [*, errW_none, errW_some] <;> rfl) | (exact absurd (show ((3 : Int) == 0) = true by assumption) (by decide)), by repeat (first | (with_reducible first | exact HB.out | apply below_alloc | apply pw_below_drewN | apply below_drew1) | exact HB.out)⟩
                          · replace c70 := Bool.eq_false_iff.mpr c70
                            subst c70
                            have H1 : (if t316 = 4 then (if (t310.length : Int) = 1 then (chirographlaw06_TermOpens.j4 kj67 a0 t310 t315 t316 (⟨#[]⟩ : ByteArray) 3 (!t315)) else (chirographlaw06_TermOpens.j4 kj67 a0 t310 t315 t316 (⟨#[]⟩ : ByteArray) 3 false)) else (chirographlaw06_TermOpens.j4 kj67 a0 t310 t315 t316 (⟨#[]⟩ : ByteArray) 3 false)) = some r := by rw [if_neg (show ¬ (false = true) by decide)] at H; exact H
                            clear H
                            have H := H1
                            clear H1
                            have HC82 := Aside0.mk H
                            clear H
                            go_upto_region 20 with (fail)
                            go_cut [116] (fun v116 wc => ∃ (kq : Nat) (x116_81 : Bool), v116 = .bool x116_81 ∧ Aside0 (chirographlaw06_TermOpens.j4 kq a0 t310 t315 t316 (⟨#[]⟩ : ByteArray) 3 x116_81 = some r) ∧ Aside0 (kq ≤ kj67) ∧ Aside0 (Kd.R Kd.string 9 wc w.heap.size (fun _ => True) v312 t310) ∧ Aside0 (Below w.heap.size w wc))
                            case first =>
                              have H := HC82.out
                              clear HC82
                              by_cases c83 : t316 = 4
                              · as_aux_lemma =>
                                  rw [if_pos c83] at H
                                  have c83b0 : (t316 == 4) = true := beq_iff_eq.mpr c83
                                  have c83b1 : (t316 != 4) = false := bne_eq_false_iff_eq.mpr c83
                                  clear c83
                                  (first | rw [c83b0] | (simp only [i64_w, i32_w]; rw [c83b0]) | skip)
                                  by_cases c84 : (t310.length : Int) = 1
                                  · rw [if_pos c84] at H
                                    have c84b0 : ((t310.length : Int) == 1) = true := beq_iff_eq.mpr c84
                                    have c84b1 : ((t310.length : Int) != 1) = false := bne_eq_false_iff_eq.mpr c84
                                    clear c84
                                    have H' := Aside0.mk H
                                    clear H
                                    obtain ⟨Ao85, co85, eo85⟩ := Kd.R_slice HO_9.out
                                    subst eo85
                                    go_wp2
                                    go_meet
                                    case rel => exact ⟨_, (!t315), (by first | rfl | (simp; done) | (simp [*]; done) | (simp [bne_nil_, beq_nil_]; done) | (simp [bne_nil_, beq_nil_, *]; done)), H', ⟨by have := HJ7.out; have := HJ36.out; have := HJ53.out; have := HJ67.out; first | omega | exact Nat.le_refl _⟩, ⟨by (with_reducible repeat (first | apply Kd.R_alloc | apply Kd.R_drewN | apply Kd.R_drew)); exact HO_9.out⟩, ⟨by repeat (first | (with_reducible first | exact HB.out | apply below_alloc | apply pw_below_drewN | apply below_drew1) | exact HB.out)⟩⟩
                                  · rw [if_neg c84] at H
                                    have c84b0 : ((t310.length : Int) == 1) = false := beq_eq_false_iff_ne.mpr c84
                                    have c84b1 : ((t310.length : Int) != 1) = true := bne_iff_ne.mpr c84
                                    have H' := Aside0.mk H
                                    clear H
                                    obtain ⟨Ao86, co86, eo86⟩ := Kd.R_slice HO_9.out
                                    subst eo86
                                    go_wp2
                                    go_meet
                                    case rel => exact ⟨_, (false), (by first | rfl | (simp; done) | (simp [*]; done) | (simp [bne_nil_, beq_nil_]; done) | (simp [bne_nil_, beq_nil_, *]; done)), H', ⟨by have := HJ7.out; have := HJ36.out; have := HJ53.out; have := HJ67.out; first | omega | exact Nat.le_refl _⟩, ⟨by (with_reducible repeat (first | apply Kd.R_alloc | apply Kd.R_drewN | apply Kd.R_drew)); exact HO_9.out⟩, ⟨by repeat (first | (with_reducible first | exact HB.out | apply below_alloc | apply pw_below_drewN | apply below_drew1) | exact HB.out)⟩⟩
                              · as_aux_lemma =>
                                  rw [if_neg c83] at H
                                  have c83b0 : (t316 == 4) = false := beq_eq_false_iff_ne.mpr c83
                                  have c83b1 : (t316 != 4) = true := bne_iff_ne.mpr c83
                                  (first | rw [c83b0] | (simp only [i64_w, i32_w]; rw [c83b0]) | skip)
                                  have H' := Aside0.mk H
                                  clear H
                                  go_wp2
                                  go_meet
                                  case rel => exact ⟨_, (false), (by first | rfl | (simp; done) | (simp [*]; done) | (simp [bne_nil_, beq_nil_]; done) | (simp [bne_nil_, beq_nil_, *]; done)), H', ⟨by have := HJ7.out; have := HJ36.out; have := HJ53.out; have := HJ67.out; first | omega | exact Nat.le_refl _⟩, ⟨by (with_reducible repeat (first | apply Kd.R_alloc | apply Kd.R_drewN | apply Kd.R_drew)); exact HO_9.out⟩, ⟨by repeat (first | (with_reducible first | exact HB.out | apply below_alloc | apply pw_below_drewN | apply below_drew1) | exact HB.out)⟩⟩
                            case rest =>
                              clear HC82
                              try clear c1
                              try clear c2
                              try clear p2
                              try clear c3
                              try clear c4
                              try clear c5
                              try clear c6
                              try clear c7
                              try clear c8
                              try clear c10
                              try clear c10b0
                              try clear c10b1
                              try clear c12
                              try clear c14
                              try clear c16
                              try clear c16b0
                              try clear c16b1
                              try clear c18
                              try clear c18b0
                              try clear c18b1
                              try clear c21
                              try clear c22
                              try clear c23
                              try clear c26
                              try clear c28
                              try clear c36
                              try clear c41
                              try clear c41b0
                              try clear c41b1
                              try clear c42
                              try clear c42b0
                              try clear c42b1
                              try clear c42b2
                              try clear c45
                              try clear c47
                              try clear c47b0
                              try clear c47b1
                              try clear c48
                              try clear c48b0
                              try clear c48b1
                              try clear c49
                              try clear c50
                              try clear c51
                              try clear c55
                              try clear c55b0
                              try clear c55b1
                              try clear c56
                              try clear c56b0
                              try clear c56b1
                              try clear c56b2
                              try clear c59
                              try clear c61
                              try clear c61b0
                              try clear c61b1
                              try clear c62
                              try clear c62b0
                              try clear c62b1
                              try clear c69
                              try clear c69b0
                              try clear c69b1
                              try clear c70
                              try clear c72
                              try clear c72b0
                              try clear c72b1
                              try clear c73
                              try clear c73b0
                              try clear c73b1
                              try clear c83
                              try clear c83b0
                              try clear c83b1
                              try clear c84
                              try clear c84b0
                              try clear c84b1
                              try clear p2
                              obtain ⟨kq, x116_81, rfl, HA, HJ81, HO_9, HB⟩ := hcut
                              cases kq with
                              | zero => exact absurd HA.out (by simp [chirographlaw06_TermOpens.j4])
                              | succ kj81 =>
                                have H := HA.out
                                clear HA
                                simp only [chirographlaw06_TermOpens.j4] at H
                                by_cases c87 : x116_81 = true
                                · subst c87
                                  have H1 : (if 0 < (t310.length : Int) then ((term_Hash.f (rdOf ByteArray.empty t310 0)).bind fun bt328 => (if bt328.2 = 0 then (if bt328.1.toList = a0.toList then ((chirographlaw06_alive.f).bind fun t330 => (some t330)) else (some false)) else (some false))) else (none)) = some r := by rw [if_pos rfl] at H; exact H
                                  clear H
                                  have H := H1
                                  clear H1
                                  by_cases c88 : 0 < (t310.length : Int)
                                  · rw [if_pos c88] at H
                                    have c88b0 : decide (0 < (t310.length : Int)) = true := decide_eq_true c88
                                    have c88b1 : decide (0 < t310.length) = true := decide_eq_true (by omega)
                                    clear c88
                                    replace H := Option.bind_eq_some_iff.mp H
                                    obtain ⟨⟨t328, t329⟩, A890, H⟩ := H
                                    replace H : (if t329 = 0 then (if t328.toList = a0.toList then ((chirographlaw06_alive.f).bind fun t330 => (some t330)) else (some false)) else (some false)) = some r := H
                                    have A89 := Aside0.mk A890
                                    clear A890
                                    by_cases c90 : t329 = 0
                                    · as_aux_lemma =>
                                        rw [if_pos c90] at H
                                        have c90b0 : (t329 == 0) = true := beq_iff_eq.mpr c90
                                        have c90b1 : (t329 != 0) = false := bne_eq_false_iff_eq.mpr c90
                                        clear c90
                                        by_cases c91 : t328.toList = a0.toList
                                        · rw [if_pos c91] at H
                                          have c91b0 : (t328.toList == a0.toList) = true := beq_iff_eq.mpr c91
                                          have c91b1 : (t328.toList != a0.toList) = false := bne_eq_false_iff_eq.mpr c91
                                          clear c91
                                          replace H := Option.bind_eq_some_iff.mp H
                                          obtain ⟨t330, A920, H⟩ := H
                                          replace H : (some t330) = some r := H
                                          have A92 := Aside0.mk A920
                                          clear A920
                                          obtain rfl := Option.some.inj H
                                          obtain ⟨Ao93, co93, eo93⟩ := Kd.R_slice HO_9.out
                                          subst eo93
                                          have p327 : 0 ≤ (0 : Int) := (by omega)
                                          have q327 : 0 < (t310.length : Int) := of_decide_eq_true (by first | (with_reducible assumption) | assumption)
                                          obtain ⟨ad327, e327, hx327_0⟩ := Kd.at_string (Kd.R_reads' HO_9.out).2.2 0 p327 q327
                                          cases e327
                                          have qi327 : (0 < t310.length) = True := eq_true (by omega)
                                          (try rw [show ((0 : Int)).toNat = 0 from rfl] at hx327_0)
                                          (try rw [Addr.add_zero'] at hx327_0)
                                          replace p327 := eq_true p327
                                          replace q327 := eq_true q327
                                          go_wp2_with (first | ((with_reducible refine gate_callee (f := 30) rfl ?_); refine goesL_ (some 132) rfl rfl Try.func30 (by kernel_rfl) rfl #[.string (rdOf ByteArray.empty t310 0)] rfl (by (try simp only [List.map_toArray, List.map_cons, List.map_nil]); first | done | rfl | (simp only [List.length_drop, List.length_take]; rfl)) ?_; (with_reducible refine (term_Hash.calls (rdOf ByteArray.empty t310 0) t328 t329 _ A89.out).mono ?_); rintro e w94 ⟨rfl, hb⟩; refine ⟨_, rfl, ?_⟩; have n0_ := Aside0.mk (Kd.R_below (by (with_reducible repeat (first | apply Kd.R_alloc | apply Kd.R_drewN | apply Kd.R_drew)); exact HO_9.out) hb); have n1_ := Aside0.mk (below_step (by repeat (first | (with_reducible first | exact HB.out | apply below_alloc | apply pw_below_drewN | apply below_drew1) | exact HB.out)) hb); clear HO_9; clear HB; have HO_9 := n0_; have HB := n1_; clear n0_ n1_; (try clear hb); (try clear hb2); (try clear hk); (try clear hi)) | (go_at_call 22; (with_reducible refine (chirographlaw06_alive.calls  t330 _ A92.out).mono ?_); rintro e w95 ⟨rfl, hb⟩; have n0_ := Aside0.mk (Kd.R_below (by (with_reducible repeat (first | apply Kd.R_alloc | apply Kd.R_drewN | apply Kd.R_drew)); exact HO_9.out) hb); have n1_ := Aside0.mk (below_step (by repeat (first | (with_reducible first | exact HB.out | apply below_alloc | apply pw_below_drewN | apply below_drew1) | exact HB.out)) hb); clear HO_9; clear HB; have HO_9 := n0_; have HB := n1_; clear n0_ n1_; (try clear hb); (try clear hb2); (try clear hk); (try clear hi)))
                                          go_ret
                                          exact ⟨by first | rfl | (simp [errW_none, errW_some] <;> rfl) | (simp [*, errW_none, errW_some] <;> rfl) | (exact absurd (show ((3 : Int) == 0) = true by assumption) (by decide)), by repeat (first | (with_reducible first | exact HB.out | apply below_alloc | apply pw_below_drewN | apply below_drew1) | exact HB.out)⟩
                                        · rw [if_neg c91] at H
                                          have c91b0 : (t328.toList == a0.toList) = false := beq_eq_false_iff_ne.mpr c91
                                          have c91b1 : (t328.toList != a0.toList) = true := bne_iff_ne.mpr c91
                                          obtain rfl := Option.some.inj H
                                          obtain ⟨Ao96, co96, eo96⟩ := Kd.R_slice HO_9.out
                                          subst eo96
                                          have p327 : 0 ≤ (0 : Int) := (by omega)
                                          have q327 : 0 < (t310.length : Int) := of_decide_eq_true (by first | (with_reducible assumption) | assumption)
                                          obtain ⟨ad327, e327, hx327_0⟩ := Kd.at_string (Kd.R_reads' HO_9.out).2.2 0 p327 q327
                                          cases e327
                                          have qi327 : (0 < t310.length) = True := eq_true (by omega)
                                          (try rw [show ((0 : Int)).toNat = 0 from rfl] at hx327_0)
                                          (try rw [Addr.add_zero'] at hx327_0)
                                          replace p327 := eq_true p327
                                          replace q327 := eq_true q327
                                          go_wp2_with (first | ((with_reducible refine gate_callee (f := 30) rfl ?_); refine goesL_ (some 132) rfl rfl Try.func30 (by kernel_rfl) rfl #[.string (rdOf ByteArray.empty t310 0)] rfl (by (try simp only [List.map_toArray, List.map_cons, List.map_nil]); first | done | rfl | (simp only [List.length_drop, List.length_take]; rfl)) ?_; (with_reducible refine (term_Hash.calls (rdOf ByteArray.empty t310 0) t328 t329 _ A89.out).mono ?_); rintro e w97 ⟨rfl, hb⟩; refine ⟨_, rfl, ?_⟩; have n0_ := Aside0.mk (Kd.R_below (by (with_reducible repeat (first | apply Kd.R_alloc | apply Kd.R_drewN | apply Kd.R_drew)); exact HO_9.out) hb); have n1_ := Aside0.mk (below_step (by repeat (first | (with_reducible first | exact HB.out | apply below_alloc | apply pw_below_drewN | apply below_drew1) | exact HB.out)) hb); clear HO_9; clear HB; have HO_9 := n0_; have HB := n1_; clear n0_ n1_; (try clear hb); (try clear hb2); (try clear hk); (try clear hi)))
                                          go_ret
                                          exact ⟨by first | rfl | (simp [errW_none, errW_some] <;> rfl) | (simp [*, errW_none, errW_some] <;> rfl) | (exact absurd (show ((3 : Int) == 0) = true by assumption) (by decide)), by repeat (first | (with_reducible first | exact HB.out | apply below_alloc | apply pw_below_drewN | apply below_drew1) | exact HB.out)⟩
                                    · as_aux_lemma =>
                                        rw [if_neg c90] at H
                                        have c90b0 : (t329 == 0) = false := beq_eq_false_iff_ne.mpr c90
                                        have c90b1 : (t329 != 0) = true := bne_iff_ne.mpr c90
                                        obtain rfl := Option.some.inj H
                                        obtain ⟨Ao98, co98, eo98⟩ := Kd.R_slice HO_9.out
                                        subst eo98
                                        have p327 : 0 ≤ (0 : Int) := (by omega)
                                        have q327 : 0 < (t310.length : Int) := of_decide_eq_true (by first | (with_reducible assumption) | assumption)
                                        obtain ⟨ad327, e327, hx327_0⟩ := Kd.at_string (Kd.R_reads' HO_9.out).2.2 0 p327 q327
                                        cases e327
                                        have qi327 : (0 < t310.length) = True := eq_true (by omega)
                                        (try rw [show ((0 : Int)).toNat = 0 from rfl] at hx327_0)
                                        (try rw [Addr.add_zero'] at hx327_0)
                                        replace p327 := eq_true p327
                                        replace q327 := eq_true q327
                                        go_wp2_with (first | ((with_reducible refine gate_callee (f := 30) rfl ?_); refine goesL_ (some 132) rfl rfl Try.func30 (by kernel_rfl) rfl #[.string (rdOf ByteArray.empty t310 0)] rfl (by (try simp only [List.map_toArray, List.map_cons, List.map_nil]); first | done | rfl | (simp only [List.length_drop, List.length_take]; rfl)) ?_; (with_reducible refine (term_Hash.calls (rdOf ByteArray.empty t310 0) t328 t329 _ A89.out).mono ?_); rintro e w99 ⟨rfl, hb⟩; refine ⟨_, rfl, ?_⟩; have n0_ := Aside0.mk (Kd.R_below (by (with_reducible repeat (first | apply Kd.R_alloc | apply Kd.R_drewN | apply Kd.R_drew)); exact HO_9.out) hb); have n1_ := Aside0.mk (below_step (by repeat (first | (with_reducible first | exact HB.out | apply below_alloc | apply pw_below_drewN | apply below_drew1) | exact HB.out)) hb); clear HO_9; clear HB; have HO_9 := n0_; have HB := n1_; clear n0_ n1_; (try clear hb); (try clear hb2); (try clear hk); (try clear hi)))
                                        go_ret
                                        exact ⟨by first | rfl | (simp [errW_none, errW_some] <;> rfl) | (simp [*, errW_none, errW_some] <;> rfl) | (exact absurd (show ((3 : Int) == 0) = true by assumption) (by decide)), by repeat (first | (with_reducible first | exact HB.out | apply below_alloc | apply pw_below_drewN | apply below_drew1) | exact HB.out)⟩
                                  · rw [if_neg c88] at H
                                    exact absurd H (by simp)
                                · replace c87 := Bool.eq_false_iff.mpr c87
                                  subst c87
                                  have H1 : (if t316 = 5 then (if (t310.length : Int) = 2 then (chirographlaw06_TermOpens.j5 kj81 a0 t310 t315 t316 (⟨#[]⟩ : ByteArray) 3 (!t315)) else (chirographlaw06_TermOpens.j5 kj81 a0 t310 t315 t316 (⟨#[]⟩ : ByteArray) 3 false)) else (chirographlaw06_TermOpens.j5 kj81 a0 t310 t315 t316 (⟨#[]⟩ : ByteArray) 3 false)) = some r := by rw [if_neg (show ¬ (false = true) by decide)] at H; exact H
                                  clear H
                                  have H := H1
                                  clear H1
                                  have HC100 := Aside0.mk H
                                  clear H
                                  go_upto_region 22 with (fail)
                                  go_cut [135] (fun v135 wc => ∃ (kq : Nat) (x135_99 : Bool), v135 = .bool x135_99 ∧ Aside0 (chirographlaw06_TermOpens.j5 kq a0 t310 t315 t316 (⟨#[]⟩ : ByteArray) 3 x135_99 = some r) ∧ Aside0 (kq ≤ kj81) ∧ Aside0 (Kd.R Kd.string 9 wc w.heap.size (fun _ => True) v312 t310) ∧ Aside0 (Below w.heap.size w wc))
                                  case first =>
                                    have H := HC100.out
                                    clear HC100
                                    by_cases c101 : t316 = 5
                                    · as_aux_lemma =>
                                        rw [if_pos c101] at H
                                        have c101b0 : (t316 == 5) = true := beq_iff_eq.mpr c101
                                        have c101b1 : (t316 != 5) = false := bne_eq_false_iff_eq.mpr c101
                                        clear c101
                                        (first | rw [c101b0] | (simp only [i64_w, i32_w]; rw [c101b0]) | skip)
                                        by_cases c102 : (t310.length : Int) = 2
                                        · rw [if_pos c102] at H
                                          have c102b0 : ((t310.length : Int) == 2) = true := beq_iff_eq.mpr c102
                                          have c102b1 : ((t310.length : Int) != 2) = false := bne_eq_false_iff_eq.mpr c102
                                          clear c102
                                          have H' := Aside0.mk H
                                          clear H
                                          obtain ⟨Ao103, co103, eo103⟩ := Kd.R_slice HO_9.out
                                          subst eo103
                                          go_wp2
                                          go_meet
                                          case rel => exact ⟨_, (!t315), (by first | rfl | (simp; done) | (simp [*]; done) | (simp [bne_nil_, beq_nil_]; done) | (simp [bne_nil_, beq_nil_, *]; done)), H', ⟨by have := HJ7.out; have := HJ36.out; have := HJ53.out; have := HJ67.out; have := HJ81.out; first | omega | exact Nat.le_refl _⟩, ⟨by (with_reducible repeat (first | apply Kd.R_alloc | apply Kd.R_drewN | apply Kd.R_drew)); exact HO_9.out⟩, ⟨by repeat (first | (with_reducible first | exact HB.out | apply below_alloc | apply pw_below_drewN | apply below_drew1) | exact HB.out)⟩⟩
                                        · rw [if_neg c102] at H
                                          have c102b0 : ((t310.length : Int) == 2) = false := beq_eq_false_iff_ne.mpr c102
                                          have c102b1 : ((t310.length : Int) != 2) = true := bne_iff_ne.mpr c102
                                          have H' := Aside0.mk H
                                          clear H
                                          obtain ⟨Ao104, co104, eo104⟩ := Kd.R_slice HO_9.out
                                          subst eo104
                                          go_wp2
                                          go_meet
                                          case rel => exact ⟨_, (false), (by first | rfl | (simp; done) | (simp [*]; done) | (simp [bne_nil_, beq_nil_]; done) | (simp [bne_nil_, beq_nil_, *]; done)), H', ⟨by have := HJ7.out; have := HJ36.out; have := HJ53.out; have := HJ67.out; have := HJ81.out; first | omega | exact Nat.le_refl _⟩, ⟨by (with_reducible repeat (first | apply Kd.R_alloc | apply Kd.R_drewN | apply Kd.R_drew)); exact HO_9.out⟩, ⟨by repeat (first | (with_reducible first | exact HB.out | apply below_alloc | apply pw_below_drewN | apply below_drew1) | exact HB.out)⟩⟩
                                    · as_aux_lemma =>
                                        rw [if_neg c101] at H
                                        have c101b0 : (t316 == 5) = false := beq_eq_false_iff_ne.mpr c101
                                        have c101b1 : (t316 != 5) = true := bne_iff_ne.mpr c101
                                        (first | rw [c101b0] | (simp only [i64_w, i32_w]; rw [c101b0]) | skip)
                                        have H' := Aside0.mk H
                                        clear H
                                        go_wp2
                                        go_meet
                                        case rel => exact ⟨_, (false), (by first | rfl | (simp; done) | (simp [*]; done) | (simp [bne_nil_, beq_nil_]; done) | (simp [bne_nil_, beq_nil_, *]; done)), H', ⟨by have := HJ7.out; have := HJ36.out; have := HJ53.out; have := HJ67.out; have := HJ81.out; first | omega | exact Nat.le_refl _⟩, ⟨by (with_reducible repeat (first | apply Kd.R_alloc | apply Kd.R_drewN | apply Kd.R_drew)); exact HO_9.out⟩, ⟨by repeat (first | (with_reducible first | exact HB.out | apply below_alloc | apply pw_below_drewN | apply below_drew1) | exact HB.out)⟩⟩
                                  case rest =>
                                    clear HC100
                                    try clear c1
                                    try clear c2
                                    try clear p2
                                    try clear c3
                                    try clear p3
                                    try clear q3
                                    try clear hx3
                                    try clear qi3
                                    try clear c4
                                    try clear c5
                                    try clear c6
                                    try clear c7
                                    try clear c8
                                    try clear c9
                                    try clear c10
                                    try clear c10b0
                                    try clear c10b1
                                    try clear c12
                                    try clear c14
                                    try clear c16
                                    try clear c16b0
                                    try clear c16b1
                                    try clear c18
                                    try clear c18b0
                                    try clear c18b1
                                    try clear c21
                                    try clear c22
                                    try clear c23
                                    try clear c26
                                    try clear c28
                                    try clear c30
                                    try clear p32
                                    try clear q32
                                    try clear hx32
                                    try clear qi32
                                    try clear c36
                                    try clear c41
                                    try clear c41b0
                                    try clear c41b1
                                    try clear c42
                                    try clear c42b0
                                    try clear c42b1
                                    try clear c42b2
                                    try clear c45
                                    try clear c47
                                    try clear c47b0
                                    try clear c47b1
                                    try clear c48
                                    try clear c48b0
                                    try clear c48b1
                                    try clear c49
                                    try clear c50
                                    try clear c51
                                    try clear c55
                                    try clear c55b0
                                    try clear c55b1
                                    try clear c56
                                    try clear c56b0
                                    try clear c56b1
                                    try clear c56b2
                                    try clear c59
                                    try clear c61
                                    try clear c61b0
                                    try clear c61b1
                                    try clear c62
                                    try clear c62b0
                                    try clear c62b1
                                    try clear c69
                                    try clear c69b0
                                    try clear c69b1
                                    try clear c70
                                    try clear c72
                                    try clear c72b0
                                    try clear c72b1
                                    try clear c73
                                    try clear c73b0
                                    try clear c73b1
                                    try clear c83
                                    try clear c83b0
                                    try clear c83b1
                                    try clear c84
                                    try clear c84b0
                                    try clear c84b1
                                    try clear c87
                                    try clear c88
                                    try clear c88b0
                                    try clear c88b1
                                    try clear c90
                                    try clear c90b0
                                    try clear c90b1
                                    try clear c91
                                    try clear c91b0
                                    try clear c91b1
                                    try clear c101
                                    try clear c101b0
                                    try clear c101b1
                                    try clear c102
                                    try clear c102b0
                                    try clear c102b1
                                    try clear hx327_0
                                    try clear p2
                                    try clear p327
                                    try clear q327
                                    obtain ⟨kq, x135_99, rfl, HA, HJ99, HO_9, HB⟩ := hcut
                                    cases kq with
                                    | zero => exact absurd HA.out (by simp [chirographlaw06_TermOpens.j5])
                                    | succ kj99 =>
                                      have H := HA.out
                                      clear HA
                                      simp only [chirographlaw06_TermOpens.j5] at H
                                      by_cases c105 : x135_99 = true
                                      · subst c105
                                        have H1 : (if 0 < (t310.length : Int) then (if 1 < (t310.length : Int) then ((term_Mac.f (rdOf ByteArray.empty t310 0) (rdOf ByteArray.empty t310 1)).bind fun bt333 => (if bt333.2 = 0 then (if bt333.1.toList = a0.toList then ((chirographlaw06_alive.f).bind fun t335 => (some t335)) else (some false)) else (some false))) else (none)) else (none)) = some r := by rw [if_pos rfl] at H; exact H
                                        clear H
                                        have H := H1
                                        clear H1
                                        by_cases c106 : 0 < (t310.length : Int)
                                        · rw [if_pos c106] at H
                                          have c106b0 : decide (0 < (t310.length : Int)) = true := decide_eq_true c106
                                          have c106b1 : decide (0 < t310.length) = true := decide_eq_true (by omega)
                                          clear c106
                                          by_cases c107 : 1 < (t310.length : Int)
                                          · rw [if_pos c107] at H
                                            have c107b0 : decide (1 < (t310.length : Int)) = true := decide_eq_true c107
                                            have c107b1 : decide (1 < t310.length) = true := decide_eq_true (by omega)
                                            clear c107
                                            replace H := Option.bind_eq_some_iff.mp H
                                            obtain ⟨⟨t333, t334⟩, A1080, H⟩ := H
                                            replace H : (if t334 = 0 then (if t333.toList = a0.toList then ((chirographlaw06_alive.f).bind fun t335 => (some t335)) else (some false)) else (some false)) = some r := H
                                            have A108 := Aside0.mk A1080
                                            clear A1080
                                            by_cases c109 : t334 = 0
                                            · rw [if_pos c109] at H
                                              have c109b0 : (t334 == 0) = true := beq_iff_eq.mpr c109
                                              have c109b1 : (t334 != 0) = false := bne_eq_false_iff_eq.mpr c109
                                              clear c109
                                              by_cases c110 : t333.toList = a0.toList
                                              · rw [if_pos c110] at H
                                                have c110b0 : (t333.toList == a0.toList) = true := beq_iff_eq.mpr c110
                                                have c110b1 : (t333.toList != a0.toList) = false := bne_eq_false_iff_eq.mpr c110
                                                clear c110
                                                replace H := Option.bind_eq_some_iff.mp H
                                                obtain ⟨t335, A1110, H⟩ := H
                                                replace H : (some t335) = some r := H
                                                have A111 := Aside0.mk A1110
                                                clear A1110
                                                obtain rfl := Option.some.inj H
                                                try go_wp2
                                                have n0_ := Aside0.mk (Kd.R_drew HO_9.out)
                                                have n1_ := Aside0.mk (below_drew1 HB.out)
                                                clear HO_9
                                                clear HB
                                                have HO_9 := n0_
                                                have HB := n1_
                                                clear n0_ n1_
                                                obtain ⟨Ao113, co113, eo113⟩ := Kd.R_slice HO_9.out
                                                (first | subst eo113 | (injection eo113 with f1_ f2_ f3_; have f4_ := f1_.symm; have f5_ := f3_.symm; clear f1_ f2_ f3_; subst f4_; subst f5_))
                                                have p331 : 0 ≤ (0 : Int) := (by omega)
                                                have q331 : 0 < (t310.length : Int) := of_decide_eq_true (by first | (with_reducible assumption) | assumption)
                                                obtain ⟨ad331, e331, hx331_0⟩ := Kd.at_string (Kd.R_reads' HO_9.out).2.2 0 p331 q331
                                                cases e331
                                                have qi331 : (0 < t310.length) = True := eq_true (by omega)
                                                (try rw [show ((0 : Int)).toNat = 0 from rfl] at hx331_0)
                                                (try rw [Addr.add_zero'] at hx331_0)
                                                replace p331 := eq_true p331
                                                replace q331 := eq_true q331
                                                have p332 : 0 ≤ (1 : Int) := (by omega)
                                                have q332 : 1 < (t310.length : Int) := of_decide_eq_true (by first | (with_reducible assumption) | assumption)
                                                obtain ⟨ad332, e332, hx332_0⟩ := Kd.at_string (Kd.R_reads' HO_9.out).2.2 1 p332 q332
                                                obtain rfl : ad331 = ad332 := (by injection e332)
                                                (try simp only [show (1 : Int).toNat = 1 from rfl, Nat.reduceMul, Nat.reduceEqDiff, Go.Addr.add, ↓reduceIte] at hx332_0)
                                                have qi332 : (1 < t310.length) = True := eq_true (by omega)
                                                (try rw [show ((1 : Int)).toNat = 1 from rfl] at hx332_0)
                                                replace p332 := eq_true p332
                                                replace q332 := eq_true q332
                                                refine start_ (n := 12) (S := fun w' => w'.cell? ad331 = some (.string (rdOf ByteArray.empty t310 0)) ∧ w'.cell? ⟨ad331.block, ad331.off + 1, none⟩ = some (.string (rdOf ByteArray.empty t310 1))) (ds := []) #[false, false, false, false, false, false, false, false, false, false, false, false] (by kernel_rfl) rfl rfl ⟨hx331_0, hx332_0⟩ (fun hHeld => ?_); refine with_tabW chirographlaw06_TermOpens.tab23 chirographlaw06_TermOpens.bits23 (fun HT_ HW_ => ?_)
                                                generalize wc.drew = w112 at HO_9 HB hx331_0 hx332_0 hHeld ⊢
                                                refine pure_ (i := 0) (N := some 148) (v := ?_) (a' := ?_) #[true, false, false, false, false, false, false, false, false, false, false, false] rfl rfl (any_of HT_.out (by kernel_rfl)) (fun _ _ _ h => h) (Or.inl ⟨by rfl, ?_⟩) ?_ ?_
                                                rotate_left
                                                · intro w'
                                                  go_simp
                                                  with_reducible rfl
                                                rotate_left
                                                · simp only [Act.put, List.setIfInBounds_toArray, List.set_cons_zero, List.set_cons_succ, i64_w, i32_w]
                                                  rfl
                                                refine pure_ (i := 1) (N := some 149) (v := ?_) (a' := ?_) #[true, true, false, false, false, false, false, false, false, false, false, false] rfl rfl (any_of HT_.out (by kernel_rfl)) (fun _ _ _ h => h) (Or.inl ⟨by rfl, ?_⟩) ?_ ?_
                                                rotate_left
                                                · intro w'
                                                  go_simp
                                                  with_reducible rfl
                                                rotate_left
                                                · simp only [Act.put, List.setIfInBounds_toArray, List.set_cons_zero, List.set_cons_succ, i64_w, i32_w]
                                                  rfl
                                                refine pure_ (i := 3) (N := some 151) (v := ?_) (a' := ?_) #[true, true, false, true, false, false, false, false, false, false, false, false] rfl rfl (any_of HT_.out (by kernel_rfl)) (fun _ _ _ h => h) (Or.inl ⟨by rfl, ?_⟩) ?_ ?_
                                                rotate_left
                                                · intro w'
                                                  go_simp
                                                  with_reducible rfl
                                                rotate_left
                                                · simp only [Act.put, List.setIfInBounds_toArray, List.set_cons_zero, List.set_cons_succ, i64_w, i32_w]
                                                  rfl
                                                refine pure_ (i := 4) (N := some 152) (v := ?_) (a' := ?_) #[true, true, false, true, true, false, false, false, false, false, false, false] rfl rfl (any_of HT_.out (by kernel_rfl)) (fun _ _ _ h => h) (Or.inl ⟨by rfl, ?_⟩) ?_ ?_
                                                rotate_left
                                                · intro w'
                                                  go_simp
                                                  with_reducible rfl
                                                rotate_left
                                                · simp only [Act.put, List.setIfInBounds_toArray, List.set_cons_zero, List.set_cons_succ, i64_w, i32_w]
                                                  rfl
                                                refine take_ (i := 2) (N := some 150) (v := ?_) (a' := ?_) #[true, true, true, true, true, false, false, false, false, false, false, false] rfl rfl (take_ofW HT_.out HW_.out (by kernel_rfl)) (fun _ _ _ h => h) (Or.inl ⟨by rfl, ?_⟩) hHeld ?_ ?_
                                                rotate_left
                                                · rintro w' ⟨s0, s1⟩
                                                  go_simp
                                                  with_reducible rfl
                                                rotate_left
                                                · simp only [Act.put, List.setIfInBounds_toArray, List.set_cons_zero, List.set_cons_succ, i64_w, i32_w]
                                                  rfl
                                                refine take_ (i := 5) (N := some 153) (v := ?_) (a' := ?_) #[true, true, true, true, true, true, false, false, false, false, false, false] rfl rfl (take_ofW HT_.out HW_.out (by kernel_rfl)) (fun _ _ _ h => h) (Or.inl ⟨by rfl, ?_⟩) hHeld ?_ ?_
                                                rotate_left
                                                · rintro w' ⟨s0, s1⟩
                                                  go_simp
                                                  with_reducible rfl
                                                rotate_left
                                                · simp only [Act.put, List.setIfInBounds_toArray, List.set_cons_zero, List.set_cons_succ, i64_w, i32_w]
                                                  rfl
                                                refine one_ (i := 6) (N := some 154) #[true, true, true, true, true, true, true, false, false, false, false, false] rfl rfl (one_of HT_.out (by kernel_rfl)) (by decide) (fun K hK => ?_)
                                                refine goes_ Try.func32 (by kernel_rfl) rfl #[.string (rdOf ByteArray.empty t310 0), .string (rdOf ByteArray.empty t310 1)] (by rfl) rfl rfl (by (try simp only [List.map_toArray, List.map_cons, List.map_nil]); first | done | rfl | (simp only [List.length_drop, List.length_take]; rfl)) ?_
                                                with_reducible refine (term_Mac.calls (rdOf ByteArray.empty t310 0) (rdOf ByteArray.empty t310 1) t333 t334 _ A108.out).mono ?_
                                                rintro e w114 ⟨rfl, hb⟩
                                                have HS0_ := (hb.cell (World.block_lt_of_cell? _ _ (hHeld.1))).trans (hHeld.1)
                                                have HS1_ := (hb.cell (World.block_lt_of_cell? _ _ (hHeld.2))).trans (hHeld.2)
                                                refine ⟨_, rfl, ?_⟩
                                                have n0_ := Aside0.mk (Kd.R_below (by (with_reducible repeat (first | apply Kd.R_alloc | apply Kd.R_drewN | apply Kd.R_drew)); exact HO_9.out) hb)
                                                have n1_ := Aside0.mk (below_step (by repeat (first | (with_reducible first | exact HB.out | apply below_alloc | apply pw_below_drewN | apply below_drew1) | exact HB.out)) hb)
                                                clear HO_9
                                                clear HB
                                                have HO_9 := n0_
                                                have HB := n1_
                                                clear n0_ n1_
                                                (try clear hb)
                                                (try clear hb2)
                                                (try clear hk)
                                                (try clear hi)
                                                refine hK.out _ _ ⟨HS0_, HS1_⟩ (fun hHeld => ?_)
                                                clear hK K
                                                refine norm_ (a' := ?_) ?_ ?_
                                                rotate_left
                                                · show Act.put _ (some 154) _ = _
                                                  simp only [Act.put, List.setIfInBounds_toArray, List.set_cons_zero, List.set_cons_succ, i64_w, i32_w]
                                                  rfl
                                                refine pure_ (i := 7) (N := some 147) (v := ?_) (a' := ?_) #[true, true, true, true, true, true, true, true, false, false, false, false] rfl rfl (any_of HT_.out (by kernel_rfl)) (fun _ _ _ h => h) (Or.inl ⟨by rfl, ?_⟩) ?_ ?_
                                                rotate_left
                                                · intro w'
                                                  go_simp
                                                  with_reducible rfl
                                                rotate_left
                                                · simp only [Act.put, List.setIfInBounds_toArray, List.set_cons_zero, List.set_cons_succ, i64_w, i32_w]
                                                  rfl
                                                refine pure_ (i := 8) (N := some 155) (v := ?_) (a' := ?_) #[true, true, true, true, true, true, true, true, true, false, false, false] rfl rfl (any_of HT_.out (by kernel_rfl)) (fun _ _ _ h => h) (Or.inl ⟨by rfl, ?_⟩) ?_ ?_
                                                rotate_left
                                                · intro w'
                                                  go_simp
                                                  with_reducible rfl
                                                rotate_left
                                                · simp only [Act.put, List.setIfInBounds_toArray, List.set_cons_zero, List.set_cons_succ, i64_w, i32_w]
                                                  rfl
                                                refine pure_ (i := 9) (N := some 156) (v := ?_) (a' := ?_) #[true, true, true, true, true, true, true, true, true, true, false, false] rfl rfl (any_of HT_.out (by kernel_rfl)) (fun _ _ _ h => h) (Or.inl ⟨by rfl, ?_⟩) ?_ ?_
                                                rotate_left
                                                · intro w'
                                                  go_simp
                                                  with_reducible rfl
                                                rotate_left
                                                · simp only [Act.put, List.setIfInBounds_toArray, List.set_cons_zero, List.set_cons_succ, i64_w, i32_w]
                                                  rfl
                                                refine pure_ (i := 10) (N := some 14) (v := ?_) (a' := ?_) #[true, true, true, true, true, true, true, true, true, true, true, false] rfl rfl (any_of HT_.out (by kernel_rfl)) (fun _ _ _ h => h) (Or.inl ⟨by rfl, ?_⟩) ?_ ?_
                                                rotate_left
                                                · intro w'
                                                  go_simp
                                                  with_reducible rfl
                                                rotate_left
                                                · simp only [Act.put, List.setIfInBounds_toArray, List.set_cons_zero, List.set_cons_succ, i64_w, i32_w]
                                                  rfl
                                                refine pure_ (i := 11) (N := some 15) (v := ?_) (a' := ?_) #[true, true, true, true, true, true, true, true, true, true, true, true] rfl rfl (any_of HT_.out (by kernel_rfl)) (fun _ _ _ h => h) (Or.inl ⟨by rfl, ?_⟩) ?_ ?_
                                                rotate_left
                                                · intro w'
                                                  go_simp
                                                  with_reducible rfl
                                                rotate_left
                                                · simp only [Act.put, List.setIfInBounds_toArray, List.set_cons_zero, List.set_cons_succ, i64_w, i32_w]
                                                  rfl
                                                refine done_ (done_of HT_.out (by kernel_rfl)) ?_
                                                try go_wp2_with (first | (go_at_call 22; (with_reducible refine (chirographlaw06_alive.calls  t335 _ A111.out).mono ?_); rintro e w115 ⟨rfl, hb⟩; have n0_ := Aside0.mk (Kd.R_below (by (with_reducible repeat (first | apply Kd.R_alloc | apply Kd.R_drewN | apply Kd.R_drew)); exact HO_9.out) hb); have n1_ := Aside0.mk (below_step (by repeat (first | (with_reducible first | exact HB.out | apply below_alloc | apply pw_below_drewN | apply below_drew1) | exact HB.out)) hb); clear HO_9; clear HB; have HO_9 := n0_; have HB := n1_; clear n0_ n1_; (try clear hb); (try clear hb2); (try clear hk); (try clear hi)))
                                                go_ret
                                                exact ⟨by first | rfl | (simp [errW_none, errW_some] <;> rfl) | (simp [*, errW_none, errW_some] <;> rfl) | (exact absurd (show ((3 : Int) == 0) = true by assumption) (by decide)), by repeat (first | (with_reducible first | exact HB.out | apply below_alloc | apply pw_below_drewN | apply below_drew1) | exact HB.out)⟩
                                              · rw [if_neg c110] at H
                                                have c110b0 : (t333.toList == a0.toList) = false := beq_eq_false_iff_ne.mpr c110
                                                have c110b1 : (t333.toList != a0.toList) = true := bne_iff_ne.mpr c110
                                                obtain rfl := Option.some.inj H
                                                try go_wp2
                                                have n0_ := Aside0.mk (Kd.R_drew HO_9.out)
                                                have n1_ := Aside0.mk (below_drew1 HB.out)
                                                clear HO_9
                                                clear HB
                                                have HO_9 := n0_
                                                have HB := n1_
                                                clear n0_ n1_
                                                obtain ⟨Ao117, co117, eo117⟩ := Kd.R_slice HO_9.out
                                                (first | subst eo117 | (injection eo117 with f1_ f2_ f3_; have f4_ := f1_.symm; have f5_ := f3_.symm; clear f1_ f2_ f3_; subst f4_; subst f5_))
                                                have p331 : 0 ≤ (0 : Int) := (by omega)
                                                have q331 : 0 < (t310.length : Int) := of_decide_eq_true (by first | (with_reducible assumption) | assumption)
                                                obtain ⟨ad331, e331, hx331_0⟩ := Kd.at_string (Kd.R_reads' HO_9.out).2.2 0 p331 q331
                                                cases e331
                                                have qi331 : (0 < t310.length) = True := eq_true (by omega)
                                                (try rw [show ((0 : Int)).toNat = 0 from rfl] at hx331_0)
                                                (try rw [Addr.add_zero'] at hx331_0)
                                                replace p331 := eq_true p331
                                                replace q331 := eq_true q331
                                                have p332 : 0 ≤ (1 : Int) := (by omega)
                                                have q332 : 1 < (t310.length : Int) := of_decide_eq_true (by first | (with_reducible assumption) | assumption)
                                                obtain ⟨ad332, e332, hx332_0⟩ := Kd.at_string (Kd.R_reads' HO_9.out).2.2 1 p332 q332
                                                obtain rfl : ad331 = ad332 := (by injection e332)
                                                (try simp only [show (1 : Int).toNat = 1 from rfl, Nat.reduceMul, Nat.reduceEqDiff, Go.Addr.add, ↓reduceIte] at hx332_0)
                                                have qi332 : (1 < t310.length) = True := eq_true (by omega)
                                                (try rw [show ((1 : Int)).toNat = 1 from rfl] at hx332_0)
                                                replace p332 := eq_true p332
                                                replace q332 := eq_true q332
                                                refine start_ (n := 12) (S := fun w' => w'.cell? ad331 = some (.string (rdOf ByteArray.empty t310 0)) ∧ w'.cell? ⟨ad331.block, ad331.off + 1, none⟩ = some (.string (rdOf ByteArray.empty t310 1))) (ds := []) #[false, false, false, false, false, false, false, false, false, false, false, false] (by kernel_rfl) rfl rfl ⟨hx331_0, hx332_0⟩ (fun hHeld => ?_); refine with_tabW chirographlaw06_TermOpens.tab23 chirographlaw06_TermOpens.bits23 (fun HT_ HW_ => ?_)
                                                generalize wc.drew = w116 at HO_9 HB hx331_0 hx332_0 hHeld ⊢
                                                refine pure_ (i := 0) (N := some 148) (v := ?_) (a' := ?_) #[true, false, false, false, false, false, false, false, false, false, false, false] rfl rfl (any_of HT_.out (by kernel_rfl)) (fun _ _ _ h => h) (Or.inl ⟨by rfl, ?_⟩) ?_ ?_
                                                rotate_left
                                                · intro w'
                                                  go_simp
                                                  with_reducible rfl
                                                rotate_left
                                                · simp only [Act.put, List.setIfInBounds_toArray, List.set_cons_zero, List.set_cons_succ, i64_w, i32_w]
                                                  rfl
                                                refine pure_ (i := 1) (N := some 149) (v := ?_) (a' := ?_) #[true, true, false, false, false, false, false, false, false, false, false, false] rfl rfl (any_of HT_.out (by kernel_rfl)) (fun _ _ _ h => h) (Or.inl ⟨by rfl, ?_⟩) ?_ ?_
                                                rotate_left
                                                · intro w'
                                                  go_simp
                                                  with_reducible rfl
                                                rotate_left
                                                · simp only [Act.put, List.setIfInBounds_toArray, List.set_cons_zero, List.set_cons_succ, i64_w, i32_w]
                                                  rfl
                                                refine pure_ (i := 3) (N := some 151) (v := ?_) (a' := ?_) #[true, true, false, true, false, false, false, false, false, false, false, false] rfl rfl (any_of HT_.out (by kernel_rfl)) (fun _ _ _ h => h) (Or.inl ⟨by rfl, ?_⟩) ?_ ?_
                                                rotate_left
                                                · intro w'
                                                  go_simp
                                                  with_reducible rfl
                                                rotate_left
                                                · simp only [Act.put, List.setIfInBounds_toArray, List.set_cons_zero, List.set_cons_succ, i64_w, i32_w]
                                                  rfl
                                                refine pure_ (i := 4) (N := some 152) (v := ?_) (a' := ?_) #[true, true, false, true, true, false, false, false, false, false, false, false] rfl rfl (any_of HT_.out (by kernel_rfl)) (fun _ _ _ h => h) (Or.inl ⟨by rfl, ?_⟩) ?_ ?_
                                                rotate_left
                                                · intro w'
                                                  go_simp
                                                  with_reducible rfl
                                                rotate_left
                                                · simp only [Act.put, List.setIfInBounds_toArray, List.set_cons_zero, List.set_cons_succ, i64_w, i32_w]
                                                  rfl
                                                refine take_ (i := 2) (N := some 150) (v := ?_) (a' := ?_) #[true, true, true, true, true, false, false, false, false, false, false, false] rfl rfl (take_ofW HT_.out HW_.out (by kernel_rfl)) (fun _ _ _ h => h) (Or.inl ⟨by rfl, ?_⟩) hHeld ?_ ?_
                                                rotate_left
                                                · rintro w' ⟨s0, s1⟩
                                                  go_simp
                                                  with_reducible rfl
                                                rotate_left
                                                · simp only [Act.put, List.setIfInBounds_toArray, List.set_cons_zero, List.set_cons_succ, i64_w, i32_w]
                                                  rfl
                                                refine take_ (i := 5) (N := some 153) (v := ?_) (a' := ?_) #[true, true, true, true, true, true, false, false, false, false, false, false] rfl rfl (take_ofW HT_.out HW_.out (by kernel_rfl)) (fun _ _ _ h => h) (Or.inl ⟨by rfl, ?_⟩) hHeld ?_ ?_
                                                rotate_left
                                                · rintro w' ⟨s0, s1⟩
                                                  go_simp
                                                  with_reducible rfl
                                                rotate_left
                                                · simp only [Act.put, List.setIfInBounds_toArray, List.set_cons_zero, List.set_cons_succ, i64_w, i32_w]
                                                  rfl
                                                refine one_ (i := 6) (N := some 154) #[true, true, true, true, true, true, true, false, false, false, false, false] rfl rfl (one_of HT_.out (by kernel_rfl)) (by decide) (fun K hK => ?_)
                                                refine goes_ Try.func32 (by kernel_rfl) rfl #[.string (rdOf ByteArray.empty t310 0), .string (rdOf ByteArray.empty t310 1)] (by rfl) rfl rfl (by (try simp only [List.map_toArray, List.map_cons, List.map_nil]); first | done | rfl | (simp only [List.length_drop, List.length_take]; rfl)) ?_
                                                with_reducible refine (term_Mac.calls (rdOf ByteArray.empty t310 0) (rdOf ByteArray.empty t310 1) t333 t334 _ A108.out).mono ?_
                                                rintro e w118 ⟨rfl, hb⟩
                                                have HS0_ := (hb.cell (World.block_lt_of_cell? _ _ (hHeld.1))).trans (hHeld.1)
                                                have HS1_ := (hb.cell (World.block_lt_of_cell? _ _ (hHeld.2))).trans (hHeld.2)
                                                refine ⟨_, rfl, ?_⟩
                                                have n0_ := Aside0.mk (Kd.R_below (by (with_reducible repeat (first | apply Kd.R_alloc | apply Kd.R_drewN | apply Kd.R_drew)); exact HO_9.out) hb)
                                                have n1_ := Aside0.mk (below_step (by repeat (first | (with_reducible first | exact HB.out | apply below_alloc | apply pw_below_drewN | apply below_drew1) | exact HB.out)) hb)
                                                clear HO_9
                                                clear HB
                                                have HO_9 := n0_
                                                have HB := n1_
                                                clear n0_ n1_
                                                (try clear hb)
                                                (try clear hb2)
                                                (try clear hk)
                                                (try clear hi)
                                                refine hK.out _ _ ⟨HS0_, HS1_⟩ (fun hHeld => ?_)
                                                clear hK K
                                                refine norm_ (a' := ?_) ?_ ?_
                                                rotate_left
                                                · show Act.put _ (some 154) _ = _
                                                  simp only [Act.put, List.setIfInBounds_toArray, List.set_cons_zero, List.set_cons_succ, i64_w, i32_w]
                                                  rfl
                                                refine pure_ (i := 7) (N := some 147) (v := ?_) (a' := ?_) #[true, true, true, true, true, true, true, true, false, false, false, false] rfl rfl (any_of HT_.out (by kernel_rfl)) (fun _ _ _ h => h) (Or.inl ⟨by rfl, ?_⟩) ?_ ?_
                                                rotate_left
                                                · intro w'
                                                  go_simp
                                                  with_reducible rfl
                                                rotate_left
                                                · simp only [Act.put, List.setIfInBounds_toArray, List.set_cons_zero, List.set_cons_succ, i64_w, i32_w]
                                                  rfl
                                                refine pure_ (i := 8) (N := some 155) (v := ?_) (a' := ?_) #[true, true, true, true, true, true, true, true, true, false, false, false] rfl rfl (any_of HT_.out (by kernel_rfl)) (fun _ _ _ h => h) (Or.inl ⟨by rfl, ?_⟩) ?_ ?_
                                                rotate_left
                                                · intro w'
                                                  go_simp
                                                  with_reducible rfl
                                                rotate_left
                                                · simp only [Act.put, List.setIfInBounds_toArray, List.set_cons_zero, List.set_cons_succ, i64_w, i32_w]
                                                  rfl
                                                refine pure_ (i := 9) (N := some 156) (v := ?_) (a' := ?_) #[true, true, true, true, true, true, true, true, true, true, false, false] rfl rfl (any_of HT_.out (by kernel_rfl)) (fun _ _ _ h => h) (Or.inl ⟨by rfl, ?_⟩) ?_ ?_
                                                rotate_left
                                                · intro w'
                                                  go_simp
                                                  with_reducible rfl
                                                rotate_left
                                                · simp only [Act.put, List.setIfInBounds_toArray, List.set_cons_zero, List.set_cons_succ, i64_w, i32_w]
                                                  rfl
                                                refine pure_ (i := 10) (N := some 14) (v := ?_) (a' := ?_) #[true, true, true, true, true, true, true, true, true, true, true, false] rfl rfl (any_of HT_.out (by kernel_rfl)) (fun _ _ _ h => h) (Or.inl ⟨by rfl, ?_⟩) ?_ ?_
                                                rotate_left
                                                · intro w'
                                                  go_simp
                                                  with_reducible rfl
                                                rotate_left
                                                · simp only [Act.put, List.setIfInBounds_toArray, List.set_cons_zero, List.set_cons_succ, i64_w, i32_w]
                                                  rfl
                                                refine pure_ (i := 11) (N := some 15) (v := ?_) (a' := ?_) #[true, true, true, true, true, true, true, true, true, true, true, true] rfl rfl (any_of HT_.out (by kernel_rfl)) (fun _ _ _ h => h) (Or.inl ⟨by rfl, ?_⟩) ?_ ?_
                                                rotate_left
                                                · intro w'
                                                  go_simp
                                                  with_reducible rfl
                                                rotate_left
                                                · simp only [Act.put, List.setIfInBounds_toArray, List.set_cons_zero, List.set_cons_succ, i64_w, i32_w]
                                                  rfl
                                                refine done_ (done_of HT_.out (by kernel_rfl)) ?_
                                                try go_wp2
                                                go_ret
                                                exact ⟨by first | rfl | (simp [errW_none, errW_some] <;> rfl) | (simp [*, errW_none, errW_some] <;> rfl) | (exact absurd (show ((3 : Int) == 0) = true by assumption) (by decide)), by repeat (first | (with_reducible first | exact HB.out | apply below_alloc | apply pw_below_drewN | apply below_drew1) | exact HB.out)⟩
                                            · rw [if_neg c109] at H
                                              have c109b0 : (t334 == 0) = false := beq_eq_false_iff_ne.mpr c109
                                              have c109b1 : (t334 != 0) = true := bne_iff_ne.mpr c109
                                              obtain rfl := Option.some.inj H
                                              try go_wp2
                                              have n0_ := Aside0.mk (Kd.R_drew HO_9.out)
                                              have n1_ := Aside0.mk (below_drew1 HB.out)
                                              clear HO_9
                                              clear HB
                                              have HO_9 := n0_
                                              have HB := n1_
                                              clear n0_ n1_
                                              obtain ⟨Ao120, co120, eo120⟩ := Kd.R_slice HO_9.out
                                              (first | subst eo120 | (injection eo120 with f1_ f2_ f3_; have f4_ := f1_.symm; have f5_ := f3_.symm; clear f1_ f2_ f3_; subst f4_; subst f5_))
                                              have p331 : 0 ≤ (0 : Int) := (by omega)
                                              have q331 : 0 < (t310.length : Int) := of_decide_eq_true (by first | (with_reducible assumption) | assumption)
                                              obtain ⟨ad331, e331, hx331_0⟩ := Kd.at_string (Kd.R_reads' HO_9.out).2.2 0 p331 q331
                                              cases e331
                                              have qi331 : (0 < t310.length) = True := eq_true (by omega)
                                              (try rw [show ((0 : Int)).toNat = 0 from rfl] at hx331_0)
                                              (try rw [Addr.add_zero'] at hx331_0)
                                              replace p331 := eq_true p331
                                              replace q331 := eq_true q331
                                              have p332 : 0 ≤ (1 : Int) := (by omega)
                                              have q332 : 1 < (t310.length : Int) := of_decide_eq_true (by first | (with_reducible assumption) | assumption)
                                              obtain ⟨ad332, e332, hx332_0⟩ := Kd.at_string (Kd.R_reads' HO_9.out).2.2 1 p332 q332
                                              obtain rfl : ad331 = ad332 := (by injection e332)
                                              (try simp only [show (1 : Int).toNat = 1 from rfl, Nat.reduceMul, Nat.reduceEqDiff, Go.Addr.add, ↓reduceIte] at hx332_0)
                                              have qi332 : (1 < t310.length) = True := eq_true (by omega)
                                              (try rw [show ((1 : Int)).toNat = 1 from rfl] at hx332_0)
                                              replace p332 := eq_true p332
                                              replace q332 := eq_true q332
                                              refine start_ (n := 12) (S := fun w' => w'.cell? ad331 = some (.string (rdOf ByteArray.empty t310 0)) ∧ w'.cell? ⟨ad331.block, ad331.off + 1, none⟩ = some (.string (rdOf ByteArray.empty t310 1))) (ds := []) #[false, false, false, false, false, false, false, false, false, false, false, false] (by kernel_rfl) rfl rfl ⟨hx331_0, hx332_0⟩ (fun hHeld => ?_); refine with_tabW chirographlaw06_TermOpens.tab23 chirographlaw06_TermOpens.bits23 (fun HT_ HW_ => ?_)
                                              generalize wc.drew = w119 at HO_9 HB hx331_0 hx332_0 hHeld ⊢
                                              refine pure_ (i := 0) (N := some 148) (v := ?_) (a' := ?_) #[true, false, false, false, false, false, false, false, false, false, false, false] rfl rfl (any_of HT_.out (by kernel_rfl)) (fun _ _ _ h => h) (Or.inl ⟨by rfl, ?_⟩) ?_ ?_
                                              rotate_left
                                              · intro w'
                                                go_simp
                                                with_reducible rfl
                                              rotate_left
                                              · simp only [Act.put, List.setIfInBounds_toArray, List.set_cons_zero, List.set_cons_succ, i64_w, i32_w]
                                                rfl
                                              refine pure_ (i := 1) (N := some 149) (v := ?_) (a' := ?_) #[true, true, false, false, false, false, false, false, false, false, false, false] rfl rfl (any_of HT_.out (by kernel_rfl)) (fun _ _ _ h => h) (Or.inl ⟨by rfl, ?_⟩) ?_ ?_
                                              rotate_left
                                              · intro w'
                                                go_simp
                                                with_reducible rfl
                                              rotate_left
                                              · simp only [Act.put, List.setIfInBounds_toArray, List.set_cons_zero, List.set_cons_succ, i64_w, i32_w]
                                                rfl
                                              refine pure_ (i := 3) (N := some 151) (v := ?_) (a' := ?_) #[true, true, false, true, false, false, false, false, false, false, false, false] rfl rfl (any_of HT_.out (by kernel_rfl)) (fun _ _ _ h => h) (Or.inl ⟨by rfl, ?_⟩) ?_ ?_
                                              rotate_left
                                              · intro w'
                                                go_simp
                                                with_reducible rfl
                                              rotate_left
                                              · simp only [Act.put, List.setIfInBounds_toArray, List.set_cons_zero, List.set_cons_succ, i64_w, i32_w]
                                                rfl
                                              refine pure_ (i := 4) (N := some 152) (v := ?_) (a' := ?_) #[true, true, false, true, true, false, false, false, false, false, false, false] rfl rfl (any_of HT_.out (by kernel_rfl)) (fun _ _ _ h => h) (Or.inl ⟨by rfl, ?_⟩) ?_ ?_
                                              rotate_left
                                              · intro w'
                                                go_simp
                                                with_reducible rfl
                                              rotate_left
                                              · simp only [Act.put, List.setIfInBounds_toArray, List.set_cons_zero, List.set_cons_succ, i64_w, i32_w]
                                                rfl
                                              refine take_ (i := 2) (N := some 150) (v := ?_) (a' := ?_) #[true, true, true, true, true, false, false, false, false, false, false, false] rfl rfl (take_ofW HT_.out HW_.out (by kernel_rfl)) (fun _ _ _ h => h) (Or.inl ⟨by rfl, ?_⟩) hHeld ?_ ?_
                                              rotate_left
                                              · rintro w' ⟨s0, s1⟩
                                                go_simp
                                                with_reducible rfl
                                              rotate_left
                                              · simp only [Act.put, List.setIfInBounds_toArray, List.set_cons_zero, List.set_cons_succ, i64_w, i32_w]
                                                rfl
                                              refine take_ (i := 5) (N := some 153) (v := ?_) (a' := ?_) #[true, true, true, true, true, true, false, false, false, false, false, false] rfl rfl (take_ofW HT_.out HW_.out (by kernel_rfl)) (fun _ _ _ h => h) (Or.inl ⟨by rfl, ?_⟩) hHeld ?_ ?_
                                              rotate_left
                                              · rintro w' ⟨s0, s1⟩
                                                go_simp
                                                with_reducible rfl
                                              rotate_left
                                              · simp only [Act.put, List.setIfInBounds_toArray, List.set_cons_zero, List.set_cons_succ, i64_w, i32_w]
                                                rfl
                                              refine one_ (i := 6) (N := some 154) #[true, true, true, true, true, true, true, false, false, false, false, false] rfl rfl (one_of HT_.out (by kernel_rfl)) (by decide) (fun K hK => ?_)
                                              refine goes_ Try.func32 (by kernel_rfl) rfl #[.string (rdOf ByteArray.empty t310 0), .string (rdOf ByteArray.empty t310 1)] (by rfl) rfl rfl (by (try simp only [List.map_toArray, List.map_cons, List.map_nil]); first | done | rfl | (simp only [List.length_drop, List.length_take]; rfl)) ?_
                                              with_reducible refine (term_Mac.calls (rdOf ByteArray.empty t310 0) (rdOf ByteArray.empty t310 1) t333 t334 _ A108.out).mono ?_
                                              rintro e w121 ⟨rfl, hb⟩
                                              have HS0_ := (hb.cell (World.block_lt_of_cell? _ _ (hHeld.1))).trans (hHeld.1)
                                              have HS1_ := (hb.cell (World.block_lt_of_cell? _ _ (hHeld.2))).trans (hHeld.2)
                                              refine ⟨_, rfl, ?_⟩
                                              have n0_ := Aside0.mk (Kd.R_below (by (with_reducible repeat (first | apply Kd.R_alloc | apply Kd.R_drewN | apply Kd.R_drew)); exact HO_9.out) hb)
                                              have n1_ := Aside0.mk (below_step (by repeat (first | (with_reducible first | exact HB.out | apply below_alloc | apply pw_below_drewN | apply below_drew1) | exact HB.out)) hb)
                                              clear HO_9
                                              clear HB
                                              have HO_9 := n0_
                                              have HB := n1_
                                              clear n0_ n1_
                                              (try clear hb)
                                              (try clear hb2)
                                              (try clear hk)
                                              (try clear hi)
                                              refine hK.out _ _ ⟨HS0_, HS1_⟩ (fun hHeld => ?_)
                                              clear hK K
                                              refine norm_ (a' := ?_) ?_ ?_
                                              rotate_left
                                              · show Act.put _ (some 154) _ = _
                                                simp only [Act.put, List.setIfInBounds_toArray, List.set_cons_zero, List.set_cons_succ, i64_w, i32_w]
                                                rfl
                                              refine pure_ (i := 7) (N := some 147) (v := ?_) (a' := ?_) #[true, true, true, true, true, true, true, true, false, false, false, false] rfl rfl (any_of HT_.out (by kernel_rfl)) (fun _ _ _ h => h) (Or.inl ⟨by rfl, ?_⟩) ?_ ?_
                                              rotate_left
                                              · intro w'
                                                go_simp
                                                with_reducible rfl
                                              rotate_left
                                              · simp only [Act.put, List.setIfInBounds_toArray, List.set_cons_zero, List.set_cons_succ, i64_w, i32_w]
                                                rfl
                                              refine pure_ (i := 8) (N := some 155) (v := ?_) (a' := ?_) #[true, true, true, true, true, true, true, true, true, false, false, false] rfl rfl (any_of HT_.out (by kernel_rfl)) (fun _ _ _ h => h) (Or.inl ⟨by rfl, ?_⟩) ?_ ?_
                                              rotate_left
                                              · intro w'
                                                go_simp
                                                with_reducible rfl
                                              rotate_left
                                              · simp only [Act.put, List.setIfInBounds_toArray, List.set_cons_zero, List.set_cons_succ, i64_w, i32_w]
                                                rfl
                                              refine pure_ (i := 9) (N := some 156) (v := ?_) (a' := ?_) #[true, true, true, true, true, true, true, true, true, true, false, false] rfl rfl (any_of HT_.out (by kernel_rfl)) (fun _ _ _ h => h) (Or.inl ⟨by rfl, ?_⟩) ?_ ?_
                                              rotate_left
                                              · intro w'
                                                go_simp
                                                with_reducible rfl
                                              rotate_left
                                              · simp only [Act.put, List.setIfInBounds_toArray, List.set_cons_zero, List.set_cons_succ, i64_w, i32_w]
                                                rfl
                                              refine pure_ (i := 10) (N := some 14) (v := ?_) (a' := ?_) #[true, true, true, true, true, true, true, true, true, true, true, false] rfl rfl (any_of HT_.out (by kernel_rfl)) (fun _ _ _ h => h) (Or.inl ⟨by rfl, ?_⟩) ?_ ?_
                                              rotate_left
                                              · intro w'
                                                go_simp
                                                with_reducible rfl
                                              rotate_left
                                              · simp only [Act.put, List.setIfInBounds_toArray, List.set_cons_zero, List.set_cons_succ, i64_w, i32_w]
                                                rfl
                                              refine pure_ (i := 11) (N := some 15) (v := ?_) (a' := ?_) #[true, true, true, true, true, true, true, true, true, true, true, true] rfl rfl (any_of HT_.out (by kernel_rfl)) (fun _ _ _ h => h) (Or.inl ⟨by rfl, ?_⟩) ?_ ?_
                                              rotate_left
                                              · intro w'
                                                go_simp
                                                with_reducible rfl
                                              rotate_left
                                              · simp only [Act.put, List.setIfInBounds_toArray, List.set_cons_zero, List.set_cons_succ, i64_w, i32_w]
                                                rfl
                                              refine done_ (done_of HT_.out (by kernel_rfl)) ?_
                                              try go_wp2
                                              go_ret
                                              exact ⟨by first | rfl | (simp [errW_none, errW_some] <;> rfl) | (simp [*, errW_none, errW_some] <;> rfl) | (exact absurd (show ((3 : Int) == 0) = true by assumption) (by decide)), by repeat (first | (with_reducible first | exact HB.out | apply below_alloc | apply pw_below_drewN | apply below_drew1) | exact HB.out)⟩
                                          · rw [if_neg c107] at H
                                            exact absurd H (by simp)
                                        · rw [if_neg c106] at H
                                          exact absurd H (by simp)
                                      · replace c105 := Bool.eq_false_iff.mpr c105
                                        subst c105
                                        have H1 : (if t316 = 6 then (if (t310.length : Int) = 3 then (chirographlaw06_TermOpens.j6 kj99 a0 t310 (⟨#[]⟩ : ByteArray) 3 (!t315)) else (chirographlaw06_TermOpens.j6 kj99 a0 t310 (⟨#[]⟩ : ByteArray) 3 false)) else (chirographlaw06_TermOpens.j6 kj99 a0 t310 (⟨#[]⟩ : ByteArray) 3 false)) = some r := by rw [if_neg (show ¬ (false = true) by decide)] at H; exact H
                                        clear H
                                        have H := H1
                                        clear H1
                                        have HC122 := Aside0.mk H
                                        clear H
                                        go_upto_region 24 with (fail)
                                        go_cut [157] (fun v157 wc => ∃ (kq : Nat) (x157_121 : Bool), v157 = .bool x157_121 ∧ Aside0 (chirographlaw06_TermOpens.j6 kq a0 t310 (⟨#[]⟩ : ByteArray) 3 x157_121 = some r) ∧ Aside0 (kq ≤ kj99) ∧ Aside0 (Kd.R Kd.string 9 wc w.heap.size (fun _ => True) v312 t310) ∧ Aside0 (Below w.heap.size w wc))
                                        case first =>
                                          have H := HC122.out
                                          clear HC122
                                          by_cases c123 : t316 = 6
                                          · as_aux_lemma =>
                                              rw [if_pos c123] at H
                                              have c123b0 : (t316 == 6) = true := beq_iff_eq.mpr c123
                                              have c123b1 : (t316 != 6) = false := bne_eq_false_iff_eq.mpr c123
                                              clear c123
                                              (first | rw [c123b0] | (simp only [i64_w, i32_w]; rw [c123b0]) | skip)
                                              by_cases c124 : (t310.length : Int) = 3
                                              · rw [if_pos c124] at H
                                                have c124b0 : ((t310.length : Int) == 3) = true := beq_iff_eq.mpr c124
                                                have c124b1 : ((t310.length : Int) != 3) = false := bne_eq_false_iff_eq.mpr c124
                                                clear c124
                                                have H' := Aside0.mk H
                                                clear H
                                                obtain ⟨Ao125, co125, eo125⟩ := Kd.R_slice HO_9.out
                                                subst eo125
                                                go_wp2
                                                go_meet
                                                case rel => exact ⟨_, (!t315), (by first | rfl | (simp; done) | (simp [*]; done) | (simp [bne_nil_, beq_nil_]; done) | (simp [bne_nil_, beq_nil_, *]; done)), H', ⟨by have := HJ7.out; have := HJ36.out; have := HJ53.out; have := HJ67.out; have := HJ81.out; have := HJ99.out; first | omega | exact Nat.le_refl _⟩, ⟨by (with_reducible repeat (first | apply Kd.R_alloc | apply Kd.R_drewN | apply Kd.R_drew)); exact HO_9.out⟩, ⟨by repeat (first | (with_reducible first | exact HB.out | apply below_alloc | apply pw_below_drewN | apply below_drew1) | exact HB.out)⟩⟩
                                              · rw [if_neg c124] at H
                                                have c124b0 : ((t310.length : Int) == 3) = false := beq_eq_false_iff_ne.mpr c124
                                                have c124b1 : ((t310.length : Int) != 3) = true := bne_iff_ne.mpr c124
                                                have H' := Aside0.mk H
                                                clear H
                                                obtain ⟨Ao126, co126, eo126⟩ := Kd.R_slice HO_9.out
                                                subst eo126
                                                go_wp2
                                                go_meet
                                                case rel => exact ⟨_, (false), (by first | rfl | (simp; done) | (simp [*]; done) | (simp [bne_nil_, beq_nil_]; done) | (simp [bne_nil_, beq_nil_, *]; done)), H', ⟨by have := HJ7.out; have := HJ36.out; have := HJ53.out; have := HJ67.out; have := HJ81.out; have := HJ99.out; first | omega | exact Nat.le_refl _⟩, ⟨by (with_reducible repeat (first | apply Kd.R_alloc | apply Kd.R_drewN | apply Kd.R_drew)); exact HO_9.out⟩, ⟨by repeat (first | (with_reducible first | exact HB.out | apply below_alloc | apply pw_below_drewN | apply below_drew1) | exact HB.out)⟩⟩
                                          · as_aux_lemma =>
                                              rw [if_neg c123] at H
                                              have c123b0 : (t316 == 6) = false := beq_eq_false_iff_ne.mpr c123
                                              have c123b1 : (t316 != 6) = true := bne_iff_ne.mpr c123
                                              (first | rw [c123b0] | (simp only [i64_w, i32_w]; rw [c123b0]) | skip)
                                              have H' := Aside0.mk H
                                              clear H
                                              go_wp2
                                              go_meet
                                              case rel => exact ⟨_, (false), (by first | rfl | (simp; done) | (simp [*]; done) | (simp [bne_nil_, beq_nil_]; done) | (simp [bne_nil_, beq_nil_, *]; done)), H', ⟨by have := HJ7.out; have := HJ36.out; have := HJ53.out; have := HJ67.out; have := HJ81.out; have := HJ99.out; first | omega | exact Nat.le_refl _⟩, ⟨by (with_reducible repeat (first | apply Kd.R_alloc | apply Kd.R_drewN | apply Kd.R_drew)); exact HO_9.out⟩, ⟨by repeat (first | (with_reducible first | exact HB.out | apply below_alloc | apply pw_below_drewN | apply below_drew1) | exact HB.out)⟩⟩
                                        case rest =>
                                          clear HC122
                                          try clear c1
                                          try clear p2
                                          try clear c3
                                          try clear p3
                                          try clear q3
                                          try clear hx3
                                          try clear qi3
                                          try clear c5
                                          try clear c6
                                          try clear c7
                                          try clear c8
                                          try clear c9
                                          try clear c10
                                          try clear c11
                                          try clear c12
                                          try clear c32
                                          try clear p32
                                          try clear q32
                                          try clear hx32
                                          try clear p33
                                          try clear q33
                                          try clear hx33
                                          try clear qi33
                                          try clear c51
                                          try clear c55
                                          try clear c55b0
                                          try clear c55b1
                                          try clear c56
                                          try clear c56b0
                                          try clear c56b1
                                          try clear c56b2
                                          try clear c59
                                          try clear c61
                                          try clear c61b0
                                          try clear c61b1
                                          try clear c62
                                          try clear c62b0
                                          try clear c62b1
                                          try clear c69
                                          try clear c69b0
                                          try clear c69b1
                                          try clear c70
                                          try clear c72
                                          try clear c72b0
                                          try clear c72b1
                                          try clear c73
                                          try clear c73b0
                                          try clear c73b1
                                          try clear c83
                                          try clear c83b0
                                          try clear c83b1
                                          try clear c84
                                          try clear c84b0
                                          try clear c84b1
                                          try clear c87
                                          try clear c88
                                          try clear c88b0
                                          try clear c88b1
                                          try clear c90
                                          try clear c90b0
                                          try clear c90b1
                                          try clear c91
                                          try clear c91b0
                                          try clear c91b1
                                          try clear c101
                                          try clear c101b0
                                          try clear c101b1
                                          try clear c102
                                          try clear c102b0
                                          try clear c102b1
                                          try clear c105
                                          try clear c106
                                          try clear c106b0
                                          try clear c106b1
                                          try clear c107
                                          try clear c107b0
                                          try clear c107b1
                                          try clear c109
                                          try clear c109b0
                                          try clear c109b1
                                          try clear c110
                                          try clear c110b0
                                          try clear c110b1
                                          try clear c123
                                          try clear c123b0
                                          try clear c123b1
                                          try clear c124
                                          try clear c124b0
                                          try clear c124b1
                                          try clear hx327_0
                                          try clear hx331_0
                                          try clear hx332_0
                                          try clear p2
                                          try clear p327
                                          try clear p331
                                          try clear p332
                                          try clear q327
                                          try clear q331
                                          try clear q332
                                          obtain ⟨kq, x157_121, rfl, HA, HJ121, HO_9, HB⟩ := hcut
                                          cases kq with
                                          | zero => exact absurd HA.out (by simp [chirographlaw06_TermOpens.j6])
                                          | succ kj121 =>
                                            have H := HA.out
                                            clear HA
                                            simp only [chirographlaw06_TermOpens.j6] at H
                                            by_cases c127 : x157_121 = true
                                            · subst c127
                                              have H1 : (if 0 < (t310.length : Int) then (if 1 < (t310.length : Int) then (if 2 < (t310.length : Int) then ((term_Seal.f (rdOf ByteArray.empty t310 0) (rdOf ByteArray.empty t310 1) (rdOf ByteArray.empty t310 2)).bind fun bt339 => (if bt339.2 = 0 then (if bt339.1.toList = a0.toList then ((chirographlaw06_alive.f).bind fun t341 => (some t341)) else (some false)) else (some false))) else (none)) else (none)) else (none)) = some r := by rw [if_pos rfl] at H; exact H
                                              clear H
                                              have H := H1
                                              clear H1
                                              by_cases c128 : 0 < (t310.length : Int)
                                              · rw [if_pos c128] at H
                                                have c128b0 : decide (0 < (t310.length : Int)) = true := decide_eq_true c128
                                                have c128b1 : decide (0 < t310.length) = true := decide_eq_true (by omega)
                                                clear c128
                                                by_cases c129 : 1 < (t310.length : Int)
                                                · rw [if_pos c129] at H
                                                  have c129b0 : decide (1 < (t310.length : Int)) = true := decide_eq_true c129
                                                  have c129b1 : decide (1 < t310.length) = true := decide_eq_true (by omega)
                                                  clear c129
                                                  by_cases c130 : 2 < (t310.length : Int)
                                                  · rw [if_pos c130] at H
                                                    have c130b0 : decide (2 < (t310.length : Int)) = true := decide_eq_true c130
                                                    have c130b1 : decide (2 < t310.length) = true := decide_eq_true (by omega)
                                                    clear c130
                                                    replace H := Option.bind_eq_some_iff.mp H
                                                    obtain ⟨⟨t339, t340⟩, A1310, H⟩ := H
                                                    replace H : (if t340 = 0 then (if t339.toList = a0.toList then ((chirographlaw06_alive.f).bind fun t341 => (some t341)) else (some false)) else (some false)) = some r := H
                                                    have A131 := Aside0.mk A1310
                                                    clear A1310
                                                    by_cases c132 : t340 = 0
                                                    · rw [if_pos c132] at H
                                                      have c132b0 : (t340 == 0) = true := beq_iff_eq.mpr c132
                                                      have c132b1 : (t340 != 0) = false := bne_eq_false_iff_eq.mpr c132
                                                      clear c132
                                                      by_cases c133 : t339.toList = a0.toList
                                                      · rw [if_pos c133] at H
                                                        have c133b0 : (t339.toList == a0.toList) = true := beq_iff_eq.mpr c133
                                                        have c133b1 : (t339.toList != a0.toList) = false := bne_eq_false_iff_eq.mpr c133
                                                        clear c133
                                                        replace H := Option.bind_eq_some_iff.mp H
                                                        obtain ⟨t341, A1340, H⟩ := H
                                                        replace H : (some t341) = some r := H
                                                        have A134 := Aside0.mk A1340
                                                        clear A1340
                                                        obtain rfl := Option.some.inj H
                                                        try go_wp2
                                                        have n0_ := Aside0.mk (Kd.R_drew HO_9.out)
                                                        have n1_ := Aside0.mk (below_drew1 HB.out)
                                                        clear HO_9
                                                        clear HB
                                                        have HO_9 := n0_
                                                        have HB := n1_
                                                        clear n0_ n1_
                                                        obtain ⟨Ao136, co136, eo136⟩ := Kd.R_slice HO_9.out
                                                        (first | subst eo136 | (injection eo136 with f1_ f2_ f3_; have f4_ := f1_.symm; have f5_ := f3_.symm; clear f1_ f2_ f3_; subst f4_; subst f5_))
                                                        have p336 : 0 ≤ (0 : Int) := (by omega)
                                                        have q336 : 0 < (t310.length : Int) := of_decide_eq_true (by first | (with_reducible assumption) | assumption)
                                                        obtain ⟨ad336, e336, hx336_0⟩ := Kd.at_string (Kd.R_reads' HO_9.out).2.2 0 p336 q336
                                                        cases e336
                                                        have qi336 : (0 < t310.length) = True := eq_true (by omega)
                                                        (try rw [show ((0 : Int)).toNat = 0 from rfl] at hx336_0)
                                                        (try rw [Addr.add_zero'] at hx336_0)
                                                        replace p336 := eq_true p336
                                                        replace q336 := eq_true q336
                                                        have p337 : 0 ≤ (1 : Int) := (by omega)
                                                        have q337 : 1 < (t310.length : Int) := of_decide_eq_true (by first | (with_reducible assumption) | assumption)
                                                        obtain ⟨ad337, e337, hx337_0⟩ := Kd.at_string (Kd.R_reads' HO_9.out).2.2 1 p337 q337
                                                        obtain rfl : ad336 = ad337 := (by injection e337)
                                                        (try simp only [show (1 : Int).toNat = 1 from rfl, Nat.reduceMul, Nat.reduceEqDiff, Go.Addr.add, ↓reduceIte] at hx337_0)
                                                        have qi337 : (1 < t310.length) = True := eq_true (by omega)
                                                        (try rw [show ((1 : Int)).toNat = 1 from rfl] at hx337_0)
                                                        replace p337 := eq_true p337
                                                        replace q337 := eq_true q337
                                                        have p338 : 0 ≤ (2 : Int) := (by omega)
                                                        have q338 : 2 < (t310.length : Int) := of_decide_eq_true (by first | (with_reducible assumption) | assumption)
                                                        obtain ⟨ad338, e338, hx338_0⟩ := Kd.at_string (Kd.R_reads' HO_9.out).2.2 2 p338 q338
                                                        obtain rfl : ad336 = ad338 := (by injection e338)
                                                        (try simp only [show (2 : Int).toNat = 2 from rfl, Nat.reduceMul, Nat.reduceEqDiff, Go.Addr.add, ↓reduceIte] at hx338_0)
                                                        have qi338 : (2 < t310.length) = True := eq_true (by omega)
                                                        (try rw [show ((2 : Int)).toNat = 2 from rfl] at hx338_0)
                                                        replace p338 := eq_true p338
                                                        replace q338 := eq_true q338
                                                        refine start_ (n := 15) (S := fun w' => w'.cell? ad336 = some (.string (rdOf ByteArray.empty t310 0)) ∧ w'.cell? ⟨ad336.block, ad336.off + 1, none⟩ = some (.string (rdOf ByteArray.empty t310 1)) ∧ w'.cell? ⟨ad336.block, ad336.off + 2, none⟩ = some (.string (rdOf ByteArray.empty t310 2))) (ds := []) #[false, false, false, false, false, false, false, false, false, false, false, false, false, false, false] (by kernel_rfl) rfl rfl ⟨hx336_0, hx337_0, hx338_0⟩ (fun hHeld => ?_); refine with_tabW chirographlaw06_TermOpens.tab25 chirographlaw06_TermOpens.bits25 (fun HT_ HW_ => ?_)
                                                        generalize wc.drew = w135 at HO_9 HB hx336_0 hx337_0 hx338_0 hHeld ⊢
                                                        refine pure_ (i := 0) (N := some 170) (v := ?_) (a' := ?_) #[true, false, false, false, false, false, false, false, false, false, false, false, false, false, false] rfl rfl (any_of HT_.out (by kernel_rfl)) (fun _ _ _ h => h) (Or.inl ⟨by rfl, ?_⟩) ?_ ?_
                                                        rotate_left
                                                        · intro w'
                                                          go_simp
                                                          with_reducible rfl
                                                        rotate_left
                                                        · simp only [Act.put, List.setIfInBounds_toArray, List.set_cons_zero, List.set_cons_succ, i64_w, i32_w]
                                                          rfl
                                                        refine pure_ (i := 1) (N := some 171) (v := ?_) (a' := ?_) #[true, true, false, false, false, false, false, false, false, false, false, false, false, false, false] rfl rfl (any_of HT_.out (by kernel_rfl)) (fun _ _ _ h => h) (Or.inl ⟨by rfl, ?_⟩) ?_ ?_
                                                        rotate_left
                                                        · intro w'
                                                          go_simp
                                                          with_reducible rfl
                                                        rotate_left
                                                        · simp only [Act.put, List.setIfInBounds_toArray, List.set_cons_zero, List.set_cons_succ, i64_w, i32_w]
                                                          rfl
                                                        refine pure_ (i := 3) (N := some 173) (v := ?_) (a' := ?_) #[true, true, false, true, false, false, false, false, false, false, false, false, false, false, false] rfl rfl (any_of HT_.out (by kernel_rfl)) (fun _ _ _ h => h) (Or.inl ⟨by rfl, ?_⟩) ?_ ?_
                                                        rotate_left
                                                        · intro w'
                                                          go_simp
                                                          with_reducible rfl
                                                        rotate_left
                                                        · simp only [Act.put, List.setIfInBounds_toArray, List.set_cons_zero, List.set_cons_succ, i64_w, i32_w]
                                                          rfl
                                                        refine pure_ (i := 4) (N := some 174) (v := ?_) (a' := ?_) #[true, true, false, true, true, false, false, false, false, false, false, false, false, false, false] rfl rfl (any_of HT_.out (by kernel_rfl)) (fun _ _ _ h => h) (Or.inl ⟨by rfl, ?_⟩) ?_ ?_
                                                        rotate_left
                                                        · intro w'
                                                          go_simp
                                                          with_reducible rfl
                                                        rotate_left
                                                        · simp only [Act.put, List.setIfInBounds_toArray, List.set_cons_zero, List.set_cons_succ, i64_w, i32_w]
                                                          rfl
                                                        refine pure_ (i := 6) (N := some 176) (v := ?_) (a' := ?_) #[true, true, false, true, true, false, true, false, false, false, false, false, false, false, false] rfl rfl (any_of HT_.out (by kernel_rfl)) (fun _ _ _ h => h) (Or.inl ⟨by rfl, ?_⟩) ?_ ?_
                                                        rotate_left
                                                        · intro w'
                                                          go_simp
                                                          with_reducible rfl
                                                        rotate_left
                                                        · simp only [Act.put, List.setIfInBounds_toArray, List.set_cons_zero, List.set_cons_succ, i64_w, i32_w]
                                                          rfl
                                                        refine pure_ (i := 7) (N := some 177) (v := ?_) (a' := ?_) #[true, true, false, true, true, false, true, true, false, false, false, false, false, false, false] rfl rfl (any_of HT_.out (by kernel_rfl)) (fun _ _ _ h => h) (Or.inl ⟨by rfl, ?_⟩) ?_ ?_
                                                        rotate_left
                                                        · intro w'
                                                          go_simp
                                                          with_reducible rfl
                                                        rotate_left
                                                        · simp only [Act.put, List.setIfInBounds_toArray, List.set_cons_zero, List.set_cons_succ, i64_w, i32_w]
                                                          rfl
                                                        refine take_ (i := 2) (N := some 172) (v := ?_) (a' := ?_) #[true, true, true, true, true, false, true, true, false, false, false, false, false, false, false] rfl rfl (take_ofW HT_.out HW_.out (by kernel_rfl)) (fun _ _ _ h => h) (Or.inl ⟨by rfl, ?_⟩) hHeld ?_ ?_
                                                        rotate_left
                                                        · rintro w' ⟨s0, s1, s2⟩
                                                          go_simp
                                                          with_reducible rfl
                                                        rotate_left
                                                        · simp only [Act.put, List.setIfInBounds_toArray, List.set_cons_zero, List.set_cons_succ, i64_w, i32_w]
                                                          rfl
                                                        refine take_ (i := 5) (N := some 175) (v := ?_) (a' := ?_) #[true, true, true, true, true, true, true, true, false, false, false, false, false, false, false] rfl rfl (take_ofW HT_.out HW_.out (by kernel_rfl)) (fun _ _ _ h => h) (Or.inl ⟨by rfl, ?_⟩) hHeld ?_ ?_
                                                        rotate_left
                                                        · rintro w' ⟨s0, s1, s2⟩
                                                          go_simp
                                                          with_reducible rfl
                                                        rotate_left
                                                        · simp only [Act.put, List.setIfInBounds_toArray, List.set_cons_zero, List.set_cons_succ, i64_w, i32_w]
                                                          rfl
                                                        refine take_ (i := 8) (N := some 178) (v := ?_) (a' := ?_) #[true, true, true, true, true, true, true, true, true, false, false, false, false, false, false] rfl rfl (take_ofW HT_.out HW_.out (by kernel_rfl)) (fun _ _ _ h => h) (Or.inl ⟨by rfl, ?_⟩) hHeld ?_ ?_
                                                        rotate_left
                                                        · rintro w' ⟨s0, s1, s2⟩
                                                          go_simp
                                                          with_reducible rfl
                                                        rotate_left
                                                        · simp only [Act.put, List.setIfInBounds_toArray, List.set_cons_zero, List.set_cons_succ, i64_w, i32_w]
                                                          rfl
                                                        refine one_ (i := 9) (N := some 179) #[true, true, true, true, true, true, true, true, true, true, false, false, false, false, false] rfl rfl (one_of HT_.out (by kernel_rfl)) (by decide) (fun K hK => ?_)
                                                        refine goes_ Try.func34 (by kernel_rfl) rfl #[.string (rdOf ByteArray.empty t310 0), .string (rdOf ByteArray.empty t310 1), .string (rdOf ByteArray.empty t310 2)] (by rfl) rfl rfl (by (try simp only [List.map_toArray, List.map_cons, List.map_nil]); first | done | rfl | (simp only [List.length_drop, List.length_take]; rfl)) ?_
                                                        with_reducible refine (term_Seal.calls (rdOf ByteArray.empty t310 0) (rdOf ByteArray.empty t310 1) (rdOf ByteArray.empty t310 2) t339 t340 _ A131.out).mono ?_
                                                        rintro e w137 ⟨rfl, hb⟩
                                                        have HS0_ := (hb.cell (World.block_lt_of_cell? _ _ (hHeld.1))).trans (hHeld.1)
                                                        have HS1_ := (hb.cell (World.block_lt_of_cell? _ _ (hHeld.2.1))).trans (hHeld.2.1)
                                                        have HS2_ := (hb.cell (World.block_lt_of_cell? _ _ (hHeld.2.2))).trans (hHeld.2.2)
                                                        refine ⟨_, rfl, ?_⟩
                                                        have n0_ := Aside0.mk (Kd.R_below (by (with_reducible repeat (first | apply Kd.R_alloc | apply Kd.R_drewN | apply Kd.R_drew)); exact HO_9.out) hb)
                                                        have n1_ := Aside0.mk (below_step (by repeat (first | (with_reducible first | exact HB.out | apply below_alloc | apply pw_below_drewN | apply below_drew1) | exact HB.out)) hb)
                                                        clear HO_9
                                                        clear HB
                                                        have HO_9 := n0_
                                                        have HB := n1_
                                                        clear n0_ n1_
                                                        (try clear hb)
                                                        (try clear hb2)
                                                        (try clear hk)
                                                        (try clear hi)
                                                        refine hK.out _ _ ⟨HS0_, HS1_, HS2_⟩ (fun hHeld => ?_)
                                                        clear hK K
                                                        refine norm_ (a' := ?_) ?_ ?_
                                                        rotate_left
                                                        · show Act.put _ (some 179) _ = _
                                                          simp only [Act.put, List.setIfInBounds_toArray, List.set_cons_zero, List.set_cons_succ, i64_w, i32_w]
                                                          rfl
                                                        refine pure_ (i := 10) (N := some 169) (v := ?_) (a' := ?_) #[true, true, true, true, true, true, true, true, true, true, true, false, false, false, false] rfl rfl (any_of HT_.out (by kernel_rfl)) (fun _ _ _ h => h) (Or.inl ⟨by rfl, ?_⟩) ?_ ?_
                                                        rotate_left
                                                        · intro w'
                                                          go_simp
                                                          with_reducible rfl
                                                        rotate_left
                                                        · simp only [Act.put, List.setIfInBounds_toArray, List.set_cons_zero, List.set_cons_succ, i64_w, i32_w]
                                                          rfl
                                                        refine pure_ (i := 11) (N := some 180) (v := ?_) (a' := ?_) #[true, true, true, true, true, true, true, true, true, true, true, true, false, false, false] rfl rfl (any_of HT_.out (by kernel_rfl)) (fun _ _ _ h => h) (Or.inl ⟨by rfl, ?_⟩) ?_ ?_
                                                        rotate_left
                                                        · intro w'
                                                          go_simp
                                                          with_reducible rfl
                                                        rotate_left
                                                        · simp only [Act.put, List.setIfInBounds_toArray, List.set_cons_zero, List.set_cons_succ, i64_w, i32_w]
                                                          rfl
                                                        refine pure_ (i := 12) (N := some 181) (v := ?_) (a' := ?_) #[true, true, true, true, true, true, true, true, true, true, true, true, true, false, false] rfl rfl (any_of HT_.out (by kernel_rfl)) (fun _ _ _ h => h) (Or.inl ⟨by rfl, ?_⟩) ?_ ?_
                                                        rotate_left
                                                        · intro w'
                                                          go_simp
                                                          with_reducible rfl
                                                        rotate_left
                                                        · simp only [Act.put, List.setIfInBounds_toArray, List.set_cons_zero, List.set_cons_succ, i64_w, i32_w]
                                                          rfl
                                                        refine pure_ (i := 13) (N := some 14) (v := ?_) (a' := ?_) #[true, true, true, true, true, true, true, true, true, true, true, true, true, true, false] rfl rfl (any_of HT_.out (by kernel_rfl)) (fun _ _ _ h => h) (Or.inl ⟨by rfl, ?_⟩) ?_ ?_
                                                        rotate_left
                                                        · intro w'
                                                          go_simp
                                                          with_reducible rfl
                                                        rotate_left
                                                        · simp only [Act.put, List.setIfInBounds_toArray, List.set_cons_zero, List.set_cons_succ, i64_w, i32_w]
                                                          rfl
                                                        refine pure_ (i := 14) (N := some 15) (v := ?_) (a' := ?_) #[true, true, true, true, true, true, true, true, true, true, true, true, true, true, true] rfl rfl (any_of HT_.out (by kernel_rfl)) (fun _ _ _ h => h) (Or.inl ⟨by rfl, ?_⟩) ?_ ?_
                                                        rotate_left
                                                        · intro w'
                                                          go_simp
                                                          with_reducible rfl
                                                        rotate_left
                                                        · simp only [Act.put, List.setIfInBounds_toArray, List.set_cons_zero, List.set_cons_succ, i64_w, i32_w]
                                                          rfl
                                                        refine done_ (done_of HT_.out (by kernel_rfl)) ?_
                                                        try go_wp2_with (first | (go_at_call 22; (with_reducible refine (chirographlaw06_alive.calls  t341 _ A134.out).mono ?_); rintro e w138 ⟨rfl, hb⟩; have n0_ := Aside0.mk (Kd.R_below (by (with_reducible repeat (first | apply Kd.R_alloc | apply Kd.R_drewN | apply Kd.R_drew)); exact HO_9.out) hb); have n1_ := Aside0.mk (below_step (by repeat (first | (with_reducible first | exact HB.out | apply below_alloc | apply pw_below_drewN | apply below_drew1) | exact HB.out)) hb); clear HO_9; clear HB; have HO_9 := n0_; have HB := n1_; clear n0_ n1_; (try clear hb); (try clear hb2); (try clear hk); (try clear hi)))
                                                        go_ret
                                                        exact ⟨by first | rfl | (simp [errW_none, errW_some] <;> rfl) | (simp [*, errW_none, errW_some] <;> rfl) | (exact absurd (show ((3 : Int) == 0) = true by assumption) (by decide)), by repeat (first | (with_reducible first | exact HB.out | apply below_alloc | apply pw_below_drewN | apply below_drew1) | exact HB.out)⟩
                                                      · rw [if_neg c133] at H
                                                        have c133b0 : (t339.toList == a0.toList) = false := beq_eq_false_iff_ne.mpr c133
                                                        have c133b1 : (t339.toList != a0.toList) = true := bne_iff_ne.mpr c133
                                                        obtain rfl := Option.some.inj H
                                                        try go_wp2
                                                        have n0_ := Aside0.mk (Kd.R_drew HO_9.out)
                                                        have n1_ := Aside0.mk (below_drew1 HB.out)
                                                        clear HO_9
                                                        clear HB
                                                        have HO_9 := n0_
                                                        have HB := n1_
                                                        clear n0_ n1_
                                                        obtain ⟨Ao140, co140, eo140⟩ := Kd.R_slice HO_9.out
                                                        (first | subst eo140 | (injection eo140 with f1_ f2_ f3_; have f4_ := f1_.symm; have f5_ := f3_.symm; clear f1_ f2_ f3_; subst f4_; subst f5_))
                                                        have p336 : 0 ≤ (0 : Int) := (by omega)
                                                        have q336 : 0 < (t310.length : Int) := of_decide_eq_true (by first | (with_reducible assumption) | assumption)
                                                        obtain ⟨ad336, e336, hx336_0⟩ := Kd.at_string (Kd.R_reads' HO_9.out).2.2 0 p336 q336
                                                        cases e336
                                                        have qi336 : (0 < t310.length) = True := eq_true (by omega)
                                                        (try rw [show ((0 : Int)).toNat = 0 from rfl] at hx336_0)
                                                        (try rw [Addr.add_zero'] at hx336_0)
                                                        replace p336 := eq_true p336
                                                        replace q336 := eq_true q336
                                                        have p337 : 0 ≤ (1 : Int) := (by omega)
                                                        have q337 : 1 < (t310.length : Int) := of_decide_eq_true (by first | (with_reducible assumption) | assumption)
                                                        obtain ⟨ad337, e337, hx337_0⟩ := Kd.at_string (Kd.R_reads' HO_9.out).2.2 1 p337 q337
                                                        obtain rfl : ad336 = ad337 := (by injection e337)
                                                        (try simp only [show (1 : Int).toNat = 1 from rfl, Nat.reduceMul, Nat.reduceEqDiff, Go.Addr.add, ↓reduceIte] at hx337_0)
                                                        have qi337 : (1 < t310.length) = True := eq_true (by omega)
                                                        (try rw [show ((1 : Int)).toNat = 1 from rfl] at hx337_0)
                                                        replace p337 := eq_true p337
                                                        replace q337 := eq_true q337
                                                        have p338 : 0 ≤ (2 : Int) := (by omega)
                                                        have q338 : 2 < (t310.length : Int) := of_decide_eq_true (by first | (with_reducible assumption) | assumption)
                                                        obtain ⟨ad338, e338, hx338_0⟩ := Kd.at_string (Kd.R_reads' HO_9.out).2.2 2 p338 q338
                                                        obtain rfl : ad336 = ad338 := (by injection e338)
                                                        (try simp only [show (2 : Int).toNat = 2 from rfl, Nat.reduceMul, Nat.reduceEqDiff, Go.Addr.add, ↓reduceIte] at hx338_0)
                                                        have qi338 : (2 < t310.length) = True := eq_true (by omega)
                                                        (try rw [show ((2 : Int)).toNat = 2 from rfl] at hx338_0)
                                                        replace p338 := eq_true p338
                                                        replace q338 := eq_true q338
                                                        refine start_ (n := 15) (S := fun w' => w'.cell? ad336 = some (.string (rdOf ByteArray.empty t310 0)) ∧ w'.cell? ⟨ad336.block, ad336.off + 1, none⟩ = some (.string (rdOf ByteArray.empty t310 1)) ∧ w'.cell? ⟨ad336.block, ad336.off + 2, none⟩ = some (.string (rdOf ByteArray.empty t310 2))) (ds := []) #[false, false, false, false, false, false, false, false, false, false, false, false, false, false, false] (by kernel_rfl) rfl rfl ⟨hx336_0, hx337_0, hx338_0⟩ (fun hHeld => ?_); refine with_tabW chirographlaw06_TermOpens.tab25 chirographlaw06_TermOpens.bits25 (fun HT_ HW_ => ?_)
                                                        generalize wc.drew = w139 at HO_9 HB hx336_0 hx337_0 hx338_0 hHeld ⊢
                                                        refine pure_ (i := 0) (N := some 170) (v := ?_) (a' := ?_) #[true, false, false, false, false, false, false, false, false, false, false, false, false, false, false] rfl rfl (any_of HT_.out (by kernel_rfl)) (fun _ _ _ h => h) (Or.inl ⟨by rfl, ?_⟩) ?_ ?_
                                                        rotate_left
                                                        · intro w'
                                                          go_simp
                                                          with_reducible rfl
                                                        rotate_left
                                                        · simp only [Act.put, List.setIfInBounds_toArray, List.set_cons_zero, List.set_cons_succ, i64_w, i32_w]
                                                          rfl
                                                        refine pure_ (i := 1) (N := some 171) (v := ?_) (a' := ?_) #[true, true, false, false, false, false, false, false, false, false, false, false, false, false, false] rfl rfl (any_of HT_.out (by kernel_rfl)) (fun _ _ _ h => h) (Or.inl ⟨by rfl, ?_⟩) ?_ ?_
                                                        rotate_left
                                                        · intro w'
                                                          go_simp
                                                          with_reducible rfl
                                                        rotate_left
                                                        · simp only [Act.put, List.setIfInBounds_toArray, List.set_cons_zero, List.set_cons_succ, i64_w, i32_w]
                                                          rfl
                                                        refine pure_ (i := 3) (N := some 173) (v := ?_) (a' := ?_) #[true, true, false, true, false, false, false, false, false, false, false, false, false, false, false] rfl rfl (any_of HT_.out (by kernel_rfl)) (fun _ _ _ h => h) (Or.inl ⟨by rfl, ?_⟩) ?_ ?_
                                                        rotate_left
                                                        · intro w'
                                                          go_simp
                                                          with_reducible rfl
                                                        rotate_left
                                                        · simp only [Act.put, List.setIfInBounds_toArray, List.set_cons_zero, List.set_cons_succ, i64_w, i32_w]
                                                          rfl
                                                        refine pure_ (i := 4) (N := some 174) (v := ?_) (a' := ?_) #[true, true, false, true, true, false, false, false, false, false, false, false, false, false, false] rfl rfl (any_of HT_.out (by kernel_rfl)) (fun _ _ _ h => h) (Or.inl ⟨by rfl, ?_⟩) ?_ ?_
                                                        rotate_left
                                                        · intro w'
                                                          go_simp
                                                          with_reducible rfl
                                                        rotate_left
                                                        · simp only [Act.put, List.setIfInBounds_toArray, List.set_cons_zero, List.set_cons_succ, i64_w, i32_w]
                                                          rfl
                                                        refine pure_ (i := 6) (N := some 176) (v := ?_) (a' := ?_) #[true, true, false, true, true, false, true, false, false, false, false, false, false, false, false] rfl rfl (any_of HT_.out (by kernel_rfl)) (fun _ _ _ h => h) (Or.inl ⟨by rfl, ?_⟩) ?_ ?_
                                                        rotate_left
                                                        · intro w'
                                                          go_simp
                                                          with_reducible rfl
                                                        rotate_left
                                                        · simp only [Act.put, List.setIfInBounds_toArray, List.set_cons_zero, List.set_cons_succ, i64_w, i32_w]
                                                          rfl
                                                        refine pure_ (i := 7) (N := some 177) (v := ?_) (a' := ?_) #[true, true, false, true, true, false, true, true, false, false, false, false, false, false, false] rfl rfl (any_of HT_.out (by kernel_rfl)) (fun _ _ _ h => h) (Or.inl ⟨by rfl, ?_⟩) ?_ ?_
                                                        rotate_left
                                                        · intro w'
                                                          go_simp
                                                          with_reducible rfl
                                                        rotate_left
                                                        · simp only [Act.put, List.setIfInBounds_toArray, List.set_cons_zero, List.set_cons_succ, i64_w, i32_w]
                                                          rfl
                                                        refine take_ (i := 2) (N := some 172) (v := ?_) (a' := ?_) #[true, true, true, true, true, false, true, true, false, false, false, false, false, false, false] rfl rfl (take_ofW HT_.out HW_.out (by kernel_rfl)) (fun _ _ _ h => h) (Or.inl ⟨by rfl, ?_⟩) hHeld ?_ ?_
                                                        rotate_left
                                                        · rintro w' ⟨s0, s1, s2⟩
                                                          go_simp
                                                          with_reducible rfl
                                                        rotate_left
                                                        · simp only [Act.put, List.setIfInBounds_toArray, List.set_cons_zero, List.set_cons_succ, i64_w, i32_w]
                                                          rfl
                                                        refine take_ (i := 5) (N := some 175) (v := ?_) (a' := ?_) #[true, true, true, true, true, true, true, true, false, false, false, false, false, false, false] rfl rfl (take_ofW HT_.out HW_.out (by kernel_rfl)) (fun _ _ _ h => h) (Or.inl ⟨by rfl, ?_⟩) hHeld ?_ ?_
                                                        rotate_left
                                                        · rintro w' ⟨s0, s1, s2⟩
                                                          go_simp
                                                          with_reducible rfl
                                                        rotate_left
                                                        · simp only [Act.put, List.setIfInBounds_toArray, List.set_cons_zero, List.set_cons_succ, i64_w, i32_w]
                                                          rfl
                                                        refine take_ (i := 8) (N := some 178) (v := ?_) (a' := ?_) #[true, true, true, true, true, true, true, true, true, false, false, false, false, false, false] rfl rfl (take_ofW HT_.out HW_.out (by kernel_rfl)) (fun _ _ _ h => h) (Or.inl ⟨by rfl, ?_⟩) hHeld ?_ ?_
                                                        rotate_left
                                                        · rintro w' ⟨s0, s1, s2⟩
                                                          go_simp
                                                          with_reducible rfl
                                                        rotate_left
                                                        · simp only [Act.put, List.setIfInBounds_toArray, List.set_cons_zero, List.set_cons_succ, i64_w, i32_w]
                                                          rfl
                                                        refine one_ (i := 9) (N := some 179) #[true, true, true, true, true, true, true, true, true, true, false, false, false, false, false] rfl rfl (one_of HT_.out (by kernel_rfl)) (by decide) (fun K hK => ?_)
                                                        refine goes_ Try.func34 (by kernel_rfl) rfl #[.string (rdOf ByteArray.empty t310 0), .string (rdOf ByteArray.empty t310 1), .string (rdOf ByteArray.empty t310 2)] (by rfl) rfl rfl (by (try simp only [List.map_toArray, List.map_cons, List.map_nil]); first | done | rfl | (simp only [List.length_drop, List.length_take]; rfl)) ?_
                                                        with_reducible refine (term_Seal.calls (rdOf ByteArray.empty t310 0) (rdOf ByteArray.empty t310 1) (rdOf ByteArray.empty t310 2) t339 t340 _ A131.out).mono ?_
                                                        rintro e w141 ⟨rfl, hb⟩
                                                        have HS0_ := (hb.cell (World.block_lt_of_cell? _ _ (hHeld.1))).trans (hHeld.1)
                                                        have HS1_ := (hb.cell (World.block_lt_of_cell? _ _ (hHeld.2.1))).trans (hHeld.2.1)
                                                        have HS2_ := (hb.cell (World.block_lt_of_cell? _ _ (hHeld.2.2))).trans (hHeld.2.2)
                                                        refine ⟨_, rfl, ?_⟩
                                                        have n0_ := Aside0.mk (Kd.R_below (by (with_reducible repeat (first | apply Kd.R_alloc | apply Kd.R_drewN | apply Kd.R_drew)); exact HO_9.out) hb)
                                                        have n1_ := Aside0.mk (below_step (by repeat (first | (with_reducible first | exact HB.out | apply below_alloc | apply pw_below_drewN | apply below_drew1) | exact HB.out)) hb)
                                                        clear HO_9
                                                        clear HB
                                                        have HO_9 := n0_
                                                        have HB := n1_
                                                        clear n0_ n1_
                                                        (try clear hb)
                                                        (try clear hb2)
                                                        (try clear hk)
                                                        (try clear hi)
                                                        refine hK.out _ _ ⟨HS0_, HS1_, HS2_⟩ (fun hHeld => ?_)
                                                        clear hK K
                                                        refine norm_ (a' := ?_) ?_ ?_
                                                        rotate_left
                                                        · show Act.put _ (some 179) _ = _
                                                          simp only [Act.put, List.setIfInBounds_toArray, List.set_cons_zero, List.set_cons_succ, i64_w, i32_w]
                                                          rfl
                                                        refine pure_ (i := 10) (N := some 169) (v := ?_) (a' := ?_) #[true, true, true, true, true, true, true, true, true, true, true, false, false, false, false] rfl rfl (any_of HT_.out (by kernel_rfl)) (fun _ _ _ h => h) (Or.inl ⟨by rfl, ?_⟩) ?_ ?_
                                                        rotate_left
                                                        · intro w'
                                                          go_simp
                                                          with_reducible rfl
                                                        rotate_left
                                                        · simp only [Act.put, List.setIfInBounds_toArray, List.set_cons_zero, List.set_cons_succ, i64_w, i32_w]
                                                          rfl
                                                        refine pure_ (i := 11) (N := some 180) (v := ?_) (a' := ?_) #[true, true, true, true, true, true, true, true, true, true, true, true, false, false, false] rfl rfl (any_of HT_.out (by kernel_rfl)) (fun _ _ _ h => h) (Or.inl ⟨by rfl, ?_⟩) ?_ ?_
                                                        rotate_left
                                                        · intro w'
                                                          go_simp
                                                          with_reducible rfl
                                                        rotate_left
                                                        · simp only [Act.put, List.setIfInBounds_toArray, List.set_cons_zero, List.set_cons_succ, i64_w, i32_w]
                                                          rfl
                                                        refine pure_ (i := 12) (N := some 181) (v := ?_) (a' := ?_) #[true, true, true, true, true, true, true, true, true, true, true, true, true, false, false] rfl rfl (any_of HT_.out (by kernel_rfl)) (fun _ _ _ h => h) (Or.inl ⟨by rfl, ?_⟩) ?_ ?_
                                                        rotate_left
                                                        · intro w'
                                                          go_simp
                                                          with_reducible rfl
                                                        rotate_left
                                                        · simp only [Act.put, List.setIfInBounds_toArray, List.set_cons_zero, List.set_cons_succ, i64_w, i32_w]
                                                          rfl
                                                        refine pure_ (i := 13) (N := some 14) (v := ?_) (a' := ?_) #[true, true, true, true, true, true, true, true, true, true, true, true, true, true, false] rfl rfl (any_of HT_.out (by kernel_rfl)) (fun _ _ _ h => h) (Or.inl ⟨by rfl, ?_⟩) ?_ ?_
                                                        rotate_left
                                                        · intro w'
                                                          go_simp
                                                          with_reducible rfl
                                                        rotate_left
                                                        · simp only [Act.put, List.setIfInBounds_toArray, List.set_cons_zero, List.set_cons_succ, i64_w, i32_w]
                                                          rfl
                                                        refine pure_ (i := 14) (N := some 15) (v := ?_) (a' := ?_) #[true, true, true, true, true, true, true, true, true, true, true, true, true, true, true] rfl rfl (any_of HT_.out (by kernel_rfl)) (fun _ _ _ h => h) (Or.inl ⟨by rfl, ?_⟩) ?_ ?_
                                                        rotate_left
                                                        · intro w'
                                                          go_simp
                                                          with_reducible rfl
                                                        rotate_left
                                                        · simp only [Act.put, List.setIfInBounds_toArray, List.set_cons_zero, List.set_cons_succ, i64_w, i32_w]
                                                          rfl
                                                        refine done_ (done_of HT_.out (by kernel_rfl)) ?_
                                                        try go_wp2
                                                        go_ret
                                                        exact ⟨by first | rfl | (simp [errW_none, errW_some] <;> rfl) | (simp [*, errW_none, errW_some] <;> rfl) | (exact absurd (show ((3 : Int) == 0) = true by assumption) (by decide)), by repeat (first | (with_reducible first | exact HB.out | apply below_alloc | apply pw_below_drewN | apply below_drew1) | exact HB.out)⟩
                                                    · rw [if_neg c132] at H
                                                      have c132b0 : (t340 == 0) = false := beq_eq_false_iff_ne.mpr c132
                                                      have c132b1 : (t340 != 0) = true := bne_iff_ne.mpr c132
                                                      obtain rfl := Option.some.inj H
                                                      try go_wp2
                                                      have n0_ := Aside0.mk (Kd.R_drew HO_9.out)
                                                      have n1_ := Aside0.mk (below_drew1 HB.out)
                                                      clear HO_9
                                                      clear HB
                                                      have HO_9 := n0_
                                                      have HB := n1_
                                                      clear n0_ n1_
                                                      obtain ⟨Ao143, co143, eo143⟩ := Kd.R_slice HO_9.out
                                                      (first | subst eo143 | (injection eo143 with f1_ f2_ f3_; have f4_ := f1_.symm; have f5_ := f3_.symm; clear f1_ f2_ f3_; subst f4_; subst f5_))
                                                      have p336 : 0 ≤ (0 : Int) := (by omega)
                                                      have q336 : 0 < (t310.length : Int) := of_decide_eq_true (by first | (with_reducible assumption) | assumption)
                                                      obtain ⟨ad336, e336, hx336_0⟩ := Kd.at_string (Kd.R_reads' HO_9.out).2.2 0 p336 q336
                                                      cases e336
                                                      have qi336 : (0 < t310.length) = True := eq_true (by omega)
                                                      (try rw [show ((0 : Int)).toNat = 0 from rfl] at hx336_0)
                                                      (try rw [Addr.add_zero'] at hx336_0)
                                                      replace p336 := eq_true p336
                                                      replace q336 := eq_true q336
                                                      have p337 : 0 ≤ (1 : Int) := (by omega)
                                                      have q337 : 1 < (t310.length : Int) := of_decide_eq_true (by first | (with_reducible assumption) | assumption)
                                                      obtain ⟨ad337, e337, hx337_0⟩ := Kd.at_string (Kd.R_reads' HO_9.out).2.2 1 p337 q337
                                                      obtain rfl : ad336 = ad337 := (by injection e337)
                                                      (try simp only [show (1 : Int).toNat = 1 from rfl, Nat.reduceMul, Nat.reduceEqDiff, Go.Addr.add, ↓reduceIte] at hx337_0)
                                                      have qi337 : (1 < t310.length) = True := eq_true (by omega)
                                                      (try rw [show ((1 : Int)).toNat = 1 from rfl] at hx337_0)
                                                      replace p337 := eq_true p337
                                                      replace q337 := eq_true q337
                                                      have p338 : 0 ≤ (2 : Int) := (by omega)
                                                      have q338 : 2 < (t310.length : Int) := of_decide_eq_true (by first | (with_reducible assumption) | assumption)
                                                      obtain ⟨ad338, e338, hx338_0⟩ := Kd.at_string (Kd.R_reads' HO_9.out).2.2 2 p338 q338
                                                      obtain rfl : ad336 = ad338 := (by injection e338)
                                                      (try simp only [show (2 : Int).toNat = 2 from rfl, Nat.reduceMul, Nat.reduceEqDiff, Go.Addr.add, ↓reduceIte] at hx338_0)
                                                      have qi338 : (2 < t310.length) = True := eq_true (by omega)
                                                      (try rw [show ((2 : Int)).toNat = 2 from rfl] at hx338_0)
                                                      replace p338 := eq_true p338
                                                      replace q338 := eq_true q338
                                                      refine start_ (n := 15) (S := fun w' => w'.cell? ad336 = some (.string (rdOf ByteArray.empty t310 0)) ∧ w'.cell? ⟨ad336.block, ad336.off + 1, none⟩ = some (.string (rdOf ByteArray.empty t310 1)) ∧ w'.cell? ⟨ad336.block, ad336.off + 2, none⟩ = some (.string (rdOf ByteArray.empty t310 2))) (ds := []) #[false, false, false, false, false, false, false, false, false, false, false, false, false, false, false] (by kernel_rfl) rfl rfl ⟨hx336_0, hx337_0, hx338_0⟩ (fun hHeld => ?_); refine with_tabW chirographlaw06_TermOpens.tab25 chirographlaw06_TermOpens.bits25 (fun HT_ HW_ => ?_)
                                                      generalize wc.drew = w142 at HO_9 HB hx336_0 hx337_0 hx338_0 hHeld ⊢
                                                      refine pure_ (i := 0) (N := some 170) (v := ?_) (a' := ?_) #[true, false, false, false, false, false, false, false, false, false, false, false, false, false, false] rfl rfl (any_of HT_.out (by kernel_rfl)) (fun _ _ _ h => h) (Or.inl ⟨by rfl, ?_⟩) ?_ ?_
                                                      rotate_left
                                                      · intro w'
                                                        go_simp
                                                        with_reducible rfl
                                                      rotate_left
                                                      · simp only [Act.put, List.setIfInBounds_toArray, List.set_cons_zero, List.set_cons_succ, i64_w, i32_w]
                                                        rfl
                                                      refine pure_ (i := 1) (N := some 171) (v := ?_) (a' := ?_) #[true, true, false, false, false, false, false, false, false, false, false, false, false, false, false] rfl rfl (any_of HT_.out (by kernel_rfl)) (fun _ _ _ h => h) (Or.inl ⟨by rfl, ?_⟩) ?_ ?_
                                                      rotate_left
                                                      · intro w'
                                                        go_simp
                                                        with_reducible rfl
                                                      rotate_left
                                                      · simp only [Act.put, List.setIfInBounds_toArray, List.set_cons_zero, List.set_cons_succ, i64_w, i32_w]
                                                        rfl
                                                      refine pure_ (i := 3) (N := some 173) (v := ?_) (a' := ?_) #[true, true, false, true, false, false, false, false, false, false, false, false, false, false, false] rfl rfl (any_of HT_.out (by kernel_rfl)) (fun _ _ _ h => h) (Or.inl ⟨by rfl, ?_⟩) ?_ ?_
                                                      rotate_left
                                                      · intro w'
                                                        go_simp
                                                        with_reducible rfl
                                                      rotate_left
                                                      · simp only [Act.put, List.setIfInBounds_toArray, List.set_cons_zero, List.set_cons_succ, i64_w, i32_w]
                                                        rfl
                                                      refine pure_ (i := 4) (N := some 174) (v := ?_) (a' := ?_) #[true, true, false, true, true, false, false, false, false, false, false, false, false, false, false] rfl rfl (any_of HT_.out (by kernel_rfl)) (fun _ _ _ h => h) (Or.inl ⟨by rfl, ?_⟩) ?_ ?_
                                                      rotate_left
                                                      · intro w'
                                                        go_simp
                                                        with_reducible rfl
                                                      rotate_left
                                                      · simp only [Act.put, List.setIfInBounds_toArray, List.set_cons_zero, List.set_cons_succ, i64_w, i32_w]
                                                        rfl
                                                      refine pure_ (i := 6) (N := some 176) (v := ?_) (a' := ?_) #[true, true, false, true, true, false, true, false, false, false, false, false, false, false, false] rfl rfl (any_of HT_.out (by kernel_rfl)) (fun _ _ _ h => h) (Or.inl ⟨by rfl, ?_⟩) ?_ ?_
                                                      rotate_left
                                                      · intro w'
                                                        go_simp
                                                        with_reducible rfl
                                                      rotate_left
                                                      · simp only [Act.put, List.setIfInBounds_toArray, List.set_cons_zero, List.set_cons_succ, i64_w, i32_w]
                                                        rfl
                                                      refine pure_ (i := 7) (N := some 177) (v := ?_) (a' := ?_) #[true, true, false, true, true, false, true, true, false, false, false, false, false, false, false] rfl rfl (any_of HT_.out (by kernel_rfl)) (fun _ _ _ h => h) (Or.inl ⟨by rfl, ?_⟩) ?_ ?_
                                                      rotate_left
                                                      · intro w'
                                                        go_simp
                                                        with_reducible rfl
                                                      rotate_left
                                                      · simp only [Act.put, List.setIfInBounds_toArray, List.set_cons_zero, List.set_cons_succ, i64_w, i32_w]
                                                        rfl
                                                      refine take_ (i := 2) (N := some 172) (v := ?_) (a' := ?_) #[true, true, true, true, true, false, true, true, false, false, false, false, false, false, false] rfl rfl (take_ofW HT_.out HW_.out (by kernel_rfl)) (fun _ _ _ h => h) (Or.inl ⟨by rfl, ?_⟩) hHeld ?_ ?_
                                                      rotate_left
                                                      · rintro w' ⟨s0, s1, s2⟩
                                                        go_simp
                                                        with_reducible rfl
                                                      rotate_left
                                                      · simp only [Act.put, List.setIfInBounds_toArray, List.set_cons_zero, List.set_cons_succ, i64_w, i32_w]
                                                        rfl
                                                      refine take_ (i := 5) (N := some 175) (v := ?_) (a' := ?_) #[true, true, true, true, true, true, true, true, false, false, false, false, false, false, false] rfl rfl (take_ofW HT_.out HW_.out (by kernel_rfl)) (fun _ _ _ h => h) (Or.inl ⟨by rfl, ?_⟩) hHeld ?_ ?_
                                                      rotate_left
                                                      · rintro w' ⟨s0, s1, s2⟩
                                                        go_simp
                                                        with_reducible rfl
                                                      rotate_left
                                                      · simp only [Act.put, List.setIfInBounds_toArray, List.set_cons_zero, List.set_cons_succ, i64_w, i32_w]
                                                        rfl
                                                      refine take_ (i := 8) (N := some 178) (v := ?_) (a' := ?_) #[true, true, true, true, true, true, true, true, true, false, false, false, false, false, false] rfl rfl (take_ofW HT_.out HW_.out (by kernel_rfl)) (fun _ _ _ h => h) (Or.inl ⟨by rfl, ?_⟩) hHeld ?_ ?_
                                                      rotate_left
                                                      · rintro w' ⟨s0, s1, s2⟩
                                                        go_simp
                                                        with_reducible rfl
                                                      rotate_left
                                                      · simp only [Act.put, List.setIfInBounds_toArray, List.set_cons_zero, List.set_cons_succ, i64_w, i32_w]
                                                        rfl
                                                      refine one_ (i := 9) (N := some 179) #[true, true, true, true, true, true, true, true, true, true, false, false, false, false, false] rfl rfl (one_of HT_.out (by kernel_rfl)) (by decide) (fun K hK => ?_)
                                                      refine goes_ Try.func34 (by kernel_rfl) rfl #[.string (rdOf ByteArray.empty t310 0), .string (rdOf ByteArray.empty t310 1), .string (rdOf ByteArray.empty t310 2)] (by rfl) rfl rfl (by (try simp only [List.map_toArray, List.map_cons, List.map_nil]); first | done | rfl | (simp only [List.length_drop, List.length_take]; rfl)) ?_
                                                      with_reducible refine (term_Seal.calls (rdOf ByteArray.empty t310 0) (rdOf ByteArray.empty t310 1) (rdOf ByteArray.empty t310 2) t339 t340 _ A131.out).mono ?_
                                                      rintro e w144 ⟨rfl, hb⟩
                                                      have HS0_ := (hb.cell (World.block_lt_of_cell? _ _ (hHeld.1))).trans (hHeld.1)
                                                      have HS1_ := (hb.cell (World.block_lt_of_cell? _ _ (hHeld.2.1))).trans (hHeld.2.1)
                                                      have HS2_ := (hb.cell (World.block_lt_of_cell? _ _ (hHeld.2.2))).trans (hHeld.2.2)
                                                      refine ⟨_, rfl, ?_⟩
                                                      have n0_ := Aside0.mk (Kd.R_below (by (with_reducible repeat (first | apply Kd.R_alloc | apply Kd.R_drewN | apply Kd.R_drew)); exact HO_9.out) hb)
                                                      have n1_ := Aside0.mk (below_step (by repeat (first | (with_reducible first | exact HB.out | apply below_alloc | apply pw_below_drewN | apply below_drew1) | exact HB.out)) hb)
                                                      clear HO_9
                                                      clear HB
                                                      have HO_9 := n0_
                                                      have HB := n1_
                                                      clear n0_ n1_
                                                      (try clear hb)
                                                      (try clear hb2)
                                                      (try clear hk)
                                                      (try clear hi)
                                                      refine hK.out _ _ ⟨HS0_, HS1_, HS2_⟩ (fun hHeld => ?_)
                                                      clear hK K
                                                      refine norm_ (a' := ?_) ?_ ?_
                                                      rotate_left
                                                      · show Act.put _ (some 179) _ = _
                                                        simp only [Act.put, List.setIfInBounds_toArray, List.set_cons_zero, List.set_cons_succ, i64_w, i32_w]
                                                        rfl
                                                      refine pure_ (i := 10) (N := some 169) (v := ?_) (a' := ?_) #[true, true, true, true, true, true, true, true, true, true, true, false, false, false, false] rfl rfl (any_of HT_.out (by kernel_rfl)) (fun _ _ _ h => h) (Or.inl ⟨by rfl, ?_⟩) ?_ ?_
                                                      rotate_left
                                                      · intro w'
                                                        go_simp
                                                        with_reducible rfl
                                                      rotate_left
                                                      · simp only [Act.put, List.setIfInBounds_toArray, List.set_cons_zero, List.set_cons_succ, i64_w, i32_w]
                                                        rfl
                                                      refine pure_ (i := 11) (N := some 180) (v := ?_) (a' := ?_) #[true, true, true, true, true, true, true, true, true, true, true, true, false, false, false] rfl rfl (any_of HT_.out (by kernel_rfl)) (fun _ _ _ h => h) (Or.inl ⟨by rfl, ?_⟩) ?_ ?_
                                                      rotate_left
                                                      · intro w'
                                                        go_simp
                                                        with_reducible rfl
                                                      rotate_left
                                                      · simp only [Act.put, List.setIfInBounds_toArray, List.set_cons_zero, List.set_cons_succ, i64_w, i32_w]
                                                        rfl
                                                      refine pure_ (i := 12) (N := some 181) (v := ?_) (a' := ?_) #[true, true, true, true, true, true, true, true, true, true, true, true, true, false, false] rfl rfl (any_of HT_.out (by kernel_rfl)) (fun _ _ _ h => h) (Or.inl ⟨by rfl, ?_⟩) ?_ ?_
                                                      rotate_left
                                                      · intro w'
                                                        go_simp
                                                        with_reducible rfl
                                                      rotate_left
                                                      · simp only [Act.put, List.setIfInBounds_toArray, List.set_cons_zero, List.set_cons_succ, i64_w, i32_w]
                                                        rfl
                                                      refine pure_ (i := 13) (N := some 14) (v := ?_) (a' := ?_) #[true, true, true, true, true, true, true, true, true, true, true, true, true, true, false] rfl rfl (any_of HT_.out (by kernel_rfl)) (fun _ _ _ h => h) (Or.inl ⟨by rfl, ?_⟩) ?_ ?_
                                                      rotate_left
                                                      · intro w'
                                                        go_simp
                                                        with_reducible rfl
                                                      rotate_left
                                                      · simp only [Act.put, List.setIfInBounds_toArray, List.set_cons_zero, List.set_cons_succ, i64_w, i32_w]
                                                        rfl
                                                      refine pure_ (i := 14) (N := some 15) (v := ?_) (a' := ?_) #[true, true, true, true, true, true, true, true, true, true, true, true, true, true, true] rfl rfl (any_of HT_.out (by kernel_rfl)) (fun _ _ _ h => h) (Or.inl ⟨by rfl, ?_⟩) ?_ ?_
                                                      rotate_left
                                                      · intro w'
                                                        go_simp
                                                        with_reducible rfl
                                                      rotate_left
                                                      · simp only [Act.put, List.setIfInBounds_toArray, List.set_cons_zero, List.set_cons_succ, i64_w, i32_w]
                                                        rfl
                                                      refine done_ (done_of HT_.out (by kernel_rfl)) ?_
                                                      try go_wp2
                                                      go_ret
                                                      exact ⟨by first | rfl | (simp [errW_none, errW_some] <;> rfl) | (simp [*, errW_none, errW_some] <;> rfl) | (exact absurd (show ((3 : Int) == 0) = true by assumption) (by decide)), by repeat (first | (with_reducible first | exact HB.out | apply below_alloc | apply pw_below_drewN | apply below_drew1) | exact HB.out)⟩
                                                  · rw [if_neg c130] at H
                                                    exact absurd H (by simp)
                                                · rw [if_neg c129] at H
                                                  exact absurd H (by simp)
                                              · rw [if_neg c128] at H
                                                exact absurd H (by simp)
                                            · as_aux_lemma =>
                                                replace c127 := Bool.eq_false_iff.mpr c127
                                                subst c127
                                                have H1 : (if 3 = 0 then (if (⟨#[]⟩ : ByteArray).toList = a0.toList then ((chirographlaw06_alive.f).bind fun t342 => (some t342)) else (some false)) else (some false)) = some r := by rw [if_neg (show ¬ (false = true) by decide)] at H; exact H
                                                clear H
                                                have H := H1
                                                clear H1
                                                by_cases c145 : 3 = 0
                                                · rw [if_pos c145] at H
                                                  have c145b0 : (3 == 0) = true := beq_iff_eq.mpr c145
                                                  have c145b1 : (3 != 0) = false := bne_eq_false_iff_eq.mpr c145
                                                  clear c145
                                                  by_cases c146 : (⟨#[]⟩ : ByteArray).toList = a0.toList
                                                  · rw [if_pos c146] at H
                                                    have c146b0 : ((⟨#[]⟩ : ByteArray).toList == a0.toList) = true := beq_iff_eq.mpr c146
                                                    have c146b1 : ((⟨#[]⟩ : ByteArray).toList != a0.toList) = false := bne_eq_false_iff_eq.mpr c146
                                                    clear c146
                                                    replace H := Option.bind_eq_some_iff.mp H
                                                    obtain ⟨t342, A1470, H⟩ := H
                                                    replace H : (some t342) = some r := H
                                                    have A147 := Aside0.mk A1470
                                                    clear A1470
                                                    obtain rfl := Option.some.inj H
                                                    go_wp2_with (first | (go_at_call 22; (with_reducible refine (chirographlaw06_alive.calls  t342 _ A147.out).mono ?_); rintro e w148 ⟨rfl, hb⟩; have n0_ := Aside0.mk (Kd.R_below (by (with_reducible repeat (first | apply Kd.R_alloc | apply Kd.R_drewN | apply Kd.R_drew)); exact HO_9.out) hb); have n1_ := Aside0.mk (below_step (by repeat (first | (with_reducible first | exact HB.out | apply below_alloc | apply pw_below_drewN | apply below_drew1) | exact HB.out)) hb); clear HO_9; clear HB; have HO_9 := n0_; have HB := n1_; clear n0_ n1_; (try clear hb); (try clear hb2); (try clear hk); (try clear hi)))
                                                    go_ret
                                                    exact ⟨by first | rfl | (simp [errW_none, errW_some] <;> rfl) | (simp [*, errW_none, errW_some] <;> rfl) | (exact absurd (show ((3 : Int) == 0) = true by assumption) (by decide)), by repeat (first | (with_reducible first | exact HB.out | apply below_alloc | apply pw_below_drewN | apply below_drew1) | exact HB.out)⟩
                                                  · rw [if_neg c146] at H
                                                    have c146b0 : ((⟨#[]⟩ : ByteArray).toList == a0.toList) = false := beq_eq_false_iff_ne.mpr c146
                                                    have c146b1 : ((⟨#[]⟩ : ByteArray).toList != a0.toList) = true := bne_iff_ne.mpr c146
                                                    obtain rfl := Option.some.inj H
                                                    go_wp2
                                                    go_ret
                                                    exact ⟨by first | rfl | (simp [errW_none, errW_some] <;> rfl) | (simp [*, errW_none, errW_some] <;> rfl) | (exact absurd (show ((3 : Int) == 0) = true by assumption) (by decide)), by repeat (first | (with_reducible first | exact HB.out | apply below_alloc | apply pw_below_drewN | apply below_drew1) | exact HB.out)⟩
                                                · rw [if_neg c145] at H
                                                  have c145b0 : (3 == 0) = false := beq_eq_false_iff_ne.mpr c145
                                                  have c145b1 : (3 != 0) = true := bne_iff_ne.mpr c145
                                                  obtain rfl := Option.some.inj H
                                                  go_wp2
                                                  go_ret
                                                  exact ⟨by first | rfl | (simp [errW_none, errW_some] <;> rfl) | (simp [*, errW_none, errW_some] <;> rfl) | (exact absurd (show ((3 : Int) == 0) = true by assumption) (by decide)), by repeat (first | (with_reducible first | exact HB.out | apply below_alloc | apply pw_below_drewN | apply below_drew1) | exact HB.out)⟩
        · as_aux_lemma =>
            replace c36 := Bool.eq_false_iff.mpr c36
            subst c36
            have H1 : (if t316 = 0 then (if t315 = true then (some false) else ((chirographlaw06_alive.f).bind fun t317 => (some t317))) else (some false)) = some r := by rw [if_neg (show ¬ (false = true) by decide)] at H; exact H
            clear H
            have H := H1
            clear H1
            by_cases c149 : t316 = 0
            · rw [if_pos c149] at H
              have c149b0 : (t316 == 0) = true := beq_iff_eq.mpr c149
              have c149b1 : (t316 != 0) = false := bne_eq_false_iff_eq.mpr c149
              clear c149
              by_cases c150 : t315 = true
              · subst c150
                have H1 : (some false) = some r := by rw [if_pos rfl] at H; exact H
                clear H
                have H := H1
                clear H1
                obtain rfl := Option.some.inj H
                go_wp2_with (first | ((with_reducible refine gate_callee (f := 49) rfl ?_); refine goesL_ (some 51) rfl rfl Try.func49 (by kernel_rfl) rfl #[.string a0] rfl (by (try simp only [List.map_toArray, List.map_cons, List.map_nil]); first | done | rfl | (simp only [List.length_drop, List.length_take]; rfl)) ?_; (with_reducible refine (term_Parts.calls a0 t310 false _ A33.out).mono ?_); rintro e w151 ⟨v312, rfl, ho0, hb⟩; refine ⟨_, rfl, ?_⟩; have n0_ := Aside0.mk (Kd.R_lower ho0 (below_size (by repeat (first | (with_reducible first | exact HB.out | apply below_alloc | apply pw_below_drewN | apply below_drew1) | exact HB.out)))); have n1_ := Aside0.mk (below_step (by repeat (first | (with_reducible first | exact HB.out | apply below_alloc | apply pw_below_drewN | apply below_drew1) | exact HB.out)) hb); clear HB; have HO313 := n0_; have HB := n1_; clear n0_ n1_; (try clear hb); (try clear hb2); (try clear hk); (try clear hi); (try clear ho0)) | ((with_reducible refine gate_callee (f := 51) rfl ?_); refine goesL_ (some 56) rfl rfl Try.func51 (by kernel_rfl) rfl #[.string a0] rfl (by (try simp only [List.map_toArray, List.map_cons, List.map_nil]); first | done | rfl | (simp only [List.length_drop, List.length_take]; rfl)) ?_; (with_reducible refine (term_Text.calls kj7 a0 t314 true _ A34.out).mono ?_); rintro e w152 ⟨rfl, hb⟩; refine ⟨_, rfl, ?_⟩; have n0_ := Aside0.mk (Kd.R_below (by (with_reducible repeat (first | apply Kd.R_alloc | apply Kd.R_drewN | apply Kd.R_drew)); exact HO313.out) hb); have n1_ := Aside0.mk (below_step (by repeat (first | (with_reducible first | exact HB.out | apply below_alloc | apply pw_below_drewN | apply below_drew1) | exact HB.out)) hb); clear HO313; clear HB; have HO313 := n0_; have HB := n1_; clear n0_ n1_; (try clear hb); (try clear hb2); (try clear hk); (try clear hi)) | ((with_reducible refine gate_callee (f := 50) rfl ?_); refine goesL_ (some 60) rfl rfl Try.func50 (by kernel_rfl) rfl #[.string a0] rfl (by (try simp only [List.map_toArray, List.map_cons, List.map_nil]); first | done | rfl | (simp only [List.length_drop, List.length_take]; rfl)) ?_; (with_reducible refine (term_Kind.calls kj7 a0 t316 _ A35.out).mono ?_); rintro e w153 ⟨rfl, hb⟩; refine ⟨_, rfl, ?_⟩; have n0_ := Aside0.mk (Kd.R_below (by (with_reducible repeat (first | apply Kd.R_alloc | apply Kd.R_drewN | apply Kd.R_drew)); exact HO313.out) hb); have n1_ := Aside0.mk (below_step (by repeat (first | (with_reducible first | exact HB.out | apply below_alloc | apply pw_below_drewN | apply below_drew1) | exact HB.out)) hb); clear HO313; clear HB; have HO313 := n0_; have HB := n1_; clear n0_ n1_; (try clear hb); (try clear hb2); (try clear hk); (try clear hi)))
                go_ret
                exact ⟨by first | rfl | (simp [errW_none, errW_some] <;> rfl) | (simp [*, errW_none, errW_some] <;> rfl) | (exact absurd (show ((3 : Int) == 0) = true by assumption) (by decide)), by repeat (first | (with_reducible first | exact HB.out | apply below_alloc | apply pw_below_drewN | apply below_drew1) | exact HB.out)⟩
              · replace c150 := Bool.eq_false_iff.mpr c150
                subst c150
                have H1 : ((chirographlaw06_alive.f).bind fun t317 => (some t317)) = some r := by rw [if_neg (show ¬ (false = true) by decide)] at H; exact H
                clear H
                have H := H1
                clear H1
                replace H := Option.bind_eq_some_iff.mp H
                obtain ⟨t317, A1540, H⟩ := H
                replace H : (some t317) = some r := H
                have A154 := Aside0.mk A1540
                clear A1540
                obtain rfl := Option.some.inj H
                go_wp2_with (first | ((with_reducible refine gate_callee (f := 49) rfl ?_); refine goesL_ (some 51) rfl rfl Try.func49 (by kernel_rfl) rfl #[.string a0] rfl (by (try simp only [List.map_toArray, List.map_cons, List.map_nil]); first | done | rfl | (simp only [List.length_drop, List.length_take]; rfl)) ?_; (with_reducible refine (term_Parts.calls a0 t310 false _ A33.out).mono ?_); rintro e w155 ⟨v312, rfl, ho0, hb⟩; refine ⟨_, rfl, ?_⟩; have n0_ := Aside0.mk (Kd.R_lower ho0 (below_size (by repeat (first | (with_reducible first | exact HB.out | apply below_alloc | apply pw_below_drewN | apply below_drew1) | exact HB.out)))); have n1_ := Aside0.mk (below_step (by repeat (first | (with_reducible first | exact HB.out | apply below_alloc | apply pw_below_drewN | apply below_drew1) | exact HB.out)) hb); clear HB; have HO313 := n0_; have HB := n1_; clear n0_ n1_; (try clear hb); (try clear hb2); (try clear hk); (try clear hi); (try clear ho0)) | ((with_reducible refine gate_callee (f := 51) rfl ?_); refine goesL_ (some 56) rfl rfl Try.func51 (by kernel_rfl) rfl #[.string a0] rfl (by (try simp only [List.map_toArray, List.map_cons, List.map_nil]); first | done | rfl | (simp only [List.length_drop, List.length_take]; rfl)) ?_; (with_reducible refine (term_Text.calls kj7 a0 t314 false _ A34.out).mono ?_); rintro e w156 ⟨rfl, hb⟩; refine ⟨_, rfl, ?_⟩; have n0_ := Aside0.mk (Kd.R_below (by (with_reducible repeat (first | apply Kd.R_alloc | apply Kd.R_drewN | apply Kd.R_drew)); exact HO313.out) hb); have n1_ := Aside0.mk (below_step (by repeat (first | (with_reducible first | exact HB.out | apply below_alloc | apply pw_below_drewN | apply below_drew1) | exact HB.out)) hb); clear HO313; clear HB; have HO313 := n0_; have HB := n1_; clear n0_ n1_; (try clear hb); (try clear hb2); (try clear hk); (try clear hi)) | ((with_reducible refine gate_callee (f := 50) rfl ?_); refine goesL_ (some 60) rfl rfl Try.func50 (by kernel_rfl) rfl #[.string a0] rfl (by (try simp only [List.map_toArray, List.map_cons, List.map_nil]); first | done | rfl | (simp only [List.length_drop, List.length_take]; rfl)) ?_; (with_reducible refine (term_Kind.calls kj7 a0 t316 _ A35.out).mono ?_); rintro e w157 ⟨rfl, hb⟩; refine ⟨_, rfl, ?_⟩; have n0_ := Aside0.mk (Kd.R_below (by (with_reducible repeat (first | apply Kd.R_alloc | apply Kd.R_drewN | apply Kd.R_drew)); exact HO313.out) hb); have n1_ := Aside0.mk (below_step (by repeat (first | (with_reducible first | exact HB.out | apply below_alloc | apply pw_below_drewN | apply below_drew1) | exact HB.out)) hb); clear HO313; clear HB; have HO313 := n0_; have HB := n1_; clear n0_ n1_; (try clear hb); (try clear hb2); (try clear hk); (try clear hi)) | (go_at_call 22; (with_reducible refine (chirographlaw06_alive.calls  t317 _ A154.out).mono ?_); rintro e w158 ⟨rfl, hb⟩; have n0_ := Aside0.mk (Kd.R_below (by (with_reducible repeat (first | apply Kd.R_alloc | apply Kd.R_drewN | apply Kd.R_drew)); exact HO313.out) hb); have n1_ := Aside0.mk (below_step (by repeat (first | (with_reducible first | exact HB.out | apply below_alloc | apply pw_below_drewN | apply below_drew1) | exact HB.out)) hb); clear HO313; clear HB; have HO313 := n0_; have HB := n1_; clear n0_ n1_; (try clear hb); (try clear hb2); (try clear hk); (try clear hi)))
                go_ret
                exact ⟨by first | rfl | (simp [errW_none, errW_some] <;> rfl) | (simp [*, errW_none, errW_some] <;> rfl) | (exact absurd (show ((3 : Int) == 0) = true by assumption) (by decide)), by repeat (first | (with_reducible first | exact HB.out | apply below_alloc | apply pw_below_drewN | apply below_drew1) | exact HB.out)⟩
            · rw [if_neg c149] at H
              have c149b0 : (t316 == 0) = false := beq_eq_false_iff_ne.mpr c149
              have c149b1 : (t316 != 0) = true := bne_iff_ne.mpr c149
              obtain rfl := Option.some.inj H
              go_wp2_with (first | ((with_reducible refine gate_callee (f := 49) rfl ?_); refine goesL_ (some 51) rfl rfl Try.func49 (by kernel_rfl) rfl #[.string a0] rfl (by (try simp only [List.map_toArray, List.map_cons, List.map_nil]); first | done | rfl | (simp only [List.length_drop, List.length_take]; rfl)) ?_; (with_reducible refine (term_Parts.calls a0 t310 false _ A33.out).mono ?_); rintro e w159 ⟨v312, rfl, ho0, hb⟩; refine ⟨_, rfl, ?_⟩; have n0_ := Aside0.mk (Kd.R_lower ho0 (below_size (by repeat (first | (with_reducible first | exact HB.out | apply below_alloc | apply pw_below_drewN | apply below_drew1) | exact HB.out)))); have n1_ := Aside0.mk (below_step (by repeat (first | (with_reducible first | exact HB.out | apply below_alloc | apply pw_below_drewN | apply below_drew1) | exact HB.out)) hb); clear HB; have HO313 := n0_; have HB := n1_; clear n0_ n1_; (try clear hb); (try clear hb2); (try clear hk); (try clear hi); (try clear ho0)) | ((with_reducible refine gate_callee (f := 51) rfl ?_); refine goesL_ (some 56) rfl rfl Try.func51 (by kernel_rfl) rfl #[.string a0] rfl (by (try simp only [List.map_toArray, List.map_cons, List.map_nil]); first | done | rfl | (simp only [List.length_drop, List.length_take]; rfl)) ?_; (with_reducible refine (term_Text.calls kj7 a0 t314 t315 _ A34.out).mono ?_); rintro e w160 ⟨rfl, hb⟩; refine ⟨_, rfl, ?_⟩; have n0_ := Aside0.mk (Kd.R_below (by (with_reducible repeat (first | apply Kd.R_alloc | apply Kd.R_drewN | apply Kd.R_drew)); exact HO313.out) hb); have n1_ := Aside0.mk (below_step (by repeat (first | (with_reducible first | exact HB.out | apply below_alloc | apply pw_below_drewN | apply below_drew1) | exact HB.out)) hb); clear HO313; clear HB; have HO313 := n0_; have HB := n1_; clear n0_ n1_; (try clear hb); (try clear hb2); (try clear hk); (try clear hi)) | ((with_reducible refine gate_callee (f := 50) rfl ?_); refine goesL_ (some 60) rfl rfl Try.func50 (by kernel_rfl) rfl #[.string a0] rfl (by (try simp only [List.map_toArray, List.map_cons, List.map_nil]); first | done | rfl | (simp only [List.length_drop, List.length_take]; rfl)) ?_; (with_reducible refine (term_Kind.calls kj7 a0 t316 _ A35.out).mono ?_); rintro e w161 ⟨rfl, hb⟩; refine ⟨_, rfl, ?_⟩; have n0_ := Aside0.mk (Kd.R_below (by (with_reducible repeat (first | apply Kd.R_alloc | apply Kd.R_drewN | apply Kd.R_drew)); exact HO313.out) hb); have n1_ := Aside0.mk (below_step (by repeat (first | (with_reducible first | exact HB.out | apply below_alloc | apply pw_below_drewN | apply below_drew1) | exact HB.out)) hb); clear HO313; clear HB; have HO313 := n0_; have HB := n1_; clear n0_ n1_; (try clear hb); (try clear hb2); (try clear hk); (try clear hi)))
              go_ret
              exact ⟨by first | rfl | (simp [errW_none, errW_some] <;> rfl) | (simp [*, errW_none, errW_some] <;> rfl) | (exact absurd (show ((3 : Int) == 0) = true by assumption) (by decide)), by repeat (first | (with_reducible first | exact HB.out | apply below_alloc | apply pw_below_drewN | apply below_drew1) | exact HB.out)⟩

end Go.Proofs.Ytpajocjepahobaa.G
