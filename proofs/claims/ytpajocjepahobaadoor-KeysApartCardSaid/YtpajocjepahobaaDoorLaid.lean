/- The table of letters, as the row lays it: what a walk reads of it; a world that meets the condition. -/
import Derived.Test.YtpajocjepahobaaDoorRows
import Derived.Test.YtpajocjepahobaaDoorA
import Derived.WalkKit
import Derived.ProofKit
import Derived.OpenShut
import Derived.ShutString
import Derived.ChangeOld
import Derived.Below
import Derived.SizedLaws
import Derived.ChangeSame
import Derived.ChangeVars
import Derived.JoinedOf
import Derived.LaidLaws
namespace Go.Proofs.YtpajocjepahobaaDoor.Laying
open Go.ChangeShapes Go.WideShapes Go.RowKit
theorem keys : Tryd.prog.globalNamed "chirograph/keys.letters" = some 0 := by kernel_rfl
theorem keysType : (Tryd.prog.globals[0]?).map (·.type) = some 63 := by kernel_rfl
theorem cells63 : Tryd.prog.cellsOf 63 = 3 := by kernel_rfl
theorem cells9 : Tryd.prog.cellsOf 9 = 1 := by kernel_rfl
theorem under63 : Tryd.prog.underlying 63 = some (.array 3 9) := by kernel_rfl
theorem under9 : Tryd.prog.underlying 9 = some .string := by kernel_rfl
theorem string_of_trod {H : Type} {enc : TypeId × Value → H} {P : Program} {w : World} {base : Nat} {sp : Nat → Bool} {held : Bool} {fuel : Nat} {t : TypeId} {c : Value} {y : DataW H × List MemPlace}
    (ht : P.underlying t = some .string) (h : DataW.trod enc P w base sp held fuel t [c] = some y) : ∃ s : ByteArray, c = .string s ∧ y = (.lit (.string s.data.toList), []) := by
  cases fuel with
  | zero => simp [DataW.trod] at h
  | succ fuel =>
    cases c <;> simp [DataW.trod, ht] at h
    rename_i s
    obtain ⟨-, rfl⟩ := h
    exact ⟨s, rfl, rfl⟩
def cells3 : Array Value := #[.string ⟨#[]⟩, .string ⟨#[107]⟩, .string ⟨#[115]⟩]
theorem of_bytes {s : ByteArray} {l : List UInt8} (h : s.data.toList = l) : s = ⟨l.toArray⟩ := by
  subst h; exact ByteArray.ext (by simp)
theorem cells_of_laid {W : World} (h : laidMet Tryd.prog [("chirograph/keys.letters", Rows.laid_chirograph_keys_letters)] W) : W.var? Tryd.prog "chirograph/keys.letters" = some cells3 := by
  obtain ⟨ps, ⟨g, t, cs, fuel, p, q, hg, ht, hvar, hd, _, _⟩, _⟩ := h
  obtain rfl := Option.some.inj (keys.symm.trans hg)
  obtain rfl := Option.some.inj (keysType.symm.trans ht)
  rw [hvar]
  congr 1
  obtain ⟨l⟩ := cs
  cases fuel with
  | zero => simp [DataW.trod] at hd
  | succ fuel =>
    simp only [DataW.trod, under63, cells63, cells9] at hd
    split at hd
    · rename_i hl
      obtain ⟨c0, c1, c2, rfl⟩ : ∃ c0 c1 c2, l = [c0, c1, c2] := by
        match l, hl with
        | [a, b, c], _ => exact ⟨a, b, c, rfl⟩
      have e : List.range 3 = [0, 1, 2] := rfl
      rw [e] at hd
      simp only [Option.map_eq_some_iff, List.mapM_cons, List.mapM_nil, Option.bind_eq_bind, Option.bind_eq_some_iff, Option.pure_def, Option.some.injEq] at hd
      obtain ⟨xs, ⟨y0, h0, _, ⟨y1, h1, _, ⟨y2, h2, _, rfl, rfl⟩, rfl⟩, rfl⟩, hx⟩ := hd
      obtain ⟨n0, rfl, rfl⟩ := string_of_trod under9 h0
      obtain ⟨n1, rfl, rfl⟩ := string_of_trod under9 h1
      obtain ⟨n2, rfl, rfl⟩ := string_of_trod under9 h2
      simp [Rows.laid_chirograph_keys_letters] at hx
      obtain ⟨⟨e0, e1, e2⟩, _⟩ := hx
      rw [of_bytes (s := n1) e1, of_bytes (s := n2) e2, show n0 = ⟨#[]⟩ from of_bytes (l := []) (by simpa using e0)]
      rfl
    · cases hd
theorem laid_of {W : World} (h : laidMet Tryd.prog [("chirograph/keys.letters", Rows.laid_chirograph_keys_letters)] W) : G.Laid W :=
  ⟨World.var?_cell keys (cells_of_laid h) 1, World.var?_cell keys (cells_of_laid h) 2⟩
/-- A world that meets the condition. -/
noncomputable def laidWorld (os : Os) : World :=
  { World.holding Tryd.prog os ⟨#[], #[], []⟩ with heap := (World.holding Tryd.prog os ⟨#[], #[], []⟩).heap.modify 0 fun
      | .cells _ t frozen => .cells cells3 t frozen
      | o => o }
abbrev lettersH {H : Type} : DataW H := Rows.laid_chirograph_keys_letters
theorem reads_letters {H : Type} (enc : TypeId × Value → H) (W : World) (sp : Nat → Bool) : DataW.trod enc Tryd.prog W 0 sp true 3 63 cells3.toList = some (lettersH, []) := by kernel_rfl
end Go.Proofs.YtpajocjepahobaaDoor.Laying
