/- What the reference's Text answers. -/
import Derived.Test.YtpajocjepahobaaG1
import Derived.Test.YtpajocjepahobaaReadNum
namespace Go.Proofs.Ytpajocjepahobaa.G
open Go.RowKit Go.Proofs.YtpajocjepahobaaW.PrintWords Go.Proofs.YtpajocjepahobaaW.PrintLast Go.Proofs.YtpajocjepahobaaW.PrintMore
set_option linter.unusedVariables false
/-! ### the reference's Text -/
def chirographref01_Text.f (k : Nat) (a0 : ByteArray) : Option ByteArray :=
  if a0.size ≤ 140737488351232 then (chirographref01_Num.f k (a0.size : Int)).bind fun t => if t.size + a0.size ≤ 9223372036854775807 then some (t ++ a0) else none else none
theorem chirographref01_Text.mono : ∀ a0 k, LeO (chirographref01_Text.f k a0) (chirographref01_Text.f (k + 1) a0) := by
  intro a0 k
  unfold chirographref01_Text.f
  refine LeO.ite ?_ (LeO.refl _)
  exact LeO.bind (chirographref01_Num.mono _ _) (fun _ => LeO.refl _)
set_option maxRecDepth 100000 in
theorem chirographref01_Text.calls (k : Nat) (a0 : ByteArray) (r : ByteArray) (w : World) (h : chirographref01_Text.f k a0 = some r) :
    Calls Try.prog 102 #[.string a0] w fun e w' => e = .returned (.string r) ∧ Below w.heap.size w w' := by
  unfold chirographref01_Text.f at h
  split at h
  · rename_i ha
    obtain ⟨t, ht, h⟩ := Option.bind_eq_some_iff.1 h
    split at h
    · rename_i hb
      obtain rfl := Option.some.inj h
      have HT := Lib.hid ht
      clear ht h
      go_enter Try.func102, Try.ntmps102
      go_wp2_with (go_at_call 100; refine (chirographref01_Num.calls k _ _ _ HT.out).mono ?_; rintro e w' ⟨rfl, hw⟩)
      go_ret
      exact ⟨rfl, hw⟩
    · simp at h
  · simp at h

end Go.Proofs.Ytpajocjepahobaa.G
