/- The names of keys, as the reference spells them. -/
import Derived.Test.YtpajocjepahobaaDoorA
import Derived.Test.YtpajocjepahobaaDoorG0
import Derived.IntWalk
import Derived.Laws.DeepStrings4
namespace Go.Proofs.YtpajocjepahobaaDoor.G
open Go.RowKit Go.Proofs.YtpajocjepahobaaDoorW.PrintWords Go.Proofs.YtpajocjepahobaaDoorW.PrintLast Go.Proofs.YtpajocjepahobaaDoorW.PrintMore
set_option linter.unusedVariables false
set_option linter.unusedSimpArgs false
def numbers : ByteArray := ⟨#[48, 49, 50, 51, 52, 53, 54, 55]⟩
def dig (a : Nat) : ByteArray := ⟨#[(48 + a).toUInt8]⟩
theorem numbers_at : ∀ a : Nat, a < 8 → (numbers.extract a (a + 1)).data = (dig a).data := by decide +kernel
theorem refname_no (c : ByteArray) (a b : Int) (h : ¬ (0 ≤ a ∧ a < 8 ∧ 0 ≤ b ∧ b < 8)) (w : World) : Calls Tryd.prog 24 #[.string c, .int .i64 a, .int .i64 b] w fun e w' => e = .returned (.tuple #[.string ⟨#[]⟩, .int .i64 2]) ∧ w' = w := by
  by_cases h1 : a < 0
  · go_enter Tryd.func24, Tryd.ntmps24
    go_wp2
    go_ret2
    exact ⟨rfl, rfl⟩
  · have h1' : 0 ≤ a := by omega
    by_cases h3 : b < 0
    · go_enter Tryd.func24, Tryd.ntmps24
      go_wp2
      go_ret2
      exact ⟨rfl, rfl⟩
    · have h3' : 0 ≤ b := by omega
      by_cases h2 : 8 ≤ a
      · go_enter Tryd.func24, Tryd.ntmps24
        go_wp2
        go_ret2
        exact ⟨rfl, rfl⟩
      · have h2' : a < 8 := by omega
        have h4 : 8 ≤ b := by omega
        go_enter Tryd.func24, Tryd.ntmps24
        go_wp2
        go_ret2
        exact ⟨rfl, rfl⟩
theorem refname_str : ∀ a : Nat, a < 8 → ∀ b : Nat, b < 8 → a ≤ b → ((((⟨#[107]⟩ ++ ⟨#[47]⟩ : ByteArray) ++ dig a) ++ ⟨#[47]⟩ : ByteArray) ++ dig b : ByteArray).data = (nameB 107 a b).data ∧ ((((⟨#[115]⟩ ++ ⟨#[47]⟩ : ByteArray) ++ dig a) ++ ⟨#[47]⟩ : ByteArray) ++ dig b : ByteArray).data = (nameB 115 a b).data := by decide +kernel
theorem slice_dig (a : Nat) (ha : a < 8) (W : World) : (Instr.slice 9 (.string ⟨#[48, 49, 50, 51, 52, 53, 54, 55]⟩) (some (.int .i64 (a : Int))) (some (.int .i64 ((a : Int) + 1))) none).run Tryd.prog W = .ok (.string (dig a)) W := by
  have ea : numbers.extract a (a + 1) = dig a := ByteArray.ext (numbers_at a ha)
  unfold numbers at ea
  have e1 : ((a : Int)).toNat = a := by omega
  have e2 : ((a : Int) + 1).toNat = a + 1 := by omega
  have e3 : (⟨#[48, 49, 50, 51, 52, 53, 54, 55]⟩ : ByteArray).size = 8 := rfl
  rw [run_slice_string_if W 9 _ _ _ _ _ u9, if_pos ⟨by omega, by rw [e3]; omega⟩, if_pos ⟨by omega, by omega⟩, e1, e2, ea]
def ref5 (c : UInt8) (a b : Nat) : ByteArray := (((⟨#[c]⟩ ++ ⟨#[47]⟩ : ByteArray) ++ dig a) ++ ⟨#[47]⟩ : ByteArray) ++ dig b
theorem close_one (c : UInt8) (hc : c = 107 ∨ c = 115) (a b : Nat) (ha : a < 8) (hb : b < 8) (h : a ≤ b) : ref5 c a b = nameB c a b := by
  rcases hc with rfl | rfl
  · exact ByteArray.ext (refname_str a ha b hb h).1
  · exact ByteArray.ext (refname_str a ha b hb h).2
theorem close_name (c : UInt8) (hc : c = 107 ∨ c = 115) (a b : Nat) (ha : a < 8) (hb : b < 8) : (a ≤ b → ref5 c a b = nameB c a b) ∧ (b ≤ a → ref5 c b a = nameB c a b) ∧ (a = b → ref5 c a a = nameB c a b) := by
  refine ⟨close_one c hc a b ha hb, fun h => ?_, fun h => ?_⟩
  · rw [nameB_comm]; exact close_one c hc b a hb ha h
  · subst h; exact close_one c hc a a ha ha (Nat.le_refl _)
set_option maxRecDepth 100000 in
theorem refname_yes (c : UInt8) (hc : c = 107 ∨ c = 115) (a b : Nat) (ha8 : (a : Int) < 8) (hb8 : (b : Int) < 8) (w : World) : Calls Tryd.prog 24 #[.string ⟨#[c]⟩, .int .i64 a, .int .i64 b] w fun e w' => e = .returned (.tuple #[.string (nameB c a b), .int .i64 0]) ∧ Below w.heap.size w w' := by
  have ha : (0 : Int) ≤ (a : Int) := by omega
  have hb : (0 : Int) ≤ (b : Int) := by omega
  have hA : a < 8 := by omega
  have hB : b < 8 := by omega
  have wa : IntKind.i64.wrap ((a : Int) + 1) = (a : Int) + 1 := IntWalk.i64_in _ (by omega)
  have wb : IntKind.i64.wrap ((b : Int) + 1) = (b : Int) + 1 := IntWalk.i64_in _ (by omega)
  have na : ((a : Int) + 1).toNat = a + 1 := by omega
  have nb : ((b : Int) + 1).toNat = b + 1 := by omega
  have ea : numbers.extract a (a + 1) = dig a := ByteArray.ext (numbers_at a (by omega))
  have eb : numbers.extract b (b + 1) = dig b := ByteArray.ext (numbers_at b (by omega))
  have sa : (dig a).size = 1 := rfl
  have sb : (dig b).size = 1 := rfl
  unfold numbers at ea eb
  have ra := slice_dig a (by omega)
  have rb := slice_dig b (by omega)
  have s1 : (⟨#[c]⟩ : ByteArray).size = 1 := rfl
  have s2 : (⟨#[47]⟩ : ByteArray).size = 1 := rfl
  go_enter Tryd.func24, Tryd.ntmps24
  go_wp2
  all_goals (go_quiet (fail))
  all_goals go_wp2
  all_goals go_ret2
  all_goals refine ⟨ret_name ?_, ?_⟩
  all_goals (first | exact (Below.refl _ _).drewN _ | exact pw_below_drewN (Below.refl _ _) _ | skip)
  all_goals (first
    | (refine (close_name c hc a b hA hB).2.2 ?_; omega)
    | (refine (close_name c hc a b hA hB).1 ?_; omega)
    | (refine (close_name c hc a b hA hB).2.1 ?_; omega))
def chirographref09_name.f (a0 : ByteArray) (a1 a2 : Int) : Option (ByteArray × Int) := if a0.data = #[107] then some (nameS 107 a1 a2) else if a0.data = #[115] then some (nameS 115 a1 a2) else none
theorem refname_any (c : UInt8) (hc : c = 107 ∨ c = 115) (a b : Int) (w : World) : Calls Tryd.prog 24 #[.string ⟨#[c]⟩, .int .i64 a, .int .i64 b] w fun e w' => e = .returned (.tuple #[.string (nameS c a b).1, .int .i64 (nameS c a b).2]) ∧ Below w.heap.size w w' := by
  by_cases h : 0 ≤ a ∧ a < 8 ∧ 0 ≤ b ∧ b < 8
  · obtain ⟨x, rfl⟩ : ∃ x : Nat, a = x := ⟨a.toNat, by omega⟩
    obtain ⟨y, rfl⟩ : ∃ y : Nat, b = y := ⟨b.toNat, by omega⟩
    rw [nameS_yes h.2.1 h.2.2.2]
    exact refname_yes c hc x y h.2.1 h.2.2.2 w
  · rw [nameS_no h]
    exact (refname_no _ a b h w).mono fun e w' ⟨he, hw⟩ => ⟨he, hw ▸ Below.refl _ _⟩
theorem chirographref09_name.calls (a0 : ByteArray) (a1 : Int) (a2 : Int) (r1 : ByteArray) (r2 : Int) (w : World) (h : chirographref09_name.f a0 a1 a2 = some (r1, r2)) :
    Calls Tryd.prog 24 #[.string a0, .int .i64 a1, .int .i64 a2] w fun e w' => e = .returned (.tuple #[.string r1, .int .i64 r2]) ∧ Below w.heap.size w w' := by
  unfold chirographref09_name.f at h
  split at h
  · rename_i hd
    obtain rfl : a0 = ⟨#[107]⟩ := ByteArray.ext hd
    have e := Option.some.inj h
    have := refname_any 107 (.inl rfl) a1 a2 w
    rw [e] at this
    exact this
  · split at h
    · rename_i hd
      obtain rfl : a0 = ⟨#[115]⟩ := ByteArray.ext hd
      have e := Option.some.inj h
      have := refname_any 115 (.inr rfl) a1 a2 w
      rw [e] at this
      exact this
    · cases h
end Go.Proofs.YtpajocjepahobaaDoor.G
