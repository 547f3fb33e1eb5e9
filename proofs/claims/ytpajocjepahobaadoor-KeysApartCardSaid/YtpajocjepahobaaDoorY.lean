/- The law of keys apart: for any two pairs, any set and any number of organisations it answers true. -/
import Derived.Test.YtpajocjepahobaaDoorX
import Derived.Test.YtpajocjepahobaaDoorZ
namespace Go.Proofs.YtpajocjepahobaaDoor.G
open Go.RowKit Go.Proofs.YtpajocjepahobaaDoorW.PrintWords Go.Proofs.YtpajocjepahobaaDoorW.PrintLast Go.Proofs.YtpajocjepahobaaDoorW.PrintMore
set_option linter.unusedVariables false
set_option linter.unusedSimpArgs false
theorem toList_iff (x y : ByteArray) : (x.toList == y.toList) = true ↔ x = y := by
  rw [beq_iff_eq]
  exact ⟨toList_data x y, fun h => by rw [h]⟩
theorem bool_of_iff {p q : Bool} (h : p = true ↔ q = true) : p = q := Bool.eq_iff_iff.2 h
def sameB (a b c d : Nat) : Bool := ((((a : Int) == (c : Int)) && ((b : Int) == (d : Int))) || (((a : Int) == (d : Int)) && ((b : Int) == (c : Int))))
theorem same_names {c0 : UInt8} {a b c d : Nat} (ha : a < 8) (hb : b < 8) (hc : c < 8) (hd : d < 8) : ((nameB c0 a b).toList == (nameB c0 c d).toList) = sameB a b c d := by
  refine bool_of_iff ?_
  rw [toList_iff, nameB_inj ha hb hc hd]
  unfold sameB
  simp only [Bool.or_eq_true, Bool.and_eq_true, beq_iff_eq, true_and]
  constructor
  · rintro ⟨h1, h2⟩; omega
  · rintro (⟨h1, h2⟩ | ⟨h1, h2⟩) <;> constructor <;> omega
theorem diff_names {c0 c1 : UInt8} (h : c0 ≠ c1) {a b c d : Nat} (ha : a < 8) (hb : b < 8) (hc : c < 8) (hd : d < 8) : ((nameB c0 a b).toList == (nameB c1 c d).toList) = false := by
  refine Bool.eq_false_iff.2 fun hh => ?_
  rw [toList_iff, nameB_inj ha hb hc hd] at hh
  exact h hh.1
theorem keysApart_yes (a b c d : Nat) (ha : a < 8) (hb : b < 8) (hc : c < 8) (hd : d < 8) (set n : Int) (hs0 : 0 ≤ set) (hs1 : set < 256) (w : World) (hL : Laid w) :
    Calls Tryd.prog 5 #[.int .i64 a, .int .i64 b, .int .i64 c, .int .i64 d, .int .u8 set, .int .i64 n] w fun e w' => e = .returned (.bool true) ∧ Below w.heap.size w w' := by
  have nm : ∀ (c0 : UInt8) (x y : Nat), x < 8 → y < 8 → nameS c0 x y = (nameB c0 x y, 0) := fun c0 x y hx hy => nameS_yes (by omega) (by omega)
  refine apart_core a b c d set n hs0 hs1 (nameB 107 a b) (nameB 115 a b) (nameB 107 c d) (nameB 115 c d) (sameB a b c d) _ _ _ (min a b) (max a b)
    (same_names ha hb hc hd) (same_names ha hb hc hd) (diff_names (by decide) ha hb hc hd) (diff_names (by decide) ha hb hc hd) rfl rfl rfl rfl
    (Lib.hid (bool_of_iff ?_)) (Lib.hid (bool_of_iff ?_)) (Lib.hid rfl) (Lib.hid rfl) (Lib.hid (bool_of_iff ?_)) (Lib.hid (fun h1 h2 => bool_of_iff ?_)) w hL
    (fun W h => ?_) (fun W h => ?_) (fun W h => ?_) (fun W h => ?_) (fun W h => ?_) (fun W h => ?_)
  · rw [isIn_iff, known_mem 107 (.inl rfl) set n a b ha hb]
    simp only [Bool.and_eq_true, Bool.or_eq_true, decide_eq_true_eq, and_assoc]
  · rw [isIn_iff, known_mem 115 (.inr rfl) set n a b ha hb]
    simp only [Bool.and_eq_true, Bool.or_eq_true, decide_eq_true_eq, and_assoc]
  · rw [isIn_iff, of_mem a n a b ha hb]
    simp only [Bool.and_eq_true, decide_eq_true_eq]
    constructor
    · intro h; refine ⟨?_, ?_, ?_, ?_, ?_, ?_, Or.inl trivial⟩ <;> omega
    · intro h; refine ⟨⟨⟨?_, ?_⟩, ?_⟩, ?_⟩ <;> omega
  · rw [decide_eq_true_eq] at h1 h2
    rw [isIn_iff, of_mem a n c d hc hd]
    simp only [Bool.and_eq_true, Bool.or_eq_true, decide_eq_true_eq, beq_iff_eq]
    constructor
    · intro h; refine ⟨?_, ?_, ?_, ?_, ?_, ?_, ?_⟩ <;> omega
    · intro h; refine ⟨⟨⟨?_, ?_⟩, ?_⟩, ?_⟩ <;> omega
  · have := tag_any a b W h
    rwa [nm 107 a b ha hb] at this
  · have := tag_any b a W h
    rwa [nameS_comm, nm 107 a b ha hb] at this
  · have := tag_any c d W h
    rwa [nm 107 c d hc hd] at this
  · have := seal_any a b W h
    rwa [nm 115 a b ha hb] at this
  · have := seal_any c d W h
    rwa [nm 115 c d hc hd] at this
  · have := read_any (nameB 115 a b) W h
    rw [show readK (nameB 115 a b) = _ from readK_name false a b ha hb] at this
    exact this
theorem keysApart (a b c d set n : Int) (hs0 : 0 ≤ set) (hs1 : set < 256) (w : World) (hL : Laid w) :
    Calls Tryd.prog 5 #[.int .i64 a, .int .i64 b, .int .i64 c, .int .i64 d, .int .u8 set, .int .i64 n] w fun e w' => e = .returned (.bool true) ∧ Below w.heap.size w w' := by
  by_cases h1 : 0 ≤ a ∧ a < 8 ∧ 0 ≤ b ∧ b < 8
  · by_cases h2 : 0 ≤ c ∧ c < 8 ∧ 0 ≤ d ∧ d < 8
    · obtain ⟨x, rfl⟩ : ∃ x : Nat, a = x := ⟨a.toNat, by omega⟩
      obtain ⟨y, rfl⟩ : ∃ y : Nat, b = y := ⟨b.toNat, by omega⟩
      obtain ⟨z, rfl⟩ : ∃ z : Nat, c = z := ⟨c.toNat, by omega⟩
      obtain ⟨v, rfl⟩ : ∃ v : Nat, d = v := ⟨d.toNat, by omega⟩
      exact keysApart_yes x y z v (by omega) (by omega) (by omega) (by omega) set n hs0 hs1 w hL
    · exact keysApart_no a b c d set n (.inr h2) w hL
  · exact keysApart_no a b c d set n (.inl h1) w hL
end Go.Proofs.YtpajocjepahobaaDoor.G
