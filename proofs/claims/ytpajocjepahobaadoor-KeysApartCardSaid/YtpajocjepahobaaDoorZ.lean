/- The law of keys apart where a name may not be. -/
import Derived.Test.YtpajocjepahobaaDoorT
namespace Go.Proofs.YtpajocjepahobaaDoor.G
open Go.RowKit Go.Proofs.YtpajocjepahobaaDoorW.PrintWords Go.Proofs.YtpajocjepahobaaDoorW.PrintLast Go.Proofs.YtpajocjepahobaaDoorW.PrintMore
set_option linter.unusedVariables false
set_option linter.unusedSimpArgs false
set_option maxRecDepth 100000 in
set_option maxHeartbeats 3200000 in
theorem apart_no (a b c d set n : Int) (x u z v : ByteArray) (e g : Int) (h : e ≠ 0 ∨ g ≠ 0) (w : World) (hL : Laid w)
    (T1 : ∀ W, Laid W → Calls Tryd.prog 11 #[.int .i64 a, .int .i64 b] W fun e0 w' => e0 = .returned (.tuple #[.string x, .int .i64 e]) ∧ Below W.heap.size W w')
    (T2 : ∀ W, Laid W → Calls Tryd.prog 11 #[.int .i64 b, .int .i64 a] W fun e0 w' => e0 = .returned (.tuple #[.string x, .int .i64 e]) ∧ Below W.heap.size W w')
    (T3 : ∀ W, Laid W → Calls Tryd.prog 11 #[.int .i64 c, .int .i64 d] W fun e0 w' => e0 = .returned (.tuple #[.string z, .int .i64 g]) ∧ Below W.heap.size W w')
    (T4 : ∀ W, Laid W → Calls Tryd.prog 13 #[.int .i64 a, .int .i64 b] W fun e0 w' => e0 = .returned (.tuple #[.string u, .int .i64 e]) ∧ Below W.heap.size W w')
    (T5 : ∀ W, Laid W → Calls Tryd.prog 13 #[.int .i64 c, .int .i64 d] W fun e0 w' => e0 = .returned (.tuple #[.string v, .int .i64 g]) ∧ Below W.heap.size W w') :
    Calls Tryd.prog 5 #[.int .i64 a, .int .i64 b, .int .i64 c, .int .i64 d, .int .u8 set, .int .i64 n] w fun e w' => e = .returned (.bool true) ∧ Below w.heap.size w w' := by
  have A := Lib.hid alive_any
  have HL := Lib.hid hL; clear hL
  by_cases he : (e != 0) = true
  · clear h
    go_enter Tryd.func5, Tryd.ntmps5
    go_wp2_with (first
      | (go_at_call 11; (with_reducible refine (T1 _ HL.out).mono ?_); rintro e0 w1 ⟨rfl, hb1⟩; have HB1 := Lib.hid hb1; clear hb1 T1)
      | (go_at_call 11; (with_reducible refine (T2 _ (laid_below HL.out HB1.out)).mono ?_); rintro e0 w2 ⟨rfl, hb2⟩; have HB2 := Lib.hid (below_step HB1.out hb2); clear hb2 T2 HB1)
      | (go_at_call 11; (with_reducible refine (T3 _ (laid_below HL.out HB2.out)).mono ?_); rintro e0 w3 ⟨rfl, hb3⟩; have HB3 := Lib.hid (below_step HB2.out hb3); clear hb3 T3 HB2)
      | (go_at_call 13; (with_reducible refine (T4 _ (laid_below HL.out HB3.out)).mono ?_); rintro e0 w4 ⟨rfl, hb4⟩; have HB4 := Lib.hid (below_step HB3.out hb4); clear hb4 T4 HB3)
      | (go_at_call 13; (with_reducible refine (T5 _ (laid_below HL.out HB4.out)).mono ?_); rintro e0 w5 ⟨rfl, hb5⟩; have HB5 := Lib.hid (below_step HB4.out hb5); clear hb5 T5 HB4)
      | (go_at_call 6; (with_reducible refine (A.out _ (laid_below HL.out HB5.out)).mono ?_); rintro e0 w6 ⟨rfl, hb6⟩; have HB6 := Lib.hid (below_step HB5.out hb6); clear hb6))
    go_ret
    exact ⟨rfl, HB6.out⟩
  · have he' : (e != 0) = false := by simpa using he
    have hg : (g != 0) = true := by
      rcases h with h | h
      · exact absurd (by simpa using h) he
      · simpa using h
    clear h he
    go_enter Tryd.func5, Tryd.ntmps5
    go_wp2_with (first
      | (go_at_call 11; (with_reducible refine (T1 _ HL.out).mono ?_); rintro e0 w1 ⟨rfl, hb1⟩; have HB1 := Lib.hid hb1; clear hb1 T1)
      | (go_at_call 11; (with_reducible refine (T2 _ (laid_below HL.out HB1.out)).mono ?_); rintro e0 w2 ⟨rfl, hb2⟩; have HB2 := Lib.hid (below_step HB1.out hb2); clear hb2 T2 HB1)
      | (go_at_call 11; (with_reducible refine (T3 _ (laid_below HL.out HB2.out)).mono ?_); rintro e0 w3 ⟨rfl, hb3⟩; have HB3 := Lib.hid (below_step HB2.out hb3); clear hb3 T3 HB2)
      | (go_at_call 13; (with_reducible refine (T4 _ (laid_below HL.out HB3.out)).mono ?_); rintro e0 w4 ⟨rfl, hb4⟩; have HB4 := Lib.hid (below_step HB3.out hb4); clear hb4 T4 HB3)
      | (go_at_call 13; (with_reducible refine (T5 _ (laid_below HL.out HB4.out)).mono ?_); rintro e0 w5 ⟨rfl, hb5⟩; have HB5 := Lib.hid (below_step HB4.out hb5); clear hb5 T5 HB4)
      | (go_at_call 6; (with_reducible refine (A.out _ (laid_below HL.out HB5.out)).mono ?_); rintro e0 w6 ⟨rfl, hb6⟩; have HB6 := Lib.hid (below_step HB5.out hb6); clear hb6))
    go_ret
    exact ⟨rfl, HB6.out⟩
theorem nameS_comm (c : UInt8) (a b : Int) : nameS c b a = nameS c a b := by
  by_cases h : 0 ≤ a ∧ a < 8 ∧ 0 ≤ b ∧ b < 8
  · obtain ⟨x, rfl⟩ : ∃ x : Nat, a = x := ⟨a.toNat, by omega⟩
    obtain ⟨y, rfl⟩ : ∃ y : Nat, b = y := ⟨b.toNat, by omega⟩
    rw [nameS_yes h.2.1 h.2.2.2, nameS_yes h.2.2.2 h.2.1, nameB_comm]
  · rw [nameS_no h, nameS_no (fun h' => h ⟨h'.2.2.1, h'.2.2.2, h'.1, h'.2.1⟩)]
theorem nameS_err (c c' : UInt8) (a b : Int) : (nameS c a b).2 = (nameS c' a b).2 := by
  unfold nameS; split <;> rfl
theorem nameS_bad {c : UInt8} {a b : Int} (h : ¬ (0 ≤ a ∧ a < 8 ∧ 0 ≤ b ∧ b < 8)) : (nameS c a b).2 ≠ 0 := by rw [nameS_no h]; decide
/-- where one of the two pairs is none -/
theorem keysApart_no (a b c d set n : Int) (h : ¬ (0 ≤ a ∧ a < 8 ∧ 0 ≤ b ∧ b < 8) ∨ ¬ (0 ≤ c ∧ c < 8 ∧ 0 ≤ d ∧ d < 8)) (w : World) (hL : Laid w) :
    Calls Tryd.prog 5 #[.int .i64 a, .int .i64 b, .int .i64 c, .int .i64 d, .int .u8 set, .int .i64 n] w fun e w' => e = .returned (.bool true) ∧ Below w.heap.size w w' := by
  refine apart_no a b c d set n (nameS 107 a b).1 (nameS 115 a b).1 (nameS 107 c d).1 (nameS 115 c d).1 (nameS 107 a b).2 (nameS 107 c d).2 (h.imp nameS_bad nameS_bad) w hL
    (fun W h => tag_any a b W h) (fun W h => ?_) (fun W h => tag_any c d W h) (fun W h => ?_) (fun W h => ?_)
  · have := tag_any b a W h
    rwa [nameS_comm] at this
  · rw [nameS_err 107 115]; exact seal_any a b W h
  · rw [nameS_err 107 115]; exact seal_any c d W h
end Go.Proofs.YtpajocjepahobaaDoor.G
