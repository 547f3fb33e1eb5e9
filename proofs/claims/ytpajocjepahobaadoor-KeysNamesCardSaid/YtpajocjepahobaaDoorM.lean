/- The law of names: for any two numbers and any name it answers true. -/
import Derived.Test.YtpajocjepahobaaDoorQ
namespace Go.Proofs.YtpajocjepahobaaDoor.G
open Go.RowKit Go.Proofs.YtpajocjepahobaaDoorW.PrintWords Go.Proofs.YtpajocjepahobaaDoorW.PrintLast Go.Proofs.YtpajocjepahobaaDoorW.PrintMore
set_option linter.unusedVariables false
set_option linter.unusedSimpArgs false
set_option maxRecDepth 100000 in
set_option maxHeartbeats 3200000 in
theorem keysNames (a b : Int) (s : ByteArray) (w : World) (hL : Laid w) : Calls Tryd.prog 4 #[.int .i64 a, .int .i64 b, .string s] w fun e w' => e = .returned (.bool true) ∧ Below w.heap.size w w' := by
  have A := fun W h => alive_any W h
  have HL := Lib.hid hL; clear hL
  by_cases hs : 1000 < (s.size : Int)
  · have hs1 : decide (1000 < s.size) = true := by simp; omega
    go_enter Tryd.func4, Tryd.ntmps4
    go_wp2_with (go_at_call 6; (with_reducible refine (A _ HL.out).mono ?_); rintro e w1 ⟨rfl, hb1⟩)
    go_ret
    exact ⟨rfl, hb1⟩
  · have hs1 : decide (1000 < s.size) = false := by simp; omega
    have T1 := fun W h => tag_any a b W h
    have T2 := fun W => chirographref09_Tag.calls a b (nameS 107 a b).1 (nameS 107 a b).2 W (tag_f a b)
    have T3 := fun W h => seal_any a b W h
    have T4 := fun W => chirographref09_Seal.calls a b (nameS 115 a b).1 (nameS 115 a b).2 W (seal_f a b)
    have T5 := fun W h => read_any s W h
    obtain ⟨⟨r1, r2, r3, r4⟩, hr⟩ : ∃ r, readK s = r := ⟨_, rfl⟩
    have T6 := fun W => chirographref09_Read.calls 100 s r1 r2 r3 r4 W ((ref_read s).trans (congrArg some hr))
    rw [hr] at T5
    obtain ⟨⟨t1, t2⟩, ht⟩ : ∃ r, nameS 107 a b = r := ⟨_, rfl⟩
    obtain ⟨⟨v1, v2⟩, hv⟩ : ∃ r, nameS 115 a b = r := ⟨_, rfl⟩
    rw [ht] at T1 T2
    rw [hv] at T3 T4
    simp only [val4] at T5
    clear hr ht hv
    go_enter Tryd.func4, Tryd.ntmps4
    go_wp2_with (first
      | (go_at_call 11; (with_reducible refine (T1 _ HL.out).mono ?_); rintro e w1 ⟨rfl, hb1⟩; have HB1 := Lib.hid hb1; clear hb1)
      | (go_at_call 12; (with_reducible refine (T2 _).mono ?_); rintro e w2 ⟨rfl, hb2⟩; have HB2 := Lib.hid (below_step HB1.out hb2); clear hb2)
      | (go_at_call 13; (with_reducible refine (T3 _ (laid_below HL.out HB2.out)).mono ?_); rintro e w3 ⟨rfl, hb3⟩; have HB3 := Lib.hid (below_step HB2.out hb3); clear hb3)
      | (go_at_call 14; (with_reducible refine (T4 _).mono ?_); rintro e w4 ⟨rfl, hb4⟩; have HB4 := Lib.hid (below_step HB3.out hb4); clear hb4)
      | (go_at_call 15; (with_reducible refine (T5 _ (laid_below HL.out HB4.out)).mono ?_); rintro e w5 ⟨rfl, hb5⟩; have HB5 := Lib.hid (below_step HB4.out hb5); clear hb5)
      | (go_at_call 16; (with_reducible refine (T6 _).mono ?_); rintro e w6 ⟨rfl, hb6⟩; have HB6 := Lib.hid (below_step HB5.out hb6); clear hb6)
      | (go_at_call 6; (with_reducible refine (A _ (laid_below HL.out HB6.out)).mono ?_); rintro e w7 ⟨rfl, hb7⟩; have HB7 := Lib.hid (below_step HB6.out hb7); clear hb7))
    go_ret
    exact ⟨rfl, HB7.out⟩
end Go.Proofs.YtpajocjepahobaaDoor.G
