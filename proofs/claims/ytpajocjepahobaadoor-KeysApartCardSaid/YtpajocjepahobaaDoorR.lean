/- What keys.Read answers. -/
import Derived.Test.YtpajocjepahobaaDoorN
namespace Go.Proofs.YtpajocjepahobaaDoor.G
open Go.RowKit Go.Proofs.YtpajocjepahobaaDoorW.PrintWords Go.Proofs.YtpajocjepahobaaDoorW.PrintLast Go.Proofs.YtpajocjepahobaaDoorW.PrintMore
set_option linter.unusedVariables false
set_option linter.unusedSimpArgs false
def no4 : Value := .tuple #[.int .u8 0, .int .i64 0, .int .i64 0, .bool false]
set_option maxRecDepth 100000 in
theorem read_short (s : ByteArray) (h : s.size ≠ 5) (w : World) : Calls Tryd.prog 15 #[.string s] w fun e w' => e = .returned no4 ∧ w' = w := by
  have h1 : ((s.size : Int) != 5) = true := by simp; omega
  go_enter Tryd.func15, Tryd.ntmps15
  go_wp2
  refine bodyPost_ret (v := no4) (by simp [results, Tryd.results15, go_sem, no4]) rfl ⟨rfl, rfl⟩
def hit (x s : ByteArray) (e : Int) : Bool := e == 0 && x.toList == s.toList
def got (x1 x2 s : ByteArray) (e1 e2 a b : Int) : Value :=
  if hit x1 s e1 then .tuple #[.int .u8 1, .int .i64 a, .int .i64 b, .bool true] else if hit x2 s e2 then .tuple #[.int .u8 2, .int .i64 a, .int .i64 b, .bool true] else no4
def ReadI (x1 x2 s : ByteArray) (e1 e2 : Int) (w : World) (x : Value) (wr : World) : Prop :=
  ((x = .int .i64 1 ∨ (x = .int .i64 2 ∧ hit x1 s e1 = false)) ∨ (x = .int .i64 3 ∧ hit x1 s e1 = false ∧ hit x2 s e2 = false)) ∧ Below w.heap.size w wr
set_option maxRecDepth 100000 in
set_option maxHeartbeats 1600000 in
theorem read_core (s : ByteArray) (hs : s.size = 5) (c2 c4 : UInt8) (g2 : s[2]'(by omega) = c2) (g4 : s[4]'(by omega) = c4) (a b : Int) (u2 : wrap64 ((c2.toNat : Int) - 48) = a) (u4 : wrap64 ((c4.toNat : Int) - 48) = b) (x1 x2 : ByteArray) (e1 e2 : Int)
    (w : World) (hL : Laid w)
    (N1 : ∀ W, Laid W → Calls Tryd.prog 23 #[.int .i64 1, .int .i64 a, .int .i64 b] W fun e w' => e = .returned (.tuple #[.string x1, .int .i64 e1]) ∧ Below W.heap.size W w')
    (N2 : ∀ W, Laid W → Calls Tryd.prog 23 #[.int .i64 2, .int .i64 a, .int .i64 b] W fun e w' => e = .returned (.tuple #[.string x2, .int .i64 e2]) ∧ Below W.heap.size W w') :
    Calls Tryd.prog 15 #[.string s] w fun e w' => e = .returned (got x1 x2 s e1 e2 a b) ∧ Below w.heap.size w w' := by
  have sz : ((s.size : Int) != 5) = false := by simp; omega
  have b2 : 0 ≤ (c2.toNat : Int) ∧ (c2.toNat : Int) < 256 := by have := c2.toNat_lt; omega
  have b4 : 0 ≤ (c4.toNat : Int) ∧ (c4.toNat : Int) < 256 := by have := c4.toNat_lt; omega
  have v2 : wrap64 (c2.toNat : Int) = (c2.toNat : Int) := IntWalk.wrap64_in _ (by omega)
  have v4 : wrap64 (c4.toNat : Int) = (c4.toNat : Int) := IntWalk.wrap64_in _ (by omega)
  have l2 : (2 : Int) < (s.size : Int) := by omega
  have l4 : (4 : Int) < (s.size : Int) := by omega
  have U2 := Lib.hid (show (c2.toNat : Int) - 48 = a by rw [← u2]; exact (IntWalk.wrap64_in _ (by omega)).symm)
  have U4 := Lib.hid (show (c4.toNat : Int) - 48 = b by rw [← u4]; exact (IntWalk.wrap64_in _ (by omega)).symm)
  have HL := Lib.hid hL; clear hL
  have N1 := Lib.hid N1
  have N2 := Lib.hid N2
  go_enter Tryd.func15, Tryd.ntmps15
  go_wp2
  go_quiet (fail)
  go_wp2
  clear g2 g4 v2 v4 u2 u4 b2 b4 sz l2 l4 hs
  go_loopw [3, 4, 6] (fun y z x wr => y = .int .i64 a ∧ z = .int .i64 b ∧ ReadI x1 x2 s e1 e2 w x wr) (fun y z x _ => (4 - intOf x).toNat)
  case atStart => exact ⟨by first | rfl | rw [U2.out], by first | rfl | rw [U4.out], .inl (.inl rfl), pw_below_drewN (Below.refl _ _) _⟩
  case round =>
    obtain ⟨rfl, rfl, hr, hb⟩ := hrel
    have hLr := laid_below HL.out hb
    have n1 := N1.out wr hLr
    have n2 := N2.out wr hLr
    have HB := Lib.hid hb; clear hb
    rcases hr with (rfl | ⟨rfl, h1⟩) | ⟨rfl, h1, h2⟩
    · have HN := Lib.hid n1; clear n1 n2 hLr
      cases hh : hit x1 s e1 with
      | true =>
        obtain ⟨q1, q2⟩ : (e1 == 0) = true ∧ (x1.toList == s.toList) = true := by simpa [hit] using hh
        have HH := Lib.hid hh; clear hh
        go_wp2_with (go_at_call 23; with_reducible refine HN.out.mono ?_; rintro e w' ⟨rfl, hb'⟩)
        refine bodyPost_ret (v := .tuple #[.int .u8 1, .int .i64 a, .int .i64 b, .bool true]) (by simp [results, Tryd.results15, go_sem]) rfl ⟨?_, below_step HB.out hb'⟩
        unfold got
        rw [HH.out]; rfl
      | false =>
        have HH := Lib.hid hh
        by_cases q : (e1 == 0) = true
        · have q2 : (x1.toList == s.toList) = false := by
            unfold hit at hh; rw [q, Bool.true_and] at hh; exact hh
          clear hh
          go_wp2_with (go_at_call 23; with_reducible refine HN.out.mono ?_; rintro e w' ⟨rfl, hb'⟩)
          go_roundw
          case rel => exact ⟨rfl, rfl, .inl (.inr ⟨rfl, HH.out⟩), below_step HB.out hb'⟩
          case measure => simp [intOf]
        · have q1 : (e1 == 0) = false := by simpa using q
          clear hh q
          go_wp2_with (go_at_call 23; with_reducible refine HN.out.mono ?_; rintro e w' ⟨rfl, hb'⟩)
          go_roundw
          case rel => exact ⟨rfl, rfl, .inl (.inr ⟨rfl, HH.out⟩), below_step HB.out hb'⟩
          case measure => simp [intOf]
    · have HN := Lib.hid n2; clear n1 n2 hLr
      have H1 := Lib.hid h1; clear h1
      cases hh : hit x2 s e2 with
      | true =>
        obtain ⟨q1, q2⟩ : (e2 == 0) = true ∧ (x2.toList == s.toList) = true := by simpa [hit] using hh
        have HH := Lib.hid hh; clear hh
        go_wp2_with (go_at_call 23; with_reducible refine HN.out.mono ?_; rintro e w' ⟨rfl, hb'⟩)
        refine bodyPost_ret (v := .tuple #[.int .u8 2, .int .i64 a, .int .i64 b, .bool true]) (by simp [results, Tryd.results15, go_sem]) rfl ⟨?_, below_step HB.out hb'⟩
        unfold got
        rw [H1.out, HH.out]; rfl
      | false =>
        have HH := Lib.hid hh
        by_cases q : (e2 == 0) = true
        · have q2 : (x2.toList == s.toList) = false := by
            unfold hit at hh; rw [q, Bool.true_and] at hh; exact hh
          clear hh
          go_wp2_with (go_at_call 23; with_reducible refine HN.out.mono ?_; rintro e w' ⟨rfl, hb'⟩)
          go_roundw
          case rel => exact ⟨rfl, rfl, .inr ⟨rfl, H1.out, HH.out⟩, below_step HB.out hb'⟩
          case measure => simp [intOf]
        · have q1 : (e2 == 0) = false := by simpa using q
          clear hh q
          go_wp2_with (go_at_call 23; with_reducible refine HN.out.mono ?_; rintro e w' ⟨rfl, hb'⟩)
          go_roundw
          case rel => exact ⟨rfl, rfl, .inr ⟨rfl, H1.out, HH.out⟩, below_step HB.out hb'⟩
          case measure => simp [intOf]
    · have H1 := Lib.hid h1; have H2 := Lib.hid h2; clear h1 h2 n1 n2
      go_wp2
      refine bodyPost_ret (v := no4) (by simp [results, Tryd.results15, go_sem, no4]) rfl ⟨?_, HB.out⟩
      unfold got
      rw [H1.out, H2.out]; rfl
end Go.Proofs.YtpajocjepahobaaDoor.G
