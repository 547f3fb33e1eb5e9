/- What term.front answers, or throws. -/
import Derived.Test.YtpajocjepahobaaG5
import Derived.Test.YtpajocjepahobaaNamed
import Derived.Test.YtpajocjepahobaaAA
namespace Go.Proofs.Ytpajocjepahobaa.G
open Go.RowKit Go.Proofs.YtpajocjepahobaaW.PrintWords Go.Proofs.YtpajocjepahobaaW.PrintLast Go.Proofs.YtpajocjepahobaaW.PrintMore
set_option linter.unusedVariables false
set_option linter.unusedSimpArgs false

theorem L_extract1 (s : ByteArray) (c : UInt8) (r : List UInt8) (hs : L s = c :: r) : L (s.extract 1 s.size) = r := by
  rw [L, Lib.extract_to_end, ← L, hs]; rfl
theorem size_L (s : ByteArray) : s.size = (L s).length := by simp
theorem bytes_eq (s : ByteArray) (l : List UInt8) (h : L s = l) : s = ⟨l.toArray⟩ := by
  subst h; cases s; simp [L]

theorem readText_f (s : ByteArray) (m : Nat) (hm : m ≤ 2147483648) (ha : s.size ≤ 140737488351232) :
    octet_ReadText.f s m = some (⟨(Pl.readText (L s) m).1.toArray⟩, ((Pl.readText (L s) m).2.1 : Int), ((Pl.readText (L s) m).2.2 : Int)) := by
  have hv := Pl.readNum_val (L s)
  have hn := Pl.readNum_n (L s)
  have hl := Pl.readNum_len (L s)
  rw [← size_L] at hl
  have hx : ∀ n v : Nat, s.extract n (n + v) = ⟨(((L s).drop n).take v).toArray⟩ := by
    intro n v
    apply bytes_eq
    rw [L, Lib.extract_data]
    congr 1
    omega
  unfold octet_ReadText.f octet_ReadNum.f
  rw [if_pos ha]
  simp only [Option.bind_some]
  unfold Pl.readText
  rw [← size_L]
  generalize Pl.readNum (L s) = R at hv hn hl ⊢
  obtain ⟨v, n, e⟩ := R
  replace hv : v < 18446744073709551616 := hv
  simp only at hn hl ⊢
  have e1 : IntKind.u64.wrap (mx (m : Int) 0) = m := by rw [IntKind.wrap_u64]; unfold mx; split <;> omega
  rw [e1]
  by_cases h1 : e = 0
  · have hl := hl h1
    subst h1
    have e2 : IntKind.u64.wrap (wrap64 ((s.size : Int) - (n : Int))) = ((s.size - n : Nat) : Int) := by
      rw [IntKind.wrap_u64]; unfold wrap64; omega
    rw [e2]
    simp only [ne_eq, not_true, if_false, Int.ofNat_eq_zero, Int.natCast_zero, if_true]
    by_cases h2 : m < v
    · rw [if_pos (show (v : Int) > (m : Int) by omega), if_pos h2]; rfl
    · rw [if_neg (show ¬ (v : Int) > (m : Int) by omega), if_neg h2]
      by_cases h3 : s.size - n < v
      · rw [if_pos (show (v : Int) > ((s.size - n : Nat) : Int) by omega), if_pos h3]; rfl
      · have e3 : wrap64 ((n : Int) + wrap64 (v : Int)) = ((n + v : Nat) : Int) := by
          unfold wrap64; omega
        rw [if_neg (show ¬ (v : Int) > ((s.size - n : Nat) : Int) by omega), if_neg h3, if_pos (show (0 : Int) ≤ (n : Int) by omega), e3,
          if_pos (show (n : Int) ≤ ((n + v : Nat) : Int) by omega), if_pos (show ((n + v : Nat) : Int) ≤ (s.size : Int) by omega)]
        simp only [Int.toNat_natCast]
        rw [hx]; rfl
  · rw [if_neg (show ¬ (e : Int) = 0 by omega), if_pos h1]; rfl

/-- how a call of front ends -/
def FrontPost (r : Except Nat (Nat × Nat)) (w : World) (e : Ending) (w' : World) : Prop :=
  Below w.heap.size w w' ∧ match r with
    | .ok (n, k) => e = .returned (.tuple #[.int .i64 n, .int .i64 k])
    | .error c => e = .panicked (wrongV c)

theorem must_err (c : Nat) (h : c ≠ 0) (w : World) : Calls Try.prog 153 #[.int .i64 c] w fun e w' => e = .panicked (wrongV c) ∧ w = w' :=
  must_no _ (by simp; omega) w

set_option maxRecDepth 100000 in
set_option maxHeartbeats 1000000 in
theorem front_nil (s : ByteArray) (hs : L s = []) (w : World) : Calls Try.prog 163 #[.string s] w (FrontPost (Pl.head []) w) := by
  have h1 : s.toList.isEmpty = true := by rw [Lib.toList_data]; show (L s).isEmpty = true; rw [hs]; rfl
  clear hs
  go_enter Try.func163, Try.ntmps163
  go_wp2_with (go_at_call 153; refine (must_err 6 (by decide) _).mono ?_; rintro e w' ⟨rfl, rfl⟩)
  exact ⟨rfl, Below.refl _ _, rfl⟩

set_option maxRecDepth 100000 in
set_option maxHeartbeats 1000000 in
theorem front_hms (s : ByteArray) (c : UInt8) (r : List UInt8) (hs : L s = c :: r) (hc : c = 104 ∨ c = 109 ∨ c = 115) (w : World) : Calls Try.prog 163 #[.string s] w (FrontPost (Pl.head (c :: r)) w) := by
  have h1 : s.toList.isEmpty = false := by rw [Lib.toList_data]; show (L s).isEmpty = false; rw [hs]; rfl
  have h2 : 0 < s.size := by rw [size_L, hs]; simp
  have hx := byte_at s 0 c (by rw [hs]; rfl)
  clear hs
  rcases hc with rfl | rfl | rfl
  all_goals
    have hx0 : ∀ h : 0 < s.size, ((s[0]'h).toNat : Int) = _ := hx
    clear hx
    go_enter Try.func163, Try.ntmps163
    go_wp2
    go_ret2
    exact ⟨Below.refl _ _, rfl⟩
set_option maxRecDepth 100000 in
set_option maxHeartbeats 1000000 in
theorem front_none (s : ByteArray) (c : UInt8) (r : List UInt8) (hs : L s = c :: r) (hc : c ≠ 100 ∧ c ≠ 97 ∧ c ≠ 114 ∧ c ≠ 104 ∧ c ≠ 109 ∧ c ≠ 115) (w : World) : Calls Try.prog 163 #[.string s] w (FrontPost (.error 7) w) := by
  have h1 : s.toList.isEmpty = false := by rw [Lib.toList_data]; show (L s).isEmpty = false; rw [hs]; rfl
  have h2 : 0 < s.size := by rw [size_L, hs]; simp
  obtain ⟨d, hd⟩ : ∃ d, (c.toNat : Int) = d := ⟨_, rfl⟩
  have hx0 : ∀ h : 0 < s.size, ((s[0]'h).toNat : Int) = d := by rw [← hd]; exact byte_at s 0 c (by rw [hs]; rfl)
  have ne : ∀ k : UInt8, c ≠ k → (d == (k.toNat : Int)) = false := by
    intro k hk; rw [← hd]; simp; intro h; exact hk (UInt8.toNat_inj.1 (by omega))
  have n1 : (d == 100) = false := ne 100 hc.1
  have n2 : (d == 97) = false := ne 97 hc.2.1
  have n3 : (d == 114) = false := ne 114 hc.2.2.1
  have n4 : (d == 104) = false := ne 104 hc.2.2.2.1
  have n5 : (d == 109) = false := ne 109 hc.2.2.2.2.1
  have n6 : (d == 115) = false := ne 115 hc.2.2.2.2.2
  clear hs ne hc hd
  go_enter Try.func163, Try.ntmps163
  go_wp2_with (go_at_call 153; refine (must_err 7 (by decide) _).mono ?_; rintro e w' ⟨rfl, rfl⟩)
  exact ⟨rfl, Below.refl _ _, rfl⟩
set_option maxRecDepth 100000 in
set_option maxHeartbeats 1000000 in
theorem front_d (s : ByteArray) (r : List UInt8) (hs : L s = 100 :: r) (ha : s.size ≤ 140737488351232) (w : World) : Calls Try.prog 163 #[.string s] w (FrontPost (Pl.head (100 :: r)) w) := by
  have h1 : s.toList.isEmpty = false := by rw [Lib.toList_data]; show (L s).isEmpty = false; rw [hs]; rfl
  have h2 : 0 < s.size := by rw [size_L, hs]; simp
  have hx0 : ∀ h : 0 < s.size, ((s[0]'h).toNat : Int) = 100 := byte_at s 0 100 (by rw [hs]; rfl)
  have hl := L_extract1 s _ _ hs
  have hrt := readText_f (s.extract 1 s.size) 1024 (by decide) (by rw [size_L, hl]; rw [size_L, hs] at ha; simp at ha; omega)
  rw [hl] at hrt
  have hn := Pl.readText_n r 1024
  simp only [Pl.head]
  rw [if_pos True.intro]
  generalize Pl.readText r 1024 = R at hrt hn ⊢
  obtain ⟨t, n, e⟩ := R
  simp only at hrt hn ⊢
  have hc := fun W => octet_ReadText.calls _ _ _ _ _ W hrt
  clear hrt hl hs
  by_cases he : e = 0
  · subst he
    rw [if_neg (by simp)]
    go_enter Try.func163, Try.ntmps163
    go_wp2_with (first | (go_at_call 119; refine (hc _).mono ?_; rintro e w' ⟨rfl, hb⟩) | (go_at_call 153; refine (must_ok _).mono ?_; rintro e w' ⟨rfl, rfl⟩))
    go_ret2
    exact ⟨hb, by go_num⟩
  · rw [if_pos he]
    go_enter Try.func163, Try.ntmps163
    go_wp2_with (first | (go_at_call 119; refine (hc _).mono ?_; rintro e w' ⟨rfl, hb⟩) | (go_at_call 153; refine (must_err _ he _).mono ?_; rintro e w' ⟨rfl, rfl⟩))
    exact ⟨rfl, hb, rfl⟩

set_option maxRecDepth 100000 in
set_option maxHeartbeats 1000000 in
theorem front_r (s : ByteArray) (r : List UInt8) (hs : L s = 114 :: r) (ha : s.size ≤ 140737488351232) (w : World) : Calls Try.prog 163 #[.string s] w (FrontPost (Pl.head (114 :: r)) w) := by
  have h1 : s.toList.isEmpty = false := by rw [Lib.toList_data]; show (L s).isEmpty = false; rw [hs]; rfl
  have h2 : 0 < s.size := by rw [size_L, hs]; simp
  have hx0 : ∀ h : 0 < s.size, ((s[0]'h).toNat : Int) = 114 := byte_at s 0 114 (by rw [hs]; rfl)
  have hl := L_extract1 s _ _ hs
  have hrt : octet_ReadNum.f (s.extract 1 s.size) = some (((Pl.readNum r).1 : Int), ((Pl.readNum r).2.1 : Int), ((Pl.readNum r).2.2 : Int)) := by
    unfold octet_ReadNum.f
    rw [hl, if_pos (by rw [size_L, hl]; rw [size_L, hs] at ha; simp at ha; omega)]
  have hn := Pl.readNum_n r
  simp only [Pl.head]
  rw [if_neg (by decide), if_neg (by decide), if_pos True.intro]
  generalize Pl.readNum r = R at hrt hn ⊢
  obtain ⟨v, n, e⟩ := R
  simp only at hrt hn ⊢
  have hc := fun W => octet_ReadNum.calls _ _ _ _ W hrt
  clear hrt hl hs
  by_cases he : e = 0
  · subst he
    rw [if_neg (by simp)]
    by_cases hv : 32 < v
    · have hv1 : decide ((32 : Int) < (v : Int)) = true := by simp; omega
      rw [if_pos hv]
      go_enter Try.func163, Try.ntmps163
      go_wp2_with (first | (go_at_call 165; refine (hc _).mono ?_; rintro e w' ⟨rfl, hb⟩) | (go_at_call 153; first | (refine (must_ok _).mono ?_; rintro e w' ⟨rfl, rfl⟩) | (refine (must_err 5 (by decide) _).mono ?_; rintro e w' ⟨rfl, rfl⟩)))
      exact ⟨rfl, hb.below, rfl⟩
    · have hv1 : decide ((32 : Int) < (v : Int)) = false := by simp; omega
      have hv2 : v ≤ 32 := by omega
      rw [if_neg hv]
      go_enter Try.func163, Try.ntmps163
      go_wp2_with (first | (go_at_call 165; refine (hc _).mono ?_; rintro e w' ⟨rfl, hb⟩) | (go_at_call 153; refine (must_ok _).mono ?_; rintro e w' ⟨rfl, rfl⟩))
      go_ret2
      exact ⟨hb.below, by go_num⟩
  · rw [if_pos he]
    go_enter Try.func163, Try.ntmps163
    go_wp2_with (first | (go_at_call 165; refine (hc _).mono ?_; rintro e w' ⟨rfl, hb⟩) | (go_at_call 153; refine (must_err _ he _).mono ?_; rintro e w' ⟨rfl, rfl⟩))
    exact ⟨rfl, hb.below, rfl⟩
set_option maxRecDepth 100000 in
set_option maxHeartbeats 1000000 in
theorem front_a (s : ByteArray) (r : List UInt8) (hs : L s = 97 :: r) (ha : s.size ≤ 140737488351232) (w : World) : Calls Try.prog 163 #[.string s] w (FrontPost (Pl.head (97 :: r)) w) := by
  have h1 : s.toList.isEmpty = false := by rw [Lib.toList_data]; show (L s).isEmpty = false; rw [hs]; rfl
  have h2 : 0 < s.size := by rw [size_L, hs]; simp
  have hx0 : ∀ h : 0 < s.size, ((s[0]'h).toNat : Int) = 97 := byte_at s 0 97 (by rw [hs]; rfl)
  have hl := L_extract1 s _ _ hs
  have hrt := readText_f (s.extract 1 s.size) 32 (by decide) (by rw [size_L, hl]; rw [size_L, hs] at ha; simp at ha; omega)
  rw [hl] at hrt
  have hn := Pl.readText_n r 32
  simp only [Pl.head]
  rw [if_neg (by decide), if_pos True.intro]
  generalize Pl.readText r 32 = R at hrt hn ⊢
  obtain ⟨t, n, e⟩ := R
  simp only at hrt hn ⊢
  have hc := fun W => octet_ReadText.calls _ _ _ _ _ W hrt
  clear hrt hl hs
  by_cases he : e = 0
  · subst he
    rw [if_neg (by simp)]
    have hnm := fun W => named_any ⟨t.toArray⟩ W
    have ht : L ⟨t.toArray⟩ = t := by simp [L]
    rw [ht] at hnm
    obtain ⟨tb, htb⟩ : ∃ tb : ByteArray, (⟨t.toArray⟩ : ByteArray) = tb := ⟨_, rfl⟩
    rw [htb] at hnm hc
    clear ht htb
    cases hok : Pl.nameOk t
    · simp only [hok] at hnm
      rw [if_pos rfl]
      clear hok
      go_enter Try.func163, Try.ntmps163
      go_wp2_with (first | (go_at_call 119; refine (hc _).mono ?_; rintro e w1 ⟨rfl, hb⟩) | (go_at_call 103; refine (hnm _).mono ?_; rintro e w2 ⟨rfl, hb2⟩) | (go_at_call 153; first | (refine (must_ok _).mono ?_; rintro e w' ⟨rfl, rfl⟩) | (refine (must_err 7 (by decide) _).mono ?_; rintro e w' ⟨rfl, rfl⟩)))
      exact ⟨rfl, below_step hb hb2, rfl⟩
    · simp only [hok] at hnm
      rw [if_neg (by decide)]
      clear hok
      go_enter Try.func163, Try.ntmps163
      go_wp2_with (first | (go_at_call 119; refine (hc _).mono ?_; rintro e w1 ⟨rfl, hb⟩) | (go_at_call 103; refine (hnm _).mono ?_; rintro e w2 ⟨rfl, hb2⟩) | (go_at_call 153; refine (must_ok _).mono ?_; rintro e w' ⟨rfl, rfl⟩))
      go_ret2
      exact ⟨below_step hb hb2, by go_num⟩
  · rw [if_pos he]
    go_enter Try.func163, Try.ntmps163
    go_wp2_with (first | (go_at_call 119; refine (hc _).mono ?_; rintro e w' ⟨rfl, hb⟩) | (go_at_call 153; refine (must_err _ he _).mono ?_; rintro e w' ⟨rfl, rfl⟩))
    exact ⟨rfl, hb, rfl⟩
theorem front_any (s : ByteArray) (ha : s.size ≤ 140737488351232) (w : World) : Calls Try.prog 163 #[.string s] w (FrontPost (Pl.head (L s)) w) := by
  cases hs : L s with
  | nil => exact front_nil s hs w
  | cons c r =>
    by_cases h1 : c = 100
    · subst h1; exact front_d s r hs ha w
    · by_cases h2 : c = 97
      · subst h2; exact front_a s r hs ha w
      · by_cases h3 : c = 114
        · subst h3; exact front_r s r hs ha w
        · by_cases h4 : c = 104 ∨ c = 109 ∨ c = 115
          · exact front_hms s c r hs h4 w
          · have e : Pl.head (c :: r) = .error 7 := by
              simp only [Pl.head]
              rw [if_neg h1, if_neg h2, if_neg h3, if_neg (fun h => h4 (.inl h)), if_neg (fun h => h4 (.inr (.inl h))), if_neg (fun h => h4 (.inr (.inr h)))]
            rw [e]
            exact front_none s c r hs ⟨h1, h2, h3, fun h => h4 (.inl h), fun h => h4 (.inr (.inl h)), fun h => h4 (.inr (.inr h))⟩ w
end Go.Proofs.Ytpajocjepahobaa.G
