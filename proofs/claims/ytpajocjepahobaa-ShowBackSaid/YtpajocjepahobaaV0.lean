/- Plain: characters of a text, as the model decodes them, and bytes. -/
import Derived.Test.YtpajocjepahobaaAL
import Derived.Test.YtpajocjepahobaaReadNum
import Derived.Laws.RangeAny
namespace Go.Proofs.Ytpajocjepahobaa.G
open Pl (one two code2 wh pln run)
/-- whether a character is plain -/
def plainB (c : Int) : Bool := !decide (c = 34) && (decide (32 ≤ c) && decide (c ≤ 126) || decide (161 ≤ c) && decide (c ≤ 687) || decide (880 ≤ c) && decide (c ≤ 1279))
/-- how many bytes the first characters have that are so -/
def runs (P : Int → Bool) (s : ByteArray) : Nat → Nat → Nat
  | 0, _ => s.size
  | f + 1, pos => if pos < s.size then (if P ((Utf8.decode s pos).1 : Int) then runs P s f (pos + (Utf8.decode s pos).2) else pos) else s.size
/-- how many bytes the plain character has at the front -/
def pl1 : List UInt8 → Nat
  | [] => 0
  | [c] => if one c then 1 else 0
  | c :: d :: _ => if one c then 1 else if two c d then 2 else 0
theorem wh_one (c : UInt8) : wh [c] = if one c then 1 else 0 := rfl
theorem wh_two (c d : UInt8) (r : List UInt8) : wh (c :: d :: r) = if one c then 1 + wh (d :: r) else if two c d then 2 + wh r else 0 := rfl
theorem pln_two (c d : UInt8) (r : List UInt8) : pln (c :: d :: r) = if one c then pln (d :: r) else two c d && pln r := rfl
theorem wh_step (l : List UInt8) : wh l = if pl1 l = 0 then 0 else pl1 l + wh (l.drop (pl1 l)) := by
  match l with
  | [] => rfl
  | [c] =>
    rw [wh_one]
    simp only [pl1]
    by_cases h : one c = true
    · simp [h]; rfl
    · simp [h]
  | c :: d :: r =>
    rw [wh_two]
    simp only [pl1]
    by_cases h : one c = true
    · simp [h]
    · by_cases h2 : two c d = true
      · simp [h, h2]
      · simp [h, h2]
theorem pln_step (l : List UInt8) (h : l ≠ []) : pln l = (decide (pl1 l ≠ 0) && pln (l.drop (pl1 l))) := by
  match l with
  | [] => exact absurd rfl h
  | [c] =>
    show one c = _
    simp only [pl1]
    by_cases h : one c = true
    · simp [h]; rfl
    · simp [h]
  | c :: d :: r =>
    rw [pln_two]
    simp only [pl1]
    by_cases h : one c = true
    · simp [h]
    · by_cases h2 : two c d = true
      · simp [h, h2]
      · simp [h, h2]
theorem pl1_le (l : List UInt8) : pl1 l ≤ l.length := by
  match l with
  | [] => simp [pl1]
  | [c] => simp only [pl1, List.length_cons, List.length_nil]; split <;> omega
  | c :: d :: r => simp only [pl1, List.length_cons]; split <;> (try split) <;> omega
theorem get_drop {s : ByteArray} {pos : Nat} {c : UInt8} {r : List UInt8} (h : (L s).drop pos = c :: r) : pos < s.size ∧ s.get! pos = c ∧ (L s).drop (pos + 1) = r := by
  have hl : pos < (L s).length := by
    by_cases hp : pos < (L s).length
    · exact hp
    · rw [List.drop_of_length_le (by omega)] at h; cases h
  have hs : pos < s.size := by simpa [L] using hl
  rw [List.drop_eq_getElem_cons hl] at h
  injection h with h1 h2
  refine ⟨hs, ?_, h2⟩
  rw [← h1]
  have := get_at s pos hs
  rw [Nat.add_zero] at this
  rw [this]; rfl
theorem one_iff (c : UInt8) : one c = true ↔ plainB (c.toNat : Int) = true ∧ c.toNat < 128 := by
  unfold one plainB
  simp only [Bool.and_eq_true, Bool.or_eq_true, Bool.not_eq_true', decide_eq_true_eq, decide_eq_false_iff_not]
  omega
theorem decode_pl1 (s : ByteArray) (pos : Nat) (h : pos < s.size) : plainB ((Utf8.decode s pos).1 : Int) = decide (pl1 ((L s).drop pos) ≠ 0) ∧ (pl1 ((L s).drop pos) ≠ 0 → (Utf8.decode s pos).2 = pl1 ((L s).drop pos)) := by
  obtain ⟨c, r, hd⟩ : ∃ c r, (L s).drop pos = c :: r := by
    cases hd : (L s).drop pos with
    | nil => have := congrArg List.length hd; rw [List.length_drop] at this; simp [L] at this; omega
    | cons c r => exact ⟨c, r, rfl⟩
  obtain ⟨-, hc, hr⟩ := get_drop hd
  have hcg : s.get! (pos + 0) = c := hc
  by_cases hlow : c.toNat < 128
  · have e : Utf8.decode s pos = (c.toNat, 1) := by
      simp only [Utf8.decode, hcg, hlow, if_true]
    have h2 : ∀ d, two c d = false := by
      intro d
      cases hq : two c d with
      | false => rfl
      | true => have := (Pl.two_ge hq).1; omega
    have hp : pl1 ((L s).drop pos) = if one c then 1 else 0 := by
      rw [hd]; cases r with
      | nil => rfl
      | cons d r => simp only [pl1, h2 d, Bool.false_eq_true, if_false]
    have ho : one c = plainB (c.toNat : Int) := by
      rw [Bool.eq_iff_iff, one_iff]; exact ⟨fun h => h.1, fun h => ⟨h, hlow⟩⟩
    rw [e, hp, ho]
    cases plainB (c.toNat : Int) <;> simp
  · have h1 : one c = false := by
      cases hq : one c with
      | false => rfl
      | true => have := ((one_iff c).1 hq).2; omega
    have hno : ∀ n : Nat, 1279 < n → plainB (n : Int) = false := by
      intro n hn
      unfold plainB
      simp only [Bool.and_eq_false_iff, Bool.or_eq_false_iff, decide_eq_false_iff_not]
      right; omega
    have hcode : ∀ n : Nat, 128 ≤ n → plainB (n : Int) = (decide (0xa1 ≤ n) && decide (n ≤ 0x2af) || decide (0x370 ≤ n) && decide (n ≤ 0x4ff)) := by
      intro n hn
      unfold plainB
      rw [Bool.eq_iff_iff]
      simp only [Bool.and_eq_true, Bool.or_eq_true, Bool.not_eq_true', decide_eq_true_eq, decide_eq_false_iff_not]
      omega
    have hc256 := c.toNat_lt
    cases r with
    | nil =>
      have hend : s.size = pos + 1 := by
        have := congrArg List.length hd
        rw [List.length_drop] at this; simp [L] at this; omega
      have hp : pl1 ((L s).drop pos) = 0 := by rw [hd]; simp [pl1, h1]
      rw [hp]
      have e : (Utf8.decode s pos).1 = 65533 := by
        simp only [Utf8.decode, hcg, if_neg hlow]
        have q : decide (pos + 1 < s.size) = false := by simp; omega
        simp only [q, Bool.false_and, Bool.and_false, Bool.false_eq_true, if_false, Utf8.runeError]
      rw [e]
      exact ⟨by decide, fun h => absurd rfl h⟩
    | cons d r =>
      obtain ⟨hs1, hd1, -⟩ := get_drop hr
      have hp : pl1 ((L s).drop pos) = if two c d then 2 else 0 := by rw [hd]; simp [pl1, h1]
      have q : decide (pos + 1 < s.size) = true := by simpa using hs1
      rw [hp]
      by_cases hb : c.toNat / 32 = 6 ∧ d.toNat / 64 = 2
      · have hb1 : (c.toNat / 32 == 6 && (decide (pos + 1 < s.size) && d.toNat / 64 == 2)) = true := by simp [hb.1, hb.2, hs1]
        by_cases hcd : (c.toNat % 32) * 64 + d.toNat % 64 ≥ 0x80
        · have e : Utf8.decode s pos = (code2 c d, 2) := by
            simp only [Utf8.decode, hcg, hd1, if_neg hlow, hb1, if_true, if_pos hcd]; rfl
          rw [e]
          have hct : two c d = plainB (code2 c d : Int) := by
            rw [hcode (code2 c d) hcd]; unfold two; simp only [hb.1, hb.2, decide_true, Bool.true_and]
          rw [hct]
          cases plainB (code2 c d : Int) <;> simp
        · have e : (Utf8.decode s pos).1 = 65533 := by
            simp only [Utf8.decode, hcg, hd1, if_neg hlow, hb1, if_true, if_neg hcd, Utf8.runeError]
          have hct : two c d = false := by
            unfold two
            have : code2 c d < 0x80 := by unfold code2; omega
            simp only [Bool.and_eq_false_iff, Bool.or_eq_false_iff, decide_eq_false_iff_not]
            right; omega
          rw [e, hct]
          exact ⟨by decide, fun h => absurd rfl h⟩
      · have hct : two c d = false := by
          unfold two
          simp only [Bool.and_eq_false_iff, decide_eq_false_iff_not]
          left; by_cases h6 : c.toNat / 32 = 6
          · right; exact fun h => hb ⟨h6, h⟩
          · left; exact h6
        have hb1 : (c.toNat / 32 == 6 && (decide (pos + 1 < s.size) && d.toNat / 64 == 2)) = false := by
          rw [q, Bool.true_and]
          by_cases h6 : c.toNat / 32 = 6
          · have : ¬ d.toNat / 64 = 2 := fun h => hb ⟨h6, h⟩
            simp [h6, this]
          · simp [h6]
        rw [hct]
        refine ⟨?_, fun h => absurd rfl h⟩
        simp only [Bool.false_eq_true, if_false, ne_eq, not_true_eq_false, decide_false]
        refine hno _ ?_
        simp only [Utf8.decode, hcg, hd1, if_neg hlow, hb1, Bool.false_eq_true, if_false]
        repeat' split
        all_goals simp_all [Utf8.runeError]
        all_goals omega
theorem runs_plain (s : ByteArray) : ∀ (f pos : Nat), s.size ≤ pos + f → pos ≤ s.size → runs plainB s f pos = pos + wh ((L s).drop pos)
  | 0, pos, h, hp => by
    have : (L s).drop pos = [] := List.drop_of_length_le (by simp [L]; omega)
    rw [this]; simp only [runs, wh]; omega
  | f + 1, pos, h, hp => by
    unfold runs
    by_cases hlt : pos < s.size
    · rw [if_pos hlt]
      obtain ⟨h1, h2⟩ := decode_pl1 s pos hlt
      have hst := wh_step ((L s).drop pos)
      rw [h1]
      by_cases h0 : pl1 ((L s).drop pos) = 0
      · rw [if_neg (by simp [h0]), hst, if_pos h0]; rfl
      · have hle := pl1_le ((L s).drop pos)
        rw [List.length_drop] at hle
        have hL : (L s).length = s.size := by simp [L]
        rw [if_pos (by simp [h0]), h2 h0, runs_plain s f _ (by omega) (by omega), hst, if_neg h0, List.drop_drop]
        omega
    · rw [if_neg hlt]
      have : (L s).drop pos = [] := List.drop_of_length_le (by simp [L]; omega)
      rw [this]; simp only [wh]; omega
theorem runs_ascii (P : Int → Bool) (Q : UInt8 → Bool) (hP : ∀ c : Int, 128 ≤ c → P c = false) (hQ : ∀ c : UInt8, Q c = P (c.toNat : Int)) (s : ByteArray) : ∀ (f pos : Nat), s.size ≤ pos + f → pos ≤ s.size → runs P s f pos = pos + run Q ((L s).drop pos)
  | 0, pos, h, hp => by
    have : (L s).drop pos = [] := List.drop_of_length_le (by simp [L]; omega)
    rw [this]; simp only [runs, run]; omega
  | f + 1, pos, h, hp => by
    unfold runs
    by_cases hlt : pos < s.size
    · rw [if_pos hlt]
      have hd := List.drop_eq_getElem_cons (l := L s) (i := pos) (by simpa [L] using hlt)
      have hg : (L s)[pos]'(by simpa [L] using hlt) = s[pos]'hlt := rfl
      rw [hd, hg]
      by_cases hlow : (s[pos]'hlt).toNat < 128
      · rw [decode_ascii s pos hlt hlow]
        simp only
        unfold run
        rw [hQ]
        by_cases hp : P ((s[pos]'hlt).toNat : Int) = true
        · rw [if_pos hp, if_pos hp, runs_ascii P Q hP hQ s f (pos + 1) (by omega) (by omega)]; omega
        · rw [if_neg hp, if_neg hp]; rfl
      · have h1 := (decode_high s pos hlt (by omega)).1
        rw [hP _ (by omega)]
        unfold run
        rw [hQ, hP _ (by omega)]
        simp
    · rw [if_neg hlt]
      have : (L s).drop pos = [] := List.drop_of_length_le (by simp [L]; omega)
      rw [this]; simp only [run]; omega
end Go.Proofs.Ytpajocjepahobaa.G
