/- Plain facts on lists of bytes and on numbers as bytes (layer 1): no program in sight. -/
import Derived.RowKit
namespace Go.Proofs.Ytpajocjepahobaa.Pl

/-- a number's value, the highest byte first -/
def num (l : List UInt8) : Nat := l.foldl (fun v c => v * 256 + c.toNat) 0
theorem snoc_ind {α : Type} {P : List α → Prop} (h0 : P []) (h1 : ∀ l a, P l → P (l ++ [a])) (l : List α) : P l := by
  have : ∀ l : List α, P l.reverse := by
    intro l
    induction l with
    | nil => exact h0
    | cons a l ih => rw [List.reverse_cons]; exact h1 _ _ ih
  have h := this l.reverse
  rwa [List.reverse_reverse] at h
theorem num_nil : num [] = 0 := rfl
theorem num_snoc (l : List UInt8) (c : UInt8) : num (l ++ [c]) = num l * 256 + c.toNat := by simp [num]
theorem num_lt (l : List UInt8) : num l < 256 ^ l.length := by
  induction l using snoc_ind with
  | h0 => simp [num]
  | h1 l c ih =>
    rw [num_snoc, List.length_append, List.length_singleton, Nat.pow_succ]
    have := c.toNat_lt
    omega

/-- what ReadNum answers: value, length, error -/
def readNum : List UInt8 → Nat × Nat × Nat
  | [] => (0, 0, 6)
  | c :: r =>
    if c.toNat ≤ 247 then (c.toNat, 1, 0)
    else if r.length < c.toNat - 247 then (0, 0, 6)
    else if r.head? = some 0 ∨ num (r.take (c.toNat - 247)) ≤ 247 then (0, 0, 7)
    else (num (r.take (c.toNat - 247)), c.toNat - 247 + 1, 0)

theorem take_snoc (l : List UInt8) (k : Nat) (h : k < l.length) : l.take (k + 1) = l.take k ++ [l[k]] := by
  rw [List.take_succ_eq_append_getElem h]

/-- the bytes of a number to the base 256, the highest first; of 0 none -/
def digits : Nat → List UInt8
  | 0 => []
  | n + 1 => digits ((n + 1) / 256) ++ [((n + 1) % 256).toUInt8]
decreasing_by omega
theorem digits_zero : digits 0 = [] := by unfold digits; rfl
theorem digits_pos (n : Nat) (h : 0 < n) : digits n = digits (n / 256) ++ [(n % 256).toUInt8] := by
  cases n with
  | zero => omega
  | succ n => conv => lhs; unfold digits
theorem digits_len (k n : Nat) (h : n < 256 ^ k) : (digits n).length ≤ k := by
  induction k generalizing n with
  | zero => have : n = 0 := by simpa using h
            subst this; simp [digits_zero]
  | succ k ih =>
    rcases Nat.eq_zero_or_pos n with rfl | hp
    · simp [digits_zero]
    · rw [digits_pos n hp]
      have := ih (n / 256) (by rw [Nat.pow_succ] at h; omega)
      simp; omega
theorem toUInt8_toNat (n : Nat) : (n % 256).toUInt8.toNat = n % 256 := by
  simp [Nat.toUInt8]
theorem num_digits (n : Nat) : num (digits n) = n := by
  induction n using Nat.strongRecOn with
  | _ n ih =>
    rcases Nat.eq_zero_or_pos n with rfl | hp
    · simp [digits_zero, num]
    · rw [digits_pos n hp, num_snoc, ih (n / 256) (by omega), toUInt8_toNat]; omega
/-- a number's bytes: Num of layer 1 -/
def encNum (n : Nat) : List UInt8 := if n ≤ 247 then [n.toUInt8] else (247 + (digits n).length).toUInt8 :: digits n
end Go.Proofs.Ytpajocjepahobaa.Pl
