/- Plain facts on lists of bytes and on numbers as bytes (layer 1): no program in sight. Plain terms (layer 6): how bytes are read as a term, as a tree; no program in sight. Plain: what Check answers, what made answers; which trees are terms. Plain: the parts of a term, the places of one. Plain: the places of a term as they begin. Plain: one term swapped for another one, as trees. Plain: that the walk over the places writes the swapped term. Plain: how a term's letters stand to its parts; what parts make is it again. Plain: numbers have one spelling; a term by its first letter. -/
import Derived.RowKit
namespace Go.Proofs.Ytpajocjepahobaa.Pl

/-- a number's value, the highest byte first -/
def num (l : List UInt8) : Nat := l.foldl (fun v c => v * 256 + c.toNat) 0
theorem snoc_ind {α : Type} {P : List α → Prop} (h0 : P []) (h1 : ∀ l a, P l → P (l ++ [a])) (l : List α) : P l := by
  have : ∀ l : List α, P l.reverse := by
    intro l
    induction l with
    | nil => exact h0
    | cons a l ih => rw [List.reverse_cons]; exact h1 _ _ ih
  have h := this l.reverse
  rwa [List.reverse_reverse] at h
theorem num_nil : num [] = 0 := rfl
theorem num_snoc (l : List UInt8) (c : UInt8) : num (l ++ [c]) = num l * 256 + c.toNat := by simp [num]
theorem num_lt (l : List UInt8) : num l < 256 ^ l.length := by
  induction l using snoc_ind with
  | h0 => simp [num]
  | h1 l c ih =>
    rw [num_snoc, List.length_append, List.length_singleton, Nat.pow_succ]
    have := c.toNat_lt
    omega

/-- what ReadNum answers: value, length, error -/
def readNum : List UInt8 → Nat × Nat × Nat
  | [] => (0, 0, 6)
  | c :: r =>
    if c.toNat ≤ 247 then (c.toNat, 1, 0)
    else if r.length < c.toNat - 247 then (0, 0, 6)
    else if r.head? = some 0 ∨ num (r.take (c.toNat - 247)) ≤ 247 then (0, 0, 7)
    else (num (r.take (c.toNat - 247)), c.toNat - 247 + 1, 0)

theorem take_snoc (l : List UInt8) (k : Nat) (h : k < l.length) : l.take (k + 1) = l.take k ++ [l[k]] := by
  rw [List.take_succ_eq_append_getElem h]

/-- the bytes of a number to the base 256, the highest first; of 0 none -/
def digits : Nat → List UInt8
  | 0 => []
  | n + 1 => digits ((n + 1) / 256) ++ [((n + 1) % 256).toUInt8]
decreasing_by omega
theorem digits_zero : digits 0 = [] := by unfold digits; rfl
theorem digits_pos (n : Nat) (h : 0 < n) : digits n = digits (n / 256) ++ [(n % 256).toUInt8] := by
  cases n with
  | zero => omega
  | succ n => conv => lhs; unfold digits
theorem digits_len (k n : Nat) (h : n < 256 ^ k) : (digits n).length ≤ k := by
  induction k generalizing n with
  | zero => have : n = 0 := by simpa using h
            subst this; simp [digits_zero]
  | succ k ih =>
    rcases Nat.eq_zero_or_pos n with rfl | hp
    · simp [digits_zero]
    · rw [digits_pos n hp]
      have := ih (n / 256) (by rw [Nat.pow_succ] at h; omega)
      simp; omega
theorem toUInt8_toNat (n : Nat) : (n % 256).toUInt8.toNat = n % 256 := by
  simp [Nat.toUInt8]
theorem num_digits (n : Nat) : num (digits n) = n := by
  induction n using Nat.strongRecOn with
  | _ n ih =>
    rcases Nat.eq_zero_or_pos n with rfl | hp
    · simp [digits_zero, num]
    · rw [digits_pos n hp, num_snoc, ih (n / 256) (by omega), toUInt8_toNat]; omega
/-- a number's bytes: Num of layer 1 -/
def encNum (n : Nat) : List UInt8 := if n ≤ 247 then [n.toUInt8] else (247 + (digits n).length).toUInt8 :: digits n
end Go.Proofs.Ytpajocjepahobaa.Pl
namespace Go.Proofs.Ytpajocjepahobaa.Pl

/-- what ReadText answers: text, length, error -/
def readText (l : List UInt8) (most : Nat) : List UInt8 × Nat × Nat :=
  if (readNum l).2.2 ≠ 0 then ([], 0, (readNum l).2.2)
  else if most < (readNum l).1 then ([], 0, 5)
  else if l.length - (readNum l).2.1 < (readNum l).1 then ([], 0, 6)
  else ((l.drop (readNum l).2.1).take (readNum l).1, (readNum l).2.1 + (readNum l).1, 0)

def nameByte (c : UInt8) : Bool := 97 ≤ c && c ≤ 122 || 48 ≤ c && c ≤ 57 || c == 47 || c == 46 || c == 45
def nameOk (l : List UInt8) : Bool := l.all nameByte && !l.isEmpty

/-- how many bytes stand ahead of a term's parts, and how many parts; or the error's number -/
def head : List UInt8 → Except Nat (Nat × Nat)
  | [] => .error 6
  | c :: r =>
    if c = 100 then (if (readText r 1024).2.2 ≠ 0 then .error (readText r 1024).2.2 else .ok (1 + (readText r 1024).2.1, 0))
    else if c = 97 then
      (if (readText r 32).2.2 ≠ 0 then .error (readText r 32).2.2 else if nameOk (readText r 32).1 = false then .error 7 else .ok (1 + (readText r 32).2.1, 0))
    else if c = 114 then
      (if (readNum r).2.2 ≠ 0 then .error (readNum r).2.2 else if 32 < (readNum r).1 then .error 5 else .ok (1 + (readNum r).2.1, (readNum r).1))
    else if c = 104 then .ok (1, 1)
    else if c = 109 then .ok (1, 2)
    else if c = 115 then .ok (1, 3)
    else .error 7

inductive Tm where
  | node (front : List UInt8) (parts : List Tm)

mutual
def enc : Tm → List UInt8
  | .node h ps => h ++ encs ps
def encs : List Tm → List UInt8
  | [] => []
  | t :: r => enc t ++ encs r
end

/-- so many terms, one behind the other -/
def many (g : List UInt8 → Except Nat (Tm × List UInt8)) : Nat → List UInt8 → Except Nat (List Tm × List UInt8)
  | 0, l => .ok ([], l)
  | k + 1, l => match g l with
    | .error e => .error e
    | .ok (t, r) => match many g k r with
      | .error e => .error e
      | .ok (ts, r') => .ok (t :: ts, r')
/-- the term at the front, with so many depths left -/
def parse : Nat → List UInt8 → Except Nat (Tm × List UInt8)
  | 0, _ => .error 60
  | f + 1, l => match head l with
    | .error e => .error e
    | .ok (n, k) => match many (parse f) k (l.drop n) with
      | .error e => .error e
      | .ok (ps, r) => .ok (.node (l.take n) ps, r)

/-- what Read answers: length, error -/
def readTerm (l : List UInt8) : Nat × Nat :=
  match parse 16 l with
  | .error e => (0, e)
  | .ok (t, _) => if 16384 < (enc t).length then (0, 5) else ((enc t).length, 0)

structure Pos where
  (fr to dep : Nat)
mutual
/-- the places of a term that begins at a byte, so deep, by their ends -/
def posts : Tm → Nat → Nat → List Pos
  | .node h ps, a, d => postss ps (a + h.length) (d + 1) ++ [⟨a, a + (enc (.node h ps)).length, d⟩]
def postss : List Tm → Nat → Nat → List Pos
  | [], _, _ => []
  | t :: r, a, d => posts t a d ++ postss r (a + (enc t).length) d
end

theorem readNum_len (l : List UInt8) (h : (readNum l).2.2 = 0) : 1 ≤ (readNum l).2.1 ∧ (readNum l).2.1 ≤ l.length := by
  cases l with
  | nil => simp [readNum] at h
  | cons c r =>
    revert h
    simp only [readNum]
    split
    · intro _; simp
    · split
      · intro h; simp at h
      · split
        · intro h; simp at h
        · intro _; simp; omega
theorem readNum_val_aux (B : Nat) (h8 : ∀ l : List UInt8, l.length ≤ 8 → num l < B) (h1 : 256 ≤ B) (l : List UInt8) : (readNum l).1 < B := by
  cases l with
  | nil => show 0 < B; omega
  | cons c r =>
    simp only [readNum]
    have hc := c.toNat_lt
    split
    · show c.toNat < B; omega
    · split
      · show 0 < B; omega
      · split
        · show 0 < B; omega
        · have := h8 (r.take (c.toNat - 247)) (by rw [List.length_take]; omega)
          simpa using this
theorem readNum_val (l : List UInt8) : (readNum l).1 < 256 ^ 8 :=
  readNum_val_aux _ (fun l h => Nat.lt_of_lt_of_le (num_lt l) (Nat.pow_le_pow_right (by decide) h)) (by have h := Nat.pow_le_pow_right (n := 256) (by decide) (show 1 ≤ 8 by decide); rwa [Nat.pow_one] at h) l
theorem readNum_n (l : List UInt8) : (readNum l).2.1 ≤ 9 ∧ (readNum l).2.2 ≤ 7 := by
  cases l with
  | nil => simp [readNum]
  | cons c r =>
    simp only [readNum]
    have hc := c.toNat_lt
    split
    · simp
    · split
      · simp
      · split
        · simp
        · simp; omega
theorem readText_len (l : List UInt8) (m : Nat) (h : (readText l m).2.2 = 0) : 1 ≤ (readText l m).2.1 ∧ (readText l m).2.1 ≤ l.length ∧ (readText l m).1.length ≤ m ∧ (readText l m).1.length < (readText l m).2.1 := by
  revert h
  unfold readText
  split
  · rename_i h; intro h2; exact absurd h2 h
  · rename_i h
    have := readNum_len l (by simpa using h)
    split
    · intro h; simp at h
    · split
      · intro h; simp at h
      · intro _; simp; omega
theorem readText_n (l : List UInt8) (m : Nat) : (readText l m).2.1 ≤ 9 + m ∧ (readText l m).2.2 ≤ 7 := by
  have := readNum_n l
  unfold readText
  split
  · simp; omega
  · split
    · simp
    · split
      · simp
      · simp; omega
theorem head_len {l : List UInt8} {n k : Nat} (h : head l = .ok (n, k)) : 1 ≤ n ∧ n ≤ l.length ∧ k ≤ 32 := by
  cases l with
  | nil => simp [head] at h
  | cons c r =>
    revert h
    simp only [head]
    repeat' split
    all_goals intro h
    all_goals (first | (cases h; done) | (injection h with h; injection h with h1 h2; subst h1; subst h2))
    · have := readText_len r 1024 (by simpa using ‹¬ _ ≠ _›); simp; omega
    · have := readText_len r 32 (by simpa using ‹¬ (readText r 32).2.2 ≠ 0›); simp; omega
    · have := readNum_len r (by simpa using ‹¬ (readNum r).2.2 ≠ 0›); simp; omega
    all_goals simp
theorem many_sound {g : List UInt8 → Except Nat (Tm × List UInt8)} (hg : ∀ l t r, g l = .ok (t, r) → l = enc t ++ r) : ∀ k l ts r, many g k l = .ok (ts, r) → l = encs ts ++ r ∧ ts.length = k := by
  intro k
  induction k with
  | zero =>
    intro l ts r h
    simp only [many] at h
    injection h with h; injection h with h1 h2; subst h1; subst h2
    exact ⟨by simp [encs], rfl⟩
  | succ k ih =>
    intro l ts r h
    simp only [many] at h
    split at h
    · cases h
    · rename_i t r' hgl
      split at h
      · cases h
      · rename_i ts' r'' hm
        injection h with h; injection h with h1 h2; subst h1; subst h2
        obtain ⟨e, el⟩ := ih _ _ _ hm
        exact ⟨by rw [hg _ _ _ hgl, e]; simp [encs], by simp [el]⟩
theorem many_snoc (g : List UInt8 → Except Nat (Tm × List UInt8)) : ∀ k l, many g (k + 1) l = (match many g k l with
    | .error e => .error e
    | .ok (ts, r) => match g r with
      | .error e => .error e
      | .ok (t, r') => .ok (ts ++ [t], r')) := by
  intro k
  induction k with
  | zero =>
    intro l
    simp only [many]
    cases g l <;> simp
  | succ k ih =>
    intro l
    have e0 : many g (k + 1 + 1) l = (match g l with | .error e => .error e | .ok (t, r) => match many g (k + 1) r with | .error e => .error e | .ok (ts, r') => .ok (t :: ts, r')) := by rw [many]
    have e1 : many g (k + 1) l = (match g l with | .error e => .error e | .ok (t, r) => match many g k r with | .error e => .error e | .ok (ts, r') => .ok (t :: ts, r')) := by rw [many]
    rw [e0, e1]
    cases h : g l with
    | error e => rfl
    | ok p =>
      obtain ⟨t, r⟩ := p
      simp only
      rw [ih r]
      cases many g k r with
      | error e => rfl
      | ok q =>
        obtain ⟨ts, r'⟩ := q
        simp only
        cases g r' with
        | error e => rfl
        | ok z => rfl
/-- an error on the way is the end's error -/
theorem many_err (g : List UInt8 → Except Nat (Tm × List UInt8)) (e : Nat) : ∀ j k l, j ≤ k → many g j l = .error e → many g k l = .error e := by
  intro j
  induction j with
  | zero => intro k l _ h; simp [many] at h
  | succ j ih =>
    intro k l hk h
    obtain ⟨k, rfl⟩ : ∃ k', k = k' + 1 := ⟨k - 1, by omega⟩
    simp only [many] at h ⊢
    cases hg : g l with
    | error e' => simp only [hg] at h; exact h
    | ok p =>
      obtain ⟨t, r⟩ := p
      simp only [hg] at h ⊢
      cases hm : many g j r with
      | error e' =>
        simp only [hm] at h
        injection h with h; subst h
        rw [ih k r (by omega) hm]
      | ok q =>
        obtain ⟨ts, r'⟩ := q
        simp only [hm] at h
        cases h
theorem encs_append (a b : List Tm) : encs (a ++ b) = encs a ++ encs b := by
  induction a with
  | nil => simp [encs]
  | cons t r ih => simp [encs, ih]
theorem postss_append (x y : List Tm) (a d : Nat) : postss (x ++ y) a d = postss x a d ++ postss y (a + (encs x).length) d := by
  induction x generalizing a with
  | nil => simp [postss, encs]
  | cons t r ih => simp [postss, encs, ih, Nat.add_assoc]
theorem parse_sound : ∀ f l t r, parse f l = .ok (t, r) → l = enc t ++ r := by
  intro f
  induction f with
  | zero => intro l t r h; simp [parse] at h
  | succ f ih =>
    intro l t r h
    simp only [parse] at h
    split at h
    · cases h
    · rename_i n k hh
      split at h
      · cases h
      · rename_i ps r' hm
        injection h with h; injection h with h1 h2; subst h1; subst h2
        have := (many_sound ih _ _ _ _ hm).1
        rw [enc, List.append_assoc, ← this, List.take_append_drop]
end Go.Proofs.Ytpajocjepahobaa.Pl
namespace Go.Proofs.Ytpajocjepahobaa.Pl
/-- what Check answers -/
def chk (l : List UInt8) : Nat := if (readTerm l).2 = 0 then (if (readTerm l).1 = l.length then 0 else 7) else (readTerm l).2
def isTm (l : List UInt8) : Bool := chk l == 0
/-- letters and parts behind one another, as far as there is room -/
def madeCat : List UInt8 → List (List UInt8) → List UInt8
  | b, [] => b
  | b, t :: r => if 16384 < b.length then b else madeCat (b ++ t) r
def made (b : List UInt8) (ts : List (List UInt8)) : List UInt8 × Nat :=
  if ts.all isTm then (if chk (madeCat b ts) = 0 then (madeCat b ts, 0) else ([], 5)) else ([], 2)
theorem isTm_len {l : List UInt8} (h : isTm l = true) : l.length ≤ 16384 ∧ (readTerm l).2 = 0 ∧ (readTerm l).1 = l.length := by
  unfold isTm chk at h
  have h' : (if (readTerm l).2 = 0 then (if (readTerm l).1 = l.length then 0 else 7) else (readTerm l).2) = 0 := by simpa using h
  split at h'
  · rename_i h2
    split at h'
    · rename_i h1
      refine ⟨?_, h2, h1⟩
      unfold readTerm at h1 h2
      split at h2
      · rename_i e he; rw [he] at h1; simp only at h1 h2; omega
      · rename_i t r he
        rw [he] at h1; simp only at h1 h2
        split at h2
        · cases h2
        · rename_i hl; rw [if_neg hl] at h1; simp only at h1; omega
    · cases h'
  · contradiction

/-! ### what is read is read whatever stands behind it -/
theorem readNum_pre (l r : List UInt8) (h : (readNum l).2.2 = 0) : readNum (l.take (readNum l).2.1 ++ r) = readNum l := by
  cases l with
  | nil => simp [readNum] at h
  | cons c t =>
    simp only [readNum] at h ⊢
    by_cases h1 : c.toNat ≤ 247
    · simp [if_pos h1]
    · rw [if_neg h1] at h ⊢
      by_cases h2 : t.length < c.toNat - 247
      · rw [if_pos h2] at h; simp at h
      · rw [if_neg h2] at h ⊢
        by_cases h3 : t.head? = some 0 ∨ num (t.take (c.toNat - 247)) ≤ 247
        · rw [if_pos h3] at h; simp at h
        · rw [if_neg h3]
          simp only [List.take_succ_cons, List.cons_append]
          have hl : (t.take (c.toNat - 247)).length = c.toNat - 247 := by rw [List.length_take]; omega
          have e1 : (t.take (c.toNat - 247) ++ r).take (c.toNat - 247) = t.take (c.toNat - 247) := by
            rw [List.take_append_of_le_length (by omega), List.take_take, Nat.min_self]
          have e2 : (t.take (c.toNat - 247) ++ r).head? = t.head? := by
            cases t with
            | nil => simp at h2; omega
            | cons d t =>
              obtain ⟨k, hk⟩ : ∃ k, c.toNat - 247 = k + 1 := ⟨c.toNat - 248, by omega⟩
              rw [hk]; simp
          rw [if_neg h1, if_neg (by rw [List.length_append]; omega), e1, e2, if_neg h3]
theorem readText_pre (l r : List UInt8) (m : Nat) (h : (readText l m).2.2 = 0) : readText (l.take (readText l m).2.1 ++ r) m = readText l m := by
  have key : ∀ n v, (readNum l).2.1 = n → (readNum l).1 = v → (readNum l).2.2 = 0 → ¬ m < v → ¬ l.length - n < v → n ≤ l.length → readText (l.take (n + v) ++ r) m = ((l.drop n).take v, n + v, 0) := by
    intro n v hn hv h0 h1 h2 h3
    have e : l.take (n + v) ++ r = l.take n ++ ((l.drop n).take v ++ r) := by rw [List.take_add, List.append_assoc]
    have hr := readNum_pre l ((l.drop n).take v ++ r) h0
    rw [hn] at hr
    have hln : (l.take n).length = n := by rw [List.length_take]; omega
    have hlv : ((l.drop n).take v).length = v := by rw [List.length_take, List.length_drop]; omega
    unfold readText
    rw [e, hr, hn, hv, if_neg (by omega), if_neg h1, if_neg (by rw [List.length_append, List.length_append]; omega)]
    congr 1
    rw [List.drop_append_of_le_length (by omega), List.drop_of_length_le (by omega), List.nil_append, List.take_append_of_le_length (by omega), List.take_of_length_le (by omega)]
  unfold readText at h ⊢
  by_cases h1 : (readNum l).2.2 ≠ 0
  · rw [if_pos h1] at h; exact absurd h h1
  · rw [if_neg h1] at h ⊢
    by_cases h2 : m < (readNum l).1
    · rw [if_pos h2] at h; simp at h
    · rw [if_neg h2] at h ⊢
      by_cases h3 : l.length - (readNum l).2.1 < (readNum l).1
      · rw [if_pos h3] at h; simp at h
      · rw [if_neg h3]
        have := key _ _ rfl rfl (by omega) h2 h3 (readNum_len l (by omega)).2
        unfold readText at this
        exact this
theorem head_pre (l r : List UInt8) (n k : Nat) (h : head l = .ok (n, k)) : head (l.take n ++ r) = .ok (n, k) := by
  cases l with
  | nil => simp [head] at h
  | cons c t =>
    have fin : ∀ n', n = 1 + n' → (c :: t).take n ++ r = c :: (t.take n' ++ r) := by
      intro n' e; subst e; rw [Nat.add_comm]; rfl
    simp only [head] at h
    by_cases h1 : c = 100
    · rw [if_pos h1] at h
      by_cases h2 : (readText t 1024).2.2 ≠ 0
      · rw [if_pos h2] at h; cases h
      · rw [if_neg h2] at h
        injection h with h; injection h with e1 e2
        rw [fin _ e1.symm]; simp only [head]
        rw [if_pos h1, readText_pre t r 1024 (by omega), if_neg h2, e1, e2]
    · rw [if_neg h1] at h
      by_cases h3 : c = 97
      · rw [if_pos h3] at h
        by_cases h2 : (readText t 32).2.2 ≠ 0
        · rw [if_pos h2] at h; cases h
        · rw [if_neg h2] at h
          by_cases h4 : nameOk (readText t 32).1 = false
          · rw [if_pos h4] at h; cases h
          · rw [if_neg h4] at h
            injection h with h; injection h with e1 e2
            rw [fin _ e1.symm]; simp only [head]
            rw [if_neg h1, if_pos h3, readText_pre t r 32 (by omega), if_neg h2, if_neg h4, e1, e2]
      · rw [if_neg h3] at h
        by_cases h5 : c = 114
        · rw [if_pos h5] at h
          by_cases h2 : (readNum t).2.2 ≠ 0
          · rw [if_pos h2] at h; cases h
          · rw [if_neg h2] at h
            by_cases h4 : 32 < (readNum t).1
            · rw [if_pos h4] at h; cases h
            · rw [if_neg h4] at h
              injection h with h; injection h with e1 e2
              rw [fin _ e1.symm]; simp only [head]
              rw [if_neg h1, if_neg h3, if_pos h5, readNum_pre t r (by omega), if_neg h2, if_neg h4, e1, e2]
        · rw [if_neg h5] at h
          have e1 : n = 1 := by
            split at h
            · injection h with h; injection h with e1 e2; exact e1.symm
            · split at h
              · injection h with h; injection h with e1 e2; exact e1.symm
              · split at h
                · injection h with h; injection h with e1 e2; exact e1.symm
                · cases h
          rw [fin 0 e1]; simp only [head]
          rw [if_neg h1, if_neg h3, if_neg h5]; exact h

/-! ### which trees are terms -/
def Good : Nat → Tm → Prop
  | 0, _ => False
  | f + 1, .node h ps => (∀ r, head (h ++ r) = .ok (h.length, ps.length)) ∧ ∀ p ∈ ps, Good f p
theorem many_good {g : List UInt8 → Except Nat (Tm × List UInt8)} {G : Tm → Prop} (hg : ∀ l t r, g l = .ok (t, r) → G t) : ∀ k l ts r, many g k l = .ok (ts, r) → ∀ t ∈ ts, G t := by
  intro k
  induction k with
  | zero =>
    intro l ts r h
    simp only [many] at h
    injection h with h; injection h with h1 h2; subst h1
    simp
  | succ k ih =>
    intro l ts r h
    simp only [many] at h
    split at h
    · cases h
    · rename_i t r' hgl
      split at h
      · cases h
      · rename_i ts' r'' hm
        injection h with h; injection h with h1 h2; subst h1
        intro x hx
        rcases List.mem_cons.1 hx with rfl | hx
        · exact hg _ _ _ hgl
        · exact ih _ _ _ hm x hx
theorem parse_good : ∀ f l t r, parse f l = .ok (t, r) → Good f t := by
  intro f
  induction f with
  | zero => intro l t r h; simp [parse] at h
  | succ f ih =>
    intro l t r h
    simp only [parse] at h
    split at h
    · cases h
    · rename_i n k hh
      split at h
      · cases h
      · rename_i ps r' hm
        injection h with h; injection h with h1 h2; subst h1
        have hl := head_len hh
        have hlen := (many_sound (parse_sound f) _ _ _ _ hm).2
        refine ⟨fun r => ?_, many_good ih _ _ _ _ hm⟩
        rw [head_pre l r n k hh, List.length_take, Nat.min_eq_left hl.2.1, hlen]
theorem many_back {g : List UInt8 → Except Nat (Tm × List UInt8)} : ∀ (ps : List Tm) (r : List UInt8), (∀ p ∈ ps, ∀ r, g (enc p ++ r) = .ok (p, r)) → many g ps.length (encs ps ++ r) = .ok (ps, r)
  | [], r, _ => by simp [many, encs]
  | p :: ps, r, h => by
    simp only [List.length_cons, many, encs, List.append_assoc]
    rw [h p (by simp)]
    simp only
    rw [many_back ps r fun q hq => h q (List.mem_cons_of_mem _ hq)]
theorem good_parse : ∀ f t, Good f t → ∀ r, parse f (enc t ++ r) = .ok (t, r) := by
  intro f
  induction f with
  | zero => intro t h; exact h.elim
  | succ f ih =>
    intro t h r
    obtain ⟨hd, ps⟩ := t
    obtain ⟨hh, hp⟩ := h
    simp only [parse, enc, List.append_assoc]
    rw [hh]
    simp only
    rw [List.drop_append_of_le_length (Nat.le_refl _), List.drop_length, List.nil_append, many_back ps r fun p hq => ih p (hp p hq)]
    simp only
    rw [List.take_append_of_le_length (Nat.le_refl _), List.take_length]
theorem good_head {f : Nat} {h : List UInt8} {ps : List Tm} (hg : Good f (.node h ps)) : 1 ≤ h.length := by
  cases f with
  | zero => exact hg.elim
  | succ f =>
    have := head_len (hg.1 [])
    omega
mutual
theorem posts_len : ∀ (t : Tm) (f : Nat), Good f t → ∀ a d, (posts t a d).length ≤ (enc t).length
  | .node h ps, f, hg, a, d => by
    have h1 := good_head hg
    cases f with
    | zero => exact hg.elim
    | succ f =>
      have := postss_len ps f hg.2 (a + h.length) (d + 1)
      simp only [posts, enc, List.length_append, List.length_cons, List.length_nil]
      omega
theorem postss_len : ∀ (ts : List Tm) (f : Nat), (∀ t ∈ ts, Good f t) → ∀ a d, (postss ts a d).length ≤ (encs ts).length
  | [], f, _, a, d => by simp [postss]
  | t :: r, f, h, a, d => by
    have h1 := posts_len t f (h t (by simp)) a d
    have h2 := postss_len r f (fun x hx => h x (List.mem_cons_of_mem _ hx)) (a + (enc t).length) d
    simp only [postss, encs, List.length_append]
    omega
end
end Go.Proofs.Ytpajocjepahobaa.Pl
namespace Go.Proofs.Ytpajocjepahobaa.Pl
def Tm.parts : Tm → List Tm
  | .node _ ps => ps
def Tm.front : Tm → List UInt8
  | .node h _ => h
/-- the tree of a text that is a term -/
def tree (l : List UInt8) : Tm := match parse 16 l with
  | .ok (t, _) => t
  | .error _ => .node [] []
theorem isTm_tree {l : List UInt8} (h : isTm l = true) : parse 16 l = .ok (tree l, []) ∧ Good 16 (tree l) ∧ enc (tree l) = l := by
  obtain ⟨h1, h2, h3⟩ := isTm_len h
  unfold readTerm at h2 h3
  cases hp : parse 16 l with
  | error e => rw [hp] at h2 h3; simp only at h2 h3; subst h2; 
               have : l = [] := List.eq_nil_of_length_eq_zero h3.symm
               subst this; simp [parse, head] at hp
  | ok q =>
    obtain ⟨t, r⟩ := q
    rw [hp] at h2 h3
    simp only at h2 h3
    have hs := parse_sound _ _ _ _ hp
    have hr : r = [] := by
      have := congrArg List.length hs
      rw [List.length_append] at this
      by_cases hl : 16384 < (enc t).length
      · rw [if_pos hl] at h2; simp at h2
      · rw [if_neg hl] at h3; simp only at h3
        exact List.eq_nil_of_length_eq_zero (by omega)
    subst hr
    have ht : tree l = t := by unfold tree; rw [hp]
    rw [ht]
    exact ⟨rfl, parse_good _ _ _ _ hp, by rw [hs, List.append_nil]⟩
theorem good_isTm {t : Tm} (h : Good 16 t) (hl : (enc t).length ≤ 16384) : isTm (enc t) = true ∧ tree (enc t) = t := by
  have := good_parse 16 t h []
  rw [List.append_nil] at this
  unfold isTm chk readTerm tree
  rw [this]
  simp only [if_neg (show ¬ 16384 < (enc t).length by omega)]
  simp
mutual
theorem posts_deep : ∀ (t : Tm) (a d : Nat), ∀ p ∈ posts t a d, d ≤ p.dep
  | .node h ps, a, d => by
    intro p hp
    simp only [posts, List.mem_append, List.mem_singleton] at hp
    rcases hp with hp | hp
    · have := postss_deep ps _ _ p hp; omega
    · subst hp; exact Nat.le_refl _
theorem postss_deep : ∀ (ts : List Tm) (a d : Nat), ∀ p ∈ postss ts a d, d ≤ p.dep
  | [], a, d => by simp [postss]
  | t :: r, a, d => by
    intro p hp
    simp only [postss, List.mem_append] at hp
    rcases hp with hp | hp
    · exact posts_deep t _ _ p hp
    · exact postss_deep r _ _ p hp
end
theorem posts_top (t : Tm) (a d : Nat) : (posts t a d).filter (fun p => p.dep == d) = [⟨a, a + (enc t).length, d⟩] := by
  obtain ⟨h, ps⟩ := t
  simp only [posts, List.filter_append]
  have : (postss ps (a + h.length) (d + 1)).filter (fun p => p.dep == d) = [] := by
    rw [List.filter_eq_nil_iff]
    intro p hp
    have := postss_deep _ _ _ p hp
    simp; omega
  rw [this]; simp
def slice (l : List UInt8) (p : Pos) : List UInt8 := (l.drop p.fr).take (p.to - p.fr)
theorem postss_top (l : List UInt8) (d : Nat) : ∀ (ts : List Tm) (pre post : List UInt8), l = pre ++ (encs ts ++ post) → ((postss ts pre.length d).filter fun p => p.dep == d).map (slice l) = ts.map enc
  | [], pre, post, _ => by simp [postss]
  | t :: r, pre, post, h => by
    have ih := postss_top l d r (pre ++ enc t) post (by rw [h]; simp [encs])
    simp only [postss, List.filter_append, List.map_append, List.map_cons, posts_top]
    rw [List.length_append] at ih
    rw [ih]
    have : slice l ⟨pre.length, pre.length + (enc t).length, d⟩ = enc t := by
      rw [slice, h]; simp [encs]
    simp [this]
theorem parts_of (t : Tm) : ((posts t 0 1).filter fun p => p.dep == 2).map (slice (enc t)) = t.parts.map enc := by
  obtain ⟨h, ps⟩ := t
  simp only [posts, List.filter_append, List.map_append]
  have := postss_top (enc (.node h ps)) 2 ps h [] (by simp [enc])
  rw [Nat.zero_add, this]
  simp [Tm.parts]
end Go.Proofs.Ytpajocjepahobaa.Pl
namespace Go.Proofs.Ytpajocjepahobaa.Pl
mutual
/-- the places, as they begin -/
def pres : Tm → Nat → Nat → List Pos
  | .node h ps, a, d => ⟨a, a + (enc (.node h ps)).length, d⟩ :: press ps (a + h.length) (d + 1)
def press : List Tm → Nat → Nat → List Pos
  | [], _, _ => []
  | t :: r, a, d => pres t a d ++ press r (a + (enc t).length) d
end
def zero : Pos := ⟨0, 0, 0⟩
def setAt (tab : List Pos) (p : Pos) : List Pos := tab.set p.fr p
mutual
def spread : Tm → Nat → Nat → List Pos
  | .node h ps, a, d => ⟨a, a + (enc (.node h ps)).length, d⟩ :: (List.replicate (h.length - 1) zero ++ spreads ps (a + h.length) (d + 1))
def spreads : List Tm → Nat → Nat → List Pos
  | [], _, _ => []
  | t :: r, a, d => spread t a d ++ spreads r (a + (enc t).length) d
end
mutual
theorem spread_len : ∀ (t : Tm) (f : Nat), Good f t → ∀ a d, (spread t a d).length = (enc t).length
  | .node h ps, f, hg, a, d => by
    have h1 := good_head hg
    cases f with
    | zero => exact hg.elim
    | succ f =>
      have := spreads_len ps f hg.2 (a + h.length) (d + 1)
      simp only [spread, enc, List.length_append, List.length_cons, List.length_replicate, this]
      omega
theorem spreads_len : ∀ (ts : List Tm) (f : Nat), (∀ t ∈ ts, Good f t) → ∀ a d, (spreads ts a d).length = (encs ts).length
  | [], f, _, a, d => by simp [spreads, encs]
  | t :: r, f, h, a, d => by
    have h1 := spread_len t f (h t (by simp)) a d
    have h2 := spreads_len r f (fun x hx => h x (List.mem_cons_of_mem _ hx)) (a + (enc t).length) d
    simp only [spreads, encs, List.length_append, h1, h2]
end
mutual
theorem spread_of : ∀ (t : Tm) (f : Nat), Good f t → ∀ (pre post : List Pos) (d : Nat),
    (posts t pre.length d).foldl setAt (pre ++ (List.replicate (enc t).length zero ++ post)) = pre ++ (spread t pre.length d ++ post)
  | .node h ps, f, hg, pre, post, d => by
    have h1 := good_head hg
    cases f with
    | zero => exact hg.elim
    | succ f =>
      have ih := spreads_of ps f hg.2 (pre ++ List.replicate h.length zero) post (d + 1)
      rw [List.length_append, List.length_replicate] at ih
      simp only [posts, List.foldl_append, List.foldl_cons, List.foldl_nil]
      have e : pre ++ (List.replicate (enc (.node h ps)).length zero ++ post) = pre ++ List.replicate h.length zero ++ (List.replicate (encs ps).length zero ++ post) := by
        rw [enc, List.length_append, ← List.replicate_append_replicate]; simp only [List.append_assoc]
      rw [e, ih]
      unfold setAt
      simp only
      obtain ⟨k, hk⟩ : ∃ k, h.length = k + 1 := ⟨h.length - 1, by omega⟩
      rw [spread, List.append_assoc, List.set_append_right _ _ (Nat.le_refl _), Nat.sub_self, hk, List.replicate_succ]
      simp
theorem spreads_of : ∀ (ts : List Tm) (f : Nat), (∀ t ∈ ts, Good f t) → ∀ (pre post : List Pos) (d : Nat),
    (postss ts pre.length d).foldl setAt (pre ++ (List.replicate (encs ts).length zero ++ post)) = pre ++ (spreads ts pre.length d ++ post)
  | [], f, _, pre, post, d => by simp [postss, encs, spreads]
  | t :: r, f, h, pre, post, d => by
    have h1 := spread_of t f (h t (by simp)) pre (List.replicate (encs r).length zero ++ post) d
    have h2 := spreads_of r f (fun x hx => h x (List.mem_cons_of_mem _ hx)) (pre ++ spread t pre.length d) post d
    rw [List.length_append, spread_len t f (h t (by simp))] at h2
    simp only [postss, List.foldl_append]
    have e : pre ++ (List.replicate (encs (t :: r)).length zero ++ post) = pre ++ (List.replicate (enc t).length zero ++ (List.replicate (encs r).length zero ++ post)) := by
      rw [encs, List.length_append, ← List.replicate_append_replicate]; simp only [List.append_assoc]
    rw [e, h1, ← List.append_assoc, h2, spreads]
    simp
end
mutual
theorem spread_pres : ∀ (t : Tm) (a d : Nat), 1 ≤ d → (spread t a d).filter (fun p => decide (0 < p.dep)) = pres t a d
  | .node h ps, a, d, hd => by
    have := spreads_pres ps (a + h.length) (d + 1) (by omega)
    have hz : (List.replicate (h.length - 1) zero).filter (fun p => decide (0 < p.dep)) = [] := by
      rw [List.filter_eq_nil_iff]
      intro p hp
      rw [List.eq_of_mem_replicate hp]; simp [zero]
    rw [spread, pres, List.filter_cons_of_pos (by simp; omega), List.filter_append, hz, this]
    rfl
theorem spreads_pres : ∀ (ts : List Tm) (a d : Nat), 1 ≤ d → (spreads ts a d).filter (fun p => decide (0 < p.dep)) = press ts a d
  | [], a, d, _ => rfl
  | t :: r, a, d, hd => by
    rw [spreads, press, List.filter_append, spread_pres t a d hd, spreads_pres r _ d hd]
end
theorem table_pres (t : Tm) (f : Nat) (hg : Good f t) : ((posts t 0 1).foldl setAt (List.replicate (enc t).length zero)).filter (fun p => decide (0 < p.dep)) = pres t 0 1 := by
  have := spread_of t f hg [] [] 1
  simp only [List.nil_append, List.append_nil, List.length_nil] at this
  rw [this, spread_pres t 0 1 (by omega)]
mutual
theorem posts_in : ∀ (t : Tm) (f : Nat), Good f t → ∀ a d, ∀ p ∈ posts t a d, a ≤ p.fr ∧ p.fr < p.to ∧ p.to ≤ a + (enc t).length
  | .node h ps, f, hg, a, d => by
    intro p hp
    have h1 := good_head hg
    cases f with
    | zero => exact hg.elim
    | succ f =>
      simp only [posts, List.mem_append, List.mem_singleton] at hp
      rcases hp with hp | hp
      · have := postss_in ps f hg.2 (a + h.length) (d + 1) p hp
        rw [enc, List.length_append]; omega
      · subst hp
        rw [enc, List.length_append]; simp only; omega
theorem postss_in : ∀ (ts : List Tm) (f : Nat), (∀ t ∈ ts, Good f t) → ∀ a d, ∀ p ∈ postss ts a d, a ≤ p.fr ∧ p.fr < p.to ∧ p.to ≤ a + (encs ts).length
  | [], f, _, a, d => by simp [postss]
  | t :: r, f, h, a, d => by
    intro p hp
    simp only [postss, List.mem_append] at hp
    rcases hp with hp | hp
    · have := posts_in t f (h t (by simp)) a d p hp
      rw [encs, List.length_append]; omega
    · have := postss_in r f (fun x hx => h x (List.mem_cons_of_mem _ hx)) (a + (enc t).length) d p hp
      rw [encs, List.length_append]; omega
end
mutual
theorem pres_in : ∀ (t : Tm) (f : Nat), Good f t → ∀ a d, ∀ p ∈ pres t a d, a ≤ p.fr ∧ p.fr < p.to ∧ p.to ≤ a + (enc t).length
  | .node h ps, f, hg, a, d => by
    intro p hp
    have h1 := good_head hg
    cases f with
    | zero => exact hg.elim
    | succ f =>
      simp only [pres, List.mem_cons] at hp
      rcases hp with hp | hp
      · subst hp
        rw [enc, List.length_append]; simp only; omega
      · have := press_in ps f hg.2 (a + h.length) (d + 1) p hp
        rw [enc, List.length_append]; omega
theorem press_in : ∀ (ts : List Tm) (f : Nat), (∀ t ∈ ts, Good f t) → ∀ a d, ∀ p ∈ press ts a d, a ≤ p.fr ∧ p.fr < p.to ∧ p.to ≤ a + (encs ts).length
  | [], f, _, a, d => by simp [press]
  | t :: r, f, h, a, d => by
    intro p hp
    simp only [press, List.mem_append] at hp
    rcases hp with hp | hp
    · have := pres_in t f (h t (by simp)) a d p hp
      rw [encs, List.length_append]; omega
    · have := press_in r f (fun x hx => h x (List.mem_cons_of_mem _ hx)) (a + (enc t).length) d p hp
      rw [encs, List.length_append]; omega
end
mutual
/-- what stands at the places, as they begin -/
def subs : Tm → List Tm
  | .node h ps => .node h ps :: subss ps
def subss : List Tm → List Tm
  | [] => []
  | t :: r => subs t ++ subss r
end
mutual
theorem pres_slice (l : List UInt8) : ∀ (t : Tm) (pre post : List UInt8) (d : Nat), l = pre ++ (enc t ++ post) → (pres t pre.length d).map (slice l) = (subs t).map enc
  | .node h ps, pre, post, d, e => by
    have ih := press_slice l ps (pre ++ h) post (d + 1) (by rw [e, enc]; simp)
    rw [List.length_append] at ih
    rw [pres, subs, List.map_cons, List.map_cons, ih]
    congr 1
    rw [slice, e]; simp
theorem press_slice (l : List UInt8) : ∀ (ts : List Tm) (pre post : List UInt8) (d : Nat), l = pre ++ (encs ts ++ post) → (press ts pre.length d).map (slice l) = (subss ts).map enc
  | [], pre, post, d, e => by simp [press, subss]
  | t :: r, pre, post, d, e => by
    have h1 := pres_slice l t pre (encs r ++ post) d (by rw [e, encs]; simp)
    have h2 := press_slice l r (pre ++ enc t) post d (by rw [e, encs]; simp)
    rw [List.length_append] at h2
    rw [press, subss, List.map_append, List.map_append, h1, h2]
end
theorem places_of (t : Tm) : (pres t 0 1).map (slice (enc t)) = (subs t).map enc := by
  have := pres_slice (enc t) t [] [] 1 (by simp)
  simpa using this
/-- one place of a swap: what is written so far, and how much of the text that is -/
def swapStep (t fr tt : List UInt8) (s : List UInt8 × Nat) (p : Pos) : Option (List UInt8 × Nat) :=
  if p.fr < s.2 ∨ slice t p ≠ fr then some s
  else if 16384 < (s.1 ++ (t.drop s.2).take (p.fr - s.2) ++ tt).length then none
  else some (s.1 ++ (t.drop s.2).take (p.fr - s.2) ++ tt, p.to)
def swap (t fr tt : List UInt8) : List UInt8 × Nat :=
  if isTm t && isTm fr && isTm tt then
    (match (pres (tree t) 0 1).foldlM (swapStep t fr tt) ([], 0) with
      | none => ([], 5)
      | some s => if isTm (s.1 ++ t.drop s.2) then (s.1 ++ t.drop s.2, 0) else ([], 5))
  else ([], 2)
/-- how deep the deepest place is -/
def deepest (ps : List Pos) : Nat := ps.foldl (fun n p => max n p.dep) 0
theorem deepest_snoc (ps : List Pos) (p : Pos) : deepest (ps ++ [p]) = max (deepest ps) p.dep := by simp [deepest]
/-- does a text stand at one of the places of a term -/
def has (l s : List UInt8) : Bool := (subs (tree l)).any fun p => enc p == s
end Go.Proofs.Ytpajocjepahobaa.Pl
namespace Go.Proofs.Ytpajocjepahobaa.Pl
theorem good_succ : ∀ (f : Nat) (t : Tm), Good f t → Good (f + 1) t
  | 0, _, h => h.elim
  | f + 1, .node _ _, hg => ⟨hg.1, fun p hp => good_succ f p (hg.2 p hp)⟩
theorem good_add (f : Nat) (t : Tm) (h : Good f t) : ∀ g, Good (f + g) t
  | 0 => h
  | g + 1 => good_succ _ _ (good_add f t h g)
theorem good_le {f g : Nat} {t : Tm} (h : Good f t) (hl : f ≤ g) : Good g t := by
  have := good_add f t h (g - f)
  rwa [show f + (g - f) = g by omega] at this
theorem good_unique {f g : Nat} {t u : Tm} (ht : Good f t) (hu : Good g u) (h : enc t = enc u) : t = u := by
  have h1 := good_parse _ _ (good_add f t ht g) []
  have h2 := good_parse _ _ (good_le hu (Nat.le_add_left g f)) []
  rw [h, h2] at h1
  injection h1 with h1; injection h1 with h1 _; exact h1.symm
mutual
def sw (F : List UInt8) (U : Tm) : Tm → Tm
  | .node h ps => if enc (.node h ps) = F then U else .node h (sws F U ps)
def sws (F : List UInt8) (U : Tm) : List Tm → List Tm
  | [] => []
  | t :: r => sw F U t :: sws F U r
end
theorem sws_map (F : List UInt8) (U : Tm) : ∀ ts, sws F U ts = ts.map (sw F U)
  | [] => rfl
  | t :: r => by rw [sws, sws_map F U r, List.map_cons]
theorem sw_good {F : List UInt8} {U : Tm} {g : Nat} (hU : Good g U) : ∀ (f : Nat) (t : Tm), Good f t → Good (f + g) (sw F U t)
  | 0, _, h => h.elim
  | f + 1, .node h ps, hg => by
    unfold sw
    split
    · exact good_le hU (by omega)
    · rw [show f + 1 + g = (f + g) + 1 by omega]
      refine ⟨fun r => ?_, fun p hp => ?_⟩
      · rw [hg.1 r, sws_map, List.length_map]
      · rw [sws_map] at hp
        obtain ⟨q, hq, rfl⟩ := List.mem_map.1 hp
        exact sw_good hU f q (hg.2 q hq)
/-! ### what stands in a term -/
theorem subss_mem : ∀ (ts : List Tm) (x : Tm), x ∈ subss ts ↔ ∃ t ∈ ts, x ∈ subs t
  | [], x => by simp [subss]
  | t :: r, x => by rw [subss, List.mem_append, subss_mem r x]; simp
theorem subs_self (t : Tm) : t ∈ subs t := by cases t; simp [subs]
theorem encs_len : ∀ (ts : List Tm) (t : Tm), t ∈ ts → (enc t).length ≤ (encs ts).length
  | [], t, h => by simp at h
  | x :: r, t, h => by
    rw [encs, List.length_append]
    rcases List.mem_cons.1 h with rfl | h
    · omega
    · have := encs_len r t h; omega
mutual
theorem subs_good : ∀ (t : Tm) (f : Nat), Good f t → ∀ x ∈ subs t, Good f x ∧ (enc x).length ≤ (enc t).length
  | .node h ps, f, hg, x, hx => by
    simp only [subs, List.mem_cons] at hx
    rcases hx with rfl | hx
    · exact ⟨hg, Nat.le_refl _⟩
    · cases f with
      | zero => exact hg.elim
      | succ f =>
        obtain ⟨h1, h2⟩ := subss_good ps f hg.2 x hx
        exact ⟨good_succ _ _ h1, by rw [enc, List.length_append]; omega⟩
theorem subss_good : ∀ (ts : List Tm) (f : Nat), (∀ t ∈ ts, Good f t) → ∀ x ∈ subss ts, Good f x ∧ (enc x).length ≤ (encs ts).length
  | [], f, _, x, hx => by simp [subss] at hx
  | t :: r, f, h, x, hx => by
    rw [encs, List.length_append]
    simp only [subss, List.mem_append] at hx
    rcases hx with hx | hx
    · have := subs_good t f (h t (by simp)) x hx
      exact ⟨this.1, by omega⟩
    · have := subss_good r f (fun y hy => h y (List.mem_cons_of_mem _ hy)) x hx
      exact ⟨this.1, by omega⟩
end
mutual
theorem subs_trans : ∀ (t : Tm) (x y : Tm), x ∈ subs t → y ∈ subs x → y ∈ subs t
  | .node h ps, x, y, hx, hy => by
    rw [subs, List.mem_cons] at hx
    rcases hx with rfl | hx
    · exact hy
    · rw [subs, List.mem_cons]; exact .inr (subss_trans ps x y hx hy)
theorem subss_trans : ∀ (ts : List Tm) (x y : Tm), x ∈ subss ts → y ∈ subs x → y ∈ subss ts
  | [], x, y, hx, _ => by simp [subss] at hx
  | t :: r, x, y, hx, hy => by
    rw [subss, List.mem_append] at hx ⊢
    rcases hx with hx | hx
    · exact .inl (subs_trans t x y hx hy)
    · exact .inr (subss_trans r x y hx hy)
end
mutual
theorem sw_none (F : List UInt8) (U : Tm) : ∀ (t : Tm), (∀ x ∈ subs t, enc x ≠ F) → sw F U t = t
  | .node h ps, hn => by
    rw [sw, if_neg (hn _ (subs_self _)), sws_none F U ps fun x hx => hn x (by rw [subs]; exact List.mem_cons_of_mem _ hx)]
theorem sws_none (F : List UInt8) (U : Tm) : ∀ (ts : List Tm), (∀ x ∈ subss ts, enc x ≠ F) → sws F U ts = ts
  | [], _ => rfl
  | t :: r, hn => by
    rw [sws, sw_none F U t fun x hx => hn x (by rw [subss]; exact List.mem_append_left _ hx), sws_none F U r fun x hx => hn x (by rw [subss]; exact List.mem_append_right _ hx)]
end
mutual
theorem sw_some (F : List UInt8) (U : Tm) : ∀ (t : Tm), (∃ x ∈ subs t, enc x = F) → U ∈ subs (sw F U t)
  | .node h ps, hs => by
    rw [sw]
    split
    · exact subs_self U
    · rename_i hne
      obtain ⟨x, hx, he⟩ := hs
      rw [subs, List.mem_cons] at hx
      rcases hx with rfl | hx
      · exact absurd he hne
      · rw [subs]; exact List.mem_cons_of_mem _ (sws_some F U ps ⟨x, hx, he⟩)
theorem sws_some (F : List UInt8) (U : Tm) : ∀ (ts : List Tm), (∃ x ∈ subss ts, enc x = F) → U ∈ subss (sws F U ts)
  | [], hs => by obtain ⟨x, hx, _⟩ := hs; simp [subss] at hx
  | t :: r, hs => by
    obtain ⟨x, hx, he⟩ := hs
    rw [subss, List.mem_append] at hx
    rw [sws, subss, List.mem_append]
    rcases hx with hx | hx
    · exact .inl (sw_some F U t ⟨x, hx, he⟩)
    · exact .inr (sws_some F U r ⟨x, hx, he⟩)
end
/-- what a swap of a term's own parts makes is not what comes, unless that stood there already -/
theorem sw_ne {F : List UInt8} {U : Tm} {f g : Nat} (hU : Good g U) {h : List UInt8} {ps : List Tm} (hg : Good (f + 1) (.node h ps)) (hne : enc (.node h ps) ≠ F) (hno : ∀ x ∈ subs (.node h ps), enc x ≠ enc U) :
    enc (.node h (sws F U ps)) ≠ enc U := by
  intro e
  by_cases hs : ∃ x ∈ subss ps, enc x = F
  · have h1 := sws_some F U ps hs
    obtain ⟨t, ht, hut⟩ := (subss_mem _ _).1 h1
    have hgs := sw_good (F := F) hU (f + 1) _ hg
    rw [sw, if_neg hne] at hgs
    rw [show f + 1 + g = (f + g) + 1 by omega] at hgs
    have h2 := (subs_good t _ (hgs.2 t ht) U hut).2
    have h3 := encs_len _ t ht
    have h4 := good_head hgs
    have := congrArg List.length e
    rw [enc, List.length_append] at this; omega
  · have h1 := sws_none F U ps fun x hx he => hs ⟨x, hx, he⟩
    rw [h1] at e
    exact hno _ (subs_self _) e
theorem sw_back {F U : Tm} {g1 g2 : Nat} (hF : Good g1 F) (hU : Good g2 U) : ∀ (f : Nat) (t : Tm), Good f t → (∀ x ∈ subs t, enc x ≠ enc U) → sw (enc U) F (sw (enc F) U t) = t
  | 0, _, h, _ => h.elim
  | f + 1, .node h ps, hg, hno => by
    by_cases hne : enc (.node h ps) = enc F
    · rw [sw, if_pos hne]
      obtain ⟨hu, pu⟩ := U
      rw [sw, if_pos rfl]
      exact (good_unique hg hF hne).symm
    · have h1 := sw_ne hU hg hne hno
      rw [sw, if_neg hne, sw, if_neg h1]
      congr 1
      rw [sws_map, sws_map, List.map_map]
      conv => rhs; rw [← List.map_id ps]
      apply List.map_congr_left
      intro p hp
      exact sw_back hF hU f p (hg.2 p hp) fun x hx => hno x (by rw [subs]; exact List.mem_cons_of_mem _ ((subss_mem _ _).2 ⟨p, hp, hx⟩))
theorem sw_has {F U : Tm} {g1 g2 : Nat} (hF : Good g1 F) (hU : Good g2 U) : ∀ (f : Nat) (t : Tm), Good f t → (∀ x ∈ subs t, enc x ≠ enc U) → F ∈ subs (sw (enc F) U t) → F ∈ subs U
  | 0, _, h, _, _ => h.elim
  | f + 1, .node h ps, hg, hno, hin => by
    by_cases hne : enc (.node h ps) = enc F
    · rw [sw, if_pos hne] at hin; exact hin
    · rw [sw, if_neg hne, subs, List.mem_cons] at hin
      rcases hin with hin | hin
      · exfalso
        by_cases hs : ∃ x ∈ subss ps, enc x = enc F
        · have h1 := sws_some (enc F) U ps hs
          have h2 : U ∈ subs F := by rw [hin, subs]; exact List.mem_cons_of_mem _ h1
          obtain ⟨x, hx, he⟩ := hs
          have hx2 := (subss_good ps f hg.2 x hx).1
          have : x = F := good_unique hx2 hF he
          subst this
          exact hno U (by rw [subs]; exact List.mem_cons_of_mem _ (subss_trans ps x U hx h2)) rfl
        · have h1 := sws_none (enc F) U ps fun x hx he => hs ⟨x, hx, he⟩
          rw [h1] at hin
          exact hne (by rw [hin])
      · obtain ⟨y, hy, hyin⟩ := (subss_mem _ _).1 hin
        rw [sws_map] at hy
        obtain ⟨p, hp, rfl⟩ := List.mem_map.1 hy
        exact sw_has hF hU f p (hg.2 p hp) (fun x hx => hno x (by rw [subs]; exact List.mem_cons_of_mem _ ((subss_mem _ _).2 ⟨p, hp, hx⟩))) hyin
end Go.Proofs.Ytpajocjepahobaa.Pl
namespace Go.Proofs.Ytpajocjepahobaa.Pl
def seg (l : List UInt8) (i j : Nat) : List UInt8 := (l.drop i).take (j - i)
theorem seg_append (l : List UInt8) {i j k : Nat} (h1 : i ≤ j) (h2 : j ≤ k) : seg l i k = seg l i j ++ seg l j k := by
  unfold seg
  rw [show k - i = (j - i) + (k - j) by omega, List.take_add, List.drop_drop, show i + (j - i) = j by omega]
theorem seg_self (l : List UInt8) (i : Nat) : seg l i i = [] := by simp [seg]
theorem seg_mid {l pre x post : List UInt8} (h : l = pre ++ (x ++ post)) : seg l pre.length (pre.length + x.length) = x := by
  subst h; simp [seg]
def raw (t F U : List UInt8) (s : List UInt8 × Nat) (p : Pos) : List UInt8 × Nat :=
  if p.fr < s.2 ∨ slice t p ≠ F then s else (s.1 ++ seg t s.2 p.fr ++ U, p.to)
theorem raw_skip (t F U : List UInt8) : ∀ (ps : List Pos) (s : List UInt8 × Nat), (∀ p ∈ ps, p.fr < s.2) → ps.foldl (raw t F U) s = s
  | [], _, _ => rfl
  | p :: ps, s, h => by
    rw [List.foldl_cons]
    have : raw t F U s p = s := by unfold raw; rw [if_pos (Or.inl (h p (by simp)))]
    rw [this]
    exact raw_skip t F U ps s fun q hq => h q (List.mem_cons_of_mem _ hq)
theorem raw_grows (t F U : List UInt8) : ∀ (ps : List Pos) (s : List UInt8 × Nat), s.1.length ≤ (ps.foldl (raw t F U) s).1.length
  | [], _ => Nat.le_refl _
  | p :: ps, s => by
    rw [List.foldl_cons]
    refine Nat.le_trans ?_ (raw_grows t F U ps _)
    unfold raw
    split
    · exact Nat.le_refl _
    · simp
theorem swap_raw (t F U : List UInt8) : ∀ (ps : List Pos) (s st : List UInt8 × Nat), ps.foldlM (swapStep t F U) s = some st → st = ps.foldl (raw t F U) s
  | [], s, st, h => by simp at h; exact h.symm
  | p :: ps, s, st, h => by
    rw [List.foldlM_cons] at h
    rw [List.foldl_cons]
    unfold swapStep at h
    unfold raw
    split at h
    · rename_i hc; rw [if_pos hc]; exact swap_raw t F U ps s st h
    · rename_i hc
      rw [if_neg hc]
      split at h
      · simp at h
      · exact swap_raw t F U ps _ st h
theorem raw_swap (t F U : List UInt8) : ∀ (ps : List Pos) (s : List UInt8 × Nat), (ps.foldl (raw t F U) s).1.length ≤ 16384 → ps.foldlM (swapStep t F U) s = some (ps.foldl (raw t F U) s)
  | [], s, _ => rfl
  | p :: ps, s, h => by
    rw [List.foldl_cons] at h
    have h1 := raw_grows t F U ps (raw t F U s p)
    rw [List.foldlM_cons, List.foldl_cons]
    by_cases hc : p.fr < s.2 ∨ slice t p ≠ F
    · have e : swapStep t F U s p = some (raw t F U s p) := by unfold swapStep raw; rw [if_pos hc, if_pos hc]
      rw [e]; exact raw_swap t F U ps _ h
    · have e0 : raw t F U s p = (s.1 ++ seg t s.2 p.fr ++ U, p.to) := by unfold raw; rw [if_neg hc]
      have e : swapStep t F U s p = some (raw t F U s p) := by
        rw [e0] at h1 ⊢
        unfold swapStep
        rw [if_neg hc, if_neg]
        · rfl
        · simp only at h1
          have : (s.1 ++ (t.drop s.2).take (p.fr - s.2) ++ U).length = (s.1 ++ seg t s.2 p.fr ++ U).length := rfl
          rw [this]
          rw [e0] at h
          omega
      rw [e]; exact raw_swap t F U ps _ h
mutual
theorem raw_tm (l F : List UInt8) (U : Tm) : ∀ (t : Tm) (f : Nat), Good f t → ∀ (pre post : List UInt8) (d : Nat) (s : List UInt8 × Nat), l = pre ++ (enc t ++ post) → s.2 ≤ pre.length →
    ((pres t pre.length d).foldl (raw l F (enc U)) s).2 ≤ pre.length + (enc t).length ∧
    ((pres t pre.length d).foldl (raw l F (enc U)) s).1 ++ seg l ((pres t pre.length d).foldl (raw l F (enc U)) s).2 (pre.length + (enc t).length) = s.1 ++ (seg l s.2 pre.length ++ enc (sw F U t))
  | .node h ps, f, hg, pre, post, d, s, hl, hs => by
    have hin := pres_in (.node h ps) f hg pre.length d
    have hsl : slice l ⟨pre.length, pre.length + (enc (.node h ps)).length, d⟩ = enc (.node h ps) := by
      rw [slice]; exact seg_mid hl
    by_cases hc : enc (.node h ps) = F
    · have e0 : raw l F (enc U) s ⟨pre.length, pre.length + (enc (.node h ps)).length, d⟩ = (s.1 ++ seg l s.2 pre.length ++ enc U, pre.length + (enc (.node h ps)).length) := by
        unfold raw
        rw [if_neg]
        rintro (h1 | h1)
        · simp only at h1; omega
        · exact h1 (hsl.trans hc)
      have e1 : (pres (.node h ps) pre.length d).foldl (raw l F (enc U)) s = (s.1 ++ seg l s.2 pre.length ++ enc U, pre.length + (enc (.node h ps)).length) := by
        rw [pres, List.foldl_cons, e0]
        refine raw_skip _ _ _ _ _ fun p hp => ?_
        have := hin p (by rw [pres]; exact List.mem_cons_of_mem _ hp)
        simp only; omega
      rw [e1, sw, if_pos hc]
      simp only
      exact ⟨Nat.le_refl _, by rw [seg_self]; simp⟩
    · have e0 : raw l F (enc U) s ⟨pre.length, pre.length + (enc (.node h ps)).length, d⟩ = s := by
        unfold raw
        rw [if_pos (Or.inr (by rw [hsl]; exact hc))]
      cases f with
      | zero => exact hg.elim
      | succ f =>
        have hl2 : l = (pre ++ h) ++ (encs ps ++ post) := by rw [hl, enc]; simp
        have ih := raw_tms l F U ps f hg.2 (pre ++ h) post (d + 1) s hl2 (by rw [List.length_append]; omega)
        rw [List.length_append] at ih
        have e1 : (pres (.node h ps) pre.length d).foldl (raw l F (enc U)) s = (press ps (pre.length + h.length) (d + 1)).foldl (raw l F (enc U)) s := by
          rw [pres, List.foldl_cons, e0]
        have e2 : pre.length + (enc (.node h ps)).length = pre.length + h.length + (encs ps).length := by rw [enc, List.length_append]; omega
        rw [e1, e2, sw, if_neg hc, enc]
        refine ⟨ih.1, ih.2.trans ?_⟩
        have e3 : seg l s.2 (pre.length + h.length) = seg l s.2 pre.length ++ h := by
          rw [seg_append l hs (Nat.le_add_right _ _)]
          congr 1
          exact seg_mid (post := encs ps ++ post) (by rw [hl2]; simp)
        rw [e3]; simp
theorem raw_tms (l F : List UInt8) (U : Tm) : ∀ (ts : List Tm) (f : Nat), (∀ t ∈ ts, Good f t) → ∀ (pre post : List UInt8) (d : Nat) (s : List UInt8 × Nat), l = pre ++ (encs ts ++ post) → s.2 ≤ pre.length →
    ((press ts pre.length d).foldl (raw l F (enc U)) s).2 ≤ pre.length + (encs ts).length ∧
    ((press ts pre.length d).foldl (raw l F (enc U)) s).1 ++ seg l ((press ts pre.length d).foldl (raw l F (enc U)) s).2 (pre.length + (encs ts).length) = s.1 ++ (seg l s.2 pre.length ++ encs (sws F U ts))
  | [], f, _, pre, post, d, s, hl, hs => by
    simp only [press, List.foldl_nil, encs, sws, List.length_nil, Nat.add_zero, List.append_nil]
    exact ⟨hs, trivial⟩
  | t :: r, f, hg, pre, post, d, s, hl, hs => by
    obtain ⟨h1, h2⟩ := raw_tm l F U t f (hg t (by simp)) pre (encs r ++ post) d s (by rw [hl, encs]; simp) hs
    obtain ⟨s1, hs1⟩ : ∃ s1, (pres t pre.length d).foldl (raw l F (enc U)) s = s1 := ⟨_, rfl⟩
    rw [hs1] at h1 h2
    have ih := raw_tms l F U r f (fun x hx => hg x (List.mem_cons_of_mem _ hx)) (pre ++ enc t) post d s1 (by rw [hl, encs]; simp) (by rw [List.length_append]; exact h1)
    rw [List.length_append] at ih
    have e1 : (press (t :: r) pre.length d).foldl (raw l F (enc U)) s = (press r (pre.length + (enc t).length) d).foldl (raw l F (enc U)) s1 := by
      rw [press, List.foldl_append, hs1]
    have e2 : pre.length + (encs (t :: r)).length = pre.length + (enc t).length + (encs r).length := by rw [encs, List.length_append]; omega
    rw [e1, e2]
    refine ⟨ih.1, ih.2.trans ?_⟩
    rw [sws, encs, ← List.append_assoc, h2]; simp
end
theorem raw_all (F : List UInt8) (U t : Tm) (f : Nat) (hg : Good f t) :
    ((pres t 0 1).foldl (raw (enc t) F (enc U)) ([], 0)).1 ++ (enc t).drop ((pres t 0 1).foldl (raw (enc t) F (enc U)) ([], 0)).2 = enc (sw F U t) := by
  obtain ⟨h1, h2⟩ := raw_tm (enc t) F U t f hg [] [] 1 ([], 0) (by simp) (Nat.le_refl _)
  simp only [List.length_nil, Nat.zero_add] at h1 h2
  rw [seg_self] at h2
  rw [← List.nil_append (enc (sw F U t)), ← List.nil_append ([] ++ enc (sw F U t)), ← h2]
  congr 1
  unfold seg
  rw [List.take_of_length_le (by simp)]
/-- what Swap answers, of trees -/
theorem swap_eq {l F U : List UInt8} (hl : isTm l = true) (hF : isTm F = true) (hU : isTm U = true) :
    swap l F U = if isTm (enc (sw F (tree U) (tree l))) = true then
      (match (pres (tree l) 0 1).foldlM (swapStep l F U) ([], 0) with
        | none => ([], 5)
        | some _ => (enc (sw F (tree U) (tree l)), 0)) else ([], 5) := by
  obtain ⟨_, gl, el⟩ := isTm_tree hl
  obtain ⟨_, gU, eU⟩ := isTm_tree hU
  have h1 := raw_all F (tree U) (tree l) 16 gl
  rw [el, eU] at h1
  unfold swap
  rw [hl, hF, hU]
  simp only [Bool.and_self, if_true]
  cases hf : (pres (tree l) 0 1).foldlM (swapStep l F U) ([], 0) with
  | none => simp
  | some st =>
    have h2 := swap_raw _ _ _ _ _ _ hf
    rw [← h2] at h1
    simp only [h1]
theorem swap_ok {l F U : List UInt8} (h : (swap l F U).2 = 0) : isTm l = true ∧ isTm F = true ∧ isTm U = true ∧ (swap l F U).1 = enc (sw F (tree U) (tree l)) ∧ isTm (swap l F U).1 = true := by
  by_cases hc : (isTm l && isTm F && isTm U) = true
  · have h2 := Bool.and_eq_true_iff.1 hc
    have h3 := Bool.and_eq_true_iff.1 h2.1
    rw [swap_eq h3.1 h3.2 h2.2] at h ⊢
    by_cases hi : isTm (enc (sw F (tree U) (tree l))) = true
    · rw [if_pos hi] at h ⊢
      cases hf : (pres (tree l) 0 1).foldlM (swapStep l F U) ([], 0) with
      | none => rw [hf] at h; simp at h
      | some st => exact ⟨h3.1, h3.2, h2.2, rfl, hi⟩
    · rw [if_neg hi] at h; simp at h
  · unfold swap at h; rw [if_neg hc] at h; simp at h
theorem swap_back {l F U : List UInt8} (hl : isTm l = true) (hF : isTm F = true) (hU : isTm U = true) (hi : isTm (enc (sw F (tree U) (tree l))) = true) : swap l F U = (enc (sw F (tree U) (tree l)), 0) := by
  rw [swap_eq hl hF hU, if_pos hi]
  obtain ⟨_, gl, el⟩ := isTm_tree hl
  obtain ⟨_, gU, eU⟩ := isTm_tree hU
  have h1 := raw_all F (tree U) (tree l) 16 gl
  rw [el, eU] at h1
  have h3 := (isTm_len hi).1
  rw [raw_swap]
  rw [← h1, List.length_append] at h3; omega
theorem has_iff {l s : List UInt8} : has l s = true ↔ ∃ x ∈ subs (tree l), enc x = s := by
  unfold has; rw [List.any_eq_true]; simp
end Go.Proofs.Ytpajocjepahobaa.Pl
namespace Go.Proofs.Ytpajocjepahobaa.Pl
theorem madeCat_all : ∀ (ts : List (List UInt8)) (b : List UInt8), (b ++ ts.flatten).length ≤ 16384 → madeCat b ts = b ++ ts.flatten
  | [], b, _ => by simp [madeCat]
  | t :: r, b, h => by
    simp only [List.flatten_cons, List.length_append] at h
    rw [madeCat, if_neg (by omega), madeCat_all r (b ++ t) (by simp only [List.length_append]; omega)]
    simp
theorem madeCat_len : ∀ (ts : List (List UInt8)) (b : List UInt8), madeCat b ts = b ++ ts.flatten ∨ 16384 < (madeCat b ts).length
  | [], b => Or.inl (by simp [madeCat])
  | t :: r, b => by
    by_cases h : 16384 < b.length
    · right; rw [madeCat, if_pos h]; exact h
    · rw [madeCat, if_neg h]
      rcases madeCat_len r (b ++ t) with h1 | h1
      · left; rw [h1]; simp
      · right; exact h1
theorem isTm_chk {l : List UInt8} : isTm l = true ↔ chk l = 0 := by unfold isTm; simp
theorem made_fwd {b : List UInt8} {ts : List (List UInt8)} (h : (made b ts).2 = 0) : (∀ t ∈ ts, isTm t = true) ∧ made b ts = (b ++ ts.flatten, 0) ∧ isTm (b ++ ts.flatten) = true := by
  unfold made at h ⊢
  by_cases h1 : ts.all isTm = true
  · rw [if_pos h1] at h ⊢
    by_cases h2 : chk (madeCat b ts) = 0
    · rw [if_pos h2]
      have h3 : isTm (madeCat b ts) = true := isTm_chk.2 h2
      have h4 := (isTm_len h3).1
      rcases madeCat_len ts b with h5 | h5
      · rw [h5] at h3 ⊢; exact ⟨List.all_eq_true.1 h1, rfl, h3⟩
      · omega
    · rw [if_neg h2] at h; simp at h
  · rw [if_neg h1] at h; simp at h
theorem made_back {b : List UInt8} {ts : List (List UInt8)} (h1 : ∀ t ∈ ts, isTm t = true) (h2 : isTm (b ++ ts.flatten) = true) : made b ts = (b ++ ts.flatten, 0) := by
  have h3 := madeCat_all ts b (isTm_len h2).1
  unfold made
  rw [if_pos (List.all_eq_true.2 h1), h3, if_pos (isTm_chk.1 h2)]
theorem encs_flat (ts : List Tm) : encs ts = (ts.map enc).flatten := by
  induction ts with
  | nil => simp [encs]
  | cons t r ih => simp [encs, ih]
theorem good_many {f : Nat} {ps : List Tm} (h : ∀ p ∈ ps, Good f p) (r : List UInt8) : many (parse f) ps.length (encs ps ++ r) = .ok (ps, r) := many_back ps r fun p hp r => good_parse f p (h p hp) r
theorem encs_unique {f : Nat} {ps qs : List Tm} (hp : ∀ p ∈ ps, Good f p) (hq : ∀ p ∈ qs, Good f p) (hl : ps.length = qs.length) (he : encs ps = encs qs) : ps = qs := by
  have h1 := good_many hp []
  have h2 := good_many hq []
  rw [hl, he, h2] at h1
  injection h1 with h1; injection h1 with h1 _; exact h1.symm
theorem map_tree {ts : List (List UInt8)} (h : ∀ t ∈ ts, isTm t = true) : (ts.map tree).map enc = ts := by
  rw [List.map_map]
  conv => rhs; rw [← List.map_id ts]
  exact List.map_congr_left fun t ht => (isTm_tree (h t ht)).2.2
theorem tree_parts {b : List UInt8} {ts : List (List UInt8)} (hb : head (b ++ ts.flatten) = .ok (b.length, ts.length)) (h1 : ∀ t ∈ ts, isTm t = true) (h2 : isTm (b ++ ts.flatten) = true) :
    tree (b ++ ts.flatten) = .node b (ts.map tree) := by
  obtain ⟨-, hg, he⟩ := isTm_tree h2
  obtain ⟨T, hT⟩ : ∃ T, tree (b ++ ts.flatten) = T := ⟨_, rfl⟩
  rw [hT] at hg he ⊢
  obtain ⟨h, ps⟩ := T
  have hh := hg.1 (encs ps)
  have e0 : h ++ encs ps = b ++ ts.flatten := by rw [← he]; simp [enc]
  rw [e0, hb] at hh
  injection hh with hh; injection hh with e1 e2
  obtain ⟨e3, e4⟩ := List.append_inj e0 e1.symm
  have e5 : encs ps = encs (ts.map tree) := by rw [e4, encs_flat, map_tree h1]
  have := encs_unique (f := 16) (fun p hp => good_succ 15 p (hg.2 p hp)) (fun p hp => by
    obtain ⟨t, ht, rfl⟩ := List.mem_map.1 hp
    exact (isTm_tree (h1 t ht)).2.1) (by simp [e2]) e5
  rw [e3, this]
/-- what a term is made of -/
theorem isTm_parts {l : List UInt8} (h : isTm l = true) : ∃ hd ps, tree l = .node hd ps ∧ l = hd ++ (ps.map enc).flatten ∧ head l = .ok (hd.length, ps.length) ∧ (∀ p ∈ ps, isTm (enc p) = true ∧ tree (enc p) = p) ∧ ∀ p ∈ ps, Good 15 p := by
  obtain ⟨-, hg, he⟩ := isTm_tree h
  have hl := (isTm_len h).1
  obtain ⟨T, hT⟩ : ∃ T, tree l = T := ⟨_, rfl⟩
  rw [hT] at hg he ⊢
  obtain ⟨hd, ps⟩ := T
  have e0 : hd ++ encs ps = l := by rw [← he]; simp [enc]
  have hsz : (encs ps).length ≤ 16384 := by
    have := congrArg List.length e0
    rw [List.length_append] at this; omega
  refine ⟨hd, ps, rfl, by rw [← encs_flat, e0], by rw [← e0]; exact hg.1 _, fun p hp => ?_, hg.2⟩
  exact good_isTm (good_succ 15 p (hg.2 p hp)) (Nat.le_trans (encs_len ps p hp) hsz)
theorem mem_enc {ps : List Tm} {P : List UInt8 → Prop} (h : ∀ p ∈ ps, P (enc p)) : ∀ t ∈ ps.map enc, P t := by
  intro t ht
  obtain ⟨p, hp, rfl⟩ := List.mem_map.1 ht
  exact h p hp
end Go.Proofs.Ytpajocjepahobaa.Pl
namespace Go.Proofs.Ytpajocjepahobaa.Pl
theorem digits_num (l : List UInt8) : l.head? ≠ some 0 → digits (num l) = l := by
  induction l using snoc_ind with
  | h0 => intro _; simp [num, digits_zero]
  | h1 l a ih =>
    intro h
    have hd : ∀ n : Nat, n = num l * 256 + a.toNat → 0 < n → digits n = digits (num l) ++ [a] := by
      intro n e hp
      have hlt := a.toNat_lt
      rw [digits_pos n hp, show n / 256 = num l by omega, show n % 256 = a.toNat by omega]
      congr 2
      simp
    cases l with
    | nil =>
      have ha : a ≠ 0 := by simpa using h
      have ha2 : a.toNat ≠ 0 := fun e => ha (UInt8.toNat_inj.1 (by simpa using e))
      rw [num_snoc, hd _ rfl (by omega)]
      simp [num, digits_zero]
    | cons b r =>
      have hi := ih (by simpa using h)
      have hp : 0 < num (b :: r) := by
        rcases Nat.eq_zero_or_pos (num (b :: r)) with e | e
        · rw [e, digits_zero] at hi; cases hi
        · exact e
      rw [num_snoc, hd _ rfl (by omega), hi]
theorem digits_head (n : Nat) : (digits n).head? ≠ some 0 := by
  induction n using Nat.strongRecOn with
  | _ n ih =>
    rcases Nat.eq_zero_or_pos n with rfl | hp
    · simp [digits_zero]
    · rw [digits_pos n hp]
      by_cases h : n / 256 = 0
      · rw [h, digits_zero]
        simp
        intro e
        have := congrArg UInt8.toNat e
        rw [toUInt8_toNat] at this
        have h0 : (0 : UInt8).toNat = 0 := rfl
        rw [h0] at this; omega
      · have h1 := ih (n / 256) (by omega)
        have hne : digits (n / 256) ≠ [] := by
          intro e
          have := num_digits (n / 256)
          rw [e] at this; simp [num] at this; omega
        cases hd : digits (n / 256) with
        | nil => exact absurd hd hne
        | cons a r => rw [hd] at h1; simpa using h1
theorem enc_eq (c : UInt8) (bs : List UInt8) (h1 : bs ≠ []) (hc : c.toNat = 247 + bs.length) : (encNum (num bs) = c :: bs) ↔ ¬ (bs.head? = some 0 ∨ num bs ≤ 247) := by
  unfold encNum
  constructor
  · intro e hq
    by_cases hn : num bs ≤ 247
    · rw [if_pos hn] at e
      injection e with _ e2; exact h1 e2.symm
    · rw [if_neg hn] at e
      injection e with _ e2
      rcases hq with hq | hq
      · exact digits_head (num bs) (by rw [e2]; exact hq)
      · exact hn hq
  · intro hq
    have hn : ¬ num bs ≤ 247 := fun h => hq (.inr h)
    rw [if_neg hn, digits_num bs (fun h => hq (.inl h))]
    congr 1
    rw [← hc]; simp
theorem toUInt8_of (c : UInt8) : c.toNat.toUInt8 = c := by simp
theorem canon_num (l : List UInt8) (h : (readNum l).2.2 = 0) : l.take (readNum l).2.1 = encNum (readNum l).1 := by
  cases l with
  | nil => simp [readNum] at h
  | cons c r =>
    simp only [readNum] at h ⊢
    by_cases h1 : c.toNat ≤ 247
    · rw [if_pos h1]
      unfold encNum
      simp only [if_pos h1, toUInt8_of]
      rfl
    · rw [if_neg h1] at h ⊢
      by_cases h2 : r.length < c.toNat - 247
      · rw [if_pos h2] at h; simp at h
      · rw [if_neg h2] at h ⊢
        by_cases h3 : r.head? = some 0 ∨ num (r.take (c.toNat - 247)) ≤ 247
        · rw [if_pos h3] at h; simp at h
        · rw [if_neg h3]
          have hl : (r.take (c.toNat - 247)).length = c.toNat - 247 := by rw [List.length_take]; omega
          have e2 : (r.take (c.toNat - 247)).head? = r.head? := by
            obtain ⟨k, hk⟩ : ∃ k, c.toNat - 247 = k + 1 := ⟨c.toNat - 248, by omega⟩
            rw [hk]
            cases r <;> simp
          have hne : r.take (c.toNat - 247) ≠ [] := by
            intro e; rw [e] at hl; simp at hl; omega
          have hc : c.toNat = 247 + (r.take (c.toNat - 247)).length := by omega
          have h4 := (enc_eq c _ hne hc).2 (by rw [e2]; exact h3)
          simp only [List.take_succ_cons]
          exact h4.symm
theorem canon_text (l : List UInt8) (m : Nat) (h : (readText l m).2.2 = 0) : l.take (readText l m).2.1 = encNum (readText l m).1.length ++ (readText l m).1 ∧ (readText l m).1.length ≤ m := by
  refine ⟨?_, (readText_len l m h).2.2.1⟩
  unfold readText at h ⊢
  by_cases h1 : (readNum l).2.2 ≠ 0
  · rw [if_pos h1] at h; exact absurd h h1
  · rw [if_neg h1] at h ⊢
    by_cases h2 : m < (readNum l).1
    · rw [if_pos h2] at h; simp at h
    · rw [if_neg h2] at h ⊢
      by_cases h3 : l.length - (readNum l).2.1 < (readNum l).1
      · rw [if_pos h3] at h; simp at h
      · rw [if_neg h3]
        show l.take ((readNum l).2.1 + (readNum l).1) = encNum ((l.drop (readNum l).2.1).take (readNum l).1).length ++ (l.drop (readNum l).2.1).take (readNum l).1
        have hn := readNum_len l (by omega)
        have e : ((l.drop (readNum l).2.1).take (readNum l).1).length = (readNum l).1 := by rw [List.length_take, List.length_drop]; omega
        rw [e, List.take_add, canon_num l (by omega)]
theorem text_most {l : List UInt8} {m n : Nat} (hmn : m ≤ n) (h : (readText l m).2.2 = 0) : readText l n = readText l m := by
  unfold readText at h ⊢
  by_cases h1 : (readNum l).2.2 ≠ 0
  · rw [if_pos h1] at h; exact absurd h h1
  · rw [if_neg h1] at h ⊢
    by_cases h2 : m < (readNum l).1
    · rw [if_pos h2] at h; simp at h
    · rw [if_neg h2] at h ⊢
      rw [if_neg h1, if_neg (by omega)]
/-- what a term says, or is made of, by its first letter -/
inductive Form (l : List UInt8) : Prop where
  | data (x : List UInt8) : l = 100 :: (encNum x.length ++ x) → x.length ≤ 1024 → tree l = .node l [] → (∃ n, readText (l.drop 1) 1024 = (x, n, 0)) → Form l
  | atom (x : List UInt8) : l = 97 :: (encNum x.length ++ x) → x.length ≤ 32 → nameOk x = true → tree l = .node l [] → (∃ n, readText (l.drop 1) 1024 = (x, n, 0)) → Form l
  | row (ps : List Tm) : ps.length ≤ 32 → l = (114 :: encNum ps.length) ++ (ps.map enc).flatten → tree l = .node (114 :: encNum ps.length) ps → (∀ p ∈ ps, isTm (enc p) = true ∧ tree (enc p) = p) → Form l
  | hash (p : Tm) : l = [104] ++ [enc p].flatten → tree l = .node [104] [p] → isTm (enc p) = true → tree (enc p) = p → Form l
  | mac (p q : Tm) : l = [109] ++ [enc p, enc q].flatten → tree l = .node [109] [p, q] → isTm (enc p) = true → tree (enc p) = p → isTm (enc q) = true → tree (enc q) = q → Form l
  | sealed (p q r : Tm) : l = [115] ++ [enc p, enc q, enc r].flatten → tree l = .node [115] [p, q, r] → isTm (enc p) = true → tree (enc p) = p → isTm (enc q) = true → tree (enc q) = q → isTm (enc r) = true → tree (enc r) = r → Form l
theorem isTm_form {l : List UInt8} (h : isTm l = true) : Form l := by
  obtain ⟨hd, ps, hT, hl, hh, hp, -⟩ := isTm_parts h
  cases l with
  | nil => simp [head] at hh
  | cons c r =>
    have hd1 : ∀ n k, (Except.ok (n, k) : Except Nat (Nat × Nat)) = .ok (hd.length, ps.length) → hd.length = n ∧ ps.length = k := by
      intro n k e; injection e with e; injection e with e1 e2; exact ⟨e1.symm, e2.symm⟩
    have full : ∀ n, hd.length = n → ps = [] → hd = c :: r ∧ (c :: r).length = n := by
      intro n e1 e2
      rw [e2] at hl
      have : c :: r = hd := by rw [hl]; simp
      exact ⟨this.symm, by rw [this, e1]⟩
    have front : ∀ n, hd.length = 1 + n → hd = c :: r.take n := by
      intro n e1
      have : hd = (c :: r).take hd.length := by rw [hl, List.take_append_of_le_length (Nat.le_refl _), List.take_length]
      rw [this, e1, Nat.add_comm, List.take_succ_cons]
    simp only [head] at hh
    by_cases h1 : c = 100
    · rw [if_pos h1] at hh
      by_cases h2 : (readText r 1024).2.2 ≠ 0
      · rw [if_pos h2] at hh; cases hh
      · rw [if_neg h2] at hh
        obtain ⟨e1, e2⟩ := hd1 _ _ hh
        have e3 := List.eq_nil_of_length_eq_zero e2
        obtain ⟨e4, e5⟩ := full _ e1 e3
        have e6 : r.length = (readText r 1024).2.1 := by simp at e5; omega
        obtain ⟨c1, c2⟩ := canon_text r 1024 (by omega)
        rw [← e6, List.take_length] at c1
        refine .data (readText r 1024).1 ?_ c2 ?_ ⟨(readText r 1024).2.1, ?_⟩
        · rw [h1]; congr 1
        · rw [hT, e3, e4]
        · have : (readText r 1024).2.2 = 0 := by omega
          show readText r 1024 = _
          rw [← this]
    · rw [if_neg h1] at hh
      by_cases h3 : c = 97
      · rw [if_pos h3] at hh
        by_cases h2 : (readText r 32).2.2 ≠ 0
        · rw [if_pos h2] at hh; cases hh
        · rw [if_neg h2] at hh
          by_cases h4 : nameOk (readText r 32).1 = false
          · rw [if_pos h4] at hh; cases hh
          · rw [if_neg h4] at hh
            obtain ⟨e1, e2⟩ := hd1 _ _ hh
            have e3 := List.eq_nil_of_length_eq_zero e2
            obtain ⟨e4, e5⟩ := full _ e1 e3
            have e6 : r.length = (readText r 32).2.1 := by simp at e5; omega
            obtain ⟨c1, c2⟩ := canon_text r 32 (by omega)
            rw [← e6, List.take_length] at c1
            refine .atom (readText r 32).1 ?_ c2 (by simpa using h4) ?_ ⟨(readText r 32).2.1, ?_⟩
            · rw [h3]; congr 1
            · rw [hT, e3, e4]
            · have : (readText r 32).2.2 = 0 := by omega
              show readText r 1024 = _
              rw [text_most (m := 32) (by omega) this, ← this]
      · rw [if_neg h3] at hh
        by_cases h5 : c = 114
        · rw [if_pos h5] at hh
          by_cases h2 : (readNum r).2.2 ≠ 0
          · rw [if_pos h2] at hh; cases hh
          · rw [if_neg h2] at hh
            by_cases h4 : 32 < (readNum r).1
            · rw [if_pos h4] at hh; cases hh
            · rw [if_neg h4] at hh
              obtain ⟨e1, e2⟩ := hd1 _ _ hh
              have e3 := front _ e1
              rw [canon_num r (by omega), ← e2, h5] at e3
              refine .row ps (by omega) ?_ ?_ hp
              · rw [hl, e3]
              · rw [hT, e3]
        · rw [if_neg h5] at hh
          by_cases h6 : c = 104
          · rw [if_pos h6] at hh
            obtain ⟨e1, e2⟩ := hd1 _ _ hh
            have e3 := front 0 e1
            rw [List.take_zero, h6] at e3
            obtain ⟨p, rfl⟩ := List.length_eq_one_iff.1 e2
            refine .hash p ?_ (by rw [hT, e3]) (hp p (by simp)).1 (hp p (by simp)).2
            rw [hl, e3]; simp
          · rw [if_neg h6] at hh
            by_cases h7 : c = 109
            · rw [if_pos h7] at hh
              obtain ⟨e1, e2⟩ := hd1 _ _ hh
              have e3 := front 0 e1
              rw [List.take_zero, h7] at e3
              match ps, e2 with
              | [p, q], _ =>
                refine .mac p q ?_ (by rw [hT, e3]) (hp p (by simp)).1 (hp p (by simp)).2 (hp q (by simp)).1 (hp q (by simp)).2
                rw [hl, e3]; simp
            · rw [if_neg h7] at hh
              by_cases h8 : c = 115
              · rw [if_pos h8] at hh
                obtain ⟨e1, e2⟩ := hd1 _ _ hh
                have e3 := front 0 e1
                rw [List.take_zero, h8] at e3
                match ps, e2 with
                | [p, q, s], _ =>
                  refine .sealed p q s ?_ (by rw [hT, e3]) (hp p (by simp)).1 (hp p (by simp)).2 (hp q (by simp)).1 (hp q (by simp)).2 (hp s (by simp)).1 (hp s (by simp)).2
                  rw [hl, e3]; simp
              · rw [if_neg h8] at hh; cases hh
/-- the head of a row's letters -/
theorem head_row (n : Nat) (hn : n ≤ 247) (r : List UInt8) : head ((114 :: encNum n) ++ r) = if 32 < n then .error 5 else .ok ((114 :: encNum n).length, n) := by
  have e : encNum n = [n.toUInt8] := by unfold encNum; rw [if_pos hn]
  have e2 : n.toUInt8.toNat = n := by simp [Nat.toUInt8]; omega
  have hr : readNum (n.toUInt8 :: r) = (n, 1, 0) := by
    simp only [readNum]
    rw [e2, if_pos hn]
  rw [e]
  simp only [List.cons_append, List.nil_append, head]
  rw [if_neg (by decide), if_neg (by decide), if_pos (by decide), hr]
  simp
def dataOf (x : List UInt8) : List UInt8 × Nat := if 1024 < x.length then ([], 5) else (100 :: (encNum x.length ++ x), 0)
def atomOf (x : List UInt8) : List UInt8 × Nat := if 32 < x.length then ([], 5) else if nameOk x then (97 :: (encNum x.length ++ x), 0) else ([], 7)
def rowOf (ts : List (List UInt8)) : List UInt8 × Nat := made (114 :: encNum ts.length) ts
end Go.Proofs.Ytpajocjepahobaa.Pl
