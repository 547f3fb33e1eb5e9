/- Plain terms (layer 6): how bytes are read as a term, as a tree; no program in sight. -/
import Derived.Test.YtpajocjepahobaaA0
namespace Go.Proofs.Ytpajocjepahobaa.Pl

/-- what ReadText answers: text, length, error -/
def readText (l : List UInt8) (most : Nat) : List UInt8 × Nat × Nat :=
  if (readNum l).2.2 ≠ 0 then ([], 0, (readNum l).2.2)
  else if most < (readNum l).1 then ([], 0, 5)
  else if l.length - (readNum l).2.1 < (readNum l).1 then ([], 0, 6)
  else ((l.drop (readNum l).2.1).take (readNum l).1, (readNum l).2.1 + (readNum l).1, 0)

def nameByte (c : UInt8) : Bool := 97 ≤ c && c ≤ 122 || 48 ≤ c && c ≤ 57 || c == 47 || c == 46 || c == 45
def nameOk (l : List UInt8) : Bool := l.all nameByte && !l.isEmpty

/-- how many bytes stand ahead of a term's parts, and how many parts; or the error's number -/
def head : List UInt8 → Except Nat (Nat × Nat)
  | [] => .error 6
  | c :: r =>
    if c = 100 then (if (readText r 1024).2.2 ≠ 0 then .error (readText r 1024).2.2 else .ok (1 + (readText r 1024).2.1, 0))
    else if c = 97 then
      (if (readText r 32).2.2 ≠ 0 then .error (readText r 32).2.2 else if nameOk (readText r 32).1 = false then .error 7 else .ok (1 + (readText r 32).2.1, 0))
    else if c = 114 then
      (if (readNum r).2.2 ≠ 0 then .error (readNum r).2.2 else if 32 < (readNum r).1 then .error 5 else .ok (1 + (readNum r).2.1, (readNum r).1))
    else if c = 104 then .ok (1, 1)
    else if c = 109 then .ok (1, 2)
    else if c = 115 then .ok (1, 3)
    else .error 7

inductive Tm where
  | node (front : List UInt8) (parts : List Tm)

mutual
def enc : Tm → List UInt8
  | .node h ps => h ++ encs ps
def encs : List Tm → List UInt8
  | [] => []
  | t :: r => enc t ++ encs r
end

/-- so many terms, one behind the other -/
def many (g : List UInt8 → Except Nat (Tm × List UInt8)) : Nat → List UInt8 → Except Nat (List Tm × List UInt8)
  | 0, l => .ok ([], l)
  | k + 1, l => match g l with
    | .error e => .error e
    | .ok (t, r) => match many g k r with
      | .error e => .error e
      | .ok (ts, r') => .ok (t :: ts, r')
/-- the term at the front, with so many depths left -/
def parse : Nat → List UInt8 → Except Nat (Tm × List UInt8)
  | 0, _ => .error 60
  | f + 1, l => match head l with
    | .error e => .error e
    | .ok (n, k) => match many (parse f) k (l.drop n) with
      | .error e => .error e
      | .ok (ps, r) => .ok (.node (l.take n) ps, r)

/-- what Read answers: length, error -/
def readTerm (l : List UInt8) : Nat × Nat :=
  match parse 16 l with
  | .error e => (0, e)
  | .ok (t, _) => if 16384 < (enc t).length then (0, 5) else ((enc t).length, 0)

structure Pos where
  (fr to dep : Nat)
mutual
/-- the places of a term that begins at a byte, so deep, by their ends -/
def posts : Tm → Nat → Nat → List Pos
  | .node h ps, a, d => postss ps (a + h.length) (d + 1) ++ [⟨a, a + (enc (.node h ps)).length, d⟩]
def postss : List Tm → Nat → Nat → List Pos
  | [], _, _ => []
  | t :: r, a, d => posts t a d ++ postss r (a + (enc t).length) d
end

theorem readNum_len (l : List UInt8) (h : (readNum l).2.2 = 0) : 1 ≤ (readNum l).2.1 ∧ (readNum l).2.1 ≤ l.length := by
  cases l with
  | nil => simp [readNum] at h
  | cons c r =>
    revert h
    simp only [readNum]
    split
    · intro _; simp
    · split
      · intro h; simp at h
      · split
        · intro h; simp at h
        · intro _; simp; omega
theorem readNum_val_aux (B : Nat) (h8 : ∀ l : List UInt8, l.length ≤ 8 → num l < B) (h1 : 256 ≤ B) (l : List UInt8) : (readNum l).1 < B := by
  cases l with
  | nil => show 0 < B; omega
  | cons c r =>
    simp only [readNum]
    have hc := c.toNat_lt
    split
    · show c.toNat < B; omega
    · split
      · show 0 < B; omega
      · split
        · show 0 < B; omega
        · have := h8 (r.take (c.toNat - 247)) (by rw [List.length_take]; omega)
          simpa using this
theorem readNum_val (l : List UInt8) : (readNum l).1 < 256 ^ 8 :=
  readNum_val_aux _ (fun l h => Nat.lt_of_lt_of_le (num_lt l) (Nat.pow_le_pow_right (by decide) h)) (by have h := Nat.pow_le_pow_right (n := 256) (by decide) (show 1 ≤ 8 by decide); rwa [Nat.pow_one] at h) l
theorem readNum_n (l : List UInt8) : (readNum l).2.1 ≤ 9 ∧ (readNum l).2.2 ≤ 7 := by
  cases l with
  | nil => simp [readNum]
  | cons c r =>
    simp only [readNum]
    have hc := c.toNat_lt
    split
    · simp
    · split
      · simp
      · split
        · simp
        · simp; omega
theorem readText_len (l : List UInt8) (m : Nat) (h : (readText l m).2.2 = 0) : 1 ≤ (readText l m).2.1 ∧ (readText l m).2.1 ≤ l.length ∧ (readText l m).1.length ≤ m ∧ (readText l m).1.length < (readText l m).2.1 := by
  revert h
  unfold readText
  split
  · rename_i h; intro h2; exact absurd h2 h
  · rename_i h
    have := readNum_len l (by simpa using h)
    split
    · intro h; simp at h
    · split
      · intro h; simp at h
      · intro _; simp; omega
theorem readText_n (l : List UInt8) (m : Nat) : (readText l m).2.1 ≤ 9 + m ∧ (readText l m).2.2 ≤ 7 := by
  have := readNum_n l
  unfold readText
  split
  · simp; omega
  · split
    · simp
    · split
      · simp
      · simp; omega
theorem head_len {l : List UInt8} {n k : Nat} (h : head l = .ok (n, k)) : 1 ≤ n ∧ n ≤ l.length ∧ k ≤ 32 := by
  cases l with
  | nil => simp [head] at h
  | cons c r =>
    revert h
    simp only [head]
    repeat' split
    all_goals intro h
    all_goals (first | (cases h; done) | (injection h with h; injection h with h1 h2; subst h1; subst h2))
    · have := readText_len r 1024 (by simpa using ‹¬ _ ≠ _›); simp; omega
    · have := readText_len r 32 (by simpa using ‹¬ (readText r 32).2.2 ≠ 0›); simp; omega
    · have := readNum_len r (by simpa using ‹¬ (readNum r).2.2 ≠ 0›); simp; omega
    all_goals simp
theorem many_sound {g : List UInt8 → Except Nat (Tm × List UInt8)} (hg : ∀ l t r, g l = .ok (t, r) → l = enc t ++ r) : ∀ k l ts r, many g k l = .ok (ts, r) → l = encs ts ++ r ∧ ts.length = k := by
  intro k
  induction k with
  | zero =>
    intro l ts r h
    simp only [many] at h
    injection h with h; injection h with h1 h2; subst h1; subst h2
    exact ⟨by simp [encs], rfl⟩
  | succ k ih =>
    intro l ts r h
    simp only [many] at h
    split at h
    · cases h
    · rename_i t r' hgl
      split at h
      · cases h
      · rename_i ts' r'' hm
        injection h with h; injection h with h1 h2; subst h1; subst h2
        obtain ⟨e, el⟩ := ih _ _ _ hm
        exact ⟨by rw [hg _ _ _ hgl, e]; simp [encs], by simp [el]⟩
theorem many_snoc (g : List UInt8 → Except Nat (Tm × List UInt8)) : ∀ k l, many g (k + 1) l = (match many g k l with
    | .error e => .error e
    | .ok (ts, r) => match g r with
      | .error e => .error e
      | .ok (t, r') => .ok (ts ++ [t], r')) := by
  intro k
  induction k with
  | zero =>
    intro l
    simp only [many]
    cases g l <;> simp
  | succ k ih =>
    intro l
    have e0 : many g (k + 1 + 1) l = (match g l with | .error e => .error e | .ok (t, r) => match many g (k + 1) r with | .error e => .error e | .ok (ts, r') => .ok (t :: ts, r')) := by rw [many]
    have e1 : many g (k + 1) l = (match g l with | .error e => .error e | .ok (t, r) => match many g k r with | .error e => .error e | .ok (ts, r') => .ok (t :: ts, r')) := by rw [many]
    rw [e0, e1]
    cases h : g l with
    | error e => rfl
    | ok p =>
      obtain ⟨t, r⟩ := p
      simp only
      rw [ih r]
      cases many g k r with
      | error e => rfl
      | ok q =>
        obtain ⟨ts, r'⟩ := q
        simp only
        cases g r' with
        | error e => rfl
        | ok z => rfl
/-- an error on the way is the end's error -/
theorem many_err (g : List UInt8 → Except Nat (Tm × List UInt8)) (e : Nat) : ∀ j k l, j ≤ k → many g j l = .error e → many g k l = .error e := by
  intro j
  induction j with
  | zero => intro k l _ h; simp [many] at h
  | succ j ih =>
    intro k l hk h
    obtain ⟨k, rfl⟩ : ∃ k', k = k' + 1 := ⟨k - 1, by omega⟩
    simp only [many] at h ⊢
    cases hg : g l with
    | error e' => simp only [hg] at h; exact h
    | ok p =>
      obtain ⟨t, r⟩ := p
      simp only [hg] at h ⊢
      cases hm : many g j r with
      | error e' =>
        simp only [hm] at h
        injection h with h; subst h
        rw [ih k r (by omega) hm]
      | ok q =>
        obtain ⟨ts, r'⟩ := q
        simp only [hm] at h
        cases h
theorem encs_append (a b : List Tm) : encs (a ++ b) = encs a ++ encs b := by
  induction a with
  | nil => simp [encs]
  | cons t r ih => simp [encs, ih]
theorem postss_append (x y : List Tm) (a d : Nat) : postss (x ++ y) a d = postss x a d ++ postss y (a + (encs x).length) d := by
  induction x generalizing a with
  | nil => simp [postss, encs]
  | cons t r ih => simp [postss, encs, ih, Nat.add_assoc]
theorem parse_sound : ∀ f l t r, parse f l = .ok (t, r) → l = enc t ++ r := by
  intro f
  induction f with
  | zero => intro l t r h; simp [parse] at h
  | succ f ih =>
    intro l t r h
    simp only [parse] at h
    split at h
    · cases h
    · rename_i n k hh
      split at h
      · cases h
      · rename_i ps r' hm
        injection h with h; injection h with h1 h2; subst h1; subst h2
        have := (many_sound ih _ _ _ _ hm).1
        rw [enc, List.append_assoc, ← this, List.take_append_drop]
end Go.Proofs.Ytpajocjepahobaa.Pl
