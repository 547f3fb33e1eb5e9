import Derived.Test.YtpajocjepahobaaUn3
namespace Go.Proofs.Ytpajocjepahobaa.Pl
/-- a plain character of one byte, of two -/
def one (c : UInt8) : Bool := decide (32 ≤ c.toNat) && decide (c.toNat ≤ 126) && !decide (c.toNat = 34)
def code2 (c d : UInt8) : Nat := (c.toNat % 32) * 64 + d.toNat % 64
def two (c d : UInt8) : Bool := decide (c.toNat / 32 = 6) && decide (d.toNat / 64 = 2) && (decide (0xa1 ≤ code2 c d) && decide (code2 c d ≤ 0x2af) || decide (0x370 ≤ code2 c d) && decide (code2 c d ≤ 0x4ff))
/-- how many bytes the first characters have that are plain -/
def wh : List UInt8 → Nat
  | [] => 0
  | [c] => if one c then 1 else 0
  | c :: d :: r => if one c then 1 + wh (d :: r) else if two c d then 2 + wh r else 0
def pln : List UInt8 → Bool
  | [] => true
  | [c] => one c
  | c :: d :: r => if one c then pln (d :: r) else two c d && pln r
theorem two_ge {c d : UInt8} (h : two c d = true) : 128 ≤ c.toNat ∧ 128 ≤ d.toNat := by
  unfold two at h
  simp only [Bool.and_eq_true, decide_eq_true_eq] at h
  omega
theorem wh_le : ∀ l : List UInt8, wh l ≤ l.length
  | [] => by simp [wh]
  | [c] => by unfold wh; split <;> simp
  | c :: d :: r => by
    have h1 := wh_le (d :: r)
    have h2 := wh_le r
    unfold wh
    simp only [List.length_cons] at h1 ⊢
    split
    · omega
    · split <;> omega
theorem wh_pln : ∀ l : List UInt8, pln (l.take (wh l)) = true
  | [] => by simp [wh, pln]
  | [c] => by
    unfold wh; by_cases h : one c = true
    · rw [if_pos h]; simp [pln, h]
    · rw [if_neg h]; simp [pln]
  | c :: d :: r => by
    have h1 := wh_pln (d :: r)
    have h2 := wh_pln r
    unfold wh
    by_cases h : one c = true
    · rw [if_pos h, Nat.add_comm, List.take_succ_cons]
      cases hq : (d :: r).take (wh (d :: r)) with
      | nil => simp [pln, h]
      | cons x y => rw [hq] at h1; simp only [pln, h, if_true]; exact h1
    · rw [if_neg h]
      by_cases h3 : two c d = true
      · rw [if_pos h3, Nat.add_comm, List.take_succ_cons, List.take_succ_cons]
        simp only [pln, if_neg h, h3, Bool.true_and]; exact h2
      · rw [if_neg h3]; simp [pln]
theorem wh_append : ∀ (x y : List UInt8), pln x = true → wh (x ++ y) = x.length + wh y
  | [], y, _ => by simp
  | [c], y, h => by
    have h' : one c = true := h
    cases y with
    | nil => simp [wh, h']
    | cons d r => simp only [List.cons_append, List.nil_append, wh, h', if_true]; rfl
  | c :: d :: r, y, h => by
    have h1 := wh_append (d :: r) y
    have h2 := wh_append r y
    simp only [pln] at h
    simp only [List.cons_append, List.length_cons] at h1 ⊢
    by_cases hc : one c = true
    · rw [if_pos hc] at h
      simp only [wh, if_pos hc]
      rw [h1 h]; omega
    · rw [if_neg hc, Bool.and_eq_true] at h
      simp only [wh, if_neg hc, if_pos h.1]
      rw [h2 h.2]; omega
theorem pln_wh (l : List UInt8) : pln l = true ↔ wh l = l.length := by
  constructor
  · intro h; have := wh_append l [] h; simpa [wh] using this
  · intro h; have := wh_pln l; rwa [h, List.take_length] at this
theorem wh_quote (r : List UInt8) : wh (34 :: r) = 0 := by
  cases r with
  | nil => rfl
  | cons d r =>
    unfold wh
    rw [if_neg (by decide), if_neg]
    intro h
    have := (two_ge h).1
    revert this; decide
def hexD (n : Nat) : UInt8 := if n < 10 then (48 + n).toUInt8 else (87 + n).toUInt8
def isHex (c : UInt8) : Bool := decide (48 ≤ c.toNat) && decide (c.toNat ≤ 57) || decide (97 ≤ c.toNat) && decide (c.toNat ≤ 102)
def hexV (c : UInt8) : Nat := if c.toNat < 97 then c.toNat - 48 else c.toNat - 87
def hexs : List UInt8 → List UInt8
  | [] => []
  | c :: r => hexD (c.toNat / 16) :: hexD (c.toNat % 16) :: hexs r
/-- the bytes that digits say, two by two -/
def unhex : List UInt8 → List UInt8
  | a :: b :: r => (hexV a * 16 + hexV b).toUInt8 :: unhex r
  | _ => []
theorem hexD_is (n : Nat) (h : n < 16) : isHex (hexD n) = true ∧ hexV (hexD n) = n := by
  have : ∀ m : Fin 16, isHex (hexD m.1) = true ∧ hexV (hexD m.1) = m.1 := by decide
  exact this ⟨n, h⟩
theorem hexV_is (c : UInt8) (h : isHex c = true) : hexV c < 16 ∧ hexD (hexV c) = c := by
  have key : (List.range 256).all (fun n => !isHex (UInt8.ofNat n) || (decide (hexV (UInt8.ofNat n) < 16) && decide (hexD (hexV (UInt8.ofNat n)) = UInt8.ofNat n))) = true := by decide +kernel
  have := List.all_eq_true.1 key c.toNat (by simpa using c.toNat_lt)
  simp only [UInt8.ofNat_toNat, h, Bool.not_true, Bool.false_or, Bool.and_eq_true, decide_eq_true_eq] at this
  exact this
theorem hexs_len : ∀ l : List UInt8, (hexs l).length = 2 * l.length
  | [] => rfl
  | c :: r => by simp only [hexs, List.length_cons, hexs_len r]; omega
theorem hexs_all : ∀ l : List UInt8, (hexs l).all isHex = true
  | [] => rfl
  | c :: r => by
    have h := c.toNat_lt
    simp only [hexs, List.all_cons, hexs_all r, (hexD_is (c.toNat / 16) (by omega)).1, (hexD_is (c.toNat % 16) (by omega)).1, Bool.and_true]
theorem unhex_hexs : ∀ l : List UInt8, unhex (hexs l) = l
  | [] => rfl
  | c :: r => by
    have h := c.toNat_lt
    simp only [hexs, unhex, unhex_hexs r, (hexD_is (c.toNat / 16) (by omega)).2, (hexD_is (c.toNat % 16) (by omega)).2]
    rw [show c.toNat / 16 * 16 + c.toNat % 16 = c.toNat by omega, toUInt8_of]
theorem hexs_unhex : ∀ l : List UInt8, l.length % 2 = 0 → l.all isHex = true → hexs (unhex l) = l
  | [], _, _ => rfl
  | [a], h, _ => by simp at h
  | a :: b :: r, h, hh => by
    simp only [List.all_cons, Bool.and_eq_true] at hh
    have ih := hexs_unhex r (by simp only [List.length_cons] at h; omega) hh.2.2
    obtain ⟨a1, a2⟩ := hexV_is a hh.1
    obtain ⟨b1, b2⟩ := hexV_is b hh.2.1
    have e : ((hexV a * 16 + hexV b).toUInt8).toNat = hexV a * 16 + hexV b := by
      simp [Nat.toUInt8]; omega
    simp only [unhex, hexs, e, ih]
    rw [show (hexV a * 16 + hexV b) / 16 = hexV a by omega, show (hexV a * 16 + hexV b) % 16 = hexV b by omega, a2, b2]
/-- how many of the first bytes are so -/
def run (P : UInt8 → Bool) : List UInt8 → Nat
  | [] => 0
  | c :: r => if P c then run P r + 1 else 0
theorem run_le (P : UInt8 → Bool) : ∀ l, run P l ≤ l.length
  | [] => by simp [run]
  | c :: r => by have := run_le P r; unfold run; split <;> simp <;> omega
theorem run_append (P : UInt8 → Bool) : ∀ x y : List UInt8, x.all P = true → run P (x ++ y) = x.length + run P y
  | [], y, _ => by simp
  | c :: r, y, h => by
    simp only [List.all_cons, Bool.and_eq_true] at h
    simp only [List.cons_append, run, if_pos h.1, run_append P r y h.2, List.length_cons]; omega
theorem run_all (P : UInt8 → Bool) : ∀ l : List UInt8, (l.take (run P l)).all P = true
  | [] => rfl
  | c :: r => by
    unfold run
    by_cases h : P c = true
    · rw [if_pos h, List.take_succ_cons, List.all_cons, h, run_all P r]; rfl
    · rw [if_neg h]; rfl
theorem run_stop (P : UInt8 → Bool) (r : List UInt8) (h : ∀ c, r.head? = some c → P c = false) : run P r = 0 := by
  cases r with
  | nil => rfl
  | cons c r => unfold run; rw [h c rfl]; rfl
def datumLine (x : List UInt8) : List UInt8 := if pln x then 34 :: (x ++ [34]) else 120 :: hexs x
def join : List (List UInt8) → List UInt8
  | [] => []
  | [x] => x
  | x :: y :: r => x ++ 44 :: 32 :: join (y :: r)
/-- a term's line, so deep -/
def lineT : Nat → Tm → List UInt8
  | 0, _ => [46, 46]
  | d + 1, .node h ps => match h with
    | [] => []
    | c :: r =>
      if c = 100 then datumLine (readText r 1024).1
      else if c = 97 then 36 :: (readText r 1024).1
      else if c = 114 then 91 :: (join (ps.map (lineT d)) ++ [93])
      else c :: 40 :: (join (ps.map (lineT d)) ++ [41])
def ok (x : List UInt8 × Nat) : Option (List UInt8) := if x.2 = 0 then some x.1 else none
/-- terms up to a sign, so many at most -/
def pParts (g : List UInt8 → Option (List UInt8 × List UInt8)) (e : UInt8) : Nat → Bool → List UInt8 → Option (List (List UInt8) × List UInt8)
  | k, first, s =>
    if s.head? = some e then some ([], s.drop 1)
    else match k with
      | 0 => none
      | k + 1 =>
        if first = false ∧ s.take 2 ≠ [44, 32] then none
        else match g (if first then s else s.drop 2) with
          | none => none
          | some (t, s') => match pParts g e k false s' with
            | none => none
            | some (l, s'') => some (t :: l, s'')
def kindOf (c : UInt8) (l : List (List UInt8)) : Option (List UInt8) :=
  if c = 104 ∧ l.length = 1 then ok (made [104] l)
  else if c = 109 ∧ l.length = 2 then ok (made [109] l)
  else if c = 115 ∧ l.length = 3 then ok (made [115] l)
  else none
/-- the term that comes, with so many depths left; and what stands behind it -/
def pTerm : Nat → List UInt8 → Option (List UInt8 × List UInt8)
  | 0, _ => none
  | d + 1, s => match s with
    | [] => none
    | c :: r =>
      if c = 36 then (ok (atomOf (r.take (run nameByte r)))).map fun t => (t, r.drop (run nameByte r))
      else if c = 120 then
        (if (run isHex r) % 2 ≠ 0 then none
         else if pln (unhex (r.take (run isHex r))) then none
         else (ok (dataOf (unhex (r.take (run isHex r))))).map fun t => (t, r.drop (run isHex r)))
      else if c = 34 then
        (if (r.drop (wh r)).head? ≠ some 34 then none
         else (ok (dataOf (r.take (wh r)))).map fun t => (t, r.drop (wh r + 1)))
      else if c = 91 then (match pParts (pTerm d) 93 32 true r with
        | none => none
        | some (l, s') => (ok (rowOf l)).map fun t => (t, s'))
      else if r.head? ≠ some 40 then none
      else (match pParts (pTerm d) 41 32 true (r.drop 1) with
        | none => none
        | some (l, s') => (kindOf c l).map fun t => (t, s'))
/-- what Parse answers -/
def parseLine (s : List UInt8) : List UInt8 × Nat := match pTerm 16 s with
  | some (t, []) => (t, 0)
  | _ => ([], 7)
end Go.Proofs.Ytpajocjepahobaa.Pl
namespace Go.Proofs.Ytpajocjepahobaa.Pl
theorem readNum_enc (n : Nat) (hn : n < 256 ^ 8) (r : List UInt8) : readNum (encNum n ++ r) = (n, (encNum n).length, 0) := by
  unfold encNum
  by_cases h : n ≤ 247
  · rw [if_pos h]
    have e2 : n.toUInt8.toNat = n := by simp [Nat.toUInt8]; omega
    simp only [List.cons_append, List.nil_append, readNum]
    rw [e2, if_pos h]
    rfl
  · rw [if_neg h]
    have hl := digits_len 8 n hn
    have hne : digits n ≠ [] := by
      intro e
      have := num_digits n
      rw [e] at this; simp [num] at this; omega
    have hp : 0 < (digits n).length := List.length_pos_iff.2 hne
    have e2 : (247 + (digits n).length).toUInt8.toNat = 247 + (digits n).length := by simp [Nat.toUInt8]; omega
    simp only [List.cons_append, readNum]
    rw [e2, if_neg (by omega), if_neg (by rw [List.length_append]; omega), show 247 + (digits n).length - 247 = (digits n).length by omega, List.take_append_of_le_length (Nat.le_refl _), List.take_length, num_digits, if_neg]
    · simp
    · rintro (h1 | h1)
      · have := digits_head n
        cases hd : digits n with
        | nil => exact hne hd
        | cons a t => rw [hd] at h1 this; exact this (by simpa using h1)
      · exact h h1
theorem readText_enc (x r : List UInt8) (m : Nat) (hm : m ≤ 1024) (hx : x.length ≤ m) : readText (encNum x.length ++ x ++ r) m = (x, (encNum x.length).length + x.length, 0) := by
  have hb : 1024 < 256 ^ 8 := by have h := Nat.pow_le_pow_right (n := 256) (by decide) (show 2 ≤ 8 by decide); exact Nat.lt_of_lt_of_le (by decide) h
  have hr := readNum_enc x.length (by omega) (x ++ r)
  rw [List.append_assoc]
  unfold readText
  rw [hr]
  simp only
  rw [if_neg (by omega), if_neg (by omega), if_neg (by simp only [List.length_append]; omega)]
  congr 1
  rw [List.drop_append_of_le_length (Nat.le_refl _), List.drop_length, List.nil_append, List.take_append_of_le_length (Nat.le_refl _), List.take_length]
theorem encNum_le (n : Nat) (hn : n ≤ 1024) : (encNum n).length ≤ 9 := by
  unfold encNum
  have hb : 1024 < 256 ^ 8 := by have h := Nat.pow_le_pow_right (n := 256) (by decide) (show 2 ≤ 8 by decide); exact Nat.lt_of_lt_of_le (by decide) h
  have := digits_len 8 n (by omega)
  split
  · simp
  · simp; omega
theorem data_term (x : List UInt8) (hx : x.length ≤ 1024) : isTm (100 :: (encNum x.length ++ x)) = true ∧ tree (100 :: (encNum x.length ++ x)) = .node (100 :: (encNum x.length ++ x)) [] := by
  have he := encNum_le x.length hx
  have hg : Good 16 (.node (100 :: (encNum x.length ++ x)) []) := by
    refine ⟨fun r => ?_, by simp⟩
    simp only [List.cons_append, head]
    rw [if_pos trivial, readText_enc x r 1024 (by omega) hx]
    simp
    omega
  have := good_isTm hg (by simp [enc, encs]; omega)
  simpa [enc, encs] using this
theorem atom_term (x : List UInt8) (hx : x.length ≤ 32) (hn : nameOk x = true) : isTm (97 :: (encNum x.length ++ x)) = true ∧ tree (97 :: (encNum x.length ++ x)) = .node (97 :: (encNum x.length ++ x)) [] := by
  have he := encNum_le x.length (by omega)
  have hg : Good 16 (.node (97 :: (encNum x.length ++ x)) []) := by
    refine ⟨fun r => ?_, by simp⟩
    simp only [List.cons_append, head]
    rw [if_neg (by decide), if_pos trivial, readText_enc x r 32 (by omega) hx]
    simp [hn]
    omega
  have := good_isTm hg (by simp [enc, encs]; omega)
  simpa [enc, encs] using this
theorem read_data (x : List UInt8) (hx : x.length ≤ 1024) : (readText (encNum x.length ++ x) 1024).1 = x := by
  have := readText_enc x [] 1024 (by omega) hx
  rw [List.append_nil] at this
  rw [this]
/-- what may stand behind a term in a line -/
def Stop (r : List UInt8) : Prop := ∀ c, r.head? = some c → c = 44 ∨ c = 41 ∨ c = 93
theorem Stop.name {r : List UInt8} (h : Stop r) : run nameByte r = 0 := run_stop _ _ fun c hc => by rcases h c hc with rfl | rfl | rfl <;> decide
theorem Stop.hex {r : List UInt8} (h : Stop r) : run isHex r = 0 := run_stop _ _ fun c hc => by rcases h c hc with rfl | rfl | rfl <;> decide
theorem join_cons (x : List UInt8) (l : List (List UInt8)) : join (x :: l) = x ++ (l.map fun y => 44 :: 32 :: y).flatten := by
  induction l generalizing x with
  | nil => simp [join]
  | cons y r ih => simp [join, ih]
section
variable {g : List UInt8 → Option (List UInt8 × List UInt8)} {e : UInt8}
theorem pParts_rest (he : e = 41 ∨ e = 93) : ∀ (l : List (List UInt8 × List UInt8)) (k : Nat) (r : List UInt8), l.length ≤ k → (∀ p ∈ l, ∀ r, Stop r → g (p.2 ++ r) = some (p.1, r)) →
    pParts g e k false ((l.map fun p => 44 :: 32 :: p.2).flatten ++ e :: r) = some (l.map (·.1), r)
  | [], k, r, _, _ => by
    unfold pParts
    simp
  | p :: l, 0, r, h, _ => by simp at h
  | p :: l, k + 1, r, h, hg => by
    have hne : (44 : UInt8) ≠ e := by rcases he with rfl | rfl <;> decide
    have hst : Stop ((l.map fun p => 44 :: 32 :: p.2).flatten ++ e :: r) := by
      cases l with
      | nil => intro c hc; simp at hc; subst hc; rcases he with rfl | rfl <;> simp
      | cons q l => intro c hc; simp at hc; subst hc; simp
    have ih := pParts_rest he l k r (by simpa using h) (fun q hq => hg q (List.mem_cons_of_mem _ hq))
    have h1 := hg p (by simp) _ hst
    rw [pParts]
    simp only [List.map_cons, List.flatten_cons, List.cons_append, List.append_assoc, List.head?_cons, Option.some.injEq]
    rw [if_neg hne]
    simp only [List.take_succ_cons, List.take_zero, ne_eq, not_true_eq_false, and_false, if_false, Bool.false_eq_true, List.drop_succ_cons, List.drop_zero]
    rw [h1]
    simp only
    rw [ih]
theorem pParts_all (he : e = 41 ∨ e = 93) (l : List (List UInt8 × List UInt8)) (k : Nat) (r : List UInt8) (hl : l.length ≤ k) (hg : ∀ p ∈ l, ∀ r, Stop r → g (p.2 ++ r) = some (p.1, r)) (hh : ∀ p ∈ l, ∃ c t, p.2 = c :: t ∧ c ≠ e) :
    pParts g e k true (join (l.map (·.2)) ++ e :: r) = some (l.map (·.1), r) := by
  cases l with
  | nil => unfold pParts; simp [join]
  | cons p l =>
    cases k with
    | zero => simp at hl
    | succ k =>
      obtain ⟨c, t, hc, hne⟩ := hh p (by simp)
      have hst : Stop ((l.map fun p => 44 :: 32 :: p.2).flatten ++ e :: r) := by
        cases l with
        | nil => intro c hc; simp at hc; subst hc; rcases he with rfl | rfl <;> simp
        | cons q l => intro c hc; simp at hc; subst hc; simp
      have ih := pParts_rest (g := g) he l k r (by simpa using hl) (fun q hq => hg q (List.mem_cons_of_mem _ hq))
      have h1 := hg p (by simp) _ hst
      have e1 : join ((p :: l).map (·.2)) ++ e :: r = p.2 ++ ((l.map fun p => 44 :: 32 :: p.2).flatten ++ e :: r) := by
        rw [List.map_cons, join_cons, List.map_map]
        simp [Function.comp_def]
      rw [e1, pParts]
      have e2 : (p.2 ++ ((l.map fun p => 44 :: 32 :: p.2).flatten ++ e :: r)).head? = some c := by rw [hc]; rfl
      rw [e2, if_neg (by simpa using hne)]
      simp only [Bool.true_eq_false, false_and, if_false, if_true]
      rw [h1]
      simp only
      rw [ih]
      rfl
theorem pParts_sound {line : List UInt8 → List UInt8} (hg : ∀ s t r, g s = some (t, r) → s = line t ++ r) : ∀ (k : Nat) (first : Bool) (s : List UInt8) (l : List (List UInt8)) (r : List UInt8), pParts g e k first s = some (l, r) →
    l.length ≤ k ∧ s = (if first then join (l.map line) else ((l.map line).map fun y => 44 :: 32 :: y).flatten) ++ e :: r := by
  intro k
  induction k with
  | zero =>
    intro first s l r h
    rw [pParts] at h
    split at h
    · rename_i h1
      simp only [Option.some.injEq, Prod.mk.injEq] at h
      obtain ⟨rfl, rfl⟩ := h
      cases s with
      | nil => simp at h1
      | cons c s => simp at h1; subst h1; cases first <;> simp [join]
    · cases h
  | succ k ih =>
    intro first s l r h
    rw [pParts] at h
    split at h
    · rename_i h1
      simp only [Option.some.injEq, Prod.mk.injEq] at h
      obtain ⟨rfl, rfl⟩ := h
      cases s with
      | nil => simp at h1
      | cons c s => simp at h1; subst h1; cases first <;> simp [join]
    · split at h
      · cases h
      · rename_i hq
        split at h
        · cases h
        · rename_i t s' hgs
          split at h
          · cases h
          · rename_i l' s'' hp
            simp only [Option.some.injEq, Prod.mk.injEq] at h
            obtain ⟨rfl, rfl⟩ := h
            obtain ⟨i1, i2⟩ := ih _ _ _ _ hp
            have h3 := hg _ _ _ hgs
            refine ⟨by simp; exact i1, ?_⟩
            simp only [Bool.false_eq_true, if_false] at i2
            cases first with
            | true =>
              simp only [if_true] at h3 ⊢
              rw [List.map_cons, join_cons, h3, i2]; simp
            | false =>
              simp only [Bool.false_eq_true, if_false] at h3 ⊢
              have h4 : s.take 2 = [44, 32] := by
                cases hd : decide (s.take 2 = [44, 32]) with
                | true => exact of_decide_eq_true hd
                | false => exact absurd ⟨rfl, of_decide_eq_false hd⟩ hq
              have h5 : s = [44, 32] ++ s.drop 2 := by rw [← h4, List.take_append_drop]
              rw [h5, h3, i2]; simp
end
theorem line_head {d : Nat} {t : Tm} (hg : Good d t) (hi : isTm (enc t) = true) (ht : tree (enc t) = t) : ∃ c r, lineT d t = c :: r ∧ c ≠ 41 ∧ c ≠ 93 := by
  cases d with
  | zero => exact hg.elim
  | succ d =>
    rcases isTm_form hi with ⟨x, hl, hx, hT, _⟩ | ⟨x, hl, hx, hn, hT, _⟩ | ⟨ps, hl, he, hT, hp⟩ | ⟨p, he, hT, h1, h2⟩ | ⟨p, q, he, hT, h1, h2, h3, h4⟩ | ⟨p, q, r, he, hT, h1, h2, h3, h4, h5, h6⟩
    · rw [ht] at hT; rw [hT, hl]
      simp only [lineT, if_true, datumLine]
      split
      · exact ⟨_, _, rfl, by decide, by decide⟩
      · exact ⟨_, _, rfl, by decide, by decide⟩
    · rw [ht] at hT; rw [hT, hl]
      exact ⟨_, _, rfl, by decide, by decide⟩
    · rw [ht] at hT; rw [hT]
      exact ⟨_, _, rfl, by decide, by decide⟩
    · rw [ht] at hT; rw [hT]
      exact ⟨_, _, rfl, by decide, by decide⟩
    · rw [ht] at hT; rw [hT]
      exact ⟨_, _, rfl, by decide, by decide⟩
    · rw [ht] at hT; rw [hT]
      exact ⟨_, _, rfl, by decide, by decide⟩
theorem ok_made {b : List UInt8} {ts : List (List UInt8)} (h1 : ∀ t ∈ ts, isTm t = true) (h2 : isTm (b ++ ts.flatten) = true) : ok (made b ts) = some (b ++ ts.flatten) := by
  rw [made_back h1 h2]; rfl
theorem pTerm_line : ∀ (d : Nat) (t : Tm), Good d t → isTm (enc t) = true → tree (enc t) = t → ∀ r, Stop r → pTerm d (lineT d t ++ r) = some (enc t, r) := by
  intro d
  induction d with
  | zero => intro t h; exact h.elim
  | succ d ih =>
    intro t hg hi ht r hr
    have parts : ∀ (e : UInt8), (e = 41 ∨ e = 93) → ∀ ps : List Tm, (∀ p ∈ ps, isTm (enc p) = true ∧ tree (enc p) = p) → (∀ p ∈ ps, Good d p) → ps.length ≤ 32 → pParts (pTerm d) e 32 true (join (ps.map (lineT d)) ++ e :: r) = some (ps.map enc, r) := by
      intro e he ps hp hgd hl
      have := pParts_all (g := pTerm d) he (ps.map fun p => (enc p, lineT d p)) 32 r (by simpa using hl)
        (by intro q hq r hr; obtain ⟨p, hp', rfl⟩ := List.mem_map.1 hq; exact ih p (hgd p hp') (hp p hp').1 (hp p hp').2 r hr)
        (by intro q hq; obtain ⟨p, hp', rfl⟩ := List.mem_map.1 hq; obtain ⟨c, r, h1, h2, h3⟩ := line_head (hgd p hp') (hp p hp').1 (hp p hp').2; exact ⟨c, r, h1, by rcases he with rfl | rfl <;> assumption⟩)
      simpa [List.map_map, Function.comp_def] using this
    rcases isTm_form hi with ⟨x, hl, hx, hT, _⟩ | ⟨x, hl, hx, hn, hT, _⟩ | ⟨ps, hl, he, hT, hp⟩ | ⟨p, he, hT, h1, h2⟩ | ⟨p, q, he, hT, h1, h2, h3, h4⟩ | ⟨p, q, s, he, hT, h1, h2, h3, h4, h5, h6⟩
    · rw [ht] at hT
      have e1 : lineT (d + 1) t = datumLine x := by
        rw [hT, hl]; simp only [lineT, if_true, read_data x hx]
      rw [e1, hl]
      have hd : ok (dataOf x) = some (100 :: (encNum x.length ++ x)) := by unfold dataOf; rw [if_neg (by omega)]; rfl
      unfold datumLine
      by_cases hpl : pln x = true
      · rw [if_pos hpl]
        have hw : wh (x ++ 34 :: r) = x.length := by rw [wh_append x _ hpl, wh_quote]; rfl
        simp only [List.cons_append, List.append_assoc, List.nil_append, pTerm]
        rw [if_neg (by decide), if_neg (by decide), if_pos trivial, hw, List.drop_append_of_le_length (Nat.le_refl _), List.drop_length, List.nil_append, if_neg (by simp), List.take_append_of_le_length (Nat.le_refl _), List.take_length, hd]
        simp only [Option.map_some, Option.some.injEq, Prod.mk.injEq, true_and]
        rw [List.drop_append]
        simp
      · rw [if_neg hpl]
        have hw : run isHex (hexs x ++ r) = (hexs x).length := by rw [run_append _ _ _ (hexs_all x), hr.hex]; rfl
        simp only [List.cons_append, pTerm]
        rw [if_neg (by decide), if_pos trivial, hw, hexs_len, if_neg (by omega), ← hexs_len, List.take_append_of_le_length (Nat.le_refl _), List.take_length, unhex_hexs, if_neg hpl, hd, List.drop_append_of_le_length (Nat.le_refl _), List.drop_length]
        simp
    · rw [ht] at hT
      have e1 : lineT (d + 1) t = 36 :: x := by
        rw [hT, hl]; simp only [lineT]; rw [if_neg (by decide), if_pos trivial, read_data x (by omega)]
      have hd : ok (atomOf x) = some (97 :: (encNum x.length ++ x)) := by unfold atomOf; rw [if_neg (by omega), if_pos hn]; rfl
      have ha : x.all nameByte = true := by unfold nameOk at hn; rw [Bool.and_eq_true] at hn; exact hn.1
      have hw : run nameByte (x ++ r) = x.length := by rw [run_append _ _ _ ha, hr.name]; rfl
      rw [e1, hl]
      simp only [List.cons_append, pTerm]
      rw [if_pos trivial, hw, List.take_append_of_le_length (Nat.le_refl _), List.take_length, hd, List.drop_append_of_le_length (Nat.le_refl _), List.drop_length]
      simp
    · rw [ht] at hT
      have hgd : ∀ p ∈ ps, Good d p := by rw [hT] at hg; exact hg.2
      have e1 : lineT (d + 1) t ++ r = 91 :: (join (ps.map (lineT d)) ++ 93 :: r) := by
        rw [hT]; simp only [lineT]; rw [if_neg (by decide), if_neg (by decide), if_pos trivial]; simp
      have hm : ok (rowOf (ps.map enc)) = some (enc t) := by
        unfold rowOf
        rw [List.length_map, ok_made (mem_enc fun p hp' => (hp p hp').1) (by rw [← he]; exact hi), ← he]
      rw [e1]
      simp only [pTerm]
      rw [if_neg (by decide), if_neg (by decide), if_neg (by decide), if_pos trivial, parts 93 (.inr rfl) ps hp hgd hl]
      simp only
      rw [hm]; rfl
    · rw [ht] at hT
      have hgd : ∀ p' ∈ [p], Good d p' := by rw [hT] at hg; exact hg.2
      have e1 : lineT (d + 1) t ++ r = 104 :: 40 :: (join ([p].map (lineT d)) ++ 41 :: r) := by
        rw [hT]; simp only [lineT]; rw [if_neg (by decide), if_neg (by decide), if_neg (by decide)]; simp
      have hm : kindOf 104 ([p].map enc) = some (enc t) := by
        unfold kindOf
        rw [if_pos (by simp), ok_made (by simpa using h1) (by rw [List.map_cons, List.map_nil, ← he]; exact hi), List.map_cons, List.map_nil, ← he]
      rw [e1]
      simp only [pTerm]
      rw [if_neg (by decide), if_neg (by decide), if_neg (by decide), if_neg (by decide), if_neg (by simp), List.drop_succ_cons, List.drop_zero, parts 41 (.inl rfl) [p] (by simpa using ⟨h1, h2⟩) hgd (by simp)]
      simp only
      rw [hm]; rfl
    · rw [ht] at hT
      have hgd : ∀ p' ∈ [p, q], Good d p' := by rw [hT] at hg; exact hg.2
      have e1 : lineT (d + 1) t ++ r = 109 :: 40 :: (join ([p, q].map (lineT d)) ++ 41 :: r) := by
        rw [hT]; simp only [lineT]; rw [if_neg (by decide), if_neg (by decide), if_neg (by decide)]; simp
      have hm : kindOf 109 ([p, q].map enc) = some (enc t) := by
        unfold kindOf
        rw [if_neg (by simp), if_pos (by simp), ok_made (by simpa using ⟨h1, h3⟩) (by rw [List.map_cons, List.map_cons, List.map_nil, ← he]; exact hi), List.map_cons, List.map_cons, List.map_nil, ← he]
      rw [e1]
      simp only [pTerm]
      rw [if_neg (by decide), if_neg (by decide), if_neg (by decide), if_neg (by decide), if_neg (by simp), List.drop_succ_cons, List.drop_zero, parts 41 (.inl rfl) [p, q] (by simpa using ⟨⟨h1, h2⟩, h3, h4⟩) hgd (by simp)]
      simp only
      rw [hm]; rfl
    · rw [ht] at hT
      have hgd : ∀ p' ∈ [p, q, s], Good d p' := by rw [hT] at hg; exact hg.2
      have e1 : lineT (d + 1) t ++ r = 115 :: 40 :: (join ([p, q, s].map (lineT d)) ++ 41 :: r) := by
        rw [hT]; simp only [lineT]; rw [if_neg (by decide), if_neg (by decide), if_neg (by decide)]; simp
      have hm : kindOf 115 ([p, q, s].map enc) = some (enc t) := by
        unfold kindOf
        rw [if_neg (by simp), if_neg (by simp), if_pos (by simp), ok_made (by simpa using ⟨h1, h3, h5⟩) (by rw [List.map_cons, List.map_cons, List.map_cons, List.map_nil, ← he]; exact hi), List.map_cons, List.map_cons, List.map_cons, List.map_nil, ← he]
      rw [e1]
      simp only [pTerm]
      rw [if_neg (by decide), if_neg (by decide), if_neg (by decide), if_neg (by decide), if_neg (by simp), List.drop_succ_cons, List.drop_zero, parts 41 (.inl rfl) [p, q, s] (by simpa using ⟨⟨h1, h2⟩, ⟨h3, h4⟩, h5, h6⟩) hgd (by simp)]
      simp only
      rw [hm]; rfl
end Go.Proofs.Ytpajocjepahobaa.Pl
namespace Go.Proofs.Ytpajocjepahobaa.Pl
theorem ok_some {x : List UInt8 × Nat} {t : List UInt8} (h : ok x = some t) : x.2 = 0 ∧ x.1 = t := by
  unfold ok at h
  by_cases h1 : x.2 = 0
  · rw [if_pos h1] at h; exact ⟨h1, Option.some.inj h⟩
  · rw [if_neg h1] at h; cases h
theorem map_some {x : Option (List UInt8)} {r t r' : List UInt8} (h : (x.map fun t => (t, r)) = some (t, r')) : x = some t ∧ r = r' := by
  cases x with
  | none => cases h
  | some y => simp only [Option.map_some, Option.some.injEq, Prod.mk.injEq] at h; exact ⟨congrArg some h.1, h.2⟩
theorem dataOf_ok {x t : List UInt8} (h : ok (dataOf x) = some t) : x.length ≤ 1024 ∧ t = 100 :: (encNum x.length ++ x) := by
  obtain ⟨h1, h2⟩ := ok_some h
  unfold dataOf at h1 h2
  by_cases hx : 1024 < x.length
  · rw [if_pos hx] at h1; cases h1
  · rw [if_neg hx] at h2; exact ⟨by omega, h2.symm⟩
theorem atomOf_ok {x t : List UInt8} (h : ok (atomOf x) = some t) : x.length ≤ 32 ∧ nameOk x = true ∧ t = 97 :: (encNum x.length ++ x) := by
  obtain ⟨h1, h2⟩ := ok_some h
  unfold atomOf at h1 h2
  by_cases hx : 32 < x.length
  · rw [if_pos hx] at h1; cases h1
  · rw [if_neg hx] at h1 h2
    by_cases hn : nameOk x = true
    · rw [if_pos hn] at h2; exact ⟨by omega, hn, h2.symm⟩
    · rw [if_neg hn] at h1; cases h1
theorem made_ok_some {b t : List UInt8} {l : List (List UInt8)} (h : ok (made b l) = some t) (hb : ∀ r, head (b ++ r) = .ok (b.length, l.length)) : isTm t = true ∧ tree t = .node b (l.map tree) := by
  obtain ⟨h1, h2⟩ := ok_some h
  obtain ⟨h3, h4, h5⟩ := made_fwd h1
  rw [h4] at h2
  simp only at h2
  subst h2
  exact ⟨h5, tree_parts (hb _) h3 h5⟩
theorem head_one (c : UInt8) (n : Nat) (h : (c, n) = (104, 1) ∨ (c, n) = (109, 2) ∨ (c, n) = (115, 3)) (r : List UInt8) : head ([c] ++ r) = .ok ([c].length, n) := by
  rcases h with h | h | h <;> (simp only [Prod.mk.injEq] at h; obtain ⟨rfl, rfl⟩ := h; rfl)
theorem kindOf_some {c : UInt8} {l : List (List UInt8)} {t : List UInt8} (h : kindOf c l = some t) : isTm t = true ∧ tree t = .node [c] (l.map tree) ∧ (c = 104 ∨ c = 109 ∨ c = 115) := by
  unfold kindOf at h
  split at h
  · rename_i hc; obtain ⟨rfl, hl⟩ := hc
    obtain ⟨h1, h2⟩ := made_ok_some h fun r => by rw [hl]; exact head_one _ _ (by simp) r
    exact ⟨h1, h2, by simp⟩
  · split at h
    · rename_i hc; obtain ⟨rfl, hl⟩ := hc
      obtain ⟨h1, h2⟩ := made_ok_some h fun r => by rw [hl]; exact head_one _ _ (by simp) r
      exact ⟨h1, h2, by simp⟩
    · split at h
      · rename_i hc; obtain ⟨rfl, hl⟩ := hc
        obtain ⟨h1, h2⟩ := made_ok_some h fun r => by rw [hl]; exact head_one _ _ (by simp) r
        exact ⟨h1, h2, by simp⟩
      · cases h
theorem pTerm_sound : ∀ (d : Nat) (s t r : List UInt8), pTerm d s = some (t, r) → isTm t = true ∧ s = lineT d (tree t) ++ r := by
  intro d
  induction d with
  | zero => intro s t r h; cases h
  | succ d ih =>
    intro s t r h
    cases s with
    | nil => cases h
    | cons c s =>
      simp only [pTerm] at h
      by_cases c1 : c = 36
      · rw [if_pos c1] at h
        obtain ⟨h1, h2⟩ := map_some h
        obtain ⟨a1, a2, a3⟩ := atomOf_ok h1
        obtain ⟨b1, b2⟩ := atom_term _ a1 a2
        rw [← a3] at b1 b2
        refine ⟨b1, ?_⟩
        rw [b2, a3, c1, ← h2]
        simp only [lineT]
        rw [if_neg (by decide), if_pos trivial, read_data _ (by omega), List.cons_append, List.take_append_drop]
      · rw [if_neg c1] at h
        by_cases c2 : c = 120
        · rw [if_pos c2] at h
          split at h
          · cases h
          · rename_i hev
            split at h
            · cases h
            · rename_i hpl
              obtain ⟨h1, h2⟩ := map_some h
              obtain ⟨a1, a3⟩ := dataOf_ok h1
              obtain ⟨b1, b2⟩ := data_term _ a1
              rw [← a3] at b1 b2
              refine ⟨b1, ?_⟩
              rw [b2, a3, c2, ← h2]
              simp only [lineT]
              rw [if_pos trivial, read_data _ a1, datumLine, if_neg hpl, hexs_unhex _ (by rw [List.length_take, Nat.min_eq_left (run_le _ _)]; omega) (run_all _ _), List.cons_append, List.take_append_drop]
        · rw [if_neg c2] at h
          by_cases c3 : c = 34
          · rw [if_pos c3] at h
            split at h
            · cases h
            · rename_i hq
              obtain ⟨h1, h2⟩ := map_some h
              obtain ⟨a1, a3⟩ := dataOf_ok h1
              obtain ⟨b1, b2⟩ := data_term _ a1
              rw [← a3] at b1 b2
              refine ⟨b1, ?_⟩
              have e : s = s.take (wh s) ++ 34 :: s.drop (wh s + 1) := by
                have e1 : s.drop (wh s) = 34 :: s.drop (wh s + 1) := by
                  cases hd : s.drop (wh s) with
                  | nil => rw [hd] at hq; simp at hq
                  | cons x y =>
                    rw [hd] at hq; simp at hq; subst hq
                    rw [← List.drop_drop, hd]; rfl
                rw [← e1, List.take_append_drop]
              rw [b2, a3, c3, ← h2]
              simp only [lineT]
              rw [if_pos trivial, read_data _ a1, datumLine, if_pos (wh_pln s)]
              conv => lhs; rw [e]
              simp
          · rw [if_neg c3] at h
            by_cases c4 : c = 91
            · rw [if_pos c4] at h
              split at h
              · cases h
              · rename_i l s' hp
                obtain ⟨h1, h2⟩ := map_some h
                obtain ⟨i1, i2⟩ := pParts_sound (line := fun t => lineT d (tree t)) (fun s t r hg => (ih s t r hg).2) _ _ _ _ _ hp
                obtain ⟨b1, b2⟩ := made_ok_some h1 fun r => by rw [head_row _ (by omega), if_neg (by omega)]
                refine ⟨b1, ?_⟩
                rw [if_pos rfl] at i2
                rw [b2, i2, c4, h2]
                simp only [lineT]
                rw [if_neg (by decide), if_neg (by decide), if_pos trivial, List.map_map]
                simp [Function.comp_def]
            · rw [if_neg c4] at h
              split at h
              · cases h
              · rename_i hq
                split at h
                · cases h
                · rename_i l s' hp
                  obtain ⟨h1, h2⟩ := map_some h
                  obtain ⟨i1, i2⟩ := pParts_sound (line := fun t => lineT d (tree t)) (fun s t r hg => (ih s t r hg).2) _ _ _ _ _ hp
                  obtain ⟨b1, b2, b3⟩ := kindOf_some h1
                  refine ⟨b1, ?_⟩
                  have e : s = 40 :: s.drop 1 := by
                    cases s with
                    | nil => simp at hq
                    | cons x y => simp at hq; subst hq; rfl
                  rw [if_pos rfl] at i2
                  rw [b2, e, i2, h2]
                  simp only [lineT]
                  rw [if_neg (by rcases b3 with rfl | rfl | rfl <;> decide), if_neg (by rcases b3 with rfl | rfl | rfl <;> decide), if_neg (by rcases b3 with rfl | rfl | rfl <;> decide), List.map_map]
                  simp [Function.comp_def]
/-- THE THEOREM OF STAGE 7, in plain words -/
theorem parse_back {l : List UInt8} (h : isTm l = true) : parseLine (lineT 16 (tree l)) = (l, 0) := by
  obtain ⟨-, hg, he⟩ := isTm_tree h
  have := pTerm_line 16 (tree l) hg (by rw [he]; exact h) (by rw [he]) [] (by intro c hc; cases hc)
  rw [List.append_nil, he] at this
  unfold parseLine
  rw [this]
end Go.Proofs.Ytpajocjepahobaa.Pl
